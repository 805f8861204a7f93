/- level -/
import Derived.Test.YthiplgekjgffkaaGreatDoorM06
import Derived.Deep.DeepCutAuto
set_option maxRecDepth 100000
set_option maxHeartbeats 99000000
set_option linter.all false
namespace Go.Proofs.YthiplgekjgffkaaGreatDoor
open Go.Proofs.Tryz
open Go.RowKit
theorem NF(cap least:Int)(A:Option Addr)(c B n:Nat)(l:List Int)(hn:l.length=n)(e:Int)(he:KC cap least l=e)(hm:n<=maxLen)(w:World)(hr:Reads w B 1 A n (DF l))(hB:B<=w.heap.size):
 Calls prog 173 #[.agg #[.int .i64 cap,.slice A n c],.int .i64 least] w fun e' w'=>e'=.returned (.int .i64 e)/\Below w.heap.size w w':=by
 have key:(Ih cap l=e/\e≠0)\/(Ih cap l=0/\wi least 1 16777216=false/\e=1)\/(Ih cap l=0/\wi least 1 16777216=true/\n=0/\e=4)\/(Ih cap l=0/\wi least 1 16777216=true/\0<n/\e=0):=by
  unfold KC at he;split at he
  ·rename_i h0
   split at he
   ·rename_i h1
    split at he
    ·exact .inr (.inr (.inl ⟨h0,h1,by omega,he.symm⟩))
    ·exact .inr (.inr (.inr ⟨h0,h1,by omega,he.symm⟩))
   ·rename_i h1
    exact .inr (.inl ⟨h0,by simpa using h1,he.symm⟩)
  ·rename_i h0
   exact .inl ⟨he,he▸h0⟩
 have HN:=I hn;have HC:=I (hr.alloc hB (.cells #[.int .i64 cap,.slice A n c] 148));have E:=I ((AI w).lay #[.int .i64 cap,.slice A n c] 148);have Rj:B<=(w.alloc (.cells #[.int .i64 cap,.slice A n c] 148)).heap.size:=by simp;omega
 clear hr hB he hn;rcases key with⟨hw,he⟩|⟨hw,h1,rfl⟩|⟨hw,h1,rfl,rfl⟩|⟨hw,h1,hz,rfl⟩
 ·have HW:=I hw
  clear hw;go_in;go_wp2_with fail
  refine(Lj _ _ _ _ _ l HN.out _ HW.out hm _ HC.out Rj).mono ?_;rintro e' w1 ⟨rfl,C6⟩;have E1:=I (E.out.below C6);clear C6 HC Rj E;have a1:=E1.out.hd.cell 1;have p0:=E1.out.hd.lt;simp at a1 p0;go_wp2;all_goals first
   |(exfalso;omega)
   |(go_ret;exact⟨rfl,E1.out.DI⟩)
 ·have HW:=I hw
  clear hw;have h2:=Fc.1 h1;clear h1;go_in;go_wp2_with fail
  refine(Lj _ _ _ _ _ l HN.out _ HW.out hm _ HC.out Rj).mono ?_;rintro e' w1 ⟨rfl,C6⟩;have E1:=I (E.out.below C6);clear C6 HC Rj E;have a1:=E1.out.hd.cell 1;have p0:=E1.out.hd.lt;simp at a1 p0;go_wp2;all_goals first
   |(exfalso;omega)
   |(go_ret;exact⟨rfl,E1.out.DI⟩)
 ·have HW:=I hw
  clear hw;obtain⟨l0,l1⟩:=DW.1 h1;clear h1;go_in;go_wp2_with fail
  refine(Lj _ _ _ _ _ l HN.out _ HW.out hm _ HC.out Rj).mono ?_;rintro e' w1 ⟨rfl,C6⟩;have E1:=I (E.out.below C6);clear C6 HC Rj E;have a1:=E1.out.hd.cell 1;have p0:=E1.out.hd.lt;simp at a1 p0;go_wp2;all_goals first
   |(exfalso;omega)
   |(go_ret;exact⟨rfl,E1.out.DI⟩)
 ·have HW:=I hw
  clear hw;obtain⟨l0,l1⟩:=DW.1 h1;clear h1;go_in;go_wp2_with fail
  refine(Lj _ _ _ _ _ l HN.out _ HW.out hm _ HC.out Rj).mono ?_;rintro e' w1 ⟨rfl,C6⟩;have E1:=I (E.out.below C6);clear C6 HC Rj E;have a1:=E1.out.hd.cell 1;have p0:=E1.out.hd.lt;simp at a1 p0;go_wp2;all_goals first
   |(exfalso;omega)
   |(go_ret;exact⟨rfl,E1.out.DI⟩)
theorem sa(A:Option Addr)(c B n:Nat)(l:List Int)(hn:l.length=n)(he:EZ l=0)(S Q:Int)(hS:s1 l=S)(hQ:s2 l=Q)(hc:n<=c)(hm:c<=maxLen)(w:World)(hr:Reads w B 1 A n (DF l))(hB:B<=w.heap.size):
 Calls prog 167 #[.slice A n c] w fun e' w'=>e'=.returned (.tuple #[.agg #[.int .i64 n,.int .i64 S,.int .i64 Q],.int .i64 0])/\Below w.heap.size w w':=by
 subst hn hS hQ;have:=ABb A c B l.length l rfl he hc hm w hr hB;rw[(xw l).1,(xw l).2]at this;exact this
theorem eV(cap least:Int)(A:Option Addr)(c B n:Nat)(l:List Int)(hn:l.length=n)(he:EZ l=0)(h1n:1<=n)(h0l:1<=least)(h1l:least<=16777216)(S Q:Int)(hS:s1 l=S)(hQ:s2 l=Q)(hc:n<=c)(hm:c<=maxLen)(w:World)(hr:Reads w B 1 A n (DF l))(hB:B<=w.heap.size):
 Calls prog 174 #[.agg #[.int .i64 cap,.slice A n c],.int .i64 least] w fun e' w'=>e'=.returned (.tuple #[.agg #[.int .i64 n,.int .i64 S,.int .i64 Q],.int .i64 (Pw n S Q least)])/\Below w.heap.size w w':=by
 have IE:Gn n S Q=0:=by have:=IZ l he;rw[hn,hS,hQ]at this;exact this
 obtain⟨g1,g2,g3,g4,g5,g6,g7,g8,g9,g10,g11,g12,g13,g14,g15,g16,g17,g18,g19⟩:=sR IE (by omega) h0l h1l;have HN:=I hn;have HE:=I he;have HS:=I hS;have HQ:=I hQ;have HM:=I (zF n least);have Wr:=I (fun w'=>Sh n S Q IE w');have HV:=I (show Pw n S Q least=if n*Q-S*S<cQ n least then cQ n least else n*Q-S*S from rfl);have E:=I ((((AI w).lay #[.int .i64 cap,.slice A n c] 148).lay #[.int .i64 0,.int .i64 0,.int .i64 0] 96));have HC:=I (((hr.alloc hB (.cells #[.int .i64 cap,.slice A n c] 148)).alloc (by simp;omega) (.cells #[.int .i64 0,.int .i64 0,.int .i64 0] 96)));have Rj:B<=((w.alloc (.cells #[.int .i64 cap,.slice A n c] 148)).alloc (.cells #[.int .i64 0,.int .i64 0,.int .i64 0] 96)).heap.size:=by simp;omega
 clear hn he hS hQ hr hB IE;go_in;go_wp2_with fail
 refine(sa _ _ _ n l HN.out HE.out S Q HS.out HQ.out hc hm _ HC.out Rj).mono ?_;rintro e' w1 ⟨rfl,C6⟩;have E1:=I ((E.out.below C6).lay #[.int .i64 n,.int .i64 S,.int .i64 Q] 96);have pw:=(E.out.below C6).hd.lt;simp at pw;clear C6 HC Rj E;go_wp2_with fail
 refine(Wr.out _).mono ?_;rintro e' w2 ⟨rfl,DK⟩;have E2:=I (E1.out.below DK);clear DK E1;have p0:=E2.out.hd.lt;have a0:=E2.out.hd.cell 0;have a1:=E2.out.hd.cell 1;have a2:=E2.out.hd.cell 2;have p1:=E2.out.tl.hd.lt;have b0:=E2.out.tl.hd.cell 0;have b1:=E2.out.tl.hd.cell 1;have b2:=E2.out.tl.hd.cell 2;have f0:=E2.out.tl.hd.frozen 0;have f1:=E2.out.tl.hd.frozen 1;have f2:=E2.out.tl.hd.frozen 2;simp at a0 a1 a2 b0 b1 b2 f0 f1 f2 p0 p1;have DY:=E2.out.DI
 go_upto_region 3 with fail
 go_region
 have AH2:wrap64 ((n:Int)*n*least*least)=cQ n least:=by
  rw[HM.out];unfold wrap64;omega
 rw[AH2,<-HV.out];have B:=(((E2.out.tl.hd.De 0 (.int .i64 n)).De 1 (.int .i64 S)).De 2 (.int .i64 Q)).drew;have DK:=(((DY.setCell (p:=⟨w.heap.size+1,0,none⟩) (by simp) (.int .i64 n)).setCell (p:=⟨w.heap.size+1,1,none⟩) (by simp) (.int .i64 S)).setCell (p:=⟨w.heap.size+1,2,none⟩) (by simp) (.int .i64 Q)).drew;simp only[Az]at B;generalize (((w2.setCell ⟨w.heap.size+1,0,none⟩ (.int .i64 n)).setCell ⟨w.heap.size+1,1,none⟩ (.int .i64 S)).setCell ⟨w.heap.size+1,2,none⟩ (.int .i64 Q)).drew=wf at B DK⊢;have c0:=B.cell 0;have c1:=B.cell 1;have c2:=B.cell 2;simp at c0 c1 c2;clear a0 a1 a2 b0 b1 b2 f0 f1 f2;go_wp2;refine AF (v:=.tuple #[.agg #[.int .i64 n,.int .i64 S,.int .i64 Q],.int .i64 (Pw n S Q least)]) (by simp[results,results174,go_sem,c0,c1,c2]) rfl ⟨rfl,DK⟩
