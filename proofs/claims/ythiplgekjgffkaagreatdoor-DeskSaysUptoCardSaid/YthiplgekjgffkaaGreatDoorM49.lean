/- What great numbers come -/
import Derived.Test.YthiplgekjgffkaaGreatDoorM48
import Derived.Test.YthiplgekjgffkaaGreatDoorM47
set_option maxRecDepth 100000
set_option maxHeartbeats 99000000
set_option linter.all false
namespace Go.Proofs.YthiplgekjgffkaaGreatDoor
open Go.Proofs.Tryz
open Go.RowKit Go.Lib
theorem Q0(a b:Nat)(ha:a<2^128):∃k:Int,Rt.OD a b k:=by
 by_cases h:b<=a/\0<b
 ·have key:∀n:Nat,(∃k:Int,Rt.OD a b k)\/b*2^n<=a:=by
   intro n;induction n with
   |zero=>exact .inr (by simpa using h.1)
   |succ n ih=>
    rcases ih with h1|h1
    ·exact .inl h1
    ·by_cases h2:b*2^(n+1)<=a
     ·exact .inr h2
     ·exact .inl ⟨(n:Int),.inr ⟨n,rfl,h.2,h1,by omega⟩⟩
  rcases key 128 with h1|h1
  ·exact h1
  ·have:2^128<=b*2^128:=Nat.le_mul_of_pos_left _ h.2
   omega
 ·exact⟨-1,.inl ⟨rfl,by omega⟩⟩
def Om(n:Nat):ByteArray:=if n<2^128 then EJ [n]else FG 2
theorem dM(b:Bw):My [b]=Om (Bt.val b.l):=by
 unfold My Om Y9;by_cases h:Bt.val b.l<2^128
 ·have e:decide (2^128<=Bt.val b.l)=false:=by simpa using h
  simp[ATF,e,h,KP,JE]
 ·have e:decide (2^128<=Bt.val b.l)=true:=by simpa using h
  simp[ATF,e,h]
theorem fo{a b:Bw}(ha:Bt.val a.l<2^128)(hb:Bt.val b.l<2^128):My [a,b]=EJ [Bt.val a.l,Bt.val b.l]:=by
 have e1:decide (2^128<=Bt.val a.l)=false:=by simpa using ha
 have e2:decide (2^128<=Bt.val b.l)=false:=by simpa using hb
 unfold My Y9;simp[ATF,e1,e2,KP,JE,ha,hb]
theorem JU(w:World)(t:TypeId)(l:List Value):Reads (w.alloc (.cells l.toArray t)) (w.alloc (.cells l.toArray t)).heap.size 1 (some ⟨w.heap.size,0,none⟩) l.length l:=by
 refine⟨by simp,fun _=>⟨_,rfl,by simp,fun j u hj=>?_⟩⟩;have e:(⟨w.heap.size,0,none⟩:Addr).add j=⟨w.heap.size,j,none⟩:=by rcases j with _|j<;>simp[Addr.add]
 rw[e,(DJ.new w t l.toArray).cell j]
 simpa using hj
theorem Mq(A:Option Addr)(c:Nat)(l:List Bool)(n:Nat)(hn:Bt.val l=n)(t:TypeId)(w:World)(hr:Reads w w.heap.size 1 A l.length (l.map Value.bool))(hl:l.length<=1000000):
 Calls prog 38 #[.int .i64 0,.slice (some ⟨w.heap.size,0,none⟩) 1 1] (w.alloc (.cells #[.slice A l.length c] t)) fun e w'=>e=.returned (.string (Om n))/\Below w.heap.size w w':=by
 have hb:=(AQ w.heap.size w).alloc AB (.cells #[.slice A l.length c] t);refine(UJ _ 1 [⟨A,c,l⟩] (by simp) _ (fun b h=>?_) (JU w t [.slice A l.length c])).mono ?_
 ·rw[Ai.1 h]
  exact Bw.ok.below (w:=w) ⟨hr,hl⟩ hb
 ·rintro e w' ⟨rfl,h⟩
  exact⟨by rw[dM,hn],Below.C9 hb h⟩
theorem gN(A B:Option Addr)(c d:Nat)(l m:List Bool)(n k:Nat)(hn:Bt.val l=n)(hk:Bt.val m=k)(n1:n<2^128)(k1:k<2^128)(t:TypeId)(w:World)(hr:Reads w w.heap.size 1 A l.length (l.map Value.bool))(hs:Reads w w.heap.size 1 B m.length (m.map Value.bool))(hl:l.length<=1000000)(hm:m.length<=1000000):
 Calls prog 38 #[.int .i64 0,.slice (some ⟨w.heap.size,0,none⟩) 2 2] (w.alloc (.cells #[.slice A l.length c,.slice B m.length d] t)) fun e w'=>e=.returned (.string (EJ [n,k]))/\Below w.heap.size w w':=by
 have hb:=(AQ w.heap.size w).alloc AB (.cells #[.slice A l.length c,.slice B m.length d] t);refine(UJ _ 2 [⟨A,c,l⟩,⟨B,d,m⟩] (by simp) _ (fun b h=>?_) (JU w t [.slice A l.length c,.slice B m.length d])).mono ?_
 ·rcases AR.1 h with rfl|h
  ·exact Bw.ok.below (w:=w) ⟨hr,hl⟩ hb
  ·rw[Ai.1 h]
   exact Bw.ok.below (w:=w) ⟨hs,hm⟩ hb
 ·rintro e w' ⟨rfl,h⟩
  exact⟨by rw[fo (by rw[hn];exact n1) (by rw[hk];exact k1),hn,hk],Below.C9 hb h⟩
def Ex(l:List Nat):List Value:=l.flatMap fun n=>[.int .u64 (DB n),.int .u64 (DE n)]
def Hf(wd:ByteArray)(a b:Nat):ByteArray:=
 if wd=⟨#[115,117,109]⟩then Om (a+b)else if wd=⟨#[108,101,115,115]⟩then (if a<b then FG 7 else EJ [a-b])else if wd=⟨#[116,105,109,101,115]⟩then Om (a*b)
 else if b=0 then FG 6 else if wd=⟨#[100,105,118]⟩then EJ [a/b,a%b]else if a<b then FG 4 else Gc [Nat.log2 (a/b)]
theorem bx(a r:Nat)(ha:a<2^128)(hr:Rt.Mo a r)(A:Option Addr)(c n:Nat)(hn:0<n)(xs:List Value)(w:World)(hg:Reads w w.heap.size 2 A n (Ex [a]++xs)):
 Calls prog 16 #[.string ⟨#[114,111,111,116]⟩,.slice A n c] w fun e w'=>e=.returned (.string (Om r))/\Below w.heap.size w w':=by
 obtain⟨g,off,rfl,He,EO⟩:=hg.U9 hn (by decide);have c0:=EO 0 (.int .u64 (DB a)) rfl;have c1:=EO 1 (.int .u64 (DE a)) rfl;simp only[AW]at c0;have hrl:=Rt.Yg hr ha;have HB:=I (Fv a ha w);have HR:=I (fun w'=>qe a r ha hr w');have HL:=I (fun w'=>iU r hrl w');have HV:=I (Bt.FL r);have HN:=I (show(Bt.bits r).length<=128 by rw[Bt.Ez];exact Bt.Ew (by omega));generalize DB a=ah at*;generalize DE a=al at*;have Hc:(0:Int)<(n:Int):=by omega
 clear hg EO ha hr;go_in;go_wp2_with fail
 refine HB.out.mono ?_;rintro e' w1 ⟨A1,k1,l1,rfl,-,-,C6⟩;have B1:=I C6;have d0:=(B1.out.cell He).trans c0;have d1:=(B1.out.cell He).trans c1;have XL:g<w1.heap.size:=AJ He B1.out.size;clear C6;go_wp2_with fail
 refine(HR.out w1).mono ?_;rintro e' w2 ⟨rfl,DK⟩;have B2:=I (Below.C9 B1.out DK);clear DK;go_wp2_with fail
 refine(HL.out w2).mono ?_;rintro e' w3 ⟨A3,k3,l3,rfl,rfl,JN,DT⟩;have B3:=I (Below.C9 B2.out DT);have HG:=I (fun t=>Mq A3 k3 _ r HV.out t w3 (Reads.DR JN) (by have:=HN.out;omega));clear DT JN;go_wp2_with fail
 refine(HG.out _).mono ?_;rintro e' w4 ⟨rfl,EL⟩;have B4:=I (Below.C9 B3.out EL);clear EL;go_wp2;go_ret;exact⟨rfl,B4.out⟩
theorem ku(a b:Nat):Hf ⟨#[115,117,109]⟩ a b=Om (a+b):=by unfold Hf;rw[AD rfl]
theorem WB(a b:Nat):Hf ⟨#[108,101,115,115]⟩ a b=if a<b then FG 7 else EJ [a-b]:=by unfold Hf;rw[AC (by simp),AD rfl]
theorem Zz(a b:Nat):Hf ⟨#[116,105,109,101,115]⟩ a b=Om (a*b):=by unfold Hf;rw[AC (by simp),AC (by simp),AD rfl]
theorem Xx(a b:Nat):Hf ⟨#[100,105,118]⟩ a b=if b=0 then FG 6 else EJ [a/b,a%b]:=by unfold Hf;rw[AC (by simp),AC (by simp),AC (by simp),AD rfl]
theorem Oz(a b:Nat):Hf ⟨#[104,97,108,118,101]⟩ a b=if b=0 then FG 6 else if a<b then FG 4 else Gc [Nat.log2 (a/b)]:=by unfold Hf;rw[AC (by simp),AC (by simp),AC (by simp)];simp only[show((⟨#[104,97,108,118,101]⟩:ByteArray)=⟨#[100,105,118]⟩)↔False by simp,if_false]
def ag(s:ByteArray):Prop:=s=⟨#[115,117,109]⟩\/s=⟨#[108,101,115,115]⟩\/s=⟨#[116,105,109,101,115]⟩\/s=⟨#[100,105,118]⟩\/s=⟨#[104,97,108,118,101]⟩
theorem Z1{a b:Nat}{k:Int}(h:Rt.OD a b k)(h0:b≠0)(m8:¬a<b):k=(Nat.log2 (a/b):Nat):=by
 rcases h with⟨-,h⟩|⟨n,rfl,hb,h1,h2⟩
 ·omega
 ·have e1:2^n<=a/b:=(ATB hb).2 (by rw[AZ];exact h1)
  have e2:a/b<2^(n+1):=Nat.div_lt_of_lt_mul h2;have e3:a/b≠0:=by have:=Bi n;omega
  have:=(Nat.log2_eq_iff e3).2 ⟨e1,e2⟩;rw[this]
theorem ea(wd:ByteArray)(hw:ag wd)(a b:Nat)(ha:a<2^128)(hb:b<2^128)(A:Option Addr)(c:Nat)(w:World)(hg:Reads w w.heap.size 2 A 2 (Ex [a,b])):
 Calls prog 16 #[.string wd,.slice A 2 c] w fun e w'=>e=.returned (.string (Hf wd a b))/\Below w.heap.size w w':=by
 obtain⟨g,off,rfl,He,EO⟩:=hg.U9 (by omega) (by decide);have c0:=EO 0 (.int .u64 (DB a)) rfl;have c1:=EO 1 (.int .u64 (DE a)) rfl;have c2:=EO 2 (.int .u64 (DB b)) rfl;have c3:=EO 3 (.int .u64 (DE b)) rfl;simp only[AW]at c0;have HA:=I (Fv a ha w);have HB:=I (fun w'=>Fv b hb w');have HH:=I (fun k hk w'=>cX a b k ha hb hk w');have EH:=I (Q0 a b ha);have HF:=I (fun k (hk:k<100) w'=>El k hk w');have LA:=I (show(Bt.bits a).length<=128 by rw[Bt.Ez];exact Bt.Ew ha);have LB:=I (show(Bt.bits b).length<=128/\(b=0↔(Bt.bits b).length=0)by
  refine⟨by rw[Bt.Ez];exact Bt.Ew hb,fun h=>by rw[h,Bt.Ez,Bt.Gz],fun h=>?_⟩;rcases Ac b with h0|h0
  ·exact h0
  ·rw[Bt.Ez,Bt.Hp _ h0]at h;omega)
 have VA:=I (Bt.FL a);have VB:=I (Bt.FL b);have HW:=I hw;have HS:=I (show a<2^128/\b<2^128 from⟨ha,hb⟩);have hnr:(wd.toList== [114,111,111,116])=false:=by
  rcases hw with rfl|rfl|rfl|rfl|rfl<;>decide+kernel
 generalize DB a=ah at*;generalize DE a=al at*;generalize DB b=bh at*;generalize DE b=bl at*;clear hg EO ha hb hw;go_in;go_wp2_with fail
 refine HA.out.mono ?_;rintro e' w1 ⟨A1,k1,l1,rfl,rfl,VJ,C6⟩;have B1:=I C6;have R1:=I (Reads.DR VJ);have d2:=(B1.out.cell He).trans c2;have d3:=(B1.out.cell He).trans c3;have XL:g<w1.heap.size:=AJ He B1.out.size;clear C6 VJ;go_wp2_with fail
 refine(HB.out w1).mono ?_;rintro e' w2 ⟨A2,k2,l2,rfl,rfl,WL,DK⟩;have B2:=I (Below.C9 B1.out DK);have R2:=I (Reads.DR WL);have Q2:=I ((R1.out.below DK AB).more DK.size);have f0:=(B2.out.cell He).trans c0;have f1:=(B2.out.cell He).trans c1;have f2:=(B2.out.cell He).trans c2;have f3:=(B2.out.cell He).trans c3;have Ka:g<w2.heap.size:=AJ He B2.out.size;clear DK WL R1 d2 d3 c0 c1 c2 c3;rcases HW.out with rfl|rfl|rfl|rfl|rfl
 ·have EW:=I (ku a b)
  have HP:=I (Of A1 A2 _ _ k1 k2 w2 Q2.out R2.out (by have:=LA.out;omega) (by have:=LB.out.1;omega));go_wp2_with fail
  refine HP.out.mono ?_;rintro e' w3 ⟨A3,k3,l3,rfl,⟨hv,-,hl,-⟩,JN,DT⟩;have B3:=I (Below.C9 B2.out DT);have HG:=I (fun t=>Mq A3 k3 l3 (a+b) (by rw[hv,VA.out,VB.out]) t w3 (Reads.DR JN) (by have:=LA.out;have:=LB.out.1;omega));clear DT JN hv hl;go_wp2_with fail
  refine(HG.out _).mono ?_;rintro e' w4 ⟨rfl,EL⟩;have B4:=I (Below.C9 B3.out EL);clear EL;go_wp2;go_ret;exact⟨by rw[EW.out];rfl,B4.out⟩
 ·
  have HO:=I (Rb A1 A2 _ _ k1 k2 _ a b w2 Q2.out R2.out (by have:=LA.out;omega) (by have:=LB.out.1;omega) VA.out VB.out);by_cases DG:a<b
  ·have e1:GU a b<0:=by unfold GU;rw[AD DG];decide
   generalize GU a b=cm at*;have EW:=I (show Hf _ a b=FG 7 by rw[WB,AD DG]);go_wp2_with fail
   refine HO.out.mono ?_;rintro e' w3 ⟨rfl,rfl⟩;go_wp2_with fail
   refine(HF.out 7 (by decide) _).mono ?_;rintro e' w3 ⟨rfl,rfl⟩;go_wp2;go_ret;exact⟨by rw[EW.out];rfl,B2.out⟩
  ·have e1:¬GU a b<0:=by unfold GU;rw[AC DG];split<;>decide+kernel
   generalize GU a b=cm at*;have EW:=I (show Hf _ a b=Om (a-b)by rw[WB,AC DG];unfold Om;rw[AD (by have:=HS.out.1;omega)]);have HP:=I (Wx A1 A2 _ _ k1 k2 w2 Q2.out R2.out (by have:=LA.out;omega) (by have:=LB.out.1;omega) (by rw[VA.out,VB.out];omega));go_wp2_with fail
   refine HO.out.mono ?_;rintro e' w3 ⟨rfl,rfl⟩;go_wp2_with fail
   refine HP.out.mono ?_;rintro e' w3 ⟨A3,k3,l3,rfl,⟨hl,hv⟩,JN,DT⟩;have B3:=I (Below.C9 B2.out DT);have HG:=I (fun t=>Mq A3 k3 l3 (a-b) (by rw[hv,VA.out,VB.out]) t w3 (Reads.DR JN) (by have:=LA.out;omega));clear DT JN hv hl;go_wp2_with fail
   refine(HG.out _).mono ?_;rintro e' w4 ⟨rfl,EL⟩;have B4:=I (Below.C9 B3.out EL);clear EL;go_wp2;go_ret;exact⟨by rw[EW.out];rfl,B4.out⟩
 ·have EW:=I (Zz a b)
  have HP:=I (LN A1 A2 _ _ k1 k2 w2 Q2.out R2.out (by have:=LA.out;omega) (by have:=LB.out.1;omega));go_wp2_with fail
  refine HP.out.mono ?_;rintro e' w3 ⟨A3,k3,l3,rfl,⟨hv,hl,-⟩,JN,DT⟩;have B3:=I (Below.C9 B2.out DT);have HG:=I (fun t=>Mq A3 k3 l3 (a*b) (by rw[hv,Ap,VA.out,VB.out]) t w3 (Reads.DR JN) (by have:=LA.out;have:=LB.out.1;omega));clear DT JN hv hl;go_wp2_with fail
  refine(HG.out _).mono ?_;rintro e' w4 ⟨rfl,EL⟩;have B4:=I (Below.C9 B3.out EL);clear EL;go_wp2;go_ret;exact⟨by rw[EW.out];rfl,B4.out⟩
 all_goals
  by_cases hz:b=0
  ·have FZ:(((Bt.bits b).length:Int)==0)=true:=by have:=LB.out.2.1 hz;simp[this]
   have EW:=I (show Hf ⟨#[100,105,118]⟩ a b=FG 6/\Hf ⟨#[104,97,108,118,101]⟩ a b=FG 6 from⟨by rw[Xx,AD hz],by rw[Oz,AD hz]⟩);generalize (Bt.bits b).length=n2 at*;go_wp2_with fail
   refine(HF.out 6 (by decide) _).mono ?_;rintro e' w3 ⟨rfl,rfl⟩;go_wp2;go_ret;exact⟨by first|rw[EW.out.1];rfl|rw[EW.out.2];rfl,B2.out⟩
  have FZ:(((Bt.bits b).length:Int)==0)=false:=by
   simp only[CV,ne_eq,Int.natCast_eq_zero];exact fun h=>hz (LB.out.2.2 h)
 ·have EW:=I (show Hf _ a b=EJ [a/b,a%b]by rw[Xx,AC hz])
  have HP:=I (qx A1 A2 _ _ k1 k2 w2 Q2.out R2.out (by have:=LA.out;omega) (by have:=LB.out.1;omega) (by rw[VB.out];omega));generalize Jw:(Bt.bits b).length=n2 at*;go_wp2_with fail
  refine HP.out.mono ?_;rintro e' w3 ⟨A3,k3,k4,O3,L3,rfl,dq,qm,Y5,nP,JN,Tp,DT⟩;have B3:=I (Below.C9 B2.out DT);have HG:=I (fun t=>gN _ A3 k3 k4 O3 L3 (a/b) (a%b) (by rw[dq,VA.out,VB.out]) (by rw[qm,VA.out,VB.out]) (Bk (Bu _ _) HS.out.1) (Bk (Nat.mod_le _ _) HS.out.1) t w3 JN Tp (by have:=LA.out;omega) (by have:=LA.out;omega));clear DT JN Tp dq qm Y5 nP;go_wp2_with fail
  refine(HG.out _).mono ?_;rintro e' w4 ⟨rfl,EL⟩;have B4:=I (Below.C9 B3.out EL);clear EL;go_wp2;go_ret;exact⟨by rw[EW.out];rfl,B4.out⟩
 ·obtain⟨k,hk⟩:=EH.out
  have HC:=I (fun w'=>HH.out k hk w');have HN:=I (show¬a<b->k=(Nat.log2 (a/b):Nat)from Z1 hk hz);have HNE:=I (show a<b->k= -1 from Jd hk);have Rp:=I (show∀w',Below w2.heap.size w2 w'->(Below w2.heap.size w2 w'/\w'.cell? ⟨g,off,none⟩=some (.int .u64 ah)/\w'.cell? ⟨g,off+1,none⟩=some (.int .u64 al)/\w'.cell? ⟨g,off+2,none⟩=some (.int .u64 bh)/\w'.cell? ⟨g,off+3,none⟩=some (.int .u64 bl))from fun w' h=>⟨h,(h.cell Ka).trans f0,(h.cell Ka).trans f1,(h.cell Ka).trans f2,(h.cell Ka).trans f3⟩);clear hk;generalize Jw:(Bt.bits b).length=n2 at*
  go_upto_region 19 with fail
  go_cut [9] (fun s9 wx=>s9=.int .i64 k/\Below w2.heap.size w2 wx)
  case first=>
   go_region_held3 (fun w'=>Below w2.heap.size w2 w'/\w'.cell? ⟨g,off,none⟩=some (.int .u64 ah)/\w'.cell? ⟨g,off+1,none⟩=some (.int .u64 al)/\w'.cell? ⟨g,off+2,none⟩=some (.int .u64 bh)/\w'.cell? ⟨g,off+3,none⟩=some (.int .u64 bl))
    ((refine Rp.out _ ?_;repeat (with_reducible first|exact NI|exact AA|refine AE ?_)))
    ((go_at_call 43;(with_reducible refine(HC.out _).mono ?_);rintro e' w3 ⟨rfl,DT⟩;have NI:Below w2.heap.size w2 w3:=Below.Ej (by repeat (with_reducible first|exact AA|refine AE ?_)) DT;clear DT))
   all_goals
    rename_i hheld;have DY:=hheld.1;clear hheld Rp;go_wp2_with fail
    go_meet
    exact⟨rfl,DY⟩
  case rest=>
   obtain⟨rfl,DY⟩:=hcut;obtain⟨w3,rfl⟩:∃w3,w3=wc:=⟨_,rfl⟩;have B3:=I (Below.C9 B2.out DY);clear DY f0 f1 f2 f3;by_cases DG:a<b
   ·obtain rfl:=HNE.out DG
    have EW:=I (show Hf _ a b=FG 4 by rw[Oz,AC hz,AD DG]);go_wp2_with fail
    refine(HF.out 4 (by decide) _).mono ?_;rintro e' w3 ⟨rfl,rfl⟩;go_wp2;go_ret;exact⟨by rw[EW.out];rfl,B3.out⟩
   ·obtain rfl:=HN.out DG
    have EW:=I (show Hf _ a b=Gc [Nat.log2 (a/b)]by rw[Oz,AC hz,AC DG]);have HT:=I (fun t=>Up (some ⟨w3.heap.size,0,none⟩) 1 1 [Nat.log2 (a/b)] rfl (by decide) (by
     intro q hq;rw[Ai.1 hq];have:=HS.out.1;have h1:a/b<=a:=Bu _ _;have h3:Nat.log2 (a/b)<128:=(Nat.log2_lt (by
      have:=Nat.div_pos (show b<=a by omega) (by omega);omega)).2 (by omega)
     omega) _ (JU w3 t [.int .i64 (Nat.log2 (a/b):Nat)]))
    have bj:¬((Nat.log2 (a/b):Nat):Int)<0:=by omega
    generalize Nat.log2 (a/b)=k at*;go_wp2_with fail
    refine(HT.out _).mono ?_;rintro e' w4 ⟨rfl,rfl⟩;have B4:=I (B3.out.alloc B3.out.size (.cells #[.int .i64 (k:Int)] 3));go_wp2;go_ret;exact⟨by rw[EW.out];rfl,B4.out⟩
