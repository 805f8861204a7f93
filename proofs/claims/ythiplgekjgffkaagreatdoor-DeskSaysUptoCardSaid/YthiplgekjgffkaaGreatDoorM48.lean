/- Great numbers told, by t -/
import Derived.Test.YthiplgekjgffkaaGreatDoorM19
import Derived.Test.YthiplgekjgffkaaGreatDoorM40
import Derived.Test.YthiplgekjgffkaaGreatDoorM25
set_option maxRecDepth 100000
set_option maxHeartbeats 99000000
set_option linter.all false
namespace Go.Proofs.YthiplgekjgffkaaGreatDoor
open Go.Proofs.Tryz
open Go.RowKit Go.Lib
def EJ(l:List Nat):ByteArray:=l.foldl (fun s n=>s++(⟨#[32]⟩++Dc.YK n)) ⟨#[111,107]⟩
theorem Oj(l:List Nat)(j:Nat)(h:j<l.length):EJ (l.take (j+1))=EJ (l.take j)++(⟨#[32]⟩++Dc.YK (l[j]'h)):=by
 unfold EJ;rw[Af h,ASg];rfl
theorem dg{n:Nat}(h:n<2^128):(Dc.YK n).size<=40:=by
 have:=Dc.T8 h;unfold Dc.YK;simp[ByteArray.size];omega
theorem Lw(l:List Nat)(hs:∀k∈l,k<2^128):∀j,j<=l.length->(EJ (l.take j)).size<=2+41*j
 |0,_=>by simp[EJ];decide
 |j+1,h=>by
  have h1:=Lw l hs j (by omega);have h2:=dg (hs _ (AL (show j<l.length by omega)));have h3:(⟨#[32]⟩:ByteArray).size=1:=rfl;rw[Oj l j (by omega)];simp only[Aq,h3];omega
structure Bw where
 A:Option Addr
 c:Nat
 l:List Bool
def Bw.v(b:Bw):Value:=.slice b.A b.l.length b.c
def Bw.ok(b:Bw)(w:World):Prop:=Reads w w.heap.size 1 b.A b.l.length (b.l.map Value.bool)/\b.l.length<=1000000
def KP(b:Bw):Nat:=JE (Bt.val b.l)
def Y9(L:List Bw):Bool:=L.any fun b=>decide (2^128<=Bt.val b.l)
def My(L:List Bw):ByteArray:=if Y9 L then FG 2 else EJ (L.map KP)
theorem nH(b:Bw)(w:World)(h:b.ok w):Calls prog 37 #[b.v] w fun e w'=>e=.returned (.tuple #[.agg #[.int .u64 (DB (KP b)),.int .u64 (DE (KP b))],.bool (!decide (2^128<=Bt.val b.l))])/\Below w.heap.size w w':=by
 unfold KP JE Bw.v;by_cases hv:Bt.val b.l<2^128
 ·rw[AD hv]
  refine(dS b.A b.l b.c w h.1 h.2 hv).mono ?_;rintro e w' ⟨rfl,hb⟩;refine⟨?_,hb⟩;have:decide (2^128<=Bt.val b.l)=false:=by simpa using hv
  rw[this];rfl
 ·rw[AC hv]
  refine(kf b.A b.l b.c w h.1 h.2 (by omega)).mono ?_;rintro e w' ⟨rfl,hb⟩;refine⟨?_,hb⟩;have:decide (2^128<=Bt.val b.l)=true:=by simpa using hv
  rw[this];rfl
theorem iE(b:Bw):KP b<2^128:=by
 unfold KP JE;split
 ·assumption
 ·decide
theorem Bw.ok.below{b:Bw}{w W:World}(h:b.ok w)(hb:Below w.heap.size w W):b.ok W:=⟨(h.1.below hb AB).more hb.size,h.2⟩
theorem kO(L:List Bw)(j:Nat)(h:j<L.length):Y9 (L.take (j+1))=(Y9 (L.take j)||decide (2^128<=Bt.val (L[j]'h).l)):=by
 unfold Y9;rw[Af h,ATR];simp
theorem UJ(A:Option Addr)(c:Nat)(L:List Bw)(hn:L.length<=10)(w:World)(hL:∀b∈L,b.ok w)(hr:Reads w w.heap.size 1 A L.length (L.map Bw.v)):
 Calls prog 38 #[.int .i64 0,.slice A L.length c] w fun e w'=>e=.returned (.string (My L))/\Below w.heap.size w w':=by
 have R:=I hr;have HL:=I hL;have HF:=I (fun w'=>El 2 (by decide) w');clear hr hL;go_in;go_wp2_with fail
 go_loopw [12,5,0] (fun iv ov ev wr=>∃j:Nat,j<=L.length/\iv=.int .i64 (j:Int)/\ov=.string (EJ ((L.map KP).take j))/\ev=.int .i64 (if Y9 (L.take j)then 2 else 0)/\Below w.heap.size w wr) (fun iv _ _ _=>L.length- (RowKit.intOf iv).toNat)
 case atStart=>exact⟨0,by omega,rfl,rfl,rfl,AA⟩
 case round=>
  obtain⟨j,hj,rfl,rfl,rfl,hb⟩:=hrel;obtain⟨wo,rfl⟩:∃wo,wo=wr:=⟨_,rfl⟩;have HB:=I hb;clear hb;by_cases DG:j<L.length
  ·obtain⟨g,off,rfl,hg,EO⟩:=(R.out.below HB.out AB).addr (by omega)
   have ZH:=EO j ((L[j]'DG).v) (by simp[DG]);have Ka:g<wo.heap.size:=AJ hg HB.out.size;have Ei:=HL.out _ (AL DG);have HN:=I (nH _ wo (Ei.below HB.out));have Tl:j<(L.map KP).length:=by simpa using DG
   have dC:=Oj (L.map KP) j Tl;have yj:=kO L j DG;have ER:=Lw (L.map KP) (fun k hk=>by
    obtain⟨b,_,rfl⟩:=BD.1 hk;exact iE b) j (by omega)
   have em:(L.map KP)[j]'Tl=KP (L[j]'DG):=by simp
   rw[em]at dC;have hfl:=iE (L[j]'DG);have h39:=dg hfl;have HT:=I (fun w'=>ji (KP (L[j]'DG)) hfl w');have h3:(⟨#[32]⟩:ByteArray).size=1:=rfl;have uH:=D9 (P:=prog) ⟨#[32]⟩ (Dc.YK (KP (L[j]'DG))) (by omega);have vy:=D9 (P:=prog) (EJ ((L.map KP).take j)) (⟨#[32]⟩++Dc.YK (KP (L[j]'DG))) (by simp only[Aq,h3];omega);have Wq:=I dC;have HSA:=I yj;have hv:(L[j]'DG).v=.slice (L[j]'DG).A (L[j]'DG).l.length (L[j]'DG).c:=rfl;rw[hv]at ZH HN;clear dC yj ER em Tl Ei EO h39 h3 hfl hv;generalize Dc.YK (KP (L[j]'DG))=tx at*;generalize EJ ((L.map KP).take j)=t1 at*;generalize KP (L[j]'DG)=fb at*;generalize decide (2^128<=Bt.val (L[j]'DG).l)=big at*
   generalize (L[j]'DG).l.length=ln at*;generalize (L[j]'DG).A=Ab at*;generalize (L[j]'DG).c=cb at*;cases xD:Y9 (L.take j)<;>cases big
   all_goals
    rw[xD]at HSA;go_wp2_with fail
    refine HN.out.mono ?_;rintro e' w2 ⟨rfl,DK⟩;have E2:=I (((AI w).below HB.out).below DK |>.lay #[.int .u64 (DB fb),.int .u64 (DE fb)] 57);clear DK;go_wp2_with fail
    refine(HT.out _).mono ?_;rintro e' w3 ⟨rfl,DT⟩;have FB:=I (E2.out.below DT).DI;clear DT;go_wp2;exact⟨⟨j+1,by omega,by simp,by rw[Wq.out],by rw[HSA.out];rfl,FB.out⟩,by simp[RowKit.intOf];omega⟩
  ·obtain rfl:j=L.length:=by omega
   have e1:(L.map KP).take L.length=L.map KP:=AY (by simp);rw[e1,Ap];cases xD:Y9 L with
   |false=>
    have HGR:=I (show My L=EJ (L.map KP)by unfold My;rw[xD];rfl);simp only[AT9,if_false];go_wp2;go_ret;exact⟨by rw[HGR.out];rfl,HB.out⟩
   |true=>
    have HGR:=I (show My L=FG 2 by unfold My;rw[xD];rfl);simp only[if_true];go_wp2_with fail
    refine(HF.out _).mono ?_;rintro e' w2 ⟨rfl,rfl⟩;go_wp2;go_ret;exact⟨by rw[HGR.out];rfl,HB.out⟩
