/- What the walks of this s -/
import Derived.Test.YthiplgekjgffkaaGreatDoorM03
import Derived.Test.YthiplgekjgffkaaGreatDoorM01
import Derived.BigQuiet
import Derived.WalkSpells
import Derived.WalkLawsBesides
import Derived.Deep.RegionHeld3
set_option maxRecDepth 100000
set_option maxHeartbeats 99000000
set_option linter.all false
namespace Go.Proofs.YthiplgekjgffkaaGreatDoor
def AS0:=@Go.Lib.run_eql_slice_nil
def AS9:=@Go.WideMaps.keyOf_string_mk
def AUA:=@Go.Maps.string_keyed
def AUS:=@Go.Maps.atKey_put_other
open Go.Proofs.Tryz
open Go.RowKit
def DB(n:Nat):Int:=((n/18446744073709551616:Nat):Int)
def DE(n:Nat):Int:=((n%18446744073709551616:Nat):Int)
theorem cB(m:Nat):DB m/2=DB (m/2):=by unfold DB;omega
theorem bT(m:Nat):DE m/2+DB m%2*9223372036854775808=DE (m/2):=by unfold DB DE;omega
theorem vw(m:Nat):(DE m%2==1)=(m%2==1):=by
 rw[ATj,CF,CF];unfold DE;omega
theorem Wc{m:Nat}(h:DB m=0)(h':DE m=0):m=0:=by unfold DB at h;unfold DE at h';omega
theorem Eo(m:Nat)(h:m<2^128):0<=DB m/\DB m<=18446744073709551615:=by unfold DB;omega
theorem Fy(m:Nat):0<=DE m/\DE m<=18446744073709551615:=by unfold DE;omega
def DF(l:List Int):List Value:=l.map fun x=>.int .i64 x
theorem Fp(l:List Int)(k:Nat)(h:k<l.length):(DF l)[k]? =some (.int .i64 (l.getD k 0)):=by
 simp[DF,List.getD,AU h]
theorem Xp{p:Int->Bool}{xs:List Int}{j:Nat}(h:(xs.take j).any p=true):xs.any p=true:=by
 rw[ATE]at h⊢;obtain⟨x,hx,hp⟩:=h;exact⟨x,Be hx,hp⟩
theorem Xh{p:Int->Bool}{xs:List Int}{k:Nat}(hk:k<xs.length)(h:(xs.take k).any p=false):(xs.take (k+1)).any p=p (xs.getD k 0):=by
 rw[ASy,ATR,h,AU hk];simp[By,hk]
def rB(b:Bool)(w:World)(e:Ending)(w':World):Prop:=∃k:Int,(decide (0<=k)=b)/\e=.returned (.int .i64 k)/\w=w'
namespace Dc
def I3(n:Nat):List Nat:=if n<10 then [n]else (n%10)::I3 (n/10)
termination_by n
decreasing_by omega
theorem Gs{n:Nat}(h:n<10):I3 n=[n]:=by rw[I3,AD h]
theorem Kq{n:Nat}(h:10<=n):I3 n=(n%10)::I3 (n/10):=by rw[I3,AC (by omega)]
theorem Zb{p:Nat->Prop}(h1:∀n,n<10->p n)(h2:∀n,10<=n->p (n/10)->p n):∀n,p n:=by
 intro n;induction n using Nat.strongRecOn with
 |_ n ih=>
  by_cases h:n<10
  ·exact h1 n h
  ·exact h2 n (by omega) (ih (n/10) (by omega))
theorem iw:∀n,∀d∈I3 n,d<10:=by
 refine Zb (fun n h=>?_) (fun n h ih=>?_)
 ·rw[Gs h];intro d hd;obtain rfl:=Ai.1 hd;exact h
 ·rw[Kq h]
  intro d hd;rcases AR.1 hd with rfl|hd
  ·omega
  ·exact ih d hd
theorem Yp(n:Nat):1<=(I3 n).length:=by
 by_cases h:n<10
 ·rw[Gs h];simp
 ·rw[Kq (by omega)];simp
theorem bk:∀(k n:Nat),n<10^(k+1)->(I3 n).length<=k+1
 |0,n,h=>by rw[Gs (by simpa using h)];simp
 |k+1,n,h=>by
  by_cases h1:n<10
  ·rw[Gs h1];simp
  ·rw[Kq (by omega),AP]
   have:=bk k (n/10) (by rw[Ar]at h;omega);omega
theorem T8{n:Nat}(h:n<2^128):(I3 n).length<=39:=bk 38 n (AJ h (by decide))
def Ro:Nat->List Nat->List Nat×Nat
 |c,[]=>([],c)
 |c,d::ds=>((2*d+c)%10::(Ro ((2*d+c)/10) ds).1,(Ro ((2*d+c)/10) ds).2)
theorem Qr:∀(c:Nat)(ds:List Nat),(Ro c ds).1.length=ds.length
 |_,[]=>rfl
 |c,d::ds=>by simp[Ro,Qr]
theorem WG:∀(c:Nat)(ds:List Nat)(d:Nat),Ro c (ds++[d])=((Ro c ds).1++[(2*d+(Ro c ds).2)%10],(2*d+(Ro c ds).2)/10)
 |c,[],d=>by simp[Ro]
 |c,e::ds,d=>by simp[Ro,WG]
theorem SI:∀(c:Nat)(ds:List Nat),c<=1->(∀d∈ds,d<10)->(Ro c ds).2<=1
 |c,[],h,_=>h
 |c,d::ds,h,hd=>SI _ ds (by have:=hd d (Ay ..);omega) fun e he=>hd e (Am _ he)
def aS(c:Nat):List Nat:=if 0<c then [c]else []
theorem nY:∀n,∀c,c<=1->(Ro c (I3 n)).1++aS (Ro c (I3 n)).2=I3 (2*n+c):=by
 refine Zb (fun n h c hc=>?_) (fun n h ih c hc=>?_)
 ·rw[Gs h]
  simp only[Ro];by_cases h1:2*n+c<10
  ·rw[Gs h1]
   unfold aS;rw[AC (by omega),B8 h1];rfl
  ·rw[Kq (by omega),Gs (by omega:(2*n+c)/10<10)]
   unfold aS;rw[AD (by omega)];rfl
 ·rw[Kq h,Kq (by omega:10<=2*n+c)]
  have h1:=ih ((2*(n%10)+c)/10) (by omega);simp only[Ro,Cg];rw[h1,show(2*(n%10)+c)%10=(2*n+c)%10 by omega,show 2*(n/10)+(2*(n%10)+c)/10=(2*n+c)/10 by omega]
def half(c:Nat)(ds:List Nat)(k:Nat):List Nat:=(Ro c (ds.take k)).1++ds.drop k
theorem lV(c:Nat)(ds:List Nat):half c ds 0=ds:=by simp[half,Ro]
theorem ar(c:Nat)(ds:List Nat)(k:Nat)(hk:k<=ds.length):(half c ds k).length=ds.length:=by simp[half,Qr];omega
theorem uG(c:Nat)(ds:List Nat)(k:Nat)(hk:k<ds.length):(half c ds k).getD k 0=ds.getD k 0:=by
 unfold half;have hl:(Ro c (ds.take k)).1.length=k:=by rw[Qr,AV];omega
 simp only[List.getD];rw[ASz (by omega),hl,ATS,ATD,AW]
theorem QG(ds:List Nat)(k:Nat)(hk:k<ds.length):ds.take (k+1)=ds.take k++[ds.getD k 0]:=by
 rw[Af hk];simp[List.getD,hk]
theorem jV(c:Nat)(ds:List Nat)(k:Nat)(hk:k<ds.length):half c ds (k+1)=(half c ds k).set k ((2*ds.getD k 0+(Ro c (ds.take k)).2)%10):=by
 unfold half;have hl:(Ro c (ds.take k)).1.length=k:=by rw[Qr,AV];omega
 rw[QG ds k hk,WG,ATT _ _ (by omega),hl,ATS,Bz hk,ATU,Cs];rfl
theorem fR(c:Nat)(ds:List Nat)(k:Nat)(hk:k<ds.length):(Ro c (ds.take (k+1))).2=(2*ds.getD k 0+(Ro c (ds.take k)).2)/10:=by
 rw[QG ds k hk,WG]
theorem jn(c:Nat)(ds:List Nat):half c ds ds.length=(Ro c ds).1:=by simp[half]
def ch(d:Nat):UInt8:=UInt8.ofNat (48+d)
def YK(n:Nat):ByteArray:=⟨((I3 n).reverse.map ch).toArray⟩
def Ep(l:List UInt8):Nat:=l.foldl (fun v b=>10*v+(b.toNat- 48)) 0
def TD(b:UInt8):Bool:=decide (48<=b.toNat)&&decide (b.toNat<=57)
theorem Pa(l:List UInt8)(b:UInt8):Ep (l++[b])=10*Ep l+(b.toNat- 48):=by simp[Ep]
theorem XV(l:List UInt8)(k:Nat)(h:k<l.length):Ep (l.take (k+1))=10*Ep (l.take k)+((l[k]).toNat- 48):=by
 rw[Af h,Pa]
theorem XY(l:List UInt8)(j k:Nat)(VD:j<=k)(hk:k<=l.length):Ep (l.take j)<=Ep (l.take k):=by
 induction k with
 |zero=>obtain rfl:j=0:=by omega
        exact AB
 |succ k ih=>
  by_cases h:j=k+1
  ·subst h;exact AB
  ·have:=ih (by omega) (by omega)
   rw[XV l k (by omega)];omega
theorem Zf{α:Type}{p:List α->Prop}(h0:p [])(h1:∀l a,p l->p (l++[a]))(l:List α):p l:=by
 have:∀m:List α,p m.reverse:=by
  intro m;induction m with
  |nil=>exact h0
  |cons a m ih=>rw[List.reverse_cons];exact h1 _ _ ih
 have h:=this l.reverse
 rwa [List.reverse_reverse]at h
theorem sb(l m:List UInt8):Ep (l++m)=Ep l*10^m.length+Ep m:=by
 refine Zf (p:=fun m=>Ep (l++m)=Ep l*10^m.length+Ep m) (by simp[Ep]) (fun m b ih=>?_) m
 ·rw[<-Cs,Pa,ih,Pa,AN,BJ,Ar]
  rw[BM,Bv,AZ 10 (Ep l*10^m.length),Bd]
theorem Qz(l:List UInt8)(h:∀b∈l,TD b=true):Ep l<10^l.length:=by
 revert h;refine Zf (p:=fun l=>(∀b∈l,TD b=true)->Ep l<10^l.length) (by simp[Ep]) (fun l b ih h=>?_) l
 ·have h1:=ih fun x hx=>h x (List.mem_append_left _ hx)
  have h2:=h b (by simp);simp[TD]at h2;rw[Pa,AN,BJ,Ar];omega
theorem MV(b:UInt8)(l:List UInt8):Ep (b::l)=(b.toNat- 48)*10^l.length+Ep l:=by
 have:=sb [b] l
 simpa [Ep] using this
theorem tf(b:UInt8)(l:List UInt8)(hb:TD b=true)(h0:b.toNat≠48):10^l.length<=Ep (b::l):=by
 rw[MV];simp[TD]at hb;have:=BU (10^l.length) (show 1<=b.toNat- 48 by omega);omega
theorem XG:∀(l m:List UInt8),l.length=m.length->(∀b∈l,TD b=true)->(∀b∈m,TD b=true)->(Op.bytesLess l m=true↔Ep l<Ep m)
 | [],[],_,_,_=>by simp[Ep,Op.bytesLess]
 |a::l,b::m,hlen,hl,hm=>by
  have ih:=XG l m (by simpa using hlen) (fun x hx=>hl x (Am _ hx)) (fun x hx=>hm x (Am _ hx));have ha:=hl a (Ay ..);have hb:=hm b (Ay ..);have h1:=Qz l fun x hx=>hl x (Am _ hx);have h2:=Qz m fun x hx=>hm x (Am _ hx);have XS:l.length=m.length:=by simpa using hlen
  simp only[Op.bytesLess,Bool.or_eq_true,Bf,CG,CF];rw[ih,MV,MV,XS];rw[XS]at h1;simp[TD]at ha hb;rw[Bj];constructor
  ·rintro(h|⟨rfl,h⟩)
   ·have:=BU (10^m.length) (show a.toNat- 48+1<=b.toNat- 48 by omega)
    rw[BV]at this;omega
   ·omega
  ·intro h
   rcases ASd a.toNat b.toNat with h3|h3|h3
   ·exact .inl h3
   ·have xV:=CY.1 h3
    subst xV;exact .inr ⟨rfl,by omega⟩
   ·exfalso
    have:=BU (10^m.length) (show b.toNat- 48+1<=a.toNat- 48 by omega);rw[BV]at this;omega
theorem bE:∀(l m:List UInt8),l.length=m.length->(∀b∈l,TD b=true)->(∀b∈m,TD b=true)->Ep l=Ep m->l=m
 | [],[],_,_,_,_=>rfl
 |a::l,b::m,hlen,hl,hm,he=>by
  have XS:l.length=m.length:=by simpa using hlen
  have ha:=hl a (Ay ..);have hb:=hm b (Ay ..);have h1:=Qz l fun x hx=>hl x (Am _ hx);have h2:=Qz m fun x hx=>hm x (Am _ hx);rw[MV,MV,XS]at he;rw[XS]at h1;simp[TD]at ha hb;have h3:a.toNat=b.toNat:=by
   rcases ASd a.toNat b.toNat with h|h|h
   ·have:=BU (10^m.length) (show a.toNat- 48+1<=b.toNat- 48 by omega)
    rw[BV]at this;omega
   ·exact h
   ·have:=BU (10^m.length) (show b.toNat- 48+1<=a.toNat- 48 by omega)
    rw[BV]at this;omega
  rw[h3]at he;rw[CY.1 h3,bE l m XS (fun x hx=>hl x (Am _ hx)) (fun x hx=>hm x (Am _ hx)) (by omega)]
end Dc
open Go.RowKit
theorem Tryz.XR:(Tryz.prog.info? 4).map (fun i=>(i.zero,i.size,i.bytes))=some (some (.bool false),1,1):=by kernel_rfl
def KU(p:List Bool->Prop)(w:World)(e:Ending)(w':World):Prop:=
 ∃A c l,e=.returned (.slice A l.length c)/\p l/\w'.ownsRow w.heap.size 4 1 (.slice A l.length c) l.length (l.map Value.bool)/\Below w.heap.size w w'
theorem KV(A:Option Addr)(l:List Bool)(c B:Nat)(w:World)(h:Reads w B 1 A l.length (l.map Value.bool))(i:Int)(h0:0<=i):
 Calls prog 137 #[.slice A l.length c,.int .i64 i] w fun e w'=>e=.returned (.int .i64 (Bt.bit l i.toNat))/\w=w':=by
 obtain⟨k,rfl⟩:=Bo h0;rw[Bp];by_cases hk:k<l.length
 ·obtain⟨b,off,rfl,hb,hc⟩:=h.addr (by omega)
  have FR:=hc k (.bool l[k]) (by simp[hk]);have hv:=Bt.NC l k hk;clear hc h;by_cases Mz:l[k]=true
  ·rw[Mz]at FR hv
   have HV:=I hv;clear hv Mz;go_in;go_wp2;go_ret;exact⟨D7 (by rw[HV.out];rfl),rfl⟩
  ·have Q8:l[k]=false:=by simpa using Mz
   rw[Q8]at FR hv;have HV:=I hv;clear hv Mz Q8;go_in;go_wp2;go_ret;exact⟨D7 (by rw[HV.out];rfl),rfl⟩
 ·have HV:=I (Bt.OE l k (by omega))
  clear h;go_in;go_wp2;go_ret;exact⟨D7 (by rw[HV.out];rfl),rfl⟩
def YS(la lb l:List Bool):Prop:=
 Bt.val l=Bt.val la+Bt.val lb/\max la.length lb.length<=l.length/\l.length<=max la.length lb.length+1/\(l.length=max la.length lb.length+1->2^max la.length lb.length<=Bt.val l)
def UF(la lb:List Bool)(w:World)(v:Value)(k c:Nat)(wr:World):Prop:=
 ∃l:List Bool,l.length=k/\c<=1/\k<=max la.length lb.length+1/\(k=max la.length lb.length+1->c=0/\2^max la.length lb.length<=Bt.val l)/\
  Bt.val l+2^k*(c+Bt.val (la.drop k)+Bt.val (lb.drop k))=Bt.val la+Bt.val lb/\wr.ownsRow w.heap.size 4 1 v k (l.map Value.bool)/\Below w.heap.size w wr
theorem lU(la lb:List Bool)(w wr w1:World)(u v':Value)(k c:Nat)(h:UF la lb w u k c wr)(jF:k<max la.length lb.length\/0<c)
 (DL:w1.ownsRow w.heap.size 4 1 v' (k+1) ((Classical.choose h).map Value.bool++[Value.bool (((Bt.bit la k:Int)+(Bt.bit lb k:Int)+(c:Int))%2==1)]))
 (DY:Below w.heap.size wr w1):UF la lb w v' (k+1) ((Bt.bit la k+Bt.bit lb k+c)/2) w1:=by
 obtain⟨Na,Qi,LO,Et,Td,ADe,hb⟩:=Cj h;generalize Classical.choose h=l at*;have hka:=Bt.JV la k;have zb:=Bt.JV lb k;have hda:=Bt.JC la k;have tC:=Bt.JC lb k;have hpa:=fun hx=>Bt.OE la k hx;have tN:=fun hx=>Bt.OE lb k hx;have hkm:k<=max la.length lb.length:=by
  rcases Ah (max la.length lb.length) k with hx|hx
  ·have:=(Et (by omega)).1;omega
  ·exact hx
 have P4:(((Bt.bit la k:Int)+(Bt.bit lb k:Int)+(c:Int))%2==1)=((Bt.bit la k+Bt.bit lb k+c)%2==1):=by
  rw[ATj,CF,CF];omega
 have GA:((Bt.bit la k+Bt.bit lb k+c)%2==1).toNat=(Bt.bit la k+Bt.bit lb k+c)%2:=by
  rcases Nat.mod_two_eq_zero_or_one (Bt.bit la k+Bt.bit lb k+c)with e|e<;>simp[e]
 have Ta:Bt.val (l++[(Bt.bit la k+Bt.bit lb k+c)%2==1])=Bt.val l+2^k*((Bt.bit la k+Bt.bit lb k+c)%2):=by
  rw[Bt.Kx,Na];simp[GA]
 refine⟨l++[(Bt.bit la k+Bt.bit lb k+c)%2==1],by simp[Na],by omega,by omega,fun hm=>?_,?_,?_,hb.trans DY⟩
 ·have e1:k=max la.length lb.length:=by omega
  have h1:=hpa (by omega);have h2:=tN (by omega);have h3:c=1:=by omega
  rw[h1,h2,h3]at Ta⊢;refine⟨by omega,?_⟩;rw[Ta,<-e1];simp
 ·rw[Ta,<-Td,hda,tC,Bv]
  congr 1;rw[Ar,Bd,<-BM];congr 1;omega
 ·rw[P4]at DL
  rw[BP];exact DL
theorem kT(la lb:List Bool)(w wr:World)(u:Value)(k c:Nat)(h:UF la lb w u k c wr)(hk:max la.length lb.length<=k)(hc:c=0):
 KU (YS la lb) w (.returned u) wr:=by
 obtain⟨l,Na,Qi,LO,Et,Td,DL,hb⟩:=h;obtain⟨A,cc,hv⟩:=Cz DL;subst hv Na hc;rw[ASa (by omega),ASa (by omega)]at Td;exact⟨A,cc,l,rfl,⟨by simpa using Td,by omega,by omega,fun e=>(Et e).2⟩,DL,hb⟩
theorem Of(A B:Option Addr)(la lb:List Bool)(ca cb:Nat)(w:World)(ha:Reads w w.heap.size 1 A la.length (la.map Value.bool))(hb:Reads w w.heap.size 1 B lb.length (lb.map Value.bool))
 (la1:la.length<=1000000) (lb1:lb.length<=1000000):
 Calls prog 33 #[.slice A la.length ca,.slice B lb.length cb] w (KU (YS la lb) w):=by
 obtain⟨i0,hi,Fq,FZ,Fe⟩:=AO Tryz.XR;go_in;go_wp2;go_loopw [5,6,7] (fun v cv iv wr=>∃(k c:Nat),iv=.int .i64 k/\cv=.int .i64 c/\UF la lb w v k c wr) (fun _ _ iv _=>max la.length lb.length+2- (intOf iv).toNat)
 case atStart=>exact⟨0,0,rfl,rfl,[],rfl,by omega,by omega,by omega,by simp,AX _ _ _ _,AA⟩
 case round=>
  obtain⟨k,c,rfl,rfl,hr⟩:=hrel;have HR:=I hr;have Qi:c<=1:=(Cj hr).2.1;have LO:k<=max la.length lb.length+1:=(Cj hr).2.2.1;have DL:=(Cj hr).2.2.2.2.2.1;have DY:=(Cj hr).2.2.2.2.2.2;have RA:=I (ha.below DY AB);have RB:=I (hb.below DY AB);have ER:=DY.size;have ba:=Bt.JV la k;have bb:=Bt.JV lb k;generalize hlx:(Classical.choose hr).map Value.bool=lx at*;have HLX:=I hlx;have HB:=I DY;clear ha hb hlx DY;have jF:(k<max la.length lb.length\/0<c)\/(max la.length lb.length<=k/\c<=0):=by omega
  rcases jF with jF|⟨LU,Wf⟩
  ·rcases Ah la.length lb.length with ho|ho
   all_goals
    go_wp2_with fail
    all_goals
     refine(KV A la ca _ _ RA.out _ (by omega)).mono ?_;rintro e w' ⟨rfl,rfl⟩;go_wp2_with fail
     refine(KV B lb cb _ _ RB.out _ (by omega)).mono ?_;rintro e w' ⟨rfl,rfl⟩;go_wp2_with (at_builtin;refine OP _ rfl _ _ 82 rfl w.heap.size 4 i0 (.bool false) 1 underlying82 hi Fq FZ Fe rfl _ _ _ rfl DL _ _ rfl rfl ?c1 ?c2 ?c3 ?_)
     case c1=>omega
     case c2=>unfold maxLen;omega
     case c3=>omega
     intro v' w1 I9 C6;go_wp2
     go_roundw
     case rel=>
      refine⟨k+1,(Bt.bit la k+Bt.bit lb k+c)/2,by go_num,by congr 1,lU la lb w wr w1 _ v' k c hr jF ?_ C6⟩;rw[HLX.out];exact I9
     case measure=>simp[intOf];omega
  ·rcases Ah la.length lb.length with ho|ho
   all_goals
    go_wp2;go_ret;exact kT la lb w _ _ k c HR.out LU (by omega)
def GU(a b:Nat):Int:=if a<b then-1 else if b<a then 1 else 0
theorem Ub{a b:Nat}(h:a<b):GU a b<0:=by unfold GU;rw[AD h];decide
theorem Ox{a b:Nat}(h:b<=a):0<=GU a b:=by unfold GU;rw[AC (by omega)];split<;>decide
def Q7(la lb:List Bool)(w:World)(v:Value)(k c:Nat)(wr:World):Prop:=
 ∃l:List Bool,l.length=k/\c<=1/\k<=la.length/\Bt.val l+Bt.val (lb.take k)=Bt.val (la.take k)+2^k*c/\wr.ownsRow w.heap.size 4 1 v k (l.map Value.bool)/\Below w.heap.size w wr
theorem Wh(n:Int)(h: -2<=n)(h':n<=1):(bits BinOp.and IntKind.i64 n 1==1)=(n%2==1):=by
 have:n= -2\/n= -1\/n=0\/n=1:=by omega
 rcases this with rfl|rfl|rfl|rfl<;>decide
theorem Vi(la lb:List Bool)(w wr w1:World)(u v':Value)(k c c':Nat)(h:Q7 la lb w u k c wr)(hk:k<la.length)
 (hc':(c'=1/\(Bt.bit la k:Int)- (Bt.bit lb k:Int)- (c:Int)<0)\/(c'=0/\0<=(Bt.bit la k:Int)- (Bt.bit lb k:Int)- (c:Int)))
 (DL:w1.ownsRow w.heap.size 4 1 v' (k+1) ((Classical.choose h).map Value.bool++[Value.bool (bits BinOp.and IntKind.i64 ((Bt.bit la k:Int)- (Bt.bit lb k:Int)- (c:Int)) 1==1)]))
 (DY:Below w.heap.size wr w1):Q7 la lb w v' (k+1) c' w1:=by
 obtain⟨Na,Qi,LO,Td,ADe,hb⟩:=Cj h;generalize Classical.choose h=l at*;have hka:=Bt.JV la k;have zb:=Bt.JV lb k;have hda:=Bt.Jh la k;have tC:=Bt.Jh lb k;rw[Wh _ (by omega) (by omega)]at DL;have GA:((((Bt.bit la k:Int)- (Bt.bit lb k:Int)- (c:Int))%2==1).toNat:Int)=((Bt.bit la k:Int)- (Bt.bit lb k:Int)- (c:Int))%2:=by
  have e2:((Bt.bit la k:Int)- (Bt.bit lb k:Int)- (c:Int))%2=0\/((Bt.bit la k:Int)- (Bt.bit lb k:Int)- (c:Int))%2=1:=by omega
  rcases e2 with e|e<;>simp[e]
 generalize hx:(((Bt.bit la k:Int)- (Bt.bit lb k:Int)- (c:Int))%2==1)=x at*;have Ta:Bt.val (l++[x])=Bt.val l+2^k*x.toNat:=by
  rw[Bt.Kx,Na];simp
 refine⟨l++[x],by simp[Na],by omega,by omega,?_,by rw[BP];exact DL,hb.trans DY⟩;rw[Ta,hda,tC,Ar];have key:x.toNat+Bt.bit lb k+c=Bt.bit la k+2*c':=by omega
 have e2:2^k*(x.toNat+Bt.bit lb k+c)=2^k*(Bt.bit la k+2*c'):=by rw[key]
 simp only[BM]at e2;rw[Bd];omega
theorem dZ(la lb:List Bool)(w wr:World)(u:Value)(k c:Nat)(h:Q7 la lb w u k c wr)(hk:la.length<=k)(hle:Bt.val lb<=Bt.val la):
 KU (fun l=>l.length=la.length/\Bt.val l=Bt.val la-Bt.val lb) w (.returned u) wr:=by
 obtain⟨l,Na,Qi,LO,Td,DL,hb⟩:=h;obtain⟨A,cc,hv⟩:=Cz DL;have ES:la.length=k:=by omega
 have h1:=Bt.SM l;have h2:=Bt.SM la;have h3:Bt.val lb=Bt.val (lb.take k):=by
  rcases Ah lb.length k with hx|hx
  ·rw[AY (by omega)]
  ·have e1:=Bt.Jc lb k hx
   have e2:Bt.val (lb.drop k)=0:=by
    rcases Ac (Bt.val (lb.drop k))with e|e
    ·exact e
    ·have:2^k*1<=2^k*Bt.val (lb.drop k):=Bb _ e
     rw[ES]at h2;omega
   rw[e2]at e1;simpa using e1
 rw[show la.take k=la from AY (by omega),<-h3]at Td;subst hv Na;refine⟨A,cc,l,rfl,⟨by omega,?_⟩,DL,hb⟩;rcases Ac c with e|e
 ·subst e;simp at Td;omega
 ·have:c=1:=by omega
  subst this;simp at Td;omega
theorem Wx(A B:Option Addr)(la lb:List Bool)(ca cb:Nat)(w:World)(ha:Reads w w.heap.size 1 A la.length (la.map Value.bool))(hb:Reads w w.heap.size 1 B lb.length (lb.map Value.bool))
 (la1:la.length<=1000000) (lb1:lb.length<=1000000) (hle:Bt.val lb<=Bt.val la):
 Calls prog 41 #[.slice A la.length ca,.slice B lb.length cb] w (KU (fun l=>l.length=la.length/\Bt.val l=Bt.val la-Bt.val lb) w):=by
 obtain⟨i0,hi,Fq,FZ,Fe⟩:=AO Tryz.XR;have HLE:=I hle;clear hle;go_in;go_wp2;go_loopw [5,6,11] (fun v cv iv wr=>∃(k c:Nat),iv=.int .i64 k/\cv=.int .i64 c/\Q7 la lb w v k c wr) (fun _ _ iv _=>la.length- (intOf iv).toNat)
 case atStart=>exact⟨0,0,rfl,rfl,[],rfl,by omega,by omega,by simp,AX _ _ _ _,AA⟩
 case round=>
  obtain⟨k,c,rfl,rfl,hr⟩:=hrel;have HR:=I hr;have Qi:c<=1:=(Cj hr).2.1;have LO:k<=la.length:=(Cj hr).2.2.1;have DL:=(Cj hr).2.2.2.2.1;have DY:=(Cj hr).2.2.2.2.2;have RA:=I (ha.below DY AB);have RB:=I (hb.below DY AB);have ER:=DY.size;have ba:=Bt.JV la k;have bb:=Bt.JV lb k;generalize hlx:(Classical.choose hr).map Value.bool=lx at*;have HLX:=I hlx;have HB:=I DY;clear ha hb hlx DY;by_cases DG:k<la.length
  ·go_wp2_with fail
   refine(KV A la ca _ _ RA.out _ (by omega)).mono ?_;rintro e w' ⟨rfl,rfl⟩;go_wp2_with fail
   refine(KV B lb cb _ _ RB.out _ (by omega)).mono ?_;rintro e w' ⟨rfl,rfl⟩;go_wp2_with (at_builtin;refine OP _ rfl _ _ 82 rfl w.heap.size 4 i0 (.bool false) 1 underlying82 hi Fq FZ Fe rfl _ _ _ rfl DL _ _ rfl rfl ?c1 ?c2 ?c3 ?_)
   case c1=>omega
   case c2=>unfold maxLen;omega
   case c3=>omega
   intro v' w1 I9 C6;go_wp2;all_goals go_roundw
   all_goals first
    |(case rel=>
       first
        |exact⟨k+1,1,by go_num,rfl,Vi la lb w wr w1 _ v' k c 1 hr DG (.inl ⟨rfl,by assumption⟩) (by rw[HLX.out];exact I9) C6⟩
        |exact⟨k+1,0,by go_num,rfl,Vi la lb w wr w1 _ v' k c 0 hr DG (.inr ⟨rfl,by assumption⟩) (by rw[HLX.out];exact I9) C6⟩)
    |(simp[intOf]<;>omega)
  ·go_wp2
   go_ret;exact dZ la lb w _ _ k c HR.out (by omega) HLE.out
theorem XU(n:Nat):(madeCells #[Value.bool false] n).toList=List.replicate n (Value.bool false):=by
 simp only[madeCells];apply ASi<;>simp[Nat.mod_one]
theorem Pu(l:List Bool):∀u∈l.map Value.bool,u.oneCell'=true:=by
 intro u hu;obtain⟨b,_,rfl⟩:=BD.1 hu;rfl
theorem Fr(x a b:Int)(w:World):
 Calls prog 53 #[.int .i64 x,.int .i64 a,.int .i64 b] w fun e w'=>e=.returned (.bool (wi x a b))/\w=w':=by
 unfold wi;go_in;go_wp2;all_goals (go_ret;simp[*]<;>omega)
def GO(i s d:Int):Prop:=0<=i/\i<=2147483647/\0<=s/\s<=2147483647/\0<=d/\d<=1073741824/\(s=0->i=0)
def MQ(inc seq:Int):Prop:=0<=inc/\inc<=2147483647/\1<=seq/\seq<=2147483647
def GC(i s inc seq:Int):Prop:=i<inc\/(inc=i/\s<seq)
instance (i s d:Int):Decidable (GO i s d):=by unfold GO;infer_instance
instance (i s:Int):Decidable (MQ i s):=by unfold MQ;infer_instance
instance (i s a b:Int):Decidable (GC i s a b):=by unfold GC;infer_instance
def bF(i s d:Int):Int:=if GO i s d then 0 else 1
theorem Vz(i s d:Int)(w:World):
 Calls prog 277 #[.agg #[.int .i64 i,.int .i64 s,.int .i64 d]] w fun e w'=>e=.returned (.int .i64 (bF i s d))/\Below w.heap.size w w':=by
 go_in;go_wp2;all_goals (go_ret;refine⟨D7 ?_,AA.alloc AB _⟩;simp_all[bF,GO]<;>omega)
theorem Zv(i s d:Int)(h:GO i s d)(w:World):
 Calls prog 277 #[.agg #[.int .i64 i,.int .i64 s,.int .i64 d]] w fun e w'=>e=.returned (.int .i64 0)/\Below w.heap.size w w':=by
 have:=Vz i s d w
 rwa [bF,AD h]at this
theorem qc(i s d inc seq:Int)(h:GO i s d)(hn:MQ inc seq)(hg:GC i s inc seq)(w:World):
 Calls prog 253 #[.agg #[.int .i64 i,.int .i64 s,.int .i64 d],.int .i64 inc,.int .i64 seq] w fun e w'=>
  e=.returned (.tuple #[.agg #[.int .i64 inc,.int .i64 seq,.int .i64 d],.bool true,.int .i64 0])/\Below w.heap.size w w':=by
 have H:=I h;obtain⟨n0,n1,n2,n3⟩:=hn;unfold GC at hg;have E:=I (((AI w).lay #[.int .i64 i,.int .i64 s,.int .i64 d] 185).lay #[.int .i64 0,.int .i64 0,.int .i64 0] 185);clear h;go_in;go_wp2_with fail
 refine(Zv _ _ _ H.out _).mono ?_;rintro e w1 ⟨rfl,C6⟩;have E1:=I (E.out.below C6);clear C6;have p0:=E1.out.hd.lt;have p1:=E1.out.tl.hd.lt;have b0:=E1.out.hd.cell 0;have b1:=E1.out.hd.cell 1;have b2:=E1.out.hd.cell 2;have a0:=E1.out.tl.hd.cell 0;have a1:=E1.out.tl.hd.cell 1;have a2:=E1.out.tl.hd.cell 2;have f0:=E1.out.hd.frozen 0;have f1:=E1.out.hd.frozen 1;have f2:=E1.out.hd.frozen 2;have f3:=E1.out.tl.hd.frozen 2;simp at a0 a1 a2 b0 b1 b2 f0 f1 f2 f3 p0 p1;go_wp2;all_goals first
  |(exfalso;omega)
  |(exfalso;simp_all;omega)
  |(refine AF (v:=.tuple #[.agg #[.int .i64 inc,.int .i64 seq,.int .i64 d],.bool true,.int .i64 0]) (by simp[results,results253,go_sem,b0,b1,b2,a0,a1,a2]<;>omega) rfl ⟨rfl,?_⟩
    exact((E1.out.DI.setCell (by simp) _).setCell (by simp) _).setCell (by simp) _)
theorem qD(i s d inc seq:Int)(h:GO i s d)(hn:MQ inc seq)(hg:¬GC i s inc seq)(m:Int)(hm:min (d+1) 1073741824=m)(w:World):
 Calls prog 253 #[.agg #[.int .i64 i,.int .i64 s,.int .i64 d],.int .i64 inc,.int .i64 seq] w fun e w'=>
  e=.returned (.tuple #[.agg #[.int .i64 i,.int .i64 s,.int .i64 m],.bool false,.int .i64 0])/\Below w.heap.size w w':=by
 have H:=I h;obtain⟨n0,n1,n2,n3⟩:=hn;have XL:inc<=i:=by unfold GC at hg;omega
 have Ka:inc<i\/seq<=s:=by unfold GC at hg;omega
 have fh:0<=d:=h.2.2.2.2.1;have N8:d<=1073741824:=h.2.2.2.2.2.1;have E:=I (((AI w).lay #[.int .i64 i,.int .i64 s,.int .i64 d] 185).lay #[.int .i64 0,.int .i64 0,.int .i64 0] 185);clear h hg;go_in;go_wp2_with fail
 refine(Zv _ _ _ H.out _).mono ?_;rintro e w1 ⟨rfl,C6⟩;have E1:=I (E.out.below C6);clear C6;have p0:=E1.out.hd.lt;have p1:=E1.out.tl.hd.lt;have b0:=E1.out.hd.cell 0;have b1:=E1.out.hd.cell 1;have b2:=E1.out.hd.cell 2;have a0:=E1.out.tl.hd.cell 0;have a1:=E1.out.tl.hd.cell 1;have a2:=E1.out.tl.hd.cell 2;have f0:=E1.out.hd.frozen 0;have f1:=E1.out.hd.frozen 1;have f2:=E1.out.hd.frozen 2;have f3:=E1.out.tl.hd.frozen 2;simp at a0 a1 a2 b0 b1 b2 f0 f1 f2 f3 p0 p1;go_wp2;all_goals first
  |(exfalso;omega)
  |(exfalso;simp_all;omega)
  |(refine AF (v:=.tuple #[.agg #[.int .i64 i,.int .i64 s,.int .i64 m],.bool false,.int .i64 0]) (by simp[results,results253,go_sem,b0,b1,b2,a0,a1,a2]<;>omega) rfl ⟨rfl,?_⟩
    exact(((E1.out.DI.setCell (by simp) _).setCell (by simp) _).setCell (by simp) _).setCell (by simp) _)
theorem packed(i s inc seq:Int)(PR:0<=s)(Ld:s<=2147483647)(h2:1<=seq)(h3:seq<=2147483647):i*2147483648+s<inc*2147483648+seq↔GC i s inc seq:=by
 unfold GC;omega
theorem kF(i s d inc seq:Int)(h:GO i s d)(hn:MQ inc seq)(hg:GC i s inc seq)(w:World):
 Calls prog 230 #[.agg #[.int .i64 i,.int .i64 s,.int .i64 d],.int .i64 inc,.int .i64 seq] w fun e w'=>
  e=.returned (.tuple #[.agg #[.int .i64 inc,.int .i64 seq,.int .i64 d],.bool true])/\Below w.heap.size w w':=by
 have hp:=(packed i s inc seq h.2.2.1 h.2.2.2.1 hn.2.2.1 hn.2.2.2).2 hg;obtain⟨n0,n1,n2,n3⟩:=hn;obtain⟨g0,g1,g2,g3,g4,g5,-⟩:=h;clear hg;go_in;go_wp2;all_goals first
  |(exfalso;omega)
  |(refine AF (v:=.tuple #[.agg #[.int .i64 inc,.int .i64 seq,.int .i64 d],.bool true]) (by simp[results,results230,go_sem]) rfl ⟨rfl,?_⟩
    exact((AA.alloc AB _).alloc (by simp) _))
theorem ls(i s d inc seq:Int)(h:GO i s d)(hn:MQ inc seq)(hg:¬GC i s inc seq)(m:Int)(hm:min (d+1) 1073741824=m)(w:World):
 Calls prog 230 #[.agg #[.int .i64 i,.int .i64 s,.int .i64 d],.int .i64 inc,.int .i64 seq] w fun e w'=>
  e=.returned (.tuple #[.agg #[.int .i64 i,.int .i64 s,.int .i64 m],.bool false])/\Below w.heap.size w w':=by
 have hp:¬_:=fun x=>hg ((packed i s inc seq h.2.2.1 h.2.2.2.1 hn.2.2.1 hn.2.2.2).1 x);obtain⟨n0,n1,n2,n3⟩:=hn;obtain⟨g0,g1,g2,g3,g4,g5,-⟩:=h;have HM:=I hm;clear hg hm;go_in;go_wp2;all_goals first
  |(exfalso;omega)
  |(have hm':m=d+1:=by have:=HM.out;omega
    subst hm';refine AF (v:=.tuple #[.agg #[.int .i64 i,.int .i64 s,.int .i64 (d+1)],.bool false]) (by simp[results,results230,go_sem]) rfl ⟨rfl,?_⟩;exact((AA.alloc AB _).alloc (by simp) _))
  |(have hm':m=d:=by have:=HM.out;omega
    subst hm';refine AF (v:=.tuple #[.agg #[.int .i64 i,.int .i64 s,.int .i64 m],.bool false]) (by simp[results,results230,go_sem]) rfl ⟨rfl,?_⟩;exact((AA.alloc AB _).alloc (by simp) _))
def IM(c:Int):Bool:= !wi c 0 16777216
def EZ(l:List Int):Int:=if 64<l.length then 2 else if l.any IM then 1 else 0
theorem Ui(x:Int)(w:World):
 Calls prog 205 #[.int .i64 x] w fun e w'=>e=.returned (.bool (wi x 0 16777216))/\w=w':=by
 unfold wi;go_in;go_wp2;all_goals (go_ret;simp[*]<;>omega)
theorem X0(x:Int)(w:World):
 Calls prog 140 #[.int .i64 x] w fun e w'=>e=.returned (.bool (wi x 0 16777216))/\w=w':=by
 go_in;go_wp2_with (go_at_call 53;refine(Fr _ _ _ _).mono ?_;rintro e w' ⟨rfl,rfl⟩)
 all_goals (go_ret;simp[*])
theorem lN(c:Int)(w:World):
 Calls prog 204 #[.int .i64 c] w fun e w'=>e=.returned (.bool (IM c))/\w=w':=by
 unfold IM;go_in;go_wp2_with (go_at_call 205;refine(Ui _ _).mono ?_;rintro e w' ⟨rfl,rfl⟩)
 go_ret;exact⟨rfl,rfl⟩
theorem sG(A:Option Addr)(c B:Nat)(l:List Int)(hm:l.length<=100000)(w:World)(hr:Reads w B 1 A l.length (DF l)):
 Calls prog 239 #[.slice A l.length c,.func (.func 204) #[] #[]] w (rB (l.any IM) w):=by
 generalize hn:l.length=n at*;have HN:=I hn;have HC:=I hr;clear hn hr;by_cases hz:n=0
 ·have HZ:=I hz
  have hz':n<1:=by omega
  clear hz;go_in;go_wp2;go_loop [8] (fun i=>i=.int .i64 0) (fun i=>0)
  case atStart=>exact rfl
  case round=>
   subst hrel;go_wp2;go_ret;refine⟨-1,?_,rfl,rfl⟩;have:l=[]:=Bn (by rw[HN.out,HZ.out]);rw[this];rfl
 ·obtain⟨b,off,rfl,hb,EC⟩:=HC.out.addr (by omega)
  have WT:=I EC;clear EC hz;go_in;go_wp2;go_loop [5,8] (fun _ i=>∃k:Nat,k<=n/\i=.int .i64 k/\(l.take k).any IM=false) (fun _ i=>n- (intOf i).toNat)
  case atStart=>exact⟨0,AM _,rfl,rfl⟩
  case round=>
   obtain⟨k,hk,rfl,hrel⟩:=hrel;have HR:=I hrel;clear hrel;by_cases DG:k<n
   ·have FR:=WT.out k _ (Fp l k (by rw[HN.out];exact DG))
    have HX:=I (Xh (by rw[HN.out];exact DG) HR.out);generalize hx:l.getD k 0=x at*;clear hx;go_wp2_with (go_at_call 204;refine(lN _ _).mono ?_;rintro e w' ⟨rfl,rfl⟩)
    go_ways
    ·rename_i ho
     go_ret;exact⟨k,by rw[Xp (HX.out.trans ho)];simp,rfl,rfl⟩
    ·rename_i ho
     refine⟨⟨k+1,DG,by simp,HX.out.trans ho⟩,?_⟩;simp[intOf];omega
   ·go_wp2
    go_ret;refine⟨-1,?_,rfl,rfl⟩;have:l.take k=l:=by rw[AY];have:=HN.out;omega
    have h2:=HR.out;rw[this]at h2;rw[h2];rfl
theorem Wi(A:Option Addr)(c B:Nat)(l:List Int)(hm:l.length<=100000)(w:World)(hr:Reads w B 1 A l.length (DF l)):
 Calls prog 203 #[.slice A l.length c,.func (.func 204) #[] #[]] w fun e w'=>e=.returned (.bool (l.any IM))/\w=w':=by
 have HC:=I hr;clear hr;go_in;go_wp2_with fail
 refine(sG _ _ _ _ hm _ HC.out).mono ?_;rintro e w' ⟨k,hk,rfl,rfl⟩;go_wp2;go_ret;first|exact⟨rfl,rfl⟩|exact⟨IL hk,rfl⟩
theorem lj(A:Option Addr)(c B:Nat)(l:List Int)(hm:l.length<=maxLen)(w:World)(hr:Reads w B 1 A l.length (DF l)):
 Calls prog 169 #[.slice A l.length c] w fun e w'=>e=.returned (.int .i64 (EZ l))/\w=w':=by
 have HC:=I hr;clear hr;unfold EZ;by_cases h:64<l.length
 ·rw[AD h]
  go_in;go_wp2;go_ret;exact⟨rfl,rfl⟩
 ·rw[AC h]
  go_in;go_wp2_with fail
  refine(Wi _ _ _ _ (by omega) _ HC.out).mono ?_;rintro e w' ⟨rfl,rfl⟩;go_wp2;all_goals (go_ret;exact⟨D7 (by simp[*]),rfl⟩)
theorem Xt(A:Option Addr)(c B:Nat)(l:List Int)(hm:l.length<=maxLen)(w:World)(hr:Reads w B 1 A l.length (DF l)):
 Calls prog 45 #[.slice A l.length c] w fun e w'=>e=.returned (.int .i64 (EZ l))/\w=w':=by
 have HC:=I hr;clear hr;unfold EZ;by_cases h:64<l.length
 ·rw[AD h]
  go_in;go_wp2;go_ret;exact⟨rfl,rfl⟩
 ·rw[AC h]
  generalize hn:l.length=n at*;have HN:=I hn;clear hn;have Nc:n<=64:=by omega
  by_cases hz:n=0
  ·have HZ:=I hz
   have hz':n<1:=by omega
   have hl:l=[]:=Bn (by rw[HN.out,HZ.out]);have he:l.any IM=false:=by rw[hl];rfl
   rw[he];clear hz hl he;go_in;go_wp2;go_loop [10] (fun i=>i=.int .i64 0) (fun i=>0)
   case atStart=>exact rfl
   case round=>
    subst hrel;go_wp2;go_ret;exact⟨rfl,rfl⟩
  ·obtain⟨b,off,rfl,hb,EC⟩:=HC.out.addr (by omega)
   have WT:=I EC;clear EC hz;generalize hE:(if l.any IM=true then (1:Int)else 0)=e1;have HE:=I hE;clear hE;go_in;go_wp2;go_loop [4,10] (fun _ i=>∃k:Nat,k<=n/\i=.int .i64 k/\(l.take k).any IM=false) (fun _ i=>n- (intOf i).toNat)
   case atStart=>exact⟨0,AM _,rfl,rfl⟩
   case round=>
    obtain⟨k,hk,rfl,hrel⟩:=hrel;have HR:=I hrel;clear hrel;by_cases DG:k<n
    ·have FR:=WT.out k _ (Fp l k (by rw[HN.out];exact DG))
     have HX:=I (Xh (by rw[HN.out];exact DG) HR.out);generalize hx:l.getD k 0=x at*;clear hx;go_wp2_with (go_at_call 140;refine(X0 _ _).mono ?_;rintro e w' ⟨rfl,rfl⟩)
     go_ways
     ·rename_i ho
      go_ret;have ho':IM x=true:=ho;refine⟨D7 ?_,rfl⟩;rw[<-HE.out,Xp (HX.out.trans ho')];rfl
     ·rename_i ho
      have ho':IM x=false:=ho;refine⟨⟨k+1,DG,by simp,HX.out.trans ho'⟩,?_⟩;simp[intOf];omega
    ·go_wp2
     go_ret;have:l.take k=l:=by rw[AY];have:=HN.out;omega
     have h2:=HR.out;rw[this]at h2;refine⟨D7 ?_,rfl⟩;rw[<-HE.out,h2];rfl
def M7(m v k:Int):Prop:=0<=m/\m<=4294967296/\0<=v/\v<=16777216/\0<=k/\k<=8
instance (m v k:Int):Decidable (M7 m v k):=by unfold M7;infer_instance
def Pt(m v:Int)(k:Nat):Int:=m+(256*v-m)/2^k
theorem XI(d p:Int)(hp:0<p):d.tdiv p*p+d.tmod p=d/\ -p<d.tmod p/\d.tmod p<p:=by
 refine⟨?_,?_,Int.tmod_lt_of_pos d hp⟩
 ·rw[ATV];exact Int.mul_tdiv_add_tmod d p
 ·have h1:=Int.tmod_lt_of_pos (-d) hp
  rw[Int.neg_tmod]at h1;omega
theorem US(d p:Int)(hp:0<p):(d.tdiv p*p<=d->d/p=d.tdiv p)/\(d<d.tdiv p*p->d/p=d.tdiv p- 1):=by
 obtain⟨h1,h2,h3⟩:=XI d p hp;constructor
 ·intro h
  exact((Int.ediv_emod_unique hp (r:=d.tmod p)).2 ⟨by rw[ATV];omega,by omega,by omega⟩).1
 ·intro h
  exact((Int.ediv_emod_unique hp (r:=d.tmod p+p)).2 ⟨by rw[Int.mul_sub,Int.mul_one,ATV];omega,by omega,by omega⟩).1
theorem mN(k:Nat)(h:k<=8)(P:Nat->Nat->Prop)(h0:P 0 1)(h1:P 1 2)(h2:P 2 4)(h3:P 3 8)(h4:P 4 16)(h5:P 5 32)(h6:P 6 64)(h7:P 7 128)(h8:P 8 256):P k (2^k):=by
 have:k=0\/k=1\/k=2\/k=3\/k=4\/k=5\/k=6\/k=7\/k=8:=by omega
 rcases this with rfl|rfl|rfl|rfl|rfl|rfl|rfl|rfl|rfl<;>assumption
theorem oZ(d:Int)(p:Nat)(hp:1<=p)(h0: -4294967296<=d)(h1:d<=4294967296): -4294967296<=d/(p:Int)/\d/(p:Int)<=4294967296:=by
 have ZP:(0:Int)<p:=by omega
 constructor
 ·rw[ATk ZP]
  omega
 ·have:d/(p:Int)<4294967297:=by
   rw[Int.ediv_lt_iff_lt_mul ZP];omega
  omega
theorem uD(d:Int)(p:Nat)(hp:1<=p)(hp2:p<=256)(h0: -4294967296<=d)(h1:d<=4294967296):
 -4294967296<=d.tdiv p/\d.tdiv p<=4294967297/\ -4294967552<=d.tdiv p*p/\d.tdiv p*p<=4294967552:=by
 obtain⟨b0,b1⟩:=oZ d p hp h0 h1;obtain⟨r0,r1,r2⟩:=XI d p (by omega);obtain⟨f0,f1⟩:=US d p (by omega);rcases Int.lt_or_le d (d.tdiv p*p)with h|h
 ·have:=f1 h;omega
 ·have:=f0 h;omega
theorem jq(m:Int)(h0:0<=m)(h1:m<=4294967296)(w:World):
 Calls prog 209 #[.int .i64 m] w fun e w'=>e=.returned (.int .i64 0)/\w=w':=by
 go_in;go_wp2;go_ret;exact⟨rfl,rfl⟩
theorem oF(m v:Int)(k:Nat)(h:M7 m v k)(w:World):
 Calls prog 172 #[.int .i64 m,.int .i64 v,.int .i64 k] w fun e w'=>e=.returned (.tuple #[.int .i64 (Pt m v k),.int .i64 0])/\w=w':=by
 obtain⟨m0,m1,v0,v1,k0,k1⟩:=h;have hv:wi v 0 16777216=true:=DW.2 ⟨v0,v1⟩;have hb:=oZ (256*v-m) (2^k) ATW (by omega) (by omega);rw[ATX]at hb;obtain⟨d0,d1⟩: -4294967296<=(256*v-m)/2^k/\(256*v-m)/2^k<=4294967296:=hb;go_in;go_wp2_with (first|(go_at_call 209;refine(jq _ m0 m1 _).mono ?_;rintro e w' ⟨rfl,rfl⟩)|(go_at_call 205;refine(Ui _ _).mono ?_;rintro e w' ⟨rfl,rfl⟩))
 refine AF (v:=.tuple #[.int .i64 (Pt m v k),.int .i64 0]) (by simp[results,results172,go_sem,Pt]) rfl ⟨rfl,rfl⟩
theorem qT(m v:Int)(k:Nat)(h:M7 m v k)(w:World):
 Calls prog 54 #[.int .i64 m,.int .i64 v,.int .i64 k] w fun e w'=>e=.returned (.int .i64 (Pt m v k))/\w=w':=by
 obtain⟨m0,m1,v0,v1,k0,k1⟩:=h;go_in;go_wp2;go_loop [8,15] (fun p i=>∃j:Nat,j<=k/\i=.int .i64 j/\p=.int .i64 (2^j:Nat)) (fun _ i=>k- (intOf i).toNat)
 case atStart=>exact⟨0,AM _,rfl,rfl⟩
 case round=>
  obtain⟨j,hj,rfl,rfl⟩:=hrel;have hp0:1<=2^j:=ATW;have ct:2^j<=256:=by
   have:2^j<=2^8:=Ax (by omega) (by omega)
   simpa using this
  have HP:=I (Ar (n:=2) (m:=j));generalize hp:2^j=p at*;have HPP:=I hp;clear hp;obtain⟨t0,t1,t2,t3⟩:=uD (256*v-m) p hp0 ct (by omega) (by omega);have HF:=I (US (256*v-m) p (by omega));by_cases DG:j<k
  ·go_wp2
   refine⟨⟨j+1,DG,by simp,?_⟩,?_⟩
   ·rw[HP.out];simp
   ·simp[intOf];omega
  ·have VD:j=k:=by omega
   have Wm:(2:Int)^k=(p:Int):=by rw[<-HPP.out,VD];simp
   have HK:=I Wm;clear VD Wm;go_wp2;all_goals
    go_ret;refine⟨D7 ?_,rfl⟩;unfold Pt;rw[HK.out];have f0:=HF.out.1;have f1:=HF.out.2;omega
theorem KR{l:List Int}(h:l.any IM=false)(j:Nat)(hj:j<l.length):0<=l.getD j 0/\l.getD j 0<=16777216:=by
 have h1:IM (l.getD j 0)=false:=by
  rw[ATl]at h;have:=h (l.getD j 0) (by simp[List.getD,AU hj])
  simpa using this
 unfold IM at h1;exact DW.1 (by simpa using h1)
theorem Dk{l:List Int}(h:EZ l=0):l.length<=64/\l.any IM=false:=by
 unfold EZ at h;split at h
 ·simp at h
 ·split at h
  ·simp at h
  ·rename_i h1 h2;exact⟨by omega,by simpa using h2⟩
theorem IR(A:Option Addr)(c B:Nat)(l:List Int)(n:Nat)(hn:l.length=n)(e:Int)(h:EZ l=e)(hm:n<=maxLen)(w:World)(hr:Reads w B 1 A n (DF l)):
 Calls prog 169 #[.slice A n c] w fun e' w'=>e'=.returned (.int .i64 e)/\w=w':=by
 subst hn h;exact lj A c B l hm w hr
def JA(n s q:Int):Prop:=0<=n/\n<=64/\0<=s/\s<=n*16777216/\s<=q/\q<=s*16777216
instance (n s q:Int):Decidable (JA n s q):=by unfold JA;infer_instance
def Gn(n s q:Int):Int:=if JA n s q then (if n*q<s*s then 9 else 0)else 1
theorem JA.bounds{n s q:Int}(h:JA n s q):s<=1073741824/\q<=18014398509481984/\0<=n*q/\n*q<=1152921504606846976/\0<=s*s/\s*s<=1152921504606846976:=by
 obtain⟨h0,h1,h2,h3,h4,h5⟩:=h;have hs:s<=1073741824:=by omega
 have hq:q<=18014398509481984:=by omega
 have YU:0<=q:=by omega
 refine⟨hs,hq,Bq h0 YU,?_,Bq h2 h2,?_⟩
 ·have:=BT h1 hq YU (by omega:(0:Int)<=64)
  omega
 ·have:=BT hs hs h2 (by omega:(0:Int)<=1073741824)
  omega
theorem ADd(x:Int)(w:World):
 Calls prog 205 #[.int .i64 x] w fun e w'=>e=.returned (.bool (wi x 0 16777216))/\w=w':=by
 unfold wi;go_in;go_wp2;all_goals (go_ret;simp[*]<;>omega)
theorem Uk(n s q:Int)(h:¬JA n s q)(w:World):
 Calls prog 168 #[.agg #[.int .i64 n,.int .i64 s,.int .i64 q]] w fun e w'=>e=.returned (.int .i64 1)/\Below w.heap.size w w':=by
 have h':n<0\/64<n\/s<0\/q<0\/n*16777216<s\/s*16777216<q\/q<s:=by unfold JA at h;omega
 clear h;go_in;go_wp2;all_goals first
  |(exfalso;omega)
  |(go_ret;exact⟨rfl,AA.alloc AB _⟩)
theorem TZ(n s q:Int)(h:JA n s q)(w:World):
 Calls prog 168 #[.agg #[.int .i64 n,.int .i64 s,.int .i64 q]] w fun e w'=>e=.returned (.int .i64 (if n*q<s*s then 9 else 0))/\Below w.heap.size w w':=by
 obtain⟨b1,b2,b3,b4,b5,b6⟩:=h.bounds;obtain⟨h0,h1,h2,h3,h4,h5⟩:=h;go_in;go_wp2;all_goals first
  |(exfalso;omega)
  |(go_ret;exact⟨D7 (by simp[*]<;>omega),AA.alloc AB _⟩)
theorem eE(n s q:Int)(w:World):
 Calls prog 168 #[.agg #[.int .i64 n,.int .i64 s,.int .i64 q]] w fun e w'=>e=.returned (.int .i64 (Gn n s q))/\Below w.heap.size w w':=by
 unfold Gn;by_cases h:JA n s q
 ·rw[AD h];exact TZ n s q h w
 ·rw[AC h];exact Uk n s q h w
theorem Dx{n s q:Int}(h:Gn n s q=0):JA n s q/\¬n*q<s*s:=by
 unfold Gn at h;split at h
 ·split at h
  ·simp at h
  ·exact⟨by assumption,by assumption⟩
 ·simp at h
theorem Mb(n s q e:Int)(h:Gn n s q=e)(w:World):
 Calls prog 168 #[.agg #[.int .i64 n,.int .i64 s,.int .i64 q]] w fun e' w'=>e'=.returned (.int .i64 e)/\Below w.heap.size w w':=by
 subst h;exact eE n s q w
theorem Sh(n s q:Int)(he:Gn n s q=0)(w:World):
 Calls prog 98 #[.agg #[.int .i64 n,.int .i64 s,.int .i64 q]] w fun e' w'=>e'=.returned (.tuple #[.int .i64 (n*q-s*s),.int .i64 0])/\Below w.heap.size w w':=by
 have HE:=I he;clear he;obtain⟨b1,b2,b3,b4,b5,b6⟩:=(Dx HE.out).1.bounds;obtain⟨h0,h1,h2,h3,h4,h5⟩:=(Dx HE.out).1;have E:=I ((AI w).lay #[.int .i64 n,.int .i64 s,.int .i64 q] 96);go_in;go_wp2_with fail
 refine(Mb _ _ _ _ HE.out _).mono ?_;rintro e' w1 ⟨rfl,C6⟩;have E1:=I (E.out.below C6);clear C6;have p0:=E1.out.hd.lt;have a0:=E1.out.hd.cell 0;have a1:=E1.out.hd.cell 1;have a2:=E1.out.hd.cell 2;simp at a0 a1 a2 p0;go_wp2;refine AF (v:=.tuple #[.int .i64 (n*q-s*s),.int .i64 0]) (by simp[results,results98,go_sem]<;>omega) rfl ⟨rfl,E1.out.DI⟩
theorem Qc(n s q:Int)(he:Gn n s q=0)(w:World):
 Calls prog 47 #[.agg #[.int .i64 n,.int .i64 s,.int .i64 q]] w fun e' w'=>e'=.returned (.int .i64 (n*q-s*s))/\Below w.heap.size w w':=by
 have HE:=I he;clear he;obtain⟨b1,b2,b3,b4,b5,b6⟩:=(Dx HE.out).1.bounds;obtain⟨h0,h1,h2,h3,h4,h5⟩:=(Dx HE.out).1;go_in;go_wp2;go_ret;exact⟨rfl,AA.alloc AB _⟩
def s1:List Int->Int| []=>0|x::l=>s1 l+x
def s2:List Int->Int| []=>0|x::l=>s2 l+x*x
theorem vz(l:List Int)(x:Int):s1 (l++[x])=s1 l+x:=by
 induction l with
 |nil=>simp[s1]
 |cons y l ih=>simp[s1,ih];omega
theorem wP(l:List Int)(x:Int):s2 (l++[x])=s2 l+x*x:=by
 induction l with
 |nil=>simp[s2]
 |cons y l ih=>simp[s2,ih];omega
theorem rX(l:List Int)(h:l.any IM=false):0<=s1 l/\s1 l<=l.length*16777216/\0<=s2 l/\s2 l<=l.length*281474976710656:=by
 induction l with
 |nil=>simp[s1,s2]
 |cons x l ih=>
  simp only[ATF,ATm]at h;obtain⟨i0,i1,i2,i3⟩:=ih h.2;have hx:wi x 0 16777216=true:=by have:=h.1;unfold IM at this;simpa using this
  obtain⟨x0,x1⟩:=DW.1 hx;have y0:=Bq x0 x0;have y1:=BT x1 x1 x0 (by omega:(0:Int)<=16777216);simp only[s1,s2,AP];refine⟨by omega,by omega,by omega,by omega⟩
theorem jW(l:List Int)(k:Nat)(h:k<l.length):l.take (k+1)=l.take k++[l.getD k 0]:=by
 rw[ASy,AU h];simp[List.getD,AU h]
theorem oL{l:List Int}(h:l.any IM=false)(k:Nat):(l.take k).any IM=false:=by
 rw[ATl]at h⊢;exact fun x hx=>h x (Be hx)
def t1(l:List Int)(k:Nat):Int:=s1 (l.take k)
def t2(l:List Int)(k:Nat):Int:=s2 (l.take k)
theorem AAY(l:List Int)(k:Nat)(h:k<l.length):t1 l (k+1)=t1 l k+l.getD k 0/\t2 l (k+1)=t2 l k+l.getD k 0*l.getD k 0:=by
 unfold t1 t2;rw[jW l k h,vz,wP];exact⟨rfl,rfl⟩
theorem AHB(l:List Int)(k:Nat)(h:l.any IM=false)(MH:l.length<=64):0<=t1 l k/\t1 l k<=1073741824/\0<=t2 l k/\t2 l k<=18014398509481984:=by
 obtain⟨a,b,c,d⟩:=rX (l.take k) (oL h k);have:(l.take k).length<=64:=by rw[AV];omega
 unfold t1 t2;refine⟨a,by omega,c,by omega⟩
theorem xw(l:List Int):t1 l l.length=s1 l/\t2 l l.length=s2 l:=by unfold t1 t2;rw[Ap];exact⟨rfl,rfl⟩
theorem Env.pD{w0 W:World}{l:List (Nat×TypeId×Array Value)}{g:Nat}{t:TypeId}{cs:Array Value}(h:Env w0 W ((g,t,cs)::l))(hd:∀x∈l,x.1≠g)(i:Nat)(u:Value):
 Env w0 (W.setCell ⟨g,i,none⟩ u) ((g,t,cs.setIfInBounds i u)::l):=by
 have hg:=(h.2 _ (Ay ..)).1;refine⟨h.1.setCell hg _,fun x hx=>?_⟩;rcases AR.1 hx with rfl|hx
 ·exact⟨hg,h.hd.De i u⟩
 ·have:=h.2 x (Am _ hx)
  exact⟨this.1,this.2.Je (p:=⟨g,i,none⟩) (hd x hx) u⟩
def Ih(cap:Int)(l:List Int):Int:=if wi cap 1 64=true then (if cap<(l.length:Int)then 2 else EZ l)else 1
theorem GZ{cap:Int}{l:List Int}(h:Ih cap l=0):1<=cap/\cap<=64/\(l.length:Int)<=cap/\EZ l=0:=by
 unfold Ih at h;split at h
 ·rename_i h1
  obtain⟨a,b⟩:=DW.1 h1;split at h
  ·simp at h
  ·exact⟨a,b,by omega,h⟩
 ·simp at h
theorem Lj(cap:Int)(A:Option Addr)(c B n:Nat)(l:List Int)(hn:l.length=n)(e:Int)(he:Ih cap l=e)(hm:n<=maxLen)(w:World)(hr:Reads w B 1 A n (DF l))(hB:B<=w.heap.size):
 Calls prog 210 #[.agg #[.int .i64 cap,.slice A n c]] w fun e' w'=>e'=.returned (.int .i64 e)/\Below w.heap.size w w':=by
 subst he hn;unfold Ih;have HC:=I (hr.alloc hB (.cells #[.int .i64 cap,.slice A l.length c] 148));clear hr hB;by_cases h1:wi cap 1 64=true
 ·rw[AD h1]
  obtain⟨c0,c1⟩:=DW.1 h1;clear h1;by_cases h2:cap<(l.length:Int)
  ·rw[AD h2]
   generalize l.length=n at*;go_in;go_wp2;go_ret;exact⟨rfl,AA.alloc AB _⟩
  ·rw[AC h2]
   have h3:(l.length:Int)<=cap:=by omega
   clear h2;generalize hn:l.length=n at*;have HN:=I hn;generalize he:EZ l=e;have HE:=I he;clear hn he;go_in;go_wp2_with fail
   refine(IR _ _ _ l n HN.out _ HE.out (by omega) _ HC.out).mono ?_;rintro e' w' ⟨rfl,rfl⟩;go_wp2;go_ret;exact⟨rfl,AA.alloc AB _⟩
 ·rw[AC h1]
  have h2:cap<1\/64<cap:=by
   have:=Fc.1 (by simpa using h1);exact this
  clear h1;generalize l.length=n at*;go_in;go_wp2;all_goals first
   |(exfalso;omega)
   |(go_ret;exact⟨rfl,AA.alloc AB _⟩)
