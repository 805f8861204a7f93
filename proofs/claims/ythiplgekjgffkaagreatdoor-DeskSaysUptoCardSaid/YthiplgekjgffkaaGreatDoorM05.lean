/- slices -/
import Derived.Test.YthiplgekjgffkaaGreatDoorM04
set_option maxRecDepth 100000
set_option maxHeartbeats 99000000
set_option linter.all false
namespace Go.Proofs.YthiplgekjgffkaaGreatDoor
open Go.Proofs.Tryz
open Go.RowKit Go.Lib
def Oe(cs:Array Value)(n i:Nat)(ds:Array Value):Prop:=
 ds.size=cs.size/\∀k,k<n->ds[k]? =if k<i\/n- 1-i<k then cs[n- 1-k]? else cs[k]?
theorem Oe.start(cs:Array Value)(n:Nat):Oe cs n 0 cs:=⟨rfl,fun k hk=>by rw[AC (by omega)]⟩
theorem Oe.step{cs ds:Array Value}{n i j:Nat}{u v:Value}(h:Oe cs n i ds)(hn:n<=cs.size)(nE:i<j)(hj:j=n- 1-i)(hu:ds[j]? =some u)(hv:ds[i]? =some v):Oe cs n (i+1) ((ds.setIfInBounds i u).setIfInBounds j v):=by
 refine⟨by simp[h.1],fun k hk=>?_⟩;have RO:=h.2 k hk;have SJ:=h.2 i (by omega);have Mk:=h.2 j (by omega);rw[AC (by omega)]at SJ Mk;rw[AUH,AUH];by_cases h1:j=k
 ·subst h1
  rw[AD rfl,AD (by rw[Array.size_setIfInBounds,h.1];omega),AD (by omega),show n- 1-j=i by omega,<-SJ,hv]
 ·rw[AC h1]
  by_cases h2:i=k
  ·subst h2
   rw[AD rfl,AD (by rw[h.1];omega),AD (by omega),<-hj,<-Mk,hu]
  ·rw[AC h2,RO]
   by_cases h3:k<i\/n- 1-i<k
   ·rw[AD h3,AD (by omega)]
   ·rw[AC h3,AC (by omega)]
theorem Oe.ints{cs ds:Array Value}{n i:Nat}(h:Oe cs n i ds)(hx:∀k,k<n->∃x:Int,cs[k]? =some (.int .u8 x)):∀k,k<n->∃x:Int,ds[k]? =some (.int .u8 x):=by
 intro k hk;rw[h.2 k hk];split
 ·exact hx _ (by omega)
 ·exact hx k hk
theorem Oe.done{cs ds:Array Value}{n i:Nat}(h:Oe cs n i ds)(h1:2*i<=n)(h2:n<=2*i+1):∀k,k<n->ds[k]? =cs[n- 1-k]? :=by
 intro k hk;rw[h.2 k hk];by_cases h3:k<i\/n- 1-i<k
 ·rw[AD h3]
 ·rw[AC h3,show n- 1-k=k by omega]
theorem uz(g c n:Nat)(cs:Array Value)(hn:n<=cs.size)(hm:n<=1000000)(hc:n<=c)(hx:∀k,k<n->∃x:Int,cs[k]? =some (.int .u8 x))(w:World)(h:DJ w g 5 cs):
 Calls prog 164 #[.slice (some ⟨g,0,none⟩) n c] w fun e w'=>e=.returned (.tuple #[])/\Below g w w'/\∃ds,DJ w' g 5 ds/\ds.size=cs.size/\∀k,k<n->ds[k]? =cs[n- 1-k]? :=by
 have HK:=I h;have HN:=I hn;have HX:=I hx;clear h hn hx;go_in;go_wp2;go_loopw [2,3] (fun iv jv wr=>∃(i:Nat)(ds:Array Value),2*i<=n/\iv=.int .i64 (i:Int)/\jv=.int .i64 ((n:Int)- 1-i)/\Oe cs n i ds/\DJ wr g 5 ds/\Below g w wr) (fun iv _ _=>n- (intOf iv).toNat)
 case atStart=>exact⟨0,cs,by omega,rfl,by simp,Oe.start cs n,HK.out,AA⟩
 case round=>
  obtain⟨i,ds,hi,rfl,rfl,hR,hB,DY⟩:=hrel;have RR:=I hR;have BB:=I hB;have BL:=I DY;by_cases DG:2*i+1<n
  ·obtain⟨j,hj⟩:∃j,j=n- 1-i:=⟨_,rfl⟩
   have ej:(n:Int)- 1- (i:Int)=(j:Int):=by omega
   rw[ej];have nE:i<j:=by omega
   have zH:j<n:=by omega
   have fr:i<n:=by omega
   have HJ:=I hj;have ER:=hR.1;have hn':=HN.out;obtain⟨u,hu⟩:=hR.ints HX.out j zH;obtain⟨v,hv⟩:=hR.ints HX.out i fr;have ci:=(hB.cell i).trans hv;have cj:=(hB.cell j).trans hu;have fi:=hB.frozen i;have fj:=hB.frozen j;have GI:¬i=j:=by omega
   have AMb:¬j=i:=by omega
   have HU:=I hu;have HV:=I hv;clear hR hB DY hj ej ER hn' hu hv;go_wp2_with fail
   go_region
   all_goals
    go_wp2;exact⟨⟨i+1,(ds.setIfInBounds i (.int .u8 u)).setIfInBounds j (.int .u8 v),by omega,by simp,by have:=HJ.out;congr 1;omega,RR.out.step HN.out nE HJ.out HU.out HV.out,
     ((BB.out.De i _).De j _).drew,((BL.out.setCell AB _).setCell AB _).drew⟩,by simp[intOf];omega⟩
  ·have HD:=I (hR.done hi (by omega))
   have hd:¬(i:Int)<(n:Int)- 1-i:=by omega
   have HS:=I hR.1;clear hR hB DY;go_wp2;exact⟨rfl,.tuple #[],by simp[results,results164,go_sem],rfl,BL.out,ds,BB.out,HS.out,HD.out⟩
theorem Fv(n:Nat)(hn:n<2^128)(w:World):
 Calls prog 35 #[.agg #[.int .u64 (DB n),.int .u64 (DE n)]] w (KU (fun l=>l=Bt.bits n) w):=by
 obtain⟨i0,hi,Fq,FZ,Fe⟩:=AO Tryz.XR;go_in;go_wp2;go_loopw [3] (fun v wr=>∃(m:Nat)(l:List Bool),m<2^128/\wr.ownsRow (w.heap.size+1) 4 1 v l.length (l.map Value.bool)/\DJ wr w.heap.size 57 #[.int .u64 (DB m),.int .u64 (DE m)]/\Below w.heap.size w wr/\l++Bt.bits m=Bt.bits n)
  (fun v _=>200-lenOf v)
 case atStart=>exact⟨n,[],hn,AX _ _ _ _,DJ.new _ _ _,AA.alloc AB _,rfl⟩
 case round=>
  obtain⟨m,l,hm,DL,Hh,DY,hl⟩:=hrel;have c0:=Hh.cell 0;have c1:=Hh.cell 1;simp at c0 c1;have f0:=Hh.frozen 0;have f1:=Hh.frozen 1;have ER:=Hh.lt;have HM:=I hm;have HL:=I hl;have g0:0<=DB m:=by unfold DB;omega
  have g1:0<=DE m:=by unfold DE;omega
  have g2:DE m<=18446744073709551615:=by unfold DE;omega
  have g3:DB m<=18446744073709551615:=by unfold DB;omega
  have hlen:l.length<=128:=by
   have:=Ae List.length hl;have h2:=Bt.Ez n;have h3:=Bt.Ew hn;simp at this;omega
  clear hm hl hn;by_cases h0:DB m=0/\DE m=0
  ·obtain⟨h1,h2⟩:=h0
   go_wp2;go_ret;have sr:=Wc h1 h2;subst sr;have e:=HL.out;rw[Bt.PP,CP]at e;obtain⟨A,c,hv⟩:=Cz DL;subst hv;exact⟨A,c,l,rfl,e,DX DL (by omega),DY⟩
  ·have cL:((DB m==0)=true/\(DE m==0)=false)\/(DB m==0)=false:=by
    by_cases h1:DB m=0
    ·left;simp[h1];intro h2;exact h0 ⟨h1,h2⟩
    ·right;simpa using h1
   clear h0;rcases cL with⟨t1,t2⟩|t1;all_goals
    go_wp2_with (at_builtin;refine OP _ rfl _ _ 82 rfl (w.heap.size+1) 4 i0 (.bool false) 1 underlying82 hi Fq FZ Fe rfl _ _ _ rfl DL _ _ rfl rfl ?c1 ?c2 ?c3 ?_)
    case c1=>omega
    case c2=>unfold maxLen;omega
    case c3=>omega
    intro v' w1 I9 C6;have bI:=Hh.below C6 (by omega);have d0:=bI.cell 0;have d1:=bI.cell 1;simp at d0 d1;have e0:=bI.frozen 0;have e1:=bI.frozen 1;clear c0 c1 f0 f1;go_wp2
    go_roundw
    case rel=>
     have mZ:0<m:=by
      rcases Ac m with h|h
      ·subst h;simp[DB,DE]at*
      ·exact h
     refine⟨m/2,l++[m%2==1],?_,?_,?_,?_,?_⟩
     ·have:=HM.out;omega
     ·have h2:=DV (DV I9 (a:=⟨w.heap.size,1,none⟩) (by simp) (Value.int .u64 (DE (m/2)))) (a:=⟨w.heap.size,0,none⟩) (by simp) (Value.int .u64 (DB (m/2)))
      rw[bT,cB,AN,BP,<-vw];exact h2
     ·have h2:=(bI.De 1 (Value.int .u64 (DE (m/2)))).De 0 (Value.int .u64 (DB (m/2)))
      rw[bT,cB];exact h2
     ·exact((DY.trans (C6.mono (by omega))).setCell (by simp) _).setCell (by simp) _
     ·rw[<-HL.out,Bt.UV m mZ];simp
    case measure=>
     obtain⟨A,c,hv⟩:=Cz DL;obtain⟨A',c',md⟩:=Cz I9;rw[hv,md];simp[lenOf];omega
def oO(l:List Bool)(w:World)(k:Nat)(wr:World):Prop:=
 k<=l.length/\Bt.val (l.take k)<2^128/\DJ wr (w.heap.size+1) 57 #[.int .u64 (DB (Bt.val (l.take k))),.int .u64 (DE (Bt.val (l.take k)))]/\
  DJ wr w.heap.size 57 #[.int .u64 0,.int .u64 0]/\Below w.heap.size w wr
theorem rq(m k:Nat)(h:m<2^k)(h1:63<k)(h2:k<=127):
 IntKind.u64.wrap (DB m+IntKind.u64.wrap (2^(k- 64)))=DB (m+2^k)/\DE m=DE (m+2^k):=by
 obtain⟨j,rfl⟩:∃j,k=j+64:=⟨k- 64,by omega⟩;have e1:2^(j+64)=2^j*18446744073709551616:=by rw[Bg]
 have e2:2^j<=2^63:=Bt.Ig (by omega);rw[e1]at h⊢;rw[Ch];have e3:((2:Int)^j)=((2^j:Nat):Int):=by simp
 rw[e3];generalize 2^j=q at*;rw[ATn (q:Int) (by omega),ATn _ (by unfold DB;omega)];unfold DB DE;omega
theorem nO(m k:Nat)(h:m<2^k)(h2:k<=63):
 IntKind.u64.wrap (DE m+IntKind.u64.wrap (2^k))=DE (m+2^k)/\DB m=DB (m+2^k):=by
 have e2:2^k<=2^63:=Bt.Ig (by omega);have e3:((2:Int)^k)=((2^k:Nat):Int):=by simp
 rw[e3];generalize 2^k=q at*;rw[ATn (q:Int) (by omega),ATn _ (by unfold DE;omega)];unfold DB DE;omega
theorem dS(A:Option Addr)(l:List Bool)(c:Nat)(w:World)(h:Reads w w.heap.size 1 A l.length (l.map Value.bool))(h1:l.length<=1000000)(hv:Bt.val l<2^128):
 Calls prog 37 #[.slice A l.length c] w fun e w'=>e=.returned (.tuple #[.agg #[.int .u64 (DB (Bt.val l)),.int .u64 (DE (Bt.val l))],.bool true])/\Below w.heap.size w w':=by
 have HVV:=I hv;clear hv;go_in;go_wp2;go_loopw [9] (fun iv wr=>∃(k:Nat),iv=.int .i64 k/\oO l w k wr) (fun iv _=>l.length- (intOf iv).toNat)
 case atStart=>
  exact⟨0,rfl,AM _,by simp,by simpa [DB,DE] using DJ.new (w.alloc (.cells #[.int .u64 0,.int .u64 0] 57)) 57 #[.int .u64 0,.int .u64 0],(DJ.new _ _ _).alloc _,(AA.alloc AB _).alloc (by simp) _⟩
 case round=>
  obtain⟨k,rfl,hk,DG,Hh,Mg,DY⟩:=hrel;have ER:=Hh.lt;have HL:=I DG;have HB:=I DY;have HS:=I Mg;generalize hm:Bt.val (l.take k)=m at*;have HM:=I hm;have hg:=Eo m DG;have Ka:=Fy m;obtain⟨g0,g3⟩:=hg;obtain⟨g1,g2⟩:=Ka;clear hm DG Mg;have c0:=Hh.cell 0;have c1:=Hh.cell 1;simp at c0 c1;have f0:=Hh.frozen 0;have f1:=Hh.frozen 1;by_cases ES:k<l.length
  ·obtain⟨b,off,rfl,hb,hc⟩:=(h.below DY AB).addr (by omega)
   have FR:=hc k (.bool l[k]) (by simp[ES]);clear hc h DY;by_cases Mz:l[k]=true
   ·rw[Mz]at FR
    have Nh:=I Mz;clear Mz;rcases Ah 127 k with h2|h2
    ·exfalso
     have e4:2^128<=2^k:=Bt.Ig (by omega);have e5:=HVV.out;have:=Z0 l k ES Nh.out;omega
    ·rcases Ah 63 k with h3|h3
     ·go_wp2
      go_region
      go_wp2
      go_roundw
      case rel=>
       have e1:=Ke l k ES Nh.out;have e2:=Ty l k hk;have e3:=Ji l (k+1) ES;rw[HM.out]at e1 e2;obtain⟨n1,n2⟩:=rq m k e2 h3 h2;refine⟨k+1,by go_num,ES,by have:=HVV.out;omega,?_,?_,?_⟩
       ·rw[e1,<-n1,<-n2];exact Hh.De 0 _
       ·exact HS.out.Je (by simp) _
       ·exact(HB.out.setCell (by simp) _).drew
      case measure=>simp[intOf];omega
     ·go_wp2
      go_region
      go_wp2
      go_roundw
      case rel=>
       have e1:=Ke l k ES Nh.out;have e2:=Ty l k hk;have e3:=Ji l (k+1) ES;rw[HM.out]at e1 e2;obtain⟨n1,n2⟩:=nO m k e2 h3;refine⟨k+1,by go_num,ES,by have:=HVV.out;omega,?_,?_,?_⟩
       ·rw[e1,<-n1,<-n2];exact Hh.De 1 _
       ·exact HS.out.Je (by simp) _
       ·exact(HB.out.setCell (by simp) _).drew
      case measure=>simp[intOf];omega
   ·have Q8:l[k]=false:=by simpa using Mz
    rw[Q8]at FR;have Nh:=I Q8;clear Mz Q8;go_wp2
    go_roundw
    case rel=>
     have e1:=QH l k ES Nh.out;rw[HM.out]at e1;exact⟨k+1,by go_num,ES,by rw[e1];exact HL.out,by rw[e1];exact Hh,HS.out,HB.out⟩
    case measure=>simp[intOf];omega
  ·have r0:=HS.out.cell 0
   have r1:=HS.out.cell 1;simp at r0 r1;have q0:=HS.out.frozen 0;have q1:=HS.out.frozen 1;go_wp2;have e1:Bt.val l=m:=by rw[<-HM.out,AY (by omega)]
   refine AF (v:=.tuple #[.agg #[.int .u64 (DB m),.int .u64 (DE m)],.bool true]) (by simp[results,results37,go_sem,r0,r1]) rfl ⟨by rw[e1],?_⟩;exact(HB.out.setCell (by simp) _).setCell (by simp) _
theorem kf(A:Option Addr)(l:List Bool)(c:Nat)(w:World)(h:Reads w w.heap.size 1 A l.length (l.map Value.bool))(h1:l.length<=1000000)(hv:2^128<=Bt.val l):
 Calls prog 37 #[.slice A l.length c] w fun e w'=>e=.returned (.tuple #[.agg #[.int .u64 0,.int .u64 0],.bool false])/\Below w.heap.size w w':=by
 have HVV:=I hv;clear hv;go_in;go_wp2;go_loopw [9] (fun iv wr=>∃(k:Nat),iv=.int .i64 k/\oO l w k wr) (fun iv _=>l.length- (intOf iv).toNat)
 case atStart=>
  exact⟨0,rfl,AM _,by simp,by simpa [DB,DE] using DJ.new (w.alloc (.cells #[.int .u64 0,.int .u64 0] 57)) 57 #[.int .u64 0,.int .u64 0],(DJ.new _ _ _).alloc _,(AA.alloc AB _).alloc (by simp) _⟩
 case round=>
  obtain⟨k,rfl,hk,DG,Hh,Mg,DY⟩:=hrel;have ER:=Hh.lt;have HL:=I DG;have HB:=I DY;have HS:=I Mg;generalize hm:Bt.val (l.take k)=m at*;have HM:=I hm;have hg:=Eo m DG;have Ka:=Fy m;obtain⟨g0,g3⟩:=hg;obtain⟨g1,g2⟩:=Ka;clear hm DG Mg;have c0:=Hh.cell 0;have c1:=Hh.cell 1;simp at c0 c1;have f0:=Hh.frozen 0;have f1:=Hh.frozen 1;by_cases ES:k<l.length
  ·obtain⟨b,off,rfl,hb,hc⟩:=(h.below DY AB).addr (by omega)
   have FR:=hc k (.bool l[k]) (by simp[ES]);clear hc h DY;by_cases Mz:l[k]=true
   ·rw[Mz]at FR
    have Nh:=I Mz;clear Mz;rcases Ah 127 k with h2|h2
    ·have r0:=HS.out.cell 0
     have r1:=HS.out.cell 1;simp at r0 r1;have q0:=HS.out.frozen 0;have q1:=HS.out.frozen 1;go_wp2;refine AF (v:=.tuple #[.agg #[.int .u64 0,.int .u64 0],.bool false]) (by simp[results,results37,go_sem,r0,r1]) rfl ⟨rfl,?_⟩;exact(HB.out.setCell (by simp) _).setCell (by simp) _
    ·rcases Ah 63 k with h3|h3
     ·go_wp2
      go_region
      go_wp2
      go_roundw
      case rel=>
       have e1:=Ke l k ES Nh.out;have e2:=Ty l k hk;have e3:=Ji l (k+1) ES;rw[HM.out]at e1 e2;obtain⟨n1,n2⟩:=rq m k e2 h3 h2;refine⟨k+1,by go_num,ES,by rw[e1];have e9:2^(k+1)<=2^128:=Bt.Ig (by omega);rw[Ar]at e9;omega,?_,?_,?_⟩
       ·rw[e1,<-n1,<-n2];exact Hh.De 0 _
       ·exact HS.out.Je (by simp) _
       ·exact(HB.out.setCell (by simp) _).drew
      case measure=>simp[intOf];omega
     ·go_wp2
      go_region
      go_wp2
      go_roundw
      case rel=>
       have e1:=Ke l k ES Nh.out;have e2:=Ty l k hk;have e3:=Ji l (k+1) ES;rw[HM.out]at e1 e2;obtain⟨n1,n2⟩:=nO m k e2 h3;refine⟨k+1,by go_num,ES,by rw[e1];have e9:2^(k+1)<=2^128:=Bt.Ig (by omega);rw[Ar]at e9;omega,?_,?_,?_⟩
       ·rw[e1,<-n1,<-n2];exact Hh.De 1 _
       ·exact HS.out.Je (by simp) _
       ·exact(HB.out.setCell (by simp) _).drew
      case measure=>simp[intOf];omega
   ·have Q8:l[k]=false:=by simpa using Mz
    rw[Q8]at FR;have Nh:=I Q8;clear Mz Q8;go_wp2
    go_roundw
    case rel=>
     have e1:=QH l k ES Nh.out;rw[HM.out]at e1;exact⟨k+1,by go_num,ES,by rw[e1];exact HL.out,by rw[e1];exact Hh,HS.out,HB.out⟩
    case measure=>simp[intOf];omega
  ·exfalso
   have e1:Bt.val l=m:=by rw[<-HM.out,AY (by omega)]
   have:=HVV.out;have:=HL.out;omega
def sI(la lb:List Bool)(j:Int):Prop:=
 -1<=j/\j<max la.length lb.length/\Bt.val (la.drop (j+1).toNat)=Bt.val (lb.drop (j+1).toNat)
theorem AA4(la lb:List Bool)(k:Nat)(h:Bt.val (la.drop (k+1))=Bt.val (lb.drop (k+1)))(hk:k<max la.length lb.length):
 ((Bt.bit la k:Int)- (Bt.bit lb k:Int)≠0->GU (Bt.val la) (Bt.val lb)=(Bt.bit la k:Int)- (Bt.bit lb k:Int))/\
 ((Bt.bit la k:Int)- (Bt.bit lb k:Int)=0->Bt.val (la.drop k)=Bt.val (lb.drop k)):=by
 have hda:=Bt.JC la k;have tC:=Bt.JC lb k;have ba:=Bt.JV la k;have bb:=Bt.JV lb k;refine⟨fun GI=>?_,fun he=>by omega⟩;have yj:Bt.val la=Bt.val (la.take k)+2^k*Bt.val (la.drop k):=by
  rcases Ah la.length k with hx|hx
  ·rw[AY (by omega),ASa (by omega)];simp
  ·exact Bt.Jc la k hx
 have mw:Bt.val lb=Bt.val (lb.take k)+2^k*Bt.val (lb.drop k):=by
  rcases Ah lb.length k with hx|hx
  ·rw[AY (by omega),ASa (by omega)];simp
  ·exact Bt.Jc lb k hx
 have hta:Bt.val (la.take k)<2^k:=by
  have h1:=Bt.SM (la.take k);have:2^(la.take k).length<=2^k:=Bt.Ig (by simp;omega);omega
 have QX:Bt.val (lb.take k)<2^k:=by
  have h1:=Bt.SM (lb.take k);have:2^(lb.take k).length<=2^k:=Bt.Ig (by simp;omega);omega
 generalize Bt.val (la.take k)=ta at*;generalize Bt.val (lb.take k)=tb at*;generalize Bt.val (la.drop (k+1))=da at*;rw[<-h]at tC;generalize 2^k=q at*;rw[hda]at yj;rw[tC]at mw;unfold GU;rcases Ah (Bt.bit la k) (Bt.bit lb k)with hx|hx
 ·have e1:Bt.bit la k=0:=by omega
  have e2:Bt.bit lb k=1:=by omega
  rw[e1]at yj⊢;rw[e2]at mw⊢;rw[BM]at yj mw;rw[AD (by omega)];rfl
 ·have e1:Bt.bit la k=1:=by omega
  have e2:Bt.bit lb k=0:=by omega
  rw[e1]at yj⊢;rw[e2]at mw⊢;rw[BM]at yj mw;rw[AC (by omega),AD (by omega)];rfl
theorem SW(A B:Option Addr)(la lb:List Bool)(ca cb D:Nat)(w:World)(ha:Reads w D 1 A la.length (la.map Value.bool))(hb:Reads w D 1 B lb.length (lb.map Value.bool))
 (la1:la.length<=1000000) (lb1:lb.length<=1000000):
 Calls prog 40 #[.slice A la.length ca,.slice B lb.length cb] w fun e w'=>e=.returned (.int .i64 (GU (Bt.val la) (Bt.val lb)))/\w=w':=by
 have RA:=I ha;have RB:=I hb;clear ha hb;rcases Ah la.length lb.length with ho|ho;all_goals
  go_in;go_wp2;go_loop [5] (fun iv=>∃j:Int,iv=.int .i64 j/\sI la lb j) (fun iv=>(intOf iv+1).toNat)
  case atStart=>
   refine⟨_,rfl,by omega,by omega,?_⟩;rw[ASa (by omega),ASa (by omega)]
  case round=>
   obtain⟨j,rfl,h1,h2,h3⟩:=hrel;by_cases hj:0<=j
   ·obtain⟨k,rfl⟩:=Bo hj
    have hkm:k<max la.length lb.length:=by omega
    have e1:((k:Int)+1).toNat=k+1:=by omega
    rw[e1]at h3;obtain⟨c1,c2⟩:=AA4 la lb k h3 hkm;have C1:=I c1;have C2:=I c2;have ba:=Bt.JV la k;have bb:=Bt.JV lb k;clear c1 c2 h3 e1;by_cases hz:(Bt.bit la k:Int)- (Bt.bit lb k:Int)=0
    ·have HZ:=I hz
     have hzb:((Bt.bit la k:Int)- (Bt.bit lb k:Int) != 0)=false:=by simpa using hz
     clear hz;go_wp2_with fail
     refine(KV A la ca _ _ RA.out _ (by omega)).mono ?_;rintro e w' ⟨rfl,rfl⟩;go_wp2_with fail
     refine(KV B lb cb _ _ RB.out _ (by omega)).mono ?_;rintro e w' ⟨rfl,rfl⟩;go_wp2;go_round
     case rel=>exact⟨_,rfl,by omega,by omega,by rw[show((k:Int)- 1+1).toNat=k by omega];exact C2.out HZ.out⟩
     case measure=>simp[intOf]<;>omega
    ·have HZ:=I hz
     have hzb:((Bt.bit la k:Int)- (Bt.bit lb k:Int) != 0)=true:=by simpa using hz
     clear hz;go_wp2_with fail
     refine(KV A la ca _ _ RA.out _ (by omega)).mono ?_;rintro e w' ⟨rfl,rfl⟩;go_wp2_with fail
     refine(KV B lb cb _ _ RB.out _ (by omega)).mono ?_;rintro e w' ⟨rfl,rfl⟩;go_wp2;go_ret;exact⟨D7 (C1.out HZ.out).symm,rfl⟩
   ·go_wp2
    go_ret;have e0:(j+1).toNat=0:=by omega
    rw[e0]at h3;simp at h3;exact⟨D7 (by simp[GU,h3]),rfl⟩
theorem Rb(A B:Option Addr)(la lb:List Bool)(ca cb D a b:Nat)(w:World)(ha:Reads w D 1 A la.length (la.map Value.bool))(hb:Reads w D 1 B lb.length (lb.map Value.bool))
 (la1:la.length<=1000000) (lb1:lb.length<=1000000) (Rq:Bt.val la=a) (yS:Bt.val lb=b):
 Calls prog 40 #[.slice A la.length ca,.slice B lb.length cb] w fun e w'=>e=.returned (.int .i64 (GU a b))/\w=w':=by
 subst Rq yS;exact SW A B la lb ca cb D w ha hb la1 lb1
def LI(l:List Bool):Array Value:=(l.map Value.bool).toArray
theorem fy{w:World}{g:Nat}(l:List Bool)(h:DJ w g 4 (LI l)):Reads w w.heap.size 1 (some ⟨g,0,none⟩) l.length (l.map Value.bool):=by
 refine⟨by simp,fun _=>⟨_,rfl,h.lt,fun j u hu=>?_⟩⟩;have hc:=h.cell j;by_cases hj:j=0
 ·subst hj;simpa [Addr.add,LI,hc] using hu
 ·simpa [Addr.add,LI,hc,hj] using hu
def SG(la:List Bool)(vb m:Nat)(O L:List Bool):Prop:=
 O.length=la.length/\O.take m=List.replicate m false/\Bt.val (O.drop m)=Bt.val (la.drop m)/vb/\L.length+m=la.length/\Bt.val L=Bt.val (la.drop m)%vb
theorem dm{n vb q r:Nat}(h:n=vb*q+r)(hr:r<vb):n/vb=q/\n%vb=r:=by
 subst h;refine⟨?_,?_⟩
 ·rw[ASc (by omega),Cq hr,AW]
 ·rw[ASv,B8 hr]
theorem uY(x V vb:Nat)(hv:0<vb)(h:x+2*(V%vb)<vb):(x+2*V)/vb=2*(V/vb)/\(x+2*V)%vb=x+2*(V%vb):=by
 have hm:=CM V vb;have e:=ASw vb 2 (V/vb);exact dm (by omega) h
theorem wt(x V vb:Nat)(hv:0<vb)(hx:x<=1)(h:vb<=x+2*(V%vb)):(x+2*V)/vb=1+2*(V/vb)/\(x+2*V)%vb=x+2*(V%vb)-vb:=by
 have hm:=CM V vb;have hl:=BN V hv;have e:=ASw vb 2 (V/vb);refine dm ?_ (by omega);rw[BM];omega
theorem Vm{O:List Bool}{i:Nat}(h2:O.take (i+1)=List.replicate (i+1) false):O.take i=List.replicate i false:=by
 have:=Ae (List.take i) h2;rw[ATY]at this
 simpa [ASb (Br i)] using this
theorem mG{la O L:List Bool}{vb i:Nat}(hi:i<la.length)(hv:0<vb)(h:SG la vb (i+1) O L)(DG:Bt.val (la[i]::L)<vb):SG la vb i O (la[i]::L):=by
 obtain⟨h1,h2,h3,h4,h5⟩:=h;have hO:O[i]'(by omega)=false:=by
  have e:(O.take (i+1))[i]'(by simp;omega)=false:=by simp only[h2];simp
  simpa using e
 have e1:=Bt.JC O i;have e2:=Bt.JC la i;rw[Bt.NC O i (by omega),hO]at e1;rw[Bt.NC la i hi]at e2;rw[Bt.Kj,h5]at DG;obtain⟨d1,d2⟩:=uY _ _ _ hv DG;refine⟨h1,Vm h2,?_,by simp;omega,?_⟩
 ·rw[e1,h3,e2,d1];simp
 ·rw[e2,Bt.Kj,h5,d2]
theorem jf{la O L L':List Bool}{vb i:Nat}(hi:i<la.length)(hv:0<vb)(h:SG la vb (i+1) O L)(LU:vb<=Bt.val (la[i]::L))(hl':L'.length=(la[i]::L).length)(md:Bt.val L'=Bt.val (la[i]::L)-vb):
 SG la vb i (O.set i true) L':=by
 obtain⟨h1,h2,h3,h4,h5⟩:=h;have e1:=Bt.JC (O.set i true) i;have e2:=Bt.JC la i;rw[Bt.NC (O.set i true) i (by simp;omega)]at e1;rw[Bt.NC la i hi]at e2;have e4:(O.set i true).drop (i+1)=O.drop (i+1):=by rw[List.drop_set_of_lt (by omega)]
 rw[e4]at e1;rw[Bt.Kj,h5]at LU md;have hb:la[i].toNat<=1:=by cases la[i]<;>simp
 obtain⟨d1,d2⟩:=wt _ _ _ hv hb LU;refine⟨by simp[h1],?_,?_,by rw[hl'];simp;omega,?_⟩
 ·rw[List.take_set_of_le (Cr i)]
  exact Vm h2
 ·rw[e1,h3,e2,d1];simp
 ·rw[md,e2,d2]
def uI(la:List Bool)(vb:Nat)(w:World)(v:Value)(j:Int)(wr:World):Prop:=
 ∃A c O L,v=.slice A L.length c/\ -1<=j/\j<la.length/\SG la vb (j+1).toNat O L/\DJ wr w.heap.size 4 (LI O)/\
  wr.ownsRow (w.heap.size+1) 4 1 (.slice A L.length c) L.length (L.map Value.bool)/\Below w.heap.size w wr
def ou(la lb:List Bool)(w:World)(e:Ending)(w':World):Prop:=
 ∃A cO c O L,e=.returned (.tuple #[.slice (some ⟨w.heap.size,0,none⟩) O.length cO,.slice A L.length c])/\Bt.val O=Bt.val la/Bt.val lb/\Bt.val L=Bt.val la%Bt.val lb/\O.length=la.length/\L.length=la.length/\
  Reads w' w'.heap.size 1 (some ⟨w.heap.size,0,none⟩) O.length (O.map Value.bool)/\Reads w' w'.heap.size 1 A L.length (L.map Value.bool)/\Below w.heap.size w w'
theorem fM(O:List Bool)(i:Nat)(b:Bool):(LI O).setIfInBounds i (.bool b)=LI (O.set i b):=by
 unfold LI;simp[Ck]
theorem qx(A B:Option Addr)(la lb:List Bool)(ca cb:Nat)(w:World)(ha:Reads w w.heap.size 1 A la.length (la.map Value.bool))(hb:Reads w w.heap.size 1 B lb.length (lb.map Value.bool))
 (la1:la.length<=100000) (lb1:lb.length<=100000) (hv:0<Bt.val lb):
 Calls prog 42 #[.slice A la.length ca,.slice B lb.length cb] w (ou la lb w):=by
 obtain⟨i0,hi,Fq,FZ,Fe⟩:=AO Tryz.XR;have PO:=run_make (P:=prog) w 82 4 i0 (.bool false) underlying82 hi Fq .i64 .i64 la.length la.length (by omega) (by omega) (by rw[Fe];omega) (by omega);rw[FZ]at PO;simp only[Bp,ATC,Value.cells]at PO;have Sk:madeCells #[Value.bool false] la.length=LI (List.replicate la.length false):=by
  apply ATZ.1;rw[XU];simp[LI]
 rw[Sk]at PO;have HV:=I hv;clear hv Sk;go_in;go_wp2;go_loopw [7,8] (fun v jv wr=>∃j:Int,jv=.int .i64 j/\uI la (Bt.val lb) w v j wr) (fun _ jv _=>(intOf jv+1).toNat)
 case atStart=>
  refine⟨_,rfl,none,0,List.replicate la.length false,[],rfl,by omega,by omega,?_,DJ.new _ _ _,AX _ _ _ _,AA.alloc AB _⟩;have e:((la.length:Int)- 1+1).toNat=la.length:=by omega
  rw[e];exact⟨by simp,by simp,by simp,by simp,by simp⟩
 case round=>
  obtain⟨j,rfl,A1,c1,O,L,rfl,hj1,Py,hq,Hh,DL,DY⟩:=hrel;clear PO;have HQ:=I hq;have HK:=I Hh;have HO:=I DL;have HB:=I DY;have ER:=Hh.lt;have hqo:=hq.1;have hql:L.length<=la.length:=by have:=hq.2.2.2.1;omega
  by_cases hj:0<=j
  ·obtain⟨i,rfl⟩:=Bo hj
   have WY:i<la.length:=by omega
   obtain⟨b,off,rfl,oH,hc⟩:=(ha.below DY AB).addr (by omega);have FR:=hc i (.bool la[i]) (by simp[WY]);have RB:=I (hb.below DY AB);have RL:=I ((Reads.DR DL).alloc AB (.cells #[.bool la[i]] 4));have AG6:=I (World.ownsRow_lit (base:=wr.heap.size) (e:=4) (size:=1) wr #[.bool la[i]] 1 AB (by unfold maxLen;omega) rfl);have HQO:=I hqo;clear hc hq DL DY ha hb Hh hqo;go_wp2_with (at_builtin;refine EU _ rfl _ _ 82 rfl wr.heap.size 4 i0 (.bool false) 1 1 underlying82 hi Fq FZ Fe rfl (by decide) _ _ _ rfl AG6.out _ _ _ _ _ rfl RL.out (Pu _) ?c1 ?c2 ?c3 ?_)
   case c1=>unfold maxLen;omega
   case c2=>omega
   intro v' w1 I9 C6;obtain⟨L1,jQ⟩:∃L1,L1=la[i]::L:=⟨_,rfl⟩;have hle:1+L.length=L1.length:=by rw[jQ];simp;omega
   have mZ: [Value.bool la[i]]++L.map Value.bool=L1.map Value.bool:=by rw[jQ];rfl
   have fA:w1.ownsRow wr.heap.size 4 1 v' L1.length (L1.map Value.bool):=by rw[<-hle,<-mZ];exact I9
   obtain⟨A2,c2,rfl⟩:=Cz fA;have hll:L1.length<=100001:=by omega
   have tc:=I jQ;have Pb:=I fA;have pY:=C6.size;simp at pY;have Ii:=I (((AQ wr.heap.size wr).alloc AB (.cells #[.bool la[i]] 4)).trans C6);clear I9 fA hle mZ jQ C6;have e1:((i:Int)+1).toNat=i+1:=by omega
   have HQ':Hid (SG la (Bt.val lb) (i+1) O L):=by have:=HQ.out;rw[e1]at this;exact I this
   clear HQ e1;by_cases oS:Bt.val lb<=Bt.val L1
   ·have Tk:=Ox oS
    have HC:=I oS;clear oS;have RB1:=I ((RB.out.below Ii.out (by omega)).more (B':=w1.heap.size) (by omega));go_wp2_with fail
    refine(SW A2 B L1 lb c2 cb w1.heap.size w1 (Reads.DR Pb.out) RB1.out (by omega) (by omega)).mono ?_;rintro e w' ⟨rfl,rfl⟩;go_wp2_with fail
    refine(Wx A2 B L1 lb c2 cb w1 (Reads.DR Pb.out) RB1.out (by omega) (by omega) HC.out).mono ?_;rintro e w2 ⟨A3,c3,L3,rfl,Y5,JN,DT⟩;have sQ:=I Y5;have HO3:=I (DX JN (base':=w.heap.size+1) (by omega));have Et:=(HK.out.below Ii.out (by omega)).below DT (by omega);have dI:=I (HB.out.trans ((Ii.out.mono (by omega)).trans (DT.mono (by omega))));have hO:i<O.length:=by have:=HQO.out;omega
    have d0:=Et.cell i;have d1:(LI O)[i]? =some (.bool O[i]):=by simp[LI,hO]
    rw[d1]at d0;have d2:=Et.frozen i;have HK2:=I Et;have HC3:=I Y5.1;clear Y5 JN DT Et d1;go_wp2
    go_roundw
    case rel=>
     refine⟨_,rfl,A3,c3,O.set i true,L3,rfl,by omega,by omega,?_,?_,?_,?_⟩
     ·rw[show((i:Int)- 1+1).toNat=i by omega]
      have e:=sQ.out;exact jf WY HV.out HQ'.out (by rw[<-tc.out];exact HC.out) (by rw[e.1,tc.out]) (by rw[e.2,tc.out])
     ·have:=HK2.out.De i (.bool true)
      rw[fM]at this;exact this
     ·exact DV HO3.out (by simp) _
     ·exact dI.out.setCell (by simp) _
    case measure=>simp[intOf]<;>omega
   ·have YW:=Ub (show Bt.val L1<Bt.val lb by omega)
    have HC:=I oS;clear oS;have RB1:=I ((RB.out.below Ii.out (by omega)).more (B':=w1.heap.size) (by omega));go_wp2_with fail
    refine(SW A2 B L1 lb c2 cb w1.heap.size w1 (Reads.DR Pb.out) RB1.out (by omega) (by omega)).mono ?_;rintro e w' ⟨rfl,rfl⟩;go_wp2
    go_roundw
    case rel=>
     refine⟨_,rfl,A2,c2,O,L1,rfl,by omega,by omega,?_,HK.out.below Ii.out (by omega),DX Pb.out (by omega),HB.out.trans (Ii.out.mono (by omega))⟩;rw[show((i:Int)- 1+1).toNat=i by omega,tc.out];exact mG WY HV.out HQ'.out (by rw[<-tc.out];have:=HC.out;omega)
    case measure=>simp[intOf]<;>omega
  ·clear hq DL Hh DY hqo
   go_wp2
   go_ret2
   have e0:(j+1).toNat=0:=by omega
   have hq:=HQ.out;rw[e0]at hq;obtain⟨q1,q2,q3,q4,q5⟩:=hq;simp at q3 q4 q5;refine⟨A1,la.length,c1,O,L,?_,q3,q5,q1,q4,fy O HK.out,Reads.DR HO.out,HB.out⟩;rw[q1];rfl
theorem Xl(A:Option Addr)(la:List Bool)(ca:Nat)(w:World)(ha:Reads w w.heap.size 1 A la.length (la.map Value.bool))(la1:la.length<=1000000)(n:Int)(h0:0<=n)(h1:n<=1000000):
 Calls prog 138 #[.slice A la.length ca,.int .i64 n] w (KU (fun l=>l=List.replicate n.toNat false++la) w):=by
 obtain⟨i0,hi,Fq,FZ,Fe⟩:=AO Tryz.XR;obtain⟨m,rfl⟩:=Bo h0;rw[Bp];have HA:=I ha;clear ha;go_in;go_wp2_with (at_make;refine wpList_make_full w rfl _ _ _ rfl w.heap.size 4 i0 (.bool false) 1 underlying82 hi Fq FZ .i64 .i64 _ _ m rfl rfl rfl rfl ?c1 ?c2 ?c3 ?_)
 case c1=>rw[Fe];omega
 case c2=>unfold maxLen;omega
 case c3=>omega
 intro w1 DL hg;rw[XU]at DL;have DY:Below w.heap.size w w1:=⟨hg.os,hg.tape,hg.output,hg.size,fun k hk=>hg.block k hk (by simp)⟩;have HR:=HA.out.below DY AB;have ER:=hg.size;have HB:=I DY;clear DY hg;go_wp2_with (at_builtin;refine EU w1 rfl _ _ 82 rfl w.heap.size 4 i0 (.bool false) 1 1 underlying82 hi Fq FZ Fe rfl (by decide) _ _ _ rfl DL _ _ _ _ _ rfl HR (Pu _) ?c1 ?c2 ?c3 ?_)
 case c1=>unfold maxLen;omega
 case c2=>omega
 case c3=>omega
 intro v' w2 Ng DK;obtain⟨A2,c2,rfl⟩:=Cz Ng;go_wp2;go_ret;have hl:(List.replicate m false++la).length=m+la.length:=by simp
 refine⟨A2,c2,_,by rw[hl];rfl,rfl,?_,HB.out.trans DK⟩;rw[hl,BP,List.map_replicate];exact Ng
theorem X7{la lb l:List Bool}(h:YS la lb l)(ha:Bt.Norm la)(hb:Bt.Norm lb):Bt.Norm l:=by
 obtain⟨h1,h2,h3,h4⟩:=h;rcases Ah (max la.length lb.length) l.length with hx|hx
 ·have e:l.length=max la.length lb.length+1:=by omega
  have:=h4 e;exact .inr (by rw[e,Ar];omega)
 ·have e:l.length=max la.length lb.length:=by omega
  rcases Ah la.length lb.length with ho|ho
  ·rcases hb with rfl|hb
   ·simp at ho
   ·exact .inr (by rw[e,Nat.max_eq_right (by omega)];omega)
  ·rcases ha with rfl|ha
   ·left
    have:l.length=0:=by rw[e];simp at ho⊢;exact ho
    exact Bn this
   ·exact .inr (by rw[e,Nat.max_eq_left ho];omega)
theorem dK(k:Nat){lb:List Bool}(h:Bt.Norm lb)(GI:lb≠ []):Bt.Norm (List.replicate k false++lb):=by
 rcases h with h|h
 ·exact absurd h GI
 ·refine .inr ?_
  rw[SY,AN,List.length_replicate,Bg,ASw];exact Bb _ h
def QI(la lb:List Bool)(k:Nat)(l:List Bool):Prop:=
 Bt.val l=Bt.val (la.take k)*Bt.val lb/\l.length<=k+lb.length/\(Bt.Norm lb->lb≠ []->Bt.Norm l)
theorem lZ{la lb l l':List Bool}{k:Nat}(hk:k<la.length)(hb:la[k]=true)(h:QI la lb k l)(hp:YS l (List.replicate k false++lb) l'):QI la lb (k+1) l':=by
 obtain⟨h1,h2,h3⟩:=h;have ZP:=hp;obtain⟨p1,p2,p3,_⟩:=hp;refine⟨?_,?_,fun hn GI=>X7 ZP (h3 hn GI) (dK k hn GI)⟩
 ·rw[p1,SY,h1,Ke la k hk hb,BV]
 ·simp at p3
  omega
theorem jN{la lb l:List Bool}{k:Nat}(hk:k<la.length)(hb:la[k]=false)(h:QI la lb k l):QI la lb (k+1) l:=by
 obtain⟨h1,h2,h3⟩:=h;exact⟨by rw[h1,QH la k hk hb],by omega,h3⟩
def vo(la lb:List Bool)(w:World)(v:Value)(k:Nat)(wr:World):Prop:=
 ∃A c l,v=.slice A l.length c/\k<=la.length/\QI la lb k l/\wr.ownsRow w.heap.size 4 1 (.slice A l.length c) l.length (l.map Value.bool)/\Below w.heap.size w wr
theorem LN(A B:Option Addr)(la lb:List Bool)(ca cb:Nat)(w:World)(ha:Reads w w.heap.size 1 A la.length (la.map Value.bool))(hb:Reads w w.heap.size 1 B lb.length (lb.map Value.bool))
 (la1:la.length<=400000) (lb1:lb.length<=400000):
 Calls prog 34 #[.slice A la.length ca,.slice B lb.length cb] w (KU (QI la lb la.length) w):=by
 go_in;go_wp2;go_loopw [5,10] (fun v iv wr=>∃(k:Nat),iv=.int .i64 k/\vo la lb w v k wr) (fun _ iv _=>la.length- (intOf iv).toNat)
 case atStart=>exact⟨0,rfl,none,0,[],rfl,AM _,⟨by simp,by simp,fun _ _=>Bt.Uu⟩,AX _ _ _ _,AA⟩
 case round=>
  obtain⟨k,rfl,A1,c1,l,rfl,hk,hl,DL,DY⟩:=hrel;have hll:=hl.2.1;have HL:=I hl;have HO:=I DL;have N4:=I DY;have ER:=DY.size;by_cases DG:k<la.length
  ·obtain⟨b,off,rfl,oH,hc⟩:=(ha.below DY AB).addr (by omega)
   have FR:=hc k (.bool la[k]) (by simp[DG]);have RB:=I (hb.below DY AB);have RL:=I (Reads.DR DL);clear hc hl DL DY ha hb;by_cases Mz:la[k]=true
   ·rw[Mz]at FR
    have Nh:=I Mz;clear Mz;go_wp2_with fail
    refine(Xl B lb cb _ (RB.out.more ER) (by omega) _ (by omega) (by omega)).mono ?_;rintro e w1 ⟨A2,c2,l2,rfl,I4,WL,DK⟩;rw[Bp]at I4;have AL4:l2.length<=400000+k:=by rw[I4];simp;omega
    have Yc:=I I4;clear I4;have eD:=DK.size;go_wp2_with fail
    refine(Of A1 A2 l l2 c1 c2 _ ((RL.out.below DK AB).more eD) (Reads.DR WL) (by omega) (by omega)).mono ?_;rintro e w2 ⟨A3,c3,l3,rfl,Y5,JN,DT⟩;have sQ:=I Y5;have HO3:=I (DX JN (base':=w.heap.size) (by omega));have dI:=I (N4.out.trans ((DK.mono ER).trans (DT.mono (by omega))));clear Y5 JN DT DK WL;go_wp2
    go_roundw
    case rel=>exact⟨k+1,by go_num,A3,c3,l3,rfl,DG,lZ DG Nh.out HL.out (Yc.out▸sQ.out),HO3.out,dI.out⟩
    case measure=>simp[intOf]<;>omega
   ·have Q8:la[k]=false:=by simpa using Mz
    rw[Q8]at FR;have Nh:=I Q8;clear Mz Q8;go_wp2
    go_roundw
    case rel=>exact⟨k+1,by go_num,A1,c1,l,rfl,DG,jN DG Nh.out HL.out,HO.out,N4.out⟩
    case measure=>simp[intOf]<;>omega
  ·clear hl DL DY
   go_wp2;go_ret;obtain rfl:k=la.length:=by omega
   exact⟨A1,c1,l,rfl,HL.out,HO.out,N4.out⟩
theorem Qm(n:Int)(h0:0<=n)(h1:n<=9223372036854775807)(w:World):
 Calls prog 36 #[.int .i64 n] w fun e w'=>e=.returned (.agg #[.int .u64 (DB n.toNat),.int .u64 (DE n.toNat)])/\Below w.heap.size w w':=by
 have e1:DB n.toNat=0:=by unfold DB;omega
 have e2:DE n.toNat=n:=by unfold DE;omega
 rw[e1,e2];clear e1 e2;go_in;go_wp2;refine AF (v:=.agg #[.int .u64 0,.int .u64 n]) (by simp[results,results36,go_sem]) rfl ⟨rfl,?_⟩;exact AA.alloc AB _
theorem FE{P:Program}{w:World}{ops:Array Oper}{o:Oper}{a:Act}{K:Act->World->Prop}{Q:Exit->Act->World->Prop}{E:Prop}(La:o.guard=none)(s x:Operand)(t:TypeId)
 (ho:o.op=.call {callee:=.builtin .append,args:=#[s,x],argTypes:=#[t,t]})
 (base:Nat) (e:TypeId) (i:TypeInfo) (z:Value) (size bytes:Nat) (ht:P.underlying t=some (.slice e)) (hi:P.info? e=some i) (hz:i.zero=some z)
 (H7:i.size=size) (Y7:i.bytes=bytes) (Ts:z.cells.size=size) (ER:0<size)
 (v:Value) (n:Nat) (xs:List Value) (hs:a.eval s=v) (DL:w.ownsRow base e size v n xs)
 (B:Nat) (A:Option Addr) (m c:Nat) (news:List Value) (hx:a.eval x=.slice A m c) (hr:Reads w B size A m news) (h1:∀u∈news,u.oneCell'=true)
 (Xv:n+m<=maxLen) (G9:(n+m)*bytes<=140737488355328) (Gk:base<=w.heap.size)
 (h:∀v' w',w'.ownsRow base e size v' (n+m) (xs++news)->Below base w w'->K (a.put o.dst v') w'):
 if Region.wanted o (yielded ops a.tmps)=true then Oper.wp P o a w K Q else E:=by
 have hw:Region.wanted o (yielded ops a.tmps)=true:=by simp[Region.wanted,La]
 rw[AD hw];refine MO w s x t ho base e i z size bytes ht hi hz H7 Y7 Ts ER v n xs hs DL B A m c news hx hr h1 Xv G9 Gk fun v' w' h2 h3 h4=>h v' w' h2 ?_;have DG:=DL.lt;exact⟨h3.os,h3.tape,h3.output,h3.size,fun k hk=>h3.block k (by omega) (fun e=>by have:=DG k e.symm;omega)⟩
theorem Eu{w:World}{base:Nat}{e:TypeId}{size n:Nat}{v:Value}{xs:List Value}(h:w.ownsRow base e size v n xs)(hn:0<n):
 ∃g c,v=.slice (some ⟨g,0,none⟩) n c/\base<=g/\g<w.heap.size/\n<=c/\c<=maxLen/\∀k u,xs[k]? =some u->w.cell? ⟨g,k,none⟩=some u:=by
 have hc:=fun(g:Nat) (cap:Nat) (hv:v=.slice (some ⟨g,0,none⟩) n cap)=>h.cells (g:=g) (by rw[hv];rfl);rcases h.2 with⟨_,h0⟩|⟨g,cap,cur,hv,hb,hg,Qj,hm,hs,hx⟩
 ·omega
 ·exact⟨g,cap,hv,hb,(ASx.1 hg).1,Qj,hm,fun k u hu=>by
   have:=hc g cap hv k u hu;by_cases hk:k=0
   ·subst hk;simpa [Addr.add] using this
   ·simpa [Addr.add,hk] using this⟩
def WN(h l:Int)(n:Nat):Prop:=h=DB n/\l=DE n/\n<2^128
def s64(x y c:Int):Int:=(x+y+c)%18446744073709551616
def mp(x y c:Int):Int:=(x+y+c)/18446744073709551616
def d64(x y b:Int):Int:=(x-y-b)%18446744073709551616
def iV(x y b:Int):Int:=if x<y+b then 1 else 0
theorem nS(x y c:Int)(hx:0<=x/\x<=18446744073709551615)(hy:0<=y/\y<=18446744073709551615)(hc:0<=c/\c<=1):0<=mp x y c/\mp x y c<=1:=by unfold mp;omega
theorem sL(x y b:Int):0<=iV x y b/\iV x y b<=1:=by unfold iV;split<;>omega
def JE(n:Nat):Nat:=if n<2^128 then n else 0
def NR(n:Nat):Int:=if n<2^128 then 0 else 2
def Zw(a b:Nat):Int:=if b<=a then 0 else 7
theorem ZE(n:Nat):JE n<2^128:=by unfold JE;split<;>omega
theorem WN.mk'(n:Nat)(h:n<2^128):WN (DB n) (DE n) n:=⟨rfl,rfl,h⟩
theorem gx(x y c:Int)(hx:0<=x)(hy:0<=y)(Wf:0<=c)(hc:c<=1)(w:World):
 (callFunc 158 #[.int .u64 x,.int .u64 y,.int .u64 c]).run prog w=.ok (.value (.tuple #[.int .u64 (s64 x y c),.int .u64 (mp x y c)])) w:=by
 rw[ATo func158 (by kernel_rfl) (by kernel_rfl) (by kernel_rfl) (e:=add64Entry) (by kernel_rfl),run_add64 x y c hx hy Wf hc];rfl
theorem W8(a b:Nat):s64 (DE a) (DE b) 0=DE (a+b)/\s64 (DB a) (DB b) (mp (DE a) (DE b) 0)=DB ((a+b)%2^128)/\
 (mp (DB a) (DB b) (mp (DE a) (DE b) 0)=((a+b)/2^128:Nat)):=by
 unfold s64 mp DB DE;omega
theorem Og(ah al bh bl:Int)(a b:Nat)(ha:WN ah al a)(hb:WN bh bl b)(h:a+b<2^128)(w:World):
 Calls prog 74 #[.agg #[.int .u64 ah,.int .u64 al],.agg #[.int .u64 bh,.int .u64 bl]] w fun e w'=>
  e=.returned (.tuple #[.agg #[.int .u64 (DB (a+b)),.int .u64 (DE (a+b))],.int .i64 0])/\Below w.heap.size w w':=by
 obtain⟨rfl,rfl,ha⟩:=ha;obtain⟨rfl,rfl,hb⟩:=hb;obtain⟨e1,e2,e3⟩:=W8 a b;rw[B8 h]at e2;rw[Cq h]at e3;obtain⟨a1,a2⟩:=Eo a ha;obtain⟨a3,a4⟩:=Fy a;obtain⟨b1,b2⟩:=Eo b hb;obtain⟨b3,b4⟩:=Fy b;obtain⟨k0,k1⟩:=nS (DE a) (DE b) 0 ⟨a3,a4⟩ ⟨b3,b4⟩ (by omega);have E1:=I e1;have E2:=I e2;have hk:mp (DB a) (DB b) (mp (DE a) (DE b) 0)<=0:=by omega
 clear e1 e2 e3 ha hb h;go_in;go_wp2_with (first|simp only[gx (DE a) (DE b) 0 a3 b3 (Ct 0) (by decide)]|simp only[gx (DB a) (DB b) _ a1 b1 k0 k1])
 rw[E1.out,E2.out];refine AF (v:=.tuple #[.agg #[.int .u64 (DB (a+b)),.int .u64 (DE (a+b))],.int .i64 0]) (by simp[results,results74,go_sem]) rfl ⟨rfl,?_⟩;exact((AA.alloc AB _).alloc (by simp) _).alloc (by simp;omega) _
theorem Vo(ah al bh bl:Int)(a b:Nat)(ha:WN ah al a)(hb:WN bh bl b)(h:2^128<=a+b)(w:World):
 Calls prog 74 #[.agg #[.int .u64 ah,.int .u64 al],.agg #[.int .u64 bh,.int .u64 bl]] w fun e w'=>
  e=.returned (.tuple #[.agg #[.int .u64 0,.int .u64 0],.int .i64 2])/\Below w.heap.size w w':=by
 obtain⟨rfl,rfl,ha⟩:=ha;obtain⟨rfl,rfl,hb⟩:=hb;obtain⟨e1,e2,e3⟩:=W8 a b;obtain⟨a1,a2⟩:=Eo a ha;obtain⟨a3,a4⟩:=Fy a;obtain⟨b1,b2⟩:=Eo b hb;obtain⟨b3,b4⟩:=Fy b;obtain⟨k0,k1⟩:=nS (DE a) (DE b) 0 ⟨a3,a4⟩ ⟨b3,b4⟩ (by omega);have hk:0<mp (DB a) (DB b) (mp (DE a) (DE b) 0):=by
  rw[e3];have:1<=(a+b)/2^128:=by rw[ATB (by decide)];omega
  omega
 clear e1 e2 e3 ha hb h;go_in;go_wp2_with (first|simp only[gx (DE a) (DE b) 0 a3 b3 (Ct 0) (by decide)]|simp only[gx (DB a) (DB b) _ a1 b1 k0 k1])
 refine AF (v:=.tuple #[.agg #[.int .u64 0,.int .u64 0],.int .i64 2]) (by simp[results,results74,go_sem]) rfl ⟨rfl,?_⟩;exact((AA.alloc AB _).alloc (by simp) _).alloc (by simp;omega) _
theorem KZ(ah al bh bl:Int)(a b:Nat)(ha:WN ah al a)(hb:WN bh bl b)(w:World):
 Calls prog 74 #[.agg #[.int .u64 ah,.int .u64 al],.agg #[.int .u64 bh,.int .u64 bl]] w fun e w'=>
  e=.returned (.tuple #[.agg #[.int .u64 (DB (JE (a+b))),.int .u64 (DE (JE (a+b)))],.int .i64 (NR (a+b))])/\Below w.heap.size w w':=by
 unfold JE NR;by_cases h:a+b<2^128
 ·rw[AD h,AD h];exact Og ah al bh bl a b ha hb h w
 ·rw[AC h,AC h];exact Vo ah al bh bl a b ha hb (by omega) w
theorem uJ(a b:Nat):a<b↔(DB a<DB b\/(DB a=DB b/\DE a<DE b)):=by unfold DB DE;omega
theorem vP(a b:Nat):a=b↔(DB a=DB b/\DE a=DE b):=by unfold DB DE;omega
theorem PF(ah al bh bl:Int)(a b:Nat)(ha:WN ah al a)(hb:WN bh bl b)(w:World):
 Calls prog 161 #[.agg #[.int .u64 ah,.int .u64 al],.agg #[.int .u64 bh,.int .u64 bl]] w fun e w'=>e=.returned (.int .i64 (GU a b))/\Below w.heap.size w w':=by
 obtain⟨rfl,rfl,ha⟩:=ha;obtain⟨rfl,rfl,hb⟩:=hb;have hl:=uJ a b;have he:=vP a b;have DY:∀o1 o2,Below w.heap.size w ((w.alloc o1).alloc o2):=fun o1 o2=>(AA.alloc AB _).alloc (by simp) _;have N4:=I DY;clear ha hb DY;by_cases h1:DB a=DB b
 ·by_cases h2:DE a=DE b
  ·have h3:a=b:=he.2 ⟨h1,h2⟩
   subst h3;clear hl he h1 h2;go_in;go_wp2;go_ret;exact⟨D7 (by simp[GU]),N4.out _ _⟩
  ·have h2b:(DE a==DE b)=false:=by simpa using h2
   rw[h1];have HL:=I hl;have HE:=I he;have H1:=I h1;have H2:=I h2;rcases Int.lt_or_gt_of_ne h2 with h3|h3
   ·clear hl he h1 h2
    go_in;go_wp2;go_ret;have:a<b:=HL.out.2 (.inr ⟨H1.out,h3⟩);exact⟨D7 (by simp[GU,this]),N4.out _ _⟩
   ·clear hl he h1 h2
    go_in;go_wp2;go_ret;have h4:¬a<b:=fun h=>by
     have:=HL.out.1 h;have:=H1.out;omega
    have h5:a≠b:=fun h=>H2.out (HE.out.1 h).2;have h6:b<a:=by omega
    exact⟨D7 (by simp[GU,h4,h6]),N4.out _ _⟩
 ·have h2b:(DB a==DB b)=false:=by simpa using h1
  have HL:=I hl;have HE:=I he;have H1:=I h1;rcases Int.lt_or_gt_of_ne h1 with h3|h3
  ·clear hl he h1
   go_in;go_wp2;go_ret;have:a<b:=HL.out.2 (.inl h3);exact⟨D7 (by simp[GU,this]),N4.out _ _⟩
  ·clear hl he h1
   go_in;go_wp2;go_ret;have h4:¬a<b:=fun h=>by
    have:=HL.out.1 h;omega
   have h5:a≠b:=fun h=>H1.out (HE.out.1 h).1;have h6:b<a:=by omega
   exact⟨D7 (by simp[GU,h4,h6]),N4.out _ _⟩
theorem Jo:(Tryz.prog.info? 3).map (fun i=>(i.zero,i.size,i.bytes))=some (some (.int .i64 0),1,8):=by kernel_rfl
theorem JD(l:List Int):∀u∈DF l,u.oneCell'=true:=by
 intro u hu;obtain⟨x,_,rfl⟩:=BD.1 hu;rfl
def xH(l:List Int)(w:World)(e:Ending)(w':World):Prop:=∃A c,e=.returned (.slice A l.length c)/\w'.ownsRow w.heap.size 3 1 (.slice A l.length c) l.length (DF l)/\Below w.heap.size w w'
theorem MX(A:Option Addr)(c B n:Nat)(l:List Int)(hn:l.length=n)(MH:n<=100000)(w:World)(hr:Reads w B 1 A n (DF l))(hB:B<=w.heap.size):
 Calls prog 231 #[.slice A n c] w (xH l w):=by
 have HN:=I hn;have HR:=I hr;have FK:=I hB;rcases A with _|ad
 ·have hl:l=[]:=by
   rcases Ac n with h|h
   ·exact Bn (by omega)
   ·obtain⟨ad,h',_⟩:=hr.2 h;cases h'
  subst hl;obtain rfl:n=0:=hn.symm;have kC:=fun w=>AS0 (P:=prog) w 53 3 none 0 c 0 0 underlying53;clear hr hB MH;go_in;go_wp2;go_ret;exact⟨none,0,rfl,AX _ _ _ _,AA⟩
 ·have kC:=fun w=>AS0 (P:=prog) w 53 3 (some ad) n c 0 0 underlying53
  obtain⟨i0,hi,Fq,FZ,Fe⟩:=AO Jo;have DL:(w.alloc (.cells #[] 3)).ownsRow w.heap.size 3 1 (.slice (some ⟨w.heap.size,0,none⟩) 0 0) 0 []:=
   ⟨rfl,.inr ⟨w.heap.size,0,#[],rfl,AB,Ci w _,AB,by unfold maxLen;omega,rfl,rfl⟩⟩
  have HO:=I DL;have HRA:=I (hr.alloc hB (.cells #[] 3));clear hn hr hB DL;go_in;go_wp2_with (at_builtin;refine EU _ rfl _ _ 53 rfl w.heap.size 3 i0 (.int .i64 0) 1 8 underlying53 hi Fq FZ Fe rfl (by decide) _ _ _ rfl HO.out _ _ _ _ _ rfl HRA.out (JD l) ?c1 ?c2 ?c3 ?_)
  case c1=>unfold maxLen;omega
  case c2=>omega
  case c3=>simp
  intro v' w2 Ng DK;obtain⟨A2,c2,rfl⟩:=Cz Ng;go_wp2;go_ret;have hl:n=l.length:=HN.out.symm;refine⟨A2,c2,by rw[<-hl];rfl,?_,(AA.alloc AB _).trans DK⟩;rw[<-hl]
  simpa using Ng
def Hs(l:List Int)(k j:Nat):Int:=((l.drop 1).take j).foldl (fun m v=>Pt m v k) (256*l.getD 0 0)
theorem uA(m v:Int)(k:Nat)(h:M7 m v k):0<=Pt m v k/\Pt m v k<=4294967296:=by
 obtain⟨m0,m1,v0,v1,k0,k1⟩:=h;have:=mN k (by omega) (fun _ p=>0<=m+(256*v-m)/(p:Int)/\m+(256*v-m)/(p:Int)<=4294967296)
  (by omega) (by omega) (by omega) (by omega) (by omega) (by omega) (by omega) (by omega) (by omega)
 unfold Pt
 simpa using this
theorem QM(l:List Int)(k j:Nat)(h:j+1<l.length):Hs l k (j+1)=Pt (Hs l k j) (l.getD (j+1) 0) k:=by
 unfold Hs;have hj:j<(l.drop 1).length:=by rw[CX];omega
 rw[ASy,ASg,AU hj];have e:1+j=j+1:=by omega
 simp[List.getD,AU h,e]
theorem Uh(l:List Int)(k:Nat)(hk:k<=8)(hv:l.any IM=false)(hl:0<l.length):∀j,j<l.length->0<=Hs l k j/\Hs l k j<=4294967296:=by
 intro j;induction j with
 |zero=>
  intro h;have:=KR hv 0 h;simp only[Hs,ATp,List.foldl_nil];omega
 |succ j ih=>
  intro h;rw[QM l k j h];obtain⟨i0,i1⟩:=ih (by omega);obtain⟨v0,v1⟩:=KR hv (j+1) h;exact uA _ _ _ ⟨i0,i1,v0,v1,by omega,by omega⟩
theorem t7(A:Option Addr)(c B n k:Nat)(l:List Int)(hn:l.length=n)(he:EZ l=0)(h1:1<=n)(hk:k<=8)(hc:n<=c)(hm:c<=maxLen)(w:World)(hr:Reads w B 1 A n (DF l)):
 Calls prog 105 #[.slice A n c,.int .i64 k] w fun e w'=>e=.returned (.tuple #[.int .i64 (Hs l k (n- 1)),.int .i64 0])/\w=w':=by
 have HN:=I hn;have HE:=I he;have HC:=I hr;have MH:n<=64:=by rw[<-hn];exact(Dk he).1
 obtain⟨b,off,rfl,hb,EC⟩:=hr.addr (by omega);have WT:=I EC;have FR:=EC 0 _ (Fp l 0 (by omega));have hv0:=KR (Dk he).2 0 (by omega);have HB:=I (fun j (hj:j<n)=>Uh l k hk (Dk he).2 (by omega) j (by omega));have HV:=I (fun j (hj:j<n)=>KR (Dk he).2 j (by omega));have HS:=I (fun j (hj:j+1<n)=>QM l k j (by omega));have H0:=I (show Hs l k 0=256*l.getD 0 0 by simp[Hs]);clear hn he hr EC;simp only[AW]at FR;generalize hx:l.getD 0 0=x at*;clear hx;obtain⟨x0,x1⟩:=hv0;by_cases Qi:c=1
 ·subst Qi
  have h2:n=1:=by omega
  have HR:=I (show Hs l k (n- 1)=256*x by rw[h2];exact H0.out);have h3:n<=1:=hc;clear h2;go_in;go_wp2_with fail
  refine(IR _ _ _ l n HN.out _ HE.out (by omega) _ HC.out).mono ?_;rintro e w' ⟨rfl,rfl⟩;go_wp2;go_loop [7,31] (fun m i=>m=.int .i64 (256*x)/\i=.int .i64 0) (fun _ i=>0)
  case atStart=>exact⟨rfl,rfl⟩
  case round=>
   obtain⟨rfl,rfl⟩:=hrel;go_wp2;first|rw[HR.out]|rw[H0.out]
   refine AF (v:=.tuple #[.int .i64 (256*x),.int .i64 0]) (by simp[results,results105,go_sem]) rfl ⟨rfl,rfl⟩
 ·have Rm:¬(c:Int)=1:=by omega
  have hnz:((n:Int)==0)=false:=by simp;omega
  go_in;go_wp2_with fail
  refine(IR _ _ _ l n HN.out _ HE.out (by omega) _ HC.out).mono ?_;rintro e w' ⟨rfl,rfl⟩;go_wp2;go_loop [7,31] (fun m i=>∃j:Nat,j<=n- 1/\i=.int .i64 j/\m=.int .i64 (Hs l k j)) (fun _ i=>n- (intOf i).toNat)
  case atStart=>exact⟨0,AM _,rfl,by rw[H0.out]⟩
  case round=>
   obtain⟨j,hj,rfl,rfl⟩:=hrel;obtain⟨r0,r1⟩:=HB.out j (by omega);by_cases DG:j<n- 1
   ·have hcj:=WT.out (j+1) _ (Fp l (j+1) (by rw[HN.out];omega))
    have AJI:w.cell? ⟨b,off+1+j,none⟩=some (.int .i64 (l.getD (j+1) 0)):=by rw[show off+1+j=off+(j+1)by omega];exact hcj
    clear hcj;have hvj:=HV.out (j+1) (by omega);have HSJ:=I (HS.out j (by omega));generalize hy:l.getD (j+1) 0=y at*;clear hy;obtain⟨y0,y1⟩:=hvj;generalize hz:Hs l k j=z at*;clear hz;have ha:M7 z y k:=⟨r0,r1,y0,y1,by omega,by omega⟩;have HA:=I ha;clear ha;go_wp2_with (go_at_call 172;refine(oF z y k HA.out _).mono ?_;rintro e w' ⟨rfl,rfl⟩)
    go_round
    case rel=>exact⟨j+1,DG,by simp,by rw[HSJ.out]⟩
    case measure=>simp[intOf];omega
   ·have zH:j=n- 1:=by omega
    have HJ:=I (show Hs l k j=Hs l k (n- 1)by rw[zH]);have Py:n<=j+1:=by omega
    clear zH;go_wp2;rw[<-HJ.out];refine AF (v:=.tuple #[.int .i64 (Hs l k j),.int .i64 0]) (by simp[results,results105,go_sem]) rfl ⟨rfl,rfl⟩
theorem wQ(n s q:Int)(he:Gn n s q=0)(hz:1<=n)(w:World):
 Calls prog 96 #[.agg #[.int .i64 n,.int .i64 s,.int .i64 q]] w fun e' w'=>e'=.returned (.tuple #[.int .i64 (s/n),.int .i64 0])/\Below w.heap.size w w':=by
 have HE:=I he;clear he;obtain⟨b1,b2,b3,b4,b5,b6⟩:=(Dx HE.out).1.bounds;obtain⟨h0,h1,h2,h3,h4,h5⟩:=(Dx HE.out).1;have E:=I ((AI w).lay #[.int .i64 n,.int .i64 s,.int .i64 q] 96);go_in;go_wp2_with fail
 refine(Mb _ _ _ _ HE.out _).mono ?_;rintro e' w1 ⟨rfl,C6⟩;have E1:=I (E.out.below C6);clear C6;have p0:=E1.out.hd.lt;have a0:=E1.out.hd.cell 0;have a1:=E1.out.hd.cell 1;have a2:=E1.out.hd.cell 2;simp at a0 a1 a2 p0;go_wp2;refine AF (v:=.tuple #[.int .i64 (s/n),.int .i64 0]) (by simp[results,results96,go_sem]<;>omega) rfl ⟨rfl,E1.out.DI⟩
theorem ue(A:Option Addr)(c B n:Nat)(l:List Int)(hn:l.length=n)(e:Int)(he:EZ l=e)(hz:e≠0)(hc:n<=c)(hm:c<=maxLen)(w:World)(hr:Reads w B 1 A n (DF l))(hB:B<=w.heap.size):
 Calls prog 167 #[.slice A n c] w fun e' w'=>e'=.returned (.tuple #[.agg #[.int .i64 0,.int .i64 0,.int .i64 0],.int .i64 e])/\Below w.heap.size w w':=by
 have HN:=I hn;have HE:=I he;have HC:=I ((hr.alloc hB (.cells #[.int .i64 0,.int .i64 0,.int .i64 0] 96)));have E:=I ((AI w).lay #[.int .i64 0,.int .i64 0,.int .i64 0] 96);clear hn he hr;go_in;go_wp2_with fail
 refine(IR _ _ _ l n HN.out _ HE.out (by omega) _ HC.out).mono ?_;rintro e' w' ⟨rfl,rfl⟩;go_wp2;refine AF (v:=.tuple #[.agg #[.int .i64 0,.int .i64 0,.int .i64 0],.int .i64 e]) (by simp[results,results167,go_sem]) rfl ⟨rfl,?_⟩;first|exact E.out.DI|exact((E.out.DI.setCell (by simp<;>omega) _).setCell (by simp<;>omega) _).setCell (by simp<;>omega) _
theorem ABb(A:Option Addr)(c B n:Nat)(l:List Int)(hn:l.length=n)(he:EZ l=0)(hc:n<=c)(hm:c<=maxLen)(w:World)(hr:Reads w B 1 A n (DF l))(hB:B<=w.heap.size):
 Calls prog 167 #[.slice A n c] w fun e' w'=>e'=.returned (.tuple #[.agg #[.int .i64 n,.int .i64 (t1 l n),.int .i64 (t2 l n)],.int .i64 0])/\Below w.heap.size w w':=by
 have HN:=I hn;have HE:=I he;have MH:n<=64:=by rw[<-hn];exact(Dk he).1
 have HC:=I ((hr.alloc hB (.cells #[.int .i64 0,.int .i64 0,.int .i64 0] 96)));have HR:=I hr;have HV:=I (fun j (hj:j<n)=>KR (Dk he).2 j (by omega));have HT:=I (fun j=>AHB l j (Dk he).2 (Dk he).1);have HS:=I (fun j (hj:j<n)=>AAY l j (by omega));have E:=I ((AI w).lay #[.int .i64 0,.int .i64 0,.int .i64 0] 96);have FK:=I hB;clear hn he hr hB;go_in;go_wp2_with fail
 refine(IR _ _ _ l n HN.out _ HE.out (by omega) _ HC.out).mono ?_;rintro e' w' ⟨rfl,rfl⟩;go_wp2;go_loopw [7,19] (fun v i wr=>∃k:Nat,k<=n/\i=.int .i64 k/\Env w wr [(w.heap.size+1,96,#[.int .i64 n,.int .i64 (t1 l k),.int .i64 (t2 l k)]),(w.heap.size,96,#[.int .i64 0,.int .i64 0,.int .i64 0])]) (fun _ i _=>n- (intOf i).toNat)
 case atStart=>
  have e0:t1 l 0=0/\t2 l 0=0:=⟨rfl,rfl⟩;refine⟨0,AM _,rfl,?_⟩;rw[e0.1,e0.2];have:=E.out.lay #[.int .i64 n,.int .i64 0,.int .i64 0] 96
  simpa using this
 case round=>
  obtain⟨k,hk,rfl,hrel⟩:=hrel;have F:=I hrel;have RL:=I (HR.out.below hrel.DI FK.out);clear hrel;obtain⟨y0,y1,y2,y3⟩:=HT.out k;have p0:=F.out.hd.lt;have a0:=F.out.hd.cell 0;have a1:=F.out.hd.cell 1;have a2:=F.out.hd.cell 2;have f1:=F.out.hd.frozen 1;have f2:=F.out.hd.frozen 2;have b0:=F.out.tl.hd.cell 0;have b1:=F.out.tl.hd.cell 1;have b2:=F.out.tl.hd.cell 2;have g0:=F.out.tl.hd.frozen 0;have g1:=F.out.tl.hd.frozen 1;have g2:=F.out.tl.hd.frozen 2;simp at a0 a1 a2 b0 b1 b2;by_cases DG:k<n
  ·obtain⟨b,off,rfl,hb,EC⟩:=RL.out.addr (by omega)
   have FR:=EC k _ (Fp l k (by rw[HN.out];exact DG));obtain⟨x0,x1⟩:=HV.out k DG;have HSK:=I (HS.out k DG);have z0:=Bq x0 x0;have z1:=BT x1 x1 x0 (by omega:(0:Int)<=16777216);clear EC;have HB:=I hb;clear hb;generalize hx:l.getD k 0=x at*;clear hx;generalize hs:t1 l k=s at*;generalize hq:t2 l k=q at*;clear hs hq;go_wp2
   go_roundw
   case rel=>
    refine⟨k+1,DG,by simp,?_⟩;rw[HSK.out.1,HSK.out.2];have:=(F.out.pD (by simp) 1 (.int .i64 (s+x))).pD (by simp) 2 (.int .i64 (q+x*x))
    simpa using this
   case measure=>simp[intOf];omega
  ·have Te:k=n:=by omega
   have HK:=I Te;have hnk:n<=k:=by omega
   clear Te;rw[<-HK.out];generalize hs:t1 l k=s at*;generalize hq:t2 l k=q at*;have zi:=I hs;have HQ1:=I hq;clear hs hq;go_wp2;refine AF (v:=.tuple #[.agg #[.int .i64 k,.int .i64 s,.int .i64 q],.int .i64 0]) (by simp[results,results167,go_sem,HK.out, *]) rfl ⟨by rw[<-HK.out,zi.out,HQ1.out],?_⟩;exact((F.out.DI.setCell (by simp<;>omega) _).setCell (by simp<;>omega) _).setCell (by simp<;>omega) _
theorem Yl(l:List Int)(h:l.any IM=false)(MH:l.length<=64):0<=s1 l/\s1 l<=1073741824/\0<=s2 l/\s2 l<=18014398509481984:=by
 obtain⟨a,b,c,d⟩:=rX l h;refine⟨a,by omega,c,by omega⟩
theorem iJ:∀(l:List Int),l.any IM=false->l.length<=64->∀(A:Option Addr)(c B:Nat)(w:World),l.length<=c->c<=maxLen->Reads w B 1 A l.length (DF l)->B<=w.heap.size->
 Calls prog 46 #[.slice A l.length c] w fun e' w'=>e'=.returned (.agg #[.int .i64 l.length,.int .i64 (s1 l),.int .i64 (s2 l)])/\Below w.heap.size w w'
 | [],hv,MH,A,c,B,w,hc,hm,hr,hB=>by
   clear hr;show Calls _ _ #[.slice A 0 c] _ _;simp only[CZ,s1,s2];go_in;go_wp2;refine AF (v:=.agg #[.int .i64 0,.int .i64 0,.int .i64 0]) (by simp[results,results46,go_sem]) rfl ⟨rfl,?_⟩;exact AA.alloc AB _
 |x::l,hv,MH,A,c,B,w,hc,hm,hr,hB=>by
  have md:l.any IM=false:=by simp only[ATF,ATm]at hv;exact hv.2
  obtain⟨y0,y1,y2,y3⟩:=Yl l md (by simp at MH;omega);obtain⟨x0,x1⟩:=KR hv 0 (by simp);have ih:=iJ l md (by simp at MH;omega);obtain⟨b,off,rfl,hb,EC⟩:=hr.addr (by simp);have FR:=EC 0 _ (Fp (x::l) 0 (by simp));have ZM:(x::l).getD 0 0=x:=rfl;rw[ZM]at FR x0 x1;simp only[AW]at FR;have jJ:(x::l).length=l.length+1:=rfl;obtain⟨c',rfl⟩:∃c',c=c'+1:=⟨c- 1,by rw[jJ]at hc;omega⟩;have Sk:l.length<=c':=by rw[jJ]at hc;omega
  have S2:∀A',(l.length=0\/A'=some ⟨b,off+1,none⟩)->Reads w B 1 A' l.length (DF l):=by
   rintro A' h;refine⟨by simp[DF],fun hn=>?_⟩;rcases h with h|rfl
   ·omega
   ·refine⟨_,rfl,hb,fun j u hu=>?_⟩
    have:=EC (j+1) u (by simpa [DF] using hu);by_cases hj:j=0
    ·subst hj;simpa [Addr.add] using this
    ·simpa [Addr.add,hj,Bv,ASf 1] using this
  have IH:=I ih;have HT:=I S2;have FK:=I hB;have AEk:l.length<=63:=by rw[jJ]at MH;omega
  have Ld:s1 (x::l)=s1 l+x:=rfl;have WP:s2 (x::l)=s2 l+x*x:=rfl;rw[Ld,WP,jJ];have z0:=Bq x0 x0;have z1:=BT x1 x1 x0 (by omega:(0:Int)<=16777216);have APV:b<w.heap.size:=by omega
  clear ih EC hr hv md ZM jJ hc MH Ld WP S2 hB hb;have E:=I ((AI w).lay #[.int .i64 0,.int .i64 0,.int .i64 0] 96);generalize hn:l.length=n at*;have HN:=I hn;generalize hs:s1 l=s at*;generalize hq:s2 l=q at*;clear hn hs hq;by_cases Qi:c'=0
  ·subst Qi
   obtain rfl:n=0:=Nat.le_zero.1 Sk;go_in;go_wp2_with fail
   refine(IH.out _ _ B _ AB (by omega) ((HT.out _ (by simp)).alloc FK.out _) (by have:=FK.out;simp;omega)).mono ?_;rintro e' w1 ⟨rfl,C6⟩;have E1:=I ((E.out.below C6).lay #[.int .i64 0,.int .i64 s,.int .i64 q] 96);have Ve:=(C6.cell (p:=⟨b,off,none⟩) (by simp;omega)).trans ((Bm w _ ⟨b,off,none⟩ (by omega)).trans FR);have AAq:b<w1.heap.size:=by have:=C6.size;simp at this;omega
   clear C6 FR;go_wp2_with fail
   have HCW:=I ((Bm w1 (.cells #[.int .i64 0,.int .i64 s,.int .i64 q] 96) ⟨b,off,none⟩ AAq).trans Ve);clear Ve;generalize hW:w1.alloc (.cells #[.int .i64 0,.int .i64 s,.int .i64 q] 96)=W2 at*;clear hW;have q0:=E1.out.hd.lt;have a0:=E1.out.hd.cell 0;have a1:=E1.out.hd.cell 1;have a2:=E1.out.hd.cell 2;have b0:=E1.out.tl.hd.cell 0;have b1:=E1.out.tl.hd.cell 1;have b2:=E1.out.tl.hd.cell 2;have f0:=E1.out.tl.hd.frozen 0;have f1:=E1.out.tl.hd.frozen 1;have f2:=E1.out.tl.hd.frozen 2;have q1:=E1.out.tl.hd.lt;simp at a0 a1 a2 b0 b1 b2;have zu:W2.cell? ⟨b,off,none⟩=some (.int .i64 x):=HCW.out;go_region
   go_wp2;refine AF (v:=.agg #[.int .i64 1,.int .i64 (s+x),.int .i64 (q+x*x)]) (by simp[results,results46,go_sem, *]) rfl ⟨rfl,?_⟩;exact(((E1.out.DI.drew).setCell (by simp<;>omega) _).setCell (by simp<;>omega) _).setCell (by simp<;>omega) _
  ·have Rm:¬((c':Int)+1=1):=by omega
   go_in;go_wp2_with fail
   refine(IH.out _ _ B _ Sk (by omega) ((HT.out _ (.inr rfl)).alloc FK.out _) (by have:=FK.out;simp;omega)).mono ?_;rintro e' w1 ⟨rfl,C6⟩;have E1:=I ((E.out.below C6).lay #[.int .i64 n,.int .i64 s,.int .i64 q] 96);have Ve:=(C6.cell (p:=⟨b,off,none⟩) (by simp;omega)).trans ((Bm w _ ⟨b,off,none⟩ (by omega)).trans FR);have AAq:b<w1.heap.size:=by have:=C6.size;simp at this;omega
   clear C6 FR;go_wp2_with fail
   have HCW:=I ((Bm w1 (.cells #[.int .i64 n,.int .i64 s,.int .i64 q] 96) ⟨b,off,none⟩ AAq).trans Ve);clear Ve;generalize hW:w1.alloc (.cells #[.int .i64 n,.int .i64 s,.int .i64 q] 96)=W2 at*;clear hW;have q0:=E1.out.hd.lt;have a0:=E1.out.hd.cell 0;have a1:=E1.out.hd.cell 1;have a2:=E1.out.hd.cell 2;have b0:=E1.out.tl.hd.cell 0;have b1:=E1.out.tl.hd.cell 1;have b2:=E1.out.tl.hd.cell 2;have f0:=E1.out.tl.hd.frozen 0;have f1:=E1.out.tl.hd.frozen 1;have f2:=E1.out.tl.hd.frozen 2;have q1:=E1.out.tl.hd.lt;simp at a0 a1 a2 b0 b1 b2;have zu:W2.cell? ⟨b,off,none⟩=some (.int .i64 x):=HCW.out;go_region
   go_wp2;refine AF (v:=.agg #[.int .i64 (n+1),.int .i64 (s+x),.int .i64 (q+x*x)]) (by simp[results,results46,go_sem, *]) rfl ⟨rfl,?_⟩;exact(((E1.out.DI.drew).setCell (by simp<;>omega) _).setCell (by simp<;>omega) _).setCell (by simp<;>omega) _
