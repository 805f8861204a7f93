/- The reference's Sorted, -/
import Derived.Test.YthiplgekjgffkaaGreatDoorM06
import Derived.Test.YthiplgekjgffkaaGreatDoorM07
import Derived.Deep.DeepCutAuto
set_option maxRecDepth 100000
set_option maxHeartbeats 99000000
set_option linter.all false
namespace Go.Proofs.YthiplgekjgffkaaGreatDoor
open Go.Proofs.Tryz
open Go.RowKit
theorem dh:(Tryz.prog.info? 3).map (fun i=>(i.zero,i.size,i.bytes))=some (some (.int .i64 0),1,8):=by kernel_rfl
theorem qL(n:Nat):(madeCells #[Value.int .i64 0] n).toList=DF (List.replicate n 0):=by
 simp only[madeCells,DF,List.map_replicate];apply ASi<;>simp[Nat.mod_one]
theorem fu{w:World}{base:Nat}{e:TypeId}{g n:Nat}{xs:List Value}(h:w.ownsRow base e 1 (.slice (some ⟨g,0,none⟩) n n) n xs):DJ w g e xs.toArray/\base<=g:=by
 rcases h.2 with⟨h1,_⟩|⟨g',cap,cur,hv,hb,hg,Qj,hm,hs,hx⟩
 ·cases h1
 ·injection hv with h1 h2 h3
  injection h1 with h1
  injection h1 with h1
  subst h1 h3;have:cur.toList.length=n*1:=by rw[At];exact hs
  rw[AY (by omega)]at hx;subst hx;exact⟨hg,hb⟩
theorem mW(os:List Int)(r:Nat)(x:Int):(DF os).toArray.setIfInBounds r (.int .i64 x)=(DF (os.set r x)).toArray:=by
 simp[DF,Ck]
theorem DJ.gc{W:World}{g o:Nat}{t:TypeId}{cs:Array Value}{v:Value}(h:DJ W g t cs)(h2:cs[o]? =some v):W.cell? ⟨g,o,none⟩=some v:=(h.cell o).trans h2
theorem kw{w:World}{g n:Nat}{e:TypeId}{T:List Int}(h:DJ w g e (DF T).toArray)(hn:T.length=n):Reads w w.heap.size 1 (some ⟨g,0,none⟩) n (DF T):=
 ⟨by simp[DF,hn],fun _=>⟨_,rfl,h.lt,fun j u hu=>by
   have:=h.gc (v:=u) (o:=j) (by simpa using hu);show w.cell? (Addr.add ⟨g,0,none⟩ j)=some u;unfold Addr.add;split
   ·rename_i h0;rw[h0]at this;exact this
   ·simpa using this⟩⟩
theorem bR(A:Option Addr)(c n:Nat)(l T:List Int)(hT:So.Ik l T)(hn:l.length=n)(hm:n<=1000000)(w:World)(hr:Reads w w.heap.size 1 A n (DF l)):
 Calls prog 49 #[.slice A n c] w fun e w'=>∃A',e=.returned (.slice A' n n)/\Reads w' w'.heap.size 1 A' n (DF T)/\Below w.heap.size w w':=by
 obtain⟨i0,hi,Fq,FZ,Fe⟩:=AO dh;have HN:=I hn;have HT:=I hT;have HR:=I hr;clear hr hT hn;go_in;go_wp2_with (at_make;refine wpList_make_full w rfl _ _ _ rfl w.heap.size 3 i0 (.int .i64 0) 1 underlying53 hi Fq FZ .i64 .i64 _ _ n rfl rfl rfl rfl ?c1 ?c2 ?c3 ?_)
 case c1=>rw[Fe];omega
 case c2=>unfold maxLen;omega
 case c3=>omega
 intro w1 DL hg;rw[qL]at DL;have DY:Below w.heap.size w w1:=⟨hg.os,hg.tape,hg.output,hg.size,fun k hk=>hg.block k hk (by simp)⟩;have E:=I (show Env w w1 [(w.heap.size,3,(DF (List.replicate n 0)).toArray)]from⟨DY,fun x hx=>by
  simp at hx;subst hx;exact⟨AB,(fu DL).1⟩⟩)
 clear DL DY hg hi;go_wp2_with fail
 go_loopw [14] (fun iv wr=>∃(i:Nat)(os:List Int),i<=n/\iv=.int .i64 (i:Int)/\os.length=n/\(∀j,j<i->os[So.rk l j]? =T[So.rk l j]?)/\Env w wr [(w.heap.size,3,(DF os).toArray)]) (fun iv _=>n- (intOf iv).toNat)
 case atStart=>exact⟨0,List.replicate n 0,by omega,rfl,by simp,fun j hj=>absurd hj (by omega),E.out⟩
 case round=>
  obtain⟨i,os,fr,rfl,hos,oM,hE⟩:=hrel;have F:=I hE;have HOS:=I hos;have mc:=I oM;have RL:=I (HR.out.below hE.DI AB);clear hE oM hos E;by_cases DG:i<n
  ·obtain⟨b,off,rfl,hb,EC⟩:=RL.out.addr (by omega)
   have HB:=I hb;have HCE:=I (fun k (hk:k<n)=>EC k _ (Fp l k (by rw[HN.out];exact hk)));have FR:=HCE.out i DG;have HIL:=I (show i<l.length by rw[HN.out];exact DG);clear EC hb;obtain⟨x,hx⟩:∃x,x=l.getD i 0:=⟨_,rfl⟩;rw[<-hx]at FR;have HX:=I hx;clear hx;go_wp2_with fail
   go_loopw [6,21] (fun av kv wr'=>∃k:Nat,k<=n/\av=.int .i64 (So.cn l i k:Nat)/\kv=.int .i64 (k:Int)/\wr'=wr) (fun _ kv _=>n- (intOf kv).toNat)
   case atStart=>exact⟨0,by omega,by rw[So.u4];rfl,rfl,rfl⟩
   case round=>
    obtain⟨k,Te,rfl,rfl,rfl⟩:=hrel;by_cases hk:k<n
    ·have AET:=HCE.out k hk
     obtain⟨y,hy⟩:∃y,y=l.getD k 0:=⟨_,rfl⟩;rw[<-hy]at AET;have GB:=I (So.wm (l:=l) (i:=i) (k:=k) (by rw[HN.out];exact hk));rw[<-HX.out,<-hy]at GB;have Pj:So.cn l i k<=2*k:=So.AEB (by rw[HN.out];omega);have HY:=I hy;clear hy;obtain⟨c2,yu⟩:∃c2,c2=So.cn l i (k+1):=⟨_,rfl⟩;rw[<-yu]at GB;have ZT:=I yu;clear yu;generalize Qi:So.cn l i k=c1 at*;clear Qi;by_cases h1:y<x
     ·have Rm:=GB.out
      rw[AD (Or.inl h1)]at Rm;subst Rm;go_wp2
      go_roundw
      case rel=>exact⟨k+1,by omega,by rw[<-ZT.out];simp,by simp,by first|rfl|trivial⟩
      case measure=>simp[intOf];omega
     ·by_cases h2:y=x/\k<i
      ·have Rm:=GB.out
       rw[AD (Or.inr h2)]at Rm;subst Rm;obtain⟨rfl,h3⟩:=h2;go_wp2
       go_roundw
       case rel=>exact⟨k+1,by omega,by rw[<-ZT.out];simp,by simp,by first|rfl|trivial⟩
       case measure=>simp[intOf];omega
      ·have Rm:=GB.out
       rw[AC (fun h=>h.elim h1 h2),AW]at Rm;subst Rm;have h4:y≠x\/¬k<i:=by
        rcases Classical.em (y=x)with h|h
        ·exact .inr fun hk=>h2 ⟨h,hk⟩
        ·exact .inl h
       clear h2;rcases h4 with h4|h4
       ·have h5:(y==x)=false:=by simpa using h4
        go_wp2
        go_roundw
        case rel=>exact⟨k+1,by omega,by rw[<-ZT.out],by simp,by first|rfl|trivial⟩
        case measure=>simp[intOf];omega
       ·have h5:i<=k:=by omega
        clear h4;go_wp2;all_goals
         go_roundw
         case rel=>exact⟨k+1,by omega,by rw[<-ZT.out],by simp,by first|rfl|trivial⟩
         case measure=>simp[intOf];omega
    ·have AHt:k=n:=by omega
     subst AHt;have HCA:=I (show So.cn l i k=So.rk l i by rw[<-HN.out];exact So.ABd HIL.out);have hrk:So.rk l i<k:=by have:=So.yR HT.out HIL.out;rw[HN.out]at this;exact this
     rw[HCA.out];generalize hr:So.rk l i=r at*;have HRK:=I hr;clear hr HCA;have GR:=F.out.hd.gc (o:=r) (v:=.int .i64 (os.getD r 0)) (by simp;exact Fp os r (by rw[HOS.out];exact hrk));have hfz:=F.out.hd.frozen r;go_wp2
     go_roundw
     case rel=>
      refine⟨i+1,os.set r x,by omega,by simp,by rw[ASl];exact HOS.out,?_,?_⟩
      ·rw[HX.out,<-HRK.out]
       exact So.put HT.out HIL.out (by rw[HOS.out,HN.out]) mc.out
      ·rw[<-mW]
       exact F.out.yo (by simp) r (.int .i64 x)
     case measure=>simp[intOf];omega
  ·have d8:i=n:=by omega
   subst d8;have AHD:os=T:=So.done HT.out (by rw[HOS.out,HN.out]) (by rw[HN.out];exact mc.out);have HTL:=I (show T.length=i by rw[HT.out.2.length_eq,HN.out]);subst AHD;go_wp2;go_ret;exact⟨_,rfl,kw F.out.hd HTL.out,F.out.DI⟩
