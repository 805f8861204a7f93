/- What a line's words are -/
import Derived.Test.YthiplgekjgffkaaGreatDoorM49
import Derived.Test.YthiplgekjgffkaaGreatDoorM32
import Derived.Test.YthiplgekjgffkaaGreatDoorM16
set_option maxRecDepth 100000
set_option maxHeartbeats 99000000
set_option linter.all false
namespace Go.Proofs.YthiplgekjgffkaaGreatDoor
open Go.Proofs.Tryz
open Go.RowKit Go.Lib
structure Np where
 n:List Nat
 l:List Nat
 s:List ByteArray
 g:List Nat
def Sc{W W':World}{r:Option Nat}(h:W.grownBy W' r):Kept (fun k=>r=some k) W W':=(AH (fun k=>r=some k) W).grown h (fun k hk=>.inl hk)
theorem GJ{W:World}{B1 B2 n1 n2 z1 z2:Nat}{e1 e2:TypeId}{v1 v2:Value}{x1 x2:List Value}(h1:W.ownsRow B1 e1 z1 v1 n1 x1)(h2:W.ownsRow B2 e2 z2 v2 n2 x2)(he:e1≠e2):∀k,v1.ownBlock=some k->v2.ownBlock≠some k:=by
 intro k k1 k2;rcases h1.2 with⟨rfl,-⟩|⟨g1,c1,u1,rfl,-,b1,-⟩
 ·cases k1
 ·rcases h2.2 with⟨rfl,-⟩|⟨g2,c2,u2,rfl,-,b2,-⟩
  ·cases k2
  ·cases k1
   cases k2;have e:=b1.symm.trans b2;injection e with e
   injection e with _ e
   exact he e
theorem FP{W W':World}{B n z:Nat}{e:TypeId}{v:Value}{xs:List Value}{r:Option Nat}(h:W.ownsRow B e z v n xs)(hg:W.grownBy W' r)(hr:∀k,v.ownBlock=some k->r≠some k):W'.ownsRow B e z v n xs:=
 (Sc hg).own h (fun k hk hx=>hr k hk hx)
structure L4(w0 W:World)(nv lv sv gv:Value)(st:Np):Prop where
 n:W.ownsRow w0.heap.size 3 1 nv st.n.length (ET st.n)
 l:W.ownsRow w0.heap.size 3 1 lv st.l.length (ET st.l)
 s:W.ownsRow w0.heap.size 9 1 sv st.s.length (C7 st.s)
 g:W.ownsRow w0.heap.size 57 2 gv st.g.length (Ex st.g)
 nl:∀k,lv.ownBlock=some k->nv.ownBlock≠some k
 DI:Below w0.heap.size w0 W
section
variable{w0 W W1 W':World}{nv lv sv gv v':Value}{st:Np}
theorem L4.start(w:World):L4 w w (.slice none 0 0) (.slice none 0 0) (.slice none 0 0) (.slice none 0 0) ⟨[],[],[],[]⟩:=
 ⟨AX _ _ _ _,AX _ _ _ _,AX _ _ _ _,AX _ _ _ _,fun k h=>(by cases h),AA⟩
theorem L4.below(h:L4 w0 W nv lv sv gv st)(hb:Below W.heap.size W W1):L4 w0 W1 nv lv sv gv st:=by
 have K:Kept (fun _=>False) W W1:=Kept.DU hb;exact⟨K.own h.n (fun _ _ x=>x),K.own h.l (fun _ _ x=>x),K.own h.s (fun _ _ x=>x),K.own h.g (fun _ _ x=>x),h.nl,h.DI.trans (hb.mono h.DI.size)⟩
theorem L4.us(h:L4 w0 W nv lv sv gv st){r:Option Nat}{e:TypeId}{z n:Nat}{v:Value}{xs:List Value}(ho:W.ownsRow w0.heap.size e z v n xs)(hg:W.grownBy W' v.ownBlock):Below w0.heap.size w0 W':=
 h.DI.trans ((Sc hg).below (fun k hk=>(ho.lt k hk).1) h.DI.size)
theorem L4.AAb(h:L4 w0 W nv lv sv gv st)(k:Nat)(ho:W'.ownsRow w0.heap.size 3 1 v' (st.n.length+1) (ET st.n++[.int .i64 (k:Int)]))(hg:W.grownBy W' nv.ownBlock)(hb:v'.ownBlock=nv.ownBlock\/v'.ownBlock=some W.heap.size):L4 w0 W' v' lv sv gv {st with n:=st.n++[k]}:=by
 refine⟨?_,FP h.l hg h.nl,FP h.s hg (GJ h.s h.n (by decide)),FP h.g hg (GJ h.g h.n (by decide)),fun j hj e=>?_,h.us (r:=none) h.n hg⟩
 ·simpa [ET] using ho
 ·rcases hb with hb|hb
  ·exact h.nl j hj (hb.symm.trans e)
  ·have:=(h.l.lt j hj).2
   rw[hb]at e;cases e;omega
theorem L4.zn(h:L4 w0 W nv lv sv gv st)(k:Nat)(ho:W'.ownsRow w0.heap.size 3 1 v' (st.l.length+1) (ET st.l++[.int .i64 (k:Int)]))(hg:W.grownBy W' lv.ownBlock)(hb:v'.ownBlock=lv.ownBlock\/v'.ownBlock=some W.heap.size):L4 w0 W' nv v' sv gv {st with l:=st.l++[k]}:=by
 refine⟨FP h.n hg (fun j hj e=>h.nl j e hj),?_,FP h.s hg (GJ h.s h.l (by decide)),FP h.g hg (GJ h.g h.l (by decide)),fun j hj e=>?_,h.us (r:=none) h.l hg⟩
 ·simpa [ET] using ho
 ·rcases hb with hb|hb
  ·exact h.nl j (hb.symm.trans hj) e
  ·have:=(h.n.lt j e).2
   rw[hb]at hj;cases hj;omega
theorem L4.zo(h:L4 w0 W nv lv sv gv st)(x:ByteArray)(ho:W'.ownsRow w0.heap.size 9 1 v' (st.s.length+1) (C7 st.s++[.string x]))(hg:W.grownBy W' sv.ownBlock):L4 w0 W' nv lv v' gv {st with s:=st.s++[x]}:=
 ⟨FP h.n hg (GJ h.n h.s (by decide)),FP h.l hg (GJ h.l h.s (by decide)),by simpa [C7] using ho,FP h.g hg (GJ h.g h.s (by decide)),h.nl,h.us (r:=none) h.s hg⟩
theorem L4.ABi(h:L4 w0 W nv lv sv gv st)(k:Nat)(ho:W'.ownsRow w0.heap.size 57 2 v' (st.g.length+1) (Ex st.g++[.int .u64 (DB k),.int .u64 (DE k)]))(hg:W.grownBy W' gv.ownBlock):L4 w0 W' nv lv sv v' {st with g:=st.g++[k]}:=
 ⟨FP h.n hg (GJ h.n h.g (by decide)),FP h.l hg (GJ h.l h.g (by decide)),FP h.s hg (GJ h.s h.g (by decide)),by simpa [Ex] using ho,h.nl,h.us (r:=none) h.g hg⟩
end
def Lf(x:ByteArray):List ByteArray:=Lib.splitB ⟨#[44]⟩ 0 (Lib.countB x ⟨#[44]⟩) x
def Gx:List ByteArray->Option (List Nat)
 | []=>some []
 |p::ps=>(Hw p).bind fun k=>(Gx ps).map (k:: ·)
theorem SE:∀l m:List ByteArray,Gx (l++m)=(Gx l).bind fun a=>(Gx m).map (a++ ·)
 | [],m=>by simp[Gx]
 |p::l,m=>by
  simp only[Cg,Gx,SE l m];cases Hw p with
  |none=>rfl
  |some k=>cases Gx l with
   |none=>rfl
   |some a=>cases Gx m with
    |none=>rfl
    |some b=>rfl
theorem UI(l:List ByteArray)(j:Nat)(h:j<l.length):Gx (l.take (j+1))=(Gx (l.take j)).bind fun a=>(Hw (l[j]'h)).map fun k=>a++[k]:=by
 rw[Af h,SE];congr 1
 funext a
 simp only[Gx];cases Hw (l[j]'h)with
 |none=>rfl
 |some k=>rfl
theorem Vu(l:List ByteArray)(j:Nat)(h:Gx (l.take j)=none):Gx l=none:=by
 rw[<-List.take_append_drop j l,SE,h];rfl
theorem fx(s:ByteArray)(hs:s.size<=maxLen)(w:World):Calls prog 14 #[.string s] w (Jf s w):=by
 by_cases h:s.size=0\/Dc.lead s=true\/Dc.J4 s=false
 ·exact eG s hs h w
 ·refine aN s hs (fun e=>h (.inl e)) ?_ ?_ w
  ·cases e:Dc.lead s with
   |false=>rfl
   |true=>exact absurd (.inr (.inl e)) h
  ·cases e:Dc.J4 s with
   |true=>rfl
   |false=>exact absurd (.inr (.inr e)) h
theorem i7{x:ByteArray}(h:Hw x=none)(hs:x.size<=1048576)(w:World):Calls prog 15 #[.string x] w fun e w'=>(∃z:Int,e=.returned (.tuple #[.int .i64 z,.bool false]))/\Below w.heap.size w w':=
 (TU x hs w).mono fun e w' ⟨h1,h2⟩=>And.intro (by
   rcases h1 with⟨k,hk,-⟩|⟨-,h1⟩
   ·rw[h]at hk;cases hk
   ·exact h1) h2
theorem aU{x:ByteArray}{k:Nat}(h:Hw x=some k)(hs:x.size<=1048576)(w:World):Calls prog 15 #[.string x] w fun e w'=>e=.returned (.tuple #[.int .i64 (k:Int),.bool true])/\Below w.heap.size w w':=
 (TU x hs w).mono fun e w' ⟨h1,h2⟩=>And.intro (by
   rcases h1 with⟨j,hk,h1⟩|⟨hk,-⟩
   ·rw[h]at hk;injection hk with hk;rw[h1,hk]
   ·rw[h]at hk;cases hk) h2
theorem bD(x:ByteArray):(Lf x).length<=x.size+1:=by
 have h1:=AUZ ⟨#[44]⟩ 0 (Lib.countB x ⟨#[44]⟩) x;have h2:=Lib.countB_le ⟨#[44]⟩ (Cr 1) x.size x AB;unfold Lf;omega
theorem On(c:UInt8):∀(l:List UInt8),∀p∈Jt c l,p.length<=l.length
 | [],p,hp=>by simp[Jt]at hp;subst hp;exact AB
 |b::l,p,hp=>by
  unfold Jt at hp;split at hp
  ·rcases AR.1 hp with rfl|hp
   ·simp
   ·have:=On c l p hp;simp;omega
  ·split at hp
   ·rcases Ai.1 hp with rfl;simp
   ·next h t e=>
    rcases AR.1 hp with rfl|hp
    ·have:=On c l h (by rw[e];exact Ay ..);simp;omega
    ·have:=On c l p (by rw[e];exact Am _ hp);simp;omega
theorem X6(x:ByteArray):∀p∈Lf x,p.size<=x.size:=by
 intro p hp;unfold Lf at hp;rw[NM]at hp;obtain⟨q,hq,rfl⟩:=BD.1 hp;have:=On 44 _ q hq;rw[At]at this;exact this
def Gy(f:UInt8)(x:ByteArray)(st:Np):Option Np:=
 if f=83 then some {st with s:=st.s++[x]}
 else if f=87 then (if Dc.FY x=0 then some {st with g:=st.g++[Dc.GG x]}else none)
 else if f=78 then (match Hw x with|some k=>some {st with n:=st.n++[k]}|none=>none)
 else (Gx (Lf x)).map fun l=>{st with l:=st.l++l}
def Dl:List UInt8->List ByteArray->Np->Option Np
 | [],[],st=>some st
 |f::fs,x::xs,st=>(Gy f x st).bind (Dl fs xs)
 |_,_,_=>none
def FTB:List ByteArray:=FT.map fun p=>⟨(p.1++32::p.2).toArray⟩
theorem aK(w:World)(m:Int)(hm:w.cell? ⟨0,0,none⟩=some (.int .i64 m)):
 Calls prog 8 #[.string ⟨P6.toArray⟩,.string ⟨#[44]⟩] w fun e w'=>e=.returned (.slice (some ⟨w.heap.size,0,none⟩) 23 23)/\w'=w.alloc (.cells (FTB.map Value.string).toArray 9):=by
 have h:=PB ⟨P6.toArray⟩ m w (by decide) hm 44;have e:Lib.splitB ⟨#[44]⟩ 0 (Lib.countB ⟨P6.toArray⟩ ⟨#[44]⟩) ⟨P6.toArray⟩=FTB:=by
  rw[NM];show(Jt 44 P6).map _=_;rw[aE,AS4];rfl
 rw[e]at h;exact h
theorem o4(j:Nat)(hj:j<FT.length)(w:World)(m:Int)(hm:w.cell? ⟨0,0,none⟩=some (.int .i64 m)):
 Calls prog 7 #[.string ⟨((FT[j]'hj).1++32::(FT[j]'hj).2).toArray⟩,.string ⟨#[32]⟩] w fun e w'=>e=.returned (.tuple #[.string ⟨(FT[j]'hj).1.toArray⟩,.string ⟨(FT[j]'hj).2.toArray⟩,.bool true])/\Below w.heap.size w w':=by
 have hl:∀p∈FT,(p.1++32::p.2).length<=100:=by decide+kernel
 have h:=Tryz.strings_Cut ⟨((FT[j]'hj).1++32::(FT[j]'hj).2).toArray⟩ ⟨#[32]⟩ m w (by
  have:=hl _ (AL hj);show(Array.size _)<_;rw[Cv];omega) hm
 have e:Lib.cut ((FT[j]'hj).1++32::(FT[j]'hj).2) [32]=_:=(ZF 32 _).trans (j5 _ (AL hj));refine h.mono ?_;rintro e' w' ⟨rfl,k,rfl⟩;refine⟨?_,Ba AA k⟩;show Ending.returned (.tuple #[.string ⟨(Lib.cut ((FT[j]'hj).1++32::(FT[j]'hj).2) [32]).1.toArray⟩,.string ⟨(Lib.cut ((FT[j]'hj).1++32::(FT[j]'hj).2) [32]).2.1.toArray⟩,.bool (Lib.cut ((FT[j]'hj).1++32::(FT[j]'hj).2) [32]).2.2])=_;rw[e]
theorem L4.base{w W0 W:World}{nv lv sv gv:Value}{st:Np}(hb:Below w.heap.size w W0)(h:L4 W0 W nv lv sv gv st):L4 w W nv lv sv gv st:=
 ⟨GL h.n hb.size,GL h.l hb.size,GL h.s hb.size,GL h.g hb.size,h.nl,Below.C9 hb h.DI⟩
def JI(x0:ByteArray)(r:List ByteArray):Option Np:=if (Md x0.data.toList).2=true/\r.length=(Md x0.data.toList).1.length then Dl (Md x0.data.toList).1 r ⟨[],[],[],[]⟩else none
def py(Q:ByteArray->World->Prop)(e:Ending)(w:World):Prop:=∃o,e=.returned (.string o)/\Q o w
def ACW(rb:Nat)(x0:ByteArray)(st:Np)(nv lv sv gv:Value)(W:World)(Q:ByteArray->World->Prop):Prop:=
 (st.g≠ []->Calls prog 16 #[.string x0,gv] W (py Q))/\(st.g=[]->st.l≠ []->Calls prog 17 #[.string x0,lv,nv] W (py Q))/\
   (st.g=[]->st.l=[]->Calls prog 18 #[.pointer (some ⟨rb,0,none⟩),.string x0,nv,sv] W (py Q))
theorem ABF(j:Nat)(hj:j<FT.length):(FTB.map Value.string)[j]? =some (.string ⟨((FT[j]'hj).1++32::(FT[j]'hj).2).toArray⟩):=by
 unfold FTB;simp[hj]
theorem look_eq(a:List UInt8)(x:ByteArray)(b:Bool)(h:decide (a=x.data.toList)=b):((⟨a.toArray⟩:ByteArray).toList==x.toList)=b:=by
 rw[CD,CD,<-h];show(a==x.data.toList)=_;by_cases e:a=x.data.toList<;>simp[e]
theorem Us(s:List UInt8):∀(L:List (List UInt8×List UInt8))(a:List UInt8×Bool),L.foldl (fun a p=>if p.1=s then (p.2,true)else a) a=a\/∃p∈L,p.1=s/\L.foldl (fun a p=>if p.1=s then (p.2,true)else a) a=(p.2,true)
 | [],a=>.inl rfl
 |p::L,a=>by
  rw[List.foldl_cons];by_cases h:p.1=s
  ·rw[AD h]
   rcases Us s L (p.2,true)with e|⟨q,hq,h1,h2⟩
   ·exact .inr ⟨p,Ay ..,h,e⟩
   ·exact .inr ⟨q,Am _ hq,h1,h2⟩
  ·rw[AC h]
   rcases Us s L a with e|⟨q,hq,h1,h2⟩
   ·exact .inl e
   ·exact .inr ⟨q,Am _ hq,h1,h2⟩
theorem aX(s:List UInt8):Md s=([],false)\/∃p∈FT,p.1=s/\Md s=(p.2,true):=Us s FT ([],false)
theorem jt(s:List UInt8):(Md s).1.length<=100:=by
 have hl:∀p∈FT,p.2.length<=100:=by decide+kernel
 rcases aX s with e|⟨p,hp,-,e⟩
 ·rw[e];decide
 ·rw[e];exact hl p hp
theorem TF{fs:List UInt8}{xs:List ByteArray}{i:Nat}(hi:i<fs.length)(hx:i<xs.length)(st:Np):Dl (fs.drop i) (xs.drop i) st=(Gy (fs[i]'hi) (xs[i]'hx) st).bind (Dl (fs.drop (i+1)) (xs.drop (i+1))):=by
 rw[Bz hi,Bz hx];rfl
theorem mR{W W':World}{g B n z:Nat}{T e:TypeId}{cs:Array Value}{v:Value}{xs:List Value}(hB:DJ W g T cs)(h:W.ownsRow B e z v n xs)(hg:W.grownBy W' v.ownBlock)(he:e≠T):DJ W' g T cs:=by
 refine(hg.block g hB.lt (fun hk=>?_)).trans hB;rcases h.2 with⟨rfl,-⟩|⟨g2,c2,u2,rfl,-,b2,-⟩
 ·cases hk
 ·cases hk
  have e3:=hB.symm.trans b2;injection e3 with e3
  injection e3 with _ e3
  exact he e3.symm
def Zc(st:Np)(i:Nat):Prop:=st.n.length<=i/\st.s.length<=i/\st.g.length<=i/\st.l.length<=65537*i
theorem xQ:(Tryz.prog.info? 57).map (fun i=>(i.zero,i.size,i.bytes))=some (some (.agg #[.int .u64 0,.int .u64 0]),2,16):=by kernel_rfl
theorem nd(w:World)(t:TypeId)(a b:Int)(g:Nat)(hg:g=w.heap.size):Reads (w.alloc (.cells #[.int .u64 a,.int .u64 b] t)) (g+1) 2 (some ⟨g,0,none⟩) 1 [.int .u64 a,.int .u64 b]:=by
 subst hg;exact⟨rfl,fun _=>⟨_,rfl,by simp,fun j u hj=>by
  have hc:=(DJ.new w t #[.int .u64 a,.int .u64 b]).cell j;have I1:(⟨w.heap.size,0,none⟩:Addr).add j=⟨w.heap.size,j,none⟩:=by unfold Addr.add;split<;>simp_all
  rw[I1,hc]
  simpa using hj⟩⟩
theorem yG(rb:Nat)(Aw:Option Addr)(cw:Nat)(x0:ByteArray)(r:List ByteArray)(W:World)(m:Int)(hm:W.cell? ⟨0,0,none⟩=some (.int .i64 m))(hr:Reads W W.heap.size 1 Aw (x0::r).length (C7 (x0::r)))(ER:∀x∈r,x.size<=65536)(hn:r.length<=65536)(Q:ByteArray->World->Prop)
 (HB:JI x0 r=none->∀W',Below W.heap.size W W'->Q (FG 11) W')
 (HK:∀st,JI x0 r=some st->∀W' nv lv sv gv,L4 W W' nv lv sv gv st->ACW rb x0 st nv lv sv gv W' Q):
 Calls prog 6 #[.pointer (some ⟨rb,0,none⟩),.slice Aw (x0::r).length cw] W (py Q):=by
 obtain⟨gw,ow,rfl,SS,hcw⟩:=hr.addr (by simp);have xp:=hcw 0 (.string x0) (by simp[C7]);simp only[AW]at xp;have HCW:=I (show∀i (h:i<r.length),W.cell? ⟨gw,ow+(i+1),none⟩=some (.string (r[i]'h))from fun i h=>hcw (i+1) _ (by simp[C7,h]));have me:0<W.heap.size:=Cd W ⟨0,0,none⟩ hm;have HM:=I hm;have Wr:=I (aK W m hm);simp only[P6]at Wr;have HB':=I HB;have HK':=I HK;have ey:=I ER;have hlen:(x0::r).length=r.length+1:=rfl;rw[hlen];have j7:(0:Int)<((r.length+1:Nat):Int):=by omega
 clear HB HK hr hcw ER hm hlen;go_in;go_wp2_with fail
 refine Wr.out.mono ?_;rintro e' w1 ⟨rfl,rfl⟩;have HP:=I (show∀j (hj:j<FT.length),(W.alloc (.cells (FTB.map Value.string).toArray 9)).cell? ⟨W.heap.size,j,none⟩=some (.string ⟨((FT[j]'hj).1++32::(FT[j]'hj).2).toArray⟩)from fun j hj=>((DJ.new W 9 (FTB.map Value.string).toArray).cell j).trans (by rw[List.getElem?_toArray];exact ABF j hj));obtain⟨ws,jC⟩:∃ws,ws=W.alloc (.cells (FTB.map Value.string).toArray 9):=⟨_,rfl⟩;have BS:=I (show Below W.heap.size W ws from by rw[jC];exact AA.alloc AB _);have hls:W.heap.size<ws.heap.size:=by rw[jC];simp
 rw[<-jC]at HP⊢;clear jC;go_wp2_with fail
 go_loopw [29,5,6] (fun iv fv kv wr=>∃j:Nat,j<=23/\iv=.int .i64 (j:Int)/\fv=.string ⟨(Re x0.data.toList (FT.take j)).1.toArray⟩/\kv=.bool (Re x0.data.toList (FT.take j)).2/\Below ws.heap.size ws wr) (fun iv _ _ _=>23- (RowKit.intOf iv).toNat)
 case atStart=>exact⟨0,by omega,rfl,rfl,rfl,AA⟩
 case round=>
  obtain⟨j,hj,rfl,rfl,rfl,hb⟩:=hrel;obtain⟨wo,rfl⟩:∃wo,wo=wr:=⟨_,rfl⟩;have BO:=I hb;have cww:=((Below.C9 BS.out BO.out).cell SS).trans xp;have lgw:gw<wo.heap.size:=by have:=BO.out.size;omega
  clear hb;by_cases DG:j<23
  ·have hjF:j<FT.length:=DG
   have cj:=(BO.out.cell (p:=⟨W.heap.size,j,none⟩) hls).trans (HP.out j hjF);have lws:W.heap.size<wo.heap.size:=by have:=BO.out.size;omega
   have qY:=I (o4 j hjF wo m (((Below.C9 BS.out BO.out).cell (p:=⟨0,0,none⟩) me).trans HM.out));have Wq:=I (ft x0.data.toList j hjF);generalize (FT[j]'hjF).1=a at*;generalize (FT[j]'hjF).2=b at*;cases hq:decide (a=x0.data.toList);all_goals
    have hqe:=look_eq a x0 _ hq;have Wq:=I (Wq.out.trans (by rw[show(if a=x0.data.toList then (b,true)else Re x0.data.toList (FT.take j))=if decide (a=x0.data.toList)=true then (b,true)else Re x0.data.toList (FT.take j)from by simp,hq]));clear hq;obtain⟨ab,m8⟩:∃ab:ByteArray,ab=⟨a.toArray⟩:=⟨_,rfl⟩;rw[<-m8]at qY hqe;clear m8;go_wp2_with fail
    refine qY.out.mono ?_;rintro e' w2 ⟨rfl,DK⟩;have B2:=I (Below.C9 BO.out DK);have cw2:=((Below.C9 BS.out B2.out).cell SS).trans xp;have ANE:gw<w2.heap.size:=by have:=B2.out.size;omega
    clear DK;go_wp2;exact⟨⟨j+1,by omega,by simp,by rw[Wq.out];rfl,by rw[Wq.out];rfl,B2.out⟩,by simp[RowKit.intOf];omega⟩
  ·obtain rfl:j=23:=by omega
   rw[show FT.take 23=FT from by decide+kernel];have WQ:=I (show JI x0 r=if (Md x0.data.toList).2=true/\r.length=(Md x0.data.toList).1.length then Dl (Md x0.data.toList).1 r ⟨[],[],[],[]⟩else none from rfl);have x9:=jt x0.data.toList;change Hid (_=_)at WQ;rw[show Re x0.data.toList FT=Md x0.data.toList from rfl];generalize (Md x0.data.toList).1=form at*;generalize (Md x0.data.toList).2=ok at*;have HF:=I (El 11 (by decide));obtain⟨fb,hfb⟩:∃fb:ByteArray,fb=⟨form.toArray⟩:=⟨_,rfl⟩;have hfs:fb.size=form.length:=by rw[hfb];rfl
   rw[<-hfb];have B2:=I (Below.C9 BS.out BO.out);have tL:IntKind.i64.wrap (1+(form.length:Int))=1+(form.length:Int):=Ca _ (by omega);cases ok with
   |false=>
    have HN:=I (show JI x0 r=none from WQ.out.trans (AC (by simp)));clear WQ;go_wp2_with fail
    refine(HF.out _).mono ?_;rintro e' w2 ⟨rfl,rfl⟩;go_wp2;go_ret;exact⟨_,rfl,HB'.out HN.out _ B2.out⟩
   |true=>
    by_cases hl:r.length=form.length
    ·have HN:=I (show JI x0 r=Dl form r ⟨[],[],[],[]⟩from WQ.out.trans (AD ⟨rfl,hl⟩))
     clear WQ;have hle:((((r.length+1:Nat):Int)) != 1+(form.length:Int))=false:=by simp;omega
     obtain⟨i0,hi,Fq,FZ,Fe⟩:=AO LM;obtain⟨j0,kj,kz0,kz1,kz2⟩:=AO Jo;obtain⟨k0,mi,mz0,mz1,mz2⟩:=AO xQ;have HFB:=I hfb;clear hfb;go_wp2_with fail
     rw[ATr wo _ _ 5 fb underlying9 underlying42 underlying5];rw[Result.andThen];have HC:=I (ATs wo 5 fb);have HBY:=I (ATt wo 5 fb);generalize bytesWorld wo 5 fb=w2 at*;generalize grownCap wo fb.size 0 5=cc at*;have BW2:=I (Below.C9 B2.out HBY.out);go_wp2_with fail
     go_loopw [12,13,14,15,60] (fun nv lv sv gv iv wr=>∃(i:Nat)(st:Np),i<=form.length/\iv=.int .i64 (i:Int)/\Hid (Dl form r ⟨[],[],[],[]⟩=Dl (form.drop i) (r.drop i) st)/\Hid (L4 w2 wr nv lv sv gv st)/\Hid (Zc st i)) (fun _ _ _ _ iv _=>form.length- (RowKit.intOf iv).toNat)
     case atStart=>exact⟨0,⟨[],[],[],[]⟩,AM _,rfl,I rfl,I (L4.start w2),I ⟨AB,AB,AB,AB⟩⟩
     case round=>
      obtain⟨i,st,ay,rfl,HP2,H4,ux⟩:=hrel;obtain⟨w3,rfl⟩:∃w3,w3=wr:=⟨_,rfl⟩;obtain⟨An,cn,rfl⟩:=Cz H4.out.n;obtain⟨Al,cl,rfl⟩:=Cz H4.out.l;obtain⟨As,cs,rfl⟩:=Cz H4.out.s;obtain⟨Ag,cg,rfl⟩:=Cz H4.out.g;have BW3:=I (Below.C9 BW2.out H4.out.DI);have AOc:gw<w3.heap.size:=by have:=BW3.out.size;omega
      have cw3:=(BW3.out.cell SS).trans xp;obtain⟨lo1,lo2,lo3,lo4⟩:=ux.out;by_cases DG:i<form.length
      ·have hir:i<r.length:=by omega
       have ci:=(BW3.out.cell (p:=⟨gw,ow+(i+1),none⟩) SS).trans (HCW.out i hir);have cb:=HC.out i (by rw[hfs];exact DG);have lb:=Cd w2 ⟨wo.heap.size,i,none⟩ cb;have cb:=(H4.out.DI.cell (p:=⟨wo.heap.size,i,none⟩) lb).trans cb;have lb:wo.heap.size<w3.heap.size:=AJ lb H4.out.DI.size;have GB:=I (HP2.out.trans (TF DG hir st));have HSX:=I (ey.out _ (AL hir));have ef:fb.data.toList.getD i 0=form[i]'DG:=by rw[HFB.out];simp[DG]
       rw[ef]at cb;clear ef;generalize form[i]'DG=f at*;generalize r[i]'hir=x at*;have gP:(x.size:Int)<=65536:=by have:=HSX.out;omega
       by_cases h83:f=83
       ·subst h83
        have GB:=I (show Dl form r ⟨[],[],[],[]⟩=Dl (form.drop (i+1)) (r.drop (i+1)) {st with s:=st.s++[x]}from GB.out);have HO:=I (H4.out.below ((AQ w3.heap.size w3).alloc AB (.cells #[.string x] 9)));have mx:=I (show Zc {st with s:=st.s++[x]} (i+1)from⟨by show st.n.length<=_;omega,by show(st.s++[x]).length<=_;rw[AN,BJ];omega,by show st.g.length<=_;omega,by show st.l.length<=_;omega⟩);go_wp2_with (at_builtin;refine Dd _ rfl _ _ 31 rfl w2.heap.size 9 i0 _ 1 16 underlying31 hi Fq FZ Fe rfl (by decide) _ _ _ rfl HO.out.s _ _ 1 _ _ rfl (Mu w3 _ x) (YL [x]) ?c1 ?c2 ?c3 ?_)
        case c1=>unfold maxLen;omega
        case c2=>omega
        case c3=>have:=HO.out.DI.size;simpa using this
        intro v9 w9 Qn iI Ei;have H9:=I (HO.out.zo x Qn iI);clear Qn iI Ei;go_wp2;exact⟨⟨i+1,_,by omega,by simp,GB,H9,mx⟩,by simp[RowKit.intOf];omega⟩
       ·by_cases h87:f=87
        ·subst h87
         have HPA:=I (fun w'=>fx x (by unfold maxLen;omega) w');by_cases TJ:Dc.FY x=0
         ·have GB:=I (show Dl form r ⟨[],[],[],[]⟩=Dl (form.drop (i+1)) (r.drop (i+1)) {st with g:=st.g++[Dc.GG x]}from GB.out.trans (by unfold Gy;rw[AC (by decide),AD rfl,AD TJ];rfl))
          have mx:=I (show Zc {st with g:=st.g++[Dc.GG x]} (i+1)from⟨by show st.n.length<=_;omega,by show st.s.length<=_;omega,by show(st.g++[Dc.GG x]).length<=_;rw[AN,BJ];omega,by show st.l.length<=_;omega⟩);unfold Jf at HPA;rw[TJ]at HPA;generalize Dc.GG x=k at*;go_wp2_with fail
          refine(HPA.out _).mono ?_;rintro e' w4 ⟨rfl,EL⟩;have HO:=I ((H4.out.below EL).below (((AQ w4.heap.size w4).alloc AB (.cells #[.int .u64 (DB k),.int .u64 (DE k)] 57)).alloc (by simp) (.cells #[.int .u64 (DB k),.int .u64 (DE k)] 57)));clear EL;have HOC:=I (show∀u∈ [Value.int .u64 (DB k),Value.int .u64 (DE k)],u.oneCell'=true from by intro u hu;simp at hu;rcases hu with rfl|rfl<;>rfl);go_wp2_with (at_builtin;refine Dd _ rfl _ _ 54 rfl w2.heap.size 57 k0 _ 2 16 underlying54 mi mz0 mz1 mz2 rfl (by decide) _ _ _ rfl HO.out.g _ _ 1 _ _ rfl (nd _ _ _ _ (w4.heap.size+1) (by simp)) HOC.out ?c1 ?c2 ?c3 ?_)
          case c1=>unfold maxLen;omega
          case c2=>omega
          case c3=>have:=HO.out.DI.size;simpa using this
          intro v9 w9 Qn iI Ei;have H9:=I (HO.out.ABi k Qn iI);clear Qn iI Ei;go_wp2;exact⟨⟨i+1,_,by omega,by simp,GB,H9,mx⟩,by simp[RowKit.intOf];omega⟩
         ·have GB:=I (show JI x0 r=none from HN.out.trans (GB.out.trans (by unfold Gy;rw[AC (by decide),AD rfl,AC TJ];rfl)))
          have Rs:((Dc.FY x:Int)==0)=false:=by simpa using TJ
          have zq:((Dc.FY x:Int) != 0)=true:=by simpa using TJ
          unfold Jf at HPA;generalize Dc.FY x=pe at*;clear TJ;go_wp2_with fail
          refine(HPA.out _).mono ?_;rintro e' w4 ⟨rfl,EL⟩;have HB4:=I (Below.C9 BW3.out EL);clear EL;go_wp2_with fail
          refine(HF.out _).mono ?_;rintro e' w5 ⟨rfl,rfl⟩;go_wp2;go_ret;exact⟨_,rfl,HB'.out GB.out _ (by first|exact HB4.out|exact HB4.out.alloc HB4.out.size _)⟩
        ·by_cases h78:f=78
         ·subst h78
          have hx8:x.size<=1048576:=by omega
          cases jx:Hw x with
          |none=>
           have GB:=I (show JI x0 r=none from HN.out.trans (GB.out.trans (by unfold Gy;rw[AC (by decide),AC (by decide),AD rfl,jx];rfl)));have s8:=I (fun w'=>i7 jx hx8 w');clear jx;go_wp2_with fail
           refine(s8.out _).mono ?_;rintro e' w4 ⟨⟨z,rfl⟩,EL⟩;have HB4:=I (Below.C9 BW3.out EL);clear EL;go_wp2_with fail
           refine(HF.out _).mono ?_;rintro e' w5 ⟨rfl,rfl⟩;go_wp2;go_ret;exact⟨_,rfl,HB'.out GB.out _ HB4.out⟩
          |some k=>
           have GB:=I (show Dl form r ⟨[],[],[],[]⟩=Dl (form.drop (i+1)) (r.drop (i+1)) {st with n:=st.n++[k]}from GB.out.trans (by unfold Gy;rw[AC (by decide),AC (by decide),AD rfl,jx];rfl));have s8:=I (fun w'=>aU jx hx8 w');have mx:=I (show Zc {st with n:=st.n++[k]} (i+1)from⟨by show(st.n++[k]).length<=_;rw[AN,BJ];omega,by show st.s.length<=_;omega,by show st.g.length<=_;omega,by show st.l.length<=_;omega⟩);clear jx;go_wp2_with fail
           refine(s8.out _).mono ?_;rintro e' w4 ⟨rfl,EL⟩;have HO:=I ((H4.out.below EL).below ((AQ w4.heap.size w4).alloc AB (.cells #[.int .i64 (k:Int)] 3)));clear EL;go_wp2_with (at_builtin;refine Dd _ rfl _ _ 53 rfl w2.heap.size 3 j0 _ 1 8 underlying53 kj kz0 kz1 kz2 rfl (by decide) _ _ _ rfl HO.out.n _ _ 1 _ _ rfl (M4 w4 _ k) (PZ [k]) ?c1 ?c2 ?c3 ?_)
           case c1=>unfold maxLen;omega
           case c2=>omega
           case c3=>have:=HO.out.DI.size;simpa using this
           intro v9 w9 Qn iI Ei;have H9:=I (HO.out.AAb k Qn iI (by simpa using Ei));clear Qn iI Ei;go_wp2;exact⟨⟨i+1,_,by omega,by simp,GB,H9,mx⟩,by simp[RowKit.intOf];omega⟩
         ·have GB:=I (show Dl form r ⟨[],[],[],[]⟩=((Gx (Lf x)).map fun l=>{st with l:=st.l++l}).bind (Dl (form.drop (i+1)) (r.drop (i+1)))from GB.out.trans (by unfold Gy;rw[AC h83,AC h87,AC h78]))
          have c83:((f.toNat:Int)==83)=false:=by rw[CV];intro e;exact h83 (CY.1 (show f.toNat=83 by omega))
          have c87:((f.toNat:Int)==87)=false:=by rw[CV];intro e;exact h87 (CY.1 (show f.toNat=87 by omega))
          have c78:((f.toNat:Int)==78)=false:=by rw[CV];intro e;exact h78 (CY.1 (show f.toNat=78 by omega))
          have hx8:x.size<=65536:=by omega
          have yN:=I (show Calls _ _ _ _ fun e w'=>e=.returned (.slice (some ⟨w3.heap.size,0,none⟩) (Lf x).length (Lf x).length)/\w'=w3.alloc (.cells ((Lf x).map Value.string).toArray 9)from PB x m w3 (by omega) ((BW3.out.cell (p:=⟨0,0,none⟩) me).trans HM.out) 44);have mc:=I (X6 x);have oM:=bD x;have ZO:=I (DJ.new w3 9 ((Lf x).map Value.string).toArray);obtain⟨w4,hw4⟩:∃w4,w4=w3.alloc (.cells ((Lf x).map Value.string).toArray 9):=⟨_,rfl⟩;rw[<-hw4]at yN ZO;have H40:=I (show L4 w2 w4 _ _ _ _ st from hw4▸H4.out.below ((AQ w3.heap.size w3).alloc AB _));have l34:w3.heap.size<w4.heap.size:=by rw[hw4];simp
          clear hw4;generalize Lf x=ps at*;go_wp2_with fail
          refine yN.out.mono ?_;rintro e' w5 ⟨rfl,rfl⟩;go_wp2_with fail
          go_loopw [13,74] (fun lv jv wr=>∃(j:Nat)(l:List Nat),j<=ps.length/\l.length=j/\jv=.int .i64 (j:Int)/\Hid (Gx (ps.take j)=some l)/\Hid (L4 w2 wr (.slice An st.n.length cn) lv (.slice As st.s.length cs) (.slice Ag st.g.length cg) {st with l:=st.l++l})/\Hid (DJ wr w3.heap.size 9 (ps.map Value.string).toArray)) (fun _ jv _=>ps.length- (RowKit.intOf jv).toNat)
          case atStart=>exact⟨0,[],AM _,rfl,rfl,I rfl,I (by have:=H40.out;simpa using this),ZO⟩
          case round=>
           obtain⟨j,l,hj,I4,rfl,HNS,H5,my⟩:=hrel;obtain⟨w6,rfl⟩:∃w6,w6=wr:=⟨_,rfl⟩;obtain⟨q,hq⟩:∃q,q=({st with l:=st.l++l}:Np).l.length:=⟨_,rfl⟩;obtain⟨Al2,cl2,Wd⟩:=Cz H5.out.l;rw[<-hq]at Wd;subst Wd;clear hq;have BW6:=I (Below.C9 BW2.out H5.out.DI);by_cases Py:j<ps.length
           ·have cj:=(my.out.cell j).trans (show _=some (Value.string (ps[j]'Py))by simp[Py])
            have l36:w3.heap.size<w6.heap.size:=my.out.lt;have Wq:=I (UI ps j Py);have hp8:=mc.out _ (AL Py);generalize ps[j]'Py=p at*;cases jx:Hw p with
            |none=>
             have GB:=I (show JI x0 r=none from HN.out.trans (GB.out.trans (by rw[Vu ps (j+1) (by rw[Wq.out,HNS.out,jx];rfl)];rfl)));have s8:=I (fun w'=>i7 jx (by omega) w');clear jx hp8;go_wp2_with fail
             refine(s8.out _).mono ?_;rintro e' w7 ⟨⟨z,rfl⟩,Pp⟩;have HB7:=I (Below.C9 BW6.out Pp);clear Pp;go_wp2_with fail
             refine(HF.out _).mono ?_;rintro e' w8 ⟨rfl,rfl⟩;go_wp2;go_ret;exact⟨_,rfl,HB'.out GB.out _ HB7.out⟩
            |some k=>
             have Wq:=I (show Gx (ps.take (j+1))=some (l++[k])from by rw[Wq.out,HNS.out,jx];rfl);have s8:=I (fun w'=>aU jx (by omega) w');have hll:(l++[k]).length=j+1:=by rw[AN,BJ,I4]
             have hsl:(st.l++l).length=st.l.length+j:=by rw[AN,I4]
             clear jx hp8;go_wp2_with fail
             refine(s8.out _).mono ?_;rintro e' w7 ⟨rfl,Pp⟩;have HB7:=I ((my.out.below Pp my.out.lt).alloc (.cells #[.int .i64 (k:Int)] 3));have HO:=I ((H5.out.below Pp).below ((AQ w7.heap.size w7).alloc AB (.cells #[.int .i64 (k:Int)] 3)));clear Pp;go_wp2_with (at_builtin;refine Dd _ rfl _ _ 53 rfl w2.heap.size 3 j0 _ 1 8 underlying53 kj kz0 kz1 kz2 rfl (by decide) _ _ _ rfl HO.out.l _ _ 1 _ _ rfl (M4 w7 _ k) (PZ [k]) ?c1 ?c2 ?c3 ?_)
             case c1=>unfold maxLen;omega
             case c2=>omega
             case c3=>have:=HO.out.DI.size;simpa using this
             intro v9 w9 Qn iI Ei;have H9:=I (HO.out.zn k (by show w9.ownsRow _ _ _ _ ((st.l++l).length+1) _;rw[hsl];exact Qn) iI (by simpa using Ei));have m9:=I (mR HB7.out HO.out.l iI (by decide));clear Qn iI Ei;go_wp2;exact⟨⟨j+1,l++[k],by omega,hll,by simp,Wq,I (by have:=H9.out;simpa using this),m9⟩,by simp[RowKit.intOf];omega⟩
           ·obtain rfl:j=ps.length:=by omega
            have GB:=I (show Dl form r ⟨[],[],[],[]⟩=Dl (form.drop (i+1)) (r.drop (i+1)) {st with l:=st.l++l}from GB.out.trans (by have:=HNS.out;rw[Ap]at this;rw[this];rfl));have mx:=I (show Zc {st with l:=st.l++l} (i+1)from⟨by show st.n.length<=_;omega,by show st.s.length<=_;omega,by show st.g.length<=_;omega,by show(st.l++l).length<=_;rw[AN];omega⟩);go_wp2;exact⟨⟨i+1,_,by omega,by simp,GB,H5,mx⟩,by simp[RowKit.intOf];omega⟩
      ·obtain rfl:i=form.length:=by omega
       have GB:=I (show JI x0 r=some st from HN.out.trans (HP2.out.trans (by rw[ASr,<-hl,ASr];rfl)));have HK2:=I (HK'.out st GB.out w3 _ _ _ _ (H4.out.base BW2.out));clear GB HK' HN HP2 lo1 lo2 lo3 lo4 ux;obtain⟨k1,k2,k3⟩:=HK2.out;by_cases hg:st.g.length=0
       ·have ka:st.g=[]:=Bn hg
        by_cases hq:st.l.length=0
        ·have k:=I (k3 ka (Bn hq))
         have g0:¬(0:Int)<(st.g.length:Int):=by omega
         have g1:¬(0:Int)<(st.l.length:Int):=by omega
         clear k1 k2 k3 HK2 ka hg hq;go_wp2_with fail
         refine k.out.mono ?_;rintro e' w4 ⟨o,rfl,xq⟩;have HQ:=I xq;clear xq;go_wp2;go_ret;exact⟨_,rfl,HQ.out⟩
        ·have k:=I (k2 ka (fun e=>hq (by rw[e];rfl)))
         have g0:¬(0:Int)<(st.g.length:Int):=by omega
         have g1:(0:Int)<(st.l.length:Int):=by omega
         clear k1 k2 k3 HK2 ka hg hq;go_wp2_with fail
         refine k.out.mono ?_;rintro e' w4 ⟨o,rfl,xq⟩;have HQ:=I xq;clear xq;go_wp2;go_ret;exact⟨_,rfl,HQ.out⟩
       ·have k:=I (k1 (fun e=>hg (by rw[e];rfl)))
        have g0:(0:Int)<(st.g.length:Int):=by omega
        clear k1 k2 k3 HK2 hg;go_wp2_with fail
        refine k.out.mono ?_;rintro e' w4 ⟨o,rfl,xq⟩;have HQ:=I xq;clear xq;go_wp2;go_ret;exact⟨_,rfl,HQ.out⟩
    ·have HN:=I (show JI x0 r=none from WQ.out.trans (AC (fun h=>hl h.2)))
     clear WQ;have hle:((((r.length+1:Nat):Int)) != 1+(form.length:Int))=true:=by simp;omega
     go_wp2_with fail
     refine(HF.out _).mono ?_;rintro e' w2 ⟨rfl,rfl⟩;go_wp2;go_ret;exact⟨_,rfl,HB'.out HN.out _ B2.out⟩
