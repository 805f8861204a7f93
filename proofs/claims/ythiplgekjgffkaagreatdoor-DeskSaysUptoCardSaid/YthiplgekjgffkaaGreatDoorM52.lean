/- The desk's words, taken -/
import Derived.Test.YthiplgekjgffkaaGreatDoorM51
import Derived.Test.YthiplgekjgffkaaGreatDoorM50
import Derived.Test.YthiplgekjgffkaaGreatDoorM35
set_option maxRecDepth 100000
set_option maxHeartbeats 99000000
set_option linter.all false
namespace Go.Proofs.YthiplgekjgffkaaGreatDoor
open Go.Proofs.Tryz
open Go.RowKit Go.Lib
def Jz:Np:=⟨[],[],[],[]⟩
def Pl(fs:List UInt8)(r:List ByteArray)(i:Nat)(st:Np):Prop:=i<=fs.length/\i<=r.length/\Dl fs r Jz=Dl (fs.drop i) (r.drop i) st
theorem KN:∀(fs:List UInt8)(r:List ByteArray)(st:Np),fs.length≠r.length->Dl fs r st=none
 | [],[],st,h=>absurd rfl h
 | [],x::r,st,h=>rfl
 |f::fs,[],st,h=>rfl
 |f::fs,x::r,st,h=>by
  unfold Dl;cases Gy f x st with
  |none=>rfl
  |some UA=>exact KN fs r UA (by simpa using h)
section
variable{fs:List UInt8}{r:List ByteArray}{i:Nat}{st UA:Np}{x x0:ByteArray}{f:UInt8}
theorem Pl.start:Pl fs r 0 Jz:=⟨AM _,AM _,rfl⟩
theorem Pl.next(h:Pl fs r i st)(hf:fs[i]? =some f)(hx:r[i]? =some x):Dl fs r Jz=(Gy f x st).bind (Dl (fs.drop (i+1)) (r.drop (i+1))):=by
 obtain⟨h1,e1⟩:=CQ.1 hf;obtain⟨h2,e2⟩:=CQ.1 hx;rw[h.2.2,TF h1 h2,e1,e2]
theorem Pl.step(h:Pl fs r i st)(hf:fs[i]? =some f)(hx:r[i]? =some x)(hs:Gy f x st=some UA):Pl fs r (i+1) UA:=by
 refine⟨?_,?_,?_⟩
 ·obtain⟨h1,-⟩:=CQ.1 hf;omega
 ·obtain⟨h1,-⟩:=CQ.1 hx;omega
 ·rw[h.next hf hx,hs];rfl
theorem Pl.bad(h:Pl fs r i st)(hf:fs[i]? =some f)(hx:r[i]? =some x)(hs:Gy f x st=none):Dl fs r Jz=none:=by rw[h.next hf hx,hs];rfl
theorem Pl.short(h:Pl fs r i st)(hf:fs[i]? =some f)(hx:r[i]? =none):Dl fs r Jz=none:=by
 obtain⟨h1,-⟩:=CQ.1 hf;have h2:=List.getElem?_eq_none_iff.1 hx;exact KN _ _ _ (by have:=h.2.1;omega)
theorem Pl.fin(h:Pl fs r i st)(hi:i=fs.length)(hr:r.length=i):Dl fs r Jz=some st:=by
 rw[h.2.2,hi,ASr,<-hi,<-hr,ASr];rfl
theorem Pl.long(h:Pl fs r i st)(hi:i=fs.length)(hr:r.length≠i):Dl fs r Jz=none:=KN _ _ _ (by omega)
theorem wz(h:Md x0.data.toList=(fs,true)):JI x0 r=Dl fs r Jz:=by
 unfold JI;rw[h];by_cases hl:r.length=fs.length
 ·exact AD ⟨rfl,hl⟩
 ·rw[AC (fun k=>hl k.2),KN fs r Jz (fun e=>hl e.symm)]
end
structure WF(w W:World)(wb:Nat)(A:Option Addr)(c:Nat)(x0:ByteArray)(r:List ByteArray)(fs:List UInt8)(i:Nat)(st:Np):Prop where
 at_:Yi w W wb A c (x0::r) (i+1)
 pre:Pl fs r i st
 sz:∀x∈r,x.size<=65536
 gl:Gl w
theorem l9(x:ByteArray):Dc.GG x<2^128:=by
 unfold Dc.GG;by_cases he:Dc.FY x=0
 ·rw[AD he]
  unfold Dc.FY at he;by_cases h1:x.size=0\/Dc.lead x=true\/Dc.J4 x=false
  ·rw[AD h1]at he;cases he
  ·rw[AC h1]at he
   by_cases h2:Dc.Ep x.data.toList<2^128
   ·exact h2
   ·rw[AC h2]at he;cases he
 ·rw[AC he];decide
section
variable{w W W':World}{wb c i j:Nat}{A:Option Addr}{x0:ByteArray}{r:List ByteArray}{fs:List UInt8}{st UA:Np}
theorem WF.below(h:WF w W wb A c x0 r fs i st)(hb:Below W.heap.size W W'):WF w W' wb A c x0 r fs i st:=⟨h.at_.below hb,h.pre,h.sz,h.gl⟩
def Ni(w W:World)(wb:Nat)(A:Option Addr)(c:Nat)(x0:ByteArray)(r:List ByteArray)(fs:List UInt8)(i:Nat)(V:Value->World->Np->Prop)(e:Ending)(W':World):Prop:=
 Kept (fun x=>x=wb) W W'/\((∃v UA,e=.returned v/\V v W' UA/\WF w W' wb A c x0 r fs (i+1) UA)\/(e=Dr 11/\Dl fs r Jz=none))
def isS(st:Np)(v:Value)(W:World)(UA:Np):Prop:=∃x,v=.string x/\x.size<=65536/\UA={st with s:=st.s++[x]}
def isN(st:Np)(v:Value)(W:World)(UA:Np):Prop:=∃k:Nat,v=.int .i64 (k:Int)/\k<1000000000000/\UA={st with n:=st.n++[k]}
def isG(st:Np)(v:Value)(W:World)(UA:Np):Prop:=∃k:Nat,v=.agg #[.int .u64 (DB k),.int .u64 (DE k)]/\k<2^128/\UA={st with g:=st.g++[k]}
def isL(W0:World)(st:Np)(v:Value)(W:World)(UA:Np):Prop:=∃l:List Nat,W.ownsRow W0.heap.size 3 1 v l.length (ET l)/\1<=l.length/\l.length<=65537/\(∀k∈l,k<1000000000000)/\UA={st with l:=st.l++l}
theorem gW(h:WF w W wb A c x0 r fs i st):Calls prog 85 #[.pointer (some ⟨wb,0,none⟩)] W fun e W'=>
 Kept (fun x=>x=wb) W W'/\((∃x,r[i]? =some x/\x.size<=65536/\e=.returned (.string x)/\Yi w W' wb A c (x0::r) (i+1+1))\/(r[i]? =none/\e=Dr 11)):=by
 cases hx:r[i]? with
 |some x=>
  obtain⟨hi,he⟩:=CQ.1 hx;refine(AEc h.at_ x (by simpa using hx)).mono ?_;rintro e W' ⟨rfl,h1,h2⟩;exact⟨h1,.inl ⟨x,rfl,h.sz x (he▸AL hi),rfl,h2⟩⟩
 |none=>
  have hi:=List.getElem?_eq_none_iff.1 hx;have hle:=h.pre.2.1;have hd:=h.at_.Nu;rw[show i+1=(x0::r).length by simp only[AP];omega]at hd;refine(vd wb A _ c W hd).mono ?_;rintro e W' ⟨rfl,hb⟩;exact⟨.DU hb,.inr ⟨rfl,rfl⟩⟩
theorem sP(h:WF w W wb A c x0 r fs i st)(hf:fs[i]? =some 83):Calls prog 85 #[.pointer (some ⟨wb,0,none⟩)] W
 (Ni w W wb A c x0 r fs i (isS st)):=by
 refine(gW h).mono ?_;rintro e W' ⟨hk,⟨x,hx,hs,rfl,ha⟩|⟨hx,rfl⟩⟩
 ·exact⟨hk,.inl ⟨_,_,rfl,⟨x,rfl,hs,rfl⟩,ha,h.pre.step hf hx rfl,h.sz,h.gl⟩⟩
 ·exact⟨hk,.inr ⟨rfl,h.pre.short hf hx⟩⟩
theorem UO(h:WF w W wb A c x0 r fs i st)(hf:fs[i]? =some 78):Calls prog 99 #[.pointer (some ⟨wb,0,none⟩)] W
 (Ni w W wb A c x0 r fs i (isN st)):=by
 have HN:=I (gW h);have HF:=I hf;have HH:=I h;clear hf h;go_in;go_wp2_with fail
 refine HN.out.mono ?_;rintro e' w1 ⟨LO,⟨x,hx,hs,rfl,ha⟩|⟨hx,rfl⟩⟩
 ·have K1:=I LO
  have HX:=I hx;have HA:=I ha;clear LO hx ha;have HD:=I (Su (s:=x) (by omega) (HH.out.gl.below HA.out.DI));clear hs;go_wp2_with fail
  refine HD.out.mono ?_;rintro e' w2 ⟨⟨k,hk,rfl⟩|⟨hk,rfl⟩,hb⟩
  ·have Df:=I (show Ni w W wb A c x0 r fs i (isN st) _ w2 from⟨K1.out.step hb,.inl ⟨_,_,rfl,⟨k,rfl,(Kc hk).2.2.2,rfl⟩,HA.out.below hb,HH.out.pre.step HF.out HX.out (by unfold Gy;rw[AC (by decide),AC (by decide),AD rfl,hk]),HH.out.sz,HH.out.gl⟩⟩)
   clear hb hk;go_wp2;go_ret;exact Df.out
  ·have Df:=I (show Ni w W wb A c x0 r fs i (isN st) _ w2 from⟨K1.out.step hb,.inr ⟨rfl,HH.out.pre.bad HF.out HX.out (by unfold Gy;rw[AC (by decide),AC (by decide),AD rfl,hk])⟩⟩)
   clear hb hk;simp only[Dr];go_wp2;exact⟨rfl,Df.out⟩
 ·have Df:=I (show Ni w W wb A c x0 r fs i (isN st) _ w1 from⟨LO,.inr ⟨rfl,HH.out.pre.short HF.out hx⟩⟩)
  clear LO hx;simp only[Dr];go_wp2;exact⟨rfl,Df.out⟩
theorem dt{fn:Func}{a:Act}{W:World}{g p:Nat}{x0 x1:Value}(h:fn.results=#[.cell p 57])(h4:a.tmps.getD p undef=.pointer (some ⟨g,0,none⟩))
 (c0:W.cell? ⟨g,0,none⟩=some x0) (c1:W.cell? ⟨g,1,none⟩=some x1):(results fn a.tmps).run prog W=.ok (.agg #[x0,x1]) W:=by
 have r9:a.tmps[p]?.getD undef=.pointer (some ⟨g,0,none⟩):=by simpa using h4
 simp[results,h,r9,go_sem,c0,c1]
theorem Yi.PX{W1 W2:World}{l:List ByteArray}{i0:Nat}(h0:Yi w W wb A c l i0)(h:Yi w W1 wb A c l i)(k:Kept (fun x=>x=W.heap.size) W1 W2):Yi w W2 wb A c l i:=by
 have DG:=h0.Nu.lt;refine⟨k.DC h.Nu (fun e=>by have e':wb=W.heap.size:=e;omega),(k.reads h.rd (fun hn a ha e=>?_)).more k.size,h.Je,h.cap,h.DI.trans (k.below (B:=w.heap.size) (fun k e=>by rw[e];exact h0.DI.size) h.DI.size),h.low⟩;obtain⟨ad,e1,e2,-⟩:=h0.rd.2 hn;rw[ha]at e1;cases e1;have e':a.block=W.heap.size:=e;omega
theorem fF(h:WF w W wb A c x0 r fs i st)(hf:fs[i]? =some 87):Calls prog 25 #[.pointer (some ⟨wb,0,none⟩)] W (Ni w W wb A c x0 r fs i (isG st)):=by
 have Jg:=(AQ W.heap.size W).alloc AB (.cells #[.int .u64 0,.int .u64 0] 57);have HN:=I (gW (h.below Jg));have WR:=I ((Kept.DU (X:=fun x=>x=wb) Jg));have HF:=I hf;have HH:=I h;have J3:=h.at_.Nu.lt;have HE:=I (AI W |>.lay #[.int .u64 0,.int .u64 0] 57);clear hf h Jg;go_in;go_wp2_with fail
 refine HN.out.mono ?_;rintro e' w1 ⟨LO,⟨x,hx,hs,rfl,ha⟩|⟨hx,rfl⟩⟩
 ·have K1:=I (WR.out.trans LO)
  have HX:=I hx;have HA:=I ha;have K0:=I (LO.DC HE.out.hd (fun e=>by have e':W.heap.size=wb:=e;omega));clear LO hx ha;have HD:=I (kD x (by unfold maxLen;omega) w1);unfold Jf at HD;by_cases TJ:Dc.FY x=0
  ·have HV:=I (show Dc.GG x<2^128 from l9 x)
   have GB:=I (show Gy 87 x st=some {st with g:=st.g++[Dc.GG x]}from by unfold Gy;rw[AC (by decide),AD rfl,AD TJ]);rw[TJ]at HD;generalize Dc.GG x=k at*;clear TJ;go_wp2_with fail
   refine HD.out.mono ?_;rintro e' w2 ⟨rfl,hb⟩;have l2:W.heap.size<w2.heap.size:=(K0.out.below hb K0.out.lt).lt;have AT:=I (HH.out.at_.PX HA.out ((((Kept.DU (X:=fun x=>x=W.heap.size) hb).setCell (a:=⟨W.heap.size,0,none⟩) (.inl rfl) (.int .u64 (DB k))).setCell (a:=⟨W.heap.size,1,none⟩) (.inl rfl) (.int .u64 (DE k))).alloc (.cells #[.int .u64 (DB k),.int .u64 (DE k)] 57)));have KK:=I ((((K1.out.step hb).setCell (a:=⟨W.heap.size,0,none⟩) (.inr AB) (.int .u64 (DB k))).setCell (a:=⟨W.heap.size,1,none⟩) (.inr AB) (.int .u64 (DE k))).alloc (.cells #[.int .u64 (DB k),.int .u64 (DE k)] 57));have BK:=I ((((K0.out.below hb K0.out.lt).De 0 (.int .u64 (DB k))).De 1 (.int .u64 (DE k))).alloc (.cells #[.int .u64 (DB k),.int .u64 (DE k)] 57))
   have y0:=(K0.out.below hb K0.out.lt).cell 0;have y1:=(K0.out.below hb K0.out.lt).cell 1;have z0:=(K0.out.below hb K0.out.lt).frozen 0;have z1:=(K0.out.below hb K0.out.lt).frozen 1;simp at y0 y1;clear hb;go_wp2;refine AF (v:=.agg #[.int .u64 (DB k),.int .u64 (DE k)]) (dt results25 rfl ((BK.out.cell 0).trans rfl) ((BK.out.cell 1).trans rfl)) rfl ?_;exact⟨KK.out,.inl ⟨_,_,rfl,⟨k,rfl,HV.out,rfl⟩,AT.out,HH.out.pre.step HF.out HX.out GB.out,HH.out.sz,HH.out.gl⟩⟩
  ·have Rs:((Dc.FY x:Int)==0)=false:=by simpa using TJ
   have zq:((Dc.FY x:Int) != 0)=true:=by simpa using TJ
   have GB:=I (show Gy 87 x st=none from by unfold Gy;rw[AC (by decide),AD rfl,AC TJ]);generalize Dc.FY x=pe at*;clear TJ;go_wp2_with fail
   refine HD.out.mono ?_;rintro e' w2 ⟨rfl,hb⟩;have Df:=I (fun o=>show Ni w W wb A c x0 r fs i (isG st) _ (w2.alloc o)from⟨(K1.out.step hb).alloc o,.inr ⟨rfl,HH.out.pre.bad HF.out HX.out GB.out⟩⟩);clear hb;go_wp2_with fail
   refine(Ia 11 _).mono ?_;rintro e' w3 ⟨rfl,rfl⟩;simp only[Dr];go_wp2;exact⟨rfl,Df.out _⟩
 ·have Df:=I (show Ni w W wb A c x0 r fs i (isG st) _ w1 from⟨WR.out.trans LO,.inr ⟨rfl,HH.out.pre.short HF.out hx⟩⟩)
  clear LO hx;simp only[Dr];go_wp2;exact⟨rfl,Df.out⟩
theorem aD:∀(l:List ByteArray)(a:List Nat),Gx l=some a->∀k∈a,k<1000000000000
 | [],a,h=>by injection h with h;subst h;simp
 |p::l,a,h=>by
  simp only[Gx]at h;cases hp:Hw p with
  |none=>rw[hp]at h;cases h
  |some k=>
   cases hl:Gx l with
   |none=>rw[hp,hl]at h;cases h
   |some b=>
    rw[hp,hl]at h;injection h with h
    subst h;intro j hj;rcases AR.1 hj with rfl|hj
    ·exact(Kc hp).2.2.2
    ·exact aD l b hl j hj
theorem O7(c:UInt8):∀l:List UInt8,1<=(Jt c l).length
 | []=>Cr 1
 |b::l=>by
  unfold Jt;split
  ·simp
  ·split<;>simp
theorem qF(x:ByteArray):1<=(Lf x).length:=by
 unfold Lf;rw[NM,Ak];exact O7 _ _
theorem rZ(h:WF w W wb A c x0 r fs i st)(hf:fs[i]? =some 76):Calls prog 91 #[.pointer (some ⟨wb,0,none⟩)] W (Ni w W wb A c x0 r fs i (isL W st)):=by
 have HN:=I (gW h);have HF:=I hf;have HH:=I h;obtain⟨i0,hi,Fq,FZ,Fe⟩:=AO Jo;clear hf h;go_in;go_wp2_with fail
 refine HN.out.mono ?_;rintro e' w1 ⟨LO,⟨x,hx,hs,rfl,ha⟩|⟨hx,rfl⟩⟩
 ·have K1:=I LO
  have HX:=I hx;have HA:=I ha;have HG:=I (HH.out.gl.below ha.DI);obtain⟨m,hm⟩:=HG.out.max;have yN:=I (show Calls _ _ _ _ fun e w'=>e=.returned (.slice (some ⟨w1.heap.size,0,none⟩) (Lf x).length (Lf x).length)/\w'=w1.alloc (.cells ((Lf x).map Value.string).toArray 9)from PB x m w1 (by omega) hm 44);have mc:=I (X6 x);have oM:=bD x;have ct:=qF x;have ZO:=I (DJ.new w1 9 ((Lf x).map Value.string).toArray);have GB:=I (show Gy 76 x st=(Gx (Lf x)).map fun l=>{st with l:=st.l++l}from by unfold Gy;rw[AC (by decide),AC (by decide),AC (by decide)]);obtain⟨w2,ZU⟩:∃w2,w2=w1.alloc (.cells ((Lf x).map Value.string).toArray 9):=⟨_,rfl⟩
  rw[<-ZU]at yN ZO;have B2:=I (show Below w1.heap.size w1 w2 from ZU▸(AQ w1.heap.size w1).alloc AB _);have l12:w1.heap.size<w2.heap.size:=by rw[ZU];simp
  have hz:=K1.out.size;clear LO hx ha ZU hm;generalize Lf x=ps at*;go_wp2_with fail
  refine yN.out.mono ?_;rintro e' w3 ⟨rfl,rfl⟩;go_wp2_with fail
  go_loopw [3,10] (fun lv jv wr=>∃(j:Nat)(l:List Nat),j<=ps.length/\l.length=j/\jv=.int .i64 (j:Int)/\Hid (Gx (ps.take j)=some l)/\Hid (wr.ownsRow w3.heap.size 3 1 lv l.length (ET l))/\Hid (Below w3.heap.size w3 wr)) (fun _ jv _=>ps.length- (RowKit.intOf jv).toNat)
  case atStart=>exact⟨0,[],AM _,rfl,rfl,I rfl,I (AX _ _ _ _),I AA⟩
  case round=>
   obtain⟨j,l,hj,I4,rfl,HNS,HO,my⟩:=hrel;obtain⟨w6,rfl⟩:∃w6,w6=wr:=⟨_,rfl⟩;obtain⟨Al2,cl2,Wd⟩:=Cz HO.out;rw[I4]at Wd HO;subst Wd;by_cases Py:j<ps.length
   ·have cj:=(my.out.cell (p:=⟨w1.heap.size,j,none⟩) l12).trans ((ZO.out.cell j).trans (show _=some (Value.string (ps[j]'Py))by simp[Py]))
    have l36:w1.heap.size<w6.heap.size:=AJ l12 my.out.size;have Wq:=I (UI ps j Py);have hp8:=mc.out _ (AL Py);generalize ps[j]'Py=p at*;have HD:=I (Su (s:=p) (by omega) (HG.out.below (Below.C9 B2.out my.out)));clear hp8;go_wp2_with fail
    refine HD.out.mono ?_;rintro e' w7 ⟨⟨k,hk,rfl⟩|⟨hk,rfl⟩,Pp⟩
    ·have Wq:=I (show Gx (ps.take (j+1))=some (l++[k])from by rw[Wq.out,HNS.out,hk];rfl)
     have HB7:=I (Below.C9 my.out Pp);have HO2:=I ((Ef HO.out Pp).alloc (.cells #[.int .i64 (k:Int)] 3));have HLL:=I (show(l++[k]).length=j+1 by rw[AN,BJ,I4]);clear hk Pp;go_wp2_with (at_builtin;refine EU _ rfl _ _ 53 rfl w3.heap.size 3 i0 _ 1 8 underlying53 hi Fq FZ Fe rfl (by decide) _ _ _ rfl HO2.out _ _ 1 _ _ rfl (M4 w7 _ k) (PZ [k]) ?c1 ?c2 ?c3 ?_)
     case c1=>unfold maxLen;omega
     case c2=>omega
     case c3=>have:=HB7.out.size;simp;omega
     intro v9 w9 Qn Ei;have H9:=I (show w9.ownsRow w3.heap.size 3 1 v9 (l++[k]).length (ET (l++[k]))from by rw[HLL.out];simpa [ET,JG] using Qn);have m9:=I ((HB7.out.alloc HB7.out.size _).trans Ei);clear Qn Ei;go_wp2;exact⟨⟨j+1,l++[k],by omega,HLL.out,by simp,Wq,H9,m9⟩,by simp[RowKit.intOf];omega⟩
    ·have Df:=I (show Ni w W wb A c x0 r fs i (isL W st) (Dr 11) w7 from⟨(K1.out.step B2.out).step (Below.C9 my.out Pp),.inr ⟨rfl,HH.out.pre.bad HF.out HX.out (by rw[GB.out,Vu ps (j+1) (by rw[Wq.out,HNS.out,hk];rfl)];rfl)⟩⟩)
     clear hk Pp;simp only[Dr];go_wp2;exact⟨rfl,Df.out⟩
   ·obtain rfl:j=ps.length:=by omega
    have HNA:=I (show Gx ps=some l from by have:=HNS.out;rwa [Ap]at this);have Df:=I (show Ni w W wb A c x0 r fs i (isL W st) (.returned (.slice Al2 ps.length cl2)) w6 from⟨(K1.out.step B2.out).step my.out,.inl ⟨_,_,rfl,⟨l,GL (by rw[I4];exact HO.out) (by omega),by omega,by omega,aD ps l HNA.out,rfl⟩,HA.out.below (Below.C9 B2.out my.out),HH.out.pre.step HF.out HX.out (by rw[GB.out,HNA.out];rfl),HH.out.sz,HH.out.gl⟩⟩);go_wp2;go_ret;exact Df.out
 ·have Df:=I (show Ni w W wb A c x0 r fs i (isL W st) _ w1 from⟨LO,.inr ⟨rfl,HH.out.pre.short HF.out hx⟩⟩)
  clear LO hx;simp only[Dr];go_wp2;exact⟨rfl,Df.out⟩
end
abbrev mq:=Int×ByteArray×Ek
def jz:ByteArray:=⟨#[111,107]⟩
def Ek.EG(s:Ek)(f:DQ->Int×ByteArray×DQ):mq:=match s.T with|none=>(4,ByteArray.empty,s)|some t=>((f t).1,(f t).2.1,⟨some (f t).2.2,s.L⟩)
def Sw(g:Int)(t:DQ):Int×ByteArray×DQ:=(t.D8 g,FC (t.Fb g),t.DP g)
def PH(i j:Int)(t:DQ):Int×ByteArray×DQ:=(t.Ha i j,FC (t.Ge i j),t.brought i j)
def TA(i:Int)(t:DQ):Int×ByteArray×DQ:=(t.KE i,jz,t.lost i)
def S5(i:Int)(t:DQ):Int×ByteArray×DQ:=(t.KB i,jz,t.Ey i)
def Zk(t:DQ):Int×ByteArray×DQ:=(0,Gc [t.way.length],t)
def Ti(i:Int)(id:ByteArray)(t:DQ):Int×ByteArray×DQ:=(t.li i id,GF (t.Pw i id),t)
def Nd(i:Int)(id:ByteArray)(th:Int)(t:DQ):Int×ByteArray×DQ:=(t.FA i id th,FC (t.Fa i id th),t.Dy i id th)
def Ek.P3(s:Ek):mq:=(s.Kz,jz,s.started)
def Ek.Ux(s:Ek)(x:Dg):mq:=(s.Pq x,jz,s.Lk x)
def Pk(w:World)(F:Nat->Nat)(W:World)(db:Nat)(a:mq)(e:Ending)(W':World):Prop:=ID a.1 a.2.1 e/\ZK w F W db a.2.2 W'
theorem ZC{w:World}{N:List Dm}{er:Int}(hn:N.length<=100)(hs:∀p∈N,IC p):Wk w N er (FC N):=by
 by_cases h:er=0
 ·subst h;exact wE hn hs
 ·exact vR h _
theorem KQ{w:World}{v er:Int}(G:Gl w)(hv:0<=v/\v<9223372036854775808):QD w v er (GF v):=by
 by_cases h:er=0
 ·subst h;exact fun W hb=>(xJ v hv.1 hv.2 W (G.below hb)).mono fun x W' ⟨h1,h2⟩=>⟨.inl ⟨rfl,h1⟩,h2⟩
 ·exact Gq h _
theorem ui{w:World}(G:Gl w)(k:Nat)(hk:k<9223372036854775808):ADn w [(k:Int)] (Gc [k]):=fun W A c hb hr=>
 yD A c 1 [k] rfl (by decide) (by intro j hj;rcases Ai.1 hj with rfl;exact hk) W (G.below hb) hr
theorem ig(v:Nat){N S s:Int}(h0:0<=N)(h1:N<=64)(h2:0<=s)(h3:s<=1073741824)(h4:0<=S):Lv.YV v N S s<=127:=by
 have hd:N*s<=64*1073741824:=BT h1 h3 h2 (by omega);unfold Lv.YV Lv.sp;split
 ·omega
 ·have h5:(N*s-S).toNat<=68719476736:=by omega
  have h6:=BR h5 h5;generalize (N*s-S).toNat*(N*s-S).toNat=q at*;have h7:(v+q)/v<=1+q:=by
   rcases Ac v with rfl|hv
   ·simp
   ·rw[Nat.add_div_left _ hv]
    have:=Bu q v;omega
  by_cases hz:(v+q)/v=0
  ·rw[hz];decide
  ·refine Nat.le_of_lt ((Nat.log2_lt hz).2 (Bk h7 ?_))
   have:(2:Nat)^127=170141183460469231731687303715884105728:=by decide
   omega
theorem yq{s:Dh}(g:Di s)(id:ByteArray):0<=s.lv id/\s.lv id<9223372036854775808:=by
 unfold Dh.lv va;cases hf:fnd s.D id with
 |none=>exact(by decide:(0:Int)<=0/\(0:Int)<9223372036854775808)
 |some d=>
  have hd:d∈s.D:=List.mem_of_find?_eq_some hf;obtain⟨-,h1,h2⟩:=g.pl d hd;obtain⟨-,-,h3,-,-⟩:=g.ps.Fo d hd;obtain⟨-,k2,k3,k4⟩:=GZ (show Ih d.2.2.1 d.2.2.2.1=0 from h3);have h4:=ig (Pw d.2.2.2.1.length (s1 d.2.2.2.1) (s2 d.2.2.2.1) (Jy s.c)).toNat (N:=d.2.2.2.1.length) (S:=s1 d.2.2.2.1) (s:=s.now-d.2.2.2.2) (by omega) (by omega) h1 h2 (rX _ (Dk k4).2).1;simp only[nj];omega
theorem oi{t:DQ}(g:Dt t)(i:Int)(id:ByteArray):0<=t.Pw i id/\t.Pw i id<9223372036854775808:=by
 unfold DQ.Pw;split
 ·next hl=>exact yq (DQ.ND g hl) id
 ·exact⟨by decide,by decide⟩
section
variable{w W:World}{F:Nat->Nat}{pd p1 p2 p3 db c:Nat}{A:Option Addr}{tv:Value}{s:Ek}
theorem ud(G:Gl w)(hC:EA w W F)(h:FN F W db tv A c s)(hs:Ml s)(FO:Gi F W pd 37 #[.pointer (some ⟨db,0,none⟩)]):
 Calls prog 114 #[.pointer (some ⟨pd,0,none⟩)] W (Pk w F W db (s.EG Zk)):=by
 obtain⟨st,L⟩:=s;cases st with
 |none=>
  obtain⟨rfl,-⟩:=h.Hz;have HT:=I (Kt db _ W h.DC.1);have c0:=FO.DC.cell 0;have Yn:=FO.DC.lt;have Df:=I (show Pk w F W db ((Ek.mk none L).EG Zk) (Dr 4) W from⟨.inr ⟨by show(4:Int)≠0;decide,rfl⟩,h.Tg hC⟩);simp at c0;clear h hC hs FO G;go_in;go_wp2_with fail
  refine HT.out.mono ?_;rintro e' w1 ⟨rfl,rfl⟩;simp only[Dr];go_wp2;exact⟨rfl,Df.out⟩
 |some t=>
  obtain⟨tb,rfl,ht,-⟩:=h.Hz;obtain⟨hg,hu⟩:=hs.Fo t rfl;exact(sZ hC ht hg FO h.DC (ui G _ (by have:=hg.way;omega))).mono fun e W' ⟨q1,q2⟩=>⟨.inl ⟨rfl,q1⟩,(h.Tg hC).more q2⟩
theorem qi{g:Int}(G:Gl w)(hC:EA w W F)(h:FN F W db tv A c s)(hs:Ml s)(FO:Gi F W pd 37 #[.pointer (some ⟨db,0,none⟩)])(h1:Gi F W p1 3 #[.int .i64 g]):
 Calls prog 117 #[.pointer (some ⟨pd,0,none⟩),.pointer (some ⟨p1,0,none⟩)] W (Pk w F W db (s.EG (Sw g))):=by
 obtain⟨st,L⟩:=s;cases st with
 |none=>
  obtain⟨rfl,-⟩:=h.Hz;have HT:=I (Kt db _ W h.DC.1);have c0:=FO.DC.cell 0;have Yn:=FO.DC.lt;have Df:=I (show Pk w F W db ((Ek.mk none L).EG (Sw g)) (Dr 4) W from⟨.inr ⟨by show(4:Int)≠0;decide,rfl⟩,h.Tg hC⟩);simp at c0;clear h hC hs FO G h1;go_in;go_wp2_with fail
  refine HT.out.mono ?_;rintro e' w1 ⟨rfl,rfl⟩;simp only[Dr];go_wp2;exact⟨rfl,Df.out⟩
 |some t=>
  obtain⟨tb,rfl,ht,-⟩:=h.Hz;obtain⟨hg,hu⟩:=hs.Fo t rfl;exact(jK hC ht hg FO h1 h.DC (ZC (AG (U0 hg g) (by decide)) fun p hp=>(VL hu hg g p hp).1)).mono fun e W' ⟨q1,q2⟩=>⟨q1,h.kX hC q2 (hg.DP g)⟩
theorem lR{i j:Int}(G:Gl w)(hC:EA w W F)(h:FN F W db tv A c s)(hs:Ml s)(FO:Gi F W pd 37 #[.pointer (some ⟨db,0,none⟩)])(h1:Gi F W p1 3 #[.int .i64 i])(h2:Gi F W p2 3 #[.int .i64 j]):
 Calls prog 120 #[.pointer (some ⟨pd,0,none⟩),.pointer (some ⟨p1,0,none⟩),.pointer (some ⟨p2,0,none⟩)] W (Pk w F W db (s.EG (PH i j))):=by
 obtain⟨st,L⟩:=s;cases st with
 |none=>
  obtain⟨rfl,-⟩:=h.Hz;have HT:=I (Kt db _ W h.DC.1);have c0:=FO.DC.cell 0;have Yn:=FO.DC.lt;have Df:=I (show Pk w F W db ((Ek.mk none L).EG (PH i j)) (Dr 4) W from⟨.inr ⟨by show(4:Int)≠0;decide,rfl⟩,h.Tg hC⟩);simp at c0;clear h hC hs FO G h1 h2;go_in;go_wp2_with fail
  refine HT.out.mono ?_;rintro e' w1 ⟨rfl,rfl⟩;simp only[Dr];go_wp2;exact⟨rfl,Df.out⟩
 |some t=>
  obtain⟨tb,rfl,ht,-⟩:=h.Hz;obtain⟨hg,hu⟩:=hs.Fo t rfl;exact(d9 hC ht hg FO h1 h2 h.DC (ZC (AG (Kb hu hg i j).1 (by decide)) fun p hp=>((Kb hu hg i j).2 p hp).1)).mono fun e W' ⟨q1,q2⟩=>⟨q1,h.kX hC q2 (hg.brought i j)⟩
theorem n5{i:Int}(G:Gl w)(hC:EA w W F)(h:FN F W db tv A c s)(hs:Ml s)(FO:Gi F W pd 37 #[.pointer (some ⟨db,0,none⟩)])(h1:Gi F W p1 3 #[.int .i64 i]):
 Calls prog 122 #[.pointer (some ⟨pd,0,none⟩),.pointer (some ⟨p1,0,none⟩)] W (Pk w F W db (s.EG (TA i))):=by
 obtain⟨st,L⟩:=s;cases st with
 |none=>
  obtain⟨rfl,-⟩:=h.Hz;have HT:=I (Kt db _ W h.DC.1);have c0:=FO.DC.cell 0;have Yn:=FO.DC.lt;have Df:=I (show Pk w F W db ((Ek.mk none L).EG (TA i)) (Dr 4) W from⟨.inr ⟨by show(4:Int)≠0;decide,rfl⟩,h.Tg hC⟩);simp at c0;clear h hC hs FO G h1;go_in;go_wp2_with fail
  refine HT.out.mono ?_;rintro e' w1 ⟨rfl,rfl⟩;simp only[Dr];go_wp2;exact⟨rfl,Df.out⟩
 |some t=>
  obtain⟨tb,rfl,ht,-⟩:=h.Hz;obtain⟨hg,hu⟩:=hs.Fo t rfl;exact(jL hC ht hg FO h1 h.DC).mono fun e W' ⟨q1,q2⟩=>⟨q1,h.kX hC q2 (hg.lost i)⟩
theorem ra{i:Int}(G:Gl w)(hC:EA w W F)(h:FN F W db tv A c s)(hs:Ml s)(FO:Gi F W pd 37 #[.pointer (some ⟨db,0,none⟩)])(h1:Gi F W p1 3 #[.int .i64 i]):
 Calls prog 124 #[.pointer (some ⟨pd,0,none⟩),.pointer (some ⟨p1,0,none⟩)] W (Pk w F W db (s.EG (S5 i))):=by
 obtain⟨st,L⟩:=s;cases st with
 |none=>
  obtain⟨rfl,-⟩:=h.Hz;have HT:=I (Kt db _ W h.DC.1);have c0:=FO.DC.cell 0;have Yn:=FO.DC.lt;have Df:=I (show Pk w F W db ((Ek.mk none L).EG (S5 i)) (Dr 4) W from⟨.inr ⟨by show(4:Int)≠0;decide,rfl⟩,h.Tg hC⟩);simp at c0;clear h hC hs FO G h1;go_in;go_wp2_with fail
  refine HT.out.mono ?_;rintro e' w1 ⟨rfl,rfl⟩;simp only[Dr];go_wp2;exact⟨rfl,Df.out⟩
 |some t=>
  obtain⟨tb,rfl,ht,-⟩:=h.Hz;obtain⟨hg,hu⟩:=hs.Fo t rfl;exact(jk hC ht hg FO h1 h.DC).mono fun e W' ⟨q1,q2⟩=>⟨q1,h.kX hC q2 (hg.Ey i)⟩
theorem vp{i:Int}{id:ByteArray}(G:Gl w)(hC:EA w W F)(h:FN F W db tv A c s)(hs:Ml s)(FO:Gi F W pd 37 #[.pointer (some ⟨db,0,none⟩)])(h1:Gi F W p1 3 #[.int .i64 i])(h2:Gi F W p2 9 #[.string id]):
 Calls prog 126 #[.pointer (some ⟨pd,0,none⟩),.pointer (some ⟨p1,0,none⟩),.pointer (some ⟨p2,0,none⟩)] W (Pk w F W db (s.EG (Ti i id))):=by
 obtain⟨st,L⟩:=s;cases st with
 |none=>
  obtain⟨rfl,-⟩:=h.Hz;have HT:=I (Kt db _ W h.DC.1);have c0:=FO.DC.cell 0;have Yn:=FO.DC.lt;have Df:=I (show Pk w F W db ((Ek.mk none L).EG (Ti i id)) (Dr 4) W from⟨.inr ⟨by show(4:Int)≠0;decide,rfl⟩,h.Tg hC⟩);simp at c0;clear h hC hs FO G h1 h2;go_in;go_wp2_with fail
  refine HT.out.mono ?_;rintro e' w1 ⟨rfl,rfl⟩;simp only[Dr];go_wp2;exact⟨rfl,Df.out⟩
 |some t=>
  obtain⟨tb,rfl,ht,-⟩:=h.Hz;obtain⟨hg,hu⟩:=hs.Fo t rfl;exact(nz hC ht hg FO h1 h2 h.DC (KQ G (oi hg i id))).mono fun e W' ⟨q1,q2⟩=>⟨q1,h.kX hC q2 hg⟩
theorem rI{i th:Int}{id:ByteArray}(G:Gl w)(hC:EA w W F)(h:FN F W db tv A c s)(hs:Ml s)(FO:Gi F W pd 37 #[.pointer (some ⟨db,0,none⟩)])(h1:Gi F W p1 3 #[.int .i64 i])(h2:Gi F W p2 9 #[.string id])(h3:Gi F W p3 3 #[.int .i64 th]):
 Calls prog 128 #[.pointer (some ⟨pd,0,none⟩),.pointer (some ⟨p1,0,none⟩),.pointer (some ⟨p2,0,none⟩),.pointer (some ⟨p3,0,none⟩)] W (Pk w F W db (s.EG (Nd i id th))):=by
 obtain⟨st,L⟩:=s;cases st with
 |none=>
  obtain⟨rfl,-⟩:=h.Hz;have HT:=I (Kt db _ W h.DC.1);have c0:=FO.DC.cell 0;have Yn:=FO.DC.lt;have Df:=I (show Pk w F W db ((Ek.mk none L).EG (Nd i id th)) (Dr 4) W from⟨.inr ⟨by show(4:Int)≠0;decide,rfl⟩,h.Tg hC⟩);simp at c0;clear h hC hs FO G h1 h2 h3;go_in;go_wp2_with fail
  refine HT.out.mono ?_;rintro e' w1 ⟨rfl,rfl⟩;simp only[Dr];go_wp2;exact⟨rfl,Df.out⟩
 |some t=>
  obtain⟨tb,rfl,ht,-⟩:=h.Hz;obtain⟨hg,hu⟩:=hs.Fo t rfl;exact(kJ hC ht hg FO h1 h2 h3 h.DC (ZC (AG (OT hu hg i id th).1 (by decide)) fun p hp=>((OT hu hg i id th).2 p hp).1)).mono fun e W' ⟨q1,q2⟩=>⟨q1,h.kX hC q2 (hg.Dy i id th)⟩
end
def OA(w:World)(F:Nat->Nat)(db wb:Nat)(A:Option Addr)(c:Nat)(x0:ByteArray)(r:List ByteArray)(fs:List UInt8)(B:Prop)(P:Np->mq->Prop)(W1:World)(e:Ending)(W2:World):Prop:=
 Kept (fun x=>x=wb) W1 W2/\((e=Dr 11/\B)\/∃fn xA st,e=.returned (.func (.func fn) #[] xA)/\WF w W2 wb A c x0 r fs fs.length st/\
  ∀W3,Below W2.heap.size W2 W3->(∀args w,(callFunc fn args).run prog w=.ok (.enter fn args) w)/\Calls prog fn xA W3 fun e W4=>∃a:mq,P st a/\(0<=a.1/\a.1<100)/\Pk w F W3 db a e W4)
theorem LK(s:Ek){f:DQ->Int×ByteArray×DQ}(h:∀t,0<=(f t).1/\(f t).1<100):0<=(s.EG f).1/\(s.EG f).1<100:=by
 unfold Ek.EG;split
 ·exact(by decide:(0:Int)<=4/\(4:Int)<100)
 ·exact h _
theorem bJ(s:Ek)(x:Dg):0<=s.Pq x/\s.Pq x<100:=by
 unfold Ek.Pq;split
 ·decide
 ·exact PQ _
theorem XT(s:Ek):0<=s.Kz/\s.Kz<100:=by
 unfold Ek.Kz;split
 ·decide
 ·exact PQ _
section
variable{w W:World}{F:Nat->Nat}{db c cn wb:Nat}{A An:Option Addr}{tv:Value}{s:Ek}{r:List ByteArray}{x0:ByteArray}
theorem vG(W1:World)(B:Prop)(hB:B)(fs:List UInt8)(P:Np->mq->Prop)(e0:(x0.toList== [110,111,100,101])=false)(e1:(x0.toList== [115,116,97,114,116])=false)(e2:(x0.toList== [119,97,121])=false)(e3:(x0.toList== [116,105,99,107])=false)(e4:(x0.toList== [98,114,105,110,103])=false)(e5:(x0.toList== [108,111,115,101])=false)(e6:(x0.toList== [115,116,111,112])=false)(e7:(x0.toList== [97,115,107])=false)(e8:(x0.toList== [106,111,105,110])=false)(J3:wb<W1.heap.size):
 Calls prog 30 #[.pointer (some ⟨db,0,none⟩),.string x0,.pointer (some ⟨wb,0,none⟩)] W1 (OA w F db wb A c x0 r fs B P W1):=by
 have Df:=I (show OA w F db wb A c x0 r fs B P W1 (Dr 11) (W1.alloc (.cells #[.pointer (some ⟨db,0,none⟩)] 37))from⟨(AH _ W1).alloc _,.inl ⟨rfl,hB⟩⟩);clear hB;go_in;go_wp2_with fail
 refine(Ia 11 _).mono ?_;rintro e' w1 ⟨rfl,rfl⟩;simp only[Dr];go_wp2;exact⟨rfl,Df.out⟩
theorem NG(hC:EA w W F)(h:FN F W db tv An cn s)(hs:Ml s){W1:World}(hb:Below W.heap.size W W1)(J3:W.heap.size<=wb):
 (∀(hw:WF w W1 wb A c ⟨#[116,105,99,107]⟩ r [78] 0 Jz),Calls prog 30 #[.pointer (some ⟨db,0,none⟩),.string ⟨#[116,105,99,107]⟩,.pointer (some ⟨wb,0,none⟩)] W1 (OA w F db wb A c ⟨#[116,105,99,107]⟩ r [78] (Dl [78] r Jz=none) (fun st a=>∃(g:Nat),st=⟨[g],[],[],[]⟩/\a=s.EG (Sw g)) W1))/\
 (∀(hw:WF w W1 wb A c ⟨#[98,114,105,110,103]⟩ r [78,78] 0 Jz),Calls prog 30 #[.pointer (some ⟨db,0,none⟩),.string ⟨#[98,114,105,110,103]⟩,.pointer (some ⟨wb,0,none⟩)] W1 (OA w F db wb A c ⟨#[98,114,105,110,103]⟩ r [78,78] (Dl [78,78] r Jz=none) (fun st a=>∃(i j:Nat),st=⟨[i,j],[],[],[]⟩/\a=s.EG (PH i j)) W1))/\
 (∀(hw:WF w W1 wb A c ⟨#[108,111,115,101]⟩ r [78] 0 Jz),Calls prog 30 #[.pointer (some ⟨db,0,none⟩),.string ⟨#[108,111,115,101]⟩,.pointer (some ⟨wb,0,none⟩)] W1 (OA w F db wb A c ⟨#[108,111,115,101]⟩ r [78] (Dl [78] r Jz=none) (fun st a=>∃(i:Nat),st=⟨[i],[],[],[]⟩/\a=s.EG (TA i)) W1))/\
 (∀(hw:WF w W1 wb A c ⟨#[115,116,111,112]⟩ r [78] 0 Jz),Calls prog 30 #[.pointer (some ⟨db,0,none⟩),.string ⟨#[115,116,111,112]⟩,.pointer (some ⟨wb,0,none⟩)] W1 (OA w F db wb A c ⟨#[115,116,111,112]⟩ r [78] (Dl [78] r Jz=none) (fun st a=>∃(i:Nat),st=⟨[i],[],[],[]⟩/\a=s.EG (S5 i)) W1)):=by
 refine⟨fun hw=>?_,fun hw=>?_,fun hw=>?_,fun hw=>?_⟩;all_goals
  have HC:=I hC;have HD:=I h;have HG:=I hs;have HB:=I hb;have B0:=I (show Bx (W1.alloc (.cells #[.pointer (some ⟨db,0,none⟩)] 37)) wb W1.heap.size 37 #[.pointer (some ⟨db,0,none⟩)]from⟨DJ.new _ _ _,fun e=>by have:=hw.at_.Nu.lt;omega⟩);have ZL:=I J3;have YE:=I hw.at_.Nu.lt;have D1:=I (hw.below (AA.alloc AB (.cells #[.pointer (some ⟨db,0,none⟩)] 37)));have K1:=I ((AH (fun x=>x=wb) W1).alloc (.cells #[.pointer (some ⟨db,0,none⟩)] 37));clear hC h hs hb hw J3;go_in;go_wp2_with fail
  refine(UO D1.out rfl).mono ?_
 ·rintro e' w2 ⟨Et,⟨v,st,rfl,⟨g,rfl,-,rfl⟩,GV⟩|⟨rfl,hp⟩⟩
  rotate_left
  ·have Df:=I (K1.out.trans Et)
   have HP:=I hp;clear Et hp;simp only[Dr];go_wp2;exact⟨rfl,Df.out,.inl ⟨rfl,HP.out⟩⟩
  have K2:=I (K1.out.trans Et);have B1:=I (B0.out.kept Et);have D2:=I GV;clear Et GV;go_wp2;go_ret;have Wa:=I (AH (fun x=>x=wb) w2);have U5:=I (Wa.out.alloc (.cells #[.int .i64 g] 3));have Rh:=I (show Bx (w2.alloc (.cells #[.int .i64 g] 3)) wb (w2.heap.size) 3 #[.int .i64 g]from⟨by have:=DJ.new w2 3 #[.int .i64 g];simpa using this,fun e=>by have:=D2.out.at_.Nu.lt;omega⟩);have KA:=I (K2.out.trans U5.out);have S6:=I (B1.out.kept U5.out);have DA:=I (D2.out.below (show Below w2.heap.size w2 (w2.alloc (.cells #[.int .i64 g] 3))from by refine Below.O5 ?_;exact AA));refine⟨KA.out,.inr ⟨_,_,_,rfl,DA.out,fun W3 DT=>?_⟩⟩;have NA:Below W.heap.size W W3:=(HB.out.trans (KA.out.below (B:=W.heap.size) (fun k e=>by rw[e];exact ZL.out) HB.out.size)).trans (DT.mono (AG HB.out.size KA.out.size))
  have SV:=HC.out.below NA;have YA:=HD.out.below HC.out NA;have FO:=S6.out.box HC.out HB.out.size DT;have ct:=Rh.out.box HC.out (AG HB.out.size K2.out.size) DT;refine⟨BH func117 (by kernel_rfl) rfl,?_⟩;exact(qi DA.out.gl SV YA HG.out FO ct).mono fun e W4 x=>⟨_,⟨g,rfl,rfl⟩,LK _ (fun t=>U4 t _),x⟩
 ·rintro e' w2 ⟨Et,⟨v,st,rfl,⟨i,rfl,-,rfl⟩,GV⟩|⟨rfl,hp⟩⟩
  rotate_left
  ·have Df:=I (K1.out.trans Et)
   have HP:=I hp;clear Et hp;simp only[Dr];go_wp2;exact⟨rfl,Df.out,.inl ⟨rfl,HP.out⟩⟩
  have K2:=I (K1.out.trans Et);have B1:=I (B0.out.kept Et);have D2:=I GV;clear Et GV;go_wp2_with fail
  refine(UO D2.out rfl).mono ?_;rintro e' w3 ⟨IG,⟨v,st,rfl,⟨j,rfl,-,rfl⟩,Wn⟩|⟨rfl,hp⟩⟩
  rotate_left
  ·have Df:=I (K2.out.trans IG)
   have HP:=I hp;clear IG hp;simp only[Dr];go_wp2;exact⟨rfl,Df.out,.inl ⟨rfl,HP.out⟩⟩
  have K3:=I (K2.out.trans IG);have B2:=I (B1.out.kept IG);have D3:=I Wn;clear IG Wn;go_wp2;go_ret;have Wa:=I (AH (fun x=>x=wb) w3);have U5:=I (Wa.out.alloc (.cells #[.int .i64 i] 3));have Rh:=I (show Bx (w3.alloc (.cells #[.int .i64 i] 3)) wb (w3.heap.size) 3 #[.int .i64 i]from⟨by have:=DJ.new w3 3 #[.int .i64 i];simpa using this,fun e=>by have:=D3.out.at_.Nu.lt;omega⟩);have pL:=I (U5.out.alloc (.cells #[.int .i64 j] 3));have sn:=I (show Bx ((w3.alloc (.cells #[.int .i64 i] 3)).alloc (.cells #[.int .i64 j] 3)) wb (w3.heap.size+1) 3 #[.int .i64 j]from⟨by have:=DJ.new (w3.alloc (.cells #[.int .i64 i] 3)) 3 #[.int .i64 j];simpa using this,fun e=>by have:=D3.out.at_.Nu.lt;omega⟩)
  have Rh:=I (Rh.out.kept ((AH (fun x=>x=wb) _).alloc (.cells #[.int .i64 j] 3)));have KA:=I (K3.out.trans pL.out);have S6:=I (B2.out.kept pL.out);have DA:=I (D3.out.below (show Below w3.heap.size w3 ((w3.alloc (.cells #[.int .i64 i] 3)).alloc (.cells #[.int .i64 j] 3))from by refine Below.O5 ?_;refine Below.O5 ?_;exact AA));refine⟨KA.out,.inr ⟨_,_,_,rfl,DA.out,fun W3 DT=>?_⟩⟩;have NA:Below W.heap.size W W3:=(HB.out.trans (KA.out.below (B:=W.heap.size) (fun k e=>by rw[e];exact ZL.out) HB.out.size)).trans (DT.mono (AG HB.out.size KA.out.size));have SV:=HC.out.below NA;have YA:=HD.out.below HC.out NA;have FO:=S6.out.box HC.out HB.out.size DT
  have ct:=Rh.out.box HC.out (AG HB.out.size K3.out.size) DT;have hp2:=sn.out.box HC.out (AG (AG HB.out.size K3.out.size) (ATh _ _)) DT;refine⟨BH func120 (by kernel_rfl) rfl,?_⟩;exact(lR DA.out.gl SV YA HG.out FO ct hp2).mono fun e W4 x=>⟨_,⟨i,j,rfl,rfl⟩,LK _ (fun t=>SF t _ _),x⟩
 ·rintro e' w2 ⟨Et,⟨v,st,rfl,⟨i,rfl,-,rfl⟩,GV⟩|⟨rfl,hp⟩⟩
  rotate_left
  ·have Df:=I (K1.out.trans Et)
   have HP:=I hp;clear Et hp;simp only[Dr];go_wp2;exact⟨rfl,Df.out,.inl ⟨rfl,HP.out⟩⟩
  have K2:=I (K1.out.trans Et);have B1:=I (B0.out.kept Et);have D2:=I GV;clear Et GV;go_wp2;go_ret;have Wa:=I (AH (fun x=>x=wb) w2);have U5:=I (Wa.out.alloc (.cells #[.int .i64 i] 3));have Rh:=I (show Bx (w2.alloc (.cells #[.int .i64 i] 3)) wb (w2.heap.size) 3 #[.int .i64 i]from⟨by have:=DJ.new w2 3 #[.int .i64 i];simpa using this,fun e=>by have:=D2.out.at_.Nu.lt;omega⟩);have KA:=I (K2.out.trans U5.out);have S6:=I (B1.out.kept U5.out);have DA:=I (D2.out.below (show Below w2.heap.size w2 (w2.alloc (.cells #[.int .i64 i] 3))from by refine Below.O5 ?_;exact AA));refine⟨KA.out,.inr ⟨_,_,_,rfl,DA.out,fun W3 DT=>?_⟩⟩;have NA:Below W.heap.size W W3:=(HB.out.trans (KA.out.below (B:=W.heap.size) (fun k e=>by rw[e];exact ZL.out) HB.out.size)).trans (DT.mono (AG HB.out.size KA.out.size))
  have SV:=HC.out.below NA;have YA:=HD.out.below HC.out NA;have FO:=S6.out.box HC.out HB.out.size DT;have ct:=Rh.out.box HC.out (AG HB.out.size K2.out.size) DT;refine⟨BH func122 (by kernel_rfl) rfl,?_⟩;exact(n5 DA.out.gl SV YA HG.out FO ct).mono fun e W4 x=>⟨_,⟨i,rfl,rfl⟩,LK _ (fun t=>WH t _),x⟩
 ·rintro e' w2 ⟨Et,⟨v,st,rfl,⟨i,rfl,-,rfl⟩,GV⟩|⟨rfl,hp⟩⟩
  rotate_left
  ·have Df:=I (K1.out.trans Et)
   have HP:=I hp;clear Et hp;simp only[Dr];go_wp2;exact⟨rfl,Df.out,.inl ⟨rfl,HP.out⟩⟩
  have K2:=I (K1.out.trans Et);have B1:=I (B0.out.kept Et);have D2:=I GV;clear Et GV;go_wp2;go_ret;have Wa:=I (AH (fun x=>x=wb) w2);have U5:=I (Wa.out.alloc (.cells #[.int .i64 i] 3));have Rh:=I (show Bx (w2.alloc (.cells #[.int .i64 i] 3)) wb (w2.heap.size) 3 #[.int .i64 i]from⟨by have:=DJ.new w2 3 #[.int .i64 i];simpa using this,fun e=>by have:=D2.out.at_.Nu.lt;omega⟩);have KA:=I (K2.out.trans U5.out);have S6:=I (B1.out.kept U5.out);have DA:=I (D2.out.below (show Below w2.heap.size w2 (w2.alloc (.cells #[.int .i64 i] 3))from by refine Below.O5 ?_;exact AA));refine⟨KA.out,.inr ⟨_,_,_,rfl,DA.out,fun W3 DT=>?_⟩⟩;have NA:Below W.heap.size W W3:=(HB.out.trans (KA.out.below (B:=W.heap.size) (fun k e=>by rw[e];exact ZL.out) HB.out.size)).trans (DT.mono (AG HB.out.size KA.out.size))
  have SV:=HC.out.below NA;have YA:=HD.out.below HC.out NA;have FO:=S6.out.box HC.out HB.out.size DT;have ct:=Rh.out.box HC.out (AG HB.out.size K2.out.size) DT;refine⟨BH func124 (by kernel_rfl) rfl,?_⟩;exact(ra DA.out.gl SV YA HG.out FO ct).mono fun e W4 x=>⟨_,⟨i,rfl,rfl⟩,LK _ (fun t=>Uo t _),x⟩
end
theorem dY{fn:Func}{a:Act}{W:World}{g p:Nat}{x0 x1 x2:Value}(h:fn.results=#[.cell p 96])(h4:a.tmps.getD p undef=.pointer (some ⟨g,0,none⟩))
 (c0:W.cell? ⟨g,0,none⟩=some x0) (c1:W.cell? ⟨g,1,none⟩=some x1) (c2:W.cell? ⟨g,2,none⟩=some x2):(results fn a.tmps).run prog W=.ok (.agg #[x0,x1,x2]) W:=by
 have r9:a.tmps[p]?.getD undef=.pointer (some ⟨g,0,none⟩):=by simpa using h4
 simp[results,h,r9,go_sem,c0,c1,c2]
section
variable{w W:World}{A:Option Addr}{c n:Nat}{l:List Int}{pl p1 p2:Nat}{out:ByteArray}{v er a b:Int}
theorem OZ(hn:l.length=n)(he:EZ l=0)(hc:n<=c)(hm:c<=maxLen)(hr:Reads w w.heap.size 1 A n (DF l)):
 Calls prog 93 #[.slice A n c] w fun e w'=>e=.returned (.agg #[.int .i64 n,.int .i64 (s1 l),.int .i64 (s2 l)])/\Below w.heap.size w w':=by
 have Jg:=(AQ w.heap.size w).alloc AB (.cells #[.int .i64 0,.int .i64 0,.int .i64 0] 96);have HS:=I (sa A c (w.heap.size) n l hn he (s1 l) (s2 l) rfl rfl hc hm _ (hr.below Jg AB) Jg.size);have HK:=I (DJ.new w 96 #[.int .i64 0,.int .i64 0,.int .i64 0]);have WR:=I Jg;generalize s1 l=S at*;generalize s2 l=Q at*;clear hr hn he Jg;go_in;go_wp2_with fail
 refine HS.out.mono ?_;rintro e' w1 ⟨rfl,C6⟩;have K1:=I (HK.out.below C6 HK.out.lt);have Ii:=I (Below.C9 WR.out C6);clear C6;go_wp2_with fail
 refine(L6 _).mono ?_;rintro e' w2 ⟨rfl,rfl⟩;have l2:w.heap.size<w1.heap.size:=K1.out.lt;have BK:=I ((((K1.out.De 0 (.int .i64 n)).De 1 (.int .i64 S)).De 2 (.int .i64 Q)).alloc (.cells #[.int .i64 n,.int .i64 S,.int .i64 Q] 96));have Df:=I ((((Ii.out.setCell (p:=⟨w.heap.size,0,none⟩) AB (.int .i64 n)).setCell (p:=⟨w.heap.size,1,none⟩) AB (.int .i64 S)).setCell (p:=⟨w.heap.size,2,none⟩) AB (.int .i64 Q)).alloc (by simp[World.setCell];omega) (.cells #[.int .i64 n,.int .i64 S,.int .i64 Q] 96));have y0:=K1.out.cell 0;have y1:=K1.out.cell 1;have y2:=K1.out.cell 2;have z0:=K1.out.frozen 0;have z1:=K1.out.frozen 1;have z2:=K1.out.frozen 2;simp at y0 y1 y2;go_wp2;exact AF (v:=.agg #[.int .i64 n,.int .i64 S,.int .i64 Q]) (dY results93 rfl ((BK.out.cell 0).trans rfl) ((BK.out.cell 1).trans rfl) ((BK.out.cell 2).trans rfl)) rfl ⟨rfl,Df.out⟩
theorem RN(hn:l.length=n)(hz:EZ l≠0)(hc:n<=c)(hm:c<=maxLen)(hr:Reads w w.heap.size 1 A n (DF l)):
 Calls prog 93 #[.slice A n c] w fun e w'=>e=Dr (EZ l)/\Below w.heap.size w w':=by
 have Jg:=(AQ w.heap.size w).alloc AB (.cells #[.int .i64 0,.int .i64 0,.int .i64 0] 96);have HS:=I (ue A c (w.heap.size) n l hn _ rfl hz hc hm _ (hr.below Jg AB) Jg.size);have HZ:=I hz;have WR:=I Jg;generalize EZ l=e at*;clear hr hn hz Jg;go_in;go_wp2_with fail
 refine HS.out.mono ?_;rintro e' w1 ⟨rfl,C6⟩;have Ii:=I (Below.C9 WR.out C6);clear C6;have Df:=I (Ii.out.alloc Ii.out.size (.cells #[.int .i64 0,.int .i64 0,.int .i64 0] 96));go_wp2_with fail
 refine(Lu e HZ.out _).mono ?_;rintro e' w2 ⟨rfl,rfl⟩;simp only[Dr];go_wp2;exact⟨rfl,rfl,Df.out⟩
abbrev Bh(W:World)(f:FuncId)(args:Array Value)(Q:Ending->Prop):Prop:=∀W',Below W.heap.size W W'->Calls prog f args W' fun e W''=>Q e/\Below W'.heap.size W' W''
theorem Ue(hl:DJ W pl 53 #[.slice A n c])(h1:DJ W p1 3 #[.int .i64 a])(h2:DJ W p2 3 #[.int .i64 b])
 (HR:Bh W 101 #[.slice A n c,.int .i64 a,.int .i64 b] (· =.returned (.tuple #[.int .i64 v,.int .i64 er]))) (HO:QD W v er out):
 Calls prog 100 #[.pointer (some ⟨pl,0,none⟩),.pointer (some ⟨p1,0,none⟩),.pointer (some ⟨p2,0,none⟩)] W fun e W'=>ID er out e/\Below W.heap.size W W':=by
 have c0:=hl.cell 0;have c1:=h1.cell 0;have c2:=h2.cell 0;have l0:=hl.lt;have l1:=h1.lt;have l2:=h2.lt;have Tx:=I (HR W AA);have ZJ:=I HO;simp at c0 c1 c2;clear hl h1 h2 HR HO;go_in;go_wp2_with fail
 refine Tx.out.mono ?_;rintro e' w1 ⟨rfl,C6⟩;have Ii:=I C6;clear C6;go_wp2_with fail
 refine(ZJ.out w1 Ii.out).mono ?_;rintro e' w2 ⟨⟨hz,rfl⟩|⟨hz,rfl⟩,DK⟩;all_goals
  have Df:=I (Below.C9 Ii.out DK);have HZ:=I hz;clear hz DK
 ·go_wp2
  go_ret;exact⟨.inl ⟨HZ.out,rfl⟩,Df.out⟩
 ·simp only[Dr]
  go_wp2;exact⟨rfl,.inr ⟨HZ.out,rfl⟩,Df.out⟩
end
section
variable{w W:World}{A:Option Addr}{c n:Nat}{l:List Int}{pl p1 p2:Nat}{out:ByteArray}{v er a b:Int}
theorem Vn(hl:DJ W pl 53 #[.slice A n c])(h1:DJ W p1 3 #[.int .i64 a])
 (HR:Bh W 105 #[.slice A n c,.int .i64 a] (· =.returned (.tuple #[.int .i64 v,.int .i64 er]))) (HO:QD W v er out):
 Calls prog 104 #[.pointer (some ⟨pl,0,none⟩),.pointer (some ⟨p1,0,none⟩)] W fun e W'=>ID er out e/\Below W.heap.size W W':=by
 have c0:=hl.cell 0;have c1:=h1.cell 0;have l0:=hl.lt;have l1:=h1.lt;have Tx:=I (HR W AA);have ZJ:=I HO;simp at c0 c1;clear hl h1 HR HO;go_in;go_wp2_with fail
 refine Tx.out.mono ?_;rintro e' w1 ⟨rfl,C6⟩;have Ii:=I C6;clear C6;go_wp2_with fail
 refine(ZJ.out w1 Ii.out).mono ?_;rintro e' w2 ⟨⟨hz,rfl⟩|⟨hz,rfl⟩,DK⟩;all_goals
  have Df:=I (Below.C9 Ii.out DK);have HZ:=I hz;clear hz DK
 ·go_wp2
  go_ret;exact⟨.inl ⟨HZ.out,rfl⟩,Df.out⟩
 ·simp only[Dr]
  go_wp2;exact⟨rfl,.inr ⟨HZ.out,rfl⟩,Df.out⟩
theorem sh(hl:DJ W pl 53 #[.slice A n c])(HS:Calls prog 93 #[.slice A n c] W fun e w'=>e=.returned (.agg #[.int .i64 n,.int .i64 a,.int .i64 b])/\Below W.heap.size W w')
 (HT:∀w',Below W.heap.size W w'->Calls prog 94 #[.slice (some ⟨w'.heap.size,0,none⟩) 3 3] (w'.alloc (.cells #[.int .i64 n,.int .i64 a,.int .i64 b] 3)) fun e GQ=>e=.returned (.string out)/\Below w'.heap.size w' GQ):
 Calls prog 92 #[.pointer (some ⟨pl,0,none⟩)] W fun e W'=>ID 0 out e/\Below W.heap.size W W':=by
 have c0:=hl.cell 0;have l0:=hl.lt;have WI:=I HS;have HT':=I HT;simp at c0;clear hl HS HT;go_in;go_wp2_with fail
 refine WI.out.mono ?_;rintro e' w1 ⟨rfl,C6⟩;have Ii:=I (C6.alloc C6.size (.cells #[.int .i64 n,.int .i64 a,.int .i64 b] 96));have HT2:=I (HT'.out _ Ii.out);clear C6;rw[show(w1.alloc (.cells #[.int .i64 n,.int .i64 a,.int .i64 b] 96)).heap.size=w1.heap.size+1 from by simp]at HT2;go_wp2_with fail
 refine HT2.out.mono ?_;rintro e' w2 ⟨rfl,DK⟩;have Df:=I (Ii.out.trans (DK.mono (by have:=Ii.out.size;simpa using this)));clear DK;go_wp2;go_ret;exact⟨.inl ⟨rfl,rfl⟩,Df.out⟩
theorem qK(hl:DJ W pl 53 #[.slice A n c])(HS:Calls prog 93 #[.slice A n c] W fun e w'=>e=.returned (.agg #[.int .i64 n,.int .i64 a,.int .i64 b])/\Below W.heap.size W w')
 (HR:Bh W 96 #[.agg #[.int .i64 n,.int .i64 a,.int .i64 b]] (· =.returned (.tuple #[.int .i64 v,.int .i64 er]))) (HO:QD W v er out):
 Calls prog 95 #[.pointer (some ⟨pl,0,none⟩)] W fun e W'=>ID er out e/\Below W.heap.size W W':=by
 have c0:=hl.cell 0;have l0:=hl.lt;have WI:=I HS;have Tx:=I HR;have ZJ:=I HO;simp at c0;clear hl HS HR HO;go_in;go_wp2_with fail
 refine WI.out.mono ?_;rintro e' w0 ⟨rfl,Jg⟩;have WR:=I Jg;clear Jg;go_wp2_with fail
 refine(Tx.out w0 WR.out).mono ?_;rintro e' w1 ⟨rfl,C6⟩;have Ii:=I (Below.C9 WR.out C6);clear C6;go_wp2_with fail
 refine(ZJ.out w1 Ii.out).mono ?_;rintro e' w2 ⟨⟨hz,rfl⟩|⟨hz,rfl⟩,DK⟩;all_goals
  have Df:=I (Below.C9 Ii.out DK);have HZ:=I hz;clear hz DK
 ·go_wp2
  go_ret;exact⟨.inl ⟨HZ.out,rfl⟩,Df.out⟩
 ·simp only[Dr]
  go_wp2;exact⟨rfl,.inr ⟨HZ.out,rfl⟩,Df.out⟩
theorem gC(hl:DJ W pl 53 #[.slice A n c])(HS:Calls prog 93 #[.slice A n c] W fun e w'=>e=.returned (.agg #[.int .i64 n,.int .i64 a,.int .i64 b])/\Below W.heap.size W w')
 (HR:Bh W 98 #[.agg #[.int .i64 n,.int .i64 a,.int .i64 b]] (· =.returned (.tuple #[.int .i64 v,.int .i64 er]))) (HO:QD W v er out):
 Calls prog 97 #[.pointer (some ⟨pl,0,none⟩)] W fun e W'=>ID er out e/\Below W.heap.size W W':=by
 have c0:=hl.cell 0;have l0:=hl.lt;have WI:=I HS;have Tx:=I HR;have ZJ:=I HO;simp at c0;clear hl HS HR HO;go_in;go_wp2_with fail
 refine WI.out.mono ?_;rintro e' w0 ⟨rfl,Jg⟩;have WR:=I Jg;clear Jg;go_wp2_with fail
 refine(Tx.out w0 WR.out).mono ?_;rintro e' w1 ⟨rfl,C6⟩;have Ii:=I (Below.C9 WR.out C6);clear C6;go_wp2_with fail
 refine(ZJ.out w1 Ii.out).mono ?_;rintro e' w2 ⟨⟨hz,rfl⟩|⟨hz,rfl⟩,DK⟩;all_goals
  have Df:=I (Below.C9 Ii.out DK);have HZ:=I hz;clear hz DK
 ·go_wp2
  go_ret;exact⟨.inl ⟨HZ.out,rfl⟩,Df.out⟩
 ·simp only[Dr]
  go_wp2;exact⟨rfl,.inr ⟨HZ.out,rfl⟩,Df.out⟩
theorem lX(hl:DJ W pl 53 #[.slice A n c])(HS:Calls prog 93 #[.slice A n c] W fun e w'=>e=Dr er/\Below W.heap.size W w')(hz:er≠0):
 Calls prog 92 #[.pointer (some ⟨pl,0,none⟩)] W fun e W'=>ID er out e/\Below W.heap.size W W':=by
 have c0:=hl.cell 0;have l0:=hl.lt;have WI:=I HS;have HZ:=I hz;simp at c0;clear hl HS hz;go_in;go_wp2_with fail
 refine WI.out.mono ?_;rintro e' w0 ⟨rfl,Jg⟩;have WR:=I Jg;clear Jg;simp only[Dr];go_wp2;exact⟨rfl,.inr ⟨HZ.out,rfl⟩,WR.out⟩
theorem mU(hl:DJ W pl 53 #[.slice A n c])(HS:Calls prog 93 #[.slice A n c] W fun e w'=>e=Dr er/\Below W.heap.size W w')(hz:er≠0):
 Calls prog 95 #[.pointer (some ⟨pl,0,none⟩)] W fun e W'=>ID er out e/\Below W.heap.size W W':=by
 have c0:=hl.cell 0;have l0:=hl.lt;have WI:=I HS;have HZ:=I hz;simp at c0;clear hl HS hz;go_in;go_wp2_with fail
 refine WI.out.mono ?_;rintro e' w0 ⟨rfl,Jg⟩;have WR:=I Jg;clear Jg;simp only[Dr];go_wp2;exact⟨rfl,.inr ⟨HZ.out,rfl⟩,WR.out⟩
theorem aI(hl:DJ W pl 53 #[.slice A n c])(HS:Calls prog 93 #[.slice A n c] W fun e w'=>e=Dr er/\Below W.heap.size W w')(hz:er≠0):
 Calls prog 97 #[.pointer (some ⟨pl,0,none⟩)] W fun e W'=>ID er out e/\Below W.heap.size W W':=by
 have c0:=hl.cell 0;have l0:=hl.lt;have WI:=I HS;have HZ:=I hz;simp at c0;clear hl HS hz;go_in;go_wp2_with fail
 refine WI.out.mono ?_;rintro e' w0 ⟨rfl,Jg⟩;have WR:=I Jg;clear Jg;simp only[Dr];go_wp2;exact⟨rfl,.inr ⟨HZ.out,rfl⟩,WR.out⟩
theorem cV(hl:DJ W pl 53 #[.slice A n c])(h1:DJ W p1 3 #[.int .i64 b]){S Q:Int}(HS:Bh W 93 #[.slice A n c] (· =.returned (.agg #[.int .i64 n,.int .i64 S,.int .i64 Q])))
 (HR:Bh W 103 #[.agg #[.int .i64 n,.int .i64 S,.int .i64 Q],.int .i64 b] (· =.returned (.tuple #[.int .i64 v,.int .i64 er]))) (HO:QD W v er out):
 Calls prog 102 #[.pointer (some ⟨pl,0,none⟩),.pointer (some ⟨p1,0,none⟩)] W fun e W'=>ID er out e/\Below W.heap.size W W':=by
 have HX:=I (show∀w',Below W.heap.size W w'->(Below W.heap.size W w'/\w'.cell? ⟨pl,0,none⟩=some (.slice A n c)/\w'.cell? ⟨p1,0,none⟩=some (.int .i64 b))from fun w' hb=>⟨hb,(hl.below hb hl.lt).cell 0,(h1.below hb h1.lt).cell 0⟩);obtain⟨-,c0,c1⟩:=HX.out W AA;have l0:=hl.lt;have l1:=h1.lt;have WI:=I HS;have Tx:=I HR;have ZJ:=I HO;clear hl h1 HS HR HO;go_in;by_cases hz:er=0
 ·subst hz
  go_wp2_with fail
  go_region_held3 (fun w'=>Below W.heap.size W w'/\w'.cell? ⟨pl,0,none⟩=some (.slice A n c)/\w'.cell? ⟨p1,0,none⟩=some (.int .i64 b))
   ((refine HX.out _ ?_;repeat (with_reducible first|exact II.out|exact AA|refine AE ?_)))
   (first
   |(go_at_call 93;(with_reducible refine(WI.out _ ?ia).mono ?_);(case ia=>repeat (with_reducible first|exact II.out|exact AA|refine AE ?_));rintro e' w1 ⟨rfl,C6⟩;have II:=I (show Below W.heap.size W w1 from Below.C9 (by repeat (with_reducible first|exact AA|exact II.out|refine AE ?_)) C6);clear C6)
   |(go_at_call 103;(with_reducible refine(Tx.out _ ?ia).mono ?_);(case ia=>repeat (with_reducible first|exact II.out|exact AA|refine AE ?_));rintro e' w2 ⟨rfl,DK⟩;have II:=I (show Below W.heap.size W w2 from Below.C9 (by repeat (with_reducible first|exact AA|exact II.out|refine AE ?_)) DK);clear DK)
   |(go_at_call 82;(with_reducible refine(ZJ.out.ok rfl _ ?ia).mono ?_);(case ia=>repeat (with_reducible first|exact II.out|exact AA|refine AE ?_));rintro e' w3 ⟨rfl,DT⟩;have II:=I (show Below W.heap.size W w3 from Below.C9 (by repeat (with_reducible first|exact AA|exact II.out|refine AE ?_)) DT);clear DT))
  all_goals
   go_wp2;go_ret;exact⟨.inl ⟨rfl,rfl⟩,II.out⟩
 ·have HE:=I hz
  clear hz;go_wp2_with fail
  go_region_held2 (fun w'=>Below W.heap.size W w'/\w'.cell? ⟨pl,0,none⟩=some (.slice A n c)/\w'.cell? ⟨p1,0,none⟩=some (.int .i64 b))
   ((refine HX.out _ ?_;repeat (with_reducible first|exact II.out|exact AA|refine AE ?_)))
   (first
   |(go_at_call 93;(with_reducible refine(WI.out _ ?ia).mono ?_);(case ia=>repeat (with_reducible first|exact II.out|exact AA|refine AE ?_));rintro e' w1 ⟨rfl,C6⟩;have II:=I (show Below W.heap.size W w1 from Below.C9 (by repeat (with_reducible first|exact AA|exact II.out|refine AE ?_)) C6);clear C6)
   |(go_at_call 103;(with_reducible refine(Tx.out _ ?ia).mono ?_);(case ia=>repeat (with_reducible first|exact II.out|exact AA|refine AE ?_));rintro e' w2 ⟨rfl,DK⟩;have II:=I (show Below W.heap.size W w2 from Below.C9 (by repeat (with_reducible first|exact AA|exact II.out|refine AE ?_)) DK);clear DK)
   |(go_at_call 82;(with_reducible refine(ZJ.out.no HE.out _ ?ia).mono ?_);(case ia=>repeat (with_reducible first|exact II.out|exact AA|refine AE ?_));rintro e' w3 ⟨rfl,DT⟩;refine Co fun hn=>?_;have HP:=I (hn ⟨rfl,.inr ⟨HE.out,rfl⟩,Below.C9 (by repeat (with_reducible first|exact AA|exact II.out|refine AE ?_)) DT⟩);clear hn DT;refine(fun(_:(‹Act->World->Prop›) ⟨#[],[]⟩ w2)=>HP.out) ?_))
  all_goals exact HP.out.elim
theorem kh(hl:DJ W pl 53 #[.slice A n c])(h1:DJ W p1 3 #[.int .i64 b])(HS:Bh W 93 #[.slice A n c] (· =Dr er))(hz:er≠0):
 Calls prog 102 #[.pointer (some ⟨pl,0,none⟩),.pointer (some ⟨p1,0,none⟩)] W fun e W'=>ID er out e/\Below W.heap.size W W':=by
 have HX:=I (show∀w',Below W.heap.size W w'->(Below W.heap.size W w'/\w'.cell? ⟨pl,0,none⟩=some (.slice A n c)/\w'.cell? ⟨p1,0,none⟩=some (.int .i64 b))from fun w' hb=>⟨hb,(hl.below hb hl.lt).cell 0,(h1.below hb h1.lt).cell 0⟩);obtain⟨-,c0,c1⟩:=HX.out W AA;have l0:=hl.lt;have l1:=h1.lt;have WI:=I HS;have HE:=I hz;clear hl h1 HS hz;go_in;go_wp2_with fail
 go_region_held2 (fun w'=>Below W.heap.size W w'/\w'.cell? ⟨pl,0,none⟩=some (.slice A n c)/\w'.cell? ⟨p1,0,none⟩=some (.int .i64 b))
  ((refine HX.out _ ?_;repeat (with_reducible first|exact II.out|exact AA|refine AE ?_)))
  (first
  |(go_at_call 93;(with_reducible refine(WI.out _ ?ia).mono ?_);(case ia=>repeat (with_reducible first|exact II.out|exact AA|refine AE ?_));rintro e' w1 ⟨rfl,C6⟩;refine Co fun hn=>?_;have HP:=I (hn ⟨rfl,.inr ⟨HE.out,rfl⟩,Below.C9 (by repeat (with_reducible first|exact AA|exact II.out|refine AE ?_)) C6⟩);clear hn C6;refine(fun(_:(‹Act->World->Prop›) ⟨#[.pointer (some ⟨pl,0,none⟩),.pointer (some ⟨p1,0,none⟩),.string ⟨#[]⟩,.slice A n c,.agg #[.int .i64 0,.int .i64 0,.int .i64 0],.int .i64 b,undef,undef,undef,undef],[]⟩ W)=>HP.out) ?_)
  |(go_at_call 103;refine Calls.mono (R:=fun e w'=>e=.returned (.tuple #[.int .i64 0,.int .i64 0])/\W=w') HP.out.elim ?_;rintro e' w2 ⟨rfl,rfl⟩)
  |(go_at_call 82;refine Calls.mono (R:=fun e w'=>e=.returned (.string ⟨#[]⟩)/\W=w') HP.out.elim ?_;rintro e' w2 ⟨rfl,rfl⟩))
 all_goals exact HP.out.elim
theorem ed{fn:Func}{a:Act}{W:World}{g p:Nat}{x0 x1:Value}(h:fn.results=#[.cell p 148])(h4:a.tmps.getD p undef=.pointer (some ⟨g,0,none⟩))
 (c0:W.cell? ⟨g,0,none⟩=some x0) (c1:W.cell? ⟨g,1,none⟩=some x1):(results fn a.tmps).run prog W=.ok (.agg #[x0,x1]) W:=by
 have r9:a.tmps[p]?.getD undef=.pointer (some ⟨g,0,none⟩):=by simpa using h4
 simp[results,h,r9,go_sem,c0,c1]
theorem KX(w:World)(h1:1<=n)(hm:n<=maxLen):Calls prog 108 #[.slice A n c] w fun e w'=>e=.returned (.agg #[.int .i64 n,.slice A n c])/\Below w.heap.size w w':=by
 have Df:=I ((AQ w.heap.size w).alloc AB (.cells #[.int .i64 n,.slice A n c] 148));have BK:=I (DJ.new w 148 #[.int .i64 n,.slice A n c]);have hx:max (1:Int) (n:Int)=(n:Int):=by omega
 go_in;go_wp2;exact AF (v:=.agg #[.int .i64 n,.slice A n c]) (ed results108 rfl ((BK.out.cell 0).trans rfl) ((BK.out.cell 1).trans rfl)) rfl ⟨rfl,Df.out⟩
theorem PN(hl:DJ W pl 53 #[.slice A n c])(h1:DJ W p1 3 #[.int .i64 a])(h2:DJ W p2 3 #[.int .i64 b])(HS:Bh W 108 #[.slice A n c] (· =.returned (.agg #[.int .i64 n,.slice A n c])))
 (HR:Bh W 107 #[.agg #[.int .i64 n,.slice A n c],.int .i64 a,.int .i64 b] (· =.returned (.tuple #[.int .i64 v,.int .i64 er]))) (HO:QD W v er out):
 Calls prog 106 #[.pointer (some ⟨pl,0,none⟩),.pointer (some ⟨p1,0,none⟩),.pointer (some ⟨p2,0,none⟩)] W fun e W'=>ID er out e/\Below W.heap.size W W':=by
 have HX:=I (show∀w',Below W.heap.size W w'->(Below W.heap.size W w'/\w'.cell? ⟨pl,0,none⟩=some (.slice A n c)/\w'.cell? ⟨p1,0,none⟩=some (.int .i64 a)/\w'.cell? ⟨p2,0,none⟩=some (.int .i64 b))from fun w' hb=>⟨hb,(hl.below hb hl.lt).cell 0,(h1.below hb h1.lt).cell 0,(h2.below hb h2.lt).cell 0⟩);obtain⟨-,c0,c1,c2⟩:=HX.out W AA;have l0:=hl.lt;have l1:=h1.lt;have l2:=h2.lt;have WI:=I HS;have Tx:=I HR;have ZJ:=I HO;clear hl h1 h2 HS HR HO;go_in;by_cases hz:er=0
 ·subst hz
  go_wp2_with fail
  go_region_held3 (fun w'=>Below W.heap.size W w'/\w'.cell? ⟨pl,0,none⟩=some (.slice A n c)/\w'.cell? ⟨p1,0,none⟩=some (.int .i64 a)/\w'.cell? ⟨p2,0,none⟩=some (.int .i64 b))
   ((refine HX.out _ ?_;repeat (with_reducible first|exact II.out|exact AA|refine AE ?_)))
   (first
   |(go_at_call 108;(with_reducible refine(WI.out _ ?ia).mono ?_);(case ia=>repeat (with_reducible first|exact II.out|exact AA|refine AE ?_));rintro e' w1 ⟨rfl,C6⟩;have II:=I (show Below W.heap.size W w1 from Below.C9 (by repeat (with_reducible first|exact AA|exact II.out|refine AE ?_)) C6);clear C6)
   |(go_at_call 107;(with_reducible refine(Tx.out _ ?ia).mono ?_);(case ia=>repeat (with_reducible first|exact II.out|exact AA|refine AE ?_));rintro e' w2 ⟨rfl,DK⟩;have II:=I (show Below W.heap.size W w2 from Below.C9 (by repeat (with_reducible first|exact AA|exact II.out|refine AE ?_)) DK);clear DK)
   |(go_at_call 82;(with_reducible refine(ZJ.out.ok rfl _ ?ia).mono ?_);(case ia=>repeat (with_reducible first|exact II.out|exact AA|refine AE ?_));rintro e' w3 ⟨rfl,DT⟩;have II:=I (show Below W.heap.size W w3 from Below.C9 (by repeat (with_reducible first|exact AA|exact II.out|refine AE ?_)) DT);clear DT))
  all_goals
   go_wp2;go_ret;exact⟨.inl ⟨rfl,rfl⟩,II.out⟩
 ·have HE:=I hz
  clear hz;go_wp2_with fail
  go_region_held2 (fun w'=>Below W.heap.size W w'/\w'.cell? ⟨pl,0,none⟩=some (.slice A n c)/\w'.cell? ⟨p1,0,none⟩=some (.int .i64 a)/\w'.cell? ⟨p2,0,none⟩=some (.int .i64 b))
   ((refine HX.out _ ?_;repeat (with_reducible first|exact II.out|exact AA|refine AE ?_)))
   (first
   |(go_at_call 108;(with_reducible refine(WI.out _ ?ia).mono ?_);(case ia=>repeat (with_reducible first|exact II.out|exact AA|refine AE ?_));rintro e' w1 ⟨rfl,C6⟩;have II:=I (show Below W.heap.size W w1 from Below.C9 (by repeat (with_reducible first|exact AA|exact II.out|refine AE ?_)) C6);clear C6)
   |(go_at_call 107;(with_reducible refine(Tx.out _ ?ia).mono ?_);(case ia=>repeat (with_reducible first|exact II.out|exact AA|refine AE ?_));rintro e' w2 ⟨rfl,DK⟩;have II:=I (show Below W.heap.size W w2 from Below.C9 (by repeat (with_reducible first|exact AA|exact II.out|refine AE ?_)) DK);clear DK)
   |(go_at_call 82;(with_reducible refine(ZJ.out.no HE.out _ ?ia).mono ?_);(case ia=>repeat (with_reducible first|exact II.out|exact AA|refine AE ?_));rintro e' w3 ⟨rfl,DT⟩;refine Co fun hn=>?_;have HP:=I (hn ⟨rfl,.inr ⟨HE.out,rfl⟩,Below.C9 (by repeat (with_reducible first|exact AA|exact II.out|refine AE ?_)) DT⟩);clear hn DT;refine(fun(_:(‹Act->World->Prop›) ⟨#[],[]⟩ w2)=>HP.out) ?_))
  all_goals exact HP.out.elim
theorem PA(hl:DJ W pl 53 #[.slice A n c])(h1:DJ W p1 3 #[.int .i64 a])(h2:DJ W p2 3 #[.int .i64 b])(HS:Bh W 108 #[.slice A n c] (· =.returned (.agg #[.int .i64 n,.slice A n c])))
 (HR:Bh W 110 #[.agg #[.int .i64 n,.slice A n c],.int .i64 a,.int .i64 b] (· =.returned (.tuple #[.int .i64 v,.int .i64 er]))) (HO:QD W v er out):
 Calls prog 109 #[.pointer (some ⟨pl,0,none⟩),.pointer (some ⟨p1,0,none⟩),.pointer (some ⟨p2,0,none⟩)] W fun e W'=>ID er out e/\Below W.heap.size W W':=by
 have HX:=I (show∀w',Below W.heap.size W w'->(Below W.heap.size W w'/\w'.cell? ⟨pl,0,none⟩=some (.slice A n c)/\w'.cell? ⟨p1,0,none⟩=some (.int .i64 a)/\w'.cell? ⟨p2,0,none⟩=some (.int .i64 b))from fun w' hb=>⟨hb,(hl.below hb hl.lt).cell 0,(h1.below hb h1.lt).cell 0,(h2.below hb h2.lt).cell 0⟩);obtain⟨-,c0,c1,c2⟩:=HX.out W AA;have l0:=hl.lt;have l1:=h1.lt;have l2:=h2.lt;have WI:=I HS;have Tx:=I HR;have ZJ:=I HO;clear hl h1 h2 HS HR HO;go_in;by_cases hz:er=0
 ·subst hz
  go_wp2_with fail
  go_region_held3 (fun w'=>Below W.heap.size W w'/\w'.cell? ⟨pl,0,none⟩=some (.slice A n c)/\w'.cell? ⟨p1,0,none⟩=some (.int .i64 a)/\w'.cell? ⟨p2,0,none⟩=some (.int .i64 b))
   ((refine HX.out _ ?_;repeat (with_reducible first|exact II.out|exact AA|refine AE ?_)))
   (first
   |(go_at_call 108;(with_reducible refine(WI.out _ ?ia).mono ?_);(case ia=>repeat (with_reducible first|exact II.out|exact AA|refine AE ?_));rintro e' w1 ⟨rfl,C6⟩;have II:=I (show Below W.heap.size W w1 from Below.C9 (by repeat (with_reducible first|exact AA|exact II.out|refine AE ?_)) C6);clear C6)
   |(go_at_call 110;(with_reducible refine(Tx.out _ ?ia).mono ?_);(case ia=>repeat (with_reducible first|exact II.out|exact AA|refine AE ?_));rintro e' w2 ⟨rfl,DK⟩;have II:=I (show Below W.heap.size W w2 from Below.C9 (by repeat (with_reducible first|exact AA|exact II.out|refine AE ?_)) DK);clear DK)
   |(go_at_call 82;(with_reducible refine(ZJ.out.ok rfl _ ?ia).mono ?_);(case ia=>repeat (with_reducible first|exact II.out|exact AA|refine AE ?_));rintro e' w3 ⟨rfl,DT⟩;have II:=I (show Below W.heap.size W w3 from Below.C9 (by repeat (with_reducible first|exact AA|exact II.out|refine AE ?_)) DT);clear DT))
  all_goals
   go_wp2;go_ret;exact⟨.inl ⟨rfl,rfl⟩,II.out⟩
 ·have HE:=I hz
  clear hz;go_wp2_with fail
  go_region_held2 (fun w'=>Below W.heap.size W w'/\w'.cell? ⟨pl,0,none⟩=some (.slice A n c)/\w'.cell? ⟨p1,0,none⟩=some (.int .i64 a)/\w'.cell? ⟨p2,0,none⟩=some (.int .i64 b))
   ((refine HX.out _ ?_;repeat (with_reducible first|exact II.out|exact AA|refine AE ?_)))
   (first
   |(go_at_call 108;(with_reducible refine(WI.out _ ?ia).mono ?_);(case ia=>repeat (with_reducible first|exact II.out|exact AA|refine AE ?_));rintro e' w1 ⟨rfl,C6⟩;have II:=I (show Below W.heap.size W w1 from Below.C9 (by repeat (with_reducible first|exact AA|exact II.out|refine AE ?_)) C6);clear C6)
   |(go_at_call 110;(with_reducible refine(Tx.out _ ?ia).mono ?_);(case ia=>repeat (with_reducible first|exact II.out|exact AA|refine AE ?_));rintro e' w2 ⟨rfl,DK⟩;have II:=I (show Below W.heap.size W w2 from Below.C9 (by repeat (with_reducible first|exact AA|exact II.out|refine AE ?_)) DK);clear DK)
   |(go_at_call 82;(with_reducible refine(ZJ.out.no HE.out _ ?ia).mono ?_);(case ia=>repeat (with_reducible first|exact II.out|exact AA|refine AE ?_));rintro e' w3 ⟨rfl,DT⟩;refine Co fun hn=>?_;have HP:=I (hn ⟨rfl,.inr ⟨HE.out,rfl⟩,Below.C9 (by repeat (with_reducible first|exact AA|exact II.out|refine AE ?_)) DT⟩);clear hn DT;refine(fun(_:(‹Act->World->Prop›) ⟨#[],[]⟩ w2)=>HP.out) ?_))
  all_goals exact HP.out.elim
end
def eX(W:World):List Nat->List Nat->Prop
 | [],[]=>True
 |p::ps,k::ks=>DJ W p 3 #[.int .i64 (k:Int)]/\eX W ps ks
 |_,_=>False
def iQ(pl:Nat)(ps:List Nat):Array Value:=((pl::ps).map fun p=>Value.pointer (some ⟨p,0,none⟩)).toArray
def IV(o:ByteArray):Prop:=Nl o/\o.size<=20000
def zU(wd:ByteArray)(L:List Int)(ns:List Nat)(o:ByteArray):Prop:=∀(w:World)(A An:Option Addr)(c cn:Nat),Reads w w.heap.size 1 A L.length (DF L)->Reads w w.heap.size 1 An ns.length (ET ns)->L.length<=c/\c<=maxLen->
 Calls prog 17 #[.string wd,.slice A L.length c,.slice An ns.length cn] w fun e w'=>e=.returned (.string o)/\Below w.heap.size w w'
def AHU(f:FuncId)(L:List Int)(ns:List Nat)(er:Int)(out:ByteArray):Prop:=∀(W:World)(A:Option Addr)(c pl:Nat)(ps:List Nat),Gl W->Reads W W.heap.size 1 A L.length (DF L)->L.length<=c/\c<=maxLen->DJ W pl 53 #[.slice A L.length c]->eX W ps ns->
 Calls prog f (iQ pl ps) W fun e W'=>ID er out e/\Below W.heap.size W W'
structure VQ(wd:ByteArray)(L:List Int)(ns:List Nat)(f:FuncId)(er:Int)(out:ByteArray):Prop where
 bd:0<=er/\er<100
 ok:IV (FF er out)
 ref:zU wd L ns (FF er out)
 pro:AHU f L ns er out
theorem Ht(k:Nat)(hk:k<100):IV (FG k):=by
 refine⟨zg k,?_⟩;have:=UH 2 k (by decide) (by omega);have h6:(⟨#[101,114,114,111,114,32]⟩:ByteArray).size=6:=rfl;unfold FG;rw[Aq,h6];omega
theorem T9(l:List Nat)(hl:l.length<=100)(hs:∀k∈l,k<9223372036854775808):IV (Gc l):=by
 have:=Mt l hs l.length AB;rw[Ap]at this;exact⟨uE l,by omega⟩
theorem Ju{v:Int}(h:v<9223372036854775808):IV (GF v):=T9 [v.toNat] (by simp) (by intro k hk;rcases Ai.1 hk with rfl;omega)
theorem IA(o:ByteArray):FF 0 o=o:=AD rfl
theorem Hu{er:Int}(h:er≠0)(o:ByteArray):FF er o=FG er.toNat:=AC h
theorem qt(L:List Int):0<=EZ L/\EZ L<3:=by
 unfold EZ
 repeat' split
 all_goals omega
theorem Lt{wd:ByteArray}{L:List Int}(hz:Li wd L≠0)(hm:L.length<=maxLen)(ns:List Nat)(out:ByteArray):(0<=Li wd L/\Li wd L<100)/\IV (FF (Li wd L) out)/\zU wd L ns (FF (Li wd L) out):=by
 have hb:0<=Li wd L/\Li wd L<100:=by
  have:=qt L;unfold Li;split<;>omega
 obtain⟨k,hk⟩:∃k:Nat,Li wd L=(k:Int):=⟨_,(AUC hb.1).symm⟩;rw[Hu hz,hk,Bp];exact⟨by rw[<-hk];exact hb,Ht k (by omega),fun w A An c cn hr _ hc=>AAk (m:=ns.length) wd k hk (by omega) rfl hm hr⟩
theorem GK{wd:ByteArray}(h:bS wd=false)(L:List Int):Li wd L=EZ L:=by
 unfold Li;rw[AC (by rw[h];simp)]
section
variable{L:List Int}{wd:ByteArray}
theorem KH{w:World}{A:Option Addr}{c:Nat}(hr:Reads w w.heap.size 1 A L.length (DF L))(hc:L.length<=c/\c<=maxLen)(he:EZ L=0)(h1:1<=L.length):Jv w A c L.length L:=⟨hr,rfl,he,h1,hc⟩
theorem uB(h1:1<=L.length)(hm:L.length<=65537):∃er out,VQ ⟨#[115,117,109,115]⟩ L [] 92 er out:=by
 by_cases he:EZ L=0
 ·have hb:=Yl L (Dk he).2 (Dk he).1
  have MH:=(Dk he).1;have DG:∀k∈ [L.length,(s1 L).toNat,(s2 L).toNat],k<9223372036854775808:=by
   intro k hk;simp only[AR,CT,CU]at hk;rcases hk with rfl|rfl|rfl<;>omega
  refine⟨0,Gc [L.length,(s1 L).toNat,(s2 L).toNat],by decide,?_,?_,?_⟩
  ·rw[IA];exact T9 _ (by simp) DG
  ·rw[IA]
   exact fun w A An c cn hr _ hc=>(OC (KH hr hc he h1)).1 _ _ _ rfl rfl
  ·intro W A c pl ps G hr hc hl DK
   cases ps with
   |cons p ps=>exact DK.elim
   |nil=>
    refine sh hl (OZ rfl he hc.1 hc.2 hr) (fun w' hw=>?_);exact XP _ 3 rfl (by decide) DG _ _ (by simp only[ET,CN,List.map_nil];rw[AUC hb.1,AUC hb.2.2.1]) w' (G.below hw) _ rfl
 ·obtain⟨r1,r2,r3⟩:=Lt (wd:=⟨#[115,117,109,115]⟩) (L:=L) (by rw[GK (by decide+kernel)];exact he) (by unfold maxLen;omega) [] ByteArray.empty
  rw[GK (by decide+kernel)]at r1 r2 r3;refine⟨_,_,r1,r2,r3,fun W A c pl ps G hr hc hl DK=>?_⟩;cases ps with
  |cons p ps=>exact DK.elim
  |nil=>exact lX hl (RN rfl he hc.1 hc.2 hr) he
theorem xC(h1:1<=L.length)(hm:L.length<=65537):∃er out,VQ ⟨#[109,101,97,110]⟩ L [] 95 er out:=by
 by_cases he:EZ L=0
 ·have hb:=Yl L (Dk he).2 (Dk he).1
  have MH:=(Dk he).1;have hv0:0<=s1 L/(L.length:Int):=AS7 hb.1 (by omega);have ZQ:s1 L/(L.length:Int)<=s1 L:=AS8 _ hb.1;refine⟨0,GF (s1 L/L.length),by decide,?_,?_,?_⟩
  ·rw[IA];exact Ju (by omega)
  ·rw[IA]
   exact fun w A An c cn hr _ hc=>(OC (KH hr hc he h1)).2.1 _ _ rfl
  ·intro W A c pl ps G hr hc hl DK
   cases ps with
   |cons p ps=>exact DK.elim
   |nil=>exact qK hl (OZ rfl he hc.1 hc.2 hr) (fun W' hw=>wQ _ _ _ (IZ L he) (by omega) W') (KQ G ⟨hv0,by omega⟩)
 ·obtain⟨r1,r2,r3⟩:=Lt (wd:=⟨#[109,101,97,110]⟩) (L:=L) (by rw[GK (by decide+kernel)];exact he) (by unfold maxLen;omega) [] ByteArray.empty
  rw[GK (by decide+kernel)]at r1 r2 r3;refine⟨_,_,r1,r2,r3,fun W A c pl ps G hr hc hl DK=>?_⟩;cases ps with
  |cons p ps=>exact DK.elim
  |nil=>exact mU hl (RN rfl he hc.1 hc.2 hr) he
theorem lf(h1:1<=L.length)(hm:L.length<=65537):∃er out,VQ ⟨#[115,112,114,101,97,100]⟩ L [] 97 er out:=by
 by_cases he:EZ L=0
 ·have hb:=RH (IZ L he)
  refine⟨0,GF (L.length*s2 L-s1 L*s1 L),by decide,?_,?_,?_⟩
  ·rw[IA];exact Ju (by omega)
  ·rw[IA]
   exact fun w A An c cn hr _ hc=>(OC (KH hr hc he h1)).2.2.1 _ _ rfl
  ·intro W A c pl ps G hr hc hl DK
   cases ps with
   |cons p ps=>exact DK.elim
   |nil=>exact gC hl (OZ rfl he hc.1 hc.2 hr) (fun W' hw=>Sh _ _ _ (IZ L he) W') (KQ G ⟨by omega,by omega⟩)
 ·obtain⟨r1,r2,r3⟩:=Lt (wd:=⟨#[115,112,114,101,97,100]⟩) (L:=L) (by rw[GK (by decide+kernel)];exact he) (by unfold maxLen;omega) [] ByteArray.empty
  rw[GK (by decide+kernel)]at r1 r2 r3;refine⟨_,_,r1,r2,r3,fun W A c pl ps G hr hc hl DK=>?_⟩;cases ps with
  |cons p ps=>exact DK.elim
  |nil=>exact aI hl (RN rfl he hc.1 hc.2 hr) he
end
theorem pS(A:Option Addr)(c B n:Nat)(l:List Int)(k:Int)(hn:l.length=n)(e:Int)(he:EZ l=e)(hz:e≠0)(hm:n<=maxLen)(w:World)(hr:Reads w B 1 A n (DF l)):
 Calls prog 105 #[.slice A n c,.int .i64 k] w fun e' w'=>e'=.returned (.tuple #[.int .i64 0,.int .i64 e])/\w=w':=by
 have HN:=I hn;have HE:=I he;have HR:=I hr;clear hn he hr;go_in;go_wp2_with fail
 refine(IR _ _ _ l n HN.out _ HE.out hm _ HR.out).mono ?_;rintro e' w' ⟨rfl,rfl⟩;go_wp2;refine AF (v:=.tuple #[.int .i64 0,.int .i64 e]) (by simp[results,results105,go_sem]) rfl ⟨rfl,rfl⟩
theorem pF(A:Option Addr)(c B n:Nat)(l:List Int)(k:Int)(hk:k<0\/8<k)(hn:l.length=n)(he:EZ l=0)(hm:n<=maxLen)(w:World)(hr:Reads w B 1 A n (DF l)):
 Calls prog 105 #[.slice A n c,.int .i64 k] w fun e' w'=>e'=.returned (.tuple #[.int .i64 0,.int .i64 1])/\w=w':=by
 have HN:=I hn;have HE:=I he;have HR:=I hr;clear hn he hr;go_in;go_wp2_with fail
 refine(IR _ _ _ l n HN.out _ HE.out hm _ HR.out).mono ?_;rintro e' w' ⟨rfl,rfl⟩;go_wp2;all_goals first
  |(exfalso;omega)
  |exact AF (v:=.tuple #[.int .i64 0,.int .i64 1]) (by simp[results,results105,go_sem]) rfl ⟨rfl,rfl⟩
theorem uS{L T:List Int}(h:So.Ik L T)(he:EZ L=0)(k:Nat):0<=T.getD k 0/\T.getD k 0<=16777216:=by
 by_cases hk:k<T.length
 ·rw[By,AU hk]
  have hm:=h.2.mem_iff.1 (AL hk);have:=ATl.1 (Dk he).2 _ hm
  simpa [IM,wi] using this
 ·rw[By,ATM (by omega)]
  decide
theorem qE{x a b:Int}(h:wi x a b=false):x<a\/b<x:=by
 by_cases h1:a<=x
 ·by_cases h2:x<=b
  ·rw[DW.2 ⟨h1,h2⟩]at h;cases h
  ·exact .inr (by omega)
 ·exact .inl (by omega)
section
variable{L:List Int}{wd:ByteArray}
theorem xE(h1:1<=L.length)(hm:L.length<=65537)(a b:Nat):∃er out,VQ ⟨#[114,97,110,107]⟩ L [a,b] 100 er out:=by
 by_cases he:EZ L=0
 ·have MH:=(Dk he).1
  by_cases hp:RK a b=true
  ·unfold RK at hp
   rw[Bf]at hp;obtain⟨p1,p2⟩:=DW.1 hp.1;obtain⟨p3,p4⟩:=DW.1 hp.2;have hb:=uS (So.gK L) he (Km (L.length*a) b- 1);refine⟨0,GF ((So.srt L).getD (Km (L.length*a) b- 1) 0),by decide,?_,?_,?_⟩
   ·rw[IA];exact Ju (by omega)
   ·rw[IA]
    exact fun w A An c cn hr hn hc=>(OC (KH hr hc he h1)).2.2.2.2.2.2 a b _ _ (So.gK L) (by omega) (by omega) (by omega) rfl hn
   ·intro W A c pl ps G hr hc hl DK
    obtain _|⟨q1,_|⟨q2,_|⟨q3,ps⟩⟩⟩:=ps
    ·exact DK.elim
    ·exact DK.2.elim
    ·exact Ue hl DK.1 DK.2.1 (fun W' hw=>(o3 A c W.heap.size L.length a b _ L _ (So.gK L) rfl he h1 (by omega) (by omega) (by omega) rfl W' (hr.below hw AB) hw.size)) (KQ G ⟨hb.1,by omega⟩)
    ·exact DK.2.2.elim
  ·have ZP:RK a b=false:=by simpa using hp
   refine⟨1,ByteArray.empty,by decide,?_,?_,?_⟩
   ·rw[Hu (by decide)];exact Ht 1 (by decide)
   ·rw[Hu (by decide)]
    exact fun w A An c cn hr hn hc=>t8 (KH hr hc he h1) a b ZP hn
   ·intro W A c pl ps G hr hc hl DK
    obtain _|⟨q1,_|⟨q2,_|⟨q3,ps⟩⟩⟩:=ps
    ·exact DK.elim
    ·exact DK.2.elim
    ·refine Ue (v:=0) hl DK.1 DK.2.1 (fun W' hw=>(jr A c W.heap.size L.length L a b ?_ rfl he (by unfold maxLen;omega) W' (hr.below hw AB)).mono fun e w' ⟨x1,x2⟩=>⟨x1,x2▸AA⟩) (Gq (by decide) _)
     unfold RK at ZP;rw[AUG]at ZP;rcases ZP with ZP|ZP
     ·rcases qE ZP with h|h
      ·exact .inl h
      ·exact .inr (.inl h)
     ·rcases qE ZP with h|h
      ·exact .inr (.inr (.inl h))
      ·exact .inr (.inr (.inr h))
    ·exact DK.2.2.elim
 ·obtain⟨r1,r2,r3⟩:=Lt (wd:=⟨#[114,97,110,107]⟩) (L:=L) (by rw[GK (by decide+kernel)];exact he) (by unfold maxLen;omega) [a,b] ByteArray.empty
  rw[GK (by decide+kernel)]at r1 r2 r3;refine⟨_,_,r1,r2,r3,fun W A c pl ps G hr hc hl DK=>?_⟩;obtain _|⟨q1,_|⟨q2,_|⟨q3,ps⟩⟩⟩:=ps
  ·exact DK.elim
  ·exact DK.2.elim
  ·exact Ue (v:=0) hl DK.1 DK.2.1 (fun W' hw=>(lh A c W.heap.size L.length L a b rfl _ rfl he (by unfold maxLen;omega) W' (hr.below hw AB)).mono fun e w' ⟨x1,x2⟩=>⟨x1,x2▸AA⟩) (Gq he _)
  ·exact DK.2.2.elim
theorem vD(h1:1<=L.length)(hm:L.length<=65537)(a:Nat):∃er out,VQ ⟨#[102,97,100,101]⟩ L [a] 104 er out:=by
 by_cases he:EZ L=0
 ·have MH:=(Dk he).1
  by_cases hp:a<=8
  ·have hb:=Uh L a hp (Dk he).2 (by omega) (L.length- 1) (by omega)
   refine⟨0,GF (Hs L a (L.length- 1)),by decide,?_,?_,?_⟩
   ·rw[IA];exact Ju (by omega)
   ·rw[IA]
    exact fun w A An c cn hr hn hc=>u7 (KH hr hc he h1) a hp hn
   ·intro W A c pl ps G hr hc hl DK
    obtain _|⟨q1,_|⟨q2,ps⟩⟩:=ps
    ·exact DK.elim
    ·exact Vn hl DK.1 (fun W' hw=>(t7 A c W.heap.size L.length a L rfl he h1 hp hc.1 hc.2 W' (hr.below hw AB)).mono fun e w' ⟨x1,x2⟩=>⟨x1,x2▸AA⟩) (KQ G ⟨hb.1,by omega⟩)
    ·exact DK.2.elim
  ·refine⟨1,ByteArray.empty,by decide,?_,?_,?_⟩
   ·rw[Hu (by decide)];exact Ht 1 (by decide)
   ·rw[Hu (by decide)]
    exact fun w A An c cn hr hn hc=>iO ⟨#[102,97,100,101]⟩ (.inr rfl) (KH hr hc he h1) a (by rw[AD rfl];exact Fc.2 (.inr (by omega))) hn
   ·intro W A c pl ps G hr hc hl DK
    obtain _|⟨q1,_|⟨q2,ps⟩⟩:=ps
    ·exact DK.elim
    ·exact Vn (v:=0) hl DK.1 (fun W' hw=>(pF A c W.heap.size L.length L a (.inr (by omega)) rfl he (by unfold maxLen;omega) W' (hr.below hw AB)).mono fun e w' ⟨x1,x2⟩=>⟨x1,x2▸AA⟩) (Gq (by decide) _)
    ·exact DK.2.elim
 ·obtain⟨r1,r2,r3⟩:=Lt (wd:=⟨#[102,97,100,101]⟩) (L:=L) (by rw[GK (by decide+kernel)];exact he) (by unfold maxLen;omega) [a] ByteArray.empty
  rw[GK (by decide+kernel)]at r1 r2 r3;refine⟨_,_,r1,r2,r3,fun W A c pl ps G hr hc hl DK=>?_⟩;obtain _|⟨q1,_|⟨q2,ps⟩⟩:=ps
  ·exact DK.elim
  ·exact Vn (v:=0) hl DK.1 (fun W' hw=>(pS A c W.heap.size L.length L a rfl _ rfl he (by unfold maxLen;omega) W' (hr.below hw AB)).mono fun e w' ⟨x1,x2⟩=>⟨x1,x2▸AA⟩) (Gq he _)
  ·exact DK.2.elim
theorem wl(h1:1<=L.length)(hm:L.length<=65537)(a:Nat):∃er out,VQ ⟨#[99,97,110,116,101,108,108,105]⟩ L [a] 102 er out:=by
 by_cases he:EZ L=0
 ·have MH:=(Dk he).1
  have hs:=IZ L he;have hn:=RH hs;by_cases hp:a<=1073741824
  ·obtain⟨v,hv,hP,hR⟩:∃v:Nat,v<=L.length/\(∀w,Calls prog 103 #[.agg #[.int .i64 L.length,.int .i64 (s1 L),.int .i64 (s2 L)],.int .i64 a] w fun e' w'=>e'=.returned (.tuple #[.int .i64 v,.int .i64 0])/\Below w.heap.size w w')/\
    (∀w,Calls prog 52 #[.agg #[.int .i64 L.length,.int .i64 (s1 L),.int .i64 (s2 L)],.int .i64 a] w fun e' w'=>e'=.returned (.int .i64 v)/\Below w.heap.size w w'):=by
    by_cases hd:(L.length:Int)*a-s1 L<=0
    ·exact⟨L.length,AB,fun w=>oI _ _ _ _ hs (by omega) (by omega) hd w,fun w=>kZ _ _ _ _ hs (by omega) (by omega) hd w⟩
    ·obtain⟨d,hd'⟩:∃d:Nat,(L.length:Int)*a-s1 L=d:=⟨((L.length:Int)*a-s1 L).toNat,by omega⟩
     obtain⟨sp,p7⟩:∃sp:Nat,(L.length:Int)*s2 L-s1 L*s1 L=sp:=⟨((L.length:Int)*s2 L-s1 L*s1 L).toNat,by omega⟩;refine⟨L.length*sp/(sp+d*d),?_,fun w=>wZ _ d sp _ _ _ hs p7 (by omega) (by omega) hd' (by omega) w,fun w=>rp _ d sp _ _ _ hs p7 (by omega) (by omega) hd' (by omega) w⟩;have h2:=Bb L.length (ATh sp (d*d));exact Nat.div_le_of_le_mul (by rw[AZ (sp+d*d)];exact h2)
   refine⟨0,GF v,by decide,?_,?_,?_⟩
   ·rw[IA];exact Ju (by omega)
   ·rw[IA]
    exact fun w A An c cn hr hn hc=>(OC (KH hr hc he h1)).2.2.2.1 a v (DW.2 ⟨by omega,by omega⟩) hn (fun w' _=>hR w') ⟨by omega,by omega⟩
   ·intro W A c pl ps G hr hc hl DK
    obtain _|⟨q1,_|⟨q2,ps⟩⟩:=ps
    ·exact DK.elim
    ·exact cV hl DK.1 (fun W' hw=>OZ rfl he hc.1 hc.2 ((hr.below hw AB).more hw.size)) (fun W' hw=>hP W') (KQ G ⟨by omega,by omega⟩)
    ·exact DK.2.elim
  ·refine⟨1,ByteArray.empty,by decide,?_,?_,?_⟩
   ·rw[Hu (by decide)];exact Ht 1 (by decide)
   ·rw[Hu (by decide)]
    exact fun w A An c cn hr hn hc=>iO ⟨#[99,97,110,116,101,108,108,105]⟩ (.inl rfl) (KH hr hc he h1) a (by rw[AC (by simp)];exact Fc.2 (.inr (by omega))) hn
   ·intro W A c pl ps G hr hc hl DK
    obtain _|⟨q1,_|⟨q2,ps⟩⟩:=ps
    ·exact DK.elim
    ·exact cV (v:=0) hl DK.1 (fun W' hw=>OZ rfl he hc.1 hc.2 ((hr.below hw AB).more hw.size)) (fun W' hw=>pm _ _ _ _ hs (.inr (by omega)) W') (Gq (by decide) _)
    ·exact DK.2.elim
 ·obtain⟨r1,r2,r3⟩:=Lt (wd:=⟨#[99,97,110,116,101,108,108,105]⟩) (L:=L) (by rw[GK (by decide+kernel)];exact he) (by unfold maxLen;omega) [a] ByteArray.empty
  rw[GK (by decide+kernel)]at r1 r2 r3;refine⟨_,_,r1,r2,r3,fun W A c pl ps G hr hc hl DK=>?_⟩;obtain _|⟨q1,_|⟨q2,ps⟩⟩:=ps
  ·exact DK.elim
  ·exact kh hl DK.1 (fun W' hw=>RN rfl he hc.1 hc.2 ((hr.below hw AB).more hw.size)) he
  ·exact DK.2.elim
end
section
variable{L:List Int}{wd:ByteArray}
theorem Zx(hw:bS wd=true)(h1:1<=L.length)(a:Int):KC L.length a L=if Li wd L=0 then (if wi a 1 16777216=true then 0 else 1)else Li wd L:=by
 have hv:Ih L.length L=Li wd L:=by
  unfold Ih Li;by_cases h:64<L.length
  ·rw[Fc.2 (.inr (by omega)),AC (by decide),AD ⟨hw,h⟩]
  ·rw[DW.2 ⟨by omega,by omega⟩,AD rfl,AC (by omega),AC (fun k=>h k.2)]
 unfold KC;rw[hv];split
 ·split
  ·rw[AC (by omega)]
  ·rfl
 ·rfl
theorem val_zero(hw:bS wd=true)(h:Li wd L=0):EZ L=0/\L.length<=64:=by
 unfold Li at h;split at h
 ·cases h
 ·exact⟨h,(Dk h).1⟩
theorem qr(h1:1<=L.length)(hm:L.length<=65537)(a b:Nat):∃er out,VQ ⟨#[108,101,118,101,108]⟩ L [a,b] 106 er out:=by
 have Na:=Zx (wd:=⟨#[108,101,118,101,108]⟩) (L:=L) (by decide+kernel) h1 a;by_cases he:Li ⟨#[108,101,118,101,108]⟩ L=0
 ·rw[AD he]at Na
  obtain⟨Xu,MH⟩:=val_zero (by decide+kernel) he;by_cases ha:wi (a:Int) 1 16777216=true
  ·rw[AD ha]at Na
   obtain⟨a0,a1⟩:=DW.1 ha;by_cases hb:b<=1073741824
   ·have Wd:=T5 (IZ L Xu) (by omega) a0 a1
    have ANP:=ig (Pw L.length (s1 L) (s2 L) a).toNat (N:=L.length) (s:=b) (S:=s1 L) (by omega) (by omega) (by omega) (by omega) (rX L (Dk Xu).2).1;refine⟨0,GF (Lv.YV (Pw L.length (s1 L) (s2 L) a).toNat L.length (s1 L) b:Nat),by decide,?_,?_,?_⟩
    ·rw[IA];exact Ju (by omega)
    ·rw[IA]
     exact fun w A An c cn hr hn hc=>(OC (KH hr hc Xu h1)).2.2.2.2.1 a b _ ha (DW.2 ⟨by omega,by omega⟩) hn (fun w' hw=>Sn a b A c _ L.length L rfl Xu h1 a0 a1 _ _ rfl rfl _ Wd.symm (by omega) (by omega) hc.1 hc.2 w' (hr.below hw AB) hw.size) ⟨by omega,by omega⟩
    ·intro W A c pl ps G hr hc hl DK
     obtain _|⟨q1,_|⟨q2,_|⟨q3,ps⟩⟩⟩:=ps
     ·exact DK.elim
     ·exact DK.2.elim
     ·exact PN hl DK.1 DK.2.1 (fun W' hw=>KX W' h1 (by unfold maxLen;omega)) (fun W' hw=>dW _ a b A c _ L.length L rfl Na _ _ rfl rfl _ Wd.symm (by omega) (by omega) hc.1 hc.2 W' (hr.below hw AB) hw.size) (KQ G ⟨by omega,by omega⟩)
     ·exact DK.2.2.elim
   ·refine⟨1,ByteArray.empty,by decide,?_,?_,?_⟩
    ·rw[Hu (by decide)];exact Ht 1 (by decide)
    ·rw[Hu (by decide)]
     exact fun w A An c cn hr hn hc=>Tq _ (.inl rfl) (KH hr hc Xu h1) a b (.inr ⟨ha,by rw[AD rfl];exact Fc.2 (.inr (by omega))⟩) hn
    ·intro W A c pl ps G hr hc hl DK
     obtain _|⟨q1,_|⟨q2,_|⟨q3,ps⟩⟩⟩:=ps
     ·exact DK.elim
     ·exact DK.2.elim
     ·exact PN (v:=0) hl DK.1 DK.2.1 (fun W' hw=>KX W' h1 (by unfold maxLen;omega)) (fun W' hw=>qJ _ a b A c _ L.length L rfl Na (.inr (by omega)) (by unfold maxLen;omega) W' (hr.below hw AB) hw.size) (Gq (by decide) _)
     ·exact DK.2.2.elim
  ·rw[AC ha]at Na
   refine⟨1,ByteArray.empty,by decide,?_,?_,?_⟩
   ·rw[Hu (by decide)];exact Ht 1 (by decide)
   ·rw[Hu (by decide)]
    exact fun w A An c cn hr hn hc=>Tq _ (.inl rfl) (KH hr hc Xu h1) a b (.inl (by simpa using ha)) hn
   ·intro W A c pl ps G hr hc hl DK
    obtain _|⟨q1,_|⟨q2,_|⟨q3,ps⟩⟩⟩:=ps
    ·exact DK.elim
    ·exact DK.2.elim
    ·exact PN (v:=0) hl DK.1 DK.2.1 (fun W' hw=>KX W' h1 (by unfold maxLen;omega)) (fun W' hw=>ga _ a b A c _ L.length L rfl _ Na (by decide) (by unfold maxLen;omega) W' (hr.below hw AB) hw.size) (Gq (by decide) _)
    ·exact DK.2.2.elim
 ·rw[AC he]at Na
  obtain⟨r1,r2,r3⟩:=Lt (wd:=⟨#[108,101,118,101,108]⟩) (L:=L) he (by unfold maxLen;omega) [a,b] ByteArray.empty;refine⟨_,_,r1,r2,r3,fun W A c pl ps G hr hc hl DK=>?_⟩;obtain _|⟨q1,_|⟨q2,_|⟨q3,ps⟩⟩⟩:=ps
  ·exact DK.elim
  ·exact DK.2.elim
  ·exact PN (v:=0) hl DK.1 DK.2.1 (fun W' hw=>KX W' h1 (by unfold maxLen;omega)) (fun W' hw=>ga _ a b A c _ L.length L rfl _ Na he (by unfold maxLen;omega) W' (hr.below hw AB) hw.size) (Gq he _)
  ·exact DK.2.2.elim
theorem u9(h1:1<=L.length)(hm:L.length<=65537)(a b:Nat):∃er out,VQ ⟨#[119,104,101,110]⟩ L [a,b] 109 er out:=by
 have Na:=Zx (wd:=⟨#[119,104,101,110]⟩) (L:=L) (by decide+kernel) h1 a;by_cases he:Li ⟨#[119,104,101,110]⟩ L=0
 ·rw[AD he]at Na
  obtain⟨Xu,MH⟩:=val_zero (by decide+kernel) he;by_cases ha:wi (a:Int) 1 16777216=true
  ·rw[AD ha]at Na
   obtain⟨a0,a1⟩:=DW.1 ha;by_cases hb:wi (b:Int) 1 60=true
   ·obtain⟨b0,b1⟩:=DW.1 hb
    have Wd:=T5 (IZ L Xu) (by omega) a0 a1;obtain⟨f,hf⟩:∃f:Int->Nat,f=Lv.YV (Pw L.length (s1 L) (s2 L) a).toNat L.length (s1 L):=⟨_,rfl⟩;have tB:∀s t,s<=t->f s<=f t:=fun s t h=>by rw[hf];exact Lv.qW _ _ (by omega) h
    have hO:∀(W:World)(A:Option Addr)(c:Nat),Reads W W.heap.size 1 A L.length (DF L)->L.length<=c/\c<=maxLen->yv L.length a A L.length c f W:=fun W A c hr hc s w' s0 s1' hw=>by
     rw[hf];exact dW _ a s A c _ L.length L rfl Na _ _ rfl rfl _ Wd.symm s0 s1' hc.1 hc.2 w' (hr.below hw AB) hw.size
    have hR:∀(W:World)(A:Option Addr)(c:Nat),Reads W W.heap.size 1 A L.length (DF L)->L.length<=c/\c<=maxLen->pX a A L.length c f W:=fun W A c hr hc s w' s0 s1' hw=>by
     rw[hf];exact Sn a s A c _ L.length L rfl Xu h1 a0 a1 _ _ rfl rfl _ Wd.symm s0 s1' hc.1 hc.2 w' (hr.below hw AB) hw.size
    clear hf;by_cases hn:(f 1073741824:Int)<b
    ·refine⟨2,ByteArray.empty,by decide,?_,?_,?_⟩
     ·rw[Hu (by decide)];exact Ht 2 (by decide)
     ·rw[Hu (by decide)]
      exact fun w A An c cn hr Jw hc=>(OC (KH hr hc Xu h1)).2.2.2.2.2.1 a b (-1) ha hb Jw (fun w' hw=>Zs a b A c L.length f hn w' (hR w' A c ((hr.below hw AB).more hw.size) hc)) (by decide)
     ·intro W A c pl ps G hr hc hl DK
      obtain _|⟨q1,_|⟨q2,_|⟨q3,ps⟩⟩⟩:=ps
      ·exact DK.elim
      ·exact DK.2.elim
      ·exact PA (v:=0) hl DK.1 DK.2.1 (fun W' hw=>KX W' h1 (by unfold maxLen;omega)) (fun W' hw=>cN _ a b A c W.heap.size L.length L rfl Na f b0 b1 hn (by unfold maxLen;omega) W' (hr.below hw AB) hw.size (hO W' A c ((hr.below hw AB).more hw.size) hc)) (Gq (by decide) _)
      ·exact DK.2.2.elim
    ·obtain⟨t,ht,Ur⟩:=Lv.RZ (f:=f) (q:=b) 1073741824 (show(b:Int)<=(f 1073741824:Int)by omega)
     have t0:0<=t:=ht.1;refine⟨0,GF t,by decide,?_,?_,?_⟩
     ·rw[IA];exact Ju (by omega)
     ·rw[IA]
      intro w A An c cn hr Jw hc;have:=(OC (cn:=cn) (KH hr hc Xu h1)).2.2.2.2.2.1 a b t ha hb Jw (fun w' hw=>nU a b A c L.length f tB t ht (by omega) w' (hR w' A c ((hr.below hw AB).more hw.size) hc)) (by omega);rw[show gh t=GF t from AC (by omega)]at this;exact this
     ·intro W A c pl ps G hr hc hl DK
      obtain _|⟨q1,_|⟨q2,_|⟨q3,ps⟩⟩⟩:=ps
      ·exact DK.elim
      ·exact DK.2.elim
      ·exact PA hl DK.1 DK.2.1 (fun W' hw=>KX W' h1 (by unfold maxLen;omega)) (fun W' hw=>pM _ a b A c W.heap.size L.length L rfl Na f tB b0 b1 t ht (by omega) (by unfold maxLen;omega) W' (hr.below hw AB) hw.size (hO W' A c ((hr.below hw AB).more hw.size) hc)) (KQ G ⟨t0,by omega⟩)
      ·exact DK.2.2.elim
   ·refine⟨1,ByteArray.empty,by decide,?_,?_,?_⟩
    ·rw[Hu (by decide)];exact Ht 1 (by decide)
    ·rw[Hu (by decide)]
     exact fun w A An c cn hr hn hc=>Tq _ (.inr rfl) (KH hr hc Xu h1) a b (.inr ⟨ha,by rw[AC (by simp)];simpa using hb⟩) hn
    ·intro W A c pl ps G hr hc hl DK
     obtain _|⟨q1,_|⟨q2,_|⟨q3,ps⟩⟩⟩:=ps
     ·exact DK.elim
     ·exact DK.2.elim
     ·exact PA (v:=0) hl DK.1 DK.2.1 (fun W' hw=>KX W' h1 (by unfold maxLen;omega)) (fun W' hw=>kQ _ a b A c _ L.length L rfl Na (qE (by simpa using hb)) (by unfold maxLen;omega) W' (hr.below hw AB) hw.size) (Gq (by decide) _)
     ·exact DK.2.2.elim
  ·rw[AC ha]at Na
   refine⟨1,ByteArray.empty,by decide,?_,?_,?_⟩
   ·rw[Hu (by decide)];exact Ht 1 (by decide)
   ·rw[Hu (by decide)]
    exact fun w A An c cn hr hn hc=>Tq _ (.inr rfl) (KH hr hc Xu h1) a b (.inl (by simpa using ha)) hn
   ·intro W A c pl ps G hr hc hl DK
    obtain _|⟨q1,_|⟨q2,_|⟨q3,ps⟩⟩⟩:=ps
    ·exact DK.elim
    ·exact DK.2.elim
    ·exact PA (v:=0) hl DK.1 DK.2.1 (fun W' hw=>KX W' h1 (by unfold maxLen;omega)) (fun W' hw=>Xy _ a b A c _ L.length L rfl _ Na (by decide) (by unfold maxLen;omega) W' (hr.below hw AB) hw.size) (Gq (by decide) _)
    ·exact DK.2.2.elim
 ·rw[AC he]at Na
  obtain⟨r1,r2,r3⟩:=Lt (wd:=⟨#[119,104,101,110]⟩) (L:=L) he (by unfold maxLen;omega) [a,b] ByteArray.empty;refine⟨_,_,r1,r2,r3,fun W A c pl ps G hr hc hl DK=>?_⟩;obtain _|⟨q1,_|⟨q2,_|⟨q3,ps⟩⟩⟩:=ps
  ·exact DK.elim
  ·exact DK.2.elim
  ·exact PA (v:=0) hl DK.1 DK.2.1 (fun W' hw=>KX W' h1 (by unfold maxLen;omega)) (fun W' hw=>Xy _ a b A c _ L.length L rfl _ Na he (by unfold maxLen;omega) W' (hr.below hw AB) hw.size) (Gq he _)
  ·exact DK.2.2.elim
