/- The desk's small words: -/
import Derived.Test.YthiplgekjgffkaaGreatDoorM39
import Derived.Lib.SmallJoins
set_option maxRecDepth 100000
set_option maxHeartbeats 99000000
set_option linter.all false
namespace Go.Proofs.YthiplgekjgffkaaGreatDoor
open Go.Proofs.Tryz
open Go.RowKit Go.Lib
def Dr(e:Int):Ending:=.panicked [{v:=.iface 67 (.agg #[.int .i64 e]),recovered:=false}]
theorem Ia(e:Int)(w:World):Calls prog 86 #[.int .i64 e] w fun x w'=>x=Dr e/\w=w':=by
 go_in;go_wp2;exact⟨rfl,rfl,rfl⟩
theorem L6(w:World):Calls prog 87 #[.int .i64 0] w fun x w'=>x=.returned (.tuple #[])/\w=w':=by
 go_in;go_wp2
 go_end0
 exact⟨rfl,rfl⟩
theorem Lu(e:Int)(h:e≠0)(w:World):Calls prog 87 #[.int .i64 e] w fun x w'=>x=Dr e/\w=w':=by
 have Jg:(e==0)=false:=by simpa using h
 have C6:(e != 0)=true:=by simpa using h
 clear h;go_in;go_wp2_with fail
 refine(Ia e w).mono ?_;rintro e' w1 ⟨rfl,rfl⟩;simp only[Dr];go_wp2;exact⟨rfl,rfl,rfl⟩
theorem Uq{X:Nat->Prop}{w w1:World}(h:Kept X w w1)(n:Nat):Kept X w (w1.drewN n):=⟨h.os,h.tape,h.output,h.size,h.block⟩
def ZN(W:World)(wb:Nat)(A:Option Addr)(n c:Nat)(at_:Nat):Prop:=DJ W wb 72 #[.slice A n c,.int .i64 (at_:Int)]
theorem AAv(wb:Nat)(A:Option Addr)(n c:Nat)(w:World)(h:ZN w wb A n c n):Calls prog 26 #[.pointer (some ⟨wb,0,none⟩)] w fun x w'=>x=.returned (.tuple #[])/\Below w.heap.size w w':=by
 have DG:=h.lt;have c0:=h.cell 0;have c1:=h.cell 1;simp at c0 c1;clear h;go_in;go_wp2
 go_quiet (fail)
 go_wp2
 go_end0
 exact⟨rfl,Ba AA _⟩
theorem Y6(wb:Nat)(A:Option Addr)(n c i:Nat)(hi:i≠n)(w:World)(h:ZN w wb A n c i):Calls prog 26 #[.pointer (some ⟨wb,0,none⟩)] w fun x w'=>x=Dr 11/\Below w.heap.size w w':=by
 have DG:=h.lt;have c0:=h.cell 0;have c1:=h.cell 1;simp at c0 c1;have Jg:((i:Int)==(n:Int))=false:=by simp;omega
 have C6:((i:Int) != (n:Int))=true:=by simp;omega
 clear h;go_in;go_wp2
 go_quiet (fail)
 go_wp2_with fail
 refine(Ia 11 _).mono ?_;rintro e' w1 ⟨rfl,rfl⟩;simp only[Dr];go_wp2;exact⟨rfl,rfl,Ba AA _⟩
theorem vd(wb:Nat)(A:Option Addr)(n c:Nat)(w:World)(h:ZN w wb A n c n):Calls prog 85 #[.pointer (some ⟨wb,0,none⟩)] w fun x w'=>x=Dr 11/\Below w.heap.size w w':=by
 have DG:=h.lt;have c0:=h.cell 0;have c1:=h.cell 1;simp at c0 c1;clear h;go_in;go_wp2
 go_quiet (fail)
 go_wp2_with fail
 refine(Ia 11 _).mono ?_;rintro e' w1 ⟨rfl,rfl⟩;simp only[Dr];go_wp2;exact⟨rfl,rfl,Ba AA _⟩
theorem wn(wb:Nat)(A:Option Addr)(n c i:Nat)(l:List ByteArray)(hl:l.length=n)(hc:n<=c)(hm:c<=maxLen)(hi:i<n)(w:World)(h:ZN w wb A n c i)(hr:Reads w w.heap.size 1 A n (C7 l))(hx:∀a,A=some a->a.block≠wb):
 Calls prog 85 #[.pointer (some ⟨wb,0,none⟩)] w fun x w'=>x=.returned (.string (l[i]'(by omega)))/\Kept (· =wb) w w'/\ZN w' wb A n c (i+1):=by
 have DG:=h.lt;have c0:=h.cell 0;have c1:=h.cell 1;have z1:=h.frozen 1;simp at c0 c1;obtain⟨g,off,rfl,hg,EO⟩:=hr.addr (by omega);have ZH:=EO i (.string (l[i]'(by omega))) (by simp[C7,hl,hi]);have SS:g≠wb:=hx _ rfl;have Jg:((i:Int)==(n:Int))=false:=by simp;omega
 have HW:=I (fun n1 n2=>show Kept (fun x=>x=wb) w (((w.drewN n1).setCell ⟨wb,1,none⟩ (.int .i64 ((i:Int)+1))).drewN n2)/\ZN (((w.drewN n1).setCell ⟨wb,1,none⟩ (.int .i64 ((i:Int)+1))).drewN n2) wb (some ⟨g,off,none⟩) n c (i+1)from
  ⟨Uq (Kept.setCell (X:=fun x=>x=wb) (a:=⟨wb,1,none⟩) (Uq (AH _ w) n1) (.inl rfl) _) n2,by have:=((h.drewN n1).De 1 (.int .i64 ((i:Int)+1))).drewN n2;simpa [ZN] using this⟩)
 unfold maxLen at hm;generalize l[i]'(by omega)=s at*;clear h hr EO hx;go_in;go_wp2
 go_quiet (fail)
 go_wp2
 go_quiet (fail)
 go_wp2;go_ret;exact⟨rfl,HW.out _ _⟩
def Wo(k:Nat):ByteArray:=⟨(Lib.decDigits k).toArray⟩
theorem rU:∀k:Fin 100,(Lib.decDigits k.val).length<=12:=by decide+kernel
theorem PT{k:Nat}(hk:k<100):(Wo k).size<=12:=by
 have:=rU ⟨k,hk⟩
 simpa [Wo,ByteArray.size] using this
open Go.ChangeShapes Go.WideShapes Go.Joins Go.Deep
def Ie(c:Dg):List Value:=[.string c.1,.int .i64 (LY c),.int .i64 (Eb c),.int .i64 (JM c),.int .i64 (Jy c)]
def Du:List Dg->List Value
 | []=>[]
 |c::l=>Ie c++Du l
theorem P8:∀(l:List Dg)(k j:Nat)(h:k<l.length),j<5->(Du l)[k*5+j]? =(Ie (l[k]'h))[j]?
 | [],k,j,h,_=>by simp at h
 |c::l,0,j,_,hj=>by
  rw[ASu,CH];simp only[Du];rw[ATc (by simpa [Ie] using hj)];rfl
 |c::l,k+1,j,h,hj=>by
  have h5:(Ie c).length=5:=rfl;simp only[Du];rw[ASz (by rw[h5];omega),h5,show(k+1)*5+j- 5=k*5+j by omega,P8 l k j (by simpa using h) hj];rfl
def IQ(bs:List Nat):List Value:=bs.map fun b=>.pointer (some ⟨b,0,none⟩)
def Kv(l:List Bool):List Value:=l.map Value.bool
structure Ds(F:Nat->Nat)(W:World)(tb:Nat)(Aa:Option Addr)(ca:Nat)(nv dv wv:Value)(bs:List Nat)(t:DQ):Prop where
 DC:Nx F 1 W tb 213 #[.slice Aa t.L.length ca,nv,dv,wv]
 all:IW F 2 W 5 t.L.length Aa (Du (t.L.map fun p=>p.1.c))
 Jp:Ns F 3 W 215 1 t.L.length nv (IQ bs)
 Qk:Ns F 4 W 4 1 t.L.length dv (Kv (t.L.map Prod.snd))
 way:Ns F 5 W 9 1 t.way.length wv (C7 t.way)
 len:bs.length=t.L.length
 node:∀i (h:i<bs.length) (h':i<t.L.length),FM (fun k=>F k=10+i) W (bs[i]'h) (t.L[i]'h').1
def EK(c:Nat):Prop:=(1<=c/\c<=5)\/(10<=c/\c<20)
section
variable{w W W':World}{F F':Nat->Nat}{P:Nat->Prop}{tb ca c:Nat}{Aa:Option Addr}{nv dv wv:Value}{bs:List Nat}{t:DQ}
theorem Ds.other(h:Ds F W tb Aa ca nv dv wv bs t)(hC:EA w W F)(m:DN P F W F' W')(hP:∀c,P c->¬EK c)(h5:t.L.length<=5):Ds F' W' tb Aa ca nv dv wv bs t:=by
 have hn:∀c,EK c->¬P c:=fun c h1 h2=>hP c h2 h1;exact⟨m.DC hC (by omega) (hn 1 (.inl (by omega))) h.DC,m.read hC (by omega) (hn 2 (.inl (by omega))) h.all,m.row hC (by omega) (hn 3 (.inl (by omega))) h.Jp,m.row hC (by omega) (hn 4 (.inl (by omega))) h.Qk,m.row hC (by omega) (hn 5 (.inl (by omega))) h.way,h.len,
  fun i hi SJ=>m.hold hC (by omega) (hn (10+i) (.inr (by omega))) (h.node i hi SJ)⟩
theorem Ds.below(h:Ds F W tb Aa ca nv dv wv bs t)(hC:EA w W F)(hb:Below W.heap.size W W')(h5:t.L.length<=5):Ds F W' tb Aa ca nv dv wv bs t:=
 h.other hC (.below (P:=fun _=>False) hC hb) (fun _ h=>h.elim) h5
theorem Ds.Pe{i:Nat}{s1:Dh}{d:Bool}(h:Ds F W tb Aa ca nv dv wv bs t)(hC:EA w W F)(hi:i<t.L.length)(hk:Kept (fun k=>F k=10+i) W W')(hn:FM (grow (fun k=>F k=10+i) W W') W' (bs[i]'(by rw[h.len];exact hi)) s1)(rx:s1.c=(t.L[i]'hi).1.c)(hd:d=(t.L[i]'hi).2):
 Ds (DM F W W' (10+i)) W' tb Aa ca nv dv wv bs ⟨t.L.set i (s1,d),t.way⟩:=by
 have m:=DN.DM hC hk;have e1:(t.L.set i (s1,d)).map (fun p=>p.1.c)=t.L.map (fun p=>p.1.c):=by
  apply ASi (by simp);intro j h1 h2;simp only[Ce,CJ];split
  ·next e=>subst e;exact rx
  ·rfl
 have e2:(t.L.set i (s1,d)).map Prod.snd=t.L.map Prod.snd:=by
  apply ASi (by simp);intro j h1 h2;simp only[Ce,CJ];split
  ·next e=>subst e;exact hd
  ·rfl
 refine⟨?_,?_,?_,?_,m.row hC (by omega) (by omega) h.way,by simpa using h.len,fun j hj Mk=>?_⟩
 ·simpa using m.DC hC (c':=1) (by omega) (by omega) h.DC
 ·have:=m.read hC (c':=2) (by omega) (by omega) h.all
  simpa [e1] using this
 ·simpa using m.row hC (c':=3) (by omega) (by omega) h.Jp
 ·have:=m.row hC (c':=4) (by omega) (by omega) h.Qk
  simpa [e2] using this
 ·by_cases e:j=i
  ·subst e
   have:FM (fun k=>DM F W W' (10+j) k=10+j) W' (bs[j]'hj) s1:=hC.held hk (by omega) hn
   simpa using this
  ·have Py:j<t.L.length:=by simpa using Mk
   have:FM (fun k=>DM F W W' (10+i) k=10+j) W' (bs[j]'hj) (t.L[j]'Py).1:=m.hold hC (c':=10+j) (by omega) (by omega) (h.node j hj Py)
   simpa [CJ,Ne.symm e] using this
end
def gX(n:Nat)(xs:List Value)(w:World)(e:Ending)(w':World):Prop:=∃A c,e=.returned (.slice A n c)/\w'.ownsRow w.heap.size 108 5 (.slice A n c) n xs/\Below w.heap.size w w'
theorem Ru:(Tryz.prog.info? 108).map (fun i=>(i.zero,i.size,i.bytes))=some (some (.agg #[.string ByteArray.empty,.int .i64 0,.int .i64 0,.int .i64 0,.int .i64 0]),5,48):=by kernel_rfl
theorem rY(c:Nat)(w:World):
 Calls prog 57 #[.slice none 0 c] w fun e w'=>e=.returned (.slice none 0 0)/\Below w.heap.size w w':=by
 have kC:=fun w=>AS0 (P:=prog) w 28 108 none 0 c 0 0 underlying28;go_in;go_wp2;go_ret;exact⟨rfl,AA⟩
theorem mT(ad:Addr)(c n B:Nat)(xs:List Value)(hm:n<=1000)(h1:∀u∈xs,u.oneCell'=true)(w:World)(hr:Reads w B 5 (some ad) n xs)(hB:B<=w.heap.size):
 Calls prog 57 #[.slice (some ad) n c] w (gX n xs w):=by
 obtain⟨i0,hi,Fq,FZ,Fe⟩:=AO Ru;have HO:=I (show(w.alloc (.cells #[] 108)).ownsRow w.heap.size 108 5 (.slice (some ⟨w.heap.size,0,none⟩) 0 0) 0 []from⟨rfl,.inr ⟨w.heap.size,0,#[],rfl,AB,DJ.new _ _ _,AB,AM _,rfl,rfl⟩⟩);have jU:=I (hr.alloc hB (.cells #[] 108));have H1:=I h1;clear h1 hr;have kC:=fun w=>AS0 (P:=prog) w 28 108 (some ad) n c 0 0 underlying28;go_in;go_wp2_with (at_builtin;refine EU _ rfl _ _ 28 rfl w.heap.size 108 i0 _ 5 48 underlying28 hi Fq FZ Fe rfl (by decide) _ _ _ rfl HO.out _ _ _ _ _ rfl jU.out H1.out ?c1 ?c2 ?c3 ?_)
 case c1=>unfold maxLen;omega
 case c2=>omega
 case c3=>first|omega|simp
 intro v' w' DL hb;try simp only[CH,Cm]at DL
 obtain⟨A9,c9,rfl⟩:=Cz DL;have Df:=I (show gX n xs w (.returned (.slice A9 n c9)) w' from⟨A9,c9,rfl,DL,(AA.alloc AB _).trans hb⟩);clear DL hb;go_wp2;go_ret;exact Df.out
theorem V5(A:Option Addr)(c n B:Nat)(xs:List Value)(hm:n<=1000)(h1:∀u∈xs,u.oneCell'=true)(w:World)(hr:Reads w B 5 A n xs)(hB:B<=w.heap.size):
 Calls prog 57 #[.slice A n c] w (gX n xs w):=by
 cases A with
 |none=>
  rcases Ac n with h0|h0
  ·subst h0
   obtain rfl:xs=[]:=Bn (by have:=hr.1;omega);exact(rY c w).mono fun e w' ⟨k1,k2⟩=>⟨none,0,k1,AX _ _ _ _,k2⟩
  ·obtain⟨_,h,_⟩:=hr.2 h0
   cases h
 |some ad=>exact mT ad c n B xs hm h1 w hr hB
def Jl(L:List PM)(q:Lit):Bool:=match q with| .int .i64 i=>decide (0<=i)&&((L.map Prod.snd)[i.toNat]?).getD false|_=>false
theorem a8{L:List PM}{k:Nat}(hk:k<L.length):Jl L (.int .i64 (k:Int))=(L[k]'hk).2:=by
 unfold Jl;simp[hk]
def JJ:List PM->Nat
 | []=>0
 |p::l=>(if p.2=true then 1 else 0)+JJ l
theorem cf:∀L:List PM,JJ L<=L.length
 | []=>AB
 |p::l=>by
  have:=cf l;simp only[JJ,AP];split<;>omega
theorem UL:∀ {L M:List PM},L.map Prod.snd=M.map Prod.snd->JJ L=JJ M
 | [],[],_=>rfl
 | [],_::_,h=>by simp at h
 |_::_,[],h=>by simp at h
 |p::l,q::m,h=>by
  simp only[CN,List.cons.injEq]at h;simp only[JJ,h.1,UL h.2]
theorem Xk:∀(L:List PM)(k:Nat)(s:Dh)(hk:k<L.length),(L[k]'hk).2=false->JJ (L.set k (s,true))=JJ L+1
 | [],_,_,hk,_=>by simp at hk
 |p::l,0,s,_,h=>by
  have hp:p.2=false:=h;simp only[ATU,JJ,hp];simp;omega
 |p::l,k+1,s,hk,h=>by
  simp only[AUQ,JJ];rw[Xk l k s (by simpa using hk) (by simpa using h)];omega
theorem fg{L M:List PM}(h:L.map Prod.snd=M.map Prod.snd):Jl L=Jl M:=by
 funext q
 unfold Jl;rw[h]
structure Dj(F:Nat->Nat)(W:World)(tb:Nat)(db:Nat)(nv wv:Value)(bs:List Nat)(t:DQ):Prop where
 DC:Nx F 6 W tb 120 #[nv,.map (some db),wv]
 Jp:Ns F 7 W 121 1 t.L.length nv (IQ bs)
 Qk:EM prog 3 4 W db (JJ t.L) (Jl t.L)
 YI:F db=8
 way:Ns F 9 W 9 1 t.way.length wv (C7 t.way)
 len:bs.length=t.L.length
 node:∀i (h:i<bs.length) (h':i<t.L.length),FJ (fun k=>F k=20+i) W (bs[i]'h) (t.L[i]'h').1
def Fl(c:Nat):Prop:=(6<=c/\c<=9)\/(20<=c/\c<30)
section
variable{w W W':World}{F F':Nat->Nat}{P:Nat->Prop}{tb db c:Nat}{nv wv:Value}{bs:List Nat}{t:DQ}
theorem DN.marks{n:Nat}{m:Lit->Bool}{Pg:Program}{k e:TypeId}{b:Nat}(h:DN P F W F' W')(hn:¬P (F b))(hm:EM Pg k e W b n m):EM Pg k e W' b n m:=hm.kept h.kept hn
theorem Dj.other(h:Dj F W tb db nv wv bs t)(hC:EA w W F)(m:DN P F W F' W')(hP:∀c,P c->¬Fl c)(h5:t.L.length<=5):Dj F' W' tb db nv wv bs t:=by
 have hn:∀c,Fl c->¬P c:=fun c h1 h2=>hP c h2 h1;exact⟨m.DC hC (by omega) (hn 6 (.inl (by omega))) h.DC,m.row hC (by omega) (hn 7 (.inl (by omega))) h.Jp,m.marks (by rw[h.YI];exact hn 8 (.inl (by omega))) h.Qk,(m.Jj hC (by omega) (hn 8 (.inl (by omega)))).2 h.YI,m.row hC (by omega) (hn 9 (.inl (by omega))) h.way,h.len,
  fun i hi SJ=>m.hold hC (by omega) (hn (20+i) (.inr (by omega))) (h.node i hi SJ)⟩
theorem Dj.below(h:Dj F W tb db nv wv bs t)(hC:EA w W F)(hb:Below W.heap.size W W')(h5:t.L.length<=5):Dj F W' tb db nv wv bs t:=
 h.other hC (.below (P:=fun _=>False) hC hb) (fun _ h=>h.elim) h5
theorem Dj.Pe{i:Nat}{s1:Dh}{d:Bool}(h:Dj F W tb db nv wv bs t)(hC:EA w W F)(hi:i<t.L.length)(hk:Kept (fun k=>F k=20+i) W W')(hn:FJ (grow (fun k=>F k=20+i) W W') W' (bs[i]'(by rw[h.len];exact hi)) s1)(hd:d=(t.L[i]'hi).2):
 Dj (DM F W W' (20+i)) W' tb db nv wv bs ⟨t.L.set i (s1,d),t.way⟩:=by
 have m:=DN.DM hC hk;have e2:(t.L.set i (s1,d)).map Prod.snd=t.L.map Prod.snd:=by
  apply ASi (by simp);intro j h1 h2;simp only[Ce,CJ];split
  ·next e=>subst e;exact hd
  ·rfl
 refine⟨?_,?_,?_,?_,m.row hC (by omega) (by omega) h.way,by simpa using h.len,fun j hj Mk=>?_⟩
 ·simpa using m.DC hC (c':=6) (by omega) (by omega) h.DC
 ·simpa using m.row hC (c':=7) (by omega) (by omega) h.Jp
 ·show EM _ _ _ _ _ (JJ (t.L.set i (s1,d))) (Jl (t.L.set i (s1,d)))
  rw[UL e2,fg e2];exact m.marks (by have:=h.YI;omega) h.Qk
 ·exact(m.Jj hC (by omega) (by omega)).2 h.YI
 ·by_cases e:j=i
  ·subst e
   have:FJ (fun k=>DM F W W' (20+j) k=20+j) W' (bs[j]'hj) s1:=hC.held hk (by omega) hn
   simpa using this
  ·have Py:j<t.L.length:=by simpa using Mk
   have:FJ (fun k=>DM F W W' (20+i) k=20+j) W' (bs[j]'hj) (t.L[j]'Py).1:=m.hold hC (c':=20+j) (by omega) (by omega) (h.node j hj Py)
   simpa [CJ,Ne.symm e] using this
end
def MU(F:Nat->Nat)(W:World)(tb:Nat)(t:DQ):Prop:=∃Aa ca nv dv wv bs,Ds F W tb Aa ca nv dv wv bs t
def Hd(w:World)(F:Nat->Nat)(W:World)(tb:Nat)(t':DQ)(W':World):Prop:=∃F',EA w W' F'/\DN EK F W F' W'/\MU F' W' tb t'
def TwE(w:World)(F:Nat->Nat)(W:World)(tb:Nat)(t':DQ)(er:Int)(e:Ending)(W':World):Prop:=e=.returned (.int .i64 er)/\Hd w F W tb t' W'
def dH(w:World)(F:Nat->Nat)(W:World)(tb:Nat)(t':DQ)(N:List Dm)(er:Int)(e:Ending)(W':World):Prop:=
 ∃A c,e=.returned (.tuple #[.slice A N.length c,.int .i64 er])/\W'.ownsRow W.heap.size 173 3 (.slice A N.length c) N.length (Da N)/\Hd w F W tb t' W'
theorem o7(s:Dh)(id:ByteArray)(th:Int):(s.Dy id th).c=s.c:=by
 unfold Dh.Dy;split<;>rfl
theorem uf(s:Dh)(x:ByteArray):(s.heard x).c=s.c:=by
 have h:(s.mid x).c=s.c:=by
  unfold Dh.mid;split<;>rfl
 unfold Dh.heard;split
 ·exact h
 ·exact h
def iz(t:DQ)(i:Int):Prop:=i<0\/(t.L.length:Int)<=i\/∃k:Nat,i=(k:Int)/\∃hk:k<t.L.length,(t.L[k]'hk).2=true
section
variable{w W W':World}{F F':Nat->Nat}{tb ca:Nat}{Aa:Option Addr}{nv dv wv:Value}{bs:List Nat}{t:DQ}
theorem Ds.xz(h:Ds F W tb Aa ca nv dv wv bs t)(hC:EA w W F):Hd w F W tb t W:=⟨F,hC,.refl hC,_,_,_,_,_,_,h⟩
theorem Ds.at_(h:Ds F W tb Aa ca nv dv wv bs t){k:Nat}(hk:k<t.L.length):∃gn cn gd cd,nv=.slice (some ⟨gn,0,none⟩) t.L.length cn/\dv=.slice (some ⟨gd,0,none⟩) t.L.length cd/\t.L.length<=cn/\cn<=maxLen/\t.L.length<=cd/\cd<=maxLen/\gn<W.heap.size/\gd<W.heap.size/\F gd=4/\
 W.cell? ⟨gn,k,none⟩=some (.pointer (some ⟨bs[k]'(by rw[h.len];exact hk),0,none⟩))/\W.cell? ⟨gd,k,none⟩=some (.bool (t.L[k]'hk).2)/\W.frozen? ⟨gd,k,none⟩=false:=by
 obtain⟨gn,cn,rfl,-,Mm,Hc,Jw,Pj⟩:=Eu h.Jp.1 (by omega);obtain⟨gd,cd,rfl,-,La,N8,GV,hcd⟩:=Eu h.Qk.1 (by omega);have hb:k<bs.length:=by rw[h.len];exact hk
 exact⟨gn,cn,gd,cd,rfl,rfl,Hc,Jw,N8,GV,Mm,La,h.Qk.2 gd rfl,Pj k _ (by simp[IQ,hb]),hcd k _ (by simp[Kv,hk]),h.Qk.1.frozenAt k⟩
theorem Ds.lens(h:Ds F W tb Aa ca nv dv wv bs t):∃An cn Ad cd,nv=.slice An t.L.length cn/\dv=.slice Ad t.L.length cd:=by
 obtain⟨An,cn,e1⟩:=Cz h.Jp.1;obtain⟨Ad,cd,e2⟩:=Cz h.Qk.1;exact⟨An,cn,Ad,cd,e1,e2⟩
theorem pf(h:Ds F W tb Aa ca nv dv wv bs t)(i:Int)(hi:iz t i):
 Calls prog 125 #[.pointer (some ⟨tb,0,none⟩),.int .i64 i] W fun e W'=>e=.returned (.int .i64 4)/\W=W':=by
 have QX:=h.DC.1.lt;have b1:=h.DC.1.cell 1;have b2:=h.DC.1.cell 2;obtain⟨An,cn,Ad,cd,rfl,rfl⟩:=h.lens;simp at b1 b2;rcases hi with hi|hi|⟨k,rfl,hk,hd⟩
 ·clear h
  go_in;go_wp2;go_ret;exact⟨rfl,rfl⟩
 ·have Pr:0<=i:=by omega
  clear h;generalize t.L.length=n at*;go_in;go_wp2;go_ret;exact⟨rfl,rfl⟩
 ·obtain⟨gn,uc,gd,cd',e1,e2,Hc,Jw,N8,GV,Mm,La,-,c1,c2,-⟩:=h.at_ hk
  simp only[Cf]at e1 e2;obtain⟨rfl,-,rfl⟩:=e1;obtain⟨rfl,-,rfl⟩:=e2;rw[hd]at c2;unfold maxLen at Jw GV;clear c1;clear h hd;generalize t.L.length=n at*;go_in;go_wp2;go_ret;exact⟨rfl,rfl⟩
theorem Ds.stop{k gd cd:Nat}(h:Ds F W tb Aa ca nv (.slice (some ⟨gd,0,none⟩) t.L.length cd) wv bs t)(hC:EA w W F)(hk:k<t.L.length):
 Hd w F W tb ⟨t.L.set k ((t.L[k]'hk).1,true),t.way⟩ (W.setCell ⟨gd,k,none⟩ (.bool true)):=by
 have mj:F gd=4:=h.Qk.2 gd rfl;have MR:Kept (fun k=>F k=4) W (W.setCell ⟨gd,k,none⟩ (.bool true)):=(AH _ _).setCell (a:=⟨gd,k,none⟩) (.inl mj) _;have ER:(W.setCell ⟨gd,k,none⟩ (.bool true)).heap.size=W.heap.size:=by simp[World.setCell]
 have m:DN (fun x=>x=4) F W F (W.setCell ⟨gd,k,none⟩ (.bool true)):=⟨MR,fun _ _=>rfl,fun k hl h0=>by have:=hC.hi k h0;omega⟩;have e1:(t.L.set k ((t.L[k]'hk).1,true)).map (fun p=>p.1.c)=t.L.map (fun p=>p.1.c):=by
  apply ASi (by simp);intro j h1 h2;simp only[Ce,CJ];split
  ·next e=>subst e;rfl
  ·rfl
 have e2:Kv ((t.L.set k ((t.L[k]'hk).1,true)).map Prod.snd)=(Kv (t.L.map Prod.snd)).set k (.bool true):=by
  unfold Kv;rw[Ck,Ck]
 refine⟨F,⟨hC.lo,fun k hk=>by rw[ER];exact hC.hi k hk,hC.DI.trans (MR.below (fun k e=>hC.lo k (by rw[e];decide)) hC.DI.size)⟩,m.mono (fun c hc=>.inl (by omega)),Aa,ca,nv,.slice (some ⟨gd,0,none⟩) t.L.length cd,wv,bs,?_,?_,?_,?_,m.row hC (by omega) (by omega) h.way,by simpa using h.len,fun j hj Mk=>?_⟩
 ·simpa using m.DC hC (c':=1) (by omega) (by omega) h.DC
 ·have:=m.read hC (c':=2) (by omega) (by omega) h.all
  simpa [e1] using this
 ·simpa using m.row hC (c':=3) (by omega) (by omega) h.Jp
 ·rw[e2,ASl]
  exact⟨(h.Qk.1.stored k (.bool true)).1,fun k hk=>h.Qk.2 k hk⟩
 ·have Py:j<t.L.length:=by simpa using Mk
  have:FM (fun x=>F x=10+j) (W.setCell ⟨gd,k,none⟩ (.bool true)) (bs[j]'hj) (t.L[j]'Py).1:=m.hold hC (c':=10+j) (by omega) (by omega) (h.node j hj Py);by_cases e:j=k
  ·subst e
   simpa using this
  ·simpa [CJ,Ne.symm e] using this
theorem oQ(h:Ds F W tb Aa ca nv dv wv bs t)(hC:EA w W F)(k:Nat)(hk:k<t.L.length)(hd:(t.L[k]'hk).2=false):
 Calls prog 125 #[.pointer (some ⟨tb,0,none⟩),.int .i64 (k:Int)] W fun e W'=>e=.returned (.int .i64 0)/\Hd w F W tb ⟨t.L.set k ((t.L[k]'hk).1,true),t.way⟩ W':=by
 have QX:=h.DC.1.lt;have b1:=h.DC.1.cell 1;have b2:=h.DC.1.cell 2;obtain⟨gn,cn,gd,cd,rfl,rfl,Hc,Jw,N8,GV,Mm,La,-,c1,c2,c3⟩:=h.at_ hk;simp at b1 b2;have HT:=I (h.stop hC hk);rw[hd]at c2;unfold maxLen at Jw GV;have vL:(0:Int)<=(k:Int):=by omega
 have oA:(k:Int)<(t.L.length:Int):=by omega
 clear c1;clear h hd;go_in;go_wp2;go_ret;exact⟨rfl,HT.out⟩
theorem kg(h:Ds F W tb Aa ca nv dv wv bs t)(hC:EA w W F)(i:Int):
 Calls prog 125 #[.pointer (some ⟨tb,0,none⟩),.int .i64 i] W (TwE w F W tb (t.Ey i) (t.KB i)):=by
 unfold DQ.Ey DQ.KB;by_cases hl:t.FH i=true
 ·rw[AD hl,AD hl]
  obtain⟨k,rfl,hk,hd⟩:=Fu hl;rw[DQ.JS hk];exact oQ h hC k hk hd
 ·rw[AC hl,AC hl]
  exact(pf h i (Lz (by simpa using hl))).mono fun e W' ⟨k1,k2⟩=>⟨k1,k2▸h.xz hC⟩
theorem jR(h:Ds F W tb Aa ca nv dv wv bs t)(i:Int)(hi:iz t i)(id:ByteArray):
 Calls prog 127 #[.pointer (some ⟨tb,0,none⟩),.int .i64 i,.string id] W fun e W'=>e=.returned (.tuple #[.int .i64 0,.int .i64 4])/\W=W':=by
 have QX:=h.DC.1.lt;have b1:=h.DC.1.cell 1;have b2:=h.DC.1.cell 2;obtain⟨An,cn,Ad,cd,rfl,rfl⟩:=h.lens;simp at b1 b2;rcases hi with hi|hi|⟨k,rfl,hk,hd⟩
 ·clear h
  go_in;go_wp2
  go_ret2
  exact⟨rfl,rfl⟩
 ·have Pr:0<=i:=by omega
  clear h;generalize t.L.length=n at*;go_in;go_wp2
  go_ret2
  exact⟨rfl,rfl⟩
 ·obtain⟨gn,uc,gd,cd',e1,e2,Hc,Jw,N8,GV,Mm,La,-,c1,c2,-⟩:=h.at_ hk
  simp only[Cf]at e1 e2;obtain⟨rfl,-,rfl⟩:=e1;obtain⟨rfl,-,rfl⟩:=e2;rw[hd]at c2;unfold maxLen at Jw GV;clear c1;clear h hd;generalize t.L.length=n at*;go_in;go_wp2
  go_ret2
  exact⟨rfl,rfl⟩
theorem j9(h:Ds F W tb Aa ca nv dv wv bs t)(k:Nat)(hk:k<t.L.length)(hd:(t.L[k]'hk).2=false)(hg:Di (t.L[k]'hk).1)(id:ByteArray):
 Calls prog 127 #[.pointer (some ⟨tb,0,none⟩),.int .i64 (k:Int),.string id] W (Pc ((t.L[k]'hk).1.lv id) (Lh (t.L[k]'hk).1.D id) W):=by
 have QX:=h.DC.1.lt;have b1:=h.DC.1.cell 1;have b2:=h.DC.1.cell 2;have hb:k<bs.length:=by rw[h.len];exact hk
 obtain⟨_,_,_,_,_,hn⟩:=h.node k hb hk;have HL:=I (RY hn hg id);obtain⟨gn,cn,gd,cd,rfl,rfl,Hc,Jw,N8,GV,Mm,La,-,c1,c2,c3⟩:=h.at_ hk;simp at b1 b2;rw[hd]at c2;unfold maxLen at Jw GV;have vL:(0:Int)<=(k:Int):=by omega
 have oA:(k:Int)<(t.L.length:Int):=by omega
 generalize bs[k]'hb=b at*;clear h hd hn;go_in;go_wp2_with fail
 refine HL.out.mono ?_;rintro e' w2 ⟨rfl,DK⟩;have B2:=I DK;clear DK;go_wp2
 go_ret2
 exact⟨rfl,B2.out⟩
theorem ny(h:Ds F W tb Aa ca nv dv wv bs t)(i:Int)(hi:iz t i)(id:ByteArray)(th:Int):
 Calls prog 129 #[.pointer (some ⟨tb,0,none⟩),.int .i64 i,.string id,.int .i64 th] W fun e W'=>e=.returned (.tuple #[.slice none 0 0,.int .i64 4])/\W=W':=by
 have QX:=h.DC.1.lt;have b1:=h.DC.1.cell 1;have b2:=h.DC.1.cell 2;obtain⟨An,cn,Ad,cd,rfl,rfl⟩:=h.lens;simp at b1 b2;rcases hi with hi|hi|⟨k,rfl,hk,hd⟩
 ·clear h
  go_in;go_wp2
  go_ret2
  exact⟨rfl,rfl⟩
 ·have Pr:0<=i:=by omega
  clear h;generalize t.L.length=n at*;go_in;go_wp2
  go_ret2
  exact⟨rfl,rfl⟩
 ·obtain⟨gn,uc,gd,cd',e1,e2,Hc,Jw,N8,GV,Mm,La,-,c1,c2,-⟩:=h.at_ hk
  simp only[Cf]at e1 e2;obtain⟨rfl,-,rfl⟩:=e1;obtain⟨rfl,-,rfl⟩:=e2;rw[hd]at c2;unfold maxLen at Jw GV;clear c1;clear h hd;generalize t.L.length=n at*;go_in;go_wp2
  go_ret2
  exact⟨rfl,rfl⟩
theorem Ds.pT{k:Nat}{s1:Dh}{N:List Dm}{er:Int}{e:Ending}(h:Ds F W tb Aa ca nv dv wv bs t)(hC:EA w W F)(h5:t.L.length<=5)(hk:k<t.L.length)(hd:(t.L[k]'hk).2=false)(rx:s1.c=(t.L[k]'hk).1.c)
 (hr:MK (fun x=>F x=10+k) (bs[k]'(by rw[h.len];exact hk)) s1 N er W e W'):dH w F W tb (t.node k s1) N er e W':=by
 obtain⟨A,c,rfl,ho,hn,MR⟩:=hr;exact⟨A,c,rfl,ho,_,hC.DM (by omega) MR,(DN.DM hC MR).mono (fun c hc=>.inr (by omega)),_,_,_,_,_,_,h.Pe hC hk MR hn rx hd.symm⟩
theorem qN(h:Ds F W tb Aa ca nv dv wv bs t)(hC:EA w W F)(h5:t.L.length<=5)(k:Nat)(hk:k<t.L.length)(hd:(t.L[k]'hk).2=false)(hg:Di (t.L[k]'hk).1)(id:ByteArray)(th:Int):
 Calls prog 129 #[.pointer (some ⟨tb,0,none⟩),.int .i64 (k:Int),.string id,.int .i64 th] W (dH w F W tb (t.node k ((t.L[k]'hk).1.Dy id th)) ((t.L[k]'hk).1.Fa id th) ((t.L[k]'hk).1.FA id th)):=by
 have QX:=h.DC.1.lt;have b1:=h.DC.1.cell 1;have b2:=h.DC.1.cell 2;have hb:k<bs.length:=by rw[h.len];exact hk
 have HH:=I (fun e W' hr=>h.pT (W':=W') (e:=e) (N:=(t.L[k]'hk).1.Fa id th) (er:=(t.L[k]'hk).1.FA id th) hC h5 hk hd (o7 (t.L[k]'hk).1 id th) hr);obtain⟨_,_,_,_,_,hn⟩:=h.node k hb hk;have HL:=I (rC hn hg id th);obtain⟨gn,cn,gd,cd,rfl,rfl,Hc,Jw,N8,GV,Mm,La,-,c1,c2,c3⟩:=h.at_ hk;simp at b1 b2;rw[hd]at c2;unfold maxLen at Jw GV;generalize hQ:dH w F W tb (t.node k ((t.L[k]'hk).1.Dy id th)) ((t.L[k]'hk).1.Fa id th) ((t.L[k]'hk).1.FA id th)=Q at*;have HQ:=I hQ;clear hQ;have vL:(0:Int)<=(k:Int):=by omega
 have oA:(k:Int)<(t.L.length:Int):=by omega
 generalize bs[k]'hb=b at*;clear h hd hn;go_in;go_wp2_with fail
 refine HL.out.mono ?_;intro e' w2 hr;have H2:=I (HH.out _ _ hr);obtain⟨A2,c2',rfl,-⟩:=hr;go_wp2;exact H2.out
theorem mP(h:Ds F W tb Aa ca nv dv wv bs t)(hC:EA w W F)(hg:Dt t)(i:Int)(id:ByteArray)(th:Int):
 Calls prog 129 #[.pointer (some ⟨tb,0,none⟩),.int .i64 i,.string id,.int .i64 th] W (dH w F W tb (t.Dy i id th) (t.Fa i id th) (t.FA i id th)):=by
 unfold DQ.Dy DQ.Fa DQ.FA;by_cases hl:t.FH i=true
 ·rw[AD hl,AD hl,AD hl]
  obtain⟨k,rfl,hk,hd⟩:=Fu hl;rw[DQ.JS hk];exact qN h hC hg.Er k hk hd (hg.Fo _ (AL hk)) id th
 ·rw[AC hl,AC hl,AC hl]
  exact(ny h i (Lz (by simpa using hl)) id th).mono fun e W' ⟨k1,k2⟩=>⟨none,0,k1,AX _ _ _ _,k2▸h.xz hC⟩
end
section
variable{w W W' W2:World}{F F':Nat->Nat}{tb ca:Nat}{Aa:Option Addr}{nv dv wv:Value}{bs:List Nat}{t t':DQ}
theorem GL{base base' n size:Nat}{e:TypeId}{v:Value}{xs:List Value}(h:W.ownsRow base e size v n xs)(hb:base'<=base):W.ownsRow base' e size v n xs:=
 ⟨h.1,h.2.imp id (fun⟨g,cap,cur,e1,e2,r⟩=>⟨g,cap,cur,e1,AG hb e2,r⟩)⟩
theorem Hd.from(hC:EA w W F)(hb:Below W.heap.size W W')(h:Hd w F W' tb t' W2):Hd w F W tb t' W2:=by
 obtain⟨F',h1,h2,h3⟩:=h;exact⟨F',h1,(DN.below hC hb).trans h2,h3⟩
theorem dH.from{N:List Dm}{er:Int}{e:Ending}(hC:EA w W F)(hb:Below W.heap.size W W')(h:dH w F W' tb t' N er e W2):dH w F W tb t' N er e W2:=by
 obtain⟨A,c,h1,h2,h3⟩:=h;exact⟨A,c,h1,GL h2 hb.size,h3.from hC hb⟩
theorem Ds.word(h:Ds F W tb Aa ca nv dv wv bs t){i:Nat}(hi:i<t.way.length):∃gw cw,wv=.slice (some ⟨gw,0,none⟩) t.way.length cw/\t.way.length<=cw/\cw<=maxLen/\gw<W.heap.size/\F gw=5/\W.cell? ⟨gw,i,none⟩=some (.string (t.way[i]'hi)):=by
 obtain⟨gw,cw,rfl,-,SS,h1,h2,hc⟩:=Eu h.way.1 (by omega);exact⟨gw,cw,rfl,h1,h2,SS,h.way.2 gw rfl,hc i _ (by simp[C7,hi])⟩
theorem kt(h:Ds F W tb Aa ca nv dv wv bs t)(hC:EA w W F)(h5:t.L.length<=5)(k:Nat)(hk:k<t.L.length)(hd:(t.L[k]'hk).2=false)(hg:Di (t.L[k]'hk).1)(i:Nat)(hi:i<t.way.length):
 Calls prog 121 #[.pointer (some ⟨tb,0,none⟩),.int .i64 (i:Int),.int .i64 (k:Int)] W (dH w F W tb (t.node k ((t.L[k]'hk).1.heard (t.way[i]'hi))) ((t.L[k]'hk).1.J8 (t.way[i]'hi)) ((t.L[k]'hk).1.Iy (t.way[i]'hi))):=by
 have QX:=h.DC.1.lt;have b1:=h.DC.1.cell 1;have b2:=h.DC.1.cell 2;have b3:=h.DC.1.cell 3;have hb:k<bs.length:=by rw[h.len];exact hk
 have HH:=I (show∀W1,Below W.heap.size W W1->∀e W',MK (fun x=>F x=10+k) (bs[k]'hb) ((t.L[k]'hk).1.heard (t.way[i]'hi)) ((t.L[k]'hk).1.J8 (t.way[i]'hi)) ((t.L[k]'hk).1.Iy (t.way[i]'hi)) W1 e W'->dH w F W tb (t.node k ((t.L[k]'hk).1.heard (t.way[i]'hi))) ((t.L[k]'hk).1.J8 (t.way[i]'hi)) ((t.L[k]'hk).1.Iy (t.way[i]'hi)) e W' from fun W1 C6 e W' hr=>((h.below hC C6 h5).pT (hC.below C6) h5 hk hd (uf (t.L[k]'hk).1 (t.way[i]'hi)) hr).from hC C6);have HN:=I (fun W1 (C6:Below W.heap.size W W1)=>(h.below hC C6 h5).node k hb hk);have HL:=I (show∀W1,Below W.heap.size W W1->Calls prog 180 #[.pointer (some ⟨bs[k]'hb,0,none⟩),.string (t.way[i]'hi)] W1 (MK (fun x=>F x=10+k) (bs[k]'hb) ((t.L[k]'hk).1.heard (t.way[i]'hi)) ((t.L[k]'hk).1.J8 (t.way[i]'hi)) ((t.L[k]'hk).1.Iy (t.way[i]'hi)) W1)from fun W1 C6=>by
  obtain⟨_,_,_,_,_,hn⟩:=HN.out W1 C6;exact rP hn hg _)
 obtain⟨gn,cn,gd,cd,rfl,rfl,Hc,Jw,N8,GV,Mm,La,mj,c1,c2,c3⟩:=h.at_ hk;obtain⟨gw,cw,rfl,tL,ZU,SS,hfw,xp⟩:=h.word hi;simp at b1 b2 b3;have htF:=h.DC.2;have hnF:=h.Jp.2 gn rfl;rw[hd]at c2;unfold maxLen at Jw GV ZU;have HS:=I (show∀w',Kept (fun x=>F x=10+k) W w'->(w'.cell? ⟨tb,1,none⟩=some (.slice (some ⟨gn,0,none⟩) t.L.length cn)/\w'.cell? ⟨tb,3,none⟩=some (.slice (some ⟨gw,0,none⟩) t.way.length cw)/\w'.cell? ⟨gn,k,none⟩=some (.pointer (some ⟨bs[k]'hb,0,none⟩))/\w'.cell? ⟨gw,i,none⟩=some (.string (t.way[i]'hi)))from fun w' RO=>
  ⟨RO.cell b1 (fun e=>by have:F tb=10+k:=e;omega),RO.cell b3 (fun e=>by have:F tb=10+k:=e;omega),RO.cell c1 (fun e=>by have:F gn=10+k:=e;omega),RO.cell xp (fun e=>by have:F gw=10+k:=e;omega)⟩)
 generalize hQ:dH w F W tb (t.node k ((t.L[k]'hk).1.heard (t.way[i]'hi))) ((t.L[k]'hk).1.J8 (t.way[i]'hi)) ((t.L[k]'hk).1.Iy (t.way[i]'hi))=Q at*;clear hQ HN;generalize bs[k]'hb=b at*;clear h hd;generalize t.way[i]'hi=x at*;have vL:(0:Int)<=(k:Int):=by omega
 have oA:(k:Int)<(t.L.length:Int):=by omega
 have ii0:(0:Int)<=(i:Int):=by omega
 have ii1:(i:Int)<(t.way.length:Int):=by omega
 go_in;go_wp2_with fail
 go_region_held3 (fun w'=>w'.cell? ⟨tb,1,none⟩=some (.slice (some ⟨gn,0,none⟩) t.L.length cn)/\w'.cell? ⟨tb,3,none⟩=some (.slice (some ⟨gw,0,none⟩) t.way.length cw)/\w'.cell? ⟨gn,k,none⟩=some (.pointer (some ⟨b,0,none⟩))/\w'.cell? ⟨gw,i,none⟩=some (.string x))
  ((refine HS.out _ ?_;first|(with_reducible exact Im)|(with_reducible exact AH _ _)|(with_reducible exact(AH _ _).drew)))
  ((go_at_call 180;(with_reducible refine(HL.out _ ?ia).mono ?_);(case ia=>first|(with_reducible exact AA)|(with_reducible exact AA.drew));intro e' w2 hr;have H2:=I (HH.out _ (by first|(with_reducible exact AA)|(with_reducible exact AA.drew)) _ _ hr);have Im:Kept (fun x=>F x=10+k) W w2:=(by obtain⟨_,_,_,_,_,XA⟩:=hr;first|(with_reducible exact XA)|exact Kept.trans (AH _ _).drew XA);obtain⟨A2,c2',rfl,-⟩:=hr))
 all_goals
  clear Im;go_wp2;exact H2.out
theorem mM(h:Ds F W tb Aa ca nv dv wv bs t)(i z:Int)(hi:(i<0\/(t.way.length:Int)<=i)\/(0<=i/\i<(t.way.length:Int)/\iz t z)):
 Calls prog 121 #[.pointer (some ⟨tb,0,none⟩),.int .i64 i,.int .i64 z] W fun e W'=>e=.returned (.tuple #[.slice none 0 0,.int .i64 4])/\W=W':=by
 have QX:=h.DC.1.lt;have b1:=h.DC.1.cell 1;have b2:=h.DC.1.cell 2;have b3:=h.DC.1.cell 3;obtain⟨An,cn,Ad,cd,rfl,rfl⟩:=h.lens;obtain⟨Aw,cw,rfl⟩:=Cz h.way.1;simp at b1 b2 b3;rcases hi with(hi|hi)|⟨Pr,mo,hi|hi|⟨k,rfl,hk,hd⟩⟩
 ·clear h
  go_in;go_wp2
  go_ret2
  exact⟨rfl,rfl⟩
 ·have Pr:0<=i:=by omega
  clear h;generalize t.way.length=m at*;go_in;go_wp2
  go_ret2
  exact⟨rfl,rfl⟩
 ·clear h
  generalize t.way.length=m at*;go_in;go_wp2
  go_ret2
  exact⟨rfl,rfl⟩
 ·have AOT:0<=z:=by omega
  clear h;generalize t.L.length=n at*;generalize t.way.length=m at*;go_in;go_wp2
  go_ret2
  exact⟨rfl,rfl⟩
 ·obtain⟨gn,uc,gd,cd',e1,e2,Hc,Jw,N8,GV,Mm,La,-,c1,c2,-⟩:=h.at_ hk
  simp only[Cf]at e1 e2;obtain⟨rfl,-,rfl⟩:=e1;obtain⟨rfl,-,rfl⟩:=e2;rw[hd]at c2;unfold maxLen at Jw GV;clear c1;clear h hd;generalize t.L.length=n at*;generalize t.way.length=m at*;go_in;go_wp2
  go_ret2
  exact⟨rfl,rfl⟩
theorem JY{t:DQ}{i:Int}(h:t.under i=true):∃k:Nat,i=(k:Int)/\∃hk:k<t.way.length,t.word i=t.way[k]'hk:=by
 unfold DQ.under at h;simp only[Bf,CG]at h;obtain⟨h0,h1⟩:=h;have hk:i.toNat<t.way.length:=by omega
 refine⟨i.toNat,by omega,hk,?_⟩;unfold DQ.word;simp[List.getD,hk]
theorem L5{t:DQ}{i:Int}(h:t.under i=false):i<0\/(t.way.length:Int)<=i:=by
 unfold DQ.under at h;by_cases h0:0<=i
 ·by_cases h1:i<t.way.length
  ·simp[h0,h1]at h
  ·exact .inr (by omega)
 ·exact .inl (by omega)
theorem dc(h:Ds F W tb Aa ca nv dv wv bs t)(hC:EA w W F)(hg:Dt t)(i z:Int):
 Calls prog 121 #[.pointer (some ⟨tb,0,none⟩),.int .i64 i,.int .i64 z] W (dH w F W tb (t.brought i z) (t.Ge i z) (t.Ha i z)):=by
 unfold DQ.brought DQ.Ge DQ.Ha;by_cases hl:(t.under i&&t.FH z)=true
 ·rw[AD hl,AD hl,AD hl]
  simp only[Bf]at hl;obtain⟨j,rfl,hj,hw⟩:=JY hl.1;obtain⟨k,rfl,hk,hd⟩:=Fu hl.2;rw[DQ.JS hk,hw];exact kt h hC hg.Er k hk hd (hg.Fo _ (AL hk)) j hj
 ·rw[AC hl,AC hl,AC hl]
  refine(mM h i z ?_).mono fun e W' ⟨k1,k2⟩=>⟨none,0,k1,AX _ _ _ _,k2▸h.xz hC⟩;by_cases hu:t.under i=true
  ·obtain⟨j,rfl,hj,hw⟩:=JY hu
   exact .inr ⟨by omega,by omega,Lz (by simpa [hu] using hl)⟩
  ·exact .inl (L5 (by simpa using hu))
theorem Ds.Vb{W1:World}{F1:Nat->Nat}{wv':Value}{way':List ByteArray}(h:Ds F W tb Aa ca nv dv wv bs t)(hC:EA w W F)(UE:EA w W1 F1)(m:DN (fun c=>c=5\/c=19) F W F1 W1)(hr:Ns F1 5 W1 9 1 way'.length wv' (C7 way'))(h5:t.L.length<=5):
 EA w (W1.setCell ⟨tb,3,none⟩ wv') F1/\DN (fun c=>c=1\/c=5\/c=19) F W F1 (W1.setCell ⟨tb,3,none⟩ wv')/\Ds F1 (W1.setCell ⟨tb,3,none⟩ wv') tb Aa ca nv dv wv' bs ⟨t.L,way'⟩:=by
 have C6:=m.DC hC (c':=1) (by decide) (by decide) h.DC;have MR:Kept (fun k=>F1 k=1) W1 (W1.setCell ⟨tb,3,none⟩ wv'):=(AH _ _).setCell (a:=⟨tb,3,none⟩) (.inl C6.2) _;have ER:(W1.setCell ⟨tb,3,none⟩ wv').heap.size=W1.heap.size:=by simp[World.setCell]
 have m2:DN (fun x=>x=1) F1 W1 F1 (W1.setCell ⟨tb,3,none⟩ wv'):=⟨MR,fun _ _=>rfl,fun k hl h0=>by have:=UE.hi k h0;omega⟩;refine⟨⟨UE.lo,fun k hk=>by rw[ER];exact UE.hi k hk,UE.DI.trans (MR.below (fun k e=>UE.lo k (by rw[e];decide)) UE.DI.size)⟩,(m.mono (fun c hc=>.inr hc)).trans (m2.mono (fun c hc=>.inl hc)),?_⟩;refine⟨⟨C6.1.De 3 wv',C6.2⟩,m2.read UE (by decide) (by decide) (m.read hC (by decide) (by decide) h.all),m2.row UE (by decide) (by decide) (m.row hC (by decide) (by decide) h.Jp),m2.row UE (by decide) (by decide) (m.row hC (by decide) (by decide) h.Qk),m2.row UE (by decide) (by decide) hr,h.len,fun i hi SJ=>?_⟩;have hi5:i<5:=AJ SJ h5;exact m2.hold UE (by omega) (by omega) (m.hold hC (c':=10+i) (by omega) (by omega) (h.node i hi SJ))
theorem rS(h:Ds F W tb Aa ca nv dv wv bs t)(i:Int)(hi:i<0\/(t.way.length:Int)<=i):
 Calls prog 123 #[.pointer (some ⟨tb,0,none⟩),.int .i64 i] W fun e W'=>e=.returned (.int .i64 4)/\W=W':=by
 have QX:=h.DC.1.lt;have b3:=h.DC.1.cell 3;obtain⟨Aw,cw,rfl⟩:=Cz h.way.1;simp at b3;rcases hi with hi|hi
 ·clear h
  go_in;go_wp2;go_ret;exact⟨rfl,rfl⟩
 ·have Pr:0<=i:=by omega
  clear h;generalize t.way.length=m at*;go_in;go_wp2;go_ret;exact⟨rfl,rfl⟩
theorem au{l:List ByteArray}{i:Nat}(h:i<l.length):(Sd l i).length=l.length- 1:=by
 simp only[Sd,AN,AV,CX];omega
theorem Z2(l:List ByteArray)(i:Nat):(C7 l).take (i*1)++(C7 l).drop ((i+1)*1)=C7 (Sd l i):=by
 simp[C7,Sd,AT7,AT8]
theorem qA(h:Ds F W tb Aa ca nv dv wv bs t)(hC:EA w W F)(h5:t.L.length<=5)(i:Nat)(hi:i<t.way.length)(hm:t.way.length<=1000):
 Calls prog 123 #[.pointer (some ⟨tb,0,none⟩),.int .i64 (i:Int)] W (TwE w F W tb ⟨t.L,Sd t.way i⟩ 0):=by
 have QX:=h.DC.1.lt;have b3:=h.DC.1.cell 3;obtain⟨gw,cw,rfl,tL,ZU,SS,hfw,-⟩:=h.word hi;simp at b3;have HD:=I (eJ 0 gw cw t.way.length i (C7 t.way) hi (Iu _) W h.way.1);have HE:=I (show∀W2,W2.ownsRow 0 9 1 (.slice (some ⟨gw,0,none⟩) (t.way.length- 1) cw) (t.way.length- 1) ((C7 t.way).take (i*1)++(C7 t.way).drop ((i+1)*1))->W.grownBy W2 (some gw)->tb<W2.heap.size/\(∀j,W2.cell? ⟨tb,j,none⟩=W.cell? ⟨tb,j,none⟩)/\(∀j,W2.frozen? ⟨tb,j,none⟩=false)/\Hd w F W tb ⟨t.L,Sd t.way i⟩ (W2.setCell ⟨tb,3,none⟩ (.slice (some ⟨gw,0,none⟩) (t.way.length- 1) cw))from fun W2 ho hg=>by
  have hk:Kept (fun k=>F k=5) W W2:=(AH _ _).grown hg (fun k e=>by injection e with e;exact .inl (e▸hfw));have GI:¬F tb=5:=by rw[h.DC.2];decide
  have DK:=hk.DC h.DC.1 GI;have hC2:EA w W2 F:=⟨hC.lo,fun k e=>AJ (hC.hi k e) hg.size,hC.DI.trans (hk.below (fun k e=>hC.lo k (by rw[e];decide)) hC.DI.size)⟩;have m:DN (fun c=>c=5\/c=19) F W F W2:=⟨hk.mono (fun k e=>.inl (.inl e)),fun _ _=>rfl,fun k hl h0=>by have:=hC.hi k h0;omega⟩;rw[Z2]at ho;have hl:=au hi;obtain⟨q1,q2,q3⟩:=h.Vb hC hC2 m ⟨by rw[hl];exact ho,fun k e=>by injection e with e;exact e▸hfw⟩ h5;exact⟨DK.lt,fun j=>by rw[AUP (w:=W) (hk.block tb h.DC.1.lt GI)],fun j=>DK.frozen j,F,q1,q2.mono (fun c hc=>by unfold EK;omega),_,_,_,_,_,_,q3⟩)
 unfold maxLen at ZU;have ii0:(0:Int)<=(i:Int):=by omega
 have ii1:(i:Int)<(t.way.length:Int):=by omega
 clear h;go_in;go_wp2_with fail
 refine HD.out.mono ?_;rintro e' W2 ⟨rfl,ho,hg⟩;obtain⟨q1,q2,q3,q4⟩:=HE.out W2 ho hg;have Q4:=I q4;have c3:=(q2 3).trans b3;have f3:=q3 3;clear ho hg q4 q2 q3 b3;go_wp2;go_ret;exact⟨rfl,Q4.out⟩
theorem jO(h:Ds F W tb Aa ca nv dv wv bs t)(hC:EA w W F)(hg:Dt t)(i:Int):
 Calls prog 123 #[.pointer (some ⟨tb,0,none⟩),.int .i64 i] W (TwE w F W tb (t.lost i) (t.KE i)):=by
 unfold DQ.lost DQ.KE;by_cases hl:t.under i=true
 ·rw[AD hl,AD hl]
  obtain⟨k,rfl,hk,-⟩:=JY hl;exact qA h hC hg.Er k hk hg.way
 ·rw[AC hl,AC hl]
  exact(rS h i (L5 (by simpa using hl))).mono fun e W' ⟨k1,k2⟩=>⟨k1,k2▸h.xz hC⟩
end
theorem SK{F:Nat->Nat}{W W':World}{c n size:Nat}{T:TypeId}{v:Value}{xs:List Value}(h:W'.ownsRow W.heap.size T size v n xs):∀k,v.ownBlock=some k->DM F W W' c k=c:=fun k hk=>FV (h.lt k hk).1 (h.lt k hk).2
theorem Hm{F:Nat->Nat}{W W':World}{c k:Nat}(h:F k=c):DM F W W' c k=c:=by
 unfold DM;split
 ·rfl
 ·exact h
section
variable{w W W' wr w2 w3 w4:World}{F F1:Nat->Nat}{tb ca:Nat}{Aa:Option Addr}{nv dv wv ov:Value}{bs:List Nat}{t:DQ}{g:Int}{k:Nat}
structure yw(w:World)(F:Nat->Nat)(W:World)(tb:Nat)(Aa:Option Addr)(ca:Nat)(nv dv:Value)(bs:List Nat)(t:DQ)(g:Int)(k:Nat)(F1:Nat->Nat)(wv ov:Value)(wr:World):Prop where
 Jj:EA w wr F1
 gZ:DN EK F W F1 wr
 Nj:Ds F1 wr tb Aa ca nv dv wv bs (t.mid g k)
 out:wr.ownsRow W.heap.size 173 3 ov (t.Ho g k).length (Da (t.Ho g k))
 oc:∀x,ov.ownBlock=some x->F1 x=19
def Oi(w:World)(F:Nat->Nat)(W:World)(tb:Nat)(Aa:Option Addr)(ca:Nat)(nv dv:Value)(bs:List Nat)(t:DQ)(g:Int)(k:Nat)(ov:Value)(wr:World):Prop:=∃F1 wv,yw w F W tb Aa ca nv dv bs t g k F1 wv ov wr
theorem bW(hk:k<t.L.length)(hd:(t.L[k]'hk).2=true):t.mid g (k+1)=t.mid g k/\t.Ho g (k+1)=t.Ho g k:=by
 have e1:=DQ.Ye t g k hk;have e2:=DQ.Y0 t g k hk;have e3:=DQ.Sp t g k hk;have f1:KI g (t.L[k]'hk)=t.L[k]'hk:=by unfold KI;rw[AD hd]
 have f2:Ic g (t.L[k]'hk)=[]:=by unfold Ic;rw[AD hd]
 have f3:GX g (t.L[k]'hk)=[]:=by unfold GX;rw[AD hd]
 rw[f1]at e1;rw[f2,CP]at e2;rw[f3,CP]at e3;refine⟨?_,e3⟩;have Tl:k<(t.mid g k).L.length:=by rw[DQ.Hg];exact hk
 have e4:(t.mid g k).L.set k (t.L[k]'hk)=(t.mid g k).L:=by
  have h9:=List.set_getElem_self Tl;rw[DQ.Vt t g k k hk AB]at h9;exact h9
 rw[e4]at e1;have ext:∀a b:DQ,a.L=b.L->a.way=b.way->a=b:=fun a b h1 h2=>by cases a;cases b;simp_all
 exact ext _ _ e1 e2
theorem Oi.skip(h:Oi w F W tb Aa ca nv dv bs t g k ov wr)(hk:k<t.L.length)(hd:(t.L[k]'hk).2=true):Oi w F W tb Aa ca nv dv bs t g (k+1) ov wr:=by
 obtain⟨F1,wv,h⟩:=h;obtain⟨e1,e2⟩:=bW (g:=g) hk hd;exact⟨F1,wv,h.Jj,h.gZ,by rw[e1];exact h.Nj,by rw[e2];exact h.out,h.oc⟩
structure Sz(w:World)(F:Nat->Nat)(W:World)(tb:Nat)(Aa:Option Addr)(ca:Nat)(nv dv:Value)(bs:List Nat)(t:DQ)(g:Int)(k:Nat)(F2:Nat->Nat)(wv ov tv xv:Value)(T:List ByteArray)(N:List Dm)(w2:World)(L':List PM):Prop where
 Jj:EA w w2 F2
 gZ:DN EK F W F2 w2
 Nj:Ds F2 w2 tb Aa ca nv dv wv bs ⟨L',(t.mid g k).way⟩
 out:w2.ownsRow W.heap.size 173 3 ov (t.Ho g k).length (Da (t.Ho g k))
 oc:∀x,ov.ownBlock=some x->F2 x=19
 YK:w2.ownsRow 0 9 1 tv T.length (C7 T)
 nts:w2.ownsRow 0 173 3 xv N.length (Da N)
 nc:∀x,xv.ownBlock=some x->F2 x=10+k
theorem yw.node{T:List ByteArray}{N:List Dm}{s1:Dh}{tv xv:Value}(h:yw w F W tb Aa ca nv dv bs t g k F1 wv ov wr)(h5:t.L.length<=5)(hk:k<t.L.length)(hd:(t.L[k]'hk).2=false)
 (ht:w2.ownsRow wr.heap.size 9 1 tv T.length (C7 T)) (hn:w2.ownsRow wr.heap.size 173 3 xv N.length (Da N)) (hN:FM (grow (fun x=>F1 x=10+k) wr w2) w2 (bs[k]'(by rw[h.Nj.len,DQ.Hg];exact hk)) s1) (MR:Kept (fun x=>F1 x=10+k) wr w2) (rx:s1.c=(t.L[k]'hk).1.c):
 Sz w F W tb Aa ca nv dv bs t g k (DM F1 wr w2 (10+k)) wv ov tv xv T N w2 ((t.mid g k).L.set k (s1,false)):=by
 have Tl:k<(t.mid g k).L.length:=by rw[DQ.Hg];exact hk
 have XD:=DQ.Vt t g k k hk AB;have m:=DN.DM h.Jj MR;exact⟨h.Jj.DM (by omega) MR,h.gZ.trans (m.mono (fun c hc=>.inr (by omega))),h.Nj.Pe h.Jj Tl MR hN (by rw[XD];exact rx) (by rw[XD];exact hd.symm),
  MR.own h.out (fun x hx e=>by have:=h.oc x hx;omega),fun x hx=>(m.Jj h.Jj (by decide) (by omega)).2 (h.oc x hx),GL ht (AM _),GL hn (AM _),SK hn⟩
theorem Sz.app{F2:Nat->Nat}{T:List ByteArray}{N:List Dm}{s1:Dh}{tv xv wv' tR:Value}(h:Sz w F W tb Aa ca nv dv bs t g k F2 wv ov tv xv T N w2 ((t.mid g k).L.set k (s1,false)))(h5:t.L.length<=5)(hk:k<t.L.length)
 (JN:w3.ownsRow 0 9 1 wv' ((t.mid g k).way.length+T.length) (C7 (t.mid g k).way++C7 T)) (Nk:w2.grownBy w3 wv.ownBlock) (DT:wv'.ownBlock=wv.ownBlock\/wv'.ownBlock=some w2.heap.size)
 (Tp:w4.ownsRow W.heap.size 173 3 tR ((t.Ho g k).length+N.length) (Da (t.Ho g k)++Da N)) (RV:w3.grownBy w4 ov.ownBlock) (EL:tR.ownBlock=ov.ownBlock\/tR.ownBlock=some w3.heap.size)
 (hT:T=Ic g (t.L[k]'hk)) (hN:N=GX g (t.L[k]'hk)) (hS:(s1,false)=KI g (t.L[k]'hk)):Oi w F W tb Aa ca nv dv bs t g (k+1) tR (w4.setCell ⟨tb,3,none⟩ wv'):=by
 have hwF:∀x,wv.ownBlock=some x->F2 x=5:=h.Nj.way.2;have k3:Kept (fun x=>F2 x=5) w2 w3:=(AH _ _).grown Nk (fun x e=>.inl (hwF x e));have m3:=DN.DM h.Jj k3;have c3:=h.Jj.DM (by decide) k3;have hoF:∀x,ov.ownBlock=some x->DM F2 w2 w3 5 x=19:=fun x e=>(m3.Jj h.Jj (by decide) (by decide)).2 (h.oc x e);have k4:Kept (fun x=>DM F2 w2 w3 5 x=19) w3 w4:=(AH _ _).grown RV (fun x e=>.inl (hoF x e));have m4:=DN.DM c3 k4;have c4:=c3.DM (by decide) k4;have Tj:Ns (DM F2 w2 w3 5) 5 w3 9 1 ((t.mid g k).way.length+T.length) wv' (C7 (t.mid g k).way++C7 T):=⟨JN,fun x e=>by
  have hl:=(JN.lt x e).2;rcases DT with e2|e2
  ·rw[e2]at e
   exact Hm (hwF x e)
  ·rw[e2]at e
   injection e with e
   exact FV (by omega) hl⟩
 have hw4:=m4.row c3 (c':=5) (by decide) (by decide) Tj;have m34:DN (fun c=>c=5\/c=19) F2 w2 (DM (DM F2 w2 w3 5) w3 w4 19) w4:=(m3.mono (fun c hc=>.inl hc)).trans (m4.mono (fun c hc=>.inr hc));have tP:((t.mid g k).L.set k (s1,false)).length<=5:=by rw[ASl,DQ.Hg];exact h5
 have ew:(t.mid g (k+1)).way=(t.mid g k).way++T:=by rw[DQ.Y0 t g k hk,hT]
 have el:(t.mid g (k+1)).L=(t.mid g k).L.set k (s1,false):=by rw[DQ.Ye t g k hk,hS]
 have en:t.Ho g (k+1)=t.Ho g k++N:=by rw[DQ.Sp t g k hk,hN]
 have ABn:t.mid g (k+1)=⟨(t.mid g k).L.set k (s1,false),(t.mid g k).way++T⟩:=by rw[<-ew,<-el]
 obtain⟨q1,q2,q3⟩:=h.Nj.Vb (way':=(t.mid g k).way++T) h.Jj c4 m34 ⟨by rw[AN,Iq];exact hw4.1,hw4.2⟩ tP;have N7:∀x,tR.ownBlock=some x->(DM (DM F2 w2 w3 5) w3 w4 19) x=19:=fun x e=>by
  have hl:=(Tp.lt x e).2;rcases EL with e2|e2
  ·rw[e2]at e
   exact Hm (hoF x e)
  ·rw[e2]at e
   injection e with e
   exact FV (by omega) hl
 have ACY:(DM (DM F2 w2 w3 5) w3 w4 19) tb=1:=q3.DC.2;refine⟨_,wv',q1,h.gZ.trans (q2.mono (fun c hc=>by unfold EK;omega)),by rw[ABn];exact q3,?_,N7⟩;rw[en,AN,Kk];have kk:Kept (fun x=>x=tb) w4 (w4.setCell ⟨tb,3,none⟩ wv'):=(AH (fun x=>x=tb) _).setCell (a:=⟨tb,3,none⟩) (.inl rfl) _;exact kk.own Tp (fun x e hx=>by
  have:=N7 x e;have hx:x=tb:=hx;rw[hx,ACY]at this;cases this)
end
structure Nv(l:List Dg)(k:Nat):Prop where
 Fo:∀c∈l.take k,IX c=0
 same:Gv ((l.take k).map Prod.fst) (l.drop k)=Gv [] l
theorem Nv.zero(l:List Dg):Nv l 0:=⟨by simp,by simp⟩
theorem Nv.bad{l:List Dg}{k:Nat}(h:Nv l k)(hk:k<l.length)(he:IX (l[k]'hk)≠0):Gv [] l=IX (l[k]'hk):=by
 rw[<-h.same,Bz hk];simp only[Gv];rw[AC he]
theorem Nv.xY{l:List Dg}{k:Nat}(h:Nv l k)(hk:k<l.length)(he:IX (l[k]'hk)=0)(ht:((l.take k).map Prod.fst).any (fun x=>decide (x=(l[k]'hk).1))=true):Gv [] l=5:=by
 rw[<-h.same,Bz hk];simp only[Gv];rw[AD he,AD ht]
theorem Nv.next{l:List Dg}{k:Nat}(h:Nv l k)(hk:k<l.length)(he:IX (l[k]'hk)=0)(ht:((l.take k).map Prod.fst).any (fun x=>decide (x=(l[k]'hk).1))=false):Nv l (k+1):=by
 refine⟨fun c hc=>?_,?_⟩
 ·rw[Af hk]at hc
  rcases Au.1 hc with hc|hc
  ·exact h.Fo c hc
  ·rw[Ai.1 hc];exact he
 ·rw[<-h.same,Bz hk]
  simp only[Gv];rw[AD he,AC (by rw[ht];decide),Af hk,BP];rfl
theorem Nv.all{l:List Dg}(h:Nv l l.length):Gv [] l=0:=by
 rw[<-h.same,ASr];rfl
def MY(ids:List ByteArray)(q:Lit):Bool:=match q with| .string s=>ids.any (fun x=>decide (x.data.toList=s))|_=>false
theorem rK{a b:ByteArray}:a.data.toList=b.data.toList↔a=b:=by
 constructor
 ·intro h
  apply CC;exact ATZ.1 h
 ·intro h
  rw[h]
theorem qk(ids:List ByteArray)(c:ByteArray):MY ids (.string c.data.toList)=ids.any (fun x=>decide (x=c)):=by
 show ids.any (fun x=>decide (x.data.toList=c.data.toList))=ids.any (fun x=>decide (x=c));congr 1
 funext x
 exact decide_eq_decide.2 rK
theorem mX(ids:List ByteArray)(c:ByteArray):MY (ids++[c]) (.string c.data.toList)=true:=by
 simp[MY]
theorem jl(ids:List ByteArray)(c:ByteArray)(q:Lit)(h:q≠ .string c.data.toList):MY (ids++[c]) q=MY ids q:=by
 unfold MY;cases q with
 |string s=>
  have:¬c.data.toList=s:=fun e=>h (by rw[e]);simp[this]
 |_=>rfl
theorem kI(s:Dh)(id:ByteArray)(ev:Int):(s.watched id ev).c=s.c:=by
 unfold Dh.watched;split<;>rfl
theorem P5:∀(l:List Dg)(s:Dh),(Ee l s).c=s.c
 | [],s=>rfl
 |c::l,s=>(P5 l (s.watched c.1 (Eb c))).trans (kI s _ _)
theorem MN(l:List Dg)(k:Nat)(hk:k<l.length)(s:Dh):Ee (l.take (k+1)) s=(Ee (l.take k) s).watched (l[k]'hk).1 (Eb (l[k]'hk)):=by
 unfold Ee;rw[Af hk,ASg];rfl
theorem ai(s:Dh)(ev:Int):s.watched s.c.1 ev=s:=by
 unfold Dh.watched Dh.Qb;rw[AD rfl,AC (by decide)]
def bz(l:List Dg)(i k:Nat)(j:Nat)(c:Dg):Dh:=if j<i then Ee l (Dh.start c)else if j=i then Ee (l.take k) (Dh.start c)else Dh.start c
structure JO(F:Nat->Nat)(W:World)(tb:Nat)(Aa:Option Addr)(ca:Nat)(nv dv:Value)(bs:List Nat)(L:List Dh)(l:List Dg):Prop where
 DC:Nx F 1 W tb 213 #[.slice Aa l.length ca,nv,dv,.slice none 0 0]
 all:IW F 2 W 5 l.length Aa (Du l)
 Jp:Ns F 3 W 215 1 bs.length nv (IQ bs)
 Qk:Ns F 4 W 4 1 l.length dv (Kv (List.replicate l.length false))
 len:bs.length=L.length
 node:∀i (h:i<bs.length) (h':i<L.length),FM (fun k=>F k=10+i) W (bs[i]'h) (L[i]'h')
section
variable{w W W' w2 w3 w4:World}{F F':Nat->Nat}{P:Nat->Prop}{tb ca b:Nat}{Aa:Option Addr}{nv dv Oq:Value}{bs:List Nat}{L:List Dh}{l:List Dg}
theorem JO.other(h:JO F W tb Aa ca nv dv bs L l)(hC:EA w W F)(m:DN P F W F' W')(hP:∀c,P c->¬((1<=c/\c<=5)\/(10<=c/\c<10+bs.length))):JO F' W' tb Aa ca nv dv bs L l:=by
 have hn:∀c,((1<=c/\c<=5)\/(10<=c/\c<10+bs.length))->¬P c:=fun c h1 h2=>hP c h2 h1;exact⟨m.DC hC (by omega) (hn 1 (.inl (by omega))) h.DC,m.read hC (by omega) (hn 2 (.inl (by omega))) h.all,m.row hC (by omega) (hn 3 (.inl (by omega))) h.Jp,m.row hC (by omega) (hn 4 (.inl (by omega))) h.Qk,h.len,
  fun i hi SJ=>m.hold hC (by omega) (hn (10+i) (.inr (by omega))) (h.node i hi SJ)⟩
theorem JO.below(h:JO F W tb Aa ca nv dv bs L l)(hC:EA w W F)(hb:Below W.heap.size W W'):JO F W' tb Aa ca nv dv bs L l:=
 h.other hC (.below (P:=fun _=>False) hC hb) (fun _ h=>h.elim)
theorem JO.cells(h:JO F W tb Aa ca nv dv bs L l):tb<W.heap.size/\W.cell? ⟨tb,1,none⟩=some nv:=
 ⟨h.DC.1.lt,h.DC.1.cell 1⟩
theorem JO.Pe{i:Nat}{s1:Dh}(h:JO F W tb Aa ca nv dv bs L l)(hC:EA w W F)(hi:i<L.length)(hk:Kept (fun k=>F k=10+i) W W')(hn:FM (grow (fun k=>F k=10+i) W W') W' (bs[i]'(by rw[h.len];exact hi)) s1):
 JO (DM F W W' (10+i)) W' tb Aa ca nv dv bs (L.set i s1) l:=by
 have m:=DN.DM hC hk;refine⟨m.DC hC (by omega) (by omega) h.DC,m.read hC (by omega) (by omega) h.all,m.row hC (by omega) (by omega) h.Jp,m.row hC (by omega) (by omega) h.Qk,by simpa using h.len,fun j hj Mk=>?_⟩;by_cases e:j=i
 ·subst e
  have:FM (fun k=>DM F W W' (10+j) k=10+j) W' (bs[j]'hj) s1:=hC.held hk (by omega) hn
  simpa using this
 ·have Py:j<L.length:=by simpa using Mk
  have:FM (fun k=>DM F W W' (10+i) k=10+j) W' (bs[j]'hj) (L[j]'Py):=m.hold hC (c':=10+j) (by omega) (by omega) (h.node j hj Py)
  simpa [CJ,Ne.symm e] using this
theorem JO.born{c:Dg}(h:JO F W tb Aa ca nv dv bs L l)(hC:EA w W F)(hb:W.heap.size<=b)(hn:FM (· =b) w2 b (Dh.start c))(FI:Below W.heap.size W w2):
 JO (DM F W w2 (10+bs.length)) w2 tb Aa ca nv dv bs L l/\FM (fun k=>DM F W w2 (10+bs.length) k=10+bs.length) w2 b (Dh.start c)/\EA w w2 (DM F W w2 (10+bs.length))/\DN (fun x=>x=10+bs.length) F W (DM F W w2 (10+bs.length)) w2:=by
 have k2:Kept (fun k=>F k=10+bs.length) W w2:=.DU FI;have m:=DN.DM hC k2;have c2:=hC.DM (by omega) k2;have DG:=FM.dJ hn b rfl;exact⟨h.other hC m (fun c hc=>by omega),Fs.wide hn (fun k e=>by rw[e];exact FV hb DG) (fun k e=>c2.hi k (by rw[e];omega)),c2,m⟩
theorem JO.push{s:Dh}(h:JO F W tb Aa ca nv dv bs L l)(hC:EA w W F)(ZI:bs.length<10)(hn:FM (fun k=>F k=10+bs.length) W b s)(DT:Below W.heap.size W w3)
 (ho:w4.ownsRow 0 215 1 Oq (bs.length+1) (IQ bs++IQ [b])) (hg:w3.grownBy w4 nv.ownBlock) (hx:Oq.ownBlock=nv.ownBlock\/Oq.ownBlock=some w3.heap.size):
 ∃F',EA w (w4.setCell ⟨tb,1,none⟩ Oq) F'/\DN (fun c=>c=1\/c=3) F W F' (w4.setCell ⟨tb,1,none⟩ Oq)/\JO F' (w4.setCell ⟨tb,1,none⟩ Oq) tb Aa ca Oq dv (bs++[b]) (L++[s]) l:=by
 have m0:DN (fun c=>c=3) F W F w3:=DN.below hC DT;have SV:=hC.below DT;have hnF:∀x,nv.ownBlock=some x->F x=3:=h.Jp.2;have k4:Kept (fun x=>F x=3) w3 w4:=(AH _ _).grown hg (fun x e=>.inl (hnF x e));have m4:=DN.DM SV k4;have c4:=SV.DM (by decide) k4;have m:DN (fun c=>c=3) F W (DM F w3 w4 3) w4:=m0.trans m4;have Eg:Ns (DM F w3 w4 3) 3 w4 215 1 (bs.length+1) Oq (IQ bs++IQ [b]):=⟨ho,fun x e=>by
  have hl:=(ho.lt x e).2;rcases hx with e2|e2
  ·rw[e2]at e
   exact Hm (hnF x e)
  ·rw[e2]at e
   injection e with e
   exact FV (by omega) hl⟩
 have C6:=m.DC hC (c':=1) (by decide) (by decide) h.DC;have MR:Kept (fun k=>DM F w3 w4 3 k=1) w4 (w4.setCell ⟨tb,1,none⟩ Oq):=(AH (fun k=>DM F w3 w4 3 k=1) _).setCell (a:=⟨tb,1,none⟩) (.inl C6.2) _;have ER:(w4.setCell ⟨tb,1,none⟩ Oq).heap.size=w4.heap.size:=by simp[World.setCell]
 have m2:DN (fun x=>x=1) (DM F w3 w4 3) w4 (DM F w3 w4 3) (w4.setCell ⟨tb,1,none⟩ Oq):=⟨MR,fun _ _=>rfl,fun k hl h0=>by have:=c4.hi k h0;omega⟩;have hap:IQ (bs++[b])=IQ bs++IQ [b]:=by unfold IQ;rw[BP]
 refine⟨_,⟨c4.lo,fun k hk=>by rw[ER];exact c4.hi k hk,c4.DI.trans (MR.below (fun k e=>c4.lo k (by rw[e];decide)) c4.DI.size)⟩,(m.mono (fun c hc=>.inr hc)).trans (m2.mono (fun c hc=>.inl hc)),⟨C6.1.De 1 Oq,C6.2⟩,m2.read c4 (by decide) (by decide) (m.read hC (by decide) (by decide) h.all),?_,m2.row c4 (by decide) (by decide) (m.row hC (by decide) (by decide) h.Qk),by simp[h.len],fun i hi SJ=>?_⟩
 ·rw[hap,AN]
  exact m2.row c4 (by decide) (by decide) Eg
 ·by_cases e:i<bs.length
  ·have ay:i<L.length:=by rw[<-h.len];exact e
   have:FM (fun k=>DM F w3 w4 3 k=10+i) (w4.setCell ⟨tb,1,none⟩ Oq) (bs[i]'e) (L[i]'ay):=m2.hold c4 (by omega) (by omega) (m.hold hC (c':=10+i) (by omega) (by omega) (h.node i e ay))
   simpa [AUY,e,ay] using this
  ·have zp:i=bs.length:=by simp at hi;omega
   subst zp;have:FM (fun k=>DM F w3 w4 3 k=10+bs.length) (w4.setCell ⟨tb,1,none⟩ Oq) b s:=m2.hold c4 (by omega) (by omega) (m.hold hC (c':=10+bs.length) (by omega) (by omega) hn)
   simpa [h.len] using this
theorem JO.done(h:JO F W tb Aa ca nv dv bs L l)(hL:L.length=l.length)(ha:∀j (hj:j<L.length) (Mk:j<l.length),L[j]'hj=Ee l (Dh.start (l[j]'Mk))):Ds F W tb Aa ca nv dv (.slice none 0 0) bs (DQ.start l):=by
 have e1:(DQ.start l).L.length=l.length:=by simp[DQ.start]
 have e2:(DQ.start l).L.map (fun p=>p.1.c)=l:=by
  simp only[DQ.start,AS4];apply ASi (by simp);intro j h1 h2;simp only[Ce,Function.comp];rw[P5];rfl
 have e3:(DQ.start l).L.map Prod.snd=List.replicate l.length false:=by
  simp only[DQ.start,AS4];apply ASi (by simp);intro j h1 h2;simp
 refine⟨by rw[e1];exact h.DC,by rw[e1,e2];exact h.all,by rw[e1,<-hL,<-h.len];exact h.Jp,by rw[e1,e3];exact h.Qk,⟨AX _ _ _ _,fun k hk=>by cases hk⟩,by rw[e1,h.len,hL],fun i hi SJ=>?_⟩;have ay:i<L.length:=by rw[<-h.len];exact hi
 have zp:i<l.length:=by rw[<-hL];exact ay
 have:=h.node i hi ay;rw[ha i ay zp]at this
 simpa [DQ.start] using this
end
theorem Below.cz{w W:World}{o:Obj}(h:Below w.heap.size w W):Below w.heap.size w (W.alloc o):=h.alloc h.size _
def ZA(w:World)(l:List Dg)(s4:Value)(wx:World):Prop:=∃F tb Aa ca dv,s4=.pointer (some ⟨tb,0,none⟩)/\EA w wx F/\DN EK (fun _=>0) w F wx/\JO F wx tb Aa ca (.slice none 0 0) dv [] [] l
theorem S1(n:Nat):(madeCells #[Value.bool false] n).toList=Kv (List.replicate n false):=by
 rw[toList_madeCells_one];simp[Kv]
theorem bA{w wx:World}{l:List Dg}{tb gd ca n:Nat}{Aa:Option Addr}(hl:l.length=n)(hn:n<=maxLen)(hb:Below w.heap.size w wx)(QX:w.heap.size<=tb)(DC:DJ wx tb 213 #[.slice Aa n ca,.slice none 0 0,.slice (some ⟨gd,0,none⟩) n n,.slice none 0 0])
 (Gg:wx.ownsRow w.heap.size 108 5 (.slice Aa n ca) n (Du l)) (La:w.heap.size<=gd) (ADQ:DJ wx gd 4 (madeCells #[.bool false] n)) (GI:gd≠tb) (hga:∀k,(Value.slice Aa n ca).ownBlock=some k->k≠tb/\k≠gd):
 ZA w l (.pointer (some ⟨tb,0,none⟩)) wx:=by
 subst hl;refine⟨fun k=>if k=tb then 1 else if k=gd then 4 else if w.heap.size<=k/\k<wx.heap.size then 2 else 0,tb,Aa,ca,_,rfl,⟨fun k hk=>?_,fun k hk=>?_,hb⟩,⟨.DU hb,fun k hk=>?_,fun k hk h0=>?_⟩,⟨DC,AD rfl⟩,⟨Reads.DR Gg,fun hp a ha=>?_⟩,⟨AX _ _ _ _,fun k hk=>by cases hk⟩,⟨⟨by simp[Kv],.inr ⟨gd,l.length,_,rfl,AM _,ADQ,AB,hn,by rw[<-At,S1];simp[Kv],by rw[S1];simp[Kv]⟩⟩,fun k hk=>?_⟩,rfl,fun i hi=>by simp at hi⟩
 ·try dsimp only at hk
  split at hk
  ·next e=>omega
  ·split at hk
   ·next e=>omega
   ·split at hk
    ·next e=>exact e.1
    ·exact absurd rfl hk
 ·try dsimp only at hk
  split at hk
  ·next e=>rw[e];exact DC.lt
  ·split at hk
   ·next e=>rw[e];exact ADQ.lt
   ·split at hk
    ·next e=>exact e.2
    ·exact absurd rfl hk
 ·try dsimp only
  rw[AC (by omega),AC (by omega),AC (by omega)]
 ·try dsimp only
  unfold EK;split
  ·omega
  ·split
   ·omega
   ·split
    ·omega
    ·next e1 e2 e3=>exact absurd (by rw[AC e1,AC e2,AC e3]) h0
 ·obtain⟨g,c,e,h1,h2,_⟩:=Eu Gg hp
  simp only[Cf]at e;obtain⟨rfl,-,-⟩:=e;injection ha with ha
  subst ha;obtain⟨q1,q2⟩:=hga g rfl;try dsimp only
  rw[AC q1,AC q2,AD ⟨h1,h2⟩]
 ·injection hk with hk
  subst hk;try dsimp only
  rw[AC GI,AD rfl]
theorem o5(w:World)(o:Obj)(t:TypeId)(cs:Array Value):DJ ((w.alloc o).alloc (.cells cs t)) (w.heap.size+1) t cs:=by
 have e:w.heap.size+1=(w.alloc o).heap.size:=by simp
 rw[e];exact DJ.new _ _ _
theorem AEU{w wa w1:World}{l:List Dg}{n c1:Nat}{A1:Option Addr}(hl:l.length=n)(hn:n<=maxLen)(ha:Below w.heap.size w wa)(ho:w1.ownsRow wa.heap.size 108 5 (.slice A1 n c1) n (Du l))(C6:Below wa.heap.size wa w1):
 ZA w l (.pointer (some ⟨w1.heap.size+1,0,none⟩)) ((w1.alloc (.cells (madeCells #[.bool false] n) 4)).alloc (.cells #[.slice A1 n c1,.slice none 0 0,.slice (some ⟨w1.heap.size,0,none⟩) n n,.slice none 0 0] 213)):=by
 have h1:=Below.C9 ha C6;exact bA hl hn (Below.cz (Below.cz h1)) (by have:=h1.size;omega) (o5 _ _ _ _) (((GL ho ha.size).alloc _).alloc _) h1.size ((DJ.new _ _ _).alloc _) (by omega) (fun k hk=>by have:=(ho.lt k hk).2;omega)
theorem AGv{w w1:World}{l:List Dg}{n c1:Nat}{A1:Option Addr}(hl:l.length=n)(hn:n<=maxLen)(ho:w1.ownsRow (w.alloc (.cells (madeCells #[.bool false] n) 4)).heap.size 108 5 (.slice A1 n c1) n (Du l))(Jg:Below (w.alloc (.cells (madeCells #[.bool false] n) 4)).drew.heap.size (w.alloc (.cells (madeCells #[.bool false] n) 4)).drew w1):
 ZA w l (.pointer (some ⟨w1.heap.size,0,none⟩)) (w1.alloc (.cells #[.slice A1 n c1,.slice none 0 0,.slice (some ⟨w.heap.size,0,none⟩) n n,.slice none 0 0] 213)):=by
 have h0:Below w.heap.size w (w.alloc (.cells (madeCells #[.bool false] n) 4)):=Below.cz AA;have C6:Below (w.alloc (.cells (madeCells #[.bool false] n) 4)).heap.size (w.alloc (.cells (madeCells #[.bool false] n) 4)) w1:=⟨Jg.os,Jg.tape,Jg.output,Jg.size,Jg.block⟩;have h1:=Below.C9 h0 C6;have hs:=C6.size;simp at hs;exact bA hl hn (Below.cz h1) h1.size (DJ.new _ _ _) ((GL ho h0.size).alloc _) AB (((DJ.new _ _ _).below C6 (by simp)).alloc _) (by omega) (fun k hk=>by have:=ho.lt k hk;simp at this;omega)
def Sa(w:World)(l:List Dg)(e:Ending)(W':World):Prop:=(Ev l=0/\∃tb,e=.returned (.tuple #[.pointer (some ⟨tb,0,none⟩),.int .i64 0])/\Hd w (fun _=>0) w tb (DQ.start l) W')\/(Ev l≠0/\e=.returned (.tuple #[.pointer none,.int .i64 (Ev l)])/\Below w.heap.size w W')
theorem dw(A:Option Addr)(c n:Nat)(h:5<n)(w:World):
 Calls prog 112 #[.slice A n c] w fun e w'=>e=.returned (.tuple #[.pointer none,.int .i64 2])/\w=w':=by
 go_in;go_wp2
 go_ret2
 exact⟨rfl,rfl⟩
theorem MS{P:Program}(w:World){ops:Array Oper}{rest:List Oper}{o:Oper}{a:Act}{Q:Exit->Act->World->Prop}(hg:o.guard=none)(mm x:Operand)(t:TypeId)(xO:o.op=Op.lookup t mm x false)
 (k e:TypeId) (K:Go.Maps.Keyed P k) (ht:P.underlying t=some (.map k e)) (he:P.underlying e=some .bool) (hz:(zeroValue e).run P w=.ok (.bool false) w) (b n:Nat) (m:Lit->Bool)
 (hm:a.eval mm=.map (some b)) (DL:EM P k e w b n m) (key:Value) (kl:Lit) (hx:a.eval x=key) (Pd:keyOf P k key=some kl) (y:Bool) (hy:m kl=y)
 (hK:wpList P ops Q rest (a.put o.dst (.bool y)) w):
 wpList P ops Q (o::rest) a w:=by
 subst hy;exact QU w hg mm x t xO k e K ht he hz b n m hm DL key kl hx Pd hK
theorem eA(l:List Dg):∀u∈Du l,u.oneCell'=true:=by
 induction l with
 |nil=>intro u hu;cases hu
 |cons c l ih=>
  intro u hu;rcases Au.1 hu with hu|hu
  ·simp only[Ie,AR,CT,CU]at hu
   rcases hu with rfl|rfl|rfl|rfl|rfl<;>rfl
  ·exact ih u hu
theorem gr{a:Option Addr}:∀u∈ [Value.pointer a],u.oneCell'=true:=by
 intro u hu;rw[Ai.1 hu];rfl
theorem OG{w:World}{B n:Nat}{A:Option Addr}{l:List Dg}(h:Reads w B 5 A n (Du l))(hl:l.length=n)(hn:0<n):
 ∃b off,A=some ⟨b,off,none⟩/\b<B/\∀k,(hk:k<l.length)->w.cell? ⟨b,off+k*5,none⟩=some (.string (l[k]'hk).1)/\w.cell? ⟨b,off+k*5+1,none⟩=some (.int .i64 (LY (l[k]'hk)))/\w.cell? ⟨b,off+k*5+2,none⟩=some (.int .i64 (Eb (l[k]'hk)))/\w.cell? ⟨b,off+k*5+3,none⟩=some (.int .i64 (JM (l[k]'hk)))/\w.cell? ⟨b,off+k*5+4,none⟩=some (.int .i64 (Jy (l[k]'hk))):=by
 obtain⟨b,off,e,hb,hc⟩:=h.U9 hn (by decide);refine⟨b,off,e,hb,fun k hk=>?_⟩;have at':∀j v,j<5->(Ie (l[k]'hk))[j]? =some v->w.cell? ⟨b,off+k*5+j,none⟩=some v:=fun j v hj hv=>by
  rw[Bv];exact hc _ _ ((P8 l k j hk hj).trans hv)
 exact⟨at' 0 _ (by decide) rfl,at' 1 _ (by decide) rfl,at' 2 _ (by decide) rfl,at' 3 _ (by decide) rfl,at' 4 _ (by decide) rfl⟩
theorem QQ(w:World)(e:TypeId)(v:Value):Reads (w.alloc (.cells #[v] e)) (w.heap.size+1) 1 (some ⟨w.heap.size,0,none⟩) 1 [v]:=
 ⟨rfl,fun _=>⟨_,rfl,by simp,fun j u hj=>by
   have hc:=(DJ.new w e #[v]).cell j;have I1:(⟨w.heap.size,0,none⟩:Addr).add j=⟨w.heap.size,j,none⟩:=by unfold Addr.add;split<;>simp_all
   rw[I1,hc,<-hj];simp⟩⟩
theorem DN.grown{w W W':World}{F:Nat->Nat}{mb c:Nat}(hC:EA w W F)(hg:W.grownBy W' (some mb))(hF:F mb=c)(hc:c≠0):DN (fun x=>x=c) F W F W'/\EA w W' F:=by
 have hk:Kept (fun k=>F k=c) W W':=(AH _ _).grown hg (fun k e=>by injection e with e;exact .inl (e▸hF));exact⟨⟨hk,fun _ _=>rfl,fun k hl h0=>by have:=hC.hi k h0;omega⟩,hC.lo,fun k h=>AJ (hC.hi k h) hg.size,hC.DI.trans (hk.below (fun k e=>hC.lo k (by rw[e];exact hc)) hC.DI.size)⟩
theorem nV:(Tryz.prog.info? 215).map (fun i=>(i.zero,i.size,i.bytes))=some (some (.pointer none),1,8):=by kernel_rfl
theorem SX(w:World):(zeroValue 4).run prog w=.ok (.bool false) w:=by kernel_rfl
theorem wB(s:ByteArray)(i v k l:Int)(hs:s.size<=maxLen)(e0:Int)(he:IX (s,i,v,k,l)=e0)(hz:e0≠0)(w:World):
 Calls prog 175 #[.agg #[.string s,.int .i64 i,.int .i64 v,.int .i64 k,.int .i64 l]] w fun e w'=>e=.returned (.tuple #[.pointer none,.int .i64 e0])/\Below w.heap.size w w':=ABN (s,i,v,k,l) hs e0 he hz w
theorem ww(s:ByteArray)(i v k l:Int)(he:IX (s,i,v,k,l)=0)(w:World):
 Calls prog 175 #[.agg #[.string s,.int .i64 i,.int .i64 v,.int .i64 k,.int .i64 l]] w (yK (s,i,v,k,l) w):=AA5 (s,i,v,k,l) he w
def qP(l:List Dg):Int:=Gv [] l
def Lm(w:World)(l:List Dg)(tb:Nat)(Aa:Option Addr)(ca:Nat)(dv:Value)(mb k:Nat)(wr:World):Prop:=
 ∃F nv bs,Nv l k/\EA w wr F/\DN EK (fun _=>0) w F wr/\JO F wr tb Aa ca nv dv bs ((l.take k).map Dh.start) l/\EM prog 9 4 wr mb k (MY ((l.take k).map Prod.fst))/\F mb=18
def GY(w:World)(l:List Dg)(tb:Nat)(Aa:Option Addr)(ca:Nat)(nv dv:Value)(bs:List Nat)(i k:Nat)(wr:World):Prop:=
 ∃F L,EA w wr F/\DN EK (fun _=>0) w F wr/\JO F wr tb Aa ca nv dv bs L l/\L.length=l.length/\∀j (hj:j<L.length) (Mk:j<l.length),L[j]'hj=bz l i k j (l[j]'Mk)
section
variable{w W wr w1 w2 w3 w4:World}{l:List Dg}{tb ca mb i k b:Nat}{Aa:Option Addr}{nv dv:Value}{bs:List Nat}
theorem Lm.start{F:Nat->Nat}(hC:EA w W F)(hM:DN EK (fun _=>0) w F W)(hT:JO F W tb Aa ca (.slice none 0 0) dv [] [] l):Lm w l tb Aa ca dv W.heap.size 0 (W.alloc (.map #[] 0)):=by
 have hb:Below W.heap.size W (W.alloc (.map #[] 0)):=Below.cz AA;have hk:Kept (fun k=>F k=18) W (W.alloc (.map #[] 0)):=.DU hb;have m:=DN.DM hC hk;have e:MY (([]:List Dg).map Prod.fst)=fun _=>false:=by funext q;cases q<;>rfl
 refine⟨DM F W (W.alloc (.map #[] 0)) 18,_,[],Nv.zero l,hC.DM (by decide) hk,hM.trans (m.mono (fun c hc=>.inr (by omega))),hT.other hC m (fun c hc=>by simp;omega),?_,FV AB (by simp)⟩;rw[ATp,e];exact EM.made W
theorem Lm.below(h:Lm w l tb Aa ca dv mb k wr)(hb:Below wr.heap.size wr w1):Lm w l tb Aa ca dv mb k w1:=by
 obtain⟨F,nv,bs,h1,h2,h3,h4,h5,h6⟩:=h;exact⟨F,nv,bs,h1,h2.below hb,h3.trans (.below h2 hb),h4.below h2 hb,h5.below hb,h6⟩
theorem Lm.next{cc:Dg}{F:Nat->Nat}{w3a:World}{Oq:Value}(CK:Nv l (k+1))(hTk:l.take (k+1)=l.take k++[cc])(hC:EA w w3 F)(hM:DN EK (fun _=>0) w F w3)(hT:JO F w3 tb Aa ca nv dv bs ((l.take k).map Dh.start) l)(hN:FM (fun k=>F k=10+bs.length) w3 b (Dh.start cc))
 (hMM:EM prog 9 4 w3 mb (k+1) (MY ((l.take k).map Prod.fst++[cc.1]))) (hmF:F mb=18) (ZI:bs.length<10) (DT:Below w3.heap.size w3 w3a)
 (ho:w4.ownsRow 0 215 1 Oq (bs.length+1) (IQ bs++IQ [b])) (hg:w3a.grownBy w4 nv.ownBlock) (hx:Oq.ownBlock=nv.ownBlock\/Oq.ownBlock=some w3a.heap.size):Lm w l tb Aa ca dv mb (k+1) (w4.setCell ⟨tb,1,none⟩ Oq):=by
 obtain⟨F',p1,p2,p3⟩:=hT.push hC ZI hN DT ho hg hx;refine⟨F',Oq,bs++[b],CK,p1,hM.trans (p2.mono (fun c hc=>by unfold EK;omega)),?_,?_,?_⟩
 ·rw[hTk,BP];exact p3
 ·rw[hTk,BP]
  exact hMM.kept p2.kept (fun e=>by have e:F mb=1\/F mb=3:=e;omega)
 ·rw[p2.Nz mb hMM.lt];exact hmF
theorem JO.four{F:Nat->Nat}{L:List Dh}{w3a:World}(hT:JO F w3 tb Aa ca nv dv bs L l)(DT:Below w3.heap.size w3 w3a)(hg:w3a.grownBy w4 nv.ownBlock):DJ w4 tb 213 #[.slice Aa l.length ca,nv,dv,.slice none 0 0]:=by
 have k4:Kept (fun x=>nv.ownBlock=some x) w3a w4:=(AH _ _).grown hg (fun x e=>.inl e);exact k4.DC ((Kept.DU (X:=fun _=>False) DT).DC hT.DC.1 (fun h=>h)) (fun hx=>by have:=hT.Jp.2 tb hx;have:=hT.DC.2;omega)
theorem GY.DI(h:GY w l tb Aa ca nv dv bs i k wr):Below w.heap.size w wr:=by
 obtain⟨F,L,h1,_⟩:=h;exact h1.DI
theorem GY.below(h:GY w l tb Aa ca nv dv bs i k wr)(hb:Below wr.heap.size wr w1):GY w l tb Aa ca nv dv bs i k w1:=by
 obtain⟨F,L,h2,h3,h4,h5⟩:=h;exact⟨F,L,h2.below hb,h3.trans (.below h2 hb),h4.below h2 hb,h5⟩
theorem bf(j:Nat)(c:Dg):bz l 0 0 j c=Dh.start c:=by
 unfold bz;rw[AC (by omega)];split
 ·rw[ATp];rfl
 ·rfl
theorem aY(j:Nat)(c:Dg):bz l i l.length j c=bz l (i+1) 0 j c:=by
 unfold bz;rw[Ap,ATp];by_cases h1:j<i
 ·rw[AD h1,AD (by omega)]
 ·rw[AC h1]
  by_cases h2:j=i
  ·rw[AD h2,AD (by omega)]
  ·rw[AC h2,AC (by omega)]
   split
   ·rfl
   ·rfl
theorem Lm.fin(h:Lm w l tb Aa ca dv mb l.length wr):∃nv bs,qP l=0/\bs.length=l.length/\(∀c∈l,IX c=0)/\GY w l tb Aa ca nv dv bs 0 0 wr/\∃F,Ns F 3 wr 215 1 bs.length nv (IQ bs):=by
 obtain⟨F,nv,bs,h1,h2,h3,h4,h5,h6⟩:=h;have hlen:bs.length=l.length:=by rw[h4.len];simp
 refine⟨nv,bs,h1.all,hlen,fun c hc=>h1.Fo c (by rw[Ap];exact hc),⟨F,_,h2,h3,h4,by simp,fun j hj Mk=>?_⟩,F,h4.Jp⟩;rw[bf];simp
theorem GY.outer(h:GY w l tb Aa ca nv dv bs i l.length wr):GY w l tb Aa ca nv dv bs (i+1) 0 wr:=by
 obtain⟨F,L,h2,h3,h4,h5,h6⟩:=h;exact⟨F,L,h2,h3,h4,h5,fun j hj Mk=>by rw[h6 j hj Mk,aY]⟩
theorem GY.own(h:GY w l tb Aa ca nv dv bs i i wr)(hi:i<l.length):GY w l tb Aa ca nv dv bs i (i+1) wr:=by
 obtain⟨F,L,h2,h3,h4,h5,h6⟩:=h;refine⟨F,L,h2,h3,h4,h5,fun j hj Mk=>?_⟩;rw[h6 j hj Mk];unfold bz;by_cases h1:j<i
 ·rw[AD h1,AD h1]
 ·rw[AC h1,AC h1]
  by_cases e:j=i
  ·subst e
   rw[AD rfl,AD rfl,MN l j hi];have hc:(Ee (l.take j) (Dh.start (l[j]'hi))).c=l[j]'hi:=(P5 _ _).trans rfl;have:=ai (Ee (l.take j) (Dh.start (l[j]'hi))) (Eb (l[j]'hi));rw[hc]at this;exact this.symm
  ·rw[AC e,AC e]
theorem GY.told{F:Nat->Nat}{L:List Dh}(hC:EA w W F)(hM:DN EK (fun _=>0) w F W)(hT:JO F W tb Aa ca nv dv bs L l)(hL:L.length=l.length)(ha:∀j (hj:j<L.length) (Mk:j<l.length),L[j]'hj=bz l i k j (l[j]'Mk))(hi:i<l.length)(hk:k<l.length)(h5:l.length<=5)
 (MR:Kept (fun x=>F x=10+i) W wr) (hn:FM (grow (fun x=>F x=10+i) W wr) wr (bs[i]'(by rw[hT.len,hL];exact hi)) ((L[i]'(by rw[hL];exact hi)).watched (l[k]'hk).1 (Eb (l[k]'hk)))):GY w l tb Aa ca nv dv bs i (k+1) wr:=by
 have ml:i<L.length:=by rw[hL];exact hi
 refine⟨DM F W wr (10+i),L.set i _,hC.DM (by omega) MR,hM.trans ((DN.DM hC MR).mono (fun c hc=>by unfold EK;omega)),hT.Pe hC ml MR hn,by simpa using hL,fun j hj Mk=>?_⟩;have hjL:j<L.length:=by simpa using hj
 simp only[CJ];by_cases e:i=j
 ·subst e
  rw[AD rfl,ha i ml hi];unfold bz;rw[AC (by omega),AD rfl,AC (by omega),AD rfl,MN l k hk]
 ·rw[AC e,ha j hjL Mk]
  unfold bz;by_cases h1:j<i
  ·rw[AD h1,AD h1]
  ·rw[AC h1,AC h1,AC (fun h=>e h.symm),AC (fun h=>e h.symm)]
theorem GY.si(h:GY w l tb Aa ca nv dv bs i k wr):tb<wr.heap.size/\wr.cell? ⟨tb,1,none⟩=some nv:=by
 obtain⟨F,L,h2,h3,h4,_⟩:=h;exact h4.cells
theorem GY.ptr(h:GY w l tb Aa ca nv dv bs i k wr)(hi:i<bs.length):∃gn cn,nv=.slice (some ⟨gn,0,none⟩) bs.length cn/\bs.length<=cn/\cn<=maxLen/\gn<wr.heap.size/\wr.cell? ⟨gn,i,none⟩=some (.pointer (some ⟨bs[i]'hi,0,none⟩)):=by
 obtain⟨F,L,h2,h3,h4,h5,h6⟩:=h;obtain⟨gn,cn,rfl,-,Mm,h1,h2,hc⟩:=Eu h4.Jp.1 (by omega);exact⟨gn,cn,rfl,h1,h2,Mm,hc i _ (by simp[IQ,hi])⟩
theorem GY.node(h:GY w l tb Aa ca nv dv bs i k wr)(ZI:bs.length=l.length)(h5:l.length<=5)(jF:∀c∈l,IX c=0)(hi:i<bs.length)(hk:k<l.length)(hid:(l[k]'hk).1.size<=maxLen):
 Calls prog 176 #[.pointer (some ⟨bs[i]'hi,0,none⟩),.string (l[k]'hk).1,.int .i64 (Eb (l[k]'hk))] wr fun e W'=>(∃er,e=.returned (.int .i64 er))/\GY w l tb Aa ca nv dv bs i (k+1) W':=by
 obtain⟨F,L,h2,h3,h4,h6,h7⟩:=h;have ml:i<L.length:=by rw[h6,<-ZI];exact hi
 have WY:i<l.length:=by rw[<-ZI];exact hi
 obtain⟨_,_,_,_,_,hn⟩:=h4.node i hi ml;have hg:Di (L[i]'ml):=by
  rw[h7 i ml WY];unfold bz;rw[AC (by omega),AD rfl];exact(Di.start (jF _ (AL WY))).Ee _
 refine(lL hn hg _ hid _).mono fun e W' ⟨k1,k2,k3⟩=>⟨⟨_,k1⟩,GY.told h2 h3 h4 h6 h7 WY hk h5 k3 k2⟩
theorem GY.done(h:GY w l tb Aa ca nv dv bs l.length 0 wr):Hd w (fun _=>0) w tb (DQ.start l) wr:=by
 obtain⟨F,L,h2,h3,h4,h5,h6⟩:=h;refine⟨F,h2,h3,_,_,_,_,_,_,h4.done h5 (fun j hj Mk=>?_)⟩;rw[h6 j hj Mk];unfold bz;rw[AD (by omega)]
theorem Lm.DI(h:Lm w l tb Aa ca dv mb k wr):Below w.heap.size w wr:=by
 obtain⟨F,nv,bs,h1,h2,_⟩:=h;exact h2.DI
end
theorem vm(A:Option Addr)(c n:Nat)(l:List Dg)(hl:l.length=n)(h5:n<=5)(hs:∀c∈l,c.1.size<=maxLen)(w:World)(hr:Reads w w.heap.size 5 A n (Du l)):
 Calls prog 112 #[.slice A n c] w (Sa w l):=by
 obtain⟨in0,fr,nh,ro,d8⟩:=AO Tryz.XR;have HL:=I hl;have HR:=I hr;have P7:=I (show∀W',Below w.heap.size w W'->Calls prog 57 #[.slice A n c] W' (gX n (Du l) W')from fun W' hb=>V5 A c n w.heap.size (Du l) (by omega) (eA l) W' (hr.below hb AB) hb.size);have PO:=fun W'=>run_make (P:=prog) W' 82 4 in0 (.bool false) underlying82 fr nh .i64 .i64 n n (by omega) (by omega) (by rw[d8];omega) (by omega);simp only[ro,Bp,ATC,Value.cells]at PO;have hn5:(n:Int)<=5:=by omega
 have N8:decide (5<n)=false:=by rw[Bc];omega
 have GV:decide (5<(n:Int))=false:=by rw[Bc];omega
 have oz:=I (show Ev l=Gv [] l by unfold Ev;rw[AC (by omega)]);have Nc:= @run_makeMap prog;clear hl hr;go_in
 go_upto_region 3 with fail
 go_cut [4] (fun s4 wx=>ZA w l s4 wx)
 case first=>
  go_region_held3 (fun w'=>Below w.heap.size w w')
   ((repeat (with_reducible first|exact km|exact AA|refine AE ?_|refine Below.cz ?_)))
   (first
     |(go_at_call 57;(with_reducible refine(P7.out _ ?ia).mono ?_);(case ia=>(repeat (with_reducible first|exact km|exact AA|refine AE ?_|refine Below.cz ?_)));rintro e' w1 ⟨A1,c1,rfl,VJ,C6⟩;have km:Below w.heap.size w w1:=Below.C9 (by(repeat (with_reducible first|exact km|exact AA|refine AE ?_|refine Below.cz ?_))) C6))
  all_goals
   clear PO P7;have HM:=I (show n<=maxLen by unfold maxLen;omega);have Pb:=I VJ;have Ii:=I C6;clear VJ C6 km;go_wp2_with fail
   go_meet
   first
    |exact AEU HL.out HM.out AA Pb.out Ii.out
    |exact AEU HL.out HM.out AA.drew Pb.out Ii.out
    |exact AGv HL.out HM.out Pb.out Ii.out
 case rest=>
  obtain⟨F,tb,Aa,ca,dv,rfl,hC,hM,hT⟩:=hcut;have R0:=I (Lm.start hC hM hT);have BC:=I hC.DI;clear hC hM hT PO P7;go_wp2_with fail
  obtain⟨mb,zt⟩:∃mb,wc.heap.size=mb:=⟨_,rfl⟩;rw[zt]at R0⊢;clear zt;have hI0:=AO nV;obtain⟨ip0,hip,AEL,ACc,ADj⟩:=hI0;go_loopw [27] (fun iv wr=>∃k:Nat,k<=n/\iv=.int .i64 (k:Int)/\Lm w l tb Aa ca dv mb k wr) (fun iv _=>n- (RowKit.intOf iv).toNat)
  case atStart=>exact⟨0,AM _,rfl,R0.out⟩
  case round=>
   obtain⟨k,hk,rfl,hrel⟩:=hrel;obtain⟨wo,rfl⟩:∃wo,wo=wr:=⟨_,rfl⟩;have RL:=I hrel;clear hrel R0;by_cases DG:k<n
   ·have ES:k<l.length:=by rw[HL.out];exact DG
    obtain⟨ba,off,rfl,tJ,EO⟩:=OG (HR.out.below RL.out.DI AB) HL.out (by omega);obtain⟨c0,c1,c2,c3,c4⟩:=EO k ES;have hbo:ba<wo.heap.size:=AJ tJ RL.out.DI.size;have ey:=I (hs _ (AL ES));have CK0:=I (show Nv l k by obtain⟨_,_,_,h,_⟩:=RL.out;exact h);have CKb:=I (CK0.out.bad ES);have CKt:=I (CK0.out.xY ES);have CKn:=I (CK0.out.next ES);have T6:=I (Af ES);generalize l[k]'ES=cc at*;obtain⟨cs,ci,ce,cp,cl⟩:=cc;simp only[]at c0 c1 c2 c3 c4 ey;have EX:=I ((AI wo).lay #[.string cs,.int .i64 ci,.int .i64 ce,.int .i64 cp,.int .i64 cl] 108);have RX:=I (RL.out.below EX.out.DI)
    clear EO;by_cases he:IX (cs,ci,ce,cp,cl)=0
    ·have HE:=I he
     clear he CKb;go_wp2_with fail
     refine(ww cs ci ce cp cl HE.out _).mono ?_;rintro e' w2 ⟨nb,rfl,hnb,XD,DK⟩;have E2:=I (EX.out.below DK);obtain⟨F,nv,bs,-,hC,hM,hT,hMM,hmF⟩:=RX.out;obtain⟨q1,q2,q3,q4⟩:=hT.born hC hnb XD DK;have Mz:bs.length=k:=by rw[hT.len,Ak,AV];omega
     have MM2:=I (hMM.below DK);have AAP:=(q4.Nz mb hMM.lt).trans hmF;have T2:=I q1;have N2:=I q2;have C2:=I q3;have M2:=I (hM.trans (q4.mono (fun c hc=>by unfold EK;omega)));obtain⟨F2,hF2⟩:∃F2,DM F (wo.alloc (.cells #[.string cs,.int .i64 ci,.int .i64 ce,.int .i64 cp,.int .i64 cl] 108)) w2 (10+bs.length)=F2:=⟨_,rfl⟩;rw[hF2]at T2 N2 C2 M2 AAP;have i6:=I AAP;have Nh:=I Mz;have x0:=E2.out.hd.cell 0;have ZM:=E2.out.hd.lt;simp at x0;obtain⟨sm,hsm⟩:∃sm,MY ((l.take k).map Prod.fst)=sm:=⟨_,rfl⟩;obtain⟨kl,oY⟩:∃kl,Lit.string cs.data.toList=kl:=⟨_,rfl⟩;rw[hsm]at MM2;have HKY:=I (show keyOf prog 9 (.string cs)=some kl by rw[<-oY];exact AS9 underlying9 ey.out)
     have wO:=I (show sm kl=((l.take k).map Prod.fst).any (fun x=>decide (x=cs))by rw[<-hsm,<-oY];exact qk _ _);have zi:=I (show MY ((l.take k).map Prod.fst++[cs]) kl=true by rw[<-oY];exact mX _ _);have Rp:=I (show∀q,q≠kl->MY ((l.take k).map Prod.fst++[cs]) q=sm q by rw[<-oY,<-hsm];exact jl _ _);clear hnb XD DK hC hM hT hMM hmF q1 q2 q3 q4 Mz AAP hF2 hsm oY c0 c1 c2 c3 c4;cases mw:sm kl with
     |true=>
      have HSB:=I mw;have Q5:=I (show Ev l=5 by rw[oz.out];exact CKt.out HE.out (by rw[<-wO.out];exact mw));have Df:=I (show∀W',Below w2.heap.size w2 W'->Sa w l (.returned (.tuple #[.pointer none,.int .i64 5])) W' from fun W' hb=>.inr ⟨by rw[Q5.out];decide,by rw[Q5.out],Below.C9 C2.out.DI hb⟩);clear mw;go_wp2_with (at_lookup;refine MS _ rfl _ _ 214 rfl 9 4 (AUA underlying9) underlying214 underlying4 (SX _) mb k sm rfl MM2.out (.string cs) kl rfl HKY.out _ HSB.out ?_)
      go_ret2
      exact Df.out _ AA
     |false=>
      have HSB:=I mw;have vq:=I (show k<maxLen by unfold maxLen;omega);have BD1:=I (show bs.length+1<=maxLen by have:=Nh.out;unfold maxLen;omega);have BD2:=I (show(bs.length+1)*8<=140737488355328 by have:=Nh.out;omega);have CKN:=I (CKn.out HE.out (by rw[<-wO.out];exact mw));obtain⟨An,cn,rfl⟩:=Cz T2.out.Jp.1;have G3:=I (show∀w3,w2.grownBy w3 (some mb)->tb<w3.heap.size/\w3.cell? ⟨tb,1,none⟩=some (.slice An bs.length cn)/\EA w w3 F2/\DN EK (fun _=>0) w F2 w3/\JO F2 w3 tb Aa ca (.slice An bs.length cn) dv bs ((l.take k).map Dh.start) l/\FM (fun x=>F2 x=10+bs.length) w3 nb (Dh.start (cs,ci,ce,cp,cl))from fun w3 Nk=>by
       obtain⟨m3,C3h⟩:=DN.grown C2.out Nk i6.out (by decide);have t3:=T2.out.other C2.out m3 (fun c hc=>by have:=Nh.out;omega);exact⟨t3.cells.1,t3.cells.2,C3h,M2.out.trans (m3.mono (fun c hc=>by unfold EK;omega)),t3,m3.hold C2.out (by omega) (by have:=Nh.out;omega) N2.out⟩)
      clear x0 ZM;have x0:=E2.out.hd.cell 0;have ZM:=E2.out.hd.lt;simp at x0;clear mw;go_wp2_with (first
       |(at_lookup;refine MS _ rfl _ _ 214 rfl 9 4 (AUA underlying9) underlying214 underlying4 (SX _) mb k sm rfl MM2.out (.string cs) kl rfl HKY.out _ HSB.out ?_)
       |(at_mapUpdate;refine MG _ rfl _ _ _ 214 rfl 9 4 (AUA underlying9) underlying214 underlying4 mb k sm rfl MM2.out vq.out (.string cs) kl true rfl rfl HKY.out (MY ((l.take k).map Prod.fst++[cs])) zi.out Rp.out ?_;intro w3 nu Nk;have MM3:=I nu;have HG3:=I Nk;obtain⟨AGt,z1,-⟩:=G3.out w3 Nk;clear nu Nk)
       |(at_builtin;refine Dd _ rfl _ _ 211 rfl 0 215 ip0 (.pointer none) 1 8 underlying211 hip AEL ACc ADj rfl (by decide) _ bs.length (IQ bs) rfl ((G3.out w3 HG3.out).2.2.2.2.1.Jp.1.alloc _) (w3.heap.size+1) (some ⟨w3.heap.size,0,none⟩) 1 _ [.pointer (some ⟨nb,0,none⟩)] rfl (QQ _ _ _) gr BD1.out BD2.out (AM _) ?_;intro nv4 w4 Tp RV EL;obtain⟨An4,cn4,rfl⟩:=Cz Tp;have B4:=(G3.out w3 HG3.out).2.2.2.2.1.four (Below.cz AA) RV;have AIZ:=B4.lt;have y1:=B4.cell 1;have yf:=B4.frozen 1;simp at y1;have O4:=I Tp;have G4:=I RV;have H4:=I EL;clear Tp RV EL B4))
      obtain⟨-,-,g1,g2,g3,g4⟩:=G3.out w3 HG3.out;have Df:=I (Lm.next CKN.out T6.out g1 g2 g3 g4 MM3.out i6.out (by have:=Nh.out;omega) (Below.cz AA) O4.out G4.out H4.out);exact⟨⟨k+1,by omega,by simp,Df.out⟩,by simp[RowKit.intOf];omega⟩
    ·obtain⟨e0,Rs⟩:∃e0,IX (cs,ci,ce,cp,cl)=e0:=⟨_,rfl⟩
     have Q1:=I ((CKb.out he).trans Rs);rw[Rs]at he;have HE:=I Rs;have HZ:=I he;have FZ:(e0 != 0)=true:=by simpa using he
     clear he Rs;go_wp2_with fail
     refine(wB cs ci ce cp cl ey.out e0 HE.out HZ.out _).mono ?_;rintro e' w2 ⟨rfl,DK⟩;have Df:=I (show Sa w l (.returned (.tuple #[.pointer none,.int .i64 e0])) w2 from .inr ⟨by rw[oz.out,Q1.out];exact HZ.out,by rw[oz.out,Q1.out],Below.C9 RX.out.DI DK⟩);clear DK;go_wp2
     go_ret2
     exact Df.out
   ·obtain rfl:k=n:=by omega
    have Yc:=HL.out;subst Yc;obtain⟨nv,bs,GI,ZI,jF,h3,F0,hnr⟩:=RL.out.fin;obtain⟨An,cn,rfl⟩:=Cz hnr.1;have L0:=I h3;have HNE:=I GI;have HGO:=I jF;have mQ:=I ZI;clear GI jF hnr h3 ZI;have AIw:(bs.length:Int)<=5:=by have:=mQ.out;omega
    obtain⟨QX,z1⟩:=L0.out.si;go_wp2_with fail
    go_loopw [62] (fun iv wr=>∃i:Nat,i<=l.length/\iv=.int .i64 (i:Int)/\GY w l tb Aa ca (.slice An bs.length cn) dv bs i 0 wr) (fun iv _=>l.length- (RowKit.intOf iv).toNat)
    case atStart=>exact⟨0,AM _,rfl,L0.out⟩
    case round=>
     obtain⟨i,hi,rfl,hrel⟩:=hrel;obtain⟨wp,rfl⟩:∃wp,wp=wr:=⟨_,rfl⟩;have LP:=I hrel;clear hrel L0 z1;by_cases WY:i<l.length
     ·have hib:i<bs.length:=by rw[mQ.out];exact WY
      obtain⟨gn,uc,e1,Hc,Jw,Mm,g0⟩:=LP.out.ptr hib;simp only[Cf]at e1;obtain⟨rfl,-,rfl⟩:=e1;unfold maxLen at Jw;have ii0:(0:Int)<=(i:Int):=by omega
      have ii1:(i:Int)<(bs.length:Int):=by omega
      have kS:=I (fun k W' (hk:k<l.length) (hL:GY w l tb Aa ca (.slice (some ⟨gn,0,none⟩) bs.length cn) dv bs i k W')=>hL.node mQ.out h5 HGO.out hib hk (hs _ (AL hk)));generalize bs[i]'hib=b at*;go_wp2_with fail
      go_loopw [69] (fun kv wr=>∃k:Nat,k<=l.length/\kv=.int .i64 (k:Int)/\GY w l tb Aa ca (.slice (some ⟨gn,0,none⟩) bs.length cn) dv bs i k wr) (fun kv _=>l.length- (RowKit.intOf kv).toNat)
      case atStart=>exact⟨0,AM _,rfl,LP.out⟩
      case round=>
       obtain⟨k,hk,rfl,hrel⟩:=hrel;obtain⟨wq,rfl⟩:∃wq,wq=wr:=⟨_,rfl⟩;have LQ:=I hrel;clear hrel g0;by_cases ES:k<l.length
       ·obtain⟨ba,off,rfl,tJ,EO⟩:=OG (HR.out.below LQ.out.DI AB) rfl (by omega)
        obtain⟨c0,c1,c2,c3,c4⟩:=EO k ES;have hbo:ba<wq.heap.size:=AJ tJ LQ.out.DI.size;have iP:=I (fun W' hL=>kS.out k W' ES hL);generalize l[k]'ES=cc at*;obtain⟨cs,ci,ce,cp,cl⟩:=cc;simp only[]at c0 c1 c2 c3 c4 iP;have EX:=I ((AI wq).lay #[.string cs,.int .i64 ci,.int .i64 ce,.int .i64 cp,.int .i64 cl] 108);have LX:=I (LQ.out.below EX.out.DI);have oA:(k:Int)<(l.length:Int):=by omega
        clear EO;by_cases sq:k=i
        ·subst sq
         have Df:=I (LX.out.own ES);go_wp2;exact⟨⟨k+1,by omega,by simp,Df.out⟩,by simp[RowKit.intOf];omega⟩
        ·have AOx:((k:Int)==(i:Int))=false:=by simp;omega
         have AOC:((k:Int) != (i:Int))=true:=by simp;omega
         clear sq;go_wp2_with fail
         refine(iP.out _ LX.out).mono ?_;rintro e' w2 ⟨⟨er,rfl⟩,NI⟩;have Df:=I NI;clear NI;go_wp2;exact⟨⟨k+1,by omega,by simp,Df.out⟩,by simp[RowKit.intOf];omega⟩
       ·obtain rfl:k=l.length:=by omega
        have Df:=I LQ.out.outer;go_wp2;exact⟨⟨i+1,by omega,by simp,Df.out⟩,by simp[RowKit.intOf];omega⟩
     ·obtain rfl:i=l.length:=by omega
      have FI:(bs.length:Int)<=(l.length:Int):=by have:=mQ.out;omega
      have Df:=I (show Sa w l (.returned (.tuple #[.pointer (some ⟨tb,0,none⟩),.int .i64 0])) wp from .inl ⟨oz.out.trans HNE.out,tb,rfl,LP.out.done⟩);go_wp2
      go_ret2
      exact Df.out
theorem Zm(A:Option Addr)(c:Nat)(l:List Dg)(hs:∀c∈l,c.1.size<=maxLen)(w:World)(hr:Reads w w.heap.size 5 A l.length (Du l)):
 Calls prog 112 #[.slice A l.length c] w (Sa w l):=by
 by_cases h5:5<l.length
 ·have he:Ev l=2:=by unfold Ev;rw[AD h5]
  exact(dw A c _ h5 w).mono fun e W' ⟨k1,k2⟩=>.inr ⟨by rw[he];decide,by rw[he];exact k1,k2▸AA⟩
 ·exact vm A c _ l rfl (by omega) hs w hr
