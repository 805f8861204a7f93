/- Rows of several cells an -/
import Derived.Test.YthiplgekjgffkaaGreatDoorM05
import Derived.Laws.CopyOwn
import Derived.Deep.DeepAppendRoom
set_option maxRecDepth 100000
set_option maxHeartbeats 99000000
set_option linter.all false
namespace Go.Proofs.YthiplgekjgffkaaGreatDoor
def ATy:=@Go.length_splice
open Go.RowKit
theorem P0{P:Program}(w:World)(dT sT ty elem:TypeId)(size g o Lb UM:Nat)(a:Addr)(Lc Vx:Nat)(cur:Array Value)(t:TypeId)(cs:List Value)
 (hu:P.underlying dT=some (.slice elem)) (hs:(P.info? elem).map (·.size)=some size)
 (hg:w.heap[g]? =some (.cells cur t (0,0))) (hn:cs.length=Nat.min Lc Lb*size)
 (rh:∀j v,cs[j]? =some v->w.cell? (a.add j)=some v) (qR:o+cs.length<=cur.size) (h1:∀v∈cs,v.oneCell'=true):
 (Builtin.copy_ #[dT,sT] ty #[.slice (some ⟨g,o,none⟩) Lb UM,.slice (some a) Lc Vx]).run P w=
   .ok (goInt (Nat.min Lc Lb)) (w.setRow g (cur.toList.take o++cs++cur.toList.drop (o+cs.length)).toArray):=by
 have hl:=ATu (P:=P) w a cs rh;have GR:=run_storeCells_at P g o t cs 0 cur w hg (by simpa using qR) h1;cases hq:P.info? elem with
 |none=>simp[hq]at hs
 |some i=>
  have hi:i.size=size:=by simpa [hq] using hs
  simp[Builtin.copy_,CE hu,Builtin.lenOf,Builtin.firstCells,sizeOf,typeInfo,hq,hi,<-hn,hl,GR]
theorem Oh{P:Program}(w:World)(dT sT ty elem:TypeId)(d a:Option Addr)(Lb UM Lc Vx:Nat)(hu:P.underlying dT=some (.slice elem))(hs:((P.info? elem).map (·.size)).isSome=true)(hn:Nat.min Lc Lb=0):
 (Builtin.copy_ #[dT,sT] ty #[.slice d Lb UM,.slice a Lc Vx]).run P w=.ok (goInt 0) w:=by
 have hl:∀a:Addr,(loadCells a 0).run P w=.ok #[] w:=fun a=>by simpa using ATu (P:=P) w a [] (by simp)
 cases hq:P.info? elem with
 |none=>simp[hq]at hs
 |some i=>
  cases d<;>cases a<;>simp[Builtin.copy_,CE hu,Builtin.lenOf,Builtin.firstCells,sizeOf,typeInfo,hq,hn,hl,storeCells]
theorem KM{P:Program}{w:World}{ops:Array Oper}{rest:List Oper}{o:Oper}{a:Act}{Q:Exit->Act->World->Prop}(La:o.guard=none)(d s:Operand)(dT sT:TypeId)
 (ho:o.op=.call {callee:=.builtin .copy,args:=#[d,s],argTypes:=#[dT,sT]}) (elem:TypeId) (size:Nat) (hu:P.underlying dT=some (.slice elem)) (ER:(P.info? elem).map (·.size)=some size) (PR:0<size)
 (dp sp:Option Addr) (Lb UM Lc Vx:Nat) (hd:a.eval d=.slice dp Lb UM) (hs:a.eval s=.slice sp Lc Vx)
 (g off:Nat) (cur:List Value) (t:TypeId) (hg:w.heap[g]? =some (.cells cur.toArray t (0,0))) (cs:List Value) (hn:cs.length=Nat.min Lc Lb*size)
 (Tk:0<cs.length->dp=some ⟨g,off,none⟩/\∃ad,sp=some ad/\∀j v,cs[j]? =some v->w.cell? (ad.add j)=some v)
 (qR:off+cs.length<=cur.length) (h1:∀v∈cs,v.oneCell'=true) (B:Nat) (w0:World) (hb:Below B w0 w) (hBg:B<=g)
 (h:∀w',Hid (w'.heap[g]? =some (.cells (splice cur off cs).toArray t (0,0)))->Below B w0 w'->w.grownBy w' (some g)->wpList P ops Q rest (a.put o.dst (goInt (Nat.min Lc Lb))) w'):
 wpList P ops Q (o::rest) a w:=by
 refine ASh La fun K hK=>?_;by_cases h0:cs.length=0
 ·obtain rfl:cs=[]:=Bn h0
  have hm:Nat.min Lc Lb=0:=by
   rcases Ac (Nat.min Lc Lb)with h|h
   ·exact h
   ·have:=Nat.mul_pos h PR;simp at hn;omega
  have J7:=Oh (P:=P) w dT sT o.type elem dp sp Lb UM Lc Vx hu (by rw[ER];rfl) hm;have hq:=h w (show _=_ by simpa [splice] using hg) hb ⟨rfl,rfl,rfl,AB,fun _ _ _=>rfl⟩;rw[hm]at hq;unfold Oper.wp;simp[execOp,ho,resolve,invoke,builtin,hd,hs,J7,Result.andThen];exact hK _ _ hq
 ·obtain⟨rfl,ad,rfl,rh⟩:=Tk (by omega)
  have J7:=P0 (P:=P) w dT sT o.type elem size g off Lb UM ad Lc Vx cur.toArray t cs hu ER hg hn rh (by simpa using qR) h1;have hq:=h _ (show _=_ by simpa [splice] using ATb w g _ _ t _ hg) (below_setRow hb hBg _) ⟨rfl,rfl,rfl,by simp[World.setRow],fun k _ hk=>ATa w g k _ (fun e=>hk (by simp[e]))⟩;unfold Oper.wp;simp[execOp,ho,resolve,invoke,builtin,hd,hs,J7,Result.andThen];exact hK _ _ hq
theorem MF{P:Program}{w:World}{ops:Array Oper}{o:Oper}{a:Act}{K:Act->World->Prop}{Q:Exit->Act->World->Prop}{E:Prop}(La:o.guard=none)(d s:Operand)(dT sT:TypeId)
 (ho:o.op=.call {callee:=.builtin .copy,args:=#[d,s],argTypes:=#[dT,sT]}) (elem:TypeId) (size:Nat) (hu:P.underlying dT=some (.slice elem)) (ER:(P.info? elem).map (·.size)=some size) (PR:0<size)
 (dp sp:Option Addr) (Lb UM Lc Vx:Nat) (hd:a.eval d=.slice dp Lb UM) (hs:a.eval s=.slice sp Lc Vx)
 (g off:Nat) (cur:List Value) (t:TypeId) (hg:w.heap[g]? =some (.cells cur.toArray t (0,0))) (cs:List Value) (hn:cs.length=Nat.min Lc Lb*size)
 (Tk:0<cs.length->dp=some ⟨g,off,none⟩/\∃ad,sp=some ad/\∀j v,cs[j]? =some v->w.cell? (ad.add j)=some v)
 (qR:off+cs.length<=cur.length) (h1:∀v∈cs,v.oneCell'=true) (B:Nat) (w0:World) (hb:Below B w0 w) (hBg:B<=g)
 (h:∀w',Hid (w'.heap[g]? =some (.cells (splice cur off cs).toArray t (0,0)))->Below B w0 w'->w.grownBy w' (some g)->K (a.put o.dst (goInt (Nat.min Lc Lb))) w'):
 if Region.wanted o (yielded ops a.tmps)=true then Oper.wp P o a w K Q else E:=by
 have hw:Region.wanted o (yielded ops a.tmps)=true:=by simp[Region.wanted,La]
 rw[AD hw];by_cases h0:cs.length=0
 ·obtain rfl:cs=[]:=Bn h0
  have hm:Nat.min Lc Lb=0:=by
   rcases Ac (Nat.min Lc Lb)with h|h
   ·exact h
   ·have:=Nat.mul_pos h PR;simp at hn;omega
  have J7:=Oh (P:=P) w dT sT o.type elem dp sp Lb UM Lc Vx hu (by rw[ER];rfl) hm;have hq:=h w (show _=_ by simpa [splice] using hg) hb ⟨rfl,rfl,rfl,AB,fun _ _ _=>rfl⟩;rw[hm]at hq;unfold Oper.wp;simp[execOp,ho,resolve,invoke,builtin,hd,hs,J7,Result.andThen];exact hq
 ·obtain⟨rfl,ad,rfl,rh⟩:=Tk (by omega)
  have J7:=P0 (P:=P) w dT sT o.type elem size g off Lb UM ad Lc Vx cur.toArray t cs hu ER hg hn rh (by simpa using qR) h1;have hq:=h _ (show _=_ by simpa [splice] using ATb w g _ _ t _ hg) (below_setRow hb hBg _) ⟨rfl,rfl,rfl,by simp[World.setRow],fun k _ hk=>ATa w g k _ (fun e=>hk (by simp[e]))⟩;unfold Oper.wp;simp[execOp,ho,resolve,invoke,builtin,hd,hs,J7,Result.andThen];exact hq
theorem YF{α:Type}(C Y v:List α)(a s:Nat)(hv:v.length=s)(h:a+s+Y.length<=C.length):(splice (splice C (a+s) Y) a v).take (a+s+Y.length)=C.take a++(v++Y):=by
 have e1:(splice C (a+s) Y).take a=C.take a:=by
  unfold splice;rw[List.take_append_of_le_length (by rw[AV];omega),ATY,ASb (by omega)]
 have e2:(splice C (a+s) Y).drop (a+s)=Y++C.drop (a+s+Y.length):=by
  unfold splice;rw[List.drop_append_of_le_length (by rw[AV];omega),Cu (by rw[AV];omega)];rfl
 have e3:splice (splice C (a+s) Y) a v=(C.take a++(v++Y))++C.drop (a+s+Y.length):=by
  rw[show splice (splice C (a+s) Y) a v=(splice C (a+s) Y).take a++(v++(splice C (a+s) Y).drop (a+v.length))from rfl,hv,e1,e2];simp[Cs]
 rw[e3];exact ATv (by simp only[AN,AV,hv];omega)
theorem eC{α:Type}(C Y v:List α)(a s:Nat)(hv:v.length=s)(h:a+s+Y.length<=C.length):(splice (splice C a v) (a+s) Y).take (a+s+Y.length)=C.take a++(v++Y):=by
 have e1:(splice C a v).take (a+s)=C.take a++v:=by
  unfold splice;rw[<-Cs];exact ATv (by simp only[AN,AV,hv];omega)
 have e3:splice (splice C a v) (a+s) Y=(C.take a++(v++Y))++(splice C a v).drop (a+s+Y.length):=by
  rw[show splice (splice C a v) (a+s) Y=(splice C a v).take (a+s)++(Y++(splice C a v).drop (a+s+Y.length))from rfl,e1];simp[Cs]
 rw[e3];exact ATv (by simp only[AN,AV,hv];omega)
theorem Lq{P:Program}{w:World}{ops:Array Oper}{o:Oper}{a:Act}{K:Act->World->Prop}{Q:Exit->Act->World->Prop}{E:Prop}(La:o.guard=none)(s x:Operand)(t:TypeId)
 (ho:o.op=.call {callee:=.builtin .append,args:=#[s,x],argTypes:=#[t,t]})
 (base:Nat) (e:TypeId) (i:TypeInfo) (size:Nat) (ht:P.underlying t=some (.slice e)) (hi:P.info? e=some i) (H7:i.size=size)
 (g n cap:Nat) (xs:List Value) (hs:a.eval s=.slice (some ⟨g,0,none⟩) n cap) (DL:w.ownsRow base e size (.slice (some ⟨g,0,none⟩) n cap) n xs)
 (ad:Addr) (m c:Nat) (news:List Value) (hx:a.eval x=.slice (some ad) m c) (hl:news.length=m*size) (AD9:∀j u,news[j]? =some u->w.cell? (ad.add j)=some u) (h1:∀u∈news,u.oneCell'=true)
 (bu:n+m<=cap)
 (h:∀w',w'.ownsRow base e size (.slice (some ⟨g,0,none⟩) (n+m) cap) (n+m) (xs++news)->w.grownBy w' (some g)->K (a.put o.dst (.slice (some ⟨g,0,none⟩) (n+m) cap)) w'):
 if Region.wanted o (yielded ops a.tmps)=true then Oper.wp P o a w K Q else E:=by
 have hw:Region.wanted o (yielded ops a.tmps)=true:=by simp[Region.wanted,La]
 rw[AD hw];exact wp_append_own_spare w s x t ho base e i size ht hi H7 g n cap xs hs DL ad m c news hx hl AD9 h1 bu h
theorem Px{w w' GQ:World}{r:Option Nat}(h:w.grownBy w' r)(h':w'.grownBy GQ r):w.grownBy GQ r:=
 ⟨h'.os.trans h.os,h'.tape.trans h.tape,h'.output.trans h.output,AG h.size h'.size,fun k hk hn=>(h'.block k (AJ hk h.size) hn).trans (h.block k hk hn)⟩
theorem Yr{w:World}{base size n cap g m:Nat}{e:TypeId}{xs:List Value}(h:w.ownsRow base e size (.slice (some ⟨g,0,none⟩) n cap) n xs)(hm:m<=n):w.ownsRow base e size (.slice (some ⟨g,0,none⟩) m cap) m (xs.take (m*size)):=by
 have hle:m*size<=n*size:=BU _ hm;rcases h.2 with⟨h,_⟩|⟨g',AAa,cur,hv,h1,h2,h3,h4,h5,h6⟩
 ·cases h
 ·cases hv
  exact⟨by rw[AV,h.1];omega,.inr ⟨g,cap,cur,rfl,h1,h2,by omega,h4,h5,by rw[<-h6,ATY];congr 1;omega⟩⟩
theorem WX{P:Program}(w:World)(t ty e:TypeId)(i:TypeInfo)(z:Value)(size:Nat)(ht:P.underlying t=some (.slice e))(hi:P.info? e=some i)(hz:i.zero=some z)(Ts:z.cells.size=size)(h1:∀u∈z.cells.toList,u.oneCell'=true)
 (base g n cap:Nat) (xs:List Value) (DL:w.ownsRow base e size (.slice (some ⟨g,0,none⟩) n cap) n xs) (off m c:Nat) (h0:n*size<=off) (hm:off+m*size<=cap*size):
 ∃w',(Builtin.clear_ #[t] ty #[.slice (some ⟨g,off,none⟩) m c]).run P w=.ok (.tuple #[]) w'/\w'.ownsRow base e size (.slice (some ⟨g,0,none⟩) n cap) n xs/\w.grownBy w' (some g):=by
 cases m with
 |zero=>exact⟨w,by simp[Builtin.clear_,CE ht],DL,⟨rfl,rfl,rfl,AB,fun _ _ _=>rfl⟩⟩
 |succ m=>
  rcases DL.2 with⟨h,_⟩|⟨g',AAa,cur,hv,WJ,hg,Qj,j8,EO,aG⟩
  ·cases h
  ·cases hv
   have hlen:(Builtin.zeroCells z.cells (m+1)).toList.length=(m+1)*size:=by rw[At,ATw,Ts]
   have QR:∀v∈(Builtin.zeroCells z.cells (m+1)).toList,v.oneCell'=true:=by
    intro v hv;simp only[Builtin.zeroCells,Array.toList_map,BD]at hv;obtain⟨k,hk,rfl⟩:=hv;have RO:k<(m+1)*z.cells.size:=by simpa using hk
    have PR:0<z.cells.size:=by
     rcases Ac z.cells.size with h|h
     ·rw[h]at RO;simp at RO
     ·exact h
    have DG:=BN k PR;rw[getElem!_pos z.cells _ DG];exact h1 _ (by simp)
   have GR:=run_storeCells_at P g off e (Builtin.zeroCells z.cells (m+1)).toList 0 cur w hg (by rw[hlen,EO];simpa using hm) QR;simp only[AW]at GR;refine⟨w.setRow g (cur.toList.take off++(Builtin.zeroCells z.cells (m+1)).toList++cur.toList.drop (off+(Builtin.zeroCells z.cells (m+1)).toList.length)).toArray,?_,⟨DL.1,.inr ⟨g,cap,_,rfl,WJ,ATb w g cur _ e _ hg,Qj,j8,?_,?_⟩⟩,⟨rfl,rfl,rfl,by simp[World.setRow],fun k _ hk=>ATa w g k _ (fun e=>hk (by simp[e]))⟩⟩
   ·simp[Builtin.clear_,CE ht,zeroValue,typeInfo,hi,hz,GR]
   ·simp only[Cv,AN,AV,CX,hlen,At,EO]
    omega
   ·rw[Cs,List.take_append_of_le_length (by rw[AV,At,EO];omega),ATY,ASb h0]
    exact aG
theorem Mh{P:Program}{w:World}{ops:Array Oper}{rest:List Oper}{o:Oper}{a:Act}{Q:Exit->Act->World->Prop}(La:o.guard=none)(s:Operand)(t:TypeId)
 (ho:o.op=.call {callee:=.builtin .clear,args:=#[s],argTypes:=#[t]}) (e:TypeId) (i:TypeInfo) (z:Value) (size:Nat) (ht:P.underlying t=some (.slice e)) (hi:P.info? e=some i) (hz:i.zero=some z) (Ts:z.cells.size=size) (h1:∀u∈z.cells.toList,u.oneCell'=true)
 (base g n cap:Nat) (xs:List Value) (DL:w.ownsRow base e size (.slice (some ⟨g,0,none⟩) n cap) n xs) (off m c:Nat) (hs:a.eval s=.slice (some ⟨g,off,none⟩) m c) (h0:n*size<=off) (hm:off+m*size<=cap*size)
 (h:∀w',w'.ownsRow base e size (.slice (some ⟨g,0,none⟩) n cap) n xs->w.grownBy w' (some g)->wpList P ops Q rest (a.put o.dst (.tuple #[])) w'):wpList P ops Q (o::rest) a w:=by
 refine ASh La fun K hK=>?_;obtain⟨w',J7,h2,h3⟩:=WX (P:=P) w t o.type e i z size ht hi hz Ts h1 base g n cap xs DL off m c h0 hm;have hq:=h w' h2 h3;unfold Oper.wp;simp[execOp,ho,resolve,invoke,builtin,hs,J7,Result.andThen];exact hK _ _ hq
