/- Small lemmas that the wa -/
import Derived.Test.YthiplgekjgffkaaGreatDoorProg
import Derived.WalkKit
import Derived.Deep.Draws
import Derived.Deep.AppendLies
import Derived.Lib.Hide
set_option maxRecDepth 100000
set_option maxHeartbeats 99000000
set_option linter.all false
namespace Go.Proofs.YthiplgekjgffkaaGreatDoor
def AC:=@if_neg
def AD:=@if_pos
def AE:=@Go.RowKit.Below.drew
def AF:=@Go.bodyPost_ret
def AG:=@Nat.le_trans
def AJ:=@Nat.lt_of_lt_of_le
def AK:=@And.left
def AL:=@List.getElem_mem
def AM:=@Nat.zero_le
def AN:=@List.length_append
def AO:=@Go.info_parts
def AP:=@List.length_cons
def AQ:=@Go.RowKit.Below.refl
def AR:=@List.mem_cons
def AU:=@List.getElem?_eq_getElem
def AV:=@List.length_take
def AW:=@Nat.add_zero
def AX:=@Go.World.ownsRow_nil
def AY:=@List.take_of_length_le
def AZ:=@Nat.mul_comm
def Ac:=@Nat.eq_zero_or_pos
def Ae:=@congrArg
def Af:=@List.take_succ_eq_append_getElem
def Ah:=@Nat.lt_or_ge
def Ai:=@List.mem_singleton
def Aj:=@Go.IntKind.wrap_i64
def Ak:=@List.length_map
def Am:=@List.mem_cons_of_mem
def Ap:=@List.take_length
def Ar:=@Nat.pow_succ
def At:=@Array.length_toList
def Au:=@List.mem_append
def Ax:=@Nat.pow_le_pow_right
def Ay:=@List.mem_cons_self
def Az:=@Go.World.size_alloc
def BD:=@List.mem_map
def BJ:=@List.length_singleton
def BM:=@Nat.mul_add
def BN:=@Nat.mod_lt
def BP:=@List.map_append
def BR:=@Nat.mul_le_mul
def BT:=@Int.mul_le_mul
def BU:=@Nat.mul_le_mul_right
def BV:=@Nat.add_mul
def BZ:=@UInt8.toNat_lt
def Bb:=@Nat.mul_le_mul_left
def Bc:=@decide_eq_false
def Bd:=@Nat.mul_assoc
def Be:=@List.mem_of_mem_take
def Bf:=@Bool.and_eq_true
def Bg:=@Nat.pow_add
def Bi:=@Nat.two_pow_pos
def Bj:=@UInt8.lt_iff_toNat_lt
def Bk:=@Nat.lt_of_le_of_lt
def Bl:=@Go.ByteArray.toList_eq
def Bm:=@Go.World.cell?_alloc_lt
def Bn:=@List.eq_nil_of_length_eq_zero
def Bo:=@Int.eq_ofNat_of_zero_le
def Bp:=@Int.toNat_natCast
def Bq:=@Int.mul_nonneg
def Br:=@Nat.le_succ
def Bu:=@Nat.div_le_self
def Bv:=@Nat.add_assoc
def By:=@List.getD_eq_getElem?_getD
def Bz:=@List.drop_eq_getElem_cons
def B8:=@Nat.mod_eq_of_lt
def CA:=@Go.IntKind.wrap_u64
def CB:=@Nat.lt_trans
def CC:=@ByteArray.ext
def CE:=@Go.run_underlying
def CF:=@beq_iff_eq
def CG:=@decide_eq_true_eq
def CH:=@Nat.zero_add
def CI:=@ByteArray.size_extract
def CM:=@Nat.div_add_mod
def CN:=@List.map_cons
def CP:=@List.append_nil
def CQ:=@List.getElem?_eq_some_iff
def CR:=@And.right
def CT:=@List.not_mem_nil
def CU:=@or_false
def CV:=@beq_eq_false_iff_ne
def CW:=@Go.RowKit.Below.size
def CX:=@List.length_drop
def CY:=@UInt8.toNat_inj
def CZ:=@List.length_nil
def Ca:=@Go.IntWalk.i64_in
def Cb:=@Go.RowKit.Below.trans
def Cc:=@List.mem_or_eq_of_mem_set
def Cd:=@Go.World.block_lt_of_cell?
def Cg:=@List.cons_append
def Ch:=@Nat.add_sub_cancel
def Ci:=@Go.heap_alloc_new
def Cj:=@Classical.choose_spec
def Ck:=@List.map_set
def Cl:=@Go.RowKit.Below.mono
def Cm:=@List.nil_append
def Cp:=@Nat.succ_mul
def Cq:=@Nat.div_eq_of_lt
def Cr:=@Nat.le_refl
def Cs:=@List.append_assoc
def Ct:=@Int.le_refl
def Cu:=@List.drop_of_length_le
def Cv:=@List.size_toArray
def Cw:=@Int.tdiv_eq_ediv_of_nonneg
def Cx:=@List.mem_of_mem_drop
def Cy:=@Nat.lt_succ_of_lt
def ASY:=@List.getElem_set_self
def ASa:=@List.drop_eq_nil_of_le
def ASb:=@Nat.min_eq_left
def ASc:=@Nat.mul_add_div
def ASd:=@Nat.lt_trichotomy
def ASe:=@Nat.div_lt_iff_lt_mul
def ASf:=@Nat.add_comm
def ASg:=@List.foldl_append
def ASh:=@Go.wpList_plain
def ASi:=@List.ext_getElem
def ASj:=@Int.add_mul
def ASk:=@Go.ofInt_u64
def ASm:=@Nat.lt_of_succ_le
def ASn:=@Nat.lt_of_succ_lt
def ASo:=@List.getElem?_take
def ASp:=@Go.heap_alloc_old
def ASq:=@List.set_set
def ASs:=@Go.MapKept.run_checkKey
def ASt:=@Go.MapKept.run_findKey
def ASu:=@Nat.zero_mul
def ASv:=@Nat.mul_add_mod
def ASw:=@Nat.mul_left_comm
def ASx:=@Array.getElem?_eq_some_iff
def ASy:=@List.take_add_one
def ASz:=@List.getElem?_append_right
def AS1:=@List.pairwise_cons
def AS2:=@Go.IntKind.wrap_u8
def AS3:=@Go.RowKit.Below.setCell
def AS4:=@List.map_map
def AS5:=@Int.natCast_mul
def AS6:=@List.getElem_of_mem
def ATB:=@Nat.le_div_iff_mul_le
def ATC:=@Nat.mul_one
def ATD:=@List.getElem?_drop
def ATE:=@List.any_eq_true
def ATF:=@List.any_cons
def ATG:=@Go.World.cell?_setCell_other
def ATH:=@Option.some.injEq
def ATI:=@decide_eq_false_iff_not
def ATJ:=@List.getElem?_map
def ATK:=@Go.Addr.mk.injEq
def ATL:=@Go.MapKept.run_getObj_map
def ATM:=@List.getElem?_eq_none
def ATN:=@Nat.two_pow_add_eq_or_of_lt
def ATO:=@Nat.sub_add_cancel
def ATR:=@List.any_append
def ATS:=@Nat.sub_self
def ATT:=@List.set_append_right
def ATU:=@List.set_cons_zero
def ATV:=@Int.mul_comm
def ATW:=@Nat.one_le_two_pow
def ATX:=@Int.natCast_pow
def ATY:=@List.take_take
def ATZ:=@Array.toList_inj
def ATa:=@Go.setRow_other
def ATb:=@Go.setRow_heap
def ATc:=@List.getElem?_append_left
def ATd:=@Nat.or_lt_two_pow
def ATi:=@Go.RowKit.Below.heap_setCell
def ATj:=@Bool.eq_iff_iff
def ATk:=@Int.le_ediv_iff_mul_le
def ATl:=@List.any_eq_false
def ATm:=@Bool.or_eq_false_iff
def ATn:=@Go.IntWalk.u64_in
def ATo:=@Go.run_callFunc_extern
def ATp:=@List.take_zero
def ATq:=@Int.mul_assoc
def ATu:=@Go.run_loadCells_list
def ATv:=@List.take_left'
def ATw:=@Go.size_zeroCells
def ATx:=@List.flatMap_append
def ATz:=@Array.toList_append
def AT1:=@Array.replicate_succ
def AT2:=@Array.replicate_zero
def AT3:=@List.push_toArray
def AT4:=@List.append_toArray
def AT5:=@List.mem_reverse
def AUB:=@Go.MapKept.run_setObj_map
def AUG:=@Bool.and_eq_false_iff
def AUH:=@Array.getElem?_setIfInBounds
def AUI:=@List.count_cons_of_ne
def AUJ:=@List.count_cons_self
def AUK:=@Int.mul_le_mul_of_nonneg_left
def AUM:=@Go.run_string_add_sum
def AUN:=@Go.grownCap_le_maxLen
def AUP:=@Go.World.cell?_of_block
def AUQ:=@List.set_cons_succ
def AUR:=@Array.toList_setIfInBounds
def AUT:=@Nat.lt_succ_iff_lt_or_eq
open Go.RowKit
theorem D7{k:IntKind}{a b:Int}(h:a=b):Ending.returned (.int k a)=.returned (.int k b):=by rw[h]
theorem IL{a b:Bool}(h:a=b):Ending.returned (.bool a)=.returned (.bool b):=by rw[h]
theorem S8{B:Nat}{W w1:World}(hb:Below B W w1):(∀b o,b<B->w1.cell? ⟨b,o,none⟩=W.cell? ⟨b,o,none⟩)/\(∀b o,b<B->w1.frozen? ⟨b,o,none⟩=W.frozen? ⟨b,o,none⟩):=
 ⟨fun b o h=>hb.cell (p:=⟨b,o,none⟩) h,fun b o h=>hb.frozen (p:=⟨b,o,none⟩) h⟩
theorem below_drewN{B:Nat}{a w:World}(h:Below B a w)(n:Nat):Below B a (w.drewN n):=⟨h.os,h.tape,h.output,h.size,h.block⟩
theorem KO(a:Addr)(n:Nat):(a.add n).block=a.block:=by unfold Addr.add;split<;>rfl
theorem eM(a:Addr)(i j:Nat):(a.add i).add j=a.add (i+j):=by
 unfold Addr.add;by_cases hi:i=0<;>by_cases hj:j=0<;>simp[hi,hj,Bv]
def Reads(w:World)(B size:Nat)(A:Option Addr)(n:Nat)(xs:List Value):Prop:=
 xs.length=n*size/\(0<n->∃ad,A=some ad/\ad.block<B/\∀j u,xs[j]? =some u->w.cell? (ad.add j)=some u)
section
variable{w w':World}{B B' size n:Nat}{A:Option Addr}{xs:List Value}
theorem Reads.none_:Reads w B size A 0 []:=⟨by simp,fun h=>absurd h (by omega)⟩
theorem Reads.ACl(h:Reads w B size A n xs)(hk:∀p:Addr,p.block<B->w'.cell? p=w.cell? p):Reads w' B size A n xs:=
 ⟨h.1,fun hn=>by
   obtain⟨ad,e,hb,hc⟩:=h.2 hn;exact⟨ad,e,hb,fun j u hu=>(hk _ (by rw[KO];exact hb)).trans (hc j u hu)⟩⟩
theorem Reads.more(h:Reads w B size A n xs)(hB:B<=B'):Reads w B' size A n xs:=
 ⟨h.1,fun hn=>by
   obtain⟨ad,e,hb,hc⟩:=h.2 hn;exact⟨ad,e,by omega,hc⟩⟩
theorem Reads.below(h:Reads w B size A n xs){C:Nat}(hb:Below C w w')(hC:B<=C):Reads w' B size A n xs:=h.ACl fun _ hp=>hb.cell (AJ hp hC)
theorem Reads.drew(h:Reads w B size A n xs):Reads w.drew B size A n xs:=h
theorem Reads.alloc(h:Reads w B size A n xs)(hB:B<=w.heap.size)(o:Obj):Reads (w.alloc o) B size A n xs:=h.ACl fun p hp=>Bm w o p (by omega)
theorem Reads.DR{base:Nat}{e:TypeId}{c:Nat}(h:w.ownsRow base e size (.slice A n c) n xs):Reads w w.heap.size size A n xs:=by
 refine⟨h.1,fun hn=>?_⟩;rcases h.2 with⟨_,h0⟩|⟨g,cap,cur,hv,_,hg,_⟩
 ·omega
 ·have hA:A=some ⟨g,0,none⟩:=by injection hv
  subst hA;exact⟨_,rfl,(ASx.1 hg).1,h.cells (g:=g) rfl⟩
theorem Reads.cut(h:Reads w B size A n xs){k cap:Nat}(hk:k<=n)(hc:n<=cap):
 Reads w B size (if cap=k then A else A.map (·.add (k*size))) (n-k) (xs.drop (k*size)):=by
 refine⟨by rw[CX,h.1,Nat.sub_mul],fun hn=>?_⟩;obtain⟨ad,rfl,hb,FR⟩:=h.2 (by omega);rw[AC (by omega)];refine⟨ad.add (k*size),rfl,by rw[KO];exact hb,fun j u hu=>?_⟩;rw[eM];exact FR _ u (by rw[<-hu,ATD])
end
theorem Reads.addr{w:World}{B n:Nat}{A:Option Addr}{xs:List Value}(h:Reads w B 1 A n xs)(hn:0<n):
 ∃b off,A=some ⟨b,off,none⟩/\b<B/\∀k u,xs[k]? =some u->w.cell? ⟨b,off+k,none⟩=some u:=by
 obtain⟨ad,e,hb,hc⟩:=h.2 hn;have hl:0<xs.length:=by have:=h.1;omega
 have h0:=hc 0 _ (AU hl);obtain⟨b,off,spot⟩:=ad;have hs:spot=none:=by simpa [Addr.add] using World.cell?_spot h0
 subst hs;refine⟨b,off,e,hb,fun k u hu=>?_⟩;have:=hc k u hu;by_cases hk:k=0
 ·subst hk;simpa [Addr.add] using this
 ·simpa [Addr.add,hk] using this
def DJ(w:World)(g:Nat)(t:TypeId)(cs:Array Value):Prop:=w.heap[g]? =some (.cells cs t (0,0))
section
variable{w w':World}{g:Nat}{t:TypeId}{cs:Array Value}
theorem DJ.lt(h:DJ w g t cs):g<w.heap.size:=(ASx.1 h).1
theorem DJ.cell(h:DJ w g t cs)(i:Nat):w.cell? ⟨g,i,none⟩=cs[i]? :=cell_of_row w g i cs t (0,0) h
theorem DJ.frozen(h:DJ w g t cs)(i:Nat):w.frozen? ⟨g,i,none⟩=false:=by
 unfold DJ at h;simp[World.frozen?,h]
theorem DJ.new(w:World)(t:TypeId)(cs:Array Value):DJ (w.alloc (.cells cs t)) w.heap.size t cs:=Ci w _
theorem DJ.drew(h:DJ w g t cs):DJ w.drew g t cs:=h
theorem DJ.drewN(h:DJ w g t cs)(n:Nat):DJ (w.drewN n) g t cs:=h
theorem DJ.alloc(h:DJ w g t cs)(o:Obj):DJ (w.alloc o) g t cs:=(Below.heap_alloc w o g h.lt).trans h
theorem DJ.De(h:DJ w g t cs)(i:Nat)(u:Value):DJ (w.setCell ⟨g,i,none⟩ u) g t (cs.setIfInBounds i u):=by
 unfold DJ at h⊢;simp[World.setCell,Array.getElem?_modify,h]
theorem DJ.Je(h:DJ w g t cs){p:Addr}(hp:g≠p.block)(u:Value):DJ (w.setCell p u) g t cs:=(ATi w p u g hp).trans h
theorem DJ.below{B:Nat}(h:DJ w g t cs)(hb:Below B w w')(hg:g<B):DJ w' g t cs:=(hb.block g hg).trans h
end
def Env(w0 W:World)(l:List (Nat×TypeId×Array Value)):Prop:=Below w0.heap.size w0 W/\∀x∈l,w0.heap.size<=x.1/\DJ W x.1 x.2.1 x.2.2
section
variable{w0 W W':World}{l:List (Nat×TypeId×Array Value)}
theorem Env.start(w:World):Env w w []:=⟨AQ _ _,by simp⟩
theorem Env.DI(h:Env w0 W l):Below w0.heap.size w0 W:=h.1
theorem Env.lay(h:Env w0 W l)(cs:Array Value)(t:TypeId):Env w0 (W.alloc (.cells cs t)) ((W.heap.size,t,cs)::l):=
 ⟨h.1.alloc h.1.size _,fun x hx=>by
   rcases AR.1 hx with rfl|hx
   ·exact⟨h.1.size,DJ.new _ _ _⟩
   ·exact⟨(h.2 x hx).1,(h.2 x hx).2.alloc _⟩⟩
theorem Env.alloc(h:Env w0 W l)(o:Obj):Env w0 (W.alloc o) l:=⟨h.1.alloc h.1.size _,fun x hx=>⟨(h.2 x hx).1,(h.2 x hx).2.alloc _⟩⟩
theorem Env.below(h:Env w0 W l)(hb:Below W.heap.size W W'):Env w0 W' l:=⟨h.1.trans (hb.mono h.1.size),fun x hx=>⟨(h.2 x hx).1,(h.2 x hx).2.below hb (h.2 x hx).2.lt⟩⟩
theorem Env.drew(h:Env w0 W l):Env w0 W.drew l:=⟨h.1.drew,fun x hx=>h.2 x hx⟩
theorem Env.DC(h:Env w0 W l){g:Nat}{t:TypeId}{cs:Array Value}(hx:(g,t,cs)∈l):DJ W g t cs:=(h.2 _ hx).2
theorem Env.drop(h:Env w0 W l){l':List (Nat×TypeId×Array Value)}(hs:∀x∈l',x∈l):Env w0 W l':=⟨h.1,fun x hx=>h.2 x (hs x hx)⟩
theorem Env.tl{x:Nat×TypeId×Array Value}(h:Env w0 W (x::l)):Env w0 W l:=h.drop fun y hy=>Am _ hy
theorem Env.hd{g:Nat}{t:TypeId}{cs:Array Value}(h:Env w0 W ((g,t,cs)::l)):DJ W g t cs:=h.DC (Ay ..)
end
def lenOf:Value->Nat| .slice _ n _=>n|_=>0
theorem Cz{w:World}{base:Nat}{e:TypeId}{size n:Nat}{v:Value}{xs:List Value}(h:w.ownsRow base e size v n xs):∃A c,v=.slice A n c:=by
 rcases h.2 with⟨rfl,rfl⟩|⟨g,cap,cur,rfl,_⟩
 ·exact⟨_,_,rfl⟩
 ·exact⟨_,_,rfl⟩
theorem DX{w:World}{base base':Nat}{e:TypeId}{size n:Nat}{v:Value}{xs:List Value}(h:w.ownsRow base e size v n xs)(hb:base'<=base):w.ownsRow base' e size v n xs:=
 ⟨h.1,by
   rcases h.2 with h|⟨g,cap,cur,h1,h2,r⟩
   ·exact .inl h
   ·exact .inr ⟨g,cap,cur,h1,by omega,r⟩⟩
theorem Ef{w w':World}{base:Nat}{e:TypeId}{size n:Nat}{v:Value}{xs:List Value}(h:w.ownsRow base e size v n xs)(hb:Below w.heap.size w w'):w'.ownsRow base e size v n xs:=
 h.kept (row:=none) ⟨hb.os,hb.tape,hb.output,hb.size,fun k hk _=>hb.block k hk⟩ (by cases v.ownBlock<;>simp)
theorem DV{w:World}{base:Nat}{e:TypeId}{size n:Nat}{v:Value}{xs:List Value}(h:w.ownsRow base e size v n xs){a:Addr}(ha:a.block<base)(u:Value):(w.setCell a u).ownsRow base e size v n xs:=
 ownsRow_setCell_below h ha u
section
variable{P:Program}
theorem OP{ops:Array Oper}{rest:List Oper}{o:Oper}{a:Act}{Q:Exit->Act->World->Prop}(wr:World)(La:o.guard=none)(s x:Operand)(t:TypeId)
 (ho:o.op=.call {callee:=.builtin .append,args:=#[s,x],argTypes:=#[t,t]})
 (base:Nat) (e:TypeId) (i:TypeInfo) (z:Value) (bytes:Nat) (ht:P.underlying t=some (.slice e)) (hi:P.info? e=some i) (hz:i.zero=some z)
 (H7:i.size=1) (Y7:i.bytes=bytes) (Ts:z.cells.size=1)
 (v:Value) (n:Nat) (xs:List Value) (hs:a.eval s=v) (DL:wr.ownsRow base e 1 v n xs)
 (u:Value) (c:Nat) (hx:a.eval x=.slice (some ⟨wr.heap.size,0,none⟩) 1 c) (hu:u.oneCell'=true)
 (G9:(n+1)*bytes<=140737488355328) (Xv:n+1<=maxLen) (Gk:base<=wr.heap.size)
 (h:∀v' w',w'.ownsRow base e 1 v' (n+1) (xs++[u])->Below base wr w'->wpList P ops Q rest (a.put o.dst v') w'):wpList P ops Q (o::rest) a (wr.alloc (.cells #[u] e)):=by
 refine wpList_append_own _ La s x t ho base e i z 1 bytes ht hi hz H7 Y7 Ts (by decide) v n xs hs (DL.alloc _) ⟨wr.heap.size,0,none⟩ 1 c [u] hx rfl ?_ ?_ Xv G9 (by simp;omega) ?_
 ·intro j u' hj
  match j,hj with
  |0,hj=>
   simp at hj;subst hj
   exact(DJ.new wr e #[u]).cell 0
 ·intro u' hu';simp at hu';subst hu';exact hu
 ·intro v' w' h1 hg _
  refine h v' w' h1 ?_;have DG:=DL.lt;refine⟨hg.os,hg.tape,hg.output,?_,fun k hk=>?_⟩
  ·have:=hg.size;simp at this;omega
  ·rw[hg.block k (by simp;omega) (fun e=>by have:=DG k e.symm;omega)]
   exact Below.heap_alloc wr _ k (by omega)
end
section
variable{P:Program}(w:World)
theorem RJ(base:Nat)(t ty e:TypeId)(i:TypeInfo)(size:Nat)(ht:P.underlying t=some (.slice e))(hi:P.info? e=some i)
 (v:Value) (n:Nat) (xs:List Value) (DL:w.ownsRow base e size v n xs) (c:Nat):(Builtin.append_ #[t,t] ty #[v,.slice none 0 c]).run P w=.ok v w:=by
 rcases DL.2 with⟨rfl,rfl⟩|⟨g,cap,cur,rfl,_,_,Qj,_⟩
 ·simp[Builtin.append_,CE ht,sizeOf,typeInfo,hi,Builtin.lenOf,Builtin.firstCells]
 ·simp[Builtin.append_,CE ht,sizeOf,typeInfo,hi,Builtin.lenOf,Builtin.firstCells,Qj,storeCells]
theorem U8(base:Nat)(t ty e:TypeId)(i:TypeInfo)(z:Value)(size bytes:Nat)(ht:P.underlying t=some (.slice e))(hi:P.info? e=some i)(hz:i.zero=some z)
 (H7:i.size=size) (Y7:i.bytes=bytes) (Ts:z.cells.size=size) (ER:0<size)
 (v:Value) (n:Nat) (xs:List Value) (DL:w.ownsRow base e size v n xs)
 (B:Nat) (A:Option Addr) (m c:Nat) (news:List Value) (hr:Reads w B size A m news) (h1:∀u∈news,u.oneCell'=true)
 (Xv:n+m<=maxLen) (G9:(n+m)*bytes<=140737488355328) (Gk:base<=w.heap.size):
 ∃v' w',(Builtin.append_ #[t,t] ty #[v,.slice A m c]).run P w=.ok v' w'/\w'.ownsRow base e size v' (n+m) (xs++news)/\w.grownBy w' v.ownBlock/\
  (v'.ownBlock=v.ownBlock\/v'.ownBlock=some w.heap.size):=by
 rcases A with _|ad
 ·have hm:m=0:=by
   rcases Ac m with h0|h0
   ·exact h0
   ·obtain⟨ad,h,_⟩:=hr.2 h0
    cases h
  subst hm;have hn:news=[]:=Bn (by simpa using hr.1);subst hn;exact⟨v,w,RJ w base t ty e i size ht hi v n xs DL c,by simpa using DL,World.grownBy.refl w _,.inl rfl⟩
 ·have EC:∀j u,news[j]? =some u->w.cell? (ad.add j)=some u:=by
   intro j u hu;rcases Ac m with h0|h0
   ·subst h0
    have hn:news=[]:=Bn (by simpa using hr.1);subst hn;simp at hu
   ·obtain⟨ad',h,_,hc⟩:=hr.2 h0
    injection h with h
    subst h;exact hc j u hu
  obtain⟨v',w',J7,h2,h3,_,h5⟩:=run_append_own_at (P:=P) w base t ty e i z size bytes ht hi hz H7 Y7 Ts ER v n xs DL ad m c news hr.1 EC h1 Xv G9 Gk;exact⟨v',w',J7,h2,h3,h5⟩
theorem MO{o:Oper}{a:Act}{K:Act->World->Prop}{Q:Exit->Act->World->Prop}(s x:Operand)(t:TypeId)
 (ho:o.op=.call {callee:=.builtin .append,args:=#[s,x],argTypes:=#[t,t]})
 (base:Nat) (e:TypeId) (i:TypeInfo) (z:Value) (size bytes:Nat) (ht:P.underlying t=some (.slice e)) (hi:P.info? e=some i) (hz:i.zero=some z)
 (H7:i.size=size) (Y7:i.bytes=bytes) (Ts:z.cells.size=size) (ER:0<size)
 (v:Value) (n:Nat) (xs:List Value) (hs:a.eval s=v) (DL:w.ownsRow base e size v n xs)
 (B:Nat) (A:Option Addr) (m c:Nat) (news:List Value) (hx:a.eval x=.slice A m c) (hr:Reads w B size A m news) (h1:∀u∈news,u.oneCell'=true)
 (Xv:n+m<=maxLen) (G9:(n+m)*bytes<=140737488355328) (Gk:base<=w.heap.size)
 (h:∀v' w',w'.ownsRow base e size v' (n+m) (xs++news)->w.grownBy w' v.ownBlock->(v'.ownBlock=v.ownBlock\/v'.ownBlock=some w.heap.size)->K (a.put o.dst v') w'):o.wp P a w K Q:=by
 obtain⟨v',w',J7,h2,h3,h4⟩:=U8 (P:=P) w base t o.type e i z size bytes ht hi hz H7 Y7 Ts ER v n xs DL B A m c news hr h1 Xv G9 Gk;unfold Oper.wp execOp;simp only[ho,resolve,invoke,builtin,Sem.run_bind,Sem.run_pure,Result.andThen_ok,List.map_toArray,CN,List.map_nil,hs,hx,J7];exact h v' w' h2 h3 h4
theorem Dd{ops:Array Oper}{rest:List Oper}{o:Oper}{a:Act}{Q:Exit->Act->World->Prop}(La:o.guard=none)(s x:Operand)(t:TypeId)
 (ho:o.op=.call {callee:=.builtin .append,args:=#[s,x],argTypes:=#[t,t]})
 (base:Nat) (e:TypeId) (i:TypeInfo) (z:Value) (size bytes:Nat) (ht:P.underlying t=some (.slice e)) (hi:P.info? e=some i) (hz:i.zero=some z)
 (H7:i.size=size) (Y7:i.bytes=bytes) (Ts:z.cells.size=size) (ER:0<size)
 (v:Value) (n:Nat) (xs:List Value) (hs:a.eval s=v) (DL:w.ownsRow base e size v n xs)
 (B:Nat) (A:Option Addr) (m c:Nat) (news:List Value) (hx:a.eval x=.slice A m c) (hr:Reads w B size A m news) (h1:∀u∈news,u.oneCell'=true)
 (Xv:n+m<=maxLen) (G9:(n+m)*bytes<=140737488355328) (Gk:base<=w.heap.size)
 (h:∀v' w',w'.ownsRow base e size v' (n+m) (xs++news)->w.grownBy w' v.ownBlock->(v'.ownBlock=v.ownBlock\/v'.ownBlock=some w.heap.size)->wpList P ops Q rest (a.put o.dst v') w'):wpList P ops Q (o::rest) a w:=
 ASh La fun _ hK=>MO w s x t ho base e i z size bytes ht hi hz H7 Y7 Ts ER v n xs hs DL B A m c news hx hr h1 Xv G9 Gk fun v' w' h2 h3 h4=>hK _ _ (h v' w' h2 h3 h4)
theorem EU{ops:Array Oper}{rest:List Oper}{o:Oper}{a:Act}{Q:Exit->Act->World->Prop}(La:o.guard=none)(s x:Operand)(t:TypeId)
 (ho:o.op=.call {callee:=.builtin .append,args:=#[s,x],argTypes:=#[t,t]})
 (base:Nat) (e:TypeId) (i:TypeInfo) (z:Value) (size bytes:Nat) (ht:P.underlying t=some (.slice e)) (hi:P.info? e=some i) (hz:i.zero=some z)
 (H7:i.size=size) (Y7:i.bytes=bytes) (Ts:z.cells.size=size) (ER:0<size)
 (v:Value) (n:Nat) (xs:List Value) (hs:a.eval s=v) (DL:w.ownsRow base e size v n xs)
 (B:Nat) (A:Option Addr) (m c:Nat) (news:List Value) (hx:a.eval x=.slice A m c) (hr:Reads w B size A m news) (h1:∀u∈news,u.oneCell'=true)
 (Xv:n+m<=maxLen) (G9:(n+m)*bytes<=140737488355328) (Gk:base<=w.heap.size)
 (h:∀v' w',w'.ownsRow base e size v' (n+m) (xs++news)->Below base w w'->wpList P ops Q rest (a.put o.dst v') w'):wpList P ops Q (o::rest) a w:=by
 refine Dd w La s x t ho base e i z size bytes ht hi hz H7 Y7 Ts ER v n xs hs DL B A m c news hx hr h1 Xv G9 Gk fun v' w' h2 h3 h4=>h v' w' h2 ?_;have DG:=DL.lt;exact⟨h3.os,h3.tape,h3.output,h3.size,fun k hk=>h3.block k (by omega) (fun e=>by have:=DG k e.symm;omega)⟩
end
theorem Ec{w:World}{base:Nat}{e:TypeId}{size n c:Nat}{A:Option Addr}{xs:List Value}(h:w.ownsRow base e size (.slice A n c) n xs):n<=c/\c<=maxLen:=by
 rcases h.2 with⟨hv,h0⟩|⟨g,cap,cur,hv,_,_,Qj,hm,_⟩
 ·injection hv;subst_vars;exact⟨Cr _,by unfold maxLen;omega⟩
 ·injection hv;subst_vars;exact⟨Qj,hm⟩
def wi(x a b:Int):Bool:=decide (a<=x)&&decide (x<=b)
theorem DW{x a b:Int}:wi x a b=true↔a<=x/\x<=b:=by simp[wi]
theorem Fc{x a b:Int}:wi x a b=false↔x<a\/b<x:=by unfold wi;rw[AUG];simp
theorem I{p:Prop}(h:p):Go.RowKit.Hid p:=h
theorem AA{B:Nat}{w:World}:Go.RowKit.Below B w w:=Go.RowKit.Below.refl B w
theorem AB{n:Nat}:n<=n:=Cr n
def AI:=@Go.Proofs.YthiplgekjgffkaaGreatDoor.Env.start
def Ba:=@Go.Proofs.YthiplgekjgffkaaGreatDoor.below_drewN
