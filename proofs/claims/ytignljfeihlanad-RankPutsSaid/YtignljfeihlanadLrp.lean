/- The law RankPuts, walked. -/
import Derived.Test.YtignljfeihlanadRpB
import Derived.Test.YtignljfeihlanadRpC
import Derived.Test.YtignljfeihlanadRpP
import Derived.Test.YtignljfeihlanadSorted
namespace Go.Proofs.Ytignljfeihlanad
open Go.RowKit
set_option linter.unusedSimpArgs false
set_option linter.unusedVariables false

theorem wpList_appG {P : Program} {w : World} {ops : Array Oper} {rest : List Oper} {o : Oper} {a : Act} {Q : Exit → Act → World → Prop} (hw : Region.wanted o (yielded ops a.tmps) = true) (s x : Operand) (t : TypeId)
    (ho : o.op = .call { callee := .builtin .append, args := #[s, x], argTypes := #[t, t] })
    (base : Nat) (e : TypeId) (i : TypeInfo) (z : Value) (size bytes : Nat) (ht : P.underlying t = some (.slice e)) (hi : P.info? e = some i) (hz : i.zero = some z)
    (hsize : i.size = size) (hby : i.bytes = bytes) (hzs : z.cells.size = size) (hsz : 0 < size)
    (v : Value) (n : Nat) (xs : List Value) (hs : a.eval s = v) (hown : w.ownsRow base e size v n xs)
    (B : Nat) (A : Option Addr) (m c : Nat) (news : List Value) (hx : a.eval x = .slice A m c) (hr : Reads w B size A m news) (h1 : ∀ u ∈ news, u.oneCell' = true)
    (h63 : n + m ≤ maxLen) (hbytes : (n + m) * bytes ≤ 140737488355328) (hbase : base ≤ w.heap.size)
    (h : ∀ v' w', w'.ownsRow base e size v' (n + m) (xs ++ news) → Below base w w' → wpList P ops Q rest (a.put o.dst v') w') : wpList P ops Q (o :: rest) a w := by
  rw [wpList, if_pos hw]
  refine .inl (wp_append_any w s x t ho base e i z size bytes ht hi hz hsize hby hzs hsz v n xs hs hown B A m c news hx hr h1 h63 hbytes hbase fun v' w' h2 h3 h4 => h v' w' h2 ?_)
  have hlt := hown.lt
  exact ⟨h3.os, h3.tape, h3.output, h3.size, fun k hk => h3.block k (by omega) (fun e => by have := hlt k e.symm; omega)⟩
theorem Below.al' {w W : World} {o : Obj} (h : Below w.heap.size w W) : Below w.heap.size w (W.alloc o) := h.alloc h.size _
theorem reads_take {w : World} {B n : Nat} {A : Option Addr} {l : List Int} (h : Reads w B 1 A n (cellsI l)) (k : Nat) (hk : k ≤ n) : Reads w B 1 A k (cellsI (l.take k)) := by
  have hl : l.length = n := by have := h.1; simpa [cellsI] using this
  refine ⟨by simp [cellsI]; omega, fun h0 => ?_⟩
  obtain ⟨ad, h1, h2, h3⟩ := h.2 (by omega)
  refine ⟨ad, h1, h2, fun j u hu => h3 j u ?_⟩
  have hc : cellsI (l.take k) = (cellsI l).take k := by simp [cellsI]
  rw [hc, List.getElem?_take] at hu
  split at hu
  · exact hu
  · cases hu
theorem rp_con (b off k n c : Nat) (l : List Int) (hn : l.length = n) (h64 : n ≤ 64) (hk : k < n) (hc : n ≤ c) (wr : World) (B : Nat) (hB : B ≤ wr.heap.size) (hr : Reads wr B 1 (some ⟨b, off, none⟩) n (cellsI l)) (A2 : Option Addr) (hA2 : A2 = if c = k + 1 then some ⟨b, off, none⟩ else some ⟨b, off + (k + 1), none⟩) (n2 : Nat) (hn2 : n2 = n - (k + 1)) :
    ∀ W bs c1 c2, Below wr.heap.size wr W → Blk W bs 22 #[.slice (some ⟨b, off, none⟩) k c1, .slice A2 n2 c2] →
      Calls Try.prog 11 #[.slice (some ⟨bs, 0, none⟩) 2 2] W fun e' w'' => ∃ A9 c9, e' = .returned (.slice A9 (n - 1) c9) ∧ Reads w'' w''.heap.size 1 A9 (n - 1) (cellsI (l.take k ++ l.drop (k + 1))) ∧ Below wr.heap.size wr w'' := by
  subst hn2
  intro W bs c1 c2 hW hblk
  have hr' := hr.below hW hB
  have h1 := reads_take hr' k (by omega)
  have h2 := hr'.cut (k := k + 1) (cap := c) (by omega) (by omega)
  have e1 : (if c = k + 1 then some (⟨b, off, none⟩ : Addr) else (some (⟨b, off, none⟩ : Addr)).map (·.add ((k + 1) * 1))) = A2 := by
    rw [hA2]
    split
    · rfl
    · simp [Addr.add]
  have e2 : (cellsI l).drop ((k + 1) * 1) = cellsI (l.drop (k + 1)) := by simp [cellsI]
  rw [e1, e2] at h2
  refine (concat_two (some ⟨b, off, none⟩) A2 k (n - (k + 1)) c1 c2 B bs (l.take k) (l.drop (k + 1)) (by rw [List.length_take]; omega) (by rw [List.length_drop]; omega) (by omega) (by omega) W h1 h2 (Nat.le_trans hB hW.size) hblk).mono ?_
  rintro e w' ⟨A, c', rfl, h3, h4⟩
  rw [show k + (n - (k + 1)) = n - 1 by omega] at *
  exact ⟨A, c', rfl, h3, hW.trans (h4.mono hW.size)⟩
/-- what rank.Put and rank.Cut return: a list, and an error -/
def RpIs (X : List Int) (n : Nat) (e : Int) (w : World) (en : Ending) (w' : World) : Prop := ∃ A' c', en = .returned (.tuple #[.slice A' n c', .int .i64 e]) ∧ Reads w' w'.heap.size 1 A' n (cellsI X) ∧ Below w.heap.size w w'
abbrev RpC (f : FuncId) (args : Array Value) (X : List Int) (n : Nat) (e : Int) (w : World) : Prop := ∀ w', Below w.heap.size w w' → Calls Try.prog f args w' (RpIs X n e w')
theorem rp_nil {f : FuncId} {args : Array Value} {e : Int} {w : World} (h : ∀ w', Below w.heap.size w w' → Calls Try.prog f args w' fun e' w'' => e' = .returned (.tuple #[.slice none 0 0, .int .i64 e]) ∧ Below w'.heap.size w' w'') : RpC f args [] 0 e w :=
  fun w' hb => (h w' hb).mono fun e' w'' ⟨h1, h2⟩ => ⟨none, 0, h1, Reads.none_, h2⟩
theorem rp_new {f : FuncId} {args : Array Value} {X : List Int} {n : Nat} {w : World} (h : ∀ w', Below w.heap.size w w' → Calls Try.prog f args w' (PutIs X n w')) : RpC f args X n 0 w :=
  fun w' hb => (h w' hb).mono fun e' w'' ⟨A, c, h1, h2, h3⟩ => ⟨A, c, h1, h2, h3⟩
theorem rp_rlist (A : Option Addr) (c B : Nat) (l : List Int) (n : Nat) (hn : l.length = n) (e : Int) (h : listE l = e) (hm : n ≤ maxLen) (w : World) (hr : Reads w B 1 A n (cellsI l)) :
    Calls Try.prog 6 #[.slice A n c] w fun e' w' => e' = .returned (.int .i64 e) ∧ w = w' := by
  subst hn h; exact rlist_any A c B l hm w hr
theorem rp_three (W : World) (b : Nat) (hb : Blk W b 3 #[.int .i64 3]) : Calls Try.prog 4 #[.slice (some ⟨b, 0, none⟩) 1 1, .int .i64 2] W (PutIs [2, 3] 2 W) :=
  rput_ok (some ⟨b, 0, none⟩) 1 W.heap.size 1 [3] 2 rfl (by unfold maxLen; omega) W (reads_blk (T := [3]) hb rfl) (Nat.le_refl _) (by decide) (by simp [Asc]) (by decide) (by omega) 0 (by decide)

set_option maxHeartbeats 4000000 in
set_option maxRecDepth 100000 in
theorem rp_list (A : Option Addr) (c n : Nat) (l : List Int) (x : Int) (hn : l.length = n) (hm : n ≤ maxLen) (hc : n ≤ c) (w : World) (hr : Reads w w.heap.size 1 A n (cellsI l)) (e : Int) (he : listE l = e) (hz : e ≠ 0)
    (hput : RpC 4 #[.slice A n c, .int .i64 x] [] 0 e w) (hcut : RpC 5 #[.slice A n c, .int .i64 x] [] 0 e w) :
    Calls Try.prog 3 #[.slice A n c, .int .i64 x] w fun e' w' => e' = .returned (.bool true) ∧ Below w.heap.size w w' := by
  have HPUT := Lib.hid hput
  have HCUT := Lib.hid hcut
  have HN := Lib.hid hn
  have HE := Lib.hid he
  have HR := Lib.hid hr
  clear hput hcut hn he hr
  go_enter Try.func3, Try.ntmps3
  go_wp2_with fail
  refine (HPUT.out _ (Below.refl _ _)).mono ?_
  rintro e' w1 ⟨A1, c1, rfl, hx, hb1⟩
  have X1 := Lib.hid hx
  have B1 := Lib.hid hb1
  clear hx hb1
  go_wp2_with fail
  refine (HCUT.out _ B1.out).mono ?_
  rintro e' w2 ⟨A2, c2, rfl, hy, hb2⟩
  have Y2 := Lib.hid hy
  have B2 := Lib.hid (B1.out.trans (hb2.mono B1.out.size))
  have X2 := Lib.hid (X1.out.below hb2 (Nat.le_refl _))
  have S2 := Lib.hid hb2.size
  have R2 := Lib.hid (HR.out.below B2.out (Nat.le_refl _))
  clear hy hb2
  go_wp2_with fail
  refine (rp_rlist _ _ _ l n HN.out _ HE.out hm _ R2.out).mono ?_
  rintro e' w' ⟨rfl, rfl⟩
  go_wp2_with fail
  refine (rp_three _ _ (Blk.new w2 _ _)).mono ?_
  rintro e' w6 ⟨A6, c6, rfl, hz, hb6⟩
  have Z6 := Lib.hid hz
  have B6 := Lib.hid ((B2.out.alloc B2.out.size _).trans (hb6.mono (by have := B2.out.size; first | omega | (simp; done) | (simp; omega))))
  have L6 := Lib.hid (((Below.refl w2.heap.size w2).alloc (Below.refl w2.heap.size w2).size _).trans (hb6.mono (by have := (Below.refl w2.heap.size w2).size; first | omega | (simp; done) | (simp; omega))))
  clear hz hb6
  go_wp2_with fail
  refine (eqints_is _ _ _ _ (w6.heap.size + 1) 2 2 [2, 3] [2, 3] rfl rfl true (by decide) (by omega) (by omega) _ ((Z6.out.alloc (Nat.le_refl _) _).more (by omega)) ((reads_blk (T := [2, 3]) (Blk.new w6 3 _) rfl).more (by simp))).mono ?_
  rintro e' w7 ⟨rfl, hb7⟩
  have B7 := Lib.hid ((B6.out.alloc B6.out.size _).trans (hb7.mono (by have := B6.out.size; first | omega | (simp; done) | (simp; omega))))
  have L7 := Lib.hid ((L6.out.alloc L6.out.size _).trans (hb7.mono (by have := L6.out.size; first | omega | (simp; done) | (simp; omega))))
  clear hb7
  go_wp2
  all_goals first
    | (exfalso; omega)
    | (go_ret; exact ⟨rfl, B7.out⟩)
set_option maxHeartbeats 4000000 in
set_option maxRecDepth 100000 in
theorem rp_form (A : Option Addr) (c n : Nat) (l : List Int) (x : Int) (hn : l.length = n) (hm : n ≤ maxLen) (hc : n ≤ c) (w : World) (hr : Reads w w.heap.size 1 A n (cellsI l)) (he : listE l = 0) (hs : ¬ Asc l)
    (hput : RpC 4 #[.slice A n c, .int .i64 x] [] 0 3 w) (hcut : RpC 5 #[.slice A n c, .int .i64 x] [] 0 3 w) :
    Calls Try.prog 3 #[.slice A n c, .int .i64 x] w fun e' w' => e' = .returned (.bool true) ∧ Below w.heap.size w w' := by
  have h64 : n ≤ 64 := by rw [← hn]; exact (listE_zero he).1
  have HTL := Lib.hid (show (So.srt l).length = n by rw [(So.srt_is l).2.length_eq, hn])
  have HT := Lib.hid (show So.IsSort l (So.srt l) from So.srt_is l)
  have HEQ := Lib.hid (show decide (So.srt l = l) = false by rw [sorted_iff]; exact decide_eq_false hs)
  clear hs
  have HPUT := Lib.hid hput
  have HCUT := Lib.hid hcut
  have HN := Lib.hid hn
  have HE := Lib.hid he
  have HR := Lib.hid hr
  clear hput hcut hn he hr
  go_enter Try.func3, Try.ntmps3
  go_wp2_with fail
  refine (HPUT.out _ (Below.refl _ _)).mono ?_
  rintro e' w1 ⟨A1, c1, rfl, hx, hb1⟩
  have X1 := Lib.hid hx
  have B1 := Lib.hid hb1
  clear hx hb1
  go_wp2_with fail
  refine (HCUT.out _ B1.out).mono ?_
  rintro e' w2 ⟨A2, c2, rfl, hy, hb2⟩
  have Y2 := Lib.hid hy
  have B2 := Lib.hid (B1.out.trans (hb2.mono B1.out.size))
  have X2 := Lib.hid (X1.out.below hb2 (Nat.le_refl _))
  have S2 := Lib.hid hb2.size
  have R2 := Lib.hid (HR.out.below B2.out (Nat.le_refl _))
  clear hy hb2
  go_wp2_with fail
  refine (rp_rlist _ _ _ l n HN.out _ HE.out hm _ R2.out).mono ?_
  rintro e' w' ⟨rfl, rfl⟩
  go_wp2_with fail
  refine (rsorted_any _ _ _ _ _ HT.out HN.out (by omega) _ (R2.out.more B2.out.size)).mono ?_
  rintro e' w4 ⟨A4, rfl, hs4, hb4⟩
  have S4 := Lib.hid hs4
  have B4 := Lib.hid (B2.out.trans (hb4.mono B2.out.size))
  have L4 := Lib.hid hb4
  clear hs4 hb4
  go_wp2_with fail
  refine (eqints_is _ _ _ _ w4.heap.size _ _ _ _ HTL.out HN.out _ HEQ.out (by omega) (by omega) _ S4.out ((HR.out.below B4.out (Nat.le_refl _)).more B4.out.size)).mono ?_
  rintro e' w5 ⟨rfl, hb5⟩
  have B5 := Lib.hid (B4.out.trans (hb5.mono B4.out.size))
  have L5 := Lib.hid (L4.out.trans (hb5.mono L4.out.size))
  clear hb5
  go_wp2_with fail
  refine (rp_three _ _ (Blk.new w5 _ _)).mono ?_
  rintro e' w6 ⟨A6, c6, rfl, hz, hb6⟩
  have Z6 := Lib.hid hz
  have B6 := Lib.hid ((B5.out.alloc B5.out.size _).trans (hb6.mono (by have := B5.out.size; first | omega | (simp; done) | (simp; omega))))
  have L6 := Lib.hid ((L5.out.alloc L5.out.size _).trans (hb6.mono (by have := L5.out.size; first | omega | (simp; done) | (simp; omega))))
  clear hz hb6
  go_wp2_with fail
  refine (eqints_is _ _ _ _ (w6.heap.size + 1) 2 2 [2, 3] [2, 3] rfl rfl true (by decide) (by omega) (by omega) _ ((Z6.out.alloc (Nat.le_refl _) _).more (by omega)) ((reads_blk (T := [2, 3]) (Blk.new w6 3 _) rfl).more (by simp))).mono ?_
  rintro e' w7 ⟨rfl, hb7⟩
  have B7 := Lib.hid ((B6.out.alloc B6.out.size _).trans (hb7.mono (by have := B6.out.size; first | omega | (simp; done) | (simp; omega))))
  have L7 := Lib.hid ((L6.out.alloc L6.out.size _).trans (hb7.mono (by have := L6.out.size; first | omega | (simp; done) | (simp; omega))))
  clear hb7
  go_wp2
  all_goals first
    | (exfalso; omega)
    | (go_ret; exact ⟨rfl, B7.out⟩)
set_option maxHeartbeats 4000000 in
set_option maxRecDepth 100000 in
theorem rp_arg_none (A : Option Addr) (c n : Nat) (l : List Int) (x : Int) (hn : l.length = n) (hm : n ≤ maxLen) (hc : n ≤ c) (w : World) (hr : Reads w w.heap.size 1 A n (cellsI l)) (he : listE l = 0) (hs : Asc l) (i : Nat) (hi : l.countP (· < x) = i) (hv : wi x 0 16777216 = false) (hx : l.contains x = false) 
    (hput : RpC 4 #[.slice A n c, .int .i64 x] [] 0 1 w) (hcut : RpC 5 #[.slice A n c, .int .i64 x] [] 0 4 w) :
    Calls Try.prog 3 #[.slice A n c, .int .i64 x] w fun e' w' => e' = .returned (.bool true) ∧ Below w.heap.size w w' := by
  have h64 : n ≤ 64 := by rw [← hn]; exact (listE_zero he).1
  have HTL := Lib.hid (show l.length = n by exact hn)
  have HT := Lib.hid (show So.IsSort l l from ⟨hs, List.Perm.refl l⟩)
  have HV := Lib.hid hv
  have HNO := Lib.hid (fun k (hk : k < l.length) => none_at x k hx hk)
  clear hs hv hx hi
  have HPUT := Lib.hid hput
  have HCUT := Lib.hid hcut
  have HN := Lib.hid hn
  have HE := Lib.hid he
  have HR := Lib.hid hr
  clear hput hcut hn he hr
  go_enter Try.func3, Try.ntmps3
  go_wp2_with fail
  refine (HPUT.out _ (Below.refl _ _)).mono ?_
  rintro e' w1 ⟨A1, c1, rfl, hx, hb1⟩
  have X1 := Lib.hid hx
  have B1 := Lib.hid hb1
  clear hx hb1
  go_wp2_with fail
  refine (HCUT.out _ B1.out).mono ?_
  rintro e' w2 ⟨A2, c2, rfl, hy, hb2⟩
  have Y2 := Lib.hid hy
  have B2 := Lib.hid (B1.out.trans (hb2.mono B1.out.size))
  have X2 := Lib.hid (X1.out.below hb2 (Nat.le_refl _))
  have S2 := Lib.hid hb2.size
  have R2 := Lib.hid (HR.out.below B2.out (Nat.le_refl _))
  clear hy hb2
  go_wp2_with fail
  refine (rp_rlist _ _ _ l n HN.out _ HE.out hm _ R2.out).mono ?_
  rintro e' w' ⟨rfl, rfl⟩
  go_wp2_with fail
  refine (rsorted_any _ _ _ _ _ HT.out HN.out (by omega) _ (R2.out.more B2.out.size)).mono ?_
  rintro e' w4 ⟨A4, rfl, hs4, hb4⟩
  have S4 := Lib.hid hs4
  have B4 := Lib.hid (B2.out.trans (hb4.mono B2.out.size))
  have L4 := Lib.hid hb4
  clear hs4 hb4
  go_wp2_with fail
  refine (eqints_is _ _ _ _ w4.heap.size _ _ _ _ HTL.out HN.out true (decide_eq_true rfl) (by omega) (by omega) _ S4.out ((HR.out.below B4.out (Nat.le_refl _)).more B4.out.size)).mono ?_
  rintro e' w5 ⟨rfl, hb5⟩
  have B5 := Lib.hid (B4.out.trans (hb5.mono B4.out.size))
  have L5 := Lib.hid (L4.out.trans (hb5.mono L4.out.size))
  clear hb5
  go_wp2_with fail
  refine (rp_three _ _ (Blk.new w5 _ _)).mono ?_
  rintro e' w6 ⟨A6, c6, rfl, hz, hb6⟩
  have Z6 := Lib.hid hz
  have B6 := Lib.hid ((B5.out.alloc B5.out.size _).trans (hb6.mono (by have := B5.out.size; first | omega | (simp; done) | (simp; omega))))
  have L6 := Lib.hid ((L5.out.alloc L5.out.size _).trans (hb6.mono (by have := L5.out.size; first | omega | (simp; done) | (simp; omega))))
  clear hz hb6
  go_wp2_with fail
  refine (eqints_is _ _ _ _ (w6.heap.size + 1) 2 2 [2, 3] [2, 3] rfl rfl true (by decide) (by omega) (by omega) _ ((Z6.out.alloc (Nat.le_refl _) _).more (by omega)) ((reads_blk (T := [2, 3]) (Blk.new w6 3 _) rfl).more (by simp))).mono ?_
  rintro e' w7 ⟨rfl, hb7⟩
  have B7 := Lib.hid ((B6.out.alloc B6.out.size _).trans (hb7.mono (by have := B6.out.size; first | omega | (simp; done) | (simp; omega))))
  have L7 := Lib.hid ((L6.out.alloc L6.out.size _).trans (hb7.mono (by have := L6.out.size; first | omega | (simp; done) | (simp; omega))))
  clear hb7
  go_wp2_with fail
  refine (lrval_any _ _).mono ?_
  rintro e' w' ⟨rfl, rfl⟩
  rw [HV.out]
  go_wp2_with fail
  go_loopw [108] (fun kv wr => ∃ k : Nat, k ≤ n ∧ kv = .int .i64 (k : Int) ∧ wr = w7) (fun kv _ => n - (intOf kv).toNat)
  case atStart => exact ⟨0, by omega, rfl, rfl⟩
  case round =>
    obtain ⟨k, hk, rfl, rfl⟩ := hrel
    by_cases hlt : k < n
    · obtain ⟨b, off, rfl, hb, hcells⟩ := (HR.out.below B7.out (Nat.le_refl _)).addr (by omega)
      have hcell := hcells k _ (cellsI_at l k (by rw [HN.out]; omega))
      have hne := HNO.out k (by rw [HN.out]; omega)
      have HB := Lib.hid hb
      clear hcells hb
      generalize l.getD k 0 = y at *
      go_wp2
      exact ⟨⟨k + 1, by omega, by simp, trivial⟩, by simp [intOf]; omega⟩
    · obtain rfl : k = n := by omega
      go_wp2
      go_ret
      exact ⟨rfl, B7.out⟩

set_option maxHeartbeats 4000000 in
set_option maxRecDepth 100000 in
theorem rp_arg_some (A : Option Addr) (c n : Nat) (l : List Int) (x : Int) (hn : l.length = n) (hm : n ≤ maxLen) (hc : n ≤ c) (w : World) (hr : Reads w w.heap.size 1 A n (cellsI l)) (he : listE l = 0) (hs : Asc l) (i : Nat) (hi : l.countP (· < x) = i) (hv : wi x 0 16777216 = false) (hx : l.contains x = true) 
    (hput : RpC 4 #[.slice A n c, .int .i64 x] [] 0 1 w) (hcut : RpC 5 #[.slice A n c, .int .i64 x] (l.take i ++ l.drop (i + 1)) (n - 1) 0 w) :
    Calls Try.prog 3 #[.slice A n c, .int .i64 x] w fun e' w' => e' = .returned (.bool true) ∧ Below w.heap.size w w' := by
  have h64 : n ≤ 64 := by rw [← hn]; exact (listE_zero he).1
  have HTL := Lib.hid (show l.length = n by exact hn)
  have HT := Lib.hid (show So.IsSort l l from ⟨hs, List.Perm.refl l⟩)
  have HV := Lib.hid hv
  obtain ⟨hin, hat⟩ := found_at hs x i hi hx
  rw [hn] at hin
  have HAT := Lib.hid hat
  have HBE := Lib.hid (fun k (hk : k < i) => before_at hs x i k hi hk)
  have HCL := Lib.hid (show (l.take i ++ l.drop (i + 1)).length = n - 1 by rw [del_length l i (by omega), hn])
  clear hat
  clear hs hv hx hi
  have HPUT := Lib.hid hput
  have HCUT := Lib.hid hcut
  have HN := Lib.hid hn
  have HE := Lib.hid he
  have HR := Lib.hid hr
  clear hput hcut hn he hr
  go_enter Try.func3, Try.ntmps3
  go_wp2_with fail
  refine (HPUT.out _ (Below.refl _ _)).mono ?_
  rintro e' w1 ⟨A1, c1, rfl, hx, hb1⟩
  have X1 := Lib.hid hx
  have B1 := Lib.hid hb1
  clear hx hb1
  go_wp2_with fail
  refine (HCUT.out _ B1.out).mono ?_
  rintro e' w2 ⟨A2, c2, rfl, hy, hb2⟩
  have Y2 := Lib.hid hy
  have B2 := Lib.hid (B1.out.trans (hb2.mono B1.out.size))
  have X2 := Lib.hid (X1.out.below hb2 (Nat.le_refl _))
  have S2 := Lib.hid hb2.size
  have R2 := Lib.hid (HR.out.below B2.out (Nat.le_refl _))
  clear hy hb2
  go_wp2_with fail
  refine (rp_rlist _ _ _ l n HN.out _ HE.out hm _ R2.out).mono ?_
  rintro e' w' ⟨rfl, rfl⟩
  go_wp2_with fail
  refine (rsorted_any _ _ _ _ _ HT.out HN.out (by omega) _ (R2.out.more B2.out.size)).mono ?_
  rintro e' w4 ⟨A4, rfl, hs4, hb4⟩
  have S4 := Lib.hid hs4
  have B4 := Lib.hid (B2.out.trans (hb4.mono B2.out.size))
  have L4 := Lib.hid hb4
  clear hs4 hb4
  go_wp2_with fail
  refine (eqints_is _ _ _ _ w4.heap.size _ _ _ _ HTL.out HN.out true (decide_eq_true rfl) (by omega) (by omega) _ S4.out ((HR.out.below B4.out (Nat.le_refl _)).more B4.out.size)).mono ?_
  rintro e' w5 ⟨rfl, hb5⟩
  have B5 := Lib.hid (B4.out.trans (hb5.mono B4.out.size))
  have L5 := Lib.hid (L4.out.trans (hb5.mono L4.out.size))
  clear hb5
  go_wp2_with fail
  refine (rp_three _ _ (Blk.new w5 _ _)).mono ?_
  rintro e' w6 ⟨A6, c6, rfl, hz, hb6⟩
  have Z6 := Lib.hid hz
  have B6 := Lib.hid ((B5.out.alloc B5.out.size _).trans (hb6.mono (by have := B5.out.size; first | omega | (simp; done) | (simp; omega))))
  have L6 := Lib.hid ((L5.out.alloc L5.out.size _).trans (hb6.mono (by have := L5.out.size; first | omega | (simp; done) | (simp; omega))))
  clear hz hb6
  go_wp2_with fail
  refine (eqints_is _ _ _ _ (w6.heap.size + 1) 2 2 [2, 3] [2, 3] rfl rfl true (by decide) (by omega) (by omega) _ ((Z6.out.alloc (Nat.le_refl _) _).more (by omega)) ((reads_blk (T := [2, 3]) (Blk.new w6 3 _) rfl).more (by simp))).mono ?_
  rintro e' w7 ⟨rfl, hb7⟩
  have B7 := Lib.hid ((B6.out.alloc B6.out.size _).trans (hb7.mono (by have := B6.out.size; first | omega | (simp; done) | (simp; omega))))
  have L7 := Lib.hid ((L6.out.alloc L6.out.size _).trans (hb7.mono (by have := L6.out.size; first | omega | (simp; done) | (simp; omega))))
  clear hb7
  go_wp2_with fail
  refine (lrval_any _ _).mono ?_
  rintro e' w' ⟨rfl, rfl⟩
  rw [HV.out]
  go_wp2_with fail
  go_loopw [108] (fun kv wr => ∃ k : Nat, k ≤ i ∧ kv = .int .i64 (k : Int) ∧ wr = w7) (fun kv _ => n - (intOf kv).toNat)
  case atStart => exact ⟨0, by omega, rfl, rfl⟩
  case round =>
    obtain ⟨k, hk, rfl, rfl⟩ := hrel
    by_cases hlt : k < i
    · obtain ⟨b, off, rfl, hb, hcells⟩ := (HR.out.below B7.out (Nat.le_refl _)).addr (by omega)
      have hcell := hcells k _ (cellsI_at l k (by rw [HN.out]; omega))
      have hne := HBE.out k hlt
      have HB := Lib.hid hb
      clear hcells hb
      generalize l.getD k 0 = y at *
      go_wp2
      exact ⟨⟨k + 1, by omega, by simp, trivial⟩, by simp [intOf]; omega⟩
    · obtain rfl : k = i := by omega
      obtain ⟨b, off, rfl, hb, hcells⟩ := (HR.out.below B7.out (Nat.le_refl _)).addr (by omega)
      have hcell := hcells k _ (cellsI_at l k (by rw [HN.out]; omega))
      rw [HAT.out] at hcell
      have HB := Lib.hid hb
      clear hcells hb
      have RL := Lib.hid (HR.out.below B7.out (Nat.le_refl _))
      have HEL := Lib.hid (show ∀ W A9 c9, Below wr.heap.size wr W → Reads W W.heap.size 1 A9 (n - 1) (cellsI (l.take k ++ l.drop (k + 1))) → Calls Try.prog 7 #[.slice A2 (n - 1) c2, .slice A9 (n - 1) c9] W (fun e' w'' => e' = .returned (.bool true) ∧ Below wr.heap.size wr w'') from fun W A9 c9 hW hr9 =>
        (eqints_is _ _ _ _ W.heap.size _ _ _ _ HCL.out HCL.out true (decide_eq_true rfl) (by omega) (by omega) _ ((((Y2.out.below L7.out (Nat.le_refl _)).below hW L7.out.size).more (Nat.le_trans L7.out.size hW.size))) hr9).mono fun e' w'' ⟨h1, h2⟩ => ⟨h1, hW.trans (h2.mono hW.size)⟩)
      have hk0 : (0 : Int) ≤ (k : Int) := by omega
      have hkn : (k : Int) ≤ (n : Int) := by omega
      have hkc : (k : Int) ≤ (c : Int) := by omega
      have hk1 : (0 : Int) ≤ (k : Int) + 1 := by omega
      have hk1n : (k : Int) + 1 ≤ (n : Int) := by omega
      have hk1c : (k : Int) + 1 ≤ (c : Int) := by omega
      have hncz : (n : Int) ≤ (c : Int) := by omega
      have hwr : IntKind.i64.wrap ((k : Int) + 1) = (k : Int) + 1 := by rw [IntKind.wrap_i64]; omega
      have htn : ((k : Int) + 1).toNat = k + 1 := by omega
      by_cases hck : c = k + 1
      · have HCON := Lib.hid (rp_con b off k n c l HN.out h64 (by omega) hc wr w.heap.size B7.out.size RL.out (some ⟨b, off, none⟩) (by rw [if_pos hck]) 0 (by omega))
        subst hck
        have hA1 : (k : Int) ≤ ((k + 1 : Nat) : Int) := by omega
        have hA2 : (k : Int) ≤ (k : Int) + 1 := by omega
        have hA3 : (k : Int) + 1 ≤ ((k + 1 : Nat) : Int) := by omega
        have hA4 : (n : Int) ≤ ((k + 1 : Nat) : Int) := by omega
        have hA5 : (n : Int) ≤ (k : Int) + 1 := by omega
        have hA6 : k ≤ k + 1 := by omega
        go_upto_region 23 with fail
        go_region_held3 (fun w' => Below wr.heap.size wr w')
          (repeat (first | (with_reducible exact hb10) | (with_reducible exact hb9) | (with_reducible exact Below.refl _ _) | (with_reducible refine Below.al' ?_) | (with_reducible refine Below.drew ?_)))
          (first
            | (go_at_call 11; (with_reducible refine (HCON.out _ _ _ _ (by repeat (first | (with_reducible exact Below.refl _ _) | (with_reducible refine Below.al' ?_) | (with_reducible refine Below.drew ?_))) (Blk.new _ _ _).drew).mono ?_); rintro e' w20 ⟨A9, c9, rfl, hr9, hb9⟩)
            | (go_at_call 11; (with_reducible refine (HCON.out _ _ _ _ (by repeat (first | (with_reducible exact Below.refl _ _) | (with_reducible refine Below.al' ?_) | (with_reducible refine Below.drew ?_))) (Blk.new _ _ _)).mono ?_); rintro e' w20 ⟨A9, c9, rfl, hr9, hb9⟩)
            | (go_at_call 7; (with_reducible refine (HEL.out _ _ _ hb9 hr9).mono ?_); rintro e' w21 ⟨rfl, hb10⟩)
            | (go_at_call 11; trace_state; fail))
        rename_i hheld
        go_wp2
        go_ret
        exact ⟨rfl, B7.out.trans (hheld.mono B7.out.size)⟩
      · have HCON := Lib.hid (rp_con b off k n c l HN.out h64 (by omega) hc wr w.heap.size B7.out.size RL.out (some ⟨b, off + (k + 1), none⟩) (by rw [if_neg hck]) _ rfl)
        go_upto_region 23 with fail
        go_region_held3 (fun w' => Below wr.heap.size wr w')
          (repeat (first | (with_reducible exact hb10) | (with_reducible exact hb9) | (with_reducible exact Below.refl _ _) | (with_reducible refine Below.al' ?_) | (with_reducible refine Below.drew ?_)))
          (first
            | (go_at_call 11; (with_reducible refine (HCON.out _ _ _ _ (by repeat (first | (with_reducible exact Below.refl _ _) | (with_reducible refine Below.al' ?_) | (with_reducible refine Below.drew ?_))) (Blk.new _ _ _).drew).mono ?_); rintro e' w20 ⟨A9, c9, rfl, hr9, hb9⟩)
            | (go_at_call 11; (with_reducible refine (HCON.out _ _ _ _ (by repeat (first | (with_reducible exact Below.refl _ _) | (with_reducible refine Below.al' ?_) | (with_reducible refine Below.drew ?_))) (Blk.new _ _ _)).mono ?_); rintro e' w20 ⟨A9, c9, rfl, hr9, hb9⟩)
            | (go_at_call 7; (with_reducible refine (HEL.out _ _ _ hb9 hr9).mono ?_); rintro e' w21 ⟨rfl, hb10⟩)
            | (go_at_call 11; trace_state; fail))
        rename_i hheld
        go_wp2
        go_ret
        exact ⟨rfl, B7.out.trans (hheld.mono B7.out.size)⟩

set_option maxHeartbeats 4000000 in
set_option maxRecDepth 100000 in
theorem rp_full_none (A : Option Addr) (c n : Nat) (l : List Int) (x : Int) (hn : l.length = n) (hm : n ≤ maxLen) (hc : n ≤ c) (w : World) (hr : Reads w w.heap.size 1 A n (cellsI l)) (he : listE l = 0) (hs : Asc l) (i : Nat) (hi : l.countP (· < x) = i) (hv : wi x 0 16777216 = true) (h : n = 64) (hx : l.contains x = false) 
    (hput : RpC 4 #[.slice A n c, .int .i64 x] [] 0 2 w) (hcut : RpC 5 #[.slice A n c, .int .i64 x] [] 0 4 w) :
    Calls Try.prog 3 #[.slice A n c, .int .i64 x] w fun e' w' => e' = .returned (.bool true) ∧ Below w.heap.size w w' := by
  have h64 : n ≤ 64 := by rw [← hn]; exact (listE_zero he).1
  have HTL := Lib.hid (show l.length = n by exact hn)
  have HT := Lib.hid (show So.IsSort l l from ⟨hs, List.Perm.refl l⟩)
  have HV := Lib.hid hv
  have hq : ((n : Int) == 64) = true := by rw [h]; rfl
  clear h
  have HNO := Lib.hid (fun k (hk : k < l.length) => none_at x k hx hk)
  clear hs hv hx hi
  have HPUT := Lib.hid hput
  have HCUT := Lib.hid hcut
  have HN := Lib.hid hn
  have HE := Lib.hid he
  have HR := Lib.hid hr
  clear hput hcut hn he hr
  go_enter Try.func3, Try.ntmps3
  go_wp2_with fail
  refine (HPUT.out _ (Below.refl _ _)).mono ?_
  rintro e' w1 ⟨A1, c1, rfl, hx, hb1⟩
  have X1 := Lib.hid hx
  have B1 := Lib.hid hb1
  clear hx hb1
  go_wp2_with fail
  refine (HCUT.out _ B1.out).mono ?_
  rintro e' w2 ⟨A2, c2, rfl, hy, hb2⟩
  have Y2 := Lib.hid hy
  have B2 := Lib.hid (B1.out.trans (hb2.mono B1.out.size))
  have X2 := Lib.hid (X1.out.below hb2 (Nat.le_refl _))
  have S2 := Lib.hid hb2.size
  have R2 := Lib.hid (HR.out.below B2.out (Nat.le_refl _))
  clear hy hb2
  go_wp2_with fail
  refine (rp_rlist _ _ _ l n HN.out _ HE.out hm _ R2.out).mono ?_
  rintro e' w' ⟨rfl, rfl⟩
  go_wp2_with fail
  refine (rsorted_any _ _ _ _ _ HT.out HN.out (by omega) _ (R2.out.more B2.out.size)).mono ?_
  rintro e' w4 ⟨A4, rfl, hs4, hb4⟩
  have S4 := Lib.hid hs4
  have B4 := Lib.hid (B2.out.trans (hb4.mono B2.out.size))
  have L4 := Lib.hid hb4
  clear hs4 hb4
  go_wp2_with fail
  refine (eqints_is _ _ _ _ w4.heap.size _ _ _ _ HTL.out HN.out true (decide_eq_true rfl) (by omega) (by omega) _ S4.out ((HR.out.below B4.out (Nat.le_refl _)).more B4.out.size)).mono ?_
  rintro e' w5 ⟨rfl, hb5⟩
  have B5 := Lib.hid (B4.out.trans (hb5.mono B4.out.size))
  have L5 := Lib.hid (L4.out.trans (hb5.mono L4.out.size))
  clear hb5
  go_wp2_with fail
  refine (rp_three _ _ (Blk.new w5 _ _)).mono ?_
  rintro e' w6 ⟨A6, c6, rfl, hz, hb6⟩
  have Z6 := Lib.hid hz
  have B6 := Lib.hid ((B5.out.alloc B5.out.size _).trans (hb6.mono (by have := B5.out.size; first | omega | (simp; done) | (simp; omega))))
  have L6 := Lib.hid ((L5.out.alloc L5.out.size _).trans (hb6.mono (by have := L5.out.size; first | omega | (simp; done) | (simp; omega))))
  clear hz hb6
  go_wp2_with fail
  refine (eqints_is _ _ _ _ (w6.heap.size + 1) 2 2 [2, 3] [2, 3] rfl rfl true (by decide) (by omega) (by omega) _ ((Z6.out.alloc (Nat.le_refl _) _).more (by omega)) ((reads_blk (T := [2, 3]) (Blk.new w6 3 _) rfl).more (by simp))).mono ?_
  rintro e' w7 ⟨rfl, hb7⟩
  have B7 := Lib.hid ((B6.out.alloc B6.out.size _).trans (hb7.mono (by have := B6.out.size; first | omega | (simp; done) | (simp; omega))))
  have L7 := Lib.hid ((L6.out.alloc L6.out.size _).trans (hb7.mono (by have := L6.out.size; first | omega | (simp; done) | (simp; omega))))
  clear hb7
  go_wp2_with fail
  refine (lrval_any _ _).mono ?_
  rintro e' w' ⟨rfl, rfl⟩
  rw [HV.out]
  go_wp2_with fail
  go_loopw [108] (fun kv wr => ∃ k : Nat, k ≤ n ∧ kv = .int .i64 (k : Int) ∧ wr = w7) (fun kv _ => n - (intOf kv).toNat)
  case atStart => exact ⟨0, by omega, rfl, rfl⟩
  case round =>
    obtain ⟨k, hk, rfl, rfl⟩ := hrel
    by_cases hlt : k < n
    · obtain ⟨b, off, rfl, hb, hcells⟩ := (HR.out.below B7.out (Nat.le_refl _)).addr (by omega)
      have hcell := hcells k _ (cellsI_at l k (by rw [HN.out]; omega))
      have hne := HNO.out k (by rw [HN.out]; omega)
      have HB := Lib.hid hb
      clear hcells hb
      generalize l.getD k 0 = y at *
      go_wp2
      exact ⟨⟨k + 1, by omega, by simp, trivial⟩, by simp [intOf]; omega⟩
    · obtain rfl : k = n := by omega
      go_wp2
      go_ret
      exact ⟨rfl, B7.out⟩

set_option maxHeartbeats 4000000 in
set_option maxRecDepth 100000 in
theorem rp_full_some (A : Option Addr) (c n : Nat) (l : List Int) (x : Int) (hn : l.length = n) (hm : n ≤ maxLen) (hc : n ≤ c) (w : World) (hr : Reads w w.heap.size 1 A n (cellsI l)) (he : listE l = 0) (hs : Asc l) (i : Nat) (hi : l.countP (· < x) = i) (hv : wi x 0 16777216 = true) (h : n = 64) (hx : l.contains x = true) 
    (hput : RpC 4 #[.slice A n c, .int .i64 x] [] 0 2 w) (hcut : RpC 5 #[.slice A n c, .int .i64 x] (l.take i ++ l.drop (i + 1)) (n - 1) 0 w) :
    Calls Try.prog 3 #[.slice A n c, .int .i64 x] w fun e' w' => e' = .returned (.bool true) ∧ Below w.heap.size w w' := by
  have h64 : n ≤ 64 := by rw [← hn]; exact (listE_zero he).1
  have HTL := Lib.hid (show l.length = n by exact hn)
  have HT := Lib.hid (show So.IsSort l l from ⟨hs, List.Perm.refl l⟩)
  have HV := Lib.hid hv
  have hq : ((n : Int) == 64) = true := by rw [h]; rfl
  clear h
  obtain ⟨hin, hat⟩ := found_at hs x i hi hx
  rw [hn] at hin
  have HAT := Lib.hid hat
  have HBE := Lib.hid (fun k (hk : k < i) => before_at hs x i k hi hk)
  have HCL := Lib.hid (show (l.take i ++ l.drop (i + 1)).length = n - 1 by rw [del_length l i (by omega), hn])
  clear hat
  clear hs hv hx hi
  have HPUT := Lib.hid hput
  have HCUT := Lib.hid hcut
  have HN := Lib.hid hn
  have HE := Lib.hid he
  have HR := Lib.hid hr
  clear hput hcut hn he hr
  go_enter Try.func3, Try.ntmps3
  go_wp2_with fail
  refine (HPUT.out _ (Below.refl _ _)).mono ?_
  rintro e' w1 ⟨A1, c1, rfl, hx, hb1⟩
  have X1 := Lib.hid hx
  have B1 := Lib.hid hb1
  clear hx hb1
  go_wp2_with fail
  refine (HCUT.out _ B1.out).mono ?_
  rintro e' w2 ⟨A2, c2, rfl, hy, hb2⟩
  have Y2 := Lib.hid hy
  have B2 := Lib.hid (B1.out.trans (hb2.mono B1.out.size))
  have X2 := Lib.hid (X1.out.below hb2 (Nat.le_refl _))
  have S2 := Lib.hid hb2.size
  have R2 := Lib.hid (HR.out.below B2.out (Nat.le_refl _))
  clear hy hb2
  go_wp2_with fail
  refine (rp_rlist _ _ _ l n HN.out _ HE.out hm _ R2.out).mono ?_
  rintro e' w' ⟨rfl, rfl⟩
  go_wp2_with fail
  refine (rsorted_any _ _ _ _ _ HT.out HN.out (by omega) _ (R2.out.more B2.out.size)).mono ?_
  rintro e' w4 ⟨A4, rfl, hs4, hb4⟩
  have S4 := Lib.hid hs4
  have B4 := Lib.hid (B2.out.trans (hb4.mono B2.out.size))
  have L4 := Lib.hid hb4
  clear hs4 hb4
  go_wp2_with fail
  refine (eqints_is _ _ _ _ w4.heap.size _ _ _ _ HTL.out HN.out true (decide_eq_true rfl) (by omega) (by omega) _ S4.out ((HR.out.below B4.out (Nat.le_refl _)).more B4.out.size)).mono ?_
  rintro e' w5 ⟨rfl, hb5⟩
  have B5 := Lib.hid (B4.out.trans (hb5.mono B4.out.size))
  have L5 := Lib.hid (L4.out.trans (hb5.mono L4.out.size))
  clear hb5
  go_wp2_with fail
  refine (rp_three _ _ (Blk.new w5 _ _)).mono ?_
  rintro e' w6 ⟨A6, c6, rfl, hz, hb6⟩
  have Z6 := Lib.hid hz
  have B6 := Lib.hid ((B5.out.alloc B5.out.size _).trans (hb6.mono (by have := B5.out.size; first | omega | (simp; done) | (simp; omega))))
  have L6 := Lib.hid ((L5.out.alloc L5.out.size _).trans (hb6.mono (by have := L5.out.size; first | omega | (simp; done) | (simp; omega))))
  clear hz hb6
  go_wp2_with fail
  refine (eqints_is _ _ _ _ (w6.heap.size + 1) 2 2 [2, 3] [2, 3] rfl rfl true (by decide) (by omega) (by omega) _ ((Z6.out.alloc (Nat.le_refl _) _).more (by omega)) ((reads_blk (T := [2, 3]) (Blk.new w6 3 _) rfl).more (by simp))).mono ?_
  rintro e' w7 ⟨rfl, hb7⟩
  have B7 := Lib.hid ((B6.out.alloc B6.out.size _).trans (hb7.mono (by have := B6.out.size; first | omega | (simp; done) | (simp; omega))))
  have L7 := Lib.hid ((L6.out.alloc L6.out.size _).trans (hb7.mono (by have := L6.out.size; first | omega | (simp; done) | (simp; omega))))
  clear hb7
  go_wp2_with fail
  refine (lrval_any _ _).mono ?_
  rintro e' w' ⟨rfl, rfl⟩
  rw [HV.out]
  go_wp2_with fail
  go_loopw [108] (fun kv wr => ∃ k : Nat, k ≤ i ∧ kv = .int .i64 (k : Int) ∧ wr = w7) (fun kv _ => n - (intOf kv).toNat)
  case atStart => exact ⟨0, by omega, rfl, rfl⟩
  case round =>
    obtain ⟨k, hk, rfl, rfl⟩ := hrel
    by_cases hlt : k < i
    · obtain ⟨b, off, rfl, hb, hcells⟩ := (HR.out.below B7.out (Nat.le_refl _)).addr (by omega)
      have hcell := hcells k _ (cellsI_at l k (by rw [HN.out]; omega))
      have hne := HBE.out k hlt
      have HB := Lib.hid hb
      clear hcells hb
      generalize l.getD k 0 = y at *
      go_wp2
      exact ⟨⟨k + 1, by omega, by simp, trivial⟩, by simp [intOf]; omega⟩
    · obtain rfl : k = i := by omega
      obtain ⟨b, off, rfl, hb, hcells⟩ := (HR.out.below B7.out (Nat.le_refl _)).addr (by omega)
      have hcell := hcells k _ (cellsI_at l k (by rw [HN.out]; omega))
      rw [HAT.out] at hcell
      have HB := Lib.hid hb
      clear hcells hb
      have RL := Lib.hid (HR.out.below B7.out (Nat.le_refl _))
      have HEL := Lib.hid (show ∀ W A9 c9, Below wr.heap.size wr W → Reads W W.heap.size 1 A9 (n - 1) (cellsI (l.take k ++ l.drop (k + 1))) → Calls Try.prog 7 #[.slice A2 (n - 1) c2, .slice A9 (n - 1) c9] W (fun e' w'' => e' = .returned (.bool true) ∧ Below wr.heap.size wr w'') from fun W A9 c9 hW hr9 =>
        (eqints_is _ _ _ _ W.heap.size _ _ _ _ HCL.out HCL.out true (decide_eq_true rfl) (by omega) (by omega) _ ((((Y2.out.below L7.out (Nat.le_refl _)).below hW L7.out.size).more (Nat.le_trans L7.out.size hW.size))) hr9).mono fun e' w'' ⟨h1, h2⟩ => ⟨h1, hW.trans (h2.mono hW.size)⟩)
      have hk0 : (0 : Int) ≤ (k : Int) := by omega
      have hkn : (k : Int) ≤ (n : Int) := by omega
      have hkc : (k : Int) ≤ (c : Int) := by omega
      have hk1 : (0 : Int) ≤ (k : Int) + 1 := by omega
      have hk1n : (k : Int) + 1 ≤ (n : Int) := by omega
      have hk1c : (k : Int) + 1 ≤ (c : Int) := by omega
      have hncz : (n : Int) ≤ (c : Int) := by omega
      have hwr : IntKind.i64.wrap ((k : Int) + 1) = (k : Int) + 1 := by rw [IntKind.wrap_i64]; omega
      have htn : ((k : Int) + 1).toNat = k + 1 := by omega
      by_cases hck : c = k + 1
      · have HCON := Lib.hid (rp_con b off k n c l HN.out h64 (by omega) hc wr w.heap.size B7.out.size RL.out (some ⟨b, off, none⟩) (by rw [if_pos hck]) 0 (by omega))
        subst hck
        have hA1 : (k : Int) ≤ ((k + 1 : Nat) : Int) := by omega
        have hA2 : (k : Int) ≤ (k : Int) + 1 := by omega
        have hA3 : (k : Int) + 1 ≤ ((k + 1 : Nat) : Int) := by omega
        have hA4 : (n : Int) ≤ ((k + 1 : Nat) : Int) := by omega
        have hA5 : (n : Int) ≤ (k : Int) + 1 := by omega
        have hA6 : k ≤ k + 1 := by omega
        go_upto_region 23 with fail
        go_region_held3 (fun w' => Below wr.heap.size wr w')
          (repeat (first | (with_reducible exact hb10) | (with_reducible exact hb9) | (with_reducible exact Below.refl _ _) | (with_reducible refine Below.al' ?_) | (with_reducible refine Below.drew ?_)))
          (first
            | (go_at_call 11; (with_reducible refine (HCON.out _ _ _ _ (by repeat (first | (with_reducible exact Below.refl _ _) | (with_reducible refine Below.al' ?_) | (with_reducible refine Below.drew ?_))) (Blk.new _ _ _).drew).mono ?_); rintro e' w20 ⟨A9, c9, rfl, hr9, hb9⟩)
            | (go_at_call 11; (with_reducible refine (HCON.out _ _ _ _ (by repeat (first | (with_reducible exact Below.refl _ _) | (with_reducible refine Below.al' ?_) | (with_reducible refine Below.drew ?_))) (Blk.new _ _ _)).mono ?_); rintro e' w20 ⟨A9, c9, rfl, hr9, hb9⟩)
            | (go_at_call 7; (with_reducible refine (HEL.out _ _ _ hb9 hr9).mono ?_); rintro e' w21 ⟨rfl, hb10⟩)
            | (go_at_call 11; trace_state; fail))
        rename_i hheld
        go_wp2
        go_ret
        exact ⟨rfl, B7.out.trans (hheld.mono B7.out.size)⟩
      · have HCON := Lib.hid (rp_con b off k n c l HN.out h64 (by omega) hc wr w.heap.size B7.out.size RL.out (some ⟨b, off + (k + 1), none⟩) (by rw [if_neg hck]) _ rfl)
        go_upto_region 23 with fail
        go_region_held3 (fun w' => Below wr.heap.size wr w')
          (repeat (first | (with_reducible exact hb10) | (with_reducible exact hb9) | (with_reducible exact Below.refl _ _) | (with_reducible refine Below.al' ?_) | (with_reducible refine Below.drew ?_)))
          (first
            | (go_at_call 11; (with_reducible refine (HCON.out _ _ _ _ (by repeat (first | (with_reducible exact Below.refl _ _) | (with_reducible refine Below.al' ?_) | (with_reducible refine Below.drew ?_))) (Blk.new _ _ _).drew).mono ?_); rintro e' w20 ⟨A9, c9, rfl, hr9, hb9⟩)
            | (go_at_call 11; (with_reducible refine (HCON.out _ _ _ _ (by repeat (first | (with_reducible exact Below.refl _ _) | (with_reducible refine Below.al' ?_) | (with_reducible refine Below.drew ?_))) (Blk.new _ _ _)).mono ?_); rintro e' w20 ⟨A9, c9, rfl, hr9, hb9⟩)
            | (go_at_call 7; (with_reducible refine (HEL.out _ _ _ hb9 hr9).mono ?_); rintro e' w21 ⟨rfl, hb10⟩)
            | (go_at_call 11; trace_state; fail))
        rename_i hheld
        go_wp2
        go_ret
        exact ⟨rfl, B7.out.trans (hheld.mono B7.out.size)⟩

set_option maxHeartbeats 4000000 in
set_option maxRecDepth 100000 in
theorem rp_ok_none (A : Option Addr) (c n : Nat) (l : List Int) (x : Int) (hn : l.length = n) (hm : n ≤ maxLen) (hc : n ≤ c) (w : World) (hr : Reads w w.heap.size 1 A n (cellsI l)) (he : listE l = 0) (hs : Asc l) (i : Nat) (hi : l.countP (· < x) = i) (hv : wi x 0 16777216 = true) (h : n < 64) (hx : l.contains x = false) 
    (hput : RpC 4 #[.slice A n c, .int .i64 x] (l.take i ++ x :: l.drop i) (n + 1) 0 w) (hcut : RpC 5 #[.slice A n c, .int .i64 x] [] 0 4 w) :
    Calls Try.prog 3 #[.slice A n c, .int .i64 x] w fun e' w' => e' = .returned (.bool true) ∧ Below w.heap.size w w' := by
  have h64 : n ≤ 64 := by rw [← hn]; exact (listE_zero he).1
  have HTL := Lib.hid (show l.length = n by exact hn)
  have HT := Lib.hid (show So.IsSort l l from ⟨hs, List.Perm.refl l⟩)
  have HV := Lib.hid hv
  have HIS := Lib.hid (ins_sort hs x i hi)
  have HIL := Lib.hid (show (l.take i ++ x :: l.drop i).length = n + 1 by rw [ins_length l i x (by rw [← hi]; exact List.countP_le_length), hn])
  have HLX := Lib.hid (show (l ++ [x]).length = n + 1 by simp [hn])
  have hq : ((n : Int) == 64) = false := by simp; omega
  have HNO := Lib.hid (fun k (hk : k < l.length) => none_at x k hx hk)
  clear hs hv hx hi
  have HPUT := Lib.hid hput
  have HCUT := Lib.hid hcut
  have HN := Lib.hid hn
  have HE := Lib.hid he
  have HR := Lib.hid hr
  clear hput hcut hn he hr
  go_enter Try.func3, Try.ntmps3
  go_wp2_with fail
  refine (HPUT.out _ (Below.refl _ _)).mono ?_
  rintro e' w1 ⟨A1, c1, rfl, hx, hb1⟩
  have X1 := Lib.hid hx
  have B1 := Lib.hid hb1
  clear hx hb1
  go_wp2_with fail
  refine (HCUT.out _ B1.out).mono ?_
  rintro e' w2 ⟨A2, c2, rfl, hy, hb2⟩
  have Y2 := Lib.hid hy
  have B2 := Lib.hid (B1.out.trans (hb2.mono B1.out.size))
  have X2 := Lib.hid (X1.out.below hb2 (Nat.le_refl _))
  have S2 := Lib.hid hb2.size
  have R2 := Lib.hid (HR.out.below B2.out (Nat.le_refl _))
  clear hy hb2
  go_wp2_with fail
  refine (rp_rlist _ _ _ l n HN.out _ HE.out hm _ R2.out).mono ?_
  rintro e' w' ⟨rfl, rfl⟩
  go_wp2_with fail
  refine (rsorted_any _ _ _ _ _ HT.out HN.out (by omega) _ (R2.out.more B2.out.size)).mono ?_
  rintro e' w4 ⟨A4, rfl, hs4, hb4⟩
  have S4 := Lib.hid hs4
  have B4 := Lib.hid (B2.out.trans (hb4.mono B2.out.size))
  have L4 := Lib.hid hb4
  clear hs4 hb4
  go_wp2_with fail
  refine (eqints_is _ _ _ _ w4.heap.size _ _ _ _ HTL.out HN.out true (decide_eq_true rfl) (by omega) (by omega) _ S4.out ((HR.out.below B4.out (Nat.le_refl _)).more B4.out.size)).mono ?_
  rintro e' w5 ⟨rfl, hb5⟩
  have B5 := Lib.hid (B4.out.trans (hb5.mono B4.out.size))
  have L5 := Lib.hid (L4.out.trans (hb5.mono L4.out.size))
  clear hb5
  go_wp2_with fail
  refine (rp_three _ _ (Blk.new w5 _ _)).mono ?_
  rintro e' w6 ⟨A6, c6, rfl, hz, hb6⟩
  have Z6 := Lib.hid hz
  have B6 := Lib.hid ((B5.out.alloc B5.out.size _).trans (hb6.mono (by have := B5.out.size; first | omega | (simp; done) | (simp; omega))))
  have L6 := Lib.hid ((L5.out.alloc L5.out.size _).trans (hb6.mono (by have := L5.out.size; first | omega | (simp; done) | (simp; omega))))
  clear hz hb6
  go_wp2_with fail
  refine (eqints_is _ _ _ _ (w6.heap.size + 1) 2 2 [2, 3] [2, 3] rfl rfl true (by decide) (by omega) (by omega) _ ((Z6.out.alloc (Nat.le_refl _) _).more (by omega)) ((reads_blk (T := [2, 3]) (Blk.new w6 3 _) rfl).more (by simp))).mono ?_
  rintro e' w7 ⟨rfl, hb7⟩
  have B7 := Lib.hid ((B6.out.alloc B6.out.size _).trans (hb7.mono (by have := B6.out.size; first | omega | (simp; done) | (simp; omega))))
  have L7 := Lib.hid ((L6.out.alloc L6.out.size _).trans (hb7.mono (by have := L6.out.size; first | omega | (simp; done) | (simp; omega))))
  clear hb7
  go_wp2_with fail
  refine (lrval_any _ _).mono ?_
  rintro e' w' ⟨rfl, rfl⟩
  rw [HV.out]
  go_wp2_with fail
  refine (clone_n _ _ _ _ _ HN.out (by omega) _ (HR.out.below B7.out (Nat.le_refl _)) B7.out.size).mono ?_
  rintro e' w8 ⟨A8, c8, rfl, ho, hb8⟩
  have HO := Lib.hid ho
  have B8 := Lib.hid (B7.out.trans (hb8.mono B7.out.size))
  have L8 := Lib.hid (L7.out.trans (hb8.mono L7.out.size))
  have LW := Lib.hid hb8
  clear ho hb8
  obtain ⟨i0, hi, hz0, hz1, hz2⟩ := info_parts int_info
  go_wp2_with (at_builtin; refine wpList_appG rfl _ _ 22 rfl w7.heap.size 3 i0 (.int .i64 0) 1 8 Try.underlying22 hi hz0 hz1 hz2 rfl (by decide) _ _ _ rfl (ownsRow_below HO.out ((Below.refl w8.heap.size w8).alloc (Nat.le_refl _) _)) _ _ _ _ _ rfl (reads_blk (T := [x]) (Blk.new w8 _ _) rfl) (oneCell_ints [x]) ?c1 ?c2 ?c3 ?_)
  case c1 => unfold maxLen; omega
  case c2 => omega
  case c3 => have := LW.out.size; first | omega | (simp; done) | (simp; omega)
  intro v9 w9 ho9 hb9
  obtain ⟨A9, c9, rfl⟩ := ownsRow_len ho9
  have R9 := Lib.hid (show Reads w9 w9.heap.size 1 A9 (n + 1) (cellsI (l ++ [x])) by have := Reads.of_own ho9; simpa [cellsI] using this)
  have B9 := Lib.hid ((B8.out.alloc B8.out.size _).trans (hb9.mono B7.out.size))
  have L9 := Lib.hid ((L8.out.alloc L8.out.size _).trans (hb9.mono L7.out.size))
  clear ho9 hb9
  go_wp2_with fail
  refine (rsorted_any _ _ _ _ _ HIS.out HLX.out (by omega) _ R9.out).mono ?_
  rintro e' w10 ⟨A10, rfl, hs10, hb10⟩
  have S10 := Lib.hid hs10
  have B10 := Lib.hid (B9.out.trans (hb10.mono B9.out.size))
  have L10 := Lib.hid (L9.out.trans (hb10.mono L9.out.size))
  clear hs10 hb10
  go_wp2_with fail
  refine (eqints_is _ _ _ _ w10.heap.size _ _ _ _ HIL.out HIL.out true (decide_eq_true rfl) (by omega) (by omega) _ ((X2.out.below L10.out S2.out).more (Nat.le_trans S2.out L10.out.size)) S10.out).mono ?_
  rintro e' w11 ⟨rfl, hb11⟩
  have B11 := Lib.hid (B10.out.trans (hb11.mono B10.out.size))
  have L11 := Lib.hid (L10.out.trans (hb11.mono L10.out.size))
  clear hb11
  go_wp2_with fail
  go_loopw [108] (fun kv wr => ∃ k : Nat, k ≤ n ∧ kv = .int .i64 (k : Int) ∧ wr = w11) (fun kv _ => n - (intOf kv).toNat)
  case atStart => exact ⟨0, by omega, rfl, rfl⟩
  case round =>
    obtain ⟨k, hk, rfl, rfl⟩ := hrel
    by_cases hlt : k < n
    · obtain ⟨b, off, rfl, hb, hcells⟩ := (HR.out.below B11.out (Nat.le_refl _)).addr (by omega)
      have hcell := hcells k _ (cellsI_at l k (by rw [HN.out]; omega))
      have hne := HNO.out k (by rw [HN.out]; omega)
      have HB := Lib.hid hb
      clear hcells hb
      generalize l.getD k 0 = y at *
      go_wp2
      exact ⟨⟨k + 1, by omega, by simp, trivial⟩, by simp [intOf]; omega⟩
    · obtain rfl : k = n := by omega
      go_wp2
      go_ret
      exact ⟨rfl, B11.out⟩

set_option maxHeartbeats 4000000 in
set_option maxRecDepth 100000 in
theorem rp_ok_some (A : Option Addr) (c n : Nat) (l : List Int) (x : Int) (hn : l.length = n) (hm : n ≤ maxLen) (hc : n ≤ c) (w : World) (hr : Reads w w.heap.size 1 A n (cellsI l)) (he : listE l = 0) (hs : Asc l) (i : Nat) (hi : l.countP (· < x) = i) (hv : wi x 0 16777216 = true) (h : n < 64) (hx : l.contains x = true) 
    (hput : RpC 4 #[.slice A n c, .int .i64 x] (l.take i ++ x :: l.drop i) (n + 1) 0 w) (hcut : RpC 5 #[.slice A n c, .int .i64 x] (l.take i ++ l.drop (i + 1)) (n - 1) 0 w) :
    Calls Try.prog 3 #[.slice A n c, .int .i64 x] w fun e' w' => e' = .returned (.bool true) ∧ Below w.heap.size w w' := by
  have h64 : n ≤ 64 := by rw [← hn]; exact (listE_zero he).1
  have HTL := Lib.hid (show l.length = n by exact hn)
  have HT := Lib.hid (show So.IsSort l l from ⟨hs, List.Perm.refl l⟩)
  have HV := Lib.hid hv
  have HIS := Lib.hid (ins_sort hs x i hi)
  have HIL := Lib.hid (show (l.take i ++ x :: l.drop i).length = n + 1 by rw [ins_length l i x (by rw [← hi]; exact List.countP_le_length), hn])
  have HLX := Lib.hid (show (l ++ [x]).length = n + 1 by simp [hn])
  have hq : ((n : Int) == 64) = false := by simp; omega
  obtain ⟨hin, hat⟩ := found_at hs x i hi hx
  rw [hn] at hin
  have HAT := Lib.hid hat
  have HBE := Lib.hid (fun k (hk : k < i) => before_at hs x i k hi hk)
  have HCL := Lib.hid (show (l.take i ++ l.drop (i + 1)).length = n - 1 by rw [del_length l i (by omega), hn])
  clear hat
  clear hs hv hx hi
  have HPUT := Lib.hid hput
  have HCUT := Lib.hid hcut
  have HN := Lib.hid hn
  have HE := Lib.hid he
  have HR := Lib.hid hr
  clear hput hcut hn he hr
  go_enter Try.func3, Try.ntmps3
  go_wp2_with fail
  refine (HPUT.out _ (Below.refl _ _)).mono ?_
  rintro e' w1 ⟨A1, c1, rfl, hx, hb1⟩
  have X1 := Lib.hid hx
  have B1 := Lib.hid hb1
  clear hx hb1
  go_wp2_with fail
  refine (HCUT.out _ B1.out).mono ?_
  rintro e' w2 ⟨A2, c2, rfl, hy, hb2⟩
  have Y2 := Lib.hid hy
  have B2 := Lib.hid (B1.out.trans (hb2.mono B1.out.size))
  have X2 := Lib.hid (X1.out.below hb2 (Nat.le_refl _))
  have S2 := Lib.hid hb2.size
  have R2 := Lib.hid (HR.out.below B2.out (Nat.le_refl _))
  clear hy hb2
  go_wp2_with fail
  refine (rp_rlist _ _ _ l n HN.out _ HE.out hm _ R2.out).mono ?_
  rintro e' w' ⟨rfl, rfl⟩
  go_wp2_with fail
  refine (rsorted_any _ _ _ _ _ HT.out HN.out (by omega) _ (R2.out.more B2.out.size)).mono ?_
  rintro e' w4 ⟨A4, rfl, hs4, hb4⟩
  have S4 := Lib.hid hs4
  have B4 := Lib.hid (B2.out.trans (hb4.mono B2.out.size))
  have L4 := Lib.hid hb4
  clear hs4 hb4
  go_wp2_with fail
  refine (eqints_is _ _ _ _ w4.heap.size _ _ _ _ HTL.out HN.out true (decide_eq_true rfl) (by omega) (by omega) _ S4.out ((HR.out.below B4.out (Nat.le_refl _)).more B4.out.size)).mono ?_
  rintro e' w5 ⟨rfl, hb5⟩
  have B5 := Lib.hid (B4.out.trans (hb5.mono B4.out.size))
  have L5 := Lib.hid (L4.out.trans (hb5.mono L4.out.size))
  clear hb5
  go_wp2_with fail
  refine (rp_three _ _ (Blk.new w5 _ _)).mono ?_
  rintro e' w6 ⟨A6, c6, rfl, hz, hb6⟩
  have Z6 := Lib.hid hz
  have B6 := Lib.hid ((B5.out.alloc B5.out.size _).trans (hb6.mono (by have := B5.out.size; first | omega | (simp; done) | (simp; omega))))
  have L6 := Lib.hid ((L5.out.alloc L5.out.size _).trans (hb6.mono (by have := L5.out.size; first | omega | (simp; done) | (simp; omega))))
  clear hz hb6
  go_wp2_with fail
  refine (eqints_is _ _ _ _ (w6.heap.size + 1) 2 2 [2, 3] [2, 3] rfl rfl true (by decide) (by omega) (by omega) _ ((Z6.out.alloc (Nat.le_refl _) _).more (by omega)) ((reads_blk (T := [2, 3]) (Blk.new w6 3 _) rfl).more (by simp))).mono ?_
  rintro e' w7 ⟨rfl, hb7⟩
  have B7 := Lib.hid ((B6.out.alloc B6.out.size _).trans (hb7.mono (by have := B6.out.size; first | omega | (simp; done) | (simp; omega))))
  have L7 := Lib.hid ((L6.out.alloc L6.out.size _).trans (hb7.mono (by have := L6.out.size; first | omega | (simp; done) | (simp; omega))))
  clear hb7
  go_wp2_with fail
  refine (lrval_any _ _).mono ?_
  rintro e' w' ⟨rfl, rfl⟩
  rw [HV.out]
  go_wp2_with fail
  refine (clone_n _ _ _ _ _ HN.out (by omega) _ (HR.out.below B7.out (Nat.le_refl _)) B7.out.size).mono ?_
  rintro e' w8 ⟨A8, c8, rfl, ho, hb8⟩
  have HO := Lib.hid ho
  have B8 := Lib.hid (B7.out.trans (hb8.mono B7.out.size))
  have L8 := Lib.hid (L7.out.trans (hb8.mono L7.out.size))
  have LW := Lib.hid hb8
  clear ho hb8
  obtain ⟨i0, hi, hz0, hz1, hz2⟩ := info_parts int_info
  go_wp2_with (at_builtin; refine wpList_appG rfl _ _ 22 rfl w7.heap.size 3 i0 (.int .i64 0) 1 8 Try.underlying22 hi hz0 hz1 hz2 rfl (by decide) _ _ _ rfl (ownsRow_below HO.out ((Below.refl w8.heap.size w8).alloc (Nat.le_refl _) _)) _ _ _ _ _ rfl (reads_blk (T := [x]) (Blk.new w8 _ _) rfl) (oneCell_ints [x]) ?c1 ?c2 ?c3 ?_)
  case c1 => unfold maxLen; omega
  case c2 => omega
  case c3 => have := LW.out.size; first | omega | (simp; done) | (simp; omega)
  intro v9 w9 ho9 hb9
  obtain ⟨A9, c9, rfl⟩ := ownsRow_len ho9
  have R9 := Lib.hid (show Reads w9 w9.heap.size 1 A9 (n + 1) (cellsI (l ++ [x])) by have := Reads.of_own ho9; simpa [cellsI] using this)
  have B9 := Lib.hid ((B8.out.alloc B8.out.size _).trans (hb9.mono B7.out.size))
  have L9 := Lib.hid ((L8.out.alloc L8.out.size _).trans (hb9.mono L7.out.size))
  clear ho9 hb9
  go_wp2_with fail
  refine (rsorted_any _ _ _ _ _ HIS.out HLX.out (by omega) _ R9.out).mono ?_
  rintro e' w10 ⟨A10, rfl, hs10, hb10⟩
  have S10 := Lib.hid hs10
  have B10 := Lib.hid (B9.out.trans (hb10.mono B9.out.size))
  have L10 := Lib.hid (L9.out.trans (hb10.mono L9.out.size))
  clear hs10 hb10
  go_wp2_with fail
  refine (eqints_is _ _ _ _ w10.heap.size _ _ _ _ HIL.out HIL.out true (decide_eq_true rfl) (by omega) (by omega) _ ((X2.out.below L10.out S2.out).more (Nat.le_trans S2.out L10.out.size)) S10.out).mono ?_
  rintro e' w11 ⟨rfl, hb11⟩
  have B11 := Lib.hid (B10.out.trans (hb11.mono B10.out.size))
  have L11 := Lib.hid (L10.out.trans (hb11.mono L10.out.size))
  clear hb11
  go_wp2_with fail
  go_loopw [108] (fun kv wr => ∃ k : Nat, k ≤ i ∧ kv = .int .i64 (k : Int) ∧ wr = w11) (fun kv _ => n - (intOf kv).toNat)
  case atStart => exact ⟨0, by omega, rfl, rfl⟩
  case round =>
    obtain ⟨k, hk, rfl, rfl⟩ := hrel
    by_cases hlt : k < i
    · obtain ⟨b, off, rfl, hb, hcells⟩ := (HR.out.below B11.out (Nat.le_refl _)).addr (by omega)
      have hcell := hcells k _ (cellsI_at l k (by rw [HN.out]; omega))
      have hne := HBE.out k hlt
      have HB := Lib.hid hb
      clear hcells hb
      generalize l.getD k 0 = y at *
      go_wp2
      exact ⟨⟨k + 1, by omega, by simp, trivial⟩, by simp [intOf]; omega⟩
    · obtain rfl : k = i := by omega
      obtain ⟨b, off, rfl, hb, hcells⟩ := (HR.out.below B11.out (Nat.le_refl _)).addr (by omega)
      have hcell := hcells k _ (cellsI_at l k (by rw [HN.out]; omega))
      rw [HAT.out] at hcell
      have HB := Lib.hid hb
      clear hcells hb
      have RL := Lib.hid (HR.out.below B11.out (Nat.le_refl _))
      have HEL := Lib.hid (show ∀ W A9 c9, Below wr.heap.size wr W → Reads W W.heap.size 1 A9 (n - 1) (cellsI (l.take k ++ l.drop (k + 1))) → Calls Try.prog 7 #[.slice A2 (n - 1) c2, .slice A9 (n - 1) c9] W (fun e' w'' => e' = .returned (.bool true) ∧ Below wr.heap.size wr w'') from fun W A9 c9 hW hr9 =>
        (eqints_is _ _ _ _ W.heap.size _ _ _ _ HCL.out HCL.out true (decide_eq_true rfl) (by omega) (by omega) _ ((((Y2.out.below L11.out (Nat.le_refl _)).below hW L11.out.size).more (Nat.le_trans L11.out.size hW.size))) hr9).mono fun e' w'' ⟨h1, h2⟩ => ⟨h1, hW.trans (h2.mono hW.size)⟩)
      have hk0 : (0 : Int) ≤ (k : Int) := by omega
      have hkn : (k : Int) ≤ (n : Int) := by omega
      have hkc : (k : Int) ≤ (c : Int) := by omega
      have hk1 : (0 : Int) ≤ (k : Int) + 1 := by omega
      have hk1n : (k : Int) + 1 ≤ (n : Int) := by omega
      have hk1c : (k : Int) + 1 ≤ (c : Int) := by omega
      have hncz : (n : Int) ≤ (c : Int) := by omega
      have hwr : IntKind.i64.wrap ((k : Int) + 1) = (k : Int) + 1 := by rw [IntKind.wrap_i64]; omega
      have htn : ((k : Int) + 1).toNat = k + 1 := by omega
      by_cases hck : c = k + 1
      · have HCON := Lib.hid (rp_con b off k n c l HN.out h64 (by omega) hc wr w.heap.size B11.out.size RL.out (some ⟨b, off, none⟩) (by rw [if_pos hck]) 0 (by omega))
        subst hck
        have hA1 : (k : Int) ≤ ((k + 1 : Nat) : Int) := by omega
        have hA2 : (k : Int) ≤ (k : Int) + 1 := by omega
        have hA3 : (k : Int) + 1 ≤ ((k + 1 : Nat) : Int) := by omega
        have hA4 : (n : Int) ≤ ((k + 1 : Nat) : Int) := by omega
        have hA5 : (n : Int) ≤ (k : Int) + 1 := by omega
        have hA6 : k ≤ k + 1 := by omega
        go_upto_region 23 with fail
        go_region_held3 (fun w' => Below wr.heap.size wr w')
          (repeat (first | (with_reducible exact hb10) | (with_reducible exact hb9) | (with_reducible exact Below.refl _ _) | (with_reducible refine Below.al' ?_) | (with_reducible refine Below.drew ?_)))
          (first
            | (go_at_call 11; (with_reducible refine (HCON.out _ _ _ _ (by repeat (first | (with_reducible exact Below.refl _ _) | (with_reducible refine Below.al' ?_) | (with_reducible refine Below.drew ?_))) (Blk.new _ _ _).drew).mono ?_); rintro e' w20 ⟨A9, c9, rfl, hr9, hb9⟩)
            | (go_at_call 11; (with_reducible refine (HCON.out _ _ _ _ (by repeat (first | (with_reducible exact Below.refl _ _) | (with_reducible refine Below.al' ?_) | (with_reducible refine Below.drew ?_))) (Blk.new _ _ _)).mono ?_); rintro e' w20 ⟨A9, c9, rfl, hr9, hb9⟩)
            | (go_at_call 7; (with_reducible refine (HEL.out _ _ _ hb9 hr9).mono ?_); rintro e' w21 ⟨rfl, hb10⟩)
            | (go_at_call 11; trace_state; fail))
        rename_i hheld
        go_wp2
        go_ret
        exact ⟨rfl, B11.out.trans (hheld.mono B11.out.size)⟩
      · have HCON := Lib.hid (rp_con b off k n c l HN.out h64 (by omega) hc wr w.heap.size B11.out.size RL.out (some ⟨b, off + (k + 1), none⟩) (by rw [if_neg hck]) _ rfl)
        go_upto_region 23 with fail
        go_region_held3 (fun w' => Below wr.heap.size wr w')
          (repeat (first | (with_reducible exact hb10) | (with_reducible exact hb9) | (with_reducible exact Below.refl _ _) | (with_reducible refine Below.al' ?_) | (with_reducible refine Below.drew ?_)))
          (first
            | (go_at_call 11; (with_reducible refine (HCON.out _ _ _ _ (by repeat (first | (with_reducible exact Below.refl _ _) | (with_reducible refine Below.al' ?_) | (with_reducible refine Below.drew ?_))) (Blk.new _ _ _).drew).mono ?_); rintro e' w20 ⟨A9, c9, rfl, hr9, hb9⟩)
            | (go_at_call 11; (with_reducible refine (HCON.out _ _ _ _ (by repeat (first | (with_reducible exact Below.refl _ _) | (with_reducible refine Below.al' ?_) | (with_reducible refine Below.drew ?_))) (Blk.new _ _ _)).mono ?_); rintro e' w20 ⟨A9, c9, rfl, hr9, hb9⟩)
            | (go_at_call 7; (with_reducible refine (HEL.out _ _ _ hb9 hr9).mono ?_); rintro e' w21 ⟨rfl, hb10⟩)
            | (go_at_call 11; trace_state; fail))
        rename_i hheld
        go_wp2
        go_ret
        exact ⟨rfl, B11.out.trans (hheld.mono B11.out.size)⟩


theorem rankPuts_walk (A : Option Addr) (c : Nat) (l : List Int) (x : Int) (w : World) (hr : Reads w w.heap.size 1 A l.length (cellsI l)) (hb : l.length ≤ c ∧ c ≤ maxLen)
    (_s : ∀ x ∈ l, -9223372036854775808 ≤ x ∧ x ≤ 9223372036854775807) (_l : -9223372036854775808 ≤ x) (_h : x ≤ 9223372036854775807) :
    Calls Try.prog 3 #[.slice A l.length c, .int .i64 x] w fun e' w' => e' = .returned (.bool true) ∧ Below w.heap.size w w' := by
  have hm : l.length ≤ maxLen := by omega
  have hc := hb.1
  have HR : ∀ w', Below w.heap.size w w' → Reads w' w.heap.size 1 A l.length (cellsI l) := fun w' h => hr.below h (Nat.le_refl _)
  by_cases he : listE l = 0
  · have h64 := (listE_zero he).1
    by_cases hs : Asc l
    · have hcn : l.contains x = false → RpC 5 #[.slice A l.length c, .int .i64 x] [] 0 4 w := fun hx => rp_nil fun w' h => rcut_none A c _ _ l x rfl hm w' (HR w' h) h.size he hs hx
      have hcs : l.contains x = true → RpC 5 #[.slice A l.length c, .int .i64 x] (l.take (l.countP (· < x)) ++ l.drop (l.countP (· < x) + 1)) (l.length - 1) 0 w := fun hx => rp_new fun w' h => rcut_ok A c _ _ l x rfl hm w' (HR w' h) h.size he hs hx _ rfl (found_at hs x _ rfl hx).1
      have hxc : l.contains x = true ∨ l.contains x = false := by cases l.contains x <;> simp
      by_cases hv : wi x 0 16777216 = true
      · by_cases h : l.length < 64
        · have hp : RpC 4 #[.slice A l.length c, .int .i64 x] (l.take (l.countP (· < x)) ++ x :: l.drop (l.countP (· < x))) (l.length + 1) 0 w := rp_new fun w' hb' => rput_ok A c _ _ l x rfl hm w' (HR w' hb') hb'.size he hs hv h _ rfl
          rcases hxc with hx | hx
          · exact rp_ok_some A c _ l x rfl hm hc w hr he hs _ rfl hv h hx hp (hcs hx)
          · exact rp_ok_none A c _ l x rfl hm hc w hr he hs _ rfl hv h hx hp (hcn hx)
        · have hf : l.length = 64 := by omega
          have hp : RpC 4 #[.slice A l.length c, .int .i64 x] [] 0 2 w := rp_nil fun w' hb' => rput_full A c _ _ l x rfl hm w' (HR w' hb') hb'.size he hs hv hf
          rcases hxc with hx | hx
          · exact rp_full_some A c _ l x rfl hm hc w hr he hs _ rfl hv hf hx hp (hcs hx)
          · exact rp_full_none A c _ l x rfl hm hc w hr he hs _ rfl hv hf hx hp (hcn hx)
      · have hv : wi x 0 16777216 = false := by simpa using hv
        have hp : RpC 4 #[.slice A l.length c, .int .i64 x] [] 0 1 w := rp_nil fun w' hb' => rput_arg A c _ _ l x rfl hm w' (HR w' hb') hb'.size he hs hv
        rcases hxc with hx | hx
        · exact rp_arg_some A c _ l x rfl hm hc w hr he hs _ rfl hv hx hp (hcs hx)
        · exact rp_arg_none A c _ l x rfl hm hc w hr he hs _ rfl hv hx hp (hcn hx)
    · exact rp_form A c _ l x rfl hm hc w hr he hs (rp_nil fun w' h => rput_form A c _ _ l x rfl hm w' (HR w' h) h.size he hs) (rp_nil fun w' h => rcut_form A c _ _ l x rfl hm w' (HR w' h) h.size he hs)
  · exact rp_list A c _ l x rfl hm hc w hr _ rfl he (rp_nil fun w' h => rput_list A c _ _ l x rfl hm w' (HR w' h) _ rfl he) (rp_nil fun w' h => rcut_list A c _ _ l x rfl hm w' (HR w' h) _ rfl he)
end Go.Proofs.Ytignljfeihlanad
