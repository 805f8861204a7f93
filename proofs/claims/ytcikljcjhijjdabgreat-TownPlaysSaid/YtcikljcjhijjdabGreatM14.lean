/- The reference's Id of the word "a"; slices.ContainsFunc over bytes. -/
import Derived.Test.YtcikljcjhijjdabGreatM06
import Derived.Lib.ConvBytes
import Derived.Lib.AtoiErrMem
namespace Go.Proofs.YtcikljcjhijjdabGreat
open Go.RowKit Go.Lib
set_option linter.unusedSimpArgs false
set_option linter.unusedVariables false

/-- not a letter -/
def offB (c : Int) : Bool := !wi c 97 122

set_option maxRecDepth 100000 in
theorem id1_any (c : Int) (w : World) :
    Calls Tryz.prog 78 #[.int .u8 c] w fun e w' => e = .returned (.bool (offB c)) ∧ w = w' := by
  unfold offB wi
  go_enter Tryz.func78, Tryz.ntmps78
  go_wp2
  all_goals (go_ret; refine ⟨ret_bool ?_, rfl⟩; rw [Bool.eq_iff_iff]; simp [*] <;> omega)

def SomeIdx (b : Bool) (w : World) (e : Ending) (w' : World) : Prop := ∃ k : Int, (decide (0 ≤ k) = b) ∧ e = .returned (.int .i64 k) ∧ w = w'

theorem any_take {p : Int → Bool} {xs : List Int} {j : Nat} (h : (xs.take j).any p = true) : xs.any p = true := by
  rw [List.any_eq_true] at h ⊢
  obtain ⟨x, hx, hp⟩ := h
  exact ⟨x, List.mem_of_mem_take hx, hp⟩

set_option maxHeartbeats 400000 in
set_option maxRecDepth 100000 in
/-- slices.IndexFunc over bytes, at the test of Id -/
theorem idx_bytes (b c : Nat) (xs : List Int) (hm : xs.length ≤ 100000) (w : World) (hc : ∀ i, i < xs.length → w.cell? ⟨b, i, none⟩ = some (.int .u8 (xs.getD i 0))) :
    Calls Tryz.prog 111 #[.slice (some ⟨b, 0, none⟩) xs.length c, .func (.func 78) #[] #[]] w (SomeIdx (xs.any offB) w) := by
  generalize hn : xs.length = n at *
  have HN := Lib.hid hn
  have HC := Lib.hid hc
  clear hn hc
  go_enter Tryz.func111, Tryz.ntmps111
  go_wp2
  go_loop [5, 8] (fun _ i => ∃ k : Nat, k ≤ n ∧ i = .int .i64 k ∧ (xs.take k).any offB = false) (fun _ i => n - (intOf i).toNat)
  case atStart => exact ⟨0, Nat.zero_le _, rfl, rfl⟩
  case round =>
    obtain ⟨k, hk, rfl, hrel⟩ := hrel
    have HR := Lib.hid hrel
    clear hrel
    by_cases hlt : k < n
    · have hcell := HC.out k hlt
      have hx1 : (xs.take (k + 1)).any offB = offB (xs.getD k 0) := by
        have hk : k < xs.length := by have := HN.out; omega
        rw [List.take_add_one, List.any_append, HR.out, List.getElem?_eq_getElem hk]
        simp [List.getD_eq_getElem?_getD, hk]
      have HX := Lib.hid hx1
      clear hx1
      generalize hx : xs.getD k 0 = x at *
      clear hx
      go_wp2_with (go_at_call 78; refine (id1_any _ _).mono ?_; rintro e w' ⟨rfl, rfl⟩)
      go_ways
      · rename_i ho
        go_ret
        exact ⟨k, by rw [any_take (HX.out.trans ho)]; simp, rfl, rfl⟩
      · rename_i ho
        refine ⟨⟨k + 1, hlt, by simp, HX.out.trans ho⟩, ?_⟩
        simp [intOf]
        omega
    · go_wp2
      go_ret
      refine ⟨-1, ?_, rfl, rfl⟩
      have : xs.take k = xs := by rw [List.take_of_length_le]; have := HN.out; omega
      have h2 := HR.out
      rw [this] at h2
      rw [h2]
      rfl

set_option maxRecDepth 100000 in
theorem contains_bytes (b c : Nat) (xs : List Int) (hm : xs.length ≤ 100000) (w : World) (hc : ∀ i, i < xs.length → w.cell? ⟨b, i, none⟩ = some (.int .u8 (xs.getD i 0))) :
    Calls Tryz.prog 77 #[.slice (some ⟨b, 0, none⟩) xs.length c, .func (.func 78) #[] #[]] w fun e w' => e = .returned (.bool (xs.any offB)) ∧ w = w' := by
  have HC := Lib.hid hc
  clear hc
  go_enter Tryz.func77, Tryz.ntmps77
  go_wp2_with fail
  refine (idx_bytes _ _ _ hm _ HC.out).mono ?_
  rintro e w' ⟨k, hk, rfl, rfl⟩
  go_wp2
  go_ret
  first | exact ⟨rfl, rfl⟩ | exact ⟨ret_bool hk, rfl⟩

def bytesOf (s : ByteArray) : List Int := s.data.toList.map fun x => (x.toNat : Int)
def idB (s : ByteArray) : Bool := wi s.size 1 8 && !(bytesOf s).any offB

theorem contains_conv (s : ByteArray) (hs : s.size ≤ 8) (b c : Nat) (w : World) (h : ∀ j, j < s.size → w.cell? ⟨b, j, none⟩ = some (.int .u8 (s.data.toList.getD j 0).toNat)) :
    Calls Tryz.prog 77 #[.slice (some ⟨b, 0, none⟩) s.size c, .func (.func 78) #[] #[]] w fun e w' => e = .returned (.bool ((bytesOf s).any offB)) ∧ w = w' := by
  have hl : (bytesOf s).length = s.size := by unfold bytesOf; rw [List.length_map, Array.length_toList]; rfl
  have h := contains_bytes b c (bytesOf s) (by omega) w fun i hi => by
    rw [h _ (by omega)]
    have : i < s.data.toList.length := by rw [Array.length_toList]; exact (by omega : i < s.size)
    simp [bytesOf, List.getD, List.getElem?_eq_getElem this]
  rw [hl] at h
  exact h

set_option maxRecDepth 100000 in
set_option maxHeartbeats 400000 in
theorem rid_any (s : ByteArray) (w : World) : Calls Tryz.prog 48 #[.string s] w fun e w' => e = .returned (.bool (idB s)) ∧ Below w.heap.size w w' := by
  go_enter Tryz.func48, Tryz.ntmps48
  go_wp2_with (go_at_call 31; refine (within_any _ _ _ _).mono ?_; rintro e w' ⟨rfl, rfl⟩)
  go_ways
  · have h8 : s.size ≤ 8 := by have h := (by assumption : wi (s.size : Int) 1 8 = true); have := (wi_true.1 h).2; omega
    have HW := Lib.hid (by assumption : wi (s.size : Int) 1 8 = true)
    rw [Go.Lib.run_convert_string_bytes w _ _ 5 s Tryz.underlying9 Tryz.underlying135 Tryz.underlying5]
    rw [Result.andThen]
    have HC := Lib.hid (bytesWorld_cell w 5 s)
    have HB := Lib.hid (bytesWorld_below w 5 s)
    generalize bytesWorld w 5 s = w1 at *
    generalize grownCap w s.size 0 5 = cc at *
    go_wp2_with (go_at_call 77; refine (contains_conv s h8 _ _ _ HC.out).mono ?_; rintro e w' ⟨rfl, rfl⟩)
    go_ways
    all_goals
      go_ret
      refine ⟨ret_bool ?_, HB.out⟩
      simp_all [idB, HW.out]
  · rename_i hw
    go_ret
    refine ⟨ret_bool ?_, Below.refl _ _⟩
    simp_all [idB]

def beatE (s : ByteArray) (inc seq : Int) : Int := if idB s then (if 0 ≤ inc ∧ inc ≤ 2147483647 ∧ 1 ≤ seq ∧ seq ≤ 2147483647 then 0 else 1) else 3

set_option maxRecDepth 100000 in
set_option maxHeartbeats 400000 in
theorem rbeat_any (s : ByteArray) (inc seq : Int) (w : World) : Calls Tryz.prog 91 #[.agg #[.string s, .int .i64 inc, .int .i64 seq]] w fun e w' => e = .returned (.int .i64 (beatE s inc seq)) ∧ Below w.heap.size w w' := by
  have E := Lib.hid ((Env.start w).lay #[.string s, .int .i64 inc, .int .i64 seq] 103)
  go_enter Tryz.func91, Tryz.ntmps91
  go_wp2_with fail
  refine (rid_any s _).mono ?_
  rintro e w1 ⟨rfl, hb1⟩
  have E1 := Lib.hid (E.out.below hb1)
  clear hb1
  have p0 := E1.out.hd.lt
  have a0 := E1.out.hd.cell 0
  have a1 := E1.out.hd.cell 1
  have a2 := E1.out.hd.cell 2
  simp at a0 a1 a2 p0
  go_wp2_with (go_at_call 31; refine (within_any _ _ _ _).mono ?_; rintro e w' ⟨rfl, rfl⟩)
  go_ways
  all_goals
    go_ret
    refine ⟨ret_int ?_, E1.out.bel⟩
    clear E E1 a0 a1 a2 p0
    unfold beatE
    simp_all [wi_true, wi_false]
  all_goals omega
end Go.Proofs.YtcikljcjhijjdabGreat
