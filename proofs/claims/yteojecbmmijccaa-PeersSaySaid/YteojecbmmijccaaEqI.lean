/- slices.Equal and slices.Clone over ints. -/
import Derived.Test.YteojecbmmijccaaCells
import Derived.Laws.OwnMore
namespace Go.Proofs.Yteojecbmmijccaa
open Go.RowKit
set_option linter.unusedSimpArgs false
set_option linter.unusedVariables false

theorem take_eq_step {l m : List Int} {k : Nat} (hl : k < l.length) (hm : k < m.length) (h : l.take k = m.take k) (he : l.getD k 0 = m.getD k 0) : l.take (k + 1) = m.take (k + 1) := by
  rw [List.take_add_one, List.take_add_one, h, List.getElem?_eq_getElem hl, List.getElem?_eq_getElem hm]
  simp [List.getD, List.getElem?_eq_getElem hl, List.getElem?_eq_getElem hm] at he
  rw [he]
theorem ne_at {l m : List Int} {k : Nat} (he : l.getD k 0 ≠ m.getD k 0) : l ≠ m := fun h => he (by rw [h])

set_option maxHeartbeats 1000000 in
theorem eqints_is (A A' : Option Addr) (c c' B n m : Nat) (l l' : List Int) (hn : l.length = n) (hm : l'.length = m) (b : Bool) (hb : decide (l = l') = b) (h64 : n ≤ 100000) (h64' : m ≤ 100000) (w : World) (hr : Reads w B 1 A n (cellsI l)) (hr' : Reads w B 1 A' m (cellsI l')) :
    Calls Try.prog 46 #[.slice A n c, .slice A' m c'] w fun e w' => e = .returned (.bool b) ∧ Below w.heap.size w w' := by
  have HN := Lib.hid hn
  have HM := Lib.hid hm
  have HR := Lib.hid hr
  have HR' := Lib.hid hr'
  have HB := Lib.hid hb
  clear hr hr' hb
  by_cases hnm : n = m
  · subst hnm
    have hlt : decide (n < n) = false := by simp
    clear hn hm
    by_cases hz : n = 0
    · have HZ := Lib.hid hz
      have hz' : n < 1 := by omega
      have he : b = true := by
        rw [← HB.out, decide_eq_true_eq, List.eq_nil_of_length_eq_zero (by rw [HN.out, HZ.out] : l.length = 0), List.eq_nil_of_length_eq_zero (by rw [HM.out, HZ.out] : l'.length = 0)]
      subst he
      clear hz
      go_enter Try.func46, Try.ntmps46
      go_wp2
      go_loop [13] (fun i => i = .int .i64 0) (fun i => 0)
      case atStart => exact rfl
      case round =>
        subst hrel
        go_wp2
        go_ret
        exact ⟨rfl, Below.refl _ _⟩
    · obtain ⟨g, off, rfl, hg, hcells⟩ := HR.out.addr (by omega)
      obtain ⟨g', off', rfl, hg', hcells'⟩ := HR'.out.addr (by omega)
      have HC := Lib.hid hcells
      have HC' := Lib.hid hcells'
      have HZ := Lib.hid hz
      clear hcells hcells' hz hg hg'
      go_enter Try.func46, Try.ntmps46
      go_wp2
      go_loopw [5, 13] (fun _ i wr => ∃ k : Nat, k ≤ n ∧ i = .int .i64 k ∧ l.take k = l'.take k ∧ ∃ d, wr = w.drewN d) (fun _ i _ => n - (intOf i).toNat)
      case atStart => exact ⟨0, Nat.zero_le _, rfl, rfl, 0, rfl⟩
      case round =>
        obtain ⟨k, hk, rfl, hrel, d, rfl⟩ := hrel
        have HT := Lib.hid hrel
        clear hrel
        by_cases hlt : k < n
        · have x0 : (w.drewN d).cell? ⟨g, off + k, none⟩ = some (.int .i64 (l.getD k 0)) := HC.out k _ (cellsI_at l k (by rw [HN.out]; exact hlt))
          have y0 : (w.drewN d).cell? ⟨g', off' + k, none⟩ = some (.int .i64 (l'.getD k 0)) := HC'.out k _ (cellsI_at l' k (by rw [HM.out]; exact hlt))
          have hW : ∃ W, W = w.drewN d := ⟨_, rfl⟩
          obtain ⟨W, hW⟩ := hW
          have HW := Lib.hid hW
          rw [← hW] at x0 y0 ⊢
          clear hW
          by_cases hxy : l.getD k 0 = l'.getD k 0
          · have HTS := Lib.hid (take_eq_step (by rw [HN.out]; exact hlt) (by rw [HM.out]; exact hlt) HT.out hxy)
            rw [← hxy] at y0
            generalize l.getD k 0 = x at *
            clear hxy
            go_wp2
            go_quiet (fail)
            go_wp2
            go_roundw
            case rel => exact ⟨k + 1, hlt, by simp, HTS.out, d + nq, by rw [HW.out]; exact World.drewN_drewN w d nq⟩
            case measure => simp [intOf]; omega
          · have HNE := Lib.hid (ne_at hxy)
            have hx : (l.getD k 0 != l'.getD k 0) = true := by simpa using hxy
            generalize l.getD k 0 = x at *
            generalize l'.getD k 0 = y at *
            clear hxy
            go_wp2
            go_quiet (fail)
            go_wp2
            go_ret
            exact ⟨ret_bool (by rw [← HB.out]; simpa using HNE.out), by rw [HW.out]; exact below_drewN (below_drewN (Below.refl _ _) d) nq⟩
        · go_wp2
          go_ret
          have e1 : l.take k = l := by rw [List.take_of_length_le]; have := HN.out; omega
          have e2 : l'.take k = l' := by rw [List.take_of_length_le]; have := HM.out; omega
          have h2 := HT.out
          rw [e1, e2] at h2
          exact ⟨ret_bool (by rw [← HB.out]; simp [h2]), below_drewN (Below.refl _ _) d⟩
  · have hne : l ≠ l' := fun h => hnm (by rw [← hn, ← hm, h])
    have he : b = false := by rw [← HB.out]; simpa using hne
    subst he
    have hx : ((n : Int) != (m : Int)) = true := bne_iff_ne.2 (by omega)
    clear hn hm hne
    go_enter Try.func46, Try.ntmps46
    go_wp2
    go_ret
    exact ⟨rfl, Below.refl _ _⟩

end Go.Proofs.Yteojecbmmijccaa
