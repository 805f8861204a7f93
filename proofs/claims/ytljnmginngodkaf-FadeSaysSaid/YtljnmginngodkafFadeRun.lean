/- fade.Run. -/
import Derived.Test.YtljnmginngodkafFade
namespace Go.Proofs.Ytljnmginngodkaf
open Go.RowKit
set_option linter.unusedSimpArgs false
set_option linter.unusedVariables false

def runTo (l : List Int) (k j : Nat) : Int := ((l.drop 1).take j).foldl (fun m v => nextZ m v k) (256 * l.getD 0 0)

theorem next_bd (m v : Int) (k : Nat) (h : NextArg m v k) : 0 ≤ nextZ m v k ∧ nextZ m v k ≤ 4294967296 := by
  obtain ⟨m0, m1, v0, v1, k0, k1⟩ := h
  have := pow_cases k (by omega) (fun _ p => 0 ≤ m + (256 * v - m) / (p : Int) ∧ m + (256 * v - m) / (p : Int) ≤ 4294967296)
    (by omega) (by omega) (by omega) (by omega) (by omega) (by omega) (by omega) (by omega) (by omega)
  unfold nextZ
  simpa using this
theorem runTo_succ (l : List Int) (k j : Nat) (h : j + 1 < l.length) : runTo l k (j + 1) = nextZ (runTo l k j) (l.getD (j + 1) 0) k := by
  unfold runTo
  have hj : j < (l.drop 1).length := by rw [List.length_drop]; omega
  rw [List.take_add_one, List.foldl_append, List.getElem?_eq_getElem hj]
  have e : 1 + j = j + 1 := by omega
  simp [List.getD, List.getElem?_eq_getElem h, e]
theorem vals_of {l : List Int} (h : l.any offI = false) (j : Nat) (hj : j < l.length) : 0 ≤ l.getD j 0 ∧ l.getD j 0 ≤ 16777216 := by
  have h1 : offI (l.getD j 0) = false := by
    rw [List.any_eq_false] at h
    have := h (l.getD j 0) (by simp [List.getD, List.getElem?_eq_getElem hj])
    simpa using this
  unfold offI at h1
  exact wi_true.1 (by simpa using h1)
theorem runTo_bd (l : List Int) (k : Nat) (hk : k ≤ 8) (hv : l.any offI = false) (hl : 0 < l.length) : ∀ j, j < l.length → 0 ≤ runTo l k j ∧ runTo l k j ≤ 4294967296 := by
  intro j
  induction j with
  | zero =>
    intro h
    have := vals_of hv 0 h
    simp only [runTo, List.take_zero, List.foldl_nil]
    omega
  | succ j ih =>
    intro h
    rw [runTo_succ l k j h]
    obtain ⟨i0, i1⟩ := ih (by omega)
    obtain ⟨v0, v1⟩ := vals_of hv (j + 1) h
    exact next_bd _ _ _ ⟨i0, i1, v0, v1, by omega, by omega⟩

theorem listE_zero {l : List Int} (h : listE l = 0) : l.length ≤ 64 ∧ l.any offI = false := by
  unfold listE at h
  split at h
  · simp at h
  · split at h
    · simp at h
    · rename_i h1 h2; exact ⟨by omega, by simpa using h2⟩
theorem wlist_is (A : Option Addr) (c B : Nat) (l : List Int) (n : Nat) (hn : l.length = n) (e : Int) (h : listE l = e) (hm : n ≤ maxLen) (w : World) (hr : Reads w B 1 A n (cellsI l)) :
    Calls Try.prog 11 #[.slice A n c] w fun e' w' => e' = .returned (.int .i64 e) ∧ w = w' := by
  subst hn h; exact wlist_any A c B l hm w hr

set_option maxHeartbeats 1000000 in
theorem frun_ok (A : Option Addr) (c B n k : Nat) (l : List Int) (hn : l.length = n) (he : listE l = 0) (h1 : 1 ≤ n) (hk : k ≤ 8) (hc : n ≤ c) (hm : c ≤ maxLen) (w : World) (hr : Reads w B 1 A n (cellsI l)) :
    Calls Try.prog 5 #[.slice A n c, .int .i64 k] w fun e w' => e = .returned (.tuple #[.int .i64 (runTo l k (n - 1)), .int .i64 0]) ∧ w = w' := by
  have HN := Lib.hid hn
  have HE := Lib.hid he
  have HC := Lib.hid hr
  have h64 : n ≤ 64 := by rw [← hn]; exact (listE_zero he).1
  obtain ⟨b, off, rfl, hb, hcells⟩ := hr.addr (by omega)
  have HCC := Lib.hid hcells
  have hcell := hcells 0 _ (cellsI_at l 0 (by omega))
  have hv0 := vals_of (listE_zero he).2 0 (by omega)
  have HB := Lib.hid (fun j (hj : j < n) => runTo_bd l k hk (listE_zero he).2 (by omega) j (by omega))
  have HV := Lib.hid (fun j (hj : j < n) => vals_of (listE_zero he).2 j (by omega))
  have HS := Lib.hid (fun j (hj : j + 1 < n) => runTo_succ l k j (by omega))
  have H0 := Lib.hid (show runTo l k 0 = 256 * l.getD 0 0 by simp [runTo])
  clear hn he hr hcells
  simp only [Nat.add_zero] at hcell
  generalize hx : l.getD 0 0 = x at *
  clear hx
  obtain ⟨x0, x1⟩ := hv0
  by_cases hc1 : c = 1
  · subst hc1
    have h2 : n = 1 := by omega
    have HR := Lib.hid (show runTo l k (n - 1) = 256 * x by rw [h2]; exact H0.out)
    have h3 : n ≤ 1 := hc
    clear h2
    go_enter Try.func5, Try.ntmps5
    go_wp2_with fail
    refine (wlist_is _ _ _ l n HN.out _ HE.out (by omega) _ HC.out).mono ?_
    rintro e w' ⟨rfl, rfl⟩
    go_wp2
    go_loop [7, 31] (fun m i => m = .int .i64 (256 * x) ∧ i = .int .i64 0) (fun _ i => 0)
    case atStart => exact ⟨rfl, rfl⟩
    case round =>
      obtain ⟨rfl, rfl⟩ := hrel
      go_wp2
      first | rw [HR.out] | rw [H0.out]
      refine bodyPost_ret (v := .tuple #[.int .i64 (256 * x), .int .i64 0]) (by simp [results, Try.results5, go_sem]) rfl ⟨rfl, rfl⟩
  · have hc2 : ¬ (c : Int) = 1 := by omega
    have hnz : ((n : Int) == 0) = false := by simp; omega
    go_enter Try.func5, Try.ntmps5
    go_wp2_with fail
    refine (wlist_is _ _ _ l n HN.out _ HE.out (by omega) _ HC.out).mono ?_
    rintro e w' ⟨rfl, rfl⟩
    go_wp2
    go_loop [7, 31] (fun m i => ∃ j : Nat, j ≤ n - 1 ∧ i = .int .i64 j ∧ m = .int .i64 (runTo l k j)) (fun _ i => n - (intOf i).toNat)
    case atStart => exact ⟨0, Nat.zero_le _, rfl, by rw [H0.out]⟩
    case round =>
      obtain ⟨j, hj, rfl, rfl⟩ := hrel
      obtain ⟨r0, r1⟩ := HB.out j (by omega)
      by_cases hlt : j < n - 1
      · have hcj := HCC.out (j + 1) _ (cellsI_at l (j + 1) (by rw [HN.out]; omega))
        have hcj' : w.cell? ⟨b, off + 1 + j, none⟩ = some (.int .i64 (l.getD (j + 1) 0)) := by rw [show off + 1 + j = off + (j + 1) by omega]; exact hcj
        clear hcj
        have hvj := HV.out (j + 1) (by omega)
        have HSJ := Lib.hid (HS.out j (by omega))
        generalize hy : l.getD (j + 1) 0 = y at *
        clear hy
        obtain ⟨y0, y1⟩ := hvj
        generalize hz : runTo l k j = z at *
        clear hz
        have ha : NextArg z y k := ⟨r0, r1, y0, y1, by omega, by omega⟩
        have HA := Lib.hid ha
        clear ha
        go_wp2_with (go_at_call 4; refine (fnext_ok z y k HA.out _).mono ?_; rintro e w' ⟨rfl, rfl⟩)
        go_round
        case rel => exact ⟨j + 1, hlt, by simp, by rw [HSJ.out]⟩
        case measure => simp [intOf]; omega
      · have hjn : j = n - 1 := by omega
        have HJ := Lib.hid (show runTo l k j = runTo l k (n - 1) by rw [hjn])
        have hj2 : n ≤ j + 1 := by omega
        clear hjn
        go_wp2
        rw [← HJ.out]
        refine bodyPost_ret (v := .tuple #[.int .i64 (runTo l k j), .int .i64 0]) (by simp [results, Try.results5, go_sem]) rfl ⟨rfl, rfl⟩
end Go.Proofs.Ytljnmginngodkaf
