/- win.Check, the reference's Win and SameWin. -/
import Derived.Test.YteojecbmmijccaaFadeVals
namespace Go.Proofs.Yteojecbmmijccaa
open Go.RowKit
set_option linter.unusedSimpArgs false
set_option linter.unusedVariables false

def winE (cap : Int) (l : List Int) : Int := if wi cap 1 64 = true then (if cap < (l.length : Int) then 2 else listE l) else 1
theorem winE_zero {cap : Int} {l : List Int} (h : winE cap l = 0) : 1 ≤ cap ∧ cap ≤ 64 ∧ (l.length : Int) ≤ cap ∧ listE l = 0 := by
  unfold winE at h
  split at h
  · rename_i h1
    obtain ⟨a, b⟩ := wi_true.1 h1
    split at h
    · simp at h
    · exact ⟨a, b, by omega, h⟩
  · simp at h
theorem rlist_is (A : Option Addr) (c B : Nat) (l : List Int) (n : Nat) (hn : l.length = n) (e : Int) (h : listE l = e) (hm : n ≤ maxLen) (w : World) (hr : Reads w B 1 A n (cellsI l)) :
    Calls Try.prog 37 #[.slice A n c] w fun e' w' => e' = .returned (.int .i64 e) ∧ w = w' := by
  subst hn h; exact rlist_any A c B l hm w hr

set_option maxHeartbeats 1000000 in
theorem wchk_is (cap : Int) (A : Option Addr) (c B n : Nat) (l : List Int) (hn : l.length = n) (e : Int) (he : winE cap l = e) (hm : n ≤ maxLen) (w : World) (hr : Reads w B 1 A n (cellsI l)) (hB : B ≤ w.heap.size) :
    Calls Try.prog 22 #[.agg #[.int .i64 cap, .slice A n c]] w fun e' w' => e' = .returned (.int .i64 e) ∧ Below w.heap.size w w' := by
  subst he hn
  unfold winE
  have HC := Lib.hid (hr.alloc hB (.cells #[.int .i64 cap, .slice A l.length c] 32))
  clear hr hB
  by_cases h1 : wi cap 1 64 = true
  · rw [if_pos h1]
    obtain ⟨c0, c1⟩ := wi_true.1 h1
    clear h1
    by_cases h2 : cap < (l.length : Int)
    · rw [if_pos h2]
      generalize l.length = n at *
      go_enter Try.func22, Try.ntmps22
      go_wp2
      go_ret
      exact ⟨rfl, (Below.refl _ _).alloc (Nat.le_refl _) _⟩
    · rw [if_neg h2]
      have h3 : (l.length : Int) ≤ cap := by omega
      clear h2
      generalize hn : l.length = n at *
      have HN := Lib.hid hn
      generalize he : listE l = e
      have HE := Lib.hid he
      clear hn he
      go_enter Try.func22, Try.ntmps22
      go_wp2_with fail
      refine (wlist_is _ _ _ l n HN.out _ HE.out (by omega) _ HC.out).mono ?_
      rintro e' w' ⟨rfl, rfl⟩
      go_wp2
      go_ret
      exact ⟨rfl, (Below.refl _ _).alloc (Nat.le_refl _) _⟩
  · rw [if_neg h1]
    have h2 : cap < 1 ∨ 64 < cap := by
      have := wi_false.1 (by simpa using h1)
      exact this
    clear h1
    generalize l.length = n at *
    go_enter Try.func22, Try.ntmps22
    go_wp2
    all_goals first
      | (exfalso; omega)
      | (go_ret; exact ⟨rfl, (Below.refl _ _).alloc (Nat.le_refl _) _⟩)

set_option maxHeartbeats 1000000 in
theorem rwin_is (cap : Int) (A : Option Addr) (c B n : Nat) (l : List Int) (hn : l.length = n) (e : Int) (he : winE cap l = e) (hm : n ≤ maxLen) (w : World) (hr : Reads w B 1 A n (cellsI l)) (hB : B ≤ w.heap.size) :
    Calls Try.prog 19 #[.agg #[.int .i64 cap, .slice A n c]] w fun e' w' => e' = .returned (.int .i64 e) ∧ Below w.heap.size w w' := by
  subst he hn
  unfold winE
  have HC := Lib.hid (hr.alloc hB (.cells #[.int .i64 cap, .slice A l.length c] 32))
  clear hr hB
  by_cases h1 : wi cap 1 64 = true
  · rw [if_pos h1]
    by_cases h2 : cap < (l.length : Int)
    · rw [if_pos h2]
      generalize l.length = n at *
      go_enter Try.func19, Try.ntmps19
      go_wp2_with (go_at_call 23; refine (within_any _ _ _ _).mono ?_; rintro e w' ⟨rfl, rfl⟩)
      go_ret
      exact ⟨rfl, (Below.refl _ _).alloc (Nat.le_refl _) _⟩
    · rw [if_neg h2]
      have h3 : (l.length : Int) ≤ cap := by omega
      clear h2
      generalize hn : l.length = n at *
      have HN := Lib.hid hn
      generalize he : listE l = e
      have HE := Lib.hid he
      clear hn he
      go_enter Try.func19, Try.ntmps19
      go_wp2_with (go_at_call 23; refine (within_any _ _ _ _).mono ?_; rintro e w' ⟨rfl, rfl⟩)
      refine (rlist_is _ _ _ l n HN.out _ HE.out (by omega) _ HC.out).mono ?_
      rintro e' w' ⟨rfl, rfl⟩
      go_wp2
      go_ret
      exact ⟨rfl, (Below.refl _ _).alloc (Nat.le_refl _) _⟩
  · rw [if_neg h1]
    have h2 : wi cap 1 64 = false := by simpa using h1
    clear h1
    generalize l.length = n at *
    go_enter Try.func19, Try.ntmps19
    go_wp2_with (go_at_call 23; refine (within_any _ _ _ _).mono ?_; rintro e w' ⟨rfl, rfl⟩)
    go_ret
    exact ⟨rfl, (Below.refl _ _).alloc (Nat.le_refl _) _⟩
end Go.Proofs.Yteojecbmmijccaa
