/- marks.At and marks.Of, walked. -/
import Derived.Test.YtldfppcdklnmlabTurns
import Derived.BigRegion
namespace Go.Proofs.Ytldfppcdklnmlab
open Go.RowKit
set_option linter.unusedSimpArgs false
set_option linter.unusedVariables false

theorem tchk_is (A : Option Addr) (c B n : Nat) (l : List Trn) (hn : l.length = n) (fin e0 : Int) (he : turnsE l fin = e0) (w : World) (hr : Reads w B 2 A n (cellsT l)) (hB : B ≤ w.heap.size) :
    Calls Try.prog 7 #[.slice A n c, .int .i64 fin] w fun e w' => e = .returned (.int .i64 e0) ∧ Below w.heap.size w w' := by
  subst he
  unfold turnsE
  rw [hn]
  by_cases h1 : 64 < n
  · rw [if_pos h1]; exact tchk_large A n c fin h1 w
  · rw [if_neg h1]
    by_cases h2 : wi fin 0 1073741824 = true
    · rw [if_pos h2]
      obtain ⟨f0, f1⟩ := wi_true.1 h2
      rcases Nat.eq_zero_or_pos n with h3 | h3
      · subst h3; exact tchk_nil A c fin f0 f1 w
      · exact tchk_run A c B n l hn fin (by omega) h3 f0 f1 _ rfl w hr hB
    · rw [if_neg h2]; exact tchk_end A n c fin (by omega) (wi_false.1 (by simpa using h2)) w
theorem trns_is (A : Option Addr) (c B n : Nat) (l : List Trn) (hn : l.length = n) (fin e0 : Int) (he : turnsE l fin = e0) (w : World) (hr : Reads w B 2 A n (cellsT l)) (hB : B ≤ w.heap.size) :
    Calls Try.prog 6 #[.slice A n c, .int .i64 fin] w fun e w' => e = .returned (.int .i64 e0) ∧ Below w.heap.size w w' := by
  subst he
  unfold turnsE
  rw [hn]
  by_cases h1 : 64 < n
  · rw [if_pos h1]; exact trns_large A n c fin h1 w
  · rw [if_neg h1]
    by_cases h2 : wi fin 0 1073741824 = true
    · rw [if_pos h2]
      obtain ⟨f0, f1⟩ := wi_true.1 h2
      rcases Nat.eq_zero_or_pos n with h3 | h3
      · subst h3; exact trns_nil A c fin f0 f1 w
      · exact trns_run A c B n l hn fin (by omega) h3 f0 f1 _ rfl w hr hB
    · rw [if_neg h2]; exact trns_end A n c fin (by omega) (wi_false.1 (by simpa using h2)) w

set_option maxHeartbeats 1000000 in
theorem mat_err (A : Option Addr) (c B n : Nat) (l : List Trn) (hn : l.length = n) (fin : Int) (t e : Int) (he : turnsE l fin = e) (hz : e ≠ 0) (w : World) (hr : Reads w B 2 A n (cellsT l)) (hB : B ≤ w.heap.size) :
    Calls Try.prog 5 #[.slice A n c, .int .i64 fin, .int .i64 t] w fun e' w' => e' = .returned (.tuple #[.bool false, .int .i64 e]) ∧ Below w.heap.size w w' := by
  have HN := Lib.hid hn
  have HE := Lib.hid he
  have HR := Lib.hid hr
  have HB := Lib.hid hB
  clear hn he hr hB
  go_enter Try.func5, Try.ntmps5
  go_wp2_with fail
  refine (tchk_is A c B n l HN.out fin _ HE.out _ HR.out HB.out).mono ?_
  rintro e' w1 ⟨rfl, hb1⟩
  have HB1 := Lib.hid hb1
  have hsz := hb1.size
  clear hb1
  go_wp2
  all_goals first
    | (exfalso; omega)
    | (refine bodyPost_ret (v := .tuple #[.bool false, .int .i64 e]) (by simp [results, Try.results5, go_sem]) rfl ⟨rfl, HB1.out⟩)
set_option maxHeartbeats 1000000 in
theorem mat_arg (A : Option Addr) (c B n : Nat) (l : List Trn) (hn : l.length = n) (fin : Int) (t : Int) (he : turnsE l fin = 0) (h : t < 0 ∨ fin < t) (w : World) (hr : Reads w B 2 A n (cellsT l)) (hB : B ≤ w.heap.size) :
    Calls Try.prog 5 #[.slice A n c, .int .i64 fin, .int .i64 t] w fun e' w' => e' = .returned (.tuple #[.bool false, .int .i64 1]) ∧ Below w.heap.size w w' := by
  have HN := Lib.hid hn
  have HE := Lib.hid he
  have HR := Lib.hid hr
  have HB := Lib.hid hB
  clear hn he hr hB
  go_enter Try.func5, Try.ntmps5
  go_wp2_with fail
  refine (tchk_is A c B n l HN.out fin _ HE.out _ HR.out HB.out).mono ?_
  rintro e' w1 ⟨rfl, hb1⟩
  have HB1 := Lib.hid hb1
  have hsz := hb1.size
  clear hb1
  go_wp2
  all_goals first
    | (exfalso; omega)
    | (refine bodyPost_ret (v := .tuple #[.bool false, .int .i64 1]) (by simp [results, Try.results5, go_sem]) rfl ⟨rfl, HB1.out⟩)
set_option maxHeartbeats 1000000 in
theorem mat_nil (A : Option Addr) (c B : Nat) (l : List Trn) (hn : l.length = 0) (fin : Int) (t : Int) (he : turnsE l fin = 0) (h : 0 ≤ t) (h' : t ≤ fin) (w : World) (hr : Reads w B 2 A 0 (cellsT l)) (hB : B ≤ w.heap.size) :
    Calls Try.prog 5 #[.slice A 0 c, .int .i64 fin, .int .i64 t] w fun e' w' => e' = .returned (.tuple #[.bool false, .int .i64 0]) ∧ Below w.heap.size w w' := by
  have HN := Lib.hid hn
  have HE := Lib.hid he
  have HR := Lib.hid hr
  have HB := Lib.hid hB
  clear hn he hr hB
  go_enter Try.func5, Try.ntmps5
  go_wp2_with fail
  refine (tchk_is A c B 0 l HN.out fin _ HE.out _ HR.out HB.out).mono ?_
  rintro e' w1 ⟨rfl, hb1⟩
  have HB1 := Lib.hid hb1
  have hsz := hb1.size
  clear hb1
  go_wp2
  go_loopw [9, 11, 27] (fun s _ i wr => s = .bool false ∧ i = .int .i64 0 ∧ wr = w1) (fun _ _ _ _ => 0)
  case atStart => exact ⟨rfl, rfl, rfl⟩
  case round =>
    obtain ⟨rfl, rfl, rfl⟩ := hrel
    go_wp2
    refine bodyPost_ret (v := .tuple #[.bool false, .int .i64 0]) (by simp [results, Try.results5, go_sem]) rfl ⟨rfl, HB1.out⟩
set_option maxHeartbeats 2000000 in
theorem mat_run (A : Option Addr) (c B n : Nat) (l : List Trn) (hn : l.length = n) (fin : Int) (t : Int) (he : turnsE l fin = 0) (h : 0 ≤ t) (h' : t ≤ fin) (hz : 1 ≤ n) (b : Bool) (hb : (cntT l t % 2 == 1) = b) (w : World) (hr : Reads w B 2 A n (cellsT l)) (hB : B ≤ w.heap.size) :
    Calls Try.prog 5 #[.slice A n c, .int .i64 fin, .int .i64 t] w fun e' w' => e' = .returned (.tuple #[.bool b, .int .i64 0]) ∧ Below w.heap.size w w' := by
  obtain ⟨g, off, rfl, hg, hat⟩ := hr.turns hn (by omega)
  have hgw : g < w.heap.size := by omega
  have HA := Lib.hid hat
  have HFI := Lib.hid (turnsE_zero he)
  have HBB := Lib.hid hb
  have h64 : n ≤ 64 := by have := (turnsE_zero he).2.2.1; omega
  clear hat hg hb
  have HN := Lib.hid hn
  have HE := Lib.hid he
  have HR := Lib.hid hr
  have HB := Lib.hid hB
  clear hn he hr hB
  go_enter Try.func5, Try.ntmps5
  go_wp2_with fail
  refine (tchk_is _ c B n l HN.out fin _ HE.out _ HR.out HB.out).mono ?_
  rintro e' w1 ⟨rfl, hb1⟩
  have HB1 := Lib.hid hb1
  have hsz := hb1.size
  clear hb1
  have hgw1 : g < w1.heap.size := by omega
  go_wp2
  go_loopw [9, 11, 27] (fun s _ i wr => ∃ k : Nat, k ≤ n ∧ i = .int .i64 k ∧ s = .bool (k % 2 == 1) ∧ (∀ j, j < k → Tm l j ≤ t) ∧ Below w1.heap.size w1 wr) (fun _ _ i _ => n - (intOf i).toNat)
  case atStart => exact ⟨0, Nat.zero_le _, rfl, rfl, fun j hj => by omega, Below.refl _ _⟩
  case round =>
    obtain ⟨k, hk, rfl, rfl, hrel, hbel⟩ := hrel
    have HG := Lib.hid hrel
    have HBL := Lib.hid hbel
    have hsz2 := hbel.size
    clear hrel hbel
    by_cases hlt : k < n
    · obtain ⟨x0, x1⟩ := (HA.out.below HB1.out hgw).below HBL.out hgw1 k hlt
      have hgr : g < wr.heap.size := by omega
      have hpar2 : ((k + 1) % 2 == 1) = !(k % 2 == 1) := by
        rcases Nat.mod_two_eq_zero_or_one k with e | e <;> simp [e] <;> omega
      obtain ⟨q0, q1, q2⟩ := stepE_ok (HFI.out.2.2.2 k (by rw [HN.out]; exact hlt))
      rw [q2] at x1
      by_cases hle : Tm l k ≤ t
      · have HLE := Lib.hid hle
        have HP := Lib.hid hpar2
        clear hpar2 q0 q1 q2
        generalize hx : Tm l k = x at *
        have HX := Lib.hid hx
        clear hx
        generalize (k % 2 == 1) = p at *
        go_wp2
        go_roundw
        case rel =>
          refine ⟨k + 1, hlt, by simp, by rw [HP.out], fun j hj => ?_, HBL.out.alloc hsz2 _⟩
          by_cases e : j = k
          · subst e; rw [HX.out]; exact HLE.out
          · exact HG.out j (by omega)
        case measure => simp [intOf]; omega
      · have hgt : t < Tm l k := by omega
        have HC := Lib.hid (show (k % 2 == 1) = b by rw [← HBB.out, cntT_at l t k (by rw [HN.out]; exact hlt) HG.out hgt])
        clear hpar2 q0 q1 q2 hle
        generalize Tm l k = x at *
        generalize (k % 2 == 1) = p at *
        go_wp2
        refine bodyPost_ret (v := .tuple #[.bool p, .int .i64 0]) (by simp [results, Try.results5, go_sem]) rfl ⟨by rw [HC.out], ?_⟩
        exact HB1.out.trans ((HBL.out.alloc hsz2 _).mono hsz)
    · have hkn : k = n := by omega
      have HC := Lib.hid (show (k % 2 == 1) = b by rw [← HBB.out, cntT_all l t (fun j hj => HG.out j (by rw [HN.out] at hj; omega)), HN.out, hkn])
      clear hkn
      generalize (k % 2 == 1) = p at *
      go_wp2
      refine bodyPost_ret (v := .tuple #[.bool p, .int .i64 0]) (by simp [results, Try.results5, go_sem]) rfl ⟨by rw [HC.out], ?_⟩
      exact HB1.out.trans (HBL.out.mono hsz)
end Go.Proofs.Ytldfppcdklnmlab
