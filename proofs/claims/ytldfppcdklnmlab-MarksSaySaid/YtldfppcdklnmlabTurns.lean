/- marks.Check and the reference's Turns, walked. -/
import Derived.Test.YtldfppcdklnmlabTurnsP
namespace Go.Proofs.Ytldfppcdklnmlab
open Go.RowKit
set_option linter.unusedSimpArgs false
set_option linter.unusedVariables false

def cellsT : List Trn → List Value
  | [] => []
  | x :: l => .int .i64 x.1 :: .bool x.2 :: cellsT l
theorem cellsT_len : ∀ l : List Trn, (cellsT l).length = l.length * 2
  | [] => rfl
  | x :: l => by simp only [cellsT, List.length_cons, cellsT_len l]; omega
theorem cellsT_at : ∀ (l : List Trn) (k : Nat), k < l.length → (cellsT l)[k * 2]? = some (.int .i64 (Tm l k)) ∧ (cellsT l)[k * 2 + 1]? = some (.bool (Sp l k))
  | [], k, h => by simp at h
  | x :: l, 0, _ => ⟨rfl, rfl⟩
  | x :: l, k + 1, h => by
    obtain ⟨a, b⟩ := cellsT_at l k (by simpa using h)
    rw [show (k + 1) * 2 = k * 2 + 2 by omega]
    exact ⟨by simpa [cellsT, Tm] using a, by simpa [cellsT, Sp] using b⟩
theorem cellsT_append (l m : List Trn) : cellsT (l ++ m) = cellsT l ++ cellsT m := by
  induction l with
  | nil => rfl
  | cons x l ih => simp [cellsT, ih]
theorem oneCell_turns (l : List Trn) : ∀ u ∈ cellsT l, u.oneCell' = true := by
  induction l with
  | nil => simp [cellsT]
  | cons x l ih =>
    intro u hu
    simp only [cellsT, List.mem_cons] at hu
    rcases hu with rfl | rfl | hu
    · rfl
    · rfl
    · exact ih u hu
theorem Reads.addr2 {w : World} {B n size : Nat} {A : Option Addr} {xs : List Value} (h : Reads w B size A n xs) (hn : 0 < n) (hs : 0 < size) :
    ∃ b off, A = some ⟨b, off, none⟩ ∧ b < B ∧ ∀ k u, xs[k]? = some u → w.cell? ⟨b, off + k, none⟩ = some u := by
  obtain ⟨ad, e, hb, hc⟩ := h.2 hn
  have hl : 0 < xs.length := by rw [h.1]; exact Nat.mul_pos hn hs
  have h0 := hc 0 _ (List.getElem?_eq_getElem hl)
  obtain ⟨b, off, spot⟩ := ad
  have hsp : spot = none := by simpa [Addr.add] using World.cell?_spot h0
  subst hsp
  refine ⟨b, off, e, hb, fun k u hu => ?_⟩
  have := hc k u hu
  by_cases hk : k = 0
  · subst hk; simpa [Addr.add] using this
  · simpa [Addr.add, hk] using this
/-- the turns of a slice, where they lie -/
def TurnsAt (w : World) (b off n : Nat) (l : List Trn) : Prop := ∀ k, k < n → w.cell? ⟨b, off + k * 2, none⟩ = some (.int .i64 (Tm l k)) ∧ w.cell? ⟨b, off + k * 2 + 1, none⟩ = some (.bool (Sp l k))
theorem Reads.turns {w : World} {B n : Nat} {A : Option Addr} {l : List Trn} (h : Reads w B 2 A n (cellsT l)) (hl : l.length = n) (hn : 0 < n) :
    ∃ b off, A = some ⟨b, off, none⟩ ∧ b < B ∧ TurnsAt w b off n l := by
  obtain ⟨b, off, e, hb, hc⟩ := h.addr2 hn (by decide)
  refine ⟨b, off, e, hb, fun k hk => ?_⟩
  obtain ⟨h1, h2⟩ := cellsT_at l k (by omega)
  exact ⟨hc _ _ h1, hc _ _ h2⟩
theorem TurnsAt.below {w w' : World} {b off n B : Nat} {l : List Trn} (h : TurnsAt w b off n l) (hb : Below B w w') (hB : b < B) : TurnsAt w' b off n l :=
  fun k hk => ⟨(hb.cell (p := ⟨b, _, none⟩) hB).trans (h k hk).1, (hb.cell (p := ⟨b, _, none⟩) hB).trans (h k hk).2⟩
theorem rtime_is (x : Int) (b : Bool) (h : wi x 0 1073741824 = b) (w : World) :
    Calls Try.prog 9 #[.int .i64 x] w fun e w' => e = .returned (.bool b) ∧ w = w' := by
  go_enter Try.func9, Try.ntmps9
  go_wp2_with (go_at_call 10; refine (within_any _ _ _ _).mono ?_; rintro e w' ⟨rfl, rfl⟩)
  all_goals (go_ret; exact ⟨ret_bool (by simp [h]), rfl⟩)

set_option maxHeartbeats 1000000 in
theorem tchk_large (A : Option Addr) (n c : Nat) (fin : Int) (h : 64 < n) (w : World) :
    Calls Try.prog 7 #[.slice A n c, .int .i64 fin] w fun e w' => e = .returned (.int .i64 2) ∧ Below w.heap.size w w' := by
  go_enter Try.func7, Try.ntmps7
  go_wp2
  go_ret
  exact ⟨rfl, Below.refl _ _⟩
set_option maxHeartbeats 1000000 in
theorem tchk_end (A : Option Addr) (n c : Nat) (fin : Int) (h0 : n ≤ 64) (h : fin < 0 ∨ 1073741824 < fin) (w : World) :
    Calls Try.prog 7 #[.slice A n c, .int .i64 fin] w fun e w' => e = .returned (.int .i64 1) ∧ Below w.heap.size w w' := by
  go_enter Try.func7, Try.ntmps7
  go_wp2
  all_goals first
    | (exfalso; omega)
    | (go_ret; exact ⟨rfl, Below.refl _ _⟩)

set_option maxHeartbeats 1000000 in
theorem tchk_nil (A : Option Addr) (c : Nat) (fin : Int) (h1 : 0 ≤ fin) (h2 : fin ≤ 1073741824) (w : World) :
    Calls Try.prog 7 #[.slice A 0 c, .int .i64 fin] w fun e w' => e = .returned (.int .i64 0) ∧ Below w.heap.size w w' := by
  go_enter Try.func7, Try.ntmps7
  go_wp2
  go_loopw [5, 6, 8, 20] (fun l s _ i wr => l = .int .i64 0 ∧ s = .bool false ∧ i = .int .i64 0 ∧ wr = w) (fun _ _ _ _ _ => 0)
  case atStart => exact ⟨rfl, rfl, rfl, rfl⟩
  case round =>
    obtain ⟨rfl, rfl, rfl, rfl⟩ := hrel
    go_wp2
    go_ret
    exact ⟨rfl, Below.refl _ _⟩

set_option maxHeartbeats 2000000 in
theorem tchk_run (A : Option Addr) (c B n : Nat) (l0 : List Trn) (hn : l0.length = n) (fin : Int) (h0 : n ≤ 64) (hz : 1 ≤ n) (h1 : 0 ≤ fin) (h2 : fin ≤ 1073741824) (e0 : Int) (he : firstBad l0 fin n = e0) (w : World) (hr : Reads w B 2 A n (cellsT l0)) (hB : B ≤ w.heap.size) :
    Calls Try.prog 7 #[.slice A n c, .int .i64 fin] w fun e w' => e = .returned (.int .i64 e0) ∧ Below w.heap.size w w' := by
  obtain ⟨b, off, rfl, hb, hat⟩ := hr.turns hn (by omega)
  have hbw : b < w.heap.size := by omega
  have HA := Lib.hid hat
  have HE := Lib.hid he
  clear hn hr he hat hb hB
  go_enter Try.func7, Try.ntmps7
  go_wp2
  go_loopw [5, 6, 8, 20] (fun l s _ i wr => ∃ k : Nat, k ≤ n ∧ i = .int .i64 k ∧ l = .int .i64 (lowT l0 k) ∧ s = .bool (k % 2 == 1) ∧ firstBad l0 fin k = 0 ∧ Below w.heap.size w wr) (fun _ _ _ i _ => n - (intOf i).toNat)
  case atStart => exact ⟨0, Nat.zero_le _, rfl, rfl, rfl, rfl, Below.refl _ _⟩
  case round =>
    obtain ⟨k, hk, rfl, rfl, rfl, hrel, hbel⟩ := hrel
    have HF := Lib.hid hrel
    have HB := Lib.hid hbel
    have hsz := hbel.size
    clear hrel hbel
    have hpar : ((k : Int) % 2 == 0) = !(k % 2 == 1) := by
      rcases Nat.mod_two_eq_zero_or_one k with e | e
      · have : (k : Int) % 2 = 0 := by omega
        simp [e, this]
      · have : (k : Int) % 2 = 1 := by omega
        simp [e, this]
    have hpar2 : ((k + 1) % 2 == 1) = !(k % 2 == 1) := by
      rcases Nat.mod_two_eq_zero_or_one k with e | e <;> simp [e] <;> omega
    have HP2 := Lib.hid hpar2
    clear hpar2
    by_cases hlt : k < n
    · obtain ⟨x0, x1⟩ := HA.out.below HB.out hbw k hlt
      have HLO := Lib.hid (show lowT l0 (k + 1) = Tm l0 k from rfl)
      
      by_cases ht : Tm l0 k < lowT l0 k ∨ fin < Tm l0 k
      · have HR := Lib.hid (HE.out.symm.trans (firstBad_at l0 fin k n HF.out hlt 1 (stepE_time ht) (by decide)))
        have hwi : wi (Tm l0 k) (lowT l0 k) fin = false := wi_false.2 ht
        generalize Tm l0 k = t at *
        generalize lowT l0 k = lo at *
        generalize Sp l0 k = s at *
        generalize (k % 2 == 1) = p at *
        go_wp2
        all_goals first
          | (exfalso; omega)
          | (go_ret; exact ⟨ret_int HR.out.symm, HB.out.alloc (by omega) _⟩)
      · have t0 : lowT l0 k ≤ Tm l0 k := by omega
        have t1 : Tm l0 k ≤ fin := by omega
        have hwi : wi (Tm l0 k) (lowT l0 k) fin = true := wi_true.2 ⟨t0, t1⟩
        by_cases hs : Sp l0 k = (k % 2 == 1)
        · have HR := Lib.hid (HE.out.symm.trans (firstBad_at l0 fin k n HF.out hlt 3 (stepE_form t0 t1 hs) (by decide)))
          rw [hs] at x1
          have hq : ((k % 2 == 1) == (k % 2 == 1)) = true := by simp
          have hq2 : ((k % 2 == 1) != !(k % 2 == 1)) = true := by cases (k % 2 == 1) <;> rfl
          clear hs ht
          generalize Tm l0 k = t at *
          generalize lowT l0 k = lo at *
          generalize (k % 2 == 1) = p at *
          go_wp2
          all_goals first
            | (exfalso; omega)
            | (go_ret; exact ⟨ret_int HR.out.symm, HB.out.alloc (by omega) _⟩)
        · have hs2 : Sp l0 k = !(k % 2 == 1) := by
            revert hs
            cases Sp l0 k <;> cases (k % 2 == 1) <;> simp
          have HNX := Lib.hid (firstBad_next l0 fin k HF.out (stepE_good t0 t1 hs2))
          rw [hs2] at x1
          have hq : ((!(k % 2 == 1)) == (k % 2 == 1)) = false := by cases (k % 2 == 1) <;> rfl
          have hq2 : ((!(k % 2 == 1)) != !(k % 2 == 1)) = false := by cases (k % 2 == 1) <;> rfl
          clear hs ht hs2
          generalize Tm l0 k = t at *
          generalize lowT l0 k = lo at *
          generalize (k % 2 == 1) = p at *
          go_wp2
          go_quiet (fail)
          go_wp2
          go_roundw
          case rel => exact ⟨k + 1, hlt, by simp, by rw [HLO.out], by rw [HP2.out], HNX.out, below_drewN (HB.out.alloc (by omega) _) _⟩
          case measure => simp [intOf]; omega
    · have hkn : k = n := by omega
      subst hkn
      have HR := Lib.hid (HE.out.symm.trans HF.out)
      go_wp2
      go_ret
      exact ⟨ret_int HR.out.symm, HB.out⟩

set_option maxHeartbeats 1000000 in
theorem trns_large (A : Option Addr) (n c : Nat) (fin : Int) (h : 64 < n) (w : World) :
    Calls Try.prog 6 #[.slice A n c, .int .i64 fin] w fun e w' => e = .returned (.int .i64 2) ∧ Below w.heap.size w w' := by
  go_enter Try.func6, Try.ntmps6
  go_wp2
  go_ret
  exact ⟨rfl, Below.refl _ _⟩
set_option maxHeartbeats 1000000 in
theorem trns_end (A : Option Addr) (n c : Nat) (fin : Int) (h0 : n ≤ 64) (h : fin < 0 ∨ 1073741824 < fin) (w : World) :
    Calls Try.prog 6 #[.slice A n c, .int .i64 fin] w fun e w' => e = .returned (.int .i64 1) ∧ Below w.heap.size w w' := by
  have hw : wi fin 0 1073741824 = false := wi_false.2 h
  go_enter Try.func6, Try.ntmps6
  go_wp2_with (first | (go_at_call 10; refine (within_any _ _ _ _).mono ?_; rintro e' w' ⟨rfl, rfl⟩) | (go_at_call 9; refine (rtime_is _ _ rfl _).mono ?_; rintro e' w' ⟨rfl, rfl⟩))
  all_goals first
    | (exfalso; omega)
    | (go_ret; exact ⟨rfl, Below.refl _ _⟩)

set_option maxHeartbeats 1000000 in
theorem trns_nil (A : Option Addr) (c : Nat) (fin : Int) (h1 : 0 ≤ fin) (h2 : fin ≤ 1073741824) (w : World) :
    Calls Try.prog 6 #[.slice A 0 c, .int .i64 fin] w fun e w' => e = .returned (.int .i64 0) ∧ Below w.heap.size w w' := by
  have hw : wi fin 0 1073741824 = true := wi_true.2 ⟨h1, h2⟩
  go_enter Try.func6, Try.ntmps6
  go_wp2_with (first | (go_at_call 10; refine (within_any _ _ _ _).mono ?_; rintro e' w' ⟨rfl, rfl⟩) | (go_at_call 9; refine (rtime_is _ _ rfl _).mono ?_; rintro e' w' ⟨rfl, rfl⟩))
  go_loopw [5, 6, 7, 16] (fun _ _ _ i wr => i = .int .i64 0 ∧ wr = w) (fun _ _ _ _ _ => 0)
  case atStart => exact ⟨rfl, rfl⟩
  case round =>
    obtain ⟨rfl, rfl⟩ := hrel
    go_wp2_with (first | (go_at_call 10; refine (within_any _ _ _ _).mono ?_; rintro e' w' ⟨rfl, rfl⟩) | (go_at_call 9; refine (rtime_is _ _ rfl _).mono ?_; rintro e' w' ⟨rfl, rfl⟩))
    go_ret
    exact ⟨rfl, Below.refl _ _⟩

set_option maxHeartbeats 2000000 in
theorem trns_run (A : Option Addr) (c B n : Nat) (l0 : List Trn) (hn : l0.length = n) (fin : Int) (h0 : n ≤ 64) (hz : 1 ≤ n) (h1 : 0 ≤ fin) (h2 : fin ≤ 1073741824) (e0 : Int) (he : firstBad l0 fin n = e0) (w : World) (hr : Reads w B 2 A n (cellsT l0)) (hB : B ≤ w.heap.size) :
    Calls Try.prog 6 #[.slice A n c, .int .i64 fin] w fun e w' => e = .returned (.int .i64 e0) ∧ Below w.heap.size w w' := by
  have hw : wi fin 0 1073741824 = true := wi_true.2 ⟨h1, h2⟩
  obtain ⟨b, off, rfl, hb, hat⟩ := hr.turns hn (by omega)
  have hbw : b < w.heap.size := by omega
  have HA := Lib.hid hat
  have HE := Lib.hid he
  clear hn hr he hat hb hB
  go_enter Try.func6, Try.ntmps6
  go_wp2_with (first | (go_at_call 10; refine (within_any _ _ _ _).mono ?_; rintro e' w' ⟨rfl, rfl⟩) | (go_at_call 9; refine (rtime_is _ _ rfl _).mono ?_; rintro e' w' ⟨rfl, rfl⟩))
  go_loopw [5, 6, 7, 16] (fun _ _ _ i wr => ∃ k : Nat, k ≤ n ∧ i = .int .i64 k ∧ firstBad l0 fin k = 0 ∧ Below w.heap.size w wr) (fun _ _ _ i _ => n - (intOf i).toNat)
  case atStart => exact ⟨0, Nat.zero_le _, rfl, rfl, Below.refl _ _⟩
  case round =>
    obtain ⟨k, hk, rfl, hrel, hbel⟩ := hrel
    have HF := Lib.hid hrel
    have HB := Lib.hid hbel
    have hsz := hbel.size
    clear hrel hbel
    have hpar : ((k : Int) % 2 == 0) = !(k % 2 == 1) := by
      rcases Nat.mod_two_eq_zero_or_one k with e | e
      · have : (k : Int) % 2 = 0 := by omega
        simp [e, this]
      · have : (k : Int) % 2 = 1 := by omega
        simp [e, this]
    have hpar2 : ((k + 1) % 2 == 1) = !(k % 2 == 1) := by
      rcases Nat.mod_two_eq_zero_or_one k with e | e <;> simp [e] <;> omega
    have HP2 := Lib.hid hpar2
    clear hpar2
    by_cases hlt : k < n
    · cases k with
      | zero =>
        obtain ⟨x0, x1⟩ := HA.out.below HB.out hbw 0 hlt
        have hlow : lowT l0 0 = 0 := rfl
        by_cases ht : Tm l0 0 < 0 ∨ fin < Tm l0 0
        · have HR := Lib.hid (HE.out.symm.trans (firstBad_at l0 fin 0 n HF.out hlt 1 (stepE_time ht) (by decide)))
          have hwi : wi (Tm l0 0) (0) fin = false := wi_false.2 ht
          simp only [Nat.zero_mul, Nat.add_zero, Nat.zero_add] at x0 x1
          clear HE HF HA HP2 hlow hpar
          generalize Tm l0 0 = t at *
          generalize Sp l0 0 = s at *
          go_wp2_with (first | (go_at_call 10; refine (within_any _ _ _ _).mono ?_; rintro e' w' ⟨rfl, rfl⟩) | (go_at_call 9; refine (rtime_is _ _ rfl _).mono ?_; rintro e' w' ⟨rfl, rfl⟩))
          all_goals first
            | (exfalso; omega)
            | (go_ret; exact ⟨ret_int HR.out.symm, HB.out.alloc (by omega) _⟩)
        · have t0 : 0 ≤ Tm l0 0 := by omega
          have t1 : Tm l0 0 ≤ fin := by omega
          have hwi : wi (Tm l0 0) (0) fin = true := wi_true.2 ⟨t0, t1⟩
          by_cases hs : Sp l0 0 = (0 % 2 == 1)
          · have HR := Lib.hid (HE.out.symm.trans (firstBad_at l0 fin 0 n HF.out hlt 3 (stepE_form t0 t1 hs) (by decide)))
            rw [hs] at x1
            have e0 : ((0 % 2 == 1) : Bool) = false := rfl
            rw [e0] at x1
            clear e0
            clear hs ht
            simp only [Nat.zero_mul, Nat.add_zero, Nat.zero_add] at x0 x1
            clear HE HF HA HP2 hlow hpar
            generalize Tm l0 0 = t at *

            go_wp2_with (first | (go_at_call 10; refine (within_any _ _ _ _).mono ?_; rintro e' w' ⟨rfl, rfl⟩) | (go_at_call 9; refine (rtime_is _ _ rfl _).mono ?_; rintro e' w' ⟨rfl, rfl⟩))
            all_goals first
              | (exfalso; omega)
              | (go_ret; exact ⟨ret_int HR.out.symm, HB.out.alloc (by omega) _⟩)
          · have hs2 : Sp l0 0 = !(0 % 2 == 1) := by
              revert hs
              cases Sp l0 0 <;> cases (0 % 2 == 1) <;> simp
            have HNX := Lib.hid (firstBad_next l0 fin 0 HF.out (stepE_good t0 t1 hs2))
            rw [hs2] at x1
            have e0 : (!((0 % 2 == 1) : Bool)) = true := rfl
            rw [e0] at x1
            clear e0
            clear hs hs2 ht
            simp only [Nat.zero_mul, Nat.add_zero, Nat.zero_add] at x0 x1
            clear HE HF HA HP2 hlow hpar
            generalize Tm l0 0 = t at *

            go_wp2_with (first | (go_at_call 10; refine (within_any _ _ _ _).mono ?_; rintro e' w' ⟨rfl, rfl⟩) | (go_at_call 9; refine (rtime_is _ _ rfl _).mono ?_; rintro e' w' ⟨rfl, rfl⟩))
            go_roundw
            case rel => exact ⟨0 + 1, hlt, by simp, HNX.out, HB.out.alloc (by omega) _⟩
            case measure => simp [intOf]; omega
      | succ j =>
        obtain ⟨x0, x1⟩ := HA.out.below HB.out hbw (j + 1) hlt
        have y0 := (HA.out.below HB.out hbw j (by omega)).1
        have hlow : lowT l0 (j + 1) = Tm l0 j := rfl
        have hbr : b < wr.heap.size := by omega
        have y1 : (wr.alloc (.cells #[.int .i64 (Tm l0 (j + 1)), .bool (Sp l0 (j + 1))] 33)).cell? ⟨b, off + j * 2, none⟩ = some (.int .i64 (Tm l0 j)) := (World.cell?_alloc_lt wr _ ⟨b, _, none⟩ hbr).trans y0
        have hj0 : (0 : Int) < (j : Int) + 1 := by omega
        have hcast : ((j + 1 : Nat) : Int) = (j : Int) + 1 := by omega
        rw [hcast] at hpar ⊢
        clear hcast
        by_cases ht : Tm l0 (j + 1) < Tm l0 j ∨ fin < Tm l0 (j + 1)
        · have HR := Lib.hid (HE.out.symm.trans (firstBad_at l0 fin (j + 1) n HF.out hlt 1 (stepE_time ht) (by decide)))
          have hwi : wi (Tm l0 (j + 1)) (Tm l0 j) fin = false := wi_false.2 ht
          clear HE HF HA HP2 hlow hpar
          generalize Tm l0 (j + 1) = t at *
          generalize Tm l0 j = lo at *
          generalize Sp l0 (j + 1) = s at *
          go_wp2_with (first | (go_at_call 10; refine (within_any _ _ _ _).mono ?_; rintro e' w' ⟨rfl, rfl⟩) | (go_at_call 9; refine (rtime_is _ _ rfl _).mono ?_; rintro e' w' ⟨rfl, rfl⟩))
          all_goals first
            | (exfalso; omega)
            | (go_ret; exact ⟨ret_int HR.out.symm, HB.out.alloc (by omega) _⟩)
        · have t0 : Tm l0 j ≤ Tm l0 (j + 1) := by omega
          have t1 : Tm l0 (j + 1) ≤ fin := by omega
          have hwi : wi (Tm l0 (j + 1)) (Tm l0 j) fin = true := wi_true.2 ⟨t0, t1⟩
          by_cases hs : Sp l0 (j + 1) = ((j + 1) % 2 == 1)
          · have HR := Lib.hid (HE.out.symm.trans (firstBad_at l0 fin (j + 1) n HF.out hlt 3 (stepE_form t0 t1 hs) (by decide)))
            rw [hs] at x1
            have hpq : (((j : Int) + 1) % 2 == 0) = !((j + 1) % 2 == 1) := by simpa using hpar
            have hq2 : (((j + 1) % 2 == 1) != !((j + 1) % 2 == 1)) = true := by cases ((j + 1) % 2 == 1) <;> rfl
            clear hs ht
            clear HE HF HA HP2 hlow hpar
            generalize Tm l0 (j + 1) = t at *
            generalize Tm l0 j = lo at *
            generalize ((j + 1) % 2 == 1) = p at *
            go_wp2_with (first | (go_at_call 10; refine (within_any _ _ _ _).mono ?_; rintro e' w' ⟨rfl, rfl⟩) | (go_at_call 9; refine (rtime_is _ _ rfl _).mono ?_; rintro e' w' ⟨rfl, rfl⟩))
            all_goals first
              | (exfalso; omega)
              | (go_ret; exact ⟨ret_int HR.out.symm, HB.out.alloc (by omega) _⟩)
          · have hs2 : Sp l0 (j + 1) = !((j + 1) % 2 == 1) := by
              revert hs
              cases Sp l0 (j + 1) <;> cases ((j + 1) % 2 == 1) <;> simp
            have HNX := Lib.hid (firstBad_next l0 fin (j + 1) HF.out (stepE_good t0 t1 hs2))
            rw [hs2] at x1
            have hpq : (((j : Int) + 1) % 2 == 0) = !((j + 1) % 2 == 1) := by simpa using hpar
            have hq2 : ((!((j + 1) % 2 == 1)) != !((j + 1) % 2 == 1)) = false := by cases ((j + 1) % 2 == 1) <;> rfl
            clear hs hs2 ht
            clear HE HF HA HP2 hlow hpar
            generalize Tm l0 (j + 1) = t at *
            generalize Tm l0 j = lo at *
            generalize ((j + 1) % 2 == 1) = p at *
            go_wp2_with (first | (go_at_call 10; refine (within_any _ _ _ _).mono ?_; rintro e' w' ⟨rfl, rfl⟩) | (go_at_call 9; refine (rtime_is _ _ rfl _).mono ?_; rintro e' w' ⟨rfl, rfl⟩))
            go_roundw
            case rel => exact ⟨(j + 1) + 1, hlt, by simp, HNX.out, HB.out.alloc (by omega) _⟩
            case measure => simp [intOf]; omega
    · have hkn : k = n := by omega
      subst hkn
      have HR := Lib.hid (HE.out.symm.trans HF.out)
      go_wp2_with (first | (go_at_call 10; refine (within_any _ _ _ _).mono ?_; rintro e' w' ⟨rfl, rfl⟩) | (go_at_call 9; refine (rtime_is _ _ rfl _).mono ?_; rintro e' w' ⟨rfl, rfl⟩))
      go_ret
      exact ⟨ret_int HR.out.symm, HB.out⟩
end Go.Proofs.Ytldfppcdklnmlab
