/- stat.Mean, Spread and the reference's Spread. (with what it needs) -/
import Derived.Test.YtkgekhabafjpiabM06
import Derived.Test.YtkgekhabafjpiabM05
namespace Go.Proofs.Ytkgekhabafjpiab
open Go.RowKit
set_option linter.unusedSimpArgs false
set_option linter.unusedVariables false

set_option maxRecDepth 100000 in
set_option maxHeartbeats 1000000 in
theorem spread_err (n s q : Int) (e : Int) (he : sumsE n s q = e) (hn : e ≠ 0) (w : World) :
    Calls Try.prog 60 #[.agg #[.int .i64 n, .int .i64 s, .int .i64 q]] w fun e' w' => e' = .returned (.tuple #[.int .i64 (0), .int .i64 e]) ∧ Below w.heap.size w w' := by
  have HE := Lib.hid he
  clear he
  have E := Lib.hid ((Env.start w).lay #[.int .i64 n, .int .i64 s, .int .i64 q] 123)
  go_enter Try.func60, Try.ntmps60
  go_wp2_with fail
  refine (check_is _ _ _ _ HE.out _).mono ?_
  rintro e' w1 ⟨rfl, hb1⟩
  have E1 := Lib.hid (E.out.below hb1)
  clear hb1
  have p0 := E1.out.hd.lt
  have a0 := E1.out.hd.cell 0
  have a1 := E1.out.hd.cell 1
  have a2 := E1.out.hd.cell 2
  simp at a0 a1 a2 p0
  go_wp2
  refine bodyPost_ret (v := .tuple #[.int .i64 (0), .int .i64 e]) (by simp [results, Try.results60, go_sem] <;> omega) rfl ⟨rfl, E1.out.bel⟩

set_option maxRecDepth 100000 in
set_option maxHeartbeats 1000000 in
theorem spread_ok (n s q : Int) (he : sumsE n s q = 0) (w : World) :
    Calls Try.prog 60 #[.agg #[.int .i64 n, .int .i64 s, .int .i64 q]] w fun e' w' => e' = .returned (.tuple #[.int .i64 (n * q - s * s), .int .i64 0]) ∧ Below w.heap.size w w' := by
  have HE := Lib.hid he
  clear he
  obtain ⟨b1, b2, b3, b4, b5, b6⟩ := (sumsE_zero HE.out).1.bounds
  obtain ⟨h0, h1, h2, h3, h4, h5⟩ := (sumsE_zero HE.out).1
  have E := Lib.hid ((Env.start w).lay #[.int .i64 n, .int .i64 s, .int .i64 q] 123)
  go_enter Try.func60, Try.ntmps60
  go_wp2_with fail
  refine (check_is _ _ _ _ HE.out _).mono ?_
  rintro e' w1 ⟨rfl, hb1⟩
  have E1 := Lib.hid (E.out.below hb1)
  clear hb1
  have p0 := E1.out.hd.lt
  have a0 := E1.out.hd.cell 0
  have a1 := E1.out.hd.cell 1
  have a2 := E1.out.hd.cell 2
  simp at a0 a1 a2 p0
  go_wp2
  refine bodyPost_ret (v := .tuple #[.int .i64 (n * q - s * s), .int .i64 0]) (by simp [results, Try.results60, go_sem] <;> omega) rfl ⟨rfl, E1.out.bel⟩












end Go.Proofs.Ytkgekhabafjpiab

namespace Go.Proofs.Ytkgekhabafjpiab
open Go.RowKit
set_option linter.unusedSimpArgs false
set_option linter.unusedVariables false

def s1 : List Int → Int | [] => 0 | x :: l => s1 l + x
def s2 : List Int → Int | [] => 0 | x :: l => s2 l + x * x
theorem s1_snoc (l : List Int) (x : Int) : s1 (l ++ [x]) = s1 l + x := by
  induction l with
  | nil => simp [s1]
  | cons y l ih => simp [s1, ih]; omega
theorem s2_snoc (l : List Int) (x : Int) : s2 (l ++ [x]) = s2 l + x * x := by
  induction l with
  | nil => simp [s2]
  | cons y l ih => simp [s2, ih]; omega
theorem s_bd (l : List Int) (h : l.any offI = false) : 0 ≤ s1 l ∧ s1 l ≤ l.length * 16777216 ∧ 0 ≤ s2 l ∧ s2 l ≤ l.length * 281474976710656 := by
  induction l with
  | nil => simp [s1, s2]
  | cons x l ih =>
    simp only [List.any_cons, Bool.or_eq_false_iff] at h
    obtain ⟨i0, i1, i2, i3⟩ := ih h.2
    have hx : wi x 0 16777216 = true := by have := h.1; unfold offI at this; simpa using this
    obtain ⟨x0, x1⟩ := wi_true.1 hx
    have y0 := Int.mul_nonneg x0 x0
    have y1 := Int.mul_le_mul x1 x1 x0 (by omega : (0 : Int) ≤ 16777216)
    simp only [s1, s2, List.length_cons]
    refine ⟨by omega, by omega, by omega, by omega⟩
theorem take_next (l : List Int) (k : Nat) (h : k < l.length) : l.take (k + 1) = l.take k ++ [l.getD k 0] := by
  rw [List.take_add_one, List.getElem?_eq_getElem h]
  simp [List.getD, List.getElem?_eq_getElem h]
theorem off_take {l : List Int} (h : l.any offI = false) (k : Nat) : (l.take k).any offI = false := by
  rw [List.any_eq_false] at h ⊢
  exact fun x hx => h x (List.mem_of_mem_take hx)
def t1 (l : List Int) (k : Nat) : Int := s1 (l.take k)
def t2 (l : List Int) (k : Nat) : Int := s2 (l.take k)
theorem t_succ (l : List Int) (k : Nat) (h : k < l.length) : t1 l (k + 1) = t1 l k + l.getD k 0 ∧ t2 l (k + 1) = t2 l k + l.getD k 0 * l.getD k 0 := by
  unfold t1 t2
  rw [take_next l k h, s1_snoc, s2_snoc]
  exact ⟨rfl, rfl⟩
theorem t_bd (l : List Int) (k : Nat) (h : l.any offI = false) (h64 : l.length ≤ 64) : 0 ≤ t1 l k ∧ t1 l k ≤ 1073741824 ∧ 0 ≤ t2 l k ∧ t2 l k ≤ 18014398509481984 := by
  obtain ⟨a, b, c, d⟩ := s_bd (l.take k) (off_take h k)
  have : (l.take k).length ≤ 64 := by rw [List.length_take]; omega
  unfold t1 t2
  refine ⟨a, by omega, c, by omega⟩
theorem t_all (l : List Int) : t1 l l.length = s1 l ∧ t2 l l.length = s2 l := by unfold t1 t2; rw [List.take_length]; exact ⟨rfl, rfl⟩

theorem Env.set_hd {w0 W : World} {l : List (Nat × TypeId × Array Value)} {g : Nat} {t : TypeId} {cs : Array Value} (h : Env w0 W ((g, t, cs) :: l)) (hd : ∀ x ∈ l, x.1 ≠ g) (i : Nat) (u : Value) :
    Env w0 (W.setCell ⟨g, i, none⟩ u) ((g, t, cs.setIfInBounds i u) :: l) := by
  have hg := (h.2 _ (List.mem_cons_self ..)).1
  refine ⟨h.1.setCell hg _, fun x hx => ?_⟩
  rcases List.mem_cons.1 hx with rfl | hx
  · exact ⟨hg, h.hd.set_ i u⟩
  · have := h.2 x (List.mem_cons_of_mem _ hx)
    exact ⟨this.1, this.2.far (p := ⟨g, i, none⟩) (hd x hx) u⟩

end Go.Proofs.Ytkgekhabafjpiab

namespace Go.Proofs.Ytkgekhabafjpiab
set_option linter.unusedVariables false
abbrev Trn := Int × Bool
def Tm (l : List Trn) (k : Nat) : Int := (l.getD k (0, false)).1
def Sp (l : List Trn) (k : Nat) : Bool := (l.getD k (0, false)).2
def lowT (l : List Trn) : Nat → Int
  | 0 => 0
  | k + 1 => Tm l k
def stepE (l : List Trn) (fin : Int) (k : Nat) : Int := if wi (Tm l k) (lowT l k) fin = true then (if Sp l k = (k % 2 == 1) then 3 else 0) else 1
def firstBad (l : List Trn) (fin : Int) : Nat → Int
  | 0 => 0
  | k + 1 => if firstBad l fin k = 0 then stepE l fin k else firstBad l fin k
def turnsE (l : List Trn) (fin : Int) : Int := if 64 < l.length then 2 else if wi fin 0 1073741824 = true then firstBad l fin l.length else 1

theorem firstBad_stay (l : List Trn) (fin : Int) (k : Nat) (h : firstBad l fin k ≠ 0) : ∀ d, firstBad l fin (k + d) = firstBad l fin k
  | 0 => rfl
  | d + 1 => by
    show (if firstBad l fin (k + d) = 0 then _ else firstBad l fin (k + d)) = _
    rw [firstBad_stay l fin k h d, if_neg h]
theorem firstBad_at (l : List Trn) (fin : Int) (k n : Nat) (h0 : firstBad l fin k = 0) (hk : k < n) (e : Int) (he : stepE l fin k = e) (hz : e ≠ 0) : firstBad l fin n = e := by
  have h1 : firstBad l fin (k + 1) = e := by show (if firstBad l fin k = 0 then _ else _) = _; rw [if_pos h0, he]
  have h2 := firstBad_stay l fin (k + 1) (by rw [h1]; exact hz) (n - (k + 1))
  rw [show k + 1 + (n - (k + 1)) = n by omega] at h2
  rw [h2, h1]
theorem firstBad_next (l : List Trn) (fin : Int) (k : Nat) (h0 : firstBad l fin k = 0) (he : stepE l fin k = 0) : firstBad l fin (k + 1) = 0 := by
  show (if firstBad l fin k = 0 then _ else _) = _; rw [if_pos h0, he]
theorem firstBad_zero (l : List Trn) (fin : Int) : ∀ n, firstBad l fin n = 0 → ∀ k, k < n → stepE l fin k = 0
  | 0, _, k, hk => by omega
  | n + 1, h, k, hk => by
    have h' : (if firstBad l fin n = 0 then stepE l fin n else firstBad l fin n) = 0 := h
    by_cases hn : firstBad l fin n = 0
    · rw [if_pos hn] at h'
      by_cases e : k = n
      · subst e; exact h'
      · exact firstBad_zero l fin n hn k (by omega)
    · rw [if_neg hn] at h'; exact absurd h' hn
theorem stepE_ok {l : List Trn} {fin : Int} {k : Nat} (h : stepE l fin k = 0) : lowT l k ≤ Tm l k ∧ Tm l k ≤ fin ∧ Sp l k = !(k % 2 == 1) := by
  unfold stepE at h
  split at h
  · rename_i hw
    split at h
    · simp at h
    · rename_i hs
      obtain ⟨a, b⟩ := wi_true.1 hw
      refine ⟨a, b, ?_⟩
      revert hs
      cases Sp l k <;> cases (k % 2 == 1) <;> simp
  · simp at h
theorem stepE_time {l : List Trn} {fin : Int} {k : Nat} (h : Tm l k < lowT l k ∨ fin < Tm l k) : stepE l fin k = 1 := by
  unfold stepE
  rw [if_neg (by have := wi_false.2 h; simp [this])]
theorem stepE_form {l : List Trn} {fin : Int} {k : Nat} (h1 : lowT l k ≤ Tm l k) (h2 : Tm l k ≤ fin) (h : Sp l k = (k % 2 == 1)) : stepE l fin k = 3 := by
  unfold stepE
  rw [if_pos (wi_true.2 ⟨h1, h2⟩), if_pos h]
theorem stepE_good {l : List Trn} {fin : Int} {k : Nat} (h1 : lowT l k ≤ Tm l k) (h2 : Tm l k ≤ fin) (h : Sp l k = !(k % 2 == 1)) : stepE l fin k = 0 := by
  unfold stepE
  rw [if_pos (wi_true.2 ⟨h1, h2⟩), if_neg (by rw [h]; cases (k % 2 == 1) <;> simp)]

/-- the turns, and the end behind them -/
def withEnd (l : List Trn) (fin : Int) : List Trn := l ++ [(fin, false)]
theorem Tm_with {l : List Trn} {fin : Int} {k : Nat} (h : k < l.length) : Tm (withEnd l fin) k = Tm l k := by
  unfold Tm withEnd
  simp [List.getD, List.getElem?_append_left h]
theorem Tm_end (l : List Trn) (fin : Int) : Tm (withEnd l fin) l.length = fin := by
  unfold Tm withEnd
  simp [List.getD]
theorem Sp_with {l : List Trn} {fin : Int} {k : Nat} (h : k < l.length) : Sp (withEnd l fin) k = Sp l k := by
  unfold Sp withEnd
  simp [List.getD, List.getElem?_append_left h]
theorem Sp_end (l : List Trn) (fin : Int) : Sp (withEnd l fin) l.length = false := by
  unfold Sp withEnd
  simp [List.getD]
def badT (l : List Trn) : Nat → Int
  | 0 => 0
  | k + 1 => badT l k + (if k % 2 = 1 then Tm l k - lowT l k else 0)
def goodT (l : List Trn) : Nat → Int
  | 0 => 0
  | k + 1 => goodT l k + (if k % 2 = 1 then 0 else Tm l k - lowT l k)
theorem bad_good (l : List Trn) : ∀ k, badT l k + goodT l k = lowT l k
  | 0 => rfl
  | k + 1 => by
    have := bad_good l k
    show badT l (k + 1) + goodT l (k + 1) = Tm l k
    simp only [badT, goodT]
    split <;> omega
def Fits (l : List Trn) (fin : Int) : Prop := 0 ≤ fin ∧ fin ≤ 1073741824 ∧ l.length ≤ 64 ∧ ∀ k, k < l.length → stepE l fin k = 0
theorem turnsE_zero {l : List Trn} {fin : Int} (h : turnsE l fin = 0) : Fits l fin := by
  unfold turnsE at h
  split at h
  · simp at h
  · split at h
    · rename_i h1 h2
      obtain ⟨a, b⟩ := wi_true.1 h2
      exact ⟨a, b, by omega, firstBad_zero l fin _ h⟩
    · simp at h
theorem Fits.low {l : List Trn} {fin : Int} (h : Fits l fin) : ∀ k, k ≤ l.length + 1 → 0 ≤ lowT (withEnd l fin) k ∧ lowT (withEnd l fin) k ≤ fin := by
  intro k
  induction k with
  | zero => intro _; exact ⟨Int.le_refl _, h.1⟩
  | succ k ih =>
    intro hk
    obtain ⟨i0, i1⟩ := ih (by omega)
    show 0 ≤ Tm (withEnd l fin) k ∧ Tm (withEnd l fin) k ≤ fin
    by_cases e : k = l.length
    · subst e; rw [Tm_end]; exact ⟨h.1, Int.le_refl _⟩
    · obtain ⟨a, b, c⟩ := stepE_ok (h.2.2.2 k (by omega))
      rw [Tm_with (by omega)]
      have e2 : lowT (withEnd l fin) k = lowT l k := by
        cases k with
        | zero => rfl
        | succ j => exact Tm_with (by omega)
      omega
theorem low_with {l : List Trn} {fin : Int} : ∀ k, k ≤ l.length → lowT (withEnd l fin) k = lowT l k
  | 0, _ => rfl
  | k + 1, h => Tm_with (by omega)
theorem Fits.step {l : List Trn} {fin : Int} (h : Fits l fin) (k : Nat) (hk : k ≤ l.length) : lowT (withEnd l fin) k ≤ Tm (withEnd l fin) k ∧ Tm (withEnd l fin) k ≤ fin := by
  by_cases e : k = l.length
  · subst e; rw [Tm_end]; exact ⟨(h.low _ (by omega)).2, Int.le_refl _⟩
  · obtain ⟨a, b, c⟩ := stepE_ok (h.2.2.2 k (by omega))
    rw [Tm_with (by omega), low_with k hk]
    exact ⟨a, b⟩
theorem Fits.bad {l : List Trn} {fin : Int} (h : Fits l fin) : ∀ k, k ≤ l.length + 1 → 0 ≤ badT (withEnd l fin) k ∧ 0 ≤ goodT (withEnd l fin) k ∧ badT (withEnd l fin) k ≤ 1073741824 ∧ goodT (withEnd l fin) k ≤ 1073741824 := by
  intro k
  induction k with
  | zero => intro _; simp [badT, goodT]
  | succ k ih =>
    intro hk
    obtain ⟨i0, i1, i2, i3⟩ := ih (by omega)
    obtain ⟨s0, s1⟩ := h.step k (by omega)
    have hg := bad_good (withEnd l fin) (k + 1)
    obtain ⟨l0, l1⟩ := h.low (k + 1) hk
    have h1 := h.2.1
    have b0 : 0 ≤ badT (withEnd l fin) (k + 1) := by simp only [badT]; split <;> omega
    have g0 : 0 ≤ goodT (withEnd l fin) (k + 1) := by simp only [goodT]; split <;> omega
    exact ⟨b0, g0, by omega, by omega⟩
theorem good_end (l : List Trn) (fin : Int) : goodT (withEnd l fin) (l.length + 1) = fin - badT (withEnd l fin) (l.length + 1) := by
  have := bad_good (withEnd l fin) (l.length + 1)
  have e : lowT (withEnd l fin) (l.length + 1) = fin := Tm_end l fin
  omega
theorem bad_pair (l : List Trn) (j : Nat) : badT l (2 * (j + 1)) = badT l (2 * j) + (Tm l (2 * j + 1) - Tm l (2 * j)) := by
  show badT l (2 * j + 1 + 1) = _
  simp only [badT, lowT]
  rw [if_neg (by omega), if_pos (by omega)]
  omega
theorem bad_even (l : List Trn) (k : Nat) (h : k % 2 = 0) : badT l (k + 1) = badT l k := by
  simp only [badT]
  rw [if_neg (by omega)]
  omega

/-- how many of them stand at or ahead of a time, from the first on -/
def cntT (l : List Trn) (t : Int) : Nat := (l.takeWhile fun x => decide (x.1 ≤ t)).length
theorem cntT_at : ∀ (l : List Trn) (t : Int) (k : Nat), k < l.length → (∀ j, j < k → Tm l j ≤ t) → t < Tm l k → cntT l t = k
  | [], t, k, h, _, _ => by simp at h
  | x :: l, t, 0, h, _, h2 => by
    have : t < x.1 := h2
    unfold cntT
    rw [List.takeWhile_cons, if_neg (by simpa using this)]
    rfl
  | x :: l, t, k + 1, h, h1, h2 => by
    have h0 : x.1 ≤ t := h1 0 (by omega)
    have := cntT_at l t k (by simpa using h) (fun j hj => h1 (j + 1) (by omega)) h2
    unfold cntT at this ⊢
    rw [List.takeWhile_cons, if_pos (by simpa using h0), List.length_cons, this]
theorem cntT_all : ∀ (l : List Trn) (t : Int), (∀ j, j < l.length → Tm l j ≤ t) → cntT l t = l.length
  | [], t, _ => rfl
  | x :: l, t, h => by
    have h0 : x.1 ≤ t := h 0 (by simp)
    have := cntT_all l t (fun j hj => h (j + 1) (by simpa using hj))
    unfold cntT at this ⊢
    rw [List.takeWhile_cons, if_pos (by simpa using h0), List.length_cons, this, List.length_cons]
end Go.Proofs.Ytkgekhabafjpiab
