/- marks.Check and the reference's Turns, walked. (with what it needs) -/
import Derived.Test.YtkgekhabafjpiabM07
import Derived.Test.YtkgekhabafjpiabM06
namespace Go.Proofs.Ytkgekhabafjpiab
open Go.RowKit
set_option linter.unusedSimpArgs false
set_option linter.unusedVariables false

def cellsT : List Trn → List Value
  | [] => []
  | x :: l => .int .i64 x.1 :: .bool x.2 :: cellsT l
theorem cellsT_len : ∀ l : List Trn, (cellsT l).length = l.length * 2
  | [] => rfl
  | x :: l => by simp only [cellsT, List.length_cons, cellsT_len l]; omega
theorem cellsT_at : ∀ (l : List Trn) (k : Nat), k < l.length → (cellsT l)[k * 2]? = some (.int .i64 (Tm l k)) ∧ (cellsT l)[k * 2 + 1]? = some (.bool (Sp l k))
  | [], k, h => by simp at h
  | x :: l, 0, _ => ⟨rfl, rfl⟩
  | x :: l, k + 1, h => by
    obtain ⟨a, b⟩ := cellsT_at l k (by simpa using h)
    rw [show (k + 1) * 2 = k * 2 + 2 by omega]
    exact ⟨by simpa [cellsT, Tm] using a, by simpa [cellsT, Sp] using b⟩
theorem cellsT_append (l m : List Trn) : cellsT (l ++ m) = cellsT l ++ cellsT m := by
  induction l with
  | nil => rfl
  | cons x l ih => simp [cellsT, ih]
theorem oneCell_turns (l : List Trn) : ∀ u ∈ cellsT l, u.oneCell' = true := by
  induction l with
  | nil => simp [cellsT]
  | cons x l ih =>
    intro u hu
    simp only [cellsT, List.mem_cons] at hu
    rcases hu with rfl | rfl | hu
    · rfl
    · rfl
    · exact ih u hu
theorem Reads.addr2 {w : World} {B n size : Nat} {A : Option Addr} {xs : List Value} (h : Reads w B size A n xs) (hn : 0 < n) (hs : 0 < size) :
    ∃ b off, A = some ⟨b, off, none⟩ ∧ b < B ∧ ∀ k u, xs[k]? = some u → w.cell? ⟨b, off + k, none⟩ = some u := by
  obtain ⟨ad, e, hb, hc⟩ := h.2 hn
  have hl : 0 < xs.length := by rw [h.1]; exact Nat.mul_pos hn hs
  have h0 := hc 0 _ (List.getElem?_eq_getElem hl)
  obtain ⟨b, off, spot⟩ := ad
  have hsp : spot = none := by simpa [Addr.add] using World.cell?_spot h0
  subst hsp
  refine ⟨b, off, e, hb, fun k u hu => ?_⟩
  have := hc k u hu
  by_cases hk : k = 0
  · subst hk; simpa [Addr.add] using this
  · simpa [Addr.add, hk] using this
/-- the turns of a slice, where they lie -/
def TurnsAt (w : World) (b off n : Nat) (l : List Trn) : Prop := ∀ k, k < n → w.cell? ⟨b, off + k * 2, none⟩ = some (.int .i64 (Tm l k)) ∧ w.cell? ⟨b, off + k * 2 + 1, none⟩ = some (.bool (Sp l k))
theorem Reads.turns {w : World} {B n : Nat} {A : Option Addr} {l : List Trn} (h : Reads w B 2 A n (cellsT l)) (hl : l.length = n) (hn : 0 < n) :
    ∃ b off, A = some ⟨b, off, none⟩ ∧ b < B ∧ TurnsAt w b off n l := by
  obtain ⟨b, off, e, hb, hc⟩ := h.addr2 hn (by decide)
  refine ⟨b, off, e, hb, fun k hk => ?_⟩
  obtain ⟨h1, h2⟩ := cellsT_at l k (by omega)
  exact ⟨hc _ _ h1, hc _ _ h2⟩
theorem TurnsAt.below {w w' : World} {b off n B : Nat} {l : List Trn} (h : TurnsAt w b off n l) (hb : Below B w w') (hB : b < B) : TurnsAt w' b off n l :=
  fun k hk => ⟨(hb.cell (p := ⟨b, _, none⟩) hB).trans (h k hk).1, (hb.cell (p := ⟨b, _, none⟩) hB).trans (h k hk).2⟩







set_option maxRecDepth 100000 in
set_option maxHeartbeats 1000000 in
theorem tchk_large (A : Option Addr) (n c : Nat) (fin : Int) (h : 64 < n) (w : World) :
    Calls Try.prog 28 #[.slice A n c, .int .i64 fin] w fun e w' => e = .returned (.int .i64 2) ∧ Below w.heap.size w w' := by
  go_enter Try.func28, Try.ntmps28
  go_wp2
  go_ret
  exact ⟨rfl, Below.refl _ _⟩
set_option maxRecDepth 100000 in
set_option maxHeartbeats 1000000 in
theorem tchk_end (A : Option Addr) (n c : Nat) (fin : Int) (h0 : n ≤ 64) (h : fin < 0 ∨ 1073741824 < fin) (w : World) :
    Calls Try.prog 28 #[.slice A n c, .int .i64 fin] w fun e w' => e = .returned (.int .i64 1) ∧ Below w.heap.size w w' := by
  go_enter Try.func28, Try.ntmps28
  go_wp2
  all_goals first
    | (exfalso; omega)
    | (go_ret; exact ⟨rfl, Below.refl _ _⟩)

set_option maxRecDepth 100000 in
set_option maxHeartbeats 1000000 in
theorem tchk_nil (A : Option Addr) (c : Nat) (fin : Int) (h1 : 0 ≤ fin) (h2 : fin ≤ 1073741824) (w : World) :
    Calls Try.prog 28 #[.slice A 0 c, .int .i64 fin] w fun e w' => e = .returned (.int .i64 0) ∧ Below w.heap.size w w' := by
  go_enter Try.func28, Try.ntmps28
  go_wp2
  go_loopw [5, 6, 8, 20] (fun l s _ i wr => l = .int .i64 0 ∧ s = .bool false ∧ i = .int .i64 0 ∧ wr = w) (fun _ _ _ _ _ => 0)
  case atStart => exact ⟨rfl, rfl, rfl, rfl⟩
  case round =>
    obtain ⟨rfl, rfl, rfl, rfl⟩ := hrel
    go_wp2
    go_ret
    exact ⟨rfl, Below.refl _ _⟩

set_option maxRecDepth 100000 in
set_option maxHeartbeats 2000000 in
theorem tchk_run (A : Option Addr) (c B n : Nat) (l0 : List Trn) (hn : l0.length = n) (fin : Int) (h0 : n ≤ 64) (hz : 1 ≤ n) (h1 : 0 ≤ fin) (h2 : fin ≤ 1073741824) (e0 : Int) (he : firstBad l0 fin n = e0) (w : World) (hr : Reads w B 2 A n (cellsT l0)) (hB : B ≤ w.heap.size) :
    Calls Try.prog 28 #[.slice A n c, .int .i64 fin] w fun e w' => e = .returned (.int .i64 e0) ∧ Below w.heap.size w w' := by
  obtain ⟨b, off, rfl, hb, hat⟩ := hr.turns hn (by omega)
  have hbw : b < w.heap.size := by omega
  have HA := Lib.hid hat
  have HE := Lib.hid he
  clear hn hr he hat hb hB
  go_enter Try.func28, Try.ntmps28
  go_wp2
  go_loopw [5, 6, 8, 20] (fun l s _ i wr => ∃ k : Nat, k ≤ n ∧ i = .int .i64 k ∧ l = .int .i64 (lowT l0 k) ∧ s = .bool (k % 2 == 1) ∧ firstBad l0 fin k = 0 ∧ Below w.heap.size w wr) (fun _ _ _ i _ => n - (intOf i).toNat)
  case atStart => exact ⟨0, Nat.zero_le _, rfl, rfl, rfl, rfl, Below.refl _ _⟩
  case round =>
    obtain ⟨k, hk, rfl, rfl, rfl, hrel, hbel⟩ := hrel
    have HF := Lib.hid hrel
    have HB := Lib.hid hbel
    have hsz := hbel.size
    clear hrel hbel
    have hpar : ((k : Int) % 2 == 0) = !(k % 2 == 1) := by
      rcases Nat.mod_two_eq_zero_or_one k with e | e
      · have : (k : Int) % 2 = 0 := by omega
        simp [e, this]
      · have : (k : Int) % 2 = 1 := by omega
        simp [e, this]
    have hpar2 : ((k + 1) % 2 == 1) = !(k % 2 == 1) := by
      rcases Nat.mod_two_eq_zero_or_one k with e | e <;> simp [e] <;> omega
    have HP2 := Lib.hid hpar2
    clear hpar2
    by_cases hlt : k < n
    · obtain ⟨x0, x1⟩ := HA.out.below HB.out hbw k hlt
      have HLO := Lib.hid (show lowT l0 (k + 1) = Tm l0 k from rfl)
      
      by_cases ht : Tm l0 k < lowT l0 k ∨ fin < Tm l0 k
      · have HR := Lib.hid (HE.out.symm.trans (firstBad_at l0 fin k n HF.out hlt 1 (stepE_time ht) (by decide)))
        have hwi : wi (Tm l0 k) (lowT l0 k) fin = false := wi_false.2 ht
        generalize Tm l0 k = t at *
        generalize lowT l0 k = lo at *
        generalize Sp l0 k = s at *
        generalize (k % 2 == 1) = p at *
        go_wp2
        all_goals first
          | (exfalso; omega)
          | (go_ret; exact ⟨ret_int HR.out.symm, HB.out.alloc (by omega) _⟩)
      · have t0 : lowT l0 k ≤ Tm l0 k := by omega
        have t1 : Tm l0 k ≤ fin := by omega
        have hwi : wi (Tm l0 k) (lowT l0 k) fin = true := wi_true.2 ⟨t0, t1⟩
        by_cases hs : Sp l0 k = (k % 2 == 1)
        · have HR := Lib.hid (HE.out.symm.trans (firstBad_at l0 fin k n HF.out hlt 3 (stepE_form t0 t1 hs) (by decide)))
          rw [hs] at x1
          have hq : ((k % 2 == 1) == (k % 2 == 1)) = true := by simp
          have hq2 : ((k % 2 == 1) != !(k % 2 == 1)) = true := by cases (k % 2 == 1) <;> rfl
          clear hs ht
          generalize Tm l0 k = t at *
          generalize lowT l0 k = lo at *
          generalize (k % 2 == 1) = p at *
          go_wp2
          all_goals first
            | (exfalso; omega)
            | (go_ret; exact ⟨ret_int HR.out.symm, HB.out.alloc (by omega) _⟩)
        · have hs2 : Sp l0 k = !(k % 2 == 1) := by
            revert hs
            cases Sp l0 k <;> cases (k % 2 == 1) <;> simp
          have HNX := Lib.hid (firstBad_next l0 fin k HF.out (stepE_good t0 t1 hs2))
          rw [hs2] at x1
          have hq : ((!(k % 2 == 1)) == (k % 2 == 1)) = false := by cases (k % 2 == 1) <;> rfl
          have hq2 : ((!(k % 2 == 1)) != !(k % 2 == 1)) = false := by cases (k % 2 == 1) <;> rfl
          clear hs ht hs2
          generalize Tm l0 k = t at *
          generalize lowT l0 k = lo at *
          generalize (k % 2 == 1) = p at *
          go_wp2
          go_quiet (fail)
          go_wp2
          go_roundw
          case rel => exact ⟨k + 1, hlt, by simp, by rw [HLO.out], by rw [HP2.out], HNX.out, below_drewN (HB.out.alloc (by omega) _) _⟩
          case measure => simp [intOf]; omega
    · have hkn : k = n := by omega
      subst hkn
      have HR := Lib.hid (HE.out.symm.trans HF.out)
      go_wp2
      go_ret
      exact ⟨ret_int HR.out.symm, HB.out⟩
















































































































































































end Go.Proofs.Ytkgekhabafjpiab

namespace Go.Proofs.Ytkgekhabafjpiab
open Go.RowKit
set_option linter.unusedSimpArgs false
set_option linter.unusedVariables false

def winE (cap : Int) (l : List Int) : Int := if wi cap 1 64 = true then (if cap < (l.length : Int) then 2 else listE l) else 1
theorem winE_zero {cap : Int} {l : List Int} (h : winE cap l = 0) : 1 ≤ cap ∧ cap ≤ 64 ∧ (l.length : Int) ≤ cap ∧ listE l = 0 := by
  unfold winE at h
  split at h
  · rename_i h1
    obtain ⟨a, b⟩ := wi_true.1 h1
    split at h
    · simp at h
    · exact ⟨a, b, by omega, h⟩
  · simp at h




set_option maxRecDepth 100000 in
set_option maxHeartbeats 1000000 in
theorem wchk_is (cap : Int) (A : Option Addr) (c B n : Nat) (l : List Int) (hn : l.length = n) (e : Int) (he : winE cap l = e) (hm : n ≤ maxLen) (w : World) (hr : Reads w B 1 A n (cellsI l)) (hB : B ≤ w.heap.size) :
    Calls Try.prog 45 #[.agg #[.int .i64 cap, .slice A n c]] w fun e' w' => e' = .returned (.int .i64 e) ∧ Below w.heap.size w w' := by
  subst he hn
  unfold winE
  have HC := Lib.hid (hr.alloc hB (.cells #[.int .i64 cap, .slice A l.length c] 90))
  clear hr hB
  by_cases h1 : wi cap 1 64 = true
  · rw [if_pos h1]
    obtain ⟨c0, c1⟩ := wi_true.1 h1
    clear h1
    by_cases h2 : cap < (l.length : Int)
    · rw [if_pos h2]
      generalize l.length = n at *
      go_enter Try.func45, Try.ntmps45
      go_wp2
      go_ret
      exact ⟨rfl, (Below.refl _ _).alloc (Nat.le_refl _) _⟩
    · rw [if_neg h2]
      have h3 : (l.length : Int) ≤ cap := by omega
      clear h2
      generalize hn : l.length = n at *
      have HN := Lib.hid hn
      generalize he : listE l = e
      have HE := Lib.hid he
      clear hn he
      go_enter Try.func45, Try.ntmps45
      go_wp2_with fail
      refine (wlist_is _ _ _ l n HN.out _ HE.out (by omega) _ HC.out).mono ?_
      rintro e' w' ⟨rfl, rfl⟩
      go_wp2
      go_ret
      exact ⟨rfl, (Below.refl _ _).alloc (Nat.le_refl _) _⟩
  · rw [if_neg h1]
    have h2 : cap < 1 ∨ 64 < cap := by
      have := wi_false.1 (by simpa using h1)
      exact this
    clear h1
    generalize l.length = n at *
    go_enter Try.func45, Try.ntmps45
    go_wp2
    all_goals first
      | (exfalso; omega)
      | (go_ret; exact ⟨rfl, (Below.refl _ _).alloc (Nat.le_refl _) _⟩)









































end Go.Proofs.Ytkgekhabafjpiab
