/- The law VoteSays, walked. -/
import Derived.Test.YtmgkkbmcdnhdeaeVoteA
import Derived.Test.YtmgkkbmcdnhdeaeSorted
import Derived.Deep.DeepCutAuto
namespace Go.Proofs.Ytmgkkbmcdnhdeae
open Go.RowKit
set_option linter.unusedSimpArgs false
set_option linter.unusedVariables false

theorem levels_zero {l : List Int} {k : Int} (h : levelsE l k = 0) : l.length ≤ 64 ∧ voteE l = 0 ∧ 1 ≤ k ∧ k ≤ 64 := by
  unfold levelsE at h
  unfold voteE
  split at h
  · simp at h
  · rename_i h1
    split at h
    · simp at h
    · rename_i h2
      split at h
      · rename_i h3
        have := wi_true.1 h3
        rw [if_neg h1, if_neg h2]
        exact ⟨by omega, rfl, this.1, this.2⟩
      · simp at h
theorem levels_bad {l : List Int} {k e : Int} (h : levelsE l k = e) (hz : e ≠ 0) : voteE l = e ∨ (voteE l = 0 ∧ e = 1 ∧ (k < 1 ∨ 64 < k)) := by
  unfold levelsE at h
  unfold voteE
  split at h
  · rename_i h1; rw [if_pos h1]; exact .inl h
  · rename_i h1
    rw [if_neg h1]
    split at h
    · rename_i h2; rw [if_pos h2]; exact .inl h
    · rename_i h2
      rw [if_neg h2]
      split at h
      · exact absurd h.symm hz
      · rename_i h3
        exact .inr ⟨rfl, h.symm, wi_false.1 (by simpa using h3)⟩
theorem lt_place {T : List Int} (hs : T.Pairwise (· ≤ ·)) (t : Int) (p : Nat) (hp : p < T.length) : T.getD p 0 < t ↔ p < T.countP (So.lt t) := by
  induction T generalizing p with
  | nil => simp at hp
  | cons y T ih =>
    rw [List.pairwise_cons] at hs
    by_cases hy : y < t
    · rw [List.countP_cons_of_pos (by simp [So.lt, hy])]
      cases p with
      | zero => simp [hy]
      | succ p =>
        have := ih hs.2 p (by simpa using hp)
        simp only [List.getD_cons_succ, this]
        omega
    · have e0 : T.countP (So.lt t) = 0 := So.sorted_none fun z hz => by have := hs.1 z hz; omega
      rw [List.countP_cons_of_neg (by simp [So.lt]; omega), e0]
      cases p with
      | zero => simp; omega
      | succ p =>
        have := ih hs.2 p (by simpa using hp)
        simp only [List.getD_cons_succ, this, e0]
        omega
theorem geV_both (l : List Int) (t : Int) : l.countP (geV t) + l.countP (So.lt t) = l.length := by
  induction l with
  | nil => rfl
  | cons x l ih =>
    by_cases h : t ≤ x
    · rw [List.countP_cons_of_pos (by simp [geV, h]), List.countP_cons_of_neg (by simp [So.lt]; omega), List.length_cons]; omega
    · rw [List.countP_cons_of_neg (by simp [geV]; omega), List.countP_cons_of_pos (by simp [So.lt]; omega), List.length_cons]; omega
theorem geV_place {l T : List Int} (hT : So.IsSort l T) (t : Int) (k n : Nat) (hn : l.length = n) (hk0 : 1 ≤ k) (hk : k ≤ n) : ((k : Int) ≤ (l.countP (geV t) : Nat)) ↔ t ≤ T.getD (n - k) 0 := by
  have h1 := lt_place hT.1 t (n - k) (by rw [hT.2.length_eq]; omega)
  have h2 := geV_both T t
  rw [hT.2.length_eq, hn, hT.2.countP_eq] at h2
  omega

theorem vsome_e (A : Option Addr) (c B n : Nat) (l : List Int) (k t : Int) (hn : l.length = n) (e : Int) (he : levelsE l k = e) (hz : e ≠ 0) (hm : n ≤ maxLen) (w : World) (hr : Reads w B 1 A n (cellsI l)) :
    Calls Try.prog 7 #[.slice A n c, .int .i64 k, .int .i64 t] w fun e' w' => e' = .returned (.tuple #[.bool false, .int .i64 e]) ∧ w = w' := by
  rcases levels_bad he hz with h | ⟨h, rfl, hk⟩
  · exact some_err A c B n l k t hn e h hz hm w hr
  · exact some_arg A c B n l k t hn h (by omega) hm w hr
theorem vlevel_e (A : Option Addr) (c B n : Nat) (l : List Int) (k : Int) (hn : l.length = n) (e : Int) (he : levelsE l k = e) (hz : e ≠ 0) (hm : n ≤ maxLen) (w : World) (hr : Reads w B 1 A n (cellsI l)) :
    Calls Try.prog 8 #[.slice A n c, .int .i64 k] w fun e' w' => e' = .returned (.tuple #[.int .i64 0, .int .i64 e]) ∧ w = w' := by
  rcases levels_bad he hz with h | ⟨h, rfl, hk⟩
  · exact vlevel_err A c B n l k hn e h hz hm w hr
  · exact vlevel_arg A c B n l k hn h hk hm w hr
theorem some5 (w : World) : Calls Try.prog 7 #[.slice (some ⟨w.heap.size, 0, none⟩) 1 1, .int .i64 1, .int .i64 5] (w.alloc (.cells #[.int .i64 5] 3)) fun e' w' => e' = .returned (.tuple #[.bool true, .int .i64 0]) ∧ (w.alloc (.cells #[.int .i64 5] 3)) = w' :=
  (some_ok (some ⟨w.heap.size, 0, none⟩) 1 (w.heap.size + 1) 1 [5] 1 5 rfl (by decide) (by omega) (by omega) (by omega) (by omega) (by unfold maxLen; omega) _ ((reads_blk (T := [5]) (Blk.new w 3 _) rfl).more (by simp))).mono fun e w' ⟨h, h2⟩ => ⟨by rw [h]; rfl, h2⟩
























































































































































































































end Go.Proofs.Ytmgkkbmcdnhdeae
