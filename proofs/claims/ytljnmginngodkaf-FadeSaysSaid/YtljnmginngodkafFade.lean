/- fade.Next and the reference's Next. -/
import Derived.Test.YtljnmginngodkafList
namespace Go.Proofs.Ytljnmginngodkaf
open Go.RowKit
set_option linter.unusedSimpArgs false
set_option linter.unusedVariables false

def NextArg (m v k : Int) : Prop := 0 ≤ m ∧ m ≤ 4294967296 ∧ 0 ≤ v ∧ v ≤ 16777216 ∧ 0 ≤ k ∧ k ≤ 8
instance (m v k : Int) : Decidable (NextArg m v k) := by unfold NextArg; infer_instance
def nextZ (m v : Int) (k : Nat) : Int := m + (256 * v - m) / 2 ^ k

theorem tdiv_rest (d p : Int) (hp : 0 < p) : d.tdiv p * p + d.tmod p = d ∧ -p < d.tmod p ∧ d.tmod p < p := by
  refine ⟨?_, ?_, Int.tmod_lt_of_pos d hp⟩
  · rw [Int.mul_comm]; exact Int.mul_tdiv_add_tmod d p
  · have h1 := Int.tmod_lt_of_pos (-d) hp
    rw [Int.neg_tmod] at h1
    omega
theorem tdiv_floor (d p : Int) (hp : 0 < p) : (d.tdiv p * p ≤ d → d / p = d.tdiv p) ∧ (d < d.tdiv p * p → d / p = d.tdiv p - 1) := by
  obtain ⟨h1, h2, h3⟩ := tdiv_rest d p hp
  constructor
  · intro h
    exact ((Int.ediv_emod_unique hp (r := d.tmod p)).2 ⟨by rw [Int.mul_comm]; omega, by omega, by omega⟩).1
  · intro h
    exact ((Int.ediv_emod_unique hp (r := d.tmod p + p)).2 ⟨by rw [Int.mul_sub, Int.mul_one, Int.mul_comm]; omega, by omega, by omega⟩).1
theorem pow_cases (k : Nat) (h : k ≤ 8) (P : Nat → Nat → Prop) (h0 : P 0 1) (h1 : P 1 2) (h2 : P 2 4) (h3 : P 3 8) (h4 : P 4 16) (h5 : P 5 32) (h6 : P 6 64) (h7 : P 7 128) (h8 : P 8 256) : P k (2 ^ k) := by
  have : k = 0 ∨ k = 1 ∨ k = 2 ∨ k = 3 ∨ k = 4 ∨ k = 5 ∨ k = 6 ∨ k = 7 ∨ k = 8 := by omega
  rcases this with rfl | rfl | rfl | rfl | rfl | rfl | rfl | rfl | rfl <;> assumption
theorem div_bd (d : Int) (p : Nat) (hp : 1 ≤ p) (h0 : -4294967296 ≤ d) (h1 : d ≤ 4294967296) : -4294967296 ≤ d / (p : Int) ∧ d / (p : Int) ≤ 4294967296 := by
  have hp' : (0 : Int) < p := by omega
  constructor
  · rw [Int.le_ediv_iff_mul_le hp']
    omega
  · have : d / (p : Int) < 4294967297 := by
      rw [Int.ediv_lt_iff_lt_mul hp']
      omega
    omega
theorem tdiv_bd (d : Int) (p : Nat) (hp : 1 ≤ p) (hp2 : p ≤ 256) (h0 : -4294967296 ≤ d) (h1 : d ≤ 4294967296) :
    -4294967296 ≤ d.tdiv p ∧ d.tdiv p ≤ 4294967297 ∧ -4294967552 ≤ d.tdiv p * p ∧ d.tdiv p * p ≤ 4294967552 := by
  obtain ⟨b0, b1⟩ := div_bd d p hp h0 h1
  obtain ⟨r0, r1, r2⟩ := tdiv_rest d p (by omega)
  obtain ⟨f0, f1⟩ := tdiv_floor d p (by omega)
  rcases Int.lt_or_le d (d.tdiv p * p) with h | h
  · have := f1 h; omega
  · have := f0 h; omega

theorem fcheck_ok (m : Int) (h0 : 0 ≤ m) (h1 : m ≤ 4294967296) (w : World) :
    Calls Try.prog 9 #[.int .i64 m] w fun e w' => e = .returned (.int .i64 0) ∧ w = w' := by
  go_enter Try.func9, Try.ntmps9
  go_wp2
  go_ret
  exact ⟨rfl, rfl⟩
theorem fcheck_bad (m : Int) (h : m < 0 ∨ 4294967296 < m) (w : World) :
    Calls Try.prog 9 #[.int .i64 m] w fun e w' => e = .returned (.int .i64 1) ∧ w = w' := by
  go_enter Try.func9, Try.ntmps9
  go_wp2
  all_goals first
    | (exfalso; omega)
    | (go_ret;exact ⟨rfl, rfl⟩)

set_option maxHeartbeats 1000000 in
theorem fnext_bad (m v k : Int) (h : ¬ NextArg m v k) (w : World) :
    Calls Try.prog 4 #[.int .i64 m, .int .i64 v, .int .i64 k] w fun e w' => e = .returned (.tuple #[.int .i64 0, .int .i64 1]) ∧ w = w' := by
  by_cases hm : m < 0 ∨ 4294967296 < m
  · have HM := Lib.hid hm
    clear h hm
    go_enter Try.func4, Try.ntmps4
    go_wp2_with (go_at_call 9; refine (fcheck_bad _ HM.out _).mono ?_; rintro e w' ⟨rfl, rfl⟩)
    refine bodyPost_ret (v := .tuple #[.int .i64 0, .int .i64 1]) (by simp [results, Try.results4, go_sem]) rfl ⟨rfl, rfl⟩
  · have h' : v < 0 ∨ 16777216 < v ∨ k < 0 ∨ 8 < k := by unfold NextArg at h; omega
    have m0 : 0 ≤ m := by omega
    have m1 : m ≤ 4294967296 := by omega
    clear h hm
    by_cases hv : wi v 0 16777216 = false
    · clear h'
      go_enter Try.func4, Try.ntmps4
      go_wp2_with (first | (go_at_call 9; refine (fcheck_ok _ m0 m1 _).mono ?_; rintro e w' ⟨rfl, rfl⟩) | (go_at_call 10; refine (lval_any _ _).mono ?_; rintro e w' ⟨rfl, rfl⟩))
      refine bodyPost_ret (v := .tuple #[.int .i64 0, .int .i64 1]) (by simp [results, Try.results4, go_sem]) rfl ⟨rfl, rfl⟩
    · have hv' : wi v 0 16777216 = true := by simpa using hv
      have hk : k < 0 ∨ 8 < k := by have := wi_true.1 hv'; omega
      clear h' hv
      go_enter Try.func4, Try.ntmps4
      go_wp2_with (first | (go_at_call 9; refine (fcheck_ok _ m0 m1 _).mono ?_; rintro e w' ⟨rfl, rfl⟩) | (go_at_call 10; refine (lval_any _ _).mono ?_; rintro e w' ⟨rfl, rfl⟩))
      all_goals first
        | (exfalso; omega)
        | (refine bodyPost_ret (v := .tuple #[.int .i64 0, .int .i64 1]) (by simp [results, Try.results4, go_sem]) rfl ⟨rfl, rfl⟩)

set_option maxHeartbeats 1000000 in
theorem fnext_ok (m v : Int) (k : Nat) (h : NextArg m v k) (w : World) :
    Calls Try.prog 4 #[.int .i64 m, .int .i64 v, .int .i64 k] w fun e w' => e = .returned (.tuple #[.int .i64 (nextZ m v k), .int .i64 0]) ∧ w = w' := by
  obtain ⟨m0, m1, v0, v1, k0, k1⟩ := h
  have hv : wi v 0 16777216 = true := wi_true.2 ⟨v0, v1⟩
  have hb := div_bd (256 * v - m) (2 ^ k) Nat.one_le_two_pow (by omega) (by omega)
  rw [Int.natCast_pow] at hb
  obtain ⟨d0, d1⟩ : -4294967296 ≤ (256 * v - m) / 2 ^ k ∧ (256 * v - m) / 2 ^ k ≤ 4294967296 := hb
  go_enter Try.func4, Try.ntmps4
  go_wp2_with (first | (go_at_call 9; refine (fcheck_ok _ m0 m1 _).mono ?_; rintro e w' ⟨rfl, rfl⟩) | (go_at_call 10; refine (lval_any _ _).mono ?_; rintro e w' ⟨rfl, rfl⟩))
  refine bodyPost_ret (v := .tuple #[.int .i64 (nextZ m v k), .int .i64 0]) (by simp [results, Try.results4, go_sem, nextZ]) rfl ⟨rfl, rfl⟩

set_option maxHeartbeats 1000000 in
theorem rnext_ok (m v : Int) (k : Nat) (h : NextArg m v k) (w : World) :
    Calls Try.prog 7 #[.int .i64 m, .int .i64 v, .int .i64 k] w fun e w' => e = .returned (.int .i64 (nextZ m v k)) ∧ w = w' := by
  obtain ⟨m0, m1, v0, v1, k0, k1⟩ := h
  go_enter Try.func7, Try.ntmps7
  go_wp2
  go_loop [8, 15] (fun p i => ∃ j : Nat, j ≤ k ∧ i = .int .i64 j ∧ p = .int .i64 (2 ^ j : Nat)) (fun _ i => k - (intOf i).toNat)
  case atStart => exact ⟨0, Nat.zero_le _, rfl, rfl⟩
  case round =>
    obtain ⟨j, hj, rfl, rfl⟩ := hrel
    have hp0 : 1 ≤ 2 ^ j := Nat.one_le_two_pow
    have hp1 : 2 ^ j ≤ 256 := by
      have : 2 ^ j ≤ 2 ^ 8 := Nat.pow_le_pow_right (by omega) (by omega)
      simpa using this
    have HP := Lib.hid (Nat.pow_succ (n := 2) (m := j))
    generalize hp : 2 ^ j = p at *
    have HPP := Lib.hid hp
    clear hp
    obtain ⟨t0, t1, t2, t3⟩ := tdiv_bd (256 * v - m) p hp0 hp1 (by omega) (by omega)
    have HF := Lib.hid (tdiv_floor (256 * v - m) p (by omega))
    by_cases hlt : j < k
    · go_wp2
      refine ⟨⟨j + 1, hlt, by simp, ?_⟩, ?_⟩
      · rw [HP.out]; simp
      · simp [intOf]; omega
    · have hjk : j = k := by omega
      have hpk : (2 : Int) ^ k = (p : Int) := by rw [← HPP.out, hjk]; simp
      have HK := Lib.hid hpk
      clear hjk hpk
      go_wp2
      all_goals
        go_ret
        refine ⟨ret_int ?_, rfl⟩
        unfold nextZ
        rw [HK.out]
        have f0 := HF.out.1
        have f1 := HF.out.2
        omega
end Go.Proofs.Ytljnmginngodkaf
