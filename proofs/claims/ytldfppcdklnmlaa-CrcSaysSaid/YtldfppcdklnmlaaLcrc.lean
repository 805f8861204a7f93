/- The law CrcSays, walked. -/
import Derived.Test.YtldfppcdklnmlaaCrcOf
namespace Go.Proofs.Ytldfppcdklnmlaa
open Go.RowKit
set_option linter.unusedSimpArgs false
set_option linter.unusedVariables false

theorem nine : ((4294967295 - Crc.to ⟨#[49, 50, 51, 52, 53, 54, 55, 56, 57]⟩ 9 : Nat) : Int) = 3421780262 := by decide +kernel
theorem cof_nine (w : World) :
    Calls Try.prog 4 #[.string ⟨#[49, 50, 51, 52, 53, 54, 55, 56, 57]⟩] w fun e w' => e = .returned (.tuple #[.int .i64 3421780262, .int .i64 0]) ∧ Below w.heap.size w w' := by
  have := cof_ok ⟨#[49, 50, 51, 52, 53, 54, 55, 56, 57]⟩ (by decide) w
  have e : (⟨#[49, 50, 51, 52, 53, 54, 55, 56, 57]⟩ : ByteArray).size = 9 := rfl
  rw [e, nine] at this
  exact this
theorem cof_is (s : ByteArray) (h : s.size ≤ 20000) (v : Int) (hv : ((4294967295 - Crc.to s s.size : Nat) : Int) = v) (w : World) :
    Calls Try.prog 4 #[.string s] w fun e w' => e = .returned (.tuple #[.int .i64 v, .int .i64 0]) ∧ Below w.heap.size w w' := by
  subst hv; exact cof_ok s h w
theorem rcrc_is (s : ByteArray) (h : s.size ≤ 20000) (v : Int) (hv : ((4294967295 - Crc.to s s.size : Nat) : Int) = v) (w : World) :
    Calls Try.prog 5 #[.string s] w fun e w' => e = .returned (.int .i64 v) ∧ w = w' := by
  subst hv; exact rcrc_ok s h w

set_option maxHeartbeats 1000000 in
theorem crcSays_walk (s : ByteArray) (w : World) (hm : s.size ≤ maxLen) :
    Calls Try.prog 3 #[.string s] w fun e w' => e = .returned (.bool true) ∧ Below w.heap.size w w' := by
  by_cases h : s.size ≤ 20000
  · generalize hv : ((4294967295 - Crc.to s s.size : Nat) : Int) = v
    have HV := Lib.hid hv
    clear hv
    go_enter Try.func3, Try.ntmps3
    go_wp2_with fail
    refine (cof_nine _).mono ?_
    rintro e' w1 ⟨rfl, hb1⟩
    go_wp2_with fail
    refine (cof_is s h v HV.out _).mono ?_
    rintro e' w2 ⟨rfl, hb2⟩
    go_wp2_with fail
    refine (rcrc_is s h v HV.out _).mono ?_
    rintro e' w3 ⟨rfl, rfl⟩
    have hb := Lib.hid (hb1.trans (hb2.mono hb1.size))
    clear hb1 hb2
    go_wp2
    go_ret
    exact ⟨rfl, hb.out⟩
  · have h' : 20000 < s.size := by omega
    have HM := Lib.hid hm
    clear hm h
    go_enter Try.func3, Try.ntmps3
    go_wp2_with fail
    refine (cof_nine _).mono ?_
    rintro e' w1 ⟨rfl, hb1⟩
    go_wp2_with fail
    refine (cof_large s h' HM.out _).mono ?_
    rintro e' w2 ⟨rfl, hb2⟩
    have hb := Lib.hid (hb1.trans (hb2.mono hb1.size))
    clear hb1 hb2
    have hml := HM.out
    unfold maxLen at hml
    go_wp2
    go_ret
    exact ⟨rfl, hb.out⟩
end Go.Proofs.Ytldfppcdklnmlaa
