/- Words of two, and what is answered of a number. -/
import Derived.Test.YtmgkkbmcdnhdeabDoorBase
namespace Go.Proofs.YtmgkkbmcdnhdeabDoor
open Go.RowKit
set_option linter.unusedSimpArgs false
set_option linter.unusedVariables false

/-- The words h, l are those of the number n. -/
def WN (h l : Int) (n : Nat) : Prop := h = hiN n ∧ l = loN n ∧ n < 2 ^ 128

def s64 (x y c : Int) : Int := (x + y + c) % 18446744073709551616
def k64 (x y c : Int) : Int := (x + y + c) / 18446744073709551616
def d64 (x y b : Int) : Int := (x - y - b) % 18446744073709551616
def b64 (x y b : Int) : Int := if x < y + b then 1 else 0

theorem k64_bd (x y c : Int) (hx : 0 ≤ x ∧ x ≤ 18446744073709551615) (hy : 0 ≤ y ∧ y ≤ 18446744073709551615) (hc : 0 ≤ c ∧ c ≤ 1) : 0 ≤ k64 x y c ∧ k64 x y c ≤ 1 := by unfold k64; omega
theorem b64_bd (x y b : Int) : 0 ≤ b64 x y b ∧ b64 x y b ≤ 1 := by unfold b64; split <;> omega

/-- What is answered of a number: it, or the error, if it is too large. -/
def fitN (n : Nat) : Nat := if n < 2 ^ 128 then n else 0
def fitE (n : Nat) : Int := if n < 2 ^ 128 then 0 else 2
def subE (a b : Nat) : Int := if b ≤ a then 0 else 7

theorem fitN_lt (n : Nat) : fitN n < 2 ^ 128 := by unfold fitN; split <;> omega

theorem WN.mk' (n : Nat) (h : n < 2 ^ 128) : WN (hiN n) (loN n) n := ⟨rfl, rfl, h⟩
theorem WN.one : WN 1 0 18446744073709551616 := ⟨by unfold hiN; omega, by unfold loN; omega, by omega⟩

end Go.Proofs.YtmgkkbmcdnhdeabDoor
