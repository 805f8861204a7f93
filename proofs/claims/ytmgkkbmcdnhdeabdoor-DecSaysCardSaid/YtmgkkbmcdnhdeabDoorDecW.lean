/- strings.Trim of digits; what is too large for 128 bits. -/
import Derived.Test.YtmgkkbmcdnhdeabDoorDecV
import Derived.Test.YtmgkkbmcdnhdeabDoorShelf
import Derived.Shelf.Strings.SlTrimAscii
namespace Go.Proofs.YtmgkkbmcdnhdeabDoor
open Go.RowKit Go.Lib
set_option linter.unusedSimpArgs false
set_option linter.unusedVariables false

def digL : List UInt8 := [48, 49, 50, 51, 52, 53, 54, 55, 56, 57]
set_option maxRecDepth 100000 in
theorem dig_contains (b : UInt8) : digL.contains b = Dc.dig b := by
  have h : ∀ n, n < 256 → digL.contains (UInt8.ofNat n) = Dc.dig (UInt8.ofNat n) := by decide
  have := h b.toNat (UInt8.toNat_lt b)
  rwa [UInt8.ofNat_toNat] at this
theorem mem_left {p : UInt8 → Bool} {b : UInt8} (hb : p b = false) : ∀ l : List UInt8, b ∈ l → b ∈ l.dropWhile p
  | [], h => h
  | c :: l, h => by
    rw [List.dropWhile_cons]
    split
    · rename_i hc
      rcases List.mem_cons.1 h with rfl | h
      · rw [hb] at hc; cases hc
      · exact mem_left hb l h
    · exact h
theorem drop_all {p : UInt8 → Bool} : ∀ l : List UInt8, (∀ b ∈ l, p b = true) → l.dropWhile p = []
  | [], _ => rfl
  | c :: l, h => by
    rw [List.dropWhile_cons, if_pos (h c (List.mem_cons_self ..))]
    exact drop_all l fun b hb => h b (List.mem_cons_of_mem _ hb)
theorem trim_all {s : ByteArray} (h : Dc.allD s = true) : Lib.trimS s.data.toList digL = [] := by
  unfold Dc.allD at h
  rw [List.all_eq_true] at h
  unfold Lib.trimS Lib.trimLeftS Lib.trimRightS
  rw [drop_all s.data.toList.reverse (fun b hb => by rw [dig_contains]; exact h b (List.mem_reverse.1 hb))]
  rfl
theorem trim_not {s : ByteArray} (h : Dc.allD s = false) : (⟨(Lib.trimS s.data.toList digL).toArray⟩ : ByteArray).size ≠ 0 := by
  unfold Dc.allD at h
  rw [List.all_eq_false] at h
  obtain ⟨b, hb, hd⟩ := h
  have hc : digL.contains b = false := by rw [dig_contains]; simpa using hd
  have h1 : b ∈ Lib.trimS s.data.toList digL := by
    unfold Lib.trimS Lib.trimLeftS Lib.trimRightS
    exact mem_left hc _ (List.mem_reverse.2 (mem_left hc _ (List.mem_reverse.2 hb)))
  show (Lib.trimS s.data.toList digL).toArray.size ≠ 0
  cases hq : Lib.trimS s.data.toList digL with
  | nil => rw [hq] at h1; cases h1
  | cons => simp
theorem trim_any (s : ByteArray) (hs : s.size ≤ 9223372036854775807) (w : World) :
    Calls Tryd.prog 10 #[.string s, .string ⟨#[48, 49, 50, 51, 52, 53, 54, 55, 56, 57]⟩] w fun e w' => e = .returned (.string ⟨(Lib.trimS s.data.toList digL).toArray⟩) ∧ Below w.heap.size w w' :=
  Any.strings_Trim_laid Tryd.lays160 (by kernel_rfl) s ⟨#[48, 49, 50, 51, 52, 53, 54, 55, 56, 57]⟩ w hs (by decide) (ascii_of_all (by decide))
/-- the greatest number of 128 bits, as text -/
def mostL : List UInt8 := [51, 52, 48, 50, 56, 50, 51, 54, 54, 57, 50, 48, 57, 51, 56, 52, 54, 51, 52, 54, 51, 51, 55, 52, 54, 48, 55, 52, 51, 49, 55, 54, 56, 50, 49, 49, 52, 53, 53]
theorem most_val : Dc.vals mostL = 2 ^ 128 - 1 := by decide
theorem most_dig : ∀ b ∈ mostL, Dc.dig b = true := by decide
theorem most_len : mostL.length = 39 := rfl
theorem mem_dig {s : ByteArray} (h : Dc.allD s = true) : ∀ b ∈ s.data.toList, Dc.dig b = true := by
  unfold Dc.allD at h
  exact List.all_eq_true.1 h
theorem long_large {s : ByteArray} (h2 : Dc.allD s = true) (h1 : Dc.lead s = false) (h : 39 < s.size) : ¬ Dc.vals s.data.toList < 2 ^ 128 := by
  have hl := Dc.len_is s
  have hd := mem_dig h2
  have h0 : (s.data.toList.getD 0 0).toNat ≠ 48 := by
    intro e
    unfold Dc.lead at h1
    rw [e] at h1
    simp at h1
    omega
  cases hq : s.data.toList with
  | nil => rw [hq] at hl; simp at hl; omega
  | cons b l =>
    rw [hq] at hl hd h0
    have := Dc.vals_ge b l (hd b (List.mem_cons_self ..)) (by simpa using h0)
    have h3 : 10 ^ 39 ≤ 10 ^ l.length := Nat.pow_le_pow_right (by decide) (by rw [List.length_cons] at hl; omega)
    have h4 : (2 : Nat) ^ 128 ≤ 10 ^ 39 := by decide
    omega
theorem short_small {s : ByteArray} (h2 : Dc.allD s = true) (h : s.size < 39) : Dc.vals s.data.toList < 2 ^ 128 := by
  have h1 := Dc.vals_lt _ (mem_dig h2)
  rw [Dc.len_is] at h1
  have h3 : 10 ^ s.size ≤ 10 ^ 38 := Nat.pow_le_pow_right (by decide) (by omega)
  have h4 : (10 : Nat) ^ 38 ≤ 2 ^ 128 := by decide
  omega
theorem same_less {s : ByteArray} (h2 : Dc.allD s = true) (h : s.size = 39) : (Op.bytesLess s.data.toList mostL = true ↔ Dc.vals s.data.toList < 2 ^ 128 - 1) := by
  rw [Dc.vals_less _ _ (by rw [Dc.len_is, h]; rfl) (mem_dig h2) most_dig, most_val]
theorem same_small {s : ByteArray} (h2 : Dc.allD s = true) (h : s.size = 39) (hv : Dc.vals s.data.toList < 2 ^ 128) : Op.bytesLess s.toList mostL = true ∨ (Op.bytesLess s.toList mostL = false ∧ (s.toList == mostL) = true) := by
  rw [ByteArray.toList_eq]
  by_cases h1 : Dc.vals s.data.toList < 2 ^ 128 - 1
  · exact .inl ((same_less h2 h).2 h1)
  · right
    refine ⟨?_, ?_⟩
    · cases hb : Op.bytesLess s.data.toList mostL
      · rfl
      · exact absurd ((same_less h2 h).1 hb) h1
    · rw [Dc.vals_inj _ _ (by rw [Dc.len_is, h]; rfl) (mem_dig h2) most_dig (by rw [most_val]; omega)]
      decide
theorem same_large' {s : ByteArray} (h2 : Dc.allD s = true) (h : s.size = 39) (hv : ¬ Dc.vals s.data.toList < 2 ^ 128) : Op.bytesLess s.toList mostL = false ∧ (s.toList == mostL) = false := by
  rw [ByteArray.toList_eq]
  refine ⟨?_, ?_⟩
  · cases hb : Op.bytesLess s.data.toList mostL
    · rfl
    · have := (same_less h2 h).1 hb
      omega
  · cases hb : (s.data.toList == mostL)
    · rfl
    · rw [eq_of_beq hb, most_val] at hv
      omega
end Go.Proofs.YtmgkkbmcdnhdeabDoor
