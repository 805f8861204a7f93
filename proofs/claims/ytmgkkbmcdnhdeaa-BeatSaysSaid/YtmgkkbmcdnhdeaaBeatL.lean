/- A heartbeat as bytes, plainly: what Encode says of what Decode reads. -/
import Derived.Test.YtmgkkbmcdnhdeaaBeatS
namespace Go.Proofs.Ytmgkkbmcdnhdeaa
open Go.RowKit Go.Lib
set_option linter.unusedSimpArgs false
set_option linter.unusedVariables false

theorem u8_nat (a : UInt8) : u8 (a.toNat : Int) = a := by simp [u8]
theorem b4_val (a b c d : UInt8) : b4 (valL [a, b, c, d]) = [a, b, c, d] := by
  have ha := UInt8.toNat_lt a
  have hb := UInt8.toNat_lt b
  have hc := UInt8.toNat_lt c
  have hd := UInt8.toNat_lt d
  have e : valL [a, b, c, d] = 256 * (256 * (256 * (a.toNat : Int) + b.toNat) + c.toNat) + d.toNat := by simp [valL]
  unfold b4
  rw [show valL [a, b, c, d] / 16777216 = (a.toNat : Int) by omega, show valL [a, b, c, d] / 65536 % 256 = (b.toNat : Int) by omega,
    show valL [a, b, c, d] / 256 % 256 = (c.toNat : Int) by omega, show valL [a, b, c, d] % 256 = (d.toNat : Int) by omega, u8_nat, u8_nat, u8_nat, u8_nat]
theorem num4_bd (s : ByteArray) (i : Nat) : 0 ≤ num4 s i ∧ num4 s i < 4294967296 := by
  have := valL_bd [byteAt s i, byteAt s (i + 1), byteAt s (i + 2), byteAt s (i + 3)] (by simp)
  simpa [num4] using this
theorem four_bytes (s : ByteArray) (h : s.size = 4) : ∃ a b c d : UInt8, s = ⟨#[a, b, c, d]⟩ := by
  obtain ⟨⟨l⟩⟩ := s
  have h : l.length = 4 := h
  match l, h with
  | [a, b, c, d], _ => exact ⟨a, b, c, d, rfl⟩
theorem one_byte (s : ByteArray) (h : s.size = 1) : ∃ a : UInt8, s = ⟨#[a]⟩ := by
  obtain ⟨⟨l⟩⟩ := s
  have h : l.length = 1 := h
  match l, h with
  | [a], _ => exact ⟨a, rfl⟩
theorem ext4 (s : ByteArray) (i : Nat) (h : i + 4 ≤ s.size) : s.extract i (i + 4) = four8 (num4 s i) := by
  obtain ⟨a, b, c, d, e⟩ := four_bytes (s.extract i (i + 4)) (by rw [ByteArray.size_extract]; omega)
  have h0 := byteAt_extract s i (i + 4) 0 h (by omega)
  have h1 := byteAt_extract s i (i + 4) 1 h (by omega)
  have h2 := byteAt_extract s i (i + 4) 2 h (by omega)
  have h3 := byteAt_extract s i (i + 4) 3 h (by omega)
  rw [e] at h0 h1 h2 h3
  unfold num4 four8
  rw [Nat.add_zero] at h0
  rw [← h0, ← h1, ← h2, ← h3, e]
  show (⟨#[a, b, c, d]⟩ : ByteArray) = ⟨(b4 (valL [a, b, c, d])).toArray⟩
  rw [b4_val]
theorem ext1 (s : ByteArray) (i : Nat) (h : i < s.size) : s.extract i (i + 1) = ⟨#[s[i]]⟩ := by
  obtain ⟨a, e⟩ := one_byte (s.extract i (i + 1)) (by rw [ByteArray.size_extract]; omega)
  have h0 := byteAt_extract s i (i + 1) 0 (by omega) (by omega)
  rw [e, Nat.add_zero, ← byteAt_is s i h] at h0
  rw [e, ← h0]
  rfl
theorem enc_is (s : ByteArray) (k : Nat) (h1 : 1 < s.size) (hH : (s[0]).toNat = 72) (hk : (s[1]).toNat = k) (hsz : s.size = 14 + k) :
    encS (s.extract 2 (2 + k)) (num4 s (2 + k)) (num4 s (6 + k)) = s.extract 0 (10 + k) := by
  have e0 : chH = s.extract 0 1 := by
    rw [ext1 s 0 (by omega)]
    have : s[0] = 72 := by apply UInt8.toNat_inj.1; rw [hH]; rfl
    rw [this]; rfl
  have e1 : one8 ((s.extract 2 (2 + k)).size : Int) = s.extract 1 2 := by
    rw [ext1 s 1 h1, ByteArray.size_extract, show min (2 + k) s.size - 2 = k by omega, ← hk]
    unfold one8
    rw [u8_nat]
  have e2 := ext4 s (2 + k) (by omega)
  have e3 := ext4 s (6 + k) (by omega)
  unfold encS
  rw [e0, e1, ← e2, ← e3, show 2 + k + 4 = 6 + k by omega, show 6 + k + 4 = 10 + k by omega,
    ← ByteArray.extract_eq_extract_append_extract (i := 0) (k := 2) 1 (by omega) (by omega),
    ← ByteArray.extract_eq_extract_append_extract (i := 0) (k := 2 + k) 2 (by omega) (by omega),
    ← ByteArray.extract_eq_extract_append_extract (i := 0) (k := 6 + k) (2 + k) (by omega) (by omega),
    ← ByteArray.extract_eq_extract_append_extract (i := 0) (k := 10 + k) (6 + k) (by omega) (by omega)]
theorem code_is (s : ByteArray) (k : Nat) (h1 : 1 < s.size) (hH : (s[0]).toNat = 72) (hk : (s[1]).toNat = k) (hsz : s.size = 14 + k) (hsum : crcV (s.extract 0 (10 + k)) = num4 s (10 + k)) :
    codeS (s.extract 2 (2 + k)) (num4 s (2 + k)) (num4 s (6 + k)) = s := by
  unfold codeS
  rw [enc_is s k h1 hH hk hsz, hsum, ← ext4 s (10 + k) (by omega), show 10 + k + 4 = 14 + k by omega,
    ← ByteArray.extract_eq_extract_append_extract (i := 0) (k := 14 + k) (10 + k) (by omega) (by omega), ← hsz, ByteArray.extract_zero_size]
end Go.Proofs.Ytmgkkbmcdnhdeaa
