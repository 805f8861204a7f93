/- What Decode answers, as one function. -/
import Derived.Test.YthimchhnhhchkaaGreatDoorM21
import Derived.Test.YthimchhnhhchkaaGreatDoorM15
namespace Go.Proofs.YthimchhnhhchkaaGreatDoor
open Go.RowKit Go.Lib
set_option linter.unusedSimpArgs false
set_option linter.unusedVariables false

/-- what Decode answers: a name, two numbers, an error -/
def decR (s : ByteArray) : ByteArray × Int × Int × Int :=
  if s.size < 2 then (⟨#[]⟩, 0, 0, 8)
  else if (byteAt s 0).toNat ≠ 72 then (⟨#[]⟩, 0, 0, 3)
  else if (byteAt s 1).toNat = 0 ∨ 8 < (byteAt s 1).toNat then (⟨#[]⟩, 0, 0, 3)
  else if s.size < 14 + (byteAt s 1).toNat then (⟨#[]⟩, 0, 0, 8)
  else if 14 + (byteAt s 1).toNat < s.size then (⟨#[]⟩, 0, 0, 3)
  else if crcV (s.extract 0 (10 + (byteAt s 1).toNat)) ≠ num4 s (10 + (byteAt s 1).toNat) then (⟨#[]⟩, 0, 0, 9)
  else if beatE (s.extract 2 (2 + (byteAt s 1).toNat)) (num4 s (2 + (byteAt s 1).toNat)) (num4 s (6 + (byteAt s 1).toNat)) ≠ 0 then (⟨#[]⟩, 0, 0, 3)
  else (s.extract 2 (2 + (byteAt s 1).toNat), num4 s (2 + (byteAt s 1).toNat), num4 s (6 + (byteAt s 1).toNat), 0)
/-- a good answer is a beat that may be -/
theorem decR_zero {s : ByteArray} (h : (decR s).2.2.2 = 0) : beatE (decR s).1 (decR s).2.1 (decR s).2.2.1 = 0 := by
  unfold decR at h ⊢
  split at h
  · cases h
  split at h
  · cases h
  split at h
  · cases h
  split at h
  · cases h
  split at h
  · cases h
  split at h
  · cases h
  split at h
  · cases h
  rename_i h1 h2 h3 h4 h5 h6 h7
  rw [if_neg h1, if_neg h2, if_neg h3, if_neg h4, if_neg h5, if_neg h6, if_neg h7]
  exact Classical.not_not.1 h7
theorem byteAt_get (s : ByteArray) (k : Nat) (h : k < s.size) : byteAt s k = s[k] := by
  unfold byteAt
  simp [h]
  rfl
theorem dec_any (s : ByteArray) (w : World) : Calls Tryz.prog 142 #[.string s] w (DecIs (decR s).1 (decR s).2.1 (decR s).2.2.1 (decR s).2.2.2 w) := by
  unfold decR
  by_cases h1 : s.size < 2
  · rw [if_pos h1]; exact dec_short s h1 w
  rw [if_neg h1, byteAt_get s 0 (by omega), byteAt_get s 1 (by omega)]
  by_cases h2 : (s[0]).toNat ≠ 72
  · rw [if_pos h2]; exact dec_h s (by omega) h2 w
  rw [if_neg h2]
  have h2 : (s[0]).toNat = 72 := Classical.not_not.1 h2
  by_cases h3 : (s[1]).toNat = 0
  · rw [if_pos (.inl h3)]; exact dec_k0 s (by omega) h2 h3 w
  by_cases h3' : 8 < (s[1]).toNat
  · rw [if_pos (.inr h3')]; exact dec_k9 s _ (by omega) h2 rfl h3' w
  rw [if_neg (by omega)]
  by_cases h4 : s.size < 14 + (s[1]).toNat
  · rw [if_pos h4]; exact dec_less s _ (by omega) h2 rfl (by omega) (by omega) h4 w
  rw [if_neg h4]
  by_cases h5 : 14 + (s[1]).toNat < s.size
  · rw [if_pos h5]; exact dec_more s _ (by omega) h2 rfl (by omega) (by omega) h5 w
  rw [if_neg h5]
  by_cases h6 : crcV (s.extract 0 (10 + (s[1]).toNat)) ≠ num4 s (10 + (s[1]).toNat)
  · rw [if_pos h6]; exact dec_sum s _ (by omega) h2 rfl (by omega) (by omega) (by omega) h6 w
  rw [if_neg h6]
  have h6 := Classical.not_not.1 h6
  by_cases h7 : beatE (s.extract 2 (2 + (s[1]).toNat)) (num4 s (2 + (s[1]).toNat)) (num4 s (6 + (s[1]).toNat)) ≠ 0
  · rw [if_pos h7]; exact dec_bad s _ (by omega) h2 rfl (by omega) (by omega) (by omega) h6 _ rfl h7 w
  rw [if_neg h7]
  exact dec_good s _ (by omega) h2 rfl (by omega) (by omega) (by omega) h6 (Classical.not_not.1 h7) w
/-! ### what was encoded is decoded -/
def blist (L : List UInt8) : ByteArray := ⟨L.toArray⟩
theorem blist_app (a b : List UInt8) : blist a ++ blist b = blist (a ++ b) := str_app a b
theorem blist_of (s : ByteArray) : s = blist s.data.toList := ByteArray.ext (by simp [blist])
theorem blist_size (L : List UInt8) : (blist L).size = L.length := str_size L
theorem blist_extract (L : List UInt8) (a b : Nat) : (blist L).extract a b = blist ((L.drop a).take (b - a)) := by
  apply ByteArray.ext
  simp [blist, ByteArray.data_extract]
theorem blist_byte (L : List UInt8) (k : Nat) : byteAt (blist L) k = L.getD k 0 := by unfold byteAt blist; simp
theorem u8_val {x : Int} (h0 : 0 ≤ x) (h1 : x < 256) : ((u8 x).toNat : Int) = x := by
  unfold u8
  rw [UInt8.toNat_ofNat_of_lt' (show x.toNat < 2 ^ 8 by omega)]
  omega
theorem valL_b4 {n : Int} (h0 : 0 ≤ n) (h1 : n < 4294967296) : valL (b4 n) = n := by
  simp only [valL, b4, List.foldl_cons, List.foldl_nil]
  rw [u8_val (by omega) (by omega), u8_val (by omega) (by omega), u8_val (by omega) (by omega), u8_val (by omega) (by omega)]
  omega
theorem num4_at (L M : List UInt8) (n : Int) (a : Nat) (ha : L.length = a) (h0 : 0 ≤ n) (h1 : n < 4294967296) : num4 (blist (L ++ b4 n ++ M)) a = n := by
  have hb : ∀ j, j < 4 → byteAt (blist (L ++ b4 n ++ M)) (a + j) = (b4 n).getD j 0 := fun j hj => by
    have hl : (b4 n).length = 4 := rfl
    rw [blist_byte, List.getD_eq_getElem?_getD, List.getD_eq_getElem?_getD, List.append_assoc, List.getElem?_append_right (by omega), ha, show a + j - a = j by omega, List.getElem?_append_left (by omega)]
  unfold num4
  rw [show byteAt (blist (L ++ b4 n ++ M)) a = _ from hb 0 (by omega), hb 1 (by omega), hb 2 (by omega), hb 3 (by omega)]
  exact valL_b4 h0 h1
theorem enc_list (id : ByteArray) (i q : Int) : encS id i q = blist ([72, u8 id.size] ++ id.data.toList ++ b4 i ++ b4 q) := by
  have e : encS id i q = (((blist [72] ++ blist [u8 id.size]) ++ blist id.data.toList) ++ blist (b4 i)) ++ blist (b4 q) := by
    rw [← blist_of id]; rfl
  rw [e, blist_app, blist_app, blist_app, blist_app]
  rfl
/-- what was encoded is decoded -/
theorem decR_code (id : ByteArray) (i q : Int) (h : beatE id i q = 0) : decR (codeS id i q) = (id, i, q, 0) := by
  obtain ⟨h8, i0, i1, q0, q1⟩ := beatE_zero h
  have hid : idB id = true := by
    cases hq : idB id
    · unfold beatE at h; rw [hq] at h; simp at h
    · rfl
  have h1 := (idB_ne hid).1
  obtain ⟨v0, v1⟩ := crcV_bd (encS id i q)
  obtain ⟨v, hv⟩ : ∃ v, crcV (encS id i q) = v := ⟨_, rfl⟩
  have hk : ((u8 (id.size : Int)).toNat) = id.size := by have := u8_val (x := (id.size : Int)) (by omega) (by omega); omega
  have hl : id.data.toList.length = id.size := by rw [Array.length_toList]; rfl
  have e : codeS id i q = blist ([72, u8 id.size] ++ id.data.toList ++ b4 i ++ b4 q ++ b4 v) := by
    have : codeS id i q = encS id i q ++ blist (b4 v) := by unfold codeS; rw [hv]; rfl
    rw [this, enc_list, blist_app]
  have hb4 : ∀ n, (b4 n).length = 4 := fun n => rfl
  have hsz : (codeS id i q).size = 14 + id.size := by
    rw [e, blist_size]; simp only [List.length_append, List.length_cons, List.length_nil, hb4, hl]; omega
  have x0 : (byteAt (codeS id i q) 0).toNat = 72 := by rw [e, blist_byte]; rfl
  have x1 : (byteAt (codeS id i q) 1).toNat = id.size := by rw [e, blist_byte]; exact hk
  have x2 : (codeS id i q).extract 0 (10 + id.size) = encS id i q := by
    rw [e, enc_list, blist_extract]
    congr 1
    rw [List.drop_zero]
    exact List.take_left' (by simp only [List.length_append, List.length_cons, List.length_nil, hb4, hl]; omega)
  have x3 : num4 (codeS id i q) (10 + id.size) = v := by
    rw [e]
    have := num4_at ([72, u8 id.size] ++ id.data.toList ++ b4 i ++ b4 q) [] v (10 + id.size) (by simp only [List.length_append, List.length_cons, List.length_nil, hb4, hl]; omega) (by omega) (by omega)
    rwa [List.append_nil] at this
  have x4 : (codeS id i q).extract 2 (2 + id.size) = id := by
    rw [e, blist_extract, show 2 + id.size - 2 = id.size by omega]
    conv => rhs; rw [blist_of id]
    congr 1
    simp only [List.append_assoc, List.cons_append, List.nil_append, List.drop_succ_cons, List.drop_zero]
    exact List.take_left' hl
  have x5 : num4 (codeS id i q) (2 + id.size) = i := by
    rw [e]
    have := num4_at ([72, u8 id.size] ++ id.data.toList) (b4 q ++ b4 v) i (2 + id.size) (by rw [List.length_append, hl]; rfl) (by omega) (by omega)
    rwa [← List.append_assoc] at this
  have x6 : num4 (codeS id i q) (6 + id.size) = q := by
    rw [e]
    exact num4_at ([72, u8 id.size] ++ id.data.toList ++ b4 i) (b4 v) q (6 + id.size) (by simp only [List.length_append, List.length_cons, List.length_nil, hb4, hl]; omega) (by omega) (by omega)
  unfold decR
  rw [x1, x2, x3, x4, x5, x6, x0, if_neg (by omega), if_neg (by omega), if_neg (by omega), if_neg (by omega), if_neg (by omega), if_neg (by rw [hv]; simp), if_neg (by rw [h]; decide)]
end Go.Proofs.YthimchhnhhchkaaGreatDoor
