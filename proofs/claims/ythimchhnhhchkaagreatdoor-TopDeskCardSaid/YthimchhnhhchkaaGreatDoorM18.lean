/- The reference's bytes and value, beat.number, walked. -/
import Derived.Test.YthimchhnhhchkaaGreatDoorM17
import Derived.Deep.DeepCutAuto
namespace Go.Proofs.YthimchhnhhchkaaGreatDoor
open Go.RowKit Go.Lib
set_option linter.unusedSimpArgs false
set_option linter.unusedVariables false

def bN : Nat → Int → List UInt8 | 0, _ => [] | k + 1, n => bN k (n / 256) ++ [u8 (n % 256)]
theorem bN_len (k : Nat) (n : Int) : (bN k n).length = k := by
  induction k generalizing n with
  | zero => rfl
  | succ k ih => rw [bN, List.length_append, ih]; rfl
theorem bN_4 (n : Int) (h0 : 0 ≤ n) (h1 : n < 4294967296) : bN 4 n = b4 n := by
  simp only [bN, b4, List.nil_append, List.cons_append, List.singleton_append]
  rw [show n / 256 / 256 / 256 % 256 = n / 16777216 by omega, show n / 256 / 256 % 256 = n / 65536 % 256 by omega]
theorem Below.al2 {w W : World} {o : Obj} (h : Below w.heap.size w W) : Below w.heap.size w (W.alloc o) := h.alloc h.size _
theorem Below.thru2 {w X W : World} (h : Below w.heap.size w X) (h2 : Below X.heap.size X W) : Below w.heap.size w W := h.trans (h2.mono h.size)
theorem str_app (a b : List UInt8) : (⟨a.toArray⟩ : ByteArray) ++ ⟨b.toArray⟩ = ⟨(a ++ b).toArray⟩ := by
  apply ByteArray.ext
  simp
theorem str_size (a : List UInt8) : (⟨a.toArray⟩ : ByteArray).size = a.length := by
  show a.toArray.size = _
  simp

@[go_sem ↓] theorem add_lists {P : Program} {w : World} (x y : List UInt8) (h : x.length + y.length ≤ 8388608) : (Op.stringOp .add ⟨x.toArray⟩ ⟨y.toArray⟩).run P w = .ok (.string ⟨(x ++ y).toArray⟩) w :=
  run_string_add_lists w x y (by omega) (by omega)












































def valL (l : List UInt8) : Int := l.foldl (fun n x => 256 * n + x.toNat) 0
theorem valL_snoc (l : List UInt8) (x : UInt8) : valL (l ++ [x]) = 256 * valL l + x.toNat := by simp [valL, List.foldl_append]
theorem valL_bd (l : List UInt8) (h : l.length ≤ 4) : 0 ≤ valL l ∧ valL l < 256 ^ l.length := by
  have key : ∀ m : List UInt8, 0 ≤ valL m.reverse ∧ valL m.reverse < 256 ^ m.length := by
    intro m
    induction m with
    | nil => simp [valL]
    | cons x m ih =>
      rw [List.reverse_cons, valL_snoc, List.length_cons, Int.pow_succ]
      have := UInt8.toNat_lt x
      omega
  have := key l.reverse
  simpa using this









































theorem num_or (a b c d : Nat) (ha : a < 256) (hb : b < 256) (hc : c < 256) (hd : d < 256) :
    (a * 16777216 ||| b * 65536 ||| c * 256 ||| d) = ((a * 256 + b) * 256 + c) * 256 + d := by
  have e1 : a * 16777216 ||| b * 65536 = a * 16777216 + b * 65536 := by
    have := Nat.two_pow_add_eq_or_of_lt (i := 24) (b := b * 65536) (by omega) a
    rw [show a * 16777216 = 2 ^ 24 * a by omega]
    omega
  have e2 : (a * 16777216 + b * 65536) ||| c * 256 = a * 16777216 + b * 65536 + c * 256 := by
    have := Nat.two_pow_add_eq_or_of_lt (i := 16) (b := c * 256) (by omega) (a * 256 + b)
    rw [show a * 16777216 + b * 65536 = 2 ^ 16 * (a * 256 + b) by omega]
    omega
  have e3 : (a * 16777216 + b * 65536 + c * 256) ||| d = a * 16777216 + b * 65536 + c * 256 + d := by
    have := Nat.two_pow_add_eq_or_of_lt (i := 8) (b := d) (by omega) ((a * 256 + b) * 256 + c)
    rw [show a * 16777216 + b * 65536 + c * 256 = 2 ^ 8 * ((a * 256 + b) * 256 + c) by omega]
    omega
  rw [e1, e2, e3]; omega
theorem i64_or_nat (a b : Nat) (ha : a < 9223372036854775808) (hb : b < 9223372036854775808) : bits .or .i64 (a : Int) (b : Int) = ((a ||| b : Nat) : Int) := by
  have hx : a ||| b < 2 ^ 63 := Nat.or_lt_two_pow (by omega) (by omega)
  show IntKind.i64.wrap ((BitVec.ofInt 64 (a : Int) ||| BitVec.ofInt 64 (b : Int)).toNat : Int) = _
  rw [BitVec.toNat_or, ofInt_u64 a (by omega), ofInt_u64 b (by omega)]
  exact IntWalk.i64_in _ (by omega)
def byteAt (s : ByteArray) (i : Nat) : UInt8 := s.data.toList.getD i 0
theorem byteAt_is (s : ByteArray) (i : Nat) (h : i < s.size) : s[i] = byteAt s i := by
  have h2 : i < s.data.toList.length := by rw [Array.length_toList]; exact h
  simp [byteAt, List.getD, List.getElem?_eq_getElem h2]
  rfl
def num4 (s : ByteArray) (i : Nat) : Int := valL [byteAt s i, byteAt s (i + 1), byteAt s (i + 2), byteAt s (i + 3)]
theorem byteAt_extract (s : ByteArray) (a b i : Nat) (hb : b ≤ s.size) (h : a + i < b) : byteAt (s.extract a b) i = byteAt s (a + i) := by
  have h1 : i < (s.extract a b).size := by rw [ByteArray.size_extract]; omega
  rw [← byteAt_is _ _ h1, ← byteAt_is s (a + i) (by omega), ByteArray.getElem_extract]
theorem num4_extract (s : ByteArray) (a b i : Nat) (hb : b ≤ s.size) (h : a + i + 3 < b) : num4 (s.extract a b) i = num4 s (a + i) := by
  unfold num4
  rw [byteAt_extract s a b i hb (by omega), byteAt_extract s a b (i + 1) hb (by omega), byteAt_extract s a b (i + 2) hb (by omega), byteAt_extract s a b (i + 3) hb (by omega)]
  rfl
theorem num4_list (s : ByteArray) (h : s.size = 4) : valL s.data.toList = num4 s 0 := by
  have h2 : s.data.toList.length = 4 := by rw [Array.length_toList]; exact h
  unfold num4 byteAt
  match hl : s.data.toList, h2 with
  | [a, b, c, d], _ => rfl
set_option maxRecDepth 100000 in
set_option maxHeartbeats 2000000 in
theorem number_any (s : ByteArray) (h : 4 ≤ s.size) (w : World) :
    Calls Tryz.prog 169 #[.string s] w fun e w' => e = .returned (.int .i64 (num4 s 0)) ∧ Below w.heap.size w w' := by
  have ha := UInt8.toNat_lt s[0]
  have hb := UInt8.toNat_lt s[1]
  have hc := UInt8.toNat_lt s[2]
  have hd := UInt8.toNat_lt s[3]
  have HV := Lib.hid (show bits .or .i64 (bits .or .i64 (bits .or .i64 ((s[0].toNat : Int) * 16777216) ((s[1].toNat : Int) * 65536)) ((s[2].toNat : Int) * 256)) (s[3].toNat : Int) = num4 s 0 by
    unfold num4
    rw [← byteAt_is s 0 (by omega), ← byteAt_is s (0 + 1) (by omega), ← byteAt_is s (0 + 2) (by omega), ← byteAt_is s (0 + 3) (by omega)]
    show _ = valL [s[0], s[1], s[2], s[3]]
    generalize s[0] = a at *
    generalize s[1] = b at *
    generalize s[2] = c at *
    generalize s[3] = d at *
    have e1 : (a.toNat : Int) * 16777216 = ((a.toNat * 16777216 : Nat) : Int) := by omega
    have e2 : (b.toNat : Int) * 65536 = ((b.toNat * 65536 : Nat) : Int) := by omega
    have e3 : (c.toNat : Int) * 256 = ((c.toNat * 256 : Nat) : Int) := by omega
    have o1 : a.toNat * 16777216 ||| b.toNat * 65536 < 2 ^ 32 := Nat.or_lt_two_pow (by omega) (by omega)
    have o2 : a.toNat * 16777216 ||| b.toNat * 65536 ||| c.toNat * 256 < 2 ^ 32 := Nat.or_lt_two_pow o1 (by omega)
    rw [e1, e2, e3, i64_or_nat _ _ (by omega) (by omega), i64_or_nat _ _ (by omega) (by omega), i64_or_nat _ _ (by omega) (by omega), num_or _ _ _ _ ha hb hc hd]
    simp [valL]
    omega)
  have l0 : (0 : Nat) < s.size := by omega
  have l1 : (1 : Nat) < s.size := by omega
  have l2 : (2 : Nat) < s.size := by omega
  have l3 : (3 : Nat) < s.size := by omega
  have i0 : (0 : Int) < (s.size : Int) := by omega
  have i1 : (1 : Int) < (s.size : Int) := by omega
  have i2 : (2 : Int) < (s.size : Int) := by omega
  have i3 : (3 : Int) < (s.size : Int) := by omega
  go_enter Tryz.func169, Tryz.ntmps169
  go_wp2
  go_region
  go_wp2
  go_ret
  refine ⟨ret_int ?_, (Below.refl _ _).drew⟩
  exact HV.out
end Go.Proofs.YthimchhnhhchkaaGreatDoor
