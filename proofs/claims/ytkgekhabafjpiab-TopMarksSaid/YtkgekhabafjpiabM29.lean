/- A heartbeat as bytes, plainly: what Encode says of what Decode reads. (with what it needs) -/
import Derived.Test.YtkgekhabafjpiabM27
namespace Go.Proofs.Ytkgekhabafjpiab
open Go.RowKit Go.Lib
set_option linter.unusedSimpArgs false
set_option linter.unusedVariables false

theorem u8_nat (a : UInt8) : u8 (a.toNat : Int) = a := by simp [u8]
theorem b4_val (a b c d : UInt8) : b4 (valL [a, b, c, d]) = [a, b, c, d] := by
  have ha := UInt8.toNat_lt a
  have hb := UInt8.toNat_lt b
  have hc := UInt8.toNat_lt c
  have hd := UInt8.toNat_lt d
  have e : valL [a, b, c, d] = 256 * (256 * (256 * (a.toNat : Int) + b.toNat) + c.toNat) + d.toNat := by simp [valL]
  unfold b4
  rw [show valL [a, b, c, d] / 16777216 = (a.toNat : Int) by omega, show valL [a, b, c, d] / 65536 % 256 = (b.toNat : Int) by omega,
    show valL [a, b, c, d] / 256 % 256 = (c.toNat : Int) by omega, show valL [a, b, c, d] % 256 = (d.toNat : Int) by omega, u8_nat, u8_nat, u8_nat, u8_nat]
theorem num4_bd (s : ByteArray) (i : Nat) : 0 ≤ num4 s i ∧ num4 s i < 4294967296 := by
  have := valL_bd [byteAt s i, byteAt s (i + 1), byteAt s (i + 2), byteAt s (i + 3)] (by simp)
  simpa [num4] using this
theorem four_bytes (s : ByteArray) (h : s.size = 4) : ∃ a b c d : UInt8, s = ⟨#[a, b, c, d]⟩ := by
  obtain ⟨⟨l⟩⟩ := s
  have h : l.length = 4 := h
  match l, h with
  | [a, b, c, d], _ => exact ⟨a, b, c, d, rfl⟩
theorem one_byte (s : ByteArray) (h : s.size = 1) : ∃ a : UInt8, s = ⟨#[a]⟩ := by
  obtain ⟨⟨l⟩⟩ := s
  have h : l.length = 1 := h
  match l, h with
  | [a], _ => exact ⟨a, rfl⟩
theorem ext4 (s : ByteArray) (i : Nat) (h : i + 4 ≤ s.size) : s.extract i (i + 4) = four8 (num4 s i) := by
  obtain ⟨a, b, c, d, e⟩ := four_bytes (s.extract i (i + 4)) (by rw [ByteArray.size_extract]; omega)
  have h0 := byteAt_extract s i (i + 4) 0 h (by omega)
  have h1 := byteAt_extract s i (i + 4) 1 h (by omega)
  have h2 := byteAt_extract s i (i + 4) 2 h (by omega)
  have h3 := byteAt_extract s i (i + 4) 3 h (by omega)
  rw [e] at h0 h1 h2 h3
  unfold num4 four8
  rw [Nat.add_zero] at h0
  rw [← h0, ← h1, ← h2, ← h3, e]
  show (⟨#[a, b, c, d]⟩ : ByteArray) = ⟨(b4 (valL [a, b, c, d])).toArray⟩
  rw [b4_val]
theorem ext1 (s : ByteArray) (i : Nat) (h : i < s.size) : s.extract i (i + 1) = ⟨#[s[i]]⟩ := by
  obtain ⟨a, e⟩ := one_byte (s.extract i (i + 1)) (by rw [ByteArray.size_extract]; omega)
  have h0 := byteAt_extract s i (i + 1) 0 (by omega) (by omega)
  rw [e, Nat.add_zero, ← byteAt_is s i h] at h0
  rw [e, ← h0]
  rfl
theorem enc_is (s : ByteArray) (k : Nat) (h1 : 1 < s.size) (hH : (s[0]).toNat = 72) (hk : (s[1]).toNat = k) (hsz : s.size = 14 + k) :
    encS (s.extract 2 (2 + k)) (num4 s (2 + k)) (num4 s (6 + k)) = s.extract 0 (10 + k) := by
  have e0 : chH = s.extract 0 1 := by
    rw [ext1 s 0 (by omega)]
    have : s[0] = 72 := by apply UInt8.toNat_inj.1; rw [hH]; rfl
    rw [this]; rfl
  have e1 : one8 ((s.extract 2 (2 + k)).size : Int) = s.extract 1 2 := by
    rw [ext1 s 1 h1, ByteArray.size_extract, show min (2 + k) s.size - 2 = k by omega, ← hk]
    unfold one8
    rw [u8_nat]
  have e2 := ext4 s (2 + k) (by omega)
  have e3 := ext4 s (6 + k) (by omega)
  unfold encS
  rw [e0, e1, ← e2, ← e3, show 2 + k + 4 = 6 + k by omega, show 6 + k + 4 = 10 + k by omega,
    ← ByteArray.extract_eq_extract_append_extract (i := 0) (k := 2) 1 (by omega) (by omega),
    ← ByteArray.extract_eq_extract_append_extract (i := 0) (k := 2 + k) 2 (by omega) (by omega),
    ← ByteArray.extract_eq_extract_append_extract (i := 0) (k := 6 + k) (2 + k) (by omega) (by omega),
    ← ByteArray.extract_eq_extract_append_extract (i := 0) (k := 10 + k) (6 + k) (by omega) (by omega)]
theorem code_is (s : ByteArray) (k : Nat) (h1 : 1 < s.size) (hH : (s[0]).toNat = 72) (hk : (s[1]).toNat = k) (hsz : s.size = 14 + k) (hsum : crcV (s.extract 0 (10 + k)) = num4 s (10 + k)) :
    codeS (s.extract 2 (2 + k)) (num4 s (2 + k)) (num4 s (6 + k)) = s := by
  unfold codeS
  rw [enc_is s k h1 hH hk hsz, hsum, ← ext4 s (10 + k) (by omega), show 10 + k + 4 = 14 + k by omega,
    ← ByteArray.extract_eq_extract_append_extract (i := 0) (k := 14 + k) (10 + k) (by omega) (by omega), ← hsz, ByteArray.extract_zero_size]
end Go.Proofs.Ytkgekhabafjpiab

namespace Go.Proofs.Ytkgekhabafjpiab
open Go.RowKit Go.Lib
set_option linter.unusedSimpArgs false
set_option linter.unusedVariables false

def conv8 (x : Operand) : Op := Op.convert 102 9 x
theorem conv8_veil (x : Operand) : Op.convert 102 9 x = conv8 x := rfl
@[go_sem] theorem conv8_open (x : Operand) : conv8 x = Op.convert 102 9 x := rfl

set_option maxRecDepth 100000 in
set_option maxHeartbeats 2000000 in
theorem plain_ok (s : ByteArray) (hs : s.size ≤ 8) (inc seq : Int) (i0 : 0 ≤ inc) (i1 : inc ≤ 2147483647) (q0 : 0 ≤ seq) (q1 : seq ≤ 2147483647) (w : World) :
    Calls Try.prog 23 #[.agg #[.string s, .int .i64 inc, .int .i64 seq]] w fun e w' => e = .returned (.string (encS s inc seq)) ∧ Below w.heap.size w w' := by
  have HF1 := Lib.hid (fun w => four_any inc i0 (by omega) w)
  have HF2 := Lib.hid (fun w => four_any seq q0 (by omega) w)
  have hA1 := sadd_ok (P := Try.prog) chH (one8 s.size) (by rw [chH_size, one8_size]; omega)
  have hA2 := sadd_ok (P := Try.prog) (chH ++ one8 s.size) s (by simp only [ByteArray.size_append, one8_size, chH_size]; omega)
  have hA3 := sadd_ok (P := Try.prog) ((chH ++ one8 s.size) ++ s) (four8 inc) (by simp only [ByteArray.size_append, four8_size, one8_size, chH_size]; omega)
  have hA4 := sadd_ok (P := Try.prog) (((chH ++ one8 s.size) ++ s) ++ four8 inc) (four8 seq) (by simp only [ByteArray.size_append, four8_size, one8_size, chH_size]; omega)
  have HR := Lib.hid (show encS s inc seq = (((chH ++ one8 s.size) ++ s) ++ four8 inc) ++ four8 seq from rfl)
  have HF1 := Lib.hid (show ∀ w, Calls Try.prog 25 #[.int .i64 inc] w fun e w' => e = .returned (.string (four8 inc)) ∧ Below w.heap.size w w' from HF1.out)
  have HF2 := Lib.hid (show ∀ w, Calls Try.prog 25 #[.int .i64 seq] w fun e w' => e = .returned (.string (four8 seq)) ∧ Below w.heap.size w w' from HF2.out)
  have hcv : ∀ (X : World), (convert 102 9 (.slice (some ⟨X.heap.size, 0, none⟩) 1 1)).run Try.prog (X.alloc (.cells #[.int .u8 (s.size : Int)] 5)) = .ok (.string (one8 s.size)) (X.alloc (.cells #[.int .u8 (s.size : Int)] 5)) :=
    fun X => conv_bytes [(s.size : Int)] (Blk.new X 5 _) 1 1 rfl
  have hcd : ∀ (X : World), (convert 102 9 (.slice (some ⟨X.heap.size, 0, none⟩) 1 1)).run Try.prog (X.alloc (.cells #[.int .u8 (s.size : Int)] 5)).drew = .ok (.string (one8 s.size)) (X.alloc (.cells #[.int .u8 (s.size : Int)] 5)).drew :=
    fun X => conv_bytes [(s.size : Int)] (Blk.new X 5 _).drew 1 1 rfl
  have hcx : ∀ (X : World), (convert 102 9 (.slice (some ⟨X.heap.size, 0, none⟩) 1 1)).run Try.prog (X.drew.alloc (.cells #[.int .u8 (s.size : Int)] 5)) = .ok (.string (one8 s.size)) (X.drew.alloc (.cells #[.int .u8 (s.size : Int)] 5)) :=
    fun X => conv_bytes [(s.size : Int)] (Blk.new X.drew 5 _) 1 1 rfl
  have hcy : ∀ (X : World), (convert 102 9 (.slice (some ⟨X.heap.size, 0, none⟩) 1 1)).run Try.prog (X.drew.alloc (.cells #[.int .u8 (s.size : Int)] 5)).drew = .ok (.string (one8 s.size)) (X.drew.alloc (.cells #[.int .u8 (s.size : Int)] 5)).drew :=
    fun X => conv_bytes [(s.size : Int)] (Blk.new X.drew 5 _).drew 1 1 rfl
  have hch : (⟨#[72]⟩ : ByteArray) = chH := rfl
  have HCB := Lib.hid (show ∀ (W : World) (g : Nat), Blk W g 5 #[.int .u8 (s.size : Int)] → (convert 102 9 (.slice (some ⟨g, 0, none⟩) 1 1)).run Try.prog W = .ok (.string (one8 s.size)) W from fun W g h => conv_bytes [(s.size : Int)] h 1 1 rfl)
  have hu8 : IntKind.u8.wrap (s.size : Int) = (s.size : Int) := by rw [IntKind.wrap_u8]; omega
  have E := Lib.hid ((Env.start w).lay #[.string s, .int .i64 inc, .int .i64 seq] 48)
  generalize four8 inc = B1 at *
  generalize four8 seq = B2 at *
  generalize one8 s.size = C1 at *
  generalize chH ++ C1 = X1 at *
  generalize X1 ++ s = X2 at *
  generalize X2 ++ B1 = X3 at *
  generalize X3 ++ B2 = X4 at *
  go_enter Try.func23, Try.ntmps23
  go_upto_region 1 with fail
  generalize hW0 : World.alloc w _ = W0 at *
  clear hW0
  have p0 := E.out.hd.lt
  have x0 := E.out.hd.cell 0
  have x1 := E.out.hd.cell 1
  have x2 := E.out.hd.cell 2
  simp at x0 x1 x2
  have HS := Lib.hid (show ∀ w', Below W0.heap.size W0 w' → (Below W0.heap.size W0 w' ∧ w'.cell? ⟨w.heap.size, 0, none⟩ = some (.string s) ∧ w'.cell? ⟨w.heap.size, 1, none⟩ = some (.int .i64 inc) ∧ w'.cell? ⟨w.heap.size, 2, none⟩ = some (.int .i64 seq))
    from fun w' h => ⟨h, (E.out.below h).hd.cell 0, (E.out.below h).hd.cell 1, (E.out.below h).hd.cell 2⟩)
  have tok1 : True := trivial
  simp only [conv8_veil]
  go_region_held3 (fun w' => Below W0.heap.size W0 w' ∧ w'.cell? ⟨w.heap.size, 0, none⟩ = some (.string s) ∧ w'.cell? ⟨w.heap.size, 1, none⟩ = some (.int .i64 inc) ∧ w'.cell? ⟨w.heap.size, 2, none⟩ = some (.int .i64 seq))
    ((refine HS.out _ ?_; repeat (first | (with_reducible exact hL2) | (with_reducible exact hL1) | (with_reducible exact Below.refl _ _) | (with_reducible refine Below.al2 ?_) | (with_reducible refine Below.drew ?_))))
    (first
      | (go_at_call 25; have _t := tok1; (with_reducible refine (HF1.out _).mono ?_); rintro e' w1 ⟨rfl, hb1⟩; (try (have hc1 := HCB.out w1 _ ((Blk.new _ 5 _).below hb1 (by simp)))); (try (have hc1 := HCB.out w1 _ ((Blk.new _ 5 _).drew.below hb1 (by simp)))); have hL1 : Below W0.heap.size W0 w1 := Below.thru2 (by repeat (first | (with_reducible exact Below.refl _ _) | (with_reducible refine Below.drew ?_) | (with_reducible refine Below.al2 ?_))) hb1; clear tok1 _t)
      | (go_at_call 25; (with_reducible refine (HF2.out _).mono ?_); rintro e' w2 ⟨rfl, hb2⟩; (try (have hc2 := HCB.out w2 _ ((Blk.new _ 5 _).below hb2 (by simp)))); (try (have hc2 := HCB.out w2 _ (((Blk.new _ 5 _).below hb1 (by simp)).below hb2 (by have := hb1.size; simp at this ⊢; omega)))); (try (have hc2 := HCB.out w2 _ (((Blk.new _ 5 _).drew.below hb1 (by simp)).below hb2 (by have := hb1.size; simp at this ⊢; omega)))); have hL2 : Below W0.heap.size W0 w2 := Below.thru2 (by repeat (first | (with_reducible exact hL1) | (with_reducible exact Below.refl _ _) | (with_reducible refine Below.drew ?_) | (with_reducible refine Below.al2 ?_))) hb2))
  all_goals
    rename_i hheld
    have E1 := Lib.hid (E.out.below hheld.1)
    clear hheld
    go_wp2
    refine bodyPost_ret (v := .string (encS s inc seq)) (by rw [HR.out]; simp [results, Try.results23, go_sem]) rfl ⟨rfl, E1.out.bel⟩
end Go.Proofs.Ytkgekhabafjpiab

namespace Go.Proofs.Ytkgekhabafjpiab
open Go.RowKit Go.Lib
set_option linter.unusedSimpArgs false
set_option linter.unusedVariables false

theorem beatE_zero {s : ByteArray} {inc seq : Int} (h : beatE s inc seq = 0) : s.size ≤ 8 ∧ 0 ≤ inc ∧ inc ≤ 2147483647 ∧ 1 ≤ seq ∧ seq ≤ 2147483647 := by
  unfold beatE at h
  split at h
  · rename_i hi
    unfold idB at hi
    simp only [Bool.and_eq_true] at hi
    have := wi_true.1 hi.1
    split at h
    · exact ⟨by omega, by assumption⟩
    · simp at h
  · simp at h

set_option maxRecDepth 100000 in
set_option maxHeartbeats 1000000 in
theorem enc_err (s : ByteArray) (hs : s.size ≤ maxLen) (inc seq e : Int) (he : beatE s inc seq = e) (hz : e ≠ 0) (w : World) :
    Calls Try.prog 12 #[.agg #[.string s, .int .i64 inc, .int .i64 seq]] w fun x w' => x = .returned (.tuple #[.string ⟨#[]⟩, .int .i64 e]) ∧ Below w.heap.size w w' := by
  have HE := Lib.hid he
  have HS := Lib.hid hs
  have E := Lib.hid ((Env.start w).lay #[.string s, .int .i64 inc, .int .i64 seq] 48)
  clear he hs
  go_enter Try.func12, Try.ntmps12
  go_wp2_with fail
  refine (bcheck_any s HS.out inc seq _).mono ?_
  rw [HE.out]
  rintro e' w1 ⟨rfl, hb1⟩
  have E1 := Lib.hid (E.out.below hb1)
  clear hb1
  go_wp2
  refine bodyPost_ret (v := .tuple #[.string ⟨#[]⟩, .int .i64 e]) (by simp [results, Try.results12, go_sem]) rfl ⟨rfl, E1.out.bel⟩

set_option maxRecDepth 100000 in
set_option maxHeartbeats 1000000 in
theorem enc_ok (s : ByteArray) (inc seq : Int) (he : beatE s inc seq = 0) (w : World) :
    Calls Try.prog 12 #[.agg #[.string s, .int .i64 inc, .int .i64 seq]] w fun x w' => x = .returned (.tuple #[.string (codeS s inc seq), .int .i64 0]) ∧ Below w.heap.size w w' := by
  obtain ⟨h8, i0, i1, q0, q1⟩ := beatE_zero he
  have HE := Lib.hid he
  have hA := sadd_ok (P := Try.prog) (encS s inc seq) (four8 (crcV (encS s inc seq))) (by rw [encS_size, four8_size]; omega)
  have HCR := Lib.hid (show ∀ w, Calls Try.prog 24 #[.string (encS s inc seq)] w fun e w' => e = .returned (.tuple #[.int .i64 (crcV (encS s inc seq)), .int .i64 0]) ∧ Below w.heap.size w w' from fun w => cof_ok (encS s inc seq) (by rw [encS_size]; omega) w)
  have HF := Lib.hid (show ∀ w, Calls Try.prog 25 #[.int .i64 (crcV (encS s inc seq))] w fun e w' => e = .returned (.string (four8 (crcV (encS s inc seq)))) ∧ Below w.heap.size w w' from fun w => by
    obtain ⟨c0, c1⟩ := crcV_bd (encS s inc seq)
    exact four_any _ c0 c1 w)
  have HP := Lib.hid (fun w => plain_ok s h8 inc seq i0 i1 (by omega) q1 w)
  have HR := Lib.hid (show codeS s inc seq = encS s inc seq ++ four8 (crcV (encS s inc seq)) from rfl)
  have E := Lib.hid ((Env.start w).lay #[.string s, .int .i64 inc, .int .i64 seq] 48)
  generalize four8 (crcV (encS s inc seq)) = B3 at *
  generalize crcV (encS s inc seq) = cv at *
  generalize encS s inc seq = X4 at *
  clear he
  go_enter Try.func12, Try.ntmps12
  go_wp2_with fail
  refine (bcheck_any s (by unfold maxLen; omega) inc seq _).mono ?_
  rw [HE.out]
  rintro e' w1 ⟨rfl, hb1⟩
  have E1 := Lib.hid (E.out.below hb1)
  clear hb1
  have a0 := E1.out.hd.cell 0
  have a1 := E1.out.hd.cell 1
  have a2 := E1.out.hd.cell 2
  have p0 := E1.out.hd.lt
  simp at a0 a1 a2 p0
  go_wp2_with fail
  refine (HP.out _).mono ?_
  rintro e' w2 ⟨rfl, hb2⟩
  have E2 := Lib.hid (E1.out.below hb2)
  clear hb2
  go_wp2_with fail
  refine (HCR.out _).mono ?_
  rintro e' w3 ⟨rfl, hb3⟩
  have E3 := Lib.hid (E2.out.below hb3)
  clear hb3
  go_wp2_with fail
  refine (HF.out _).mono ?_
  rintro e' w4 ⟨rfl, hb4⟩
  have E4 := Lib.hid (E3.out.below hb4)
  clear hb4
  go_wp2
  refine bodyPost_ret (v := .tuple #[.string (codeS s inc seq), .int .i64 0]) (by rw [HR.out]; simp [results, Try.results12, go_sem]) rfl ⟨rfl, E4.out.bel⟩
end Go.Proofs.Ytkgekhabafjpiab
