/- beat.plain, walked. -/
import Derived.Test.YtmgkkbmcdnhdeaaBeatS
namespace Go.Proofs.Ytmgkkbmcdnhdeaa
open Go.RowKit Go.Lib
set_option linter.unusedSimpArgs false
set_option linter.unusedVariables false

def conv8 (x : Operand) : Op := Op.convert 39 9 x
theorem conv8_veil (x : Operand) : Op.convert 39 9 x = conv8 x := rfl
@[go_sem] theorem conv8_open (x : Operand) : conv8 x = Op.convert 39 9 x := rfl

set_option maxHeartbeats 2000000 in
theorem plain_ok (s : ByteArray) (hs : s.size ≤ 8) (inc seq : Int) (i0 : 0 ≤ inc) (i1 : inc ≤ 2147483647) (q0 : 0 ≤ seq) (q1 : seq ≤ 2147483647) (w : World) :
    Calls Try.prog 12 #[.agg #[.string s, .int .i64 inc, .int .i64 seq]] w fun e w' => e = .returned (.string (encS s inc seq)) ∧ Below w.heap.size w w' := by
  have HF1 := Lib.hid (fun w => four_any inc i0 (by omega) w)
  have HF2 := Lib.hid (fun w => four_any seq q0 (by omega) w)
  have hA1 := sadd_ok (P := Try.prog) chH (one8 s.size) (by rw [chH_size, one8_size]; omega)
  have hA2 := sadd_ok (P := Try.prog) (chH ++ one8 s.size) s (by simp only [ByteArray.size_append, one8_size, chH_size]; omega)
  have hA3 := sadd_ok (P := Try.prog) ((chH ++ one8 s.size) ++ s) (four8 inc) (by simp only [ByteArray.size_append, four8_size, one8_size, chH_size]; omega)
  have hA4 := sadd_ok (P := Try.prog) (((chH ++ one8 s.size) ++ s) ++ four8 inc) (four8 seq) (by simp only [ByteArray.size_append, four8_size, one8_size, chH_size]; omega)
  have HR := Lib.hid (show encS s inc seq = (((chH ++ one8 s.size) ++ s) ++ four8 inc) ++ four8 seq from rfl)
  have HF1 := Lib.hid (show ∀ w, Calls Try.prog 14 #[.int .i64 inc] w fun e w' => e = .returned (.string (four8 inc)) ∧ Below w.heap.size w w' from HF1.out)
  have HF2 := Lib.hid (show ∀ w, Calls Try.prog 14 #[.int .i64 seq] w fun e w' => e = .returned (.string (four8 seq)) ∧ Below w.heap.size w w' from HF2.out)
  have hcv : ∀ (X : World), (convert 39 9 (.slice (some ⟨X.heap.size, 0, none⟩) 1 1)).run Try.prog (X.alloc (.cells #[.int .u8 (s.size : Int)] 5)) = .ok (.string (one8 s.size)) (X.alloc (.cells #[.int .u8 (s.size : Int)] 5)) :=
    fun X => conv_bytes [(s.size : Int)] (Blk.new X 5 _) 1 1 rfl
  have hcd : ∀ (X : World), (convert 39 9 (.slice (some ⟨X.heap.size, 0, none⟩) 1 1)).run Try.prog (X.alloc (.cells #[.int .u8 (s.size : Int)] 5)).drew = .ok (.string (one8 s.size)) (X.alloc (.cells #[.int .u8 (s.size : Int)] 5)).drew :=
    fun X => conv_bytes [(s.size : Int)] (Blk.new X 5 _).drew 1 1 rfl
  have hcx : ∀ (X : World), (convert 39 9 (.slice (some ⟨X.heap.size, 0, none⟩) 1 1)).run Try.prog (X.drew.alloc (.cells #[.int .u8 (s.size : Int)] 5)) = .ok (.string (one8 s.size)) (X.drew.alloc (.cells #[.int .u8 (s.size : Int)] 5)) :=
    fun X => conv_bytes [(s.size : Int)] (Blk.new X.drew 5 _) 1 1 rfl
  have hcy : ∀ (X : World), (convert 39 9 (.slice (some ⟨X.heap.size, 0, none⟩) 1 1)).run Try.prog (X.drew.alloc (.cells #[.int .u8 (s.size : Int)] 5)).drew = .ok (.string (one8 s.size)) (X.drew.alloc (.cells #[.int .u8 (s.size : Int)] 5)).drew :=
    fun X => conv_bytes [(s.size : Int)] (Blk.new X.drew 5 _).drew 1 1 rfl
  have hch : (⟨#[72]⟩ : ByteArray) = chH := rfl
  have HCB := Lib.hid (show ∀ (W : World) (g : Nat), Blk W g 5 #[.int .u8 (s.size : Int)] → (convert 39 9 (.slice (some ⟨g, 0, none⟩) 1 1)).run Try.prog W = .ok (.string (one8 s.size)) W from fun W g h => conv_bytes [(s.size : Int)] h 1 1 rfl)
  have hu8 : IntKind.u8.wrap (s.size : Int) = (s.size : Int) := by rw [IntKind.wrap_u8]; omega
  have E := Lib.hid ((Env.start w).lay #[.string s, .int .i64 inc, .int .i64 seq] 23)
  generalize four8 inc = B1 at *
  generalize four8 seq = B2 at *
  generalize one8 s.size = C1 at *
  generalize chH ++ C1 = X1 at *
  generalize X1 ++ s = X2 at *
  generalize X2 ++ B1 = X3 at *
  generalize X3 ++ B2 = X4 at *
  go_enter Try.func12, Try.ntmps12
  go_upto_region 1 with fail
  generalize hW0 : World.alloc w _ = W0 at *
  clear hW0
  have p0 := E.out.hd.lt
  have x0 := E.out.hd.cell 0
  have x1 := E.out.hd.cell 1
  have x2 := E.out.hd.cell 2
  simp at x0 x1 x2
  have HS := Lib.hid (show ∀ w', Below W0.heap.size W0 w' → (Below W0.heap.size W0 w' ∧ w'.cell? ⟨w.heap.size, 0, none⟩ = some (.string s) ∧ w'.cell? ⟨w.heap.size, 1, none⟩ = some (.int .i64 inc) ∧ w'.cell? ⟨w.heap.size, 2, none⟩ = some (.int .i64 seq))
    from fun w' h => ⟨h, (E.out.below h).hd.cell 0, (E.out.below h).hd.cell 1, (E.out.below h).hd.cell 2⟩)
  have tok1 : True := trivial
  simp only [conv8_veil]
  go_region_held3 (fun w' => Below W0.heap.size W0 w' ∧ w'.cell? ⟨w.heap.size, 0, none⟩ = some (.string s) ∧ w'.cell? ⟨w.heap.size, 1, none⟩ = some (.int .i64 inc) ∧ w'.cell? ⟨w.heap.size, 2, none⟩ = some (.int .i64 seq))
    ((refine HS.out _ ?_; repeat (first | (with_reducible exact hL2) | (with_reducible exact hL1) | (with_reducible exact Below.refl _ _) | (with_reducible refine Below.al2 ?_) | (with_reducible refine Below.drew ?_))))
    (first
      | (go_at_call 14; have _t := tok1; (with_reducible refine (HF1.out _).mono ?_); rintro e' w1 ⟨rfl, hb1⟩; (try (have hc1 := HCB.out w1 _ ((Blk.new _ 5 _).below hb1 (by simp)))); (try (have hc1 := HCB.out w1 _ ((Blk.new _ 5 _).drew.below hb1 (by simp)))); have hL1 : Below W0.heap.size W0 w1 := Below.thru2 (by repeat (first | (with_reducible exact Below.refl _ _) | (with_reducible refine Below.drew ?_) | (with_reducible refine Below.al2 ?_))) hb1; clear tok1 _t)
      | (go_at_call 14; (with_reducible refine (HF2.out _).mono ?_); rintro e' w2 ⟨rfl, hb2⟩; (try (have hc2 := HCB.out w2 _ ((Blk.new _ 5 _).below hb2 (by simp)))); (try (have hc2 := HCB.out w2 _ (((Blk.new _ 5 _).below hb1 (by simp)).below hb2 (by have := hb1.size; simp at this ⊢; omega)))); (try (have hc2 := HCB.out w2 _ (((Blk.new _ 5 _).drew.below hb1 (by simp)).below hb2 (by have := hb1.size; simp at this ⊢; omega)))); have hL2 : Below W0.heap.size W0 w2 := Below.thru2 (by repeat (first | (with_reducible exact hL1) | (with_reducible exact Below.refl _ _) | (with_reducible refine Below.drew ?_) | (with_reducible refine Below.al2 ?_))) hb2))
  all_goals
    rename_i hheld
    have E1 := Lib.hid (E.out.below hheld.1)
    clear hheld
    go_wp2
    refine bodyPost_ret (v := .string (encS s inc seq)) (by rw [HR.out]; simp [results, Try.results12, go_sem]) rfl ⟨rfl, E1.out.bel⟩
end Go.Proofs.Ytmgkkbmcdnhdeaa
