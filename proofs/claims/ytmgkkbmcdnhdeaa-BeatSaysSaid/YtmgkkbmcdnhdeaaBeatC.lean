/- The reference's Code, walked. -/
import Derived.Test.YtmgkkbmcdnhdeaaBeatS
namespace Go.Proofs.Ytmgkkbmcdnhdeaa
open Go.RowKit Go.Lib
set_option linter.unusedSimpArgs false
set_option linter.unusedVariables false

set_option maxHeartbeats 4000000 in
theorem code_ok (s : ByteArray) (hs : s.size ≤ 8) (inc seq : Int) (i0 : 0 ≤ inc) (i1 : inc ≤ 2147483647) (q0 : 0 ≤ seq) (q1 : seq ≤ 2147483647) (w : World) :
    Calls Try.prog 10 #[.agg #[.string s, .int .i64 inc, .int .i64 seq]] w fun e w' => e = .returned (.string (codeS s inc seq)) ∧ Below w.heap.size w w' := by
  have HF0 := Lib.hid (show ∀ w, Calls Try.prog 19 #[.int .i64 (s.size : Int), .int .i64 1] w fun e w' => e = .returned (.string (one8 s.size)) ∧ Below w.heap.size w w' from fun w => by
    have := rbytes_any 1 (s.size : Int) (by omega) (by omega) (by omega) w
    rw [show bN 1 (s.size : Int) = [u8 s.size] by simp only [bN, List.nil_append]; rw [show ((s.size : Nat) : Int) % 256 = s.size by omega]] at this
    exact this)
  have HF1 := Lib.hid (show ∀ w, Calls Try.prog 19 #[.int .i64 inc, .int .i64 4] w fun e w' => e = .returned (.string (four8 inc)) ∧ Below w.heap.size w w' from fun w => by
    have := rbytes_any 4 inc (by omega) i0 (by omega) w
    rw [bN_4 inc i0 (by omega)] at this
    exact this)
  have HF2 := Lib.hid (show ∀ w, Calls Try.prog 19 #[.int .i64 seq, .int .i64 4] w fun e w' => e = .returned (.string (four8 seq)) ∧ Below w.heap.size w w' from fun w => by
    have := rbytes_any 4 seq (by omega) q0 (by omega) w
    rw [bN_4 seq q0 (by omega)] at this
    exact this)
  have HCR := Lib.hid (show ∀ w, Calls Try.prog 20 #[.string (encS s inc seq)] w fun e w' => e = .returned (.int .i64 (crcV (encS s inc seq))) ∧ w = w' from fun w => rcrc_ok (encS s inc seq) (by rw [encS_size]; omega) w)
  have HF3 := Lib.hid (show ∀ w, Calls Try.prog 19 #[.int .i64 (crcV (encS s inc seq)), .int .i64 4] w fun e w' => e = .returned (.string (four8 (crcV (encS s inc seq)))) ∧ Below w.heap.size w w' from fun w => by
    obtain ⟨c0, c1⟩ := crcV_bd (encS s inc seq)
    have := rbytes_any 4 (crcV (encS s inc seq)) (by omega) c0 (by omega) w
    rw [bN_4 _ c0 c1] at this
    exact this)
  have hA1 := sadd_ok (P := Try.prog) chH (one8 s.size) (by rw [chH_size, one8_size]; omega)
  have hA2 := sadd_ok (P := Try.prog) (chH ++ one8 s.size) s (by simp only [ByteArray.size_append, one8_size, chH_size]; omega)
  have hA3 := sadd_ok (P := Try.prog) ((chH ++ one8 s.size) ++ s) (four8 inc) (by simp only [ByteArray.size_append, four8_size, one8_size, chH_size]; omega)
  have hA4 := sadd_ok (P := Try.prog) (((chH ++ one8 s.size) ++ s) ++ four8 inc) (four8 seq) (by simp only [ByteArray.size_append, four8_size, one8_size, chH_size]; omega)
  have hA5 := sadd_ok (P := Try.prog) (encS s inc seq) (four8 (crcV (encS s inc seq))) (by rw [encS_size, four8_size]; omega)
  have HR := Lib.hid (show codeS s inc seq = encS s inc seq ++ four8 (crcV (encS s inc seq)) from rfl)
  have HE := Lib.hid (show encS s inc seq = (((chH ++ one8 s.size) ++ s) ++ four8 inc) ++ four8 seq from rfl)
  rw [← HE.out] at hA4
  have hch : (⟨#[72]⟩ : ByteArray) = chH := rfl
  have E := Lib.hid ((Env.start w).lay #[.string s, .int .i64 inc, .int .i64 seq] 23)
  generalize codeS s inc seq = X5 at *
  generalize four8 (crcV (encS s inc seq)) = B3 at *
  generalize crcV (encS s inc seq) = cv at *
  generalize encS s inc seq = X4 at *
  generalize four8 inc = B1 at *
  generalize four8 seq = B2 at *
  generalize one8 s.size = C1 at *
  generalize chH ++ C1 = X1 at *
  generalize X1 ++ s = X2 at *
  generalize X2 ++ B1 = X3 at *
  rw [← HR.out] at hA5
  go_enter Try.func10, Try.ntmps10
  go_upto_region 1 with fail
  generalize hW0 : World.alloc w _ = W0 at *
  clear hW0
  have HS := Lib.hid (show ∀ w', Below W0.heap.size W0 w' → (Below W0.heap.size W0 w' ∧ w'.cell? ⟨w.heap.size, 0, none⟩ = some (.string s) ∧ w'.cell? ⟨w.heap.size, 1, none⟩ = some (.int .i64 inc) ∧ w'.cell? ⟨w.heap.size, 2, none⟩ = some (.int .i64 seq))
    from fun w' h => ⟨h, (E.out.below h).hd.cell 0, (E.out.below h).hd.cell 1, (E.out.below h).hd.cell 2⟩)
  have tok1 : True := trivial
  go_region_held3 (fun w' => Below W0.heap.size W0 w' ∧ w'.cell? ⟨w.heap.size, 0, none⟩ = some (.string s) ∧ w'.cell? ⟨w.heap.size, 1, none⟩ = some (.int .i64 inc) ∧ w'.cell? ⟨w.heap.size, 2, none⟩ = some (.int .i64 seq))
    ((refine HS.out _ ?_; repeat (first | (with_reducible exact hL3) | (with_reducible exact hL2) | (with_reducible exact hL1) | (with_reducible exact Below.refl _ _) | (with_reducible refine Below.drew ?_))))
    (first
      | (go_at_call 19; (with_reducible refine (HF0.out _).mono ?_); rintro e' w1 ⟨rfl, hb1⟩; have hL1 : Below W0.heap.size W0 w1 := Below.thru2 (by repeat (first | (with_reducible exact Below.refl _ _) | (with_reducible refine Below.drew ?_))) hb1)
      | (go_at_call 19; have _t := tok1; (with_reducible refine (HF1.out _).mono ?_); rintro e' w2 ⟨rfl, hb2⟩; have hL2 : Below W0.heap.size W0 w2 := Below.thru2 (by repeat (first | (with_reducible exact hL1) | (with_reducible exact Below.refl _ _) | (with_reducible refine Below.drew ?_))) hb2; clear tok1 _t)
      | (go_at_call 19; (with_reducible refine (HF2.out _).mono ?_); rintro e' w3 ⟨rfl, hb3⟩; have hL3 : Below W0.heap.size W0 w3 := Below.thru2 (by repeat (first | (with_reducible exact hL2) | (with_reducible refine Below.drew ?_))) hb3))
  rename_i hheld
  have E1 := Lib.hid (E.out.below hheld.1)
  clear hheld HS hb1 hb2 hb3 hL1 hL2 hL3 HF0 HF1 HF2 E hA1 hA2 hA3 hA4
  go_wp2_with fail
  refine (HCR.out _).mono ?_
  rintro e' w' ⟨rfl, rfl⟩
  go_wp2_with fail
  refine (HF3.out _).mono ?_
  rintro e' w4 ⟨rfl, hb4⟩
  have E2 := Lib.hid (E1.out.below hb4)
  go_wp2
  go_ret
  exact ⟨rfl, E2.out.bel⟩
end Go.Proofs.Ytmgkkbmcdnhdeaa
