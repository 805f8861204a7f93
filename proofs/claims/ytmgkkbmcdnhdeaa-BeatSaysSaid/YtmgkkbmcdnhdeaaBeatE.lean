/- beat.Encode, walked. -/
import Derived.Test.YtmgkkbmcdnhdeaaBeatP
namespace Go.Proofs.Ytmgkkbmcdnhdeaa
open Go.RowKit Go.Lib
set_option linter.unusedSimpArgs false
set_option linter.unusedVariables false

theorem beatE_zero {s : ByteArray} {inc seq : Int} (h : beatE s inc seq = 0) : s.size ≤ 8 ∧ 0 ≤ inc ∧ inc ≤ 2147483647 ∧ 1 ≤ seq ∧ seq ≤ 2147483647 := by
  unfold beatE at h
  split at h
  · rename_i hi
    unfold idB at hi
    simp only [Bool.and_eq_true] at hi
    have := wi_true.1 hi.1
    split at h
    · exact ⟨by omega, by assumption⟩
    · simp at h
  · simp at h

set_option maxHeartbeats 1000000 in
theorem enc_err (s : ByteArray) (hs : s.size ≤ maxLen) (inc seq e : Int) (he : beatE s inc seq = e) (hz : e ≠ 0) (w : World) :
    Calls Try.prog 4 #[.agg #[.string s, .int .i64 inc, .int .i64 seq]] w fun x w' => x = .returned (.tuple #[.string ⟨#[]⟩, .int .i64 e]) ∧ Below w.heap.size w w' := by
  have HE := Lib.hid he
  have HS := Lib.hid hs
  have E := Lib.hid ((Env.start w).lay #[.string s, .int .i64 inc, .int .i64 seq] 23)
  clear he hs
  go_enter Try.func4, Try.ntmps4
  go_wp2_with fail
  refine (bcheck_any s HS.out inc seq _).mono ?_
  rw [HE.out]
  rintro e' w1 ⟨rfl, hb1⟩
  have E1 := Lib.hid (E.out.below hb1)
  clear hb1
  go_wp2
  refine bodyPost_ret (v := .tuple #[.string ⟨#[]⟩, .int .i64 e]) (by simp [results, Try.results4, go_sem]) rfl ⟨rfl, E1.out.bel⟩

set_option maxHeartbeats 1000000 in
theorem enc_ok (s : ByteArray) (inc seq : Int) (he : beatE s inc seq = 0) (w : World) :
    Calls Try.prog 4 #[.agg #[.string s, .int .i64 inc, .int .i64 seq]] w fun x w' => x = .returned (.tuple #[.string (codeS s inc seq), .int .i64 0]) ∧ Below w.heap.size w w' := by
  obtain ⟨h8, i0, i1, q0, q1⟩ := beatE_zero he
  have HE := Lib.hid he
  have hA := sadd_ok (P := Try.prog) (encS s inc seq) (four8 (crcV (encS s inc seq))) (by rw [encS_size, four8_size]; omega)
  have HCR := Lib.hid (show ∀ w, Calls Try.prog 13 #[.string (encS s inc seq)] w fun e w' => e = .returned (.tuple #[.int .i64 (crcV (encS s inc seq)), .int .i64 0]) ∧ Below w.heap.size w w' from fun w => cof_ok (encS s inc seq) (by rw [encS_size]; omega) w)
  have HF := Lib.hid (show ∀ w, Calls Try.prog 14 #[.int .i64 (crcV (encS s inc seq))] w fun e w' => e = .returned (.string (four8 (crcV (encS s inc seq)))) ∧ Below w.heap.size w w' from fun w => by
    obtain ⟨c0, c1⟩ := crcV_bd (encS s inc seq)
    exact four_any _ c0 c1 w)
  have HP := Lib.hid (fun w => plain_ok s h8 inc seq i0 i1 (by omega) q1 w)
  have HR := Lib.hid (show codeS s inc seq = encS s inc seq ++ four8 (crcV (encS s inc seq)) from rfl)
  have E := Lib.hid ((Env.start w).lay #[.string s, .int .i64 inc, .int .i64 seq] 23)
  generalize four8 (crcV (encS s inc seq)) = B3 at *
  generalize crcV (encS s inc seq) = cv at *
  generalize encS s inc seq = X4 at *
  clear he
  go_enter Try.func4, Try.ntmps4
  go_wp2_with fail
  refine (bcheck_any s (by unfold maxLen; omega) inc seq _).mono ?_
  rw [HE.out]
  rintro e' w1 ⟨rfl, hb1⟩
  have E1 := Lib.hid (E.out.below hb1)
  clear hb1
  have a0 := E1.out.hd.cell 0
  have a1 := E1.out.hd.cell 1
  have a2 := E1.out.hd.cell 2
  have p0 := E1.out.hd.lt
  simp at a0 a1 a2 p0
  go_wp2_with fail
  refine (HP.out _).mono ?_
  rintro e' w2 ⟨rfl, hb2⟩
  have E2 := Lib.hid (E1.out.below hb2)
  clear hb2
  go_wp2_with fail
  refine (HCR.out _).mono ?_
  rintro e' w3 ⟨rfl, hb3⟩
  have E3 := Lib.hid (E2.out.below hb3)
  clear hb3
  go_wp2_with fail
  refine (HF.out _).mono ?_
  rintro e' w4 ⟨rfl, hb4⟩
  have E4 := Lib.hid (E3.out.below hb4)
  clear hb4
  go_wp2
  refine bodyPost_ret (v := .tuple #[.string (codeS s inc seq), .int .i64 0]) (by rw [HR.out]; simp [results, Try.results4, go_sem]) rfl ⟨rfl, E4.out.bel⟩
end Go.Proofs.Ytmgkkbmcdnhdeaa
