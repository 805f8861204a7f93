/- The law BeatSays, walked. -/
import Derived.Test.YtmgkkbmcdnhdeaaBeatG
import Derived.Test.YtmgkkbmcdnhdeaaBeatE
import Derived.Deep.DeepCutAuto
namespace Go.Proofs.Ytmgkkbmcdnhdeaa
open Go.RowKit Go.Lib
set_option linter.unusedSimpArgs false
set_option linter.unusedVariables false

theorem id_a (w : World) : Calls Try.prog 7 #[.string ⟨#[97]⟩] w fun e w' => e = .returned (.bool true) ∧ w = w' := by
  have h := bid_any ⟨#[97]⟩ (by unfold maxLen; decide) w
  rw [show idB ⟨#[97]⟩ = true by decide] at h
  exact h

set_option maxHeartbeats 4000000 in
set_option maxRecDepth 100000 in
theorem bs_err (b : ByteArray) (inc seq : Int) (s : ByteArray) (hb : b.size ≤ maxLen) (e : Int) (he : beatE b inc seq = e) (hz : e ≠ 0) (sd : ByteArray) (i q f : Int) (w : World)
    (hd1 : ∀ w, Calls Try.prog 5 #[.string s] w (DecIs sd i q f w)) (hd2 : ∀ w, Calls Try.prog 11 #[.string s] w (DecIs sd i q f w)) :
    Calls Try.prog 3 #[.agg #[.string b, .int .i64 inc, .int .i64 seq], .string s] w fun e' w' => e' = .returned (.bool true) ∧ Below w.heap.size w w' := by
  have HD1 := Lib.hid hd1
  have HD2 := Lib.hid hd2
  have HS := Lib.hid hb
  have HEN := Lib.hid (fun w => enc_err b hb inc seq e he hz w)
  have HBE := Lib.hid (show ∀ w, Calls Try.prog 6 #[.agg #[.string b, .int .i64 inc, .int .i64 seq]] w fun x w' => x = .returned (.int .i64 e) ∧ Below w.heap.size w w' from fun w => by rw [← he]; exact rbeat_any b inc seq w)
  have HCH := Lib.hid (show ∀ w, Calls Try.prog 9 #[.agg #[.string b, .int .i64 inc, .int .i64 seq]] w fun x w' => x = .returned (.int .i64 e) ∧ Below w.heap.size w w' from fun w => by rw [← he]; exact bcheck_any b hb inc seq w)
  have HI1 := Lib.hid (fun w => bid_any b hb w)
  have HI2 := Lib.hid (fun w => rid_any b w)
  have E0 := Lib.hid ((Env.start w).lay #[.string b, .int .i64 inc, .int .i64 seq] 23)
  clear hd1 hd2 hb he
  generalize idB b = ib at *
  go_enter Try.func3, Try.ntmps3
  go_wp2_with fail
  refine (HEN.out _).mono ?_
  rintro e' w1 ⟨rfl, hb1⟩
  have E1 := Lib.hid (E0.out.below hb1)
  clear hb1 E0
  have a0 := E1.out.hd.cell 0
  have a1 := E1.out.hd.cell 1
  have a2 := E1.out.hd.cell 2
  have p0 := E1.out.hd.lt
  simp at a0 a1 a2 p0
  go_wp2_with fail
  refine (HD1.out _).mono ?_
  rintro e' w2 ⟨rfl, hb2⟩
  have E2 := Lib.hid ((E1.out.below hb2).lay #[.string sd, .int .i64 i, .int .i64 q] 23)
  clear hb2 E1 a0 a1 a2 p0
  have a0 := E2.out.tl.hd.cell 0
  have a1 := E2.out.tl.hd.cell 1
  have a2 := E2.out.tl.hd.cell 2
  have p0 := E2.out.tl.hd.lt
  simp at a0 a1 a2 p0
  go_wp2_with fail
  refine (HBE.out _).mono ?_
  rintro e' w3 ⟨rfl, hb3⟩
  have E3 := Lib.hid (E2.out.below hb3)
  clear hb3 E2 a0 a1 a2 p0
  go_upto_region 4 with fail
  have HC := Lib.hid (show ∀ w', Below w3.heap.size w3 w' → (Below w3.heap.size w3 w' ∧ w'.cell? ⟨w.heap.size, 0, none⟩ = some (.string b) ∧ w'.cell? ⟨w.heap.size, 1, none⟩ = some (.int .i64 inc) ∧ w'.cell? ⟨w.heap.size, 2, none⟩ = some (.int .i64 seq))
    from fun w' h => ⟨h, (E3.out.below h).tl.hd.cell 0, (E3.out.below h).tl.hd.cell 1, (E3.out.below h).tl.hd.cell 2⟩)
  go_region_held3 (fun w' => Below w3.heap.size w3 w' ∧ w'.cell? ⟨w.heap.size, 0, none⟩ = some (.string b) ∧ w'.cell? ⟨w.heap.size, 1, none⟩ = some (.int .i64 inc) ∧ w'.cell? ⟨w.heap.size, 2, none⟩ = some (.int .i64 seq))
    ((refine HC.out _ ?_; repeat (first | (with_reducible exact hL5) | (with_reducible exact hL4) | (with_reducible exact Below.refl _ _) | (with_reducible refine Below.al2 ?_) | (with_reducible refine Below.drew ?_))))
    (first
      | (go_at_call 7; (with_reducible refine (HI1.out _).mono ?_); rintro e' w' ⟨rfl, rfl⟩)
      | (go_at_call 7; (with_reducible refine (id_a _).mono ?_); rintro e' w' ⟨rfl, rfl⟩)
      | (go_at_call 8; (with_reducible refine (HI2.out _).mono ?_); rintro e' w4 ⟨rfl, hb4⟩; have hL4 : Below w3.heap.size w3 w4 := Below.thru2 (by repeat (first | (with_reducible exact Below.refl _ _) | (with_reducible refine Below.al2 ?_) | (with_reducible refine Below.drew ?_))) hb4)
      | (go_at_call 9; (with_reducible refine (HCH.out _).mono ?_); rintro e' w5 ⟨rfl, hb5⟩; have hL5 : Below w3.heap.size w3 w5 := Below.thru2 (by repeat (first | (with_reducible exact hL4) | (with_reducible exact Below.refl _ _) | (with_reducible refine Below.al2 ?_) | (with_reducible refine Below.drew ?_))) hb5))
  all_goals
    rename_i hheld
    have E6 := Lib.hid (E3.out.below hheld.1)
    clear hheld HC E3
    have a0 := E6.out.tl.hd.cell 0
    have a1 := E6.out.tl.hd.cell 1
    have a2 := E6.out.tl.hd.cell 2
    have p0 := E6.out.tl.hd.lt
    simp at a0 a1 a2 p0
    clear a0 a1 a2 p0
    go_wp2_with fail
    refine (HD2.out _).mono ?_
    rintro e' w8 ⟨rfl, hb8⟩
    have E8 := Lib.hid ((E6.out.below hb8).lay #[.string sd, .int .i64 i, .int .i64 q] 23)
    clear hb8
    have a0 := E8.out.tl.hd.cell 0
    have a1 := E8.out.tl.hd.cell 1
    have a2 := E8.out.tl.hd.cell 2
    have p0 := E8.out.tl.hd.lt
    simp at a0 a1 a2 p0
    go_wp2
    all_goals first
      | (exfalso; omega)
      | (go_ret; exact ⟨rfl, E8.out.bel⟩)

set_option maxHeartbeats 4000000 in
set_option maxRecDepth 100000 in
theorem bs_ok (b : ByteArray) (inc seq : Int) (s : ByteArray) (hb : b.size ≤ maxLen) (he : beatE b inc seq = 0) (sd : ByteArray) (i q f : Int) (w : World)
    (hd1 : ∀ w, Calls Try.prog 5 #[.string s] w (DecIs sd i q f w)) (hd2 : ∀ w, Calls Try.prog 11 #[.string s] w (DecIs sd i q f w)) :
    Calls Try.prog 3 #[.agg #[.string b, .int .i64 inc, .int .i64 seq], .string s] w fun e' w' => e' = .returned (.bool true) ∧ Below w.heap.size w w' := by
  have HD1 := Lib.hid hd1
  have HD2 := Lib.hid hd2
  have HS := Lib.hid hb
  have HEN := Lib.hid (fun w => enc_ok b inc seq he w)
  obtain ⟨h8, i0, i1, q0, q1⟩ := beatE_zero he
  have HCO := Lib.hid (fun w => code_ok b h8 inc seq i0 i1 (by omega) q1 w)
  generalize codeS b inc seq = ct at *
  have HBE := Lib.hid (show ∀ w, Calls Try.prog 6 #[.agg #[.string b, .int .i64 inc, .int .i64 seq]] w fun x w' => x = .returned (.int .i64 0) ∧ Below w.heap.size w w' from fun w => by rw [← he]; exact rbeat_any b inc seq w)
  have HCH := Lib.hid (show ∀ w, Calls Try.prog 9 #[.agg #[.string b, .int .i64 inc, .int .i64 seq]] w fun x w' => x = .returned (.int .i64 0) ∧ Below w.heap.size w w' from fun w => by rw [← he]; exact bcheck_any b hb inc seq w)
  have HI1 := Lib.hid (fun w => bid_any b hb w)
  have HI2 := Lib.hid (fun w => rid_any b w)
  have E0 := Lib.hid ((Env.start w).lay #[.string b, .int .i64 inc, .int .i64 seq] 23)
  clear hd1 hd2 hb he
  generalize idB b = ib at *
  go_enter Try.func3, Try.ntmps3
  go_wp2_with fail
  refine (HEN.out _).mono ?_
  rintro e' w1 ⟨rfl, hb1⟩
  have E1 := Lib.hid (E0.out.below hb1)
  clear hb1 E0
  have a0 := E1.out.hd.cell 0
  have a1 := E1.out.hd.cell 1
  have a2 := E1.out.hd.cell 2
  have p0 := E1.out.hd.lt
  simp at a0 a1 a2 p0
  go_wp2_with fail
  refine (HD1.out _).mono ?_
  rintro e' w2 ⟨rfl, hb2⟩
  have E2 := Lib.hid ((E1.out.below hb2).lay #[.string sd, .int .i64 i, .int .i64 q] 23)
  clear hb2 E1 a0 a1 a2 p0
  have a0 := E2.out.tl.hd.cell 0
  have a1 := E2.out.tl.hd.cell 1
  have a2 := E2.out.tl.hd.cell 2
  have p0 := E2.out.tl.hd.lt
  simp at a0 a1 a2 p0
  go_wp2_with fail
  refine (HBE.out _).mono ?_
  rintro e' w3 ⟨rfl, hb3⟩
  have E3 := Lib.hid (E2.out.below hb3)
  clear hb3 E2 a0 a1 a2 p0
  go_upto_region 4 with fail
  have HC := Lib.hid (show ∀ w', Below w3.heap.size w3 w' → (Below w3.heap.size w3 w' ∧ w'.cell? ⟨w.heap.size, 0, none⟩ = some (.string b) ∧ w'.cell? ⟨w.heap.size, 1, none⟩ = some (.int .i64 inc) ∧ w'.cell? ⟨w.heap.size, 2, none⟩ = some (.int .i64 seq))
    from fun w' h => ⟨h, (E3.out.below h).tl.hd.cell 0, (E3.out.below h).tl.hd.cell 1, (E3.out.below h).tl.hd.cell 2⟩)
  go_region_held3 (fun w' => Below w3.heap.size w3 w' ∧ w'.cell? ⟨w.heap.size, 0, none⟩ = some (.string b) ∧ w'.cell? ⟨w.heap.size, 1, none⟩ = some (.int .i64 inc) ∧ w'.cell? ⟨w.heap.size, 2, none⟩ = some (.int .i64 seq))
    ((refine HC.out _ ?_; repeat (first | (with_reducible exact hL5) | (with_reducible exact hL4) | (with_reducible exact Below.refl _ _) | (with_reducible refine Below.al2 ?_) | (with_reducible refine Below.drew ?_))))
    (first
      | (go_at_call 7; (with_reducible refine (HI1.out _).mono ?_); rintro e' w' ⟨rfl, rfl⟩)
      | (go_at_call 7; (with_reducible refine (id_a _).mono ?_); rintro e' w' ⟨rfl, rfl⟩)
      | (go_at_call 8; (with_reducible refine (HI2.out _).mono ?_); rintro e' w4 ⟨rfl, hb4⟩; have hL4 : Below w3.heap.size w3 w4 := Below.thru2 (by repeat (first | (with_reducible exact Below.refl _ _) | (with_reducible refine Below.al2 ?_) | (with_reducible refine Below.drew ?_))) hb4)
      | (go_at_call 9; (with_reducible refine (HCH.out _).mono ?_); rintro e' w5 ⟨rfl, hb5⟩; have hL5 : Below w3.heap.size w3 w5 := Below.thru2 (by repeat (first | (with_reducible exact hL4) | (with_reducible exact Below.refl _ _) | (with_reducible refine Below.al2 ?_) | (with_reducible refine Below.drew ?_))) hb5))
  all_goals
    rename_i hheld
    have E6 := Lib.hid (E3.out.below hheld.1)
    clear hheld HC E3
    have a0 := E6.out.tl.hd.cell 0
    have a1 := E6.out.tl.hd.cell 1
    have a2 := E6.out.tl.hd.cell 2
    have p0 := E6.out.tl.hd.lt
    simp at a0 a1 a2 p0
    go_wp2_with fail
    refine (HCO.out _).mono ?_
    rintro e' w7 ⟨rfl, hb7⟩
    have E7 := Lib.hid (E6.out.below hb7)
    clear hb7 a0 a1 a2 p0
    go_wp2_with fail
    refine (HD2.out _).mono ?_
    rintro e' w8 ⟨rfl, hb8⟩
    have E8 := Lib.hid ((E7.out.below hb8).lay #[.string sd, .int .i64 i, .int .i64 q] 23)
    clear hb8
    have a0 := E8.out.tl.hd.cell 0
    have a1 := E8.out.tl.hd.cell 1
    have a2 := E8.out.tl.hd.cell 2
    have p0 := E8.out.tl.hd.lt
    simp at a0 a1 a2 p0
    go_wp2
    all_goals first
      | (exfalso; omega)
      | (go_ret; exact ⟨rfl, E8.out.bel⟩)

theorem beat_dec (s : ByteArray) : ∃ (sd : ByteArray) (i q f : Int), (∀ w, Calls Try.prog 5 #[.string s] w (DecIs sd i q f w)) ∧ (∀ w, Calls Try.prog 11 #[.string s] w (DecIs sd i q f w)) := by
  by_cases h1 : 1 < s.size
  case neg => exact ⟨_, _, _, _, dec_short s (by omega), rdec_short s (by omega)⟩
  by_cases hH : (s[0]).toNat = 72
  case neg => exact ⟨_, _, _, _, dec_h s h1 hH, rdec_h s h1 hH⟩
  by_cases hk0 : (s[1]).toNat = 0
  · exact ⟨_, _, _, _, dec_k0 s h1 hH hk0, rdec_k0 s h1 hH hk0⟩
  obtain ⟨k, hk⟩ : ∃ k, (s[1]).toNat = k := ⟨_, rfl⟩
  by_cases hk8 : 8 < k
  · exact ⟨_, _, _, _, dec_k9 s k h1 hH hk hk8, rdec_k9 s k h1 hH hk hk8⟩
  by_cases hl : s.size < 14 + k
  · exact ⟨_, _, _, _, dec_less s k h1 hH hk (by omega) (by omega) hl, rdec_less s k h1 hH hk (by omega) (by omega) hl⟩
  by_cases hm : 14 + k < s.size
  · exact ⟨_, _, _, _, dec_more s k h1 hH hk (by omega) (by omega) hm, rdec_more s k h1 hH hk (by omega) (by omega) hm⟩
  have hsz : s.size = 14 + k := by omega
  by_cases hsum : crcV (s.extract 0 (10 + k)) = num4 s (10 + k)
  case neg => exact ⟨_, _, _, _, dec_sum s k h1 hH hk (by omega) (by omega) hsz hsum, rdec_sum s k h1 hH hk (by omega) (by omega) hsz hsum⟩
  by_cases hb : beatE (s.extract 2 (2 + k)) (num4 s (2 + k)) (num4 s (6 + k)) = 0
  · exact ⟨_, _, _, _, dec_good s k h1 hH hk (by omega) (by omega) hsz hsum hb, rdec_good s k h1 hH hk (by omega) (by omega) hsz hsum hb⟩
  · exact ⟨_, _, _, _, dec_bad s k h1 hH hk (by omega) (by omega) hsz hsum _ rfl hb, rdec_bad s k h1 hH hk (by omega) (by omega) hsz hsum _ rfl hb⟩

theorem beatSays_walk (b : ByteArray) (inc seq : Int) (s : ByteArray) (w : World) (hb : b.size ≤ maxLen) (hs : s.size ≤ maxLen) :
    Calls Try.prog 3 #[.agg #[.string b, .int .i64 inc, .int .i64 seq], .string s] w fun e' w' => e' = .returned (.bool true) ∧ Below w.heap.size w w' := by
  obtain ⟨sd, i, q, f, h1, h2⟩ := beat_dec s
  by_cases hz : beatE b inc seq = 0
  · exact bs_ok b inc seq s hb hz sd i q f w h1 h2
  · exact bs_err b inc seq s hb _ rfl hz sd i q f w h1 h2

end Go.Proofs.Ytmgkkbmcdnhdeaa
