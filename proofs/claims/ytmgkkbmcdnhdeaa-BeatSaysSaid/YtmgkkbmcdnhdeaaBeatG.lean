/- The reference's Decode, walked. -/
import Derived.Test.YtmgkkbmcdnhdeaaBeatD
import Derived.Test.YtmgkkbmcdnhdeaaBeatC
import Derived.Test.YtmgkkbmcdnhdeaaBeatL
import Derived.Test.YtmgkkbmcdnhdeaaBeatE
namespace Go.Proofs.Ytmgkkbmcdnhdeaa
open Go.RowKit Go.Lib
set_option linter.unusedSimpArgs false
set_option linter.unusedVariables false

theorem rval4 (s : ByteArray) (a b : Nat) (hb : b ≤ s.size) (h : b = a + 4) (w : World) : Calls Try.prog 21 #[.string (s.extract a b)] w fun e w' => e = .returned (.int .i64 (num4 s a)) ∧ w = w' := by
  have hs : (s.extract a b).size = 4 := by rw [ByteArray.size_extract]; omega
  have := rvalue_any (s.extract a b) hs w
  rw [num4_list _ hs, num4_extract s a b 0 hb (by omega), Nat.add_zero] at this
  exact this

set_option maxHeartbeats 1000000 in
set_option maxRecDepth 100000 in
theorem rdec_short (s : ByteArray) (h : s.size < 2) (w : World) : Calls Try.prog 11 #[.string s] w (DecIs ⟨#[]⟩ 0 0 8 w) := by
  go_enter Try.func11, Try.ntmps11
  go_wp2
  refine bodyPost_ret (v := .tuple #[.agg #[.string ⟨#[]⟩, .int .i64 0, .int .i64 0], .int .i64 8]) (by simp [results, Try.results11, go_sem]) rfl ⟨rfl, (Below.refl _ w).alloc (Nat.le_refl _) _⟩

set_option maxHeartbeats 1000000 in
set_option maxRecDepth 100000 in
theorem rdec_h (s : ByteArray) (h1 : 1 < s.size) (hH : (s[0]).toNat ≠ 72) (w : World) : Calls Try.prog 11 #[.string s] w (DecIs ⟨#[]⟩ 0 0 3 w) := by
  have hh : (((s[0]).toNat : Int) == 72) = false := by simp; omega
  have h2 : ¬ (s.size : Int) < 2 := by omega
  go_enter Try.func11, Try.ntmps11
  go_wp2
  refine bodyPost_ret (v := .tuple #[.agg #[.string ⟨#[]⟩, .int .i64 0, .int .i64 0], .int .i64 3]) (by simp [results, Try.results11, go_sem]) rfl ⟨rfl, (Below.refl _ w).alloc (Nat.le_refl _) _⟩

set_option maxHeartbeats 1000000 in
set_option maxRecDepth 100000 in
theorem rdec_k0 (s : ByteArray) (h1 : 1 < s.size) (hH : (s[0]).toNat = 72) (hk : (s[1]).toNat = 0) (w : World) : Calls Try.prog 11 #[.string s] w (DecIs ⟨#[]⟩ 0 0 3 w) := by
  have hi0 : ((s[0]).toNat : Int) = 72 := by omega
  have hi1 : ((s[1]).toNat : Int) = 0 := by omega
  have h2 : ¬ (s.size : Int) < 2 := by omega
  clear hH hk
  go_enter Try.func11, Try.ntmps11
  go_wp2
  refine bodyPost_ret (v := .tuple #[.agg #[.string ⟨#[]⟩, .int .i64 0, .int .i64 0], .int .i64 3]) (by simp [results, Try.results11, go_sem]) rfl ⟨rfl, (Below.refl _ w).alloc (Nat.le_refl _) _⟩

set_option maxHeartbeats 1000000 in
set_option maxRecDepth 100000 in
theorem rdec_k9 (s : ByteArray) (k : Nat) (h1 : 1 < s.size) (hH : (s[0]).toNat = 72) (hk : (s[1]).toNat = k) (hk8 : 8 < k) (w : World) : Calls Try.prog 11 #[.string s] w (DecIs ⟨#[]⟩ 0 0 3 w) := by
  have hkb : k < 256 := by have := UInt8.toNat_lt s[1]; omega
  have hi0 : ((s[0]).toNat : Int) = 72 := by omega
  have hi1 : ((s[1]).toNat : Int) = (k : Int) := by omega
  have h2 : ¬ (s.size : Int) < 2 := by omega
  clear hH hk
  go_enter Try.func11, Try.ntmps11
  go_wp2
  refine bodyPost_ret (v := .tuple #[.agg #[.string ⟨#[]⟩, .int .i64 0, .int .i64 0], .int .i64 3]) (by simp [results, Try.results11, go_sem]) rfl ⟨rfl, (Below.refl _ w).alloc (Nat.le_refl _) _⟩

set_option maxHeartbeats 1000000 in
set_option maxRecDepth 100000 in
theorem rdec_less (s : ByteArray) (k : Nat) (h1 : 1 < s.size) (hH : (s[0]).toNat = 72) (hk : (s[1]).toNat = k) (hk1 : 1 ≤ k) (hk8 : k ≤ 8) (hsz : s.size < 14 + k) (w : World) : Calls Try.prog 11 #[.string s] w (DecIs ⟨#[]⟩ 0 0 8 w) := by
  have hkz : ((k : Int) == 0) = false := by simp; omega
  have hk9 : ¬ (8 : Int) < (k : Int) := by omega
  have hkn : ¬ k = 0 := by omega
  have hi0 : ((s[0]).toNat : Int) = 72 := by omega
  have hi1 : ((s[1]).toNat : Int) = (k : Int) := by omega
  have h2 : ¬ (s.size : Int) < 2 := by omega
  clear hH hk
  go_enter Try.func11, Try.ntmps11
  go_wp2
  refine bodyPost_ret (v := .tuple #[.agg #[.string ⟨#[]⟩, .int .i64 0, .int .i64 0], .int .i64 8]) (by simp [results, Try.results11, go_sem]) rfl ⟨rfl, (Below.refl _ w).alloc (Nat.le_refl _) _⟩

set_option maxHeartbeats 1000000 in
set_option maxRecDepth 100000 in
theorem rdec_more (s : ByteArray) (k : Nat) (h1 : 1 < s.size) (hH : (s[0]).toNat = 72) (hk : (s[1]).toNat = k) (hk1 : 1 ≤ k) (hk8 : k ≤ 8) (hsz : 14 + k < s.size) (w : World) : Calls Try.prog 11 #[.string s] w (DecIs ⟨#[]⟩ 0 0 3 w) := by
  have hkz : ((k : Int) == 0) = false := by simp; omega
  have hk9 : ¬ (8 : Int) < (k : Int) := by omega
  have hkn : ¬ k = 0 := by omega
  have hi0 : ((s[0]).toNat : Int) = 72 := by omega
  have hi1 : ((s[1]).toNat : Int) = (k : Int) := by omega
  have h2 : ¬ (s.size : Int) < 2 := by omega
  clear hH hk
  go_enter Try.func11, Try.ntmps11
  go_wp2
  refine bodyPost_ret (v := .tuple #[.agg #[.string ⟨#[]⟩, .int .i64 0, .int .i64 0], .int .i64 3]) (by simp [results, Try.results11, go_sem]) rfl ⟨rfl, (Below.refl _ w).alloc (Nat.le_refl _) _⟩

set_option maxHeartbeats 2000000 in
set_option maxRecDepth 100000 in
theorem rdec_sum (s : ByteArray) (k : Nat) (h1 : 1 < s.size) (hH : (s[0]).toNat = 72) (hk : (s[1]).toNat = k) (hk1 : 1 ≤ k) (hk8 : k ≤ 8) (hsz : s.size = 14 + k) (hsum : crcV (s.extract 0 (10 + k)) ≠ num4 s (10 + k)) (w : World) :
    Calls Try.prog 11 #[.string s] w (DecIs ⟨#[]⟩ 0 0 9 w) := by
  have HC := Lib.hid (show ∀ w, Calls Try.prog 20 #[.string (s.extract 0 (10 + k))] w fun e w' => e = .returned (.int .i64 (crcV (s.extract 0 (10 + k)))) ∧ w = w' from fun w => rcrc_ok (s.extract 0 (10 + k)) (by rw [ByteArray.size_extract]; omega) w)
  have HN := Lib.hid (fun w => rval4 s (10 + k) (14 + k) (by omega) (by omega) w)
  have HN1 := Lib.hid (fun w => rval4 s (2 + k) (6 + k) (by omega) (by omega) w)
  have HN2 := Lib.hid (fun w => rval4 s (6 + k) (10 + k) (by omega) (by omega) w)
  generalize crcV (s.extract 0 (10 + k)) = cv at *
  generalize num4 s (10 + k) = nv at *
  have hne : (cv == nv) = false := by simpa using hsum
  have hkz : ((k : Int) == 0) = false := by simp; omega
  have hk9 : ¬ (8 : Int) < (k : Int) := by omega
  have hkn : ¬ k = 0 := by omega
  have hi0 : ((s[0]).toNat : Int) = 72 := by omega
  have hi1 : ((s[1]).toNat : Int) = (k : Int) := by omega
  have hszi : (s.size : Int) = 14 + k := by omega
  have c1 : IntKind.i64.wrap ((2 : Int) + (k : Int) + 8) = (10 : Int) + (k : Int) := by rw [IntKind.wrap_i64]; omega
  have c2 : IntKind.i64.wrap ((2 : Int) + (k : Int) + 4) = (6 : Int) + (k : Int) := by rw [IntKind.wrap_i64]; omega
  have c3 : IntKind.i64.wrap ((2 : Int) + (k : Int) + 12) = (14 : Int) + (k : Int) := by rw [IntKind.wrap_i64]; omega
  have c4 : IntKind.i64.wrap ((2 : Int) + (k : Int)) = (2 : Int) + (k : Int) := by rw [IntKind.wrap_i64]; omega
  have c5 : (0 : Int) ≤ (10 : Int) + (k : Int) := by omega
  have c6 : (10 : Int) + (k : Int) ≤ (14 : Int) + (k : Int) := by omega
  have c7 : ((10 : Int) + (k : Int)).toNat = 10 + k := by omega
  have b3 : (2 : Int) ≤ (2 : Int) + (k : Int) := by omega
  have b4 : (2 : Int) + (k : Int) ≤ (14 : Int) + (k : Int) := by omega
  have b5 : (6 : Int) + (k : Int) ≤ (14 : Int) + (k : Int) := by omega
  have b6 : (0 : Int) ≤ (2 : Int) + (k : Int) := by omega
  have b7 : (0 : Int) ≤ (6 : Int) + (k : Int) := by omega
  have b8 : ((2 : Int) + (k : Int)).toNat = 2 + k := by omega
  have b9 : ((6 : Int) + (k : Int)).toNat = 6 + k := by omega
  have b10 : ((14 : Int) + (k : Int)).toNat = 14 + k := by omega
  have b11 : (2 : Int) ≤ (14 : Int) + (k : Int) := by omega
  have b12 : (0 : Int) ≤ (k : Int) := by omega
  have b13 : (2 : Int) + (k : Int) ≤ (6 : Int) + (k : Int) := by omega
  have b14 : (6 : Int) + (k : Int) ≤ (10 : Int) + (k : Int) := by omega
  have E := Lib.hid ((Env.start w).lay #[.string ⟨#[]⟩, .int .i64 0, .int .i64 0] 23)
  clear hH hk hsum
  go_enter Try.func11, Try.ntmps11
  go_upto_region 10 with fail
  generalize hW0 : World.alloc w _ = W0 at *
  clear hW0
  go_region_held3 (fun w' => Below W0.heap.size W0 w')
      (repeat (first | (with_reducible exact Below.refl _ _) | (with_reducible refine Below.drew ?_)))
      (first
        | (go_at_call 20; (with_reducible refine (HC.out _).mono ?_); rintro e' w' ⟨rfl, rfl⟩)
        | (go_at_call 21; (with_reducible refine (HN.out _).mono ?_); rintro e' w' ⟨rfl, rfl⟩))
  rename_i hheld
  have E2 := Lib.hid (E.out.below hheld)
  clear hheld E
  generalize World.drew W0 = w2 at *
  have r0 := E2.out.hd.cell 0
  have r1 := E2.out.hd.cell 1
  have r2 := E2.out.hd.cell 2
  have f0 := E2.out.hd.frozen 0
  have f1 := E2.out.hd.frozen 1
  have f2 := E2.out.hd.frozen 2
  have p0 := E2.out.hd.lt
  simp at r0 r1 r2 p0
  go_wp2
  have EF := Lib.hid (dec_ret E2.out rfl ⟨#[]⟩ 0 0)
  generalize ((w2.setCell ⟨w.heap.size, 0, none⟩ (.string ⟨#[]⟩)).setCell ⟨w.heap.size, 1, none⟩ (.int .i64 0)).setCell ⟨w.heap.size, 2, none⟩ (.int .i64 0) = WF at EF ⊢
  have s0 := EF.out.hd.cell 0
  have s1 := EF.out.hd.cell 1
  have s2 := EF.out.hd.cell 2
  simp at s0 s1 s2
  refine bodyPost_ret (v := .tuple #[.agg #[.string ⟨#[]⟩, .int .i64 0, .int .i64 0], .int .i64 9]) (by simp [results, Try.results11, go_sem, s0, s1, s2]) rfl ⟨rfl, EF.out.bel⟩

set_option maxHeartbeats 4000000 in
set_option maxRecDepth 100000 in
theorem rdec_bad (s : ByteArray) (k : Nat) (h1 : 1 < s.size) (hH : (s[0]).toNat = 72) (hk : (s[1]).toNat = k) (hk1 : 1 ≤ k) (hk8 : k ≤ 8) (hsz : s.size = 14 + k) (hsum : crcV (s.extract 0 (10 + k)) = num4 s (10 + k)) (e : Int) (hb : beatE (s.extract 2 (2 + k)) (num4 s (2 + k)) (num4 s (6 + k)) = e) (hz : e ≠ 0) (w : World) :
    Calls Try.prog 11 #[.string s] w (DecIs ⟨#[]⟩ 0 0 3 w) := by
  have HC := Lib.hid (show ∀ w, Calls Try.prog 20 #[.string (s.extract 0 (10 + k))] w fun e w' => e = .returned (.int .i64 (crcV (s.extract 0 (10 + k)))) ∧ w = w' from fun w => rcrc_ok (s.extract 0 (10 + k)) (by rw [ByteArray.size_extract]; omega) w)
  have HN := Lib.hid (fun w => rval4 s (10 + k) (14 + k) (by omega) (by omega) w)
  have HN1 := Lib.hid (fun w => rval4 s (2 + k) (6 + k) (by omega) (by omega) w)
  have HN2 := Lib.hid (fun w => rval4 s (6 + k) (10 + k) (by omega) (by omega) w)
  have HB := Lib.hid hb
  clear hb
  rw [← hsum] at HN
  generalize crcV (s.extract 0 (10 + k)) = cv at *
  generalize num4 s (2 + k) = n1 at *
  generalize num4 s (6 + k) = n2 at *
  have hkz : ((k : Int) == 0) = false := by simp; omega
  have hk9 : ¬ (8 : Int) < (k : Int) := by omega
  have hkn : ¬ k = 0 := by omega
  have hi0 : ((s[0]).toNat : Int) = 72 := by omega
  have hi1 : ((s[1]).toNat : Int) = (k : Int) := by omega
  have hszi : (s.size : Int) = 14 + k := by omega
  have c1 : IntKind.i64.wrap ((2 : Int) + (k : Int) + 8) = (10 : Int) + (k : Int) := by rw [IntKind.wrap_i64]; omega
  have c2 : IntKind.i64.wrap ((2 : Int) + (k : Int) + 4) = (6 : Int) + (k : Int) := by rw [IntKind.wrap_i64]; omega
  have c3 : IntKind.i64.wrap ((2 : Int) + (k : Int) + 12) = (14 : Int) + (k : Int) := by rw [IntKind.wrap_i64]; omega
  have c4 : IntKind.i64.wrap ((2 : Int) + (k : Int)) = (2 : Int) + (k : Int) := by rw [IntKind.wrap_i64]; omega
  have c5 : (0 : Int) ≤ (10 : Int) + (k : Int) := by omega
  have c6 : (10 : Int) + (k : Int) ≤ (14 : Int) + (k : Int) := by omega
  have c7 : ((10 : Int) + (k : Int)).toNat = 10 + k := by omega
  have b3 : (2 : Int) ≤ (2 : Int) + (k : Int) := by omega
  have b4 : (2 : Int) + (k : Int) ≤ (14 : Int) + (k : Int) := by omega
  have b5 : (6 : Int) + (k : Int) ≤ (14 : Int) + (k : Int) := by omega
  have b6 : (0 : Int) ≤ (2 : Int) + (k : Int) := by omega
  have b7 : (0 : Int) ≤ (6 : Int) + (k : Int) := by omega
  have b8 : ((2 : Int) + (k : Int)).toNat = 2 + k := by omega
  have b9 : ((6 : Int) + (k : Int)).toNat = 6 + k := by omega
  have b10 : ((14 : Int) + (k : Int)).toNat = 14 + k := by omega
  have b11 : (2 : Int) ≤ (14 : Int) + (k : Int) := by omega
  have b12 : (0 : Int) ≤ (k : Int) := by omega
  have b13 : (2 : Int) + (k : Int) ≤ (6 : Int) + (k : Int) := by omega
  have b14 : (6 : Int) + (k : Int) ≤ (10 : Int) + (k : Int) := by omega
  have E := Lib.hid ((Env.start w).lay #[.string ⟨#[]⟩, .int .i64 0, .int .i64 0] 23)
  clear hH hk hsum
  go_enter Try.func11, Try.ntmps11
  go_upto_region 10 with fail
  generalize hW0 : World.alloc w _ = W0 at *
  clear hW0
  go_region_held3 (fun w' => Below W0.heap.size W0 w')
      (repeat (first | (with_reducible exact Below.refl _ _) | (with_reducible refine Below.drew ?_)))
      (first
        | (go_at_call 20; (with_reducible refine (HC.out _).mono ?_); rintro e' w' ⟨rfl, rfl⟩)
        | (go_at_call 21; (with_reducible refine (HN.out _).mono ?_); rintro e' w' ⟨rfl, rfl⟩))
  rename_i hheld
  have E2 := Lib.hid (E.out.below hheld)
  clear hheld E
  generalize World.drew W0 = w2 at *
  go_upto_region 12 with fail
  go_cut [5] (fun s5 wx => Got3 w2 (s.extract 2 (2 + k)) n1 n2 s5 wx)
  case first =>
    go_region_held3 (fun w' => Below w2.heap.size w2 w')
      (repeat (first | (with_reducible exact Below.refl _ _) | (with_reducible refine Below.al2 ?_) | (with_reducible refine Below.drew ?_) | ((with_reducible refine Below.setCell ?_ ?_ _); rotate_left; · (first | omega | (simp; done) | (simp; omega)))))
      (first
        | (go_at_call 21; (with_reducible refine (HN1.out _).mono ?_); rintro e' w' ⟨rfl, rfl⟩)
        | (go_at_call 21; (with_reducible refine (HN2.out _).mono ?_); rintro e' w' ⟨rfl, rfl⟩))
    all_goals
      rename_i hheld
      have hbel := hheld
      clear hheld
      go_wp2_with fail
      go_meet
      exact ⟨_, rfl, Nat.le_refl _, hbel, (Blk.new _ _ _).drew⟩
  case rest =>
    obtain ⟨g, rfl, hg, hbel, hgb⟩ := hcut
    have E3 := Lib.hid (E2.out.below hbel)
    have d0 := hgb.cell 0
    have d1 := hgb.cell 1
    have d2 := hgb.cell 2
    have dl := hgb.lt
    simp at d0 d1 d2
    clear hbel HN1 HN2
    go_wp2_with fail
    refine (rbeat_any (s.extract 2 (2 + k)) n1 n2 _).mono ?_
    rw [HB.out]
    rintro e' w6 ⟨rfl, hb6⟩
    have E4 := Lib.hid (E3.out.below hb6)
    have HG := Lib.hid (hgb.below hb6 dl)
    clear hgb hb6 E3 E2 d0 d1 d2
    have d0 := HG.out.cell 0
    have d1 := HG.out.cell 1
    have d2 := HG.out.cell 2
    have dl := HG.out.lt
    simp at d0 d1 d2
    have r0 := E4.out.hd.cell 0
    have r1 := E4.out.hd.cell 1
    have r2 := E4.out.hd.cell 2
    have f0 := E4.out.hd.frozen 0
    have f1 := E4.out.hd.frozen 1
    have f2 := E4.out.hd.frozen 2
    have p0 := E4.out.hd.lt
    simp at r0 r1 r2 p0
    go_wp2
    have EF := Lib.hid (dec_ret E4.out rfl ⟨#[]⟩ 0 0)
    generalize ((w6.setCell ⟨w.heap.size, 0, none⟩ (.string ⟨#[]⟩)).setCell ⟨w.heap.size, 1, none⟩ (.int .i64 0)).setCell ⟨w.heap.size, 2, none⟩ (.int .i64 0) = WF at EF ⊢
    have s0 := EF.out.hd.cell 0
    have s1 := EF.out.hd.cell 1
    have s2 := EF.out.hd.cell 2
    simp at s0 s1 s2
    refine bodyPost_ret (v := .tuple #[.agg #[.string ⟨#[]⟩, .int .i64 0, .int .i64 0], .int .i64 3]) (by simp [results, Try.results11, go_sem, s0, s1, s2]) rfl ⟨rfl, EF.out.bel⟩

set_option maxHeartbeats 4000000 in
set_option maxRecDepth 100000 in
theorem rdec_good (s : ByteArray) (k : Nat) (h1 : 1 < s.size) (hH : (s[0]).toNat = 72) (hk : (s[1]).toNat = k) (hk1 : 1 ≤ k) (hk8 : k ≤ 8) (hsz : s.size = 14 + k) (hsum : crcV (s.extract 0 (10 + k)) = num4 s (10 + k)) (hb : beatE (s.extract 2 (2 + k)) (num4 s (2 + k)) (num4 s (6 + k)) = 0) (w : World) :
    Calls Try.prog 11 #[.string s] w (DecIs (s.extract 2 (2 + k)) (num4 s (2 + k)) (num4 s (6 + k)) 0 w) := by
  have HC := Lib.hid (show ∀ w, Calls Try.prog 20 #[.string (s.extract 0 (10 + k))] w fun e w' => e = .returned (.int .i64 (crcV (s.extract 0 (10 + k)))) ∧ w = w' from fun w => rcrc_ok (s.extract 0 (10 + k)) (by rw [ByteArray.size_extract]; omega) w)
  have HN := Lib.hid (fun w => rval4 s (10 + k) (14 + k) (by omega) (by omega) w)
  have HN1 := Lib.hid (fun w => rval4 s (2 + k) (6 + k) (by omega) (by omega) w)
  have HN2 := Lib.hid (fun w => rval4 s (6 + k) (10 + k) (by omega) (by omega) w)
  have HCD := Lib.hid (show ∀ w, Calls Try.prog 10 #[.agg #[.string (s.extract 2 (2 + k)), .int .i64 (num4 s (2 + k)), .int .i64 (num4 s (6 + k))]] w fun e w' => e = .returned (.string s) ∧ Below w.heap.size w w' from fun w => by
    obtain ⟨x8, x0, x1, y0, y1⟩ := beatE_zero hb
    have := code_ok (s.extract 2 (2 + k)) x8 _ _ x0 x1 (by omega) y1 w
    rw [code_is s k h1 hH hk hsz hsum] at this
    exact this)
  have HB := Lib.hid hb
  clear hb
  rw [← hsum] at HN
  generalize crcV (s.extract 0 (10 + k)) = cv at *
  generalize num4 s (2 + k) = n1 at *
  generalize num4 s (6 + k) = n2 at *
  have hkz : ((k : Int) == 0) = false := by simp; omega
  have hk9 : ¬ (8 : Int) < (k : Int) := by omega
  have hkn : ¬ k = 0 := by omega
  have hi0 : ((s[0]).toNat : Int) = 72 := by omega
  have hi1 : ((s[1]).toNat : Int) = (k : Int) := by omega
  have hszi : (s.size : Int) = 14 + k := by omega
  have c1 : IntKind.i64.wrap ((2 : Int) + (k : Int) + 8) = (10 : Int) + (k : Int) := by rw [IntKind.wrap_i64]; omega
  have c2 : IntKind.i64.wrap ((2 : Int) + (k : Int) + 4) = (6 : Int) + (k : Int) := by rw [IntKind.wrap_i64]; omega
  have c3 : IntKind.i64.wrap ((2 : Int) + (k : Int) + 12) = (14 : Int) + (k : Int) := by rw [IntKind.wrap_i64]; omega
  have c4 : IntKind.i64.wrap ((2 : Int) + (k : Int)) = (2 : Int) + (k : Int) := by rw [IntKind.wrap_i64]; omega
  have c5 : (0 : Int) ≤ (10 : Int) + (k : Int) := by omega
  have c6 : (10 : Int) + (k : Int) ≤ (14 : Int) + (k : Int) := by omega
  have c7 : ((10 : Int) + (k : Int)).toNat = 10 + k := by omega
  have b3 : (2 : Int) ≤ (2 : Int) + (k : Int) := by omega
  have b4 : (2 : Int) + (k : Int) ≤ (14 : Int) + (k : Int) := by omega
  have b5 : (6 : Int) + (k : Int) ≤ (14 : Int) + (k : Int) := by omega
  have b6 : (0 : Int) ≤ (2 : Int) + (k : Int) := by omega
  have b7 : (0 : Int) ≤ (6 : Int) + (k : Int) := by omega
  have b8 : ((2 : Int) + (k : Int)).toNat = 2 + k := by omega
  have b9 : ((6 : Int) + (k : Int)).toNat = 6 + k := by omega
  have b10 : ((14 : Int) + (k : Int)).toNat = 14 + k := by omega
  have b11 : (2 : Int) ≤ (14 : Int) + (k : Int) := by omega
  have b12 : (0 : Int) ≤ (k : Int) := by omega
  have b13 : (2 : Int) + (k : Int) ≤ (6 : Int) + (k : Int) := by omega
  have b14 : (6 : Int) + (k : Int) ≤ (10 : Int) + (k : Int) := by omega
  have E := Lib.hid ((Env.start w).lay #[.string ⟨#[]⟩, .int .i64 0, .int .i64 0] 23)
  clear hH hk hsum
  go_enter Try.func11, Try.ntmps11
  go_upto_region 10 with fail
  generalize hW0 : World.alloc w _ = W0 at *
  clear hW0
  go_region_held3 (fun w' => Below W0.heap.size W0 w')
      (repeat (first | (with_reducible exact Below.refl _ _) | (with_reducible refine Below.drew ?_)))
      (first
        | (go_at_call 20; (with_reducible refine (HC.out _).mono ?_); rintro e' w' ⟨rfl, rfl⟩)
        | (go_at_call 21; (with_reducible refine (HN.out _).mono ?_); rintro e' w' ⟨rfl, rfl⟩))
  rename_i hheld
  have E2 := Lib.hid (E.out.below hheld)
  clear hheld E
  generalize World.drew W0 = w2 at *
  go_upto_region 12 with fail
  go_cut [5] (fun s5 wx => Got3 w2 (s.extract 2 (2 + k)) n1 n2 s5 wx)
  case first =>
    go_region_held3 (fun w' => Below w2.heap.size w2 w')
      (repeat (first | (with_reducible exact Below.refl _ _) | (with_reducible refine Below.al2 ?_) | (with_reducible refine Below.drew ?_) | ((with_reducible refine Below.setCell ?_ ?_ _); rotate_left; · (first | omega | (simp; done) | (simp; omega)))))
      (first
        | (go_at_call 21; (with_reducible refine (HN1.out _).mono ?_); rintro e' w' ⟨rfl, rfl⟩)
        | (go_at_call 21; (with_reducible refine (HN2.out _).mono ?_); rintro e' w' ⟨rfl, rfl⟩))
    all_goals
      rename_i hheld
      have hbel := hheld
      clear hheld
      go_wp2_with fail
      go_meet
      exact ⟨_, rfl, Nat.le_refl _, hbel, (Blk.new _ _ _).drew⟩
  case rest =>
    obtain ⟨g, rfl, hg, hbel, hgb⟩ := hcut
    have E3 := Lib.hid (E2.out.below hbel)
    have d0 := hgb.cell 0
    have d1 := hgb.cell 1
    have d2 := hgb.cell 2
    have dl := hgb.lt
    simp at d0 d1 d2
    clear hbel HN1 HN2
    go_wp2_with fail
    refine (rbeat_any (s.extract 2 (2 + k)) n1 n2 _).mono ?_
    rw [HB.out]
    rintro e' w6 ⟨rfl, hb6⟩
    have E4 := Lib.hid (E3.out.below hb6)
    have HG := Lib.hid (hgb.below hb6 dl)
    clear hgb hb6 E3 E2 d0 d1 d2
    have d0 := HG.out.cell 0
    have d1 := HG.out.cell 1
    have d2 := HG.out.cell 2
    have dl := HG.out.lt
    simp at d0 d1 d2
    go_wp2_with fail
    refine (HCD.out _).mono ?_
    rintro e' w7 ⟨rfl, hb7⟩
    have E5 := Lib.hid (E4.out.below hb7)
    have HG := Lib.hid (HG.out.below hb7 HG.out.lt)
    clear hb7 E4 d0 d1 d2 dl
    have d0 := HG.out.cell 0
    have d1 := HG.out.cell 1
    have d2 := HG.out.cell 2
    have dl := HG.out.lt
    simp at d0 d1 d2
    have r0 := E5.out.hd.cell 0
    have r1 := E5.out.hd.cell 1
    have r2 := E5.out.hd.cell 2
    have f0 := E5.out.hd.frozen 0
    have f1 := E5.out.hd.frozen 1
    have f2 := E5.out.hd.frozen 2
    have p0 := E5.out.hd.lt
    simp at r0 r1 r2 p0
    go_wp2
    have EF := Lib.hid (dec_ret E5.out rfl (s.extract 2 (2 + k)) n1 n2)
    generalize ((w7.setCell ⟨w.heap.size, 0, none⟩ (.string (s.extract 2 (2 + k)))).setCell ⟨w.heap.size, 1, none⟩ (.int .i64 n1)).setCell ⟨w.heap.size, 2, none⟩ (.int .i64 n2) = WF at EF ⊢
    have s0 := EF.out.hd.cell 0
    have s1 := EF.out.hd.cell 1
    have s2 := EF.out.hd.cell 2
    simp at s0 s1 s2
    refine bodyPost_ret (v := .tuple #[.agg #[.string (s.extract 2 (2 + k)), .int .i64 n1, .int .i64 n2], .int .i64 0]) (by simp [results, Try.results11, go_sem, s0, s1, s2]) rfl ⟨rfl, EF.out.bel⟩

end Go.Proofs.Ytmgkkbmcdnhdeaa
