/- beat.Decode, walked. -/
import Derived.Test.YtkgekhabafjpiabM27
import Derived.Deep.DeepCutAuto
namespace Go.Proofs.Ytkgekhabafjpiab
open Go.RowKit Go.Lib
set_option linter.unusedSimpArgs false
set_option linter.unusedVariables false

theorem crcof_any (t : ByteArray) (h : t.size ≤ 20000) (w : World) : Calls Try.prog 24 #[.string t] w fun e w' => e = .returned (.tuple #[.int .i64 (crcV t), .int .i64 0]) ∧ Below w.heap.size w w' := cof_ok t h w
def DecIs (s : ByteArray) (i q e : Int) (w : World) (x : Ending) (w' : World) : Prop :=
  x = .returned (.tuple #[.agg #[.string s, .int .i64 i, .int .i64 q], .int .i64 e]) ∧ Below w.heap.size w w'
def Got3 (W0 : World) (s : ByteArray) (i q : Int) (v : Value) (wx : World) : Prop := ∃ g, v = .pointer (some ⟨g, 0, none⟩) ∧ W0.heap.size ≤ g ∧ Below W0.heap.size W0 wx ∧ Blk wx g 48 #[.string s, .int .i64 i, .int .i64 q]
theorem got3_new {W0 w5 : World} {s : ByteArray} {i q : Int} (h : Below W0.heap.size W0 (w5.alloc (.cells #[.string s, .int .i64 i, .int .i64 q] 48))) (hw : W0.heap.size ≤ w5.heap.size) :
    Got3 W0 s i q (.pointer (some ⟨w5.heap.size, 0, none⟩)) (w5.alloc (.cells #[.string s, .int .i64 i, .int .i64 q] 48)) := ⟨_, rfl, hw, h, Blk.new _ _ _⟩
theorem got3_set {W0 w5 : World} {s : ByteArray} {i q : Int} {g : Nat} (h : Below W0.heap.size W0 (((w5.setCell ⟨g, 0, none⟩ (.string s)).setCell ⟨g, 1, none⟩ (.int .i64 i)).setCell ⟨g, 2, none⟩ (.int .i64 q))) (hw : W0.heap.size ≤ g) (hg : ∃ a0 a1 a2, Blk w5 g 48 #[a0, a1, a2]) :
    Got3 W0 s i q (.pointer (some ⟨g, 0, none⟩)) (((w5.setCell ⟨g, 0, none⟩ (.string s)).setCell ⟨g, 1, none⟩ (.int .i64 i)).setCell ⟨g, 2, none⟩ (.int .i64 q)) := by
  obtain ⟨a0, a1, a2, hg⟩ := hg
  exact ⟨_, rfl, hw, h, ((hg.set_ 0 _).set_ 1 _).set_ 2 _⟩

theorem dec_ret {w W : World} {g : Nat} {cs : Array Value} (h : Env w W [(g, 48, cs)]) (hc : cs.size = 3) (s : ByteArray) (i q : Int) :
    Env w (((W.setCell ⟨g, 0, none⟩ (.string s)).setCell ⟨g, 1, none⟩ (.int .i64 i)).setCell ⟨g, 2, none⟩ (.int .i64 q)) [(g, 48, #[.string s, .int .i64 i, .int .i64 q])] := by
  have hg := (h.2 _ (List.mem_cons_self ..)).1
  refine ⟨((h.1.setCell (p := ⟨g, 0, none⟩) hg _).setCell (p := ⟨g, 1, none⟩) hg _).setCell (p := ⟨g, 2, none⟩) hg _, fun x hx => ?_⟩
  rcases List.mem_cons.1 hx with rfl | hx
  · refine ⟨hg, ?_⟩
    obtain ⟨l⟩ := cs
    match l, hc with
    | [a, b, c], _ => exact ((h.hd.set_ 0 (.string s)).set_ 1 (.int .i64 i)).set_ 2 (.int .i64 q)
  · cases hx

set_option maxHeartbeats 1000000 in
set_option maxRecDepth 100000 in
theorem dec_short (s : ByteArray) (h : s.size < 2) (w : World) : Calls Try.prog 26 #[.string s] w (DecIs ⟨#[]⟩ 0 0 8 w) := by
  go_enter Try.func26, Try.ntmps26
  go_wp2
  refine bodyPost_ret (v := .tuple #[.agg #[.string ⟨#[]⟩, .int .i64 0, .int .i64 0], .int .i64 8]) (by simp [results, Try.results26, go_sem]) rfl ⟨rfl, (Below.refl _ w).alloc (Nat.le_refl _) _⟩

set_option maxHeartbeats 1000000 in
set_option maxRecDepth 100000 in
theorem dec_h (s : ByteArray) (h1 : 1 < s.size) (hH : (s[0]).toNat ≠ 72) (w : World) : Calls Try.prog 26 #[.string s] w (DecIs ⟨#[]⟩ 0 0 3 w) := by
  have hh : (((s[0]).toNat : Int) == 72) = false := by simp; omega
  have h2 : ¬ (s.size : Int) < 2 := by omega
  go_enter Try.func26, Try.ntmps26
  go_wp2
  refine bodyPost_ret (v := .tuple #[.agg #[.string ⟨#[]⟩, .int .i64 0, .int .i64 0], .int .i64 3]) (by simp [results, Try.results26, go_sem]) rfl ⟨rfl, (Below.refl _ w).alloc (Nat.le_refl _) _⟩

set_option maxHeartbeats 1000000 in
set_option maxRecDepth 100000 in
theorem dec_k0 (s : ByteArray) (h1 : 1 < s.size) (hH : (s[0]).toNat = 72) (hk : (s[1]).toNat = 0) (w : World) : Calls Try.prog 26 #[.string s] w (DecIs ⟨#[]⟩ 0 0 3 w) := by
  have hi0 : ((s[0]).toNat : Int) = 72 := by omega
  have hi1 : ((s[1]).toNat : Int) = 0 := by omega
  have h2 : ¬ (s.size : Int) < 2 := by omega
  clear hH hk
  go_enter Try.func26, Try.ntmps26
  go_wp2
  refine bodyPost_ret (v := .tuple #[.agg #[.string ⟨#[]⟩, .int .i64 0, .int .i64 0], .int .i64 3]) (by simp [results, Try.results26, go_sem]) rfl ⟨rfl, (Below.refl _ w).alloc (Nat.le_refl _) _⟩

set_option maxHeartbeats 1000000 in
set_option maxRecDepth 100000 in
theorem dec_k9 (s : ByteArray) (k : Nat) (h1 : 1 < s.size) (hH : (s[0]).toNat = 72) (hk : (s[1]).toNat = k) (hk8 : 8 < k) (w : World) : Calls Try.prog 26 #[.string s] w (DecIs ⟨#[]⟩ 0 0 3 w) := by
  have hkb : k < 256 := by have := UInt8.toNat_lt s[1]; omega
  have hi0 : ((s[0]).toNat : Int) = 72 := by omega
  have hi1 : ((s[1]).toNat : Int) = (k : Int) := by omega
  have h2 : ¬ (s.size : Int) < 2 := by omega
  clear hH hk
  go_enter Try.func26, Try.ntmps26
  go_wp2
  refine bodyPost_ret (v := .tuple #[.agg #[.string ⟨#[]⟩, .int .i64 0, .int .i64 0], .int .i64 3]) (by simp [results, Try.results26, go_sem]) rfl ⟨rfl, (Below.refl _ w).alloc (Nat.le_refl _) _⟩

set_option maxHeartbeats 1000000 in
set_option maxRecDepth 100000 in
theorem dec_less (s : ByteArray) (k : Nat) (h1 : 1 < s.size) (hH : (s[0]).toNat = 72) (hk : (s[1]).toNat = k) (hk1 : 1 ≤ k) (hk8 : k ≤ 8) (hsz : s.size < 14 + k) (w : World) : Calls Try.prog 26 #[.string s] w (DecIs ⟨#[]⟩ 0 0 8 w) := by
  have hi0 : ((s[0]).toNat : Int) = 72 := by omega
  have hi1 : ((s[1]).toNat : Int) = (k : Int) := by omega
  have h2 : ¬ (s.size : Int) < 2 := by omega
  clear hH hk
  go_enter Try.func26, Try.ntmps26
  go_wp2
  refine bodyPost_ret (v := .tuple #[.agg #[.string ⟨#[]⟩, .int .i64 0, .int .i64 0], .int .i64 8]) (by simp [results, Try.results26, go_sem]) rfl ⟨rfl, (Below.refl _ w).alloc (Nat.le_refl _) _⟩

set_option maxHeartbeats 1000000 in
set_option maxRecDepth 100000 in
theorem dec_more (s : ByteArray) (k : Nat) (h1 : 1 < s.size) (hH : (s[0]).toNat = 72) (hk : (s[1]).toNat = k) (hk1 : 1 ≤ k) (hk8 : k ≤ 8) (hsz : 14 + k < s.size) (w : World) : Calls Try.prog 26 #[.string s] w (DecIs ⟨#[]⟩ 0 0 3 w) := by
  have hi0 : ((s[0]).toNat : Int) = 72 := by omega
  have hi1 : ((s[1]).toNat : Int) = (k : Int) := by omega
  have h2 : ¬ (s.size : Int) < 2 := by omega
  clear hH hk
  go_enter Try.func26, Try.ntmps26
  go_wp2
  refine bodyPost_ret (v := .tuple #[.agg #[.string ⟨#[]⟩, .int .i64 0, .int .i64 0], .int .i64 3]) (by simp [results, Try.results26, go_sem]) rfl ⟨rfl, (Below.refl _ w).alloc (Nat.le_refl _) _⟩

set_option maxHeartbeats 2000000 in
set_option maxRecDepth 100000 in
theorem dec_sum (s : ByteArray) (k : Nat) (h1 : 1 < s.size) (hH : (s[0]).toNat = 72) (hk : (s[1]).toNat = k) (hk1 : 1 ≤ k) (hk8 : k ≤ 8) (hsz : s.size = 14 + k) (hsum : crcV (s.extract 0 (10 + k)) ≠ num4 s (10 + k)) (w : World) :
    Calls Try.prog 26 #[.string s] w (DecIs ⟨#[]⟩ 0 0 9 w) := by
  have HC := Lib.hid (fun w => crcof_any (s.extract 0 (10 + k)) (by rw [ByteArray.size_extract]; omega) w)
  have num : ∀ a, a + 4 ≤ s.size → ∀ w, Calls Try.prog 41 #[.string (s.extract a (14 + k))] w fun e w' => e = .returned (.int .i64 (num4 s a)) ∧ Below w.heap.size w w' := fun a ha w => by
    have := number_any (s.extract a (14 + k)) (by rw [ByteArray.size_extract]; omega) w
    rw [num4_extract s a (14 + k) 0 (by omega) (by omega), Nat.add_zero] at this
    exact this
  have HN := Lib.hid (num (10 + k) (by omega))
  have HN1 := Lib.hid (num (2 + k) (by omega))
  have HN2 := Lib.hid (num (6 + k) (by omega))
  clear num
  generalize crcV (s.extract 0 (10 + k)) = cv at *
  generalize num4 s (10 + k) = nv at *
  have hne : (cv == nv) = false := by simpa using hsum
  have hi0 : ((s[0]).toNat : Int) = 72 := by omega
  have hi1 : ((s[1]).toNat : Int) = (k : Int) := by omega
  have hszi : (s.size : Int) = 14 + k := by omega
  have E := Lib.hid ((Env.start w).lay #[.string ⟨#[]⟩, .int .i64 0, .int .i64 0] 48)
  clear hH hk hsum
  go_enter Try.func26, Try.ntmps26
  go_wp2_with fail
  refine (HC.out _).mono ?_
  rintro e' w1 ⟨rfl, hb1⟩
  have E1 := Lib.hid (E.out.below hb1)
  clear hb1
  go_wp2_with fail
  refine (HN.out _).mono ?_
  rintro e' w2 ⟨rfl, hb2⟩
  have E2 := Lib.hid (E1.out.below hb2)
  clear hb2 E1 E
  have r0 := E2.out.hd.cell 0
  have r1 := E2.out.hd.cell 1
  have r2 := E2.out.hd.cell 2
  have f0 := E2.out.hd.frozen 0
  have f1 := E2.out.hd.frozen 1
  have f2 := E2.out.hd.frozen 2
  have p0 := E2.out.hd.lt
  simp at r0 r1 r2 p0
  go_wp2
  have EF := Lib.hid (dec_ret E2.out rfl ⟨#[]⟩ 0 0)
  generalize ((w2.setCell ⟨w.heap.size, 0, none⟩ (.string ⟨#[]⟩)).setCell ⟨w.heap.size, 1, none⟩ (.int .i64 0)).setCell ⟨w.heap.size, 2, none⟩ (.int .i64 0) = WF at EF ⊢
  have s0 := EF.out.hd.cell 0
  have s1 := EF.out.hd.cell 1
  have s2 := EF.out.hd.cell 2
  simp at s0 s1 s2
  refine bodyPost_ret (v := .tuple #[.agg #[.string ⟨#[]⟩, .int .i64 0, .int .i64 0], .int .i64 9]) (by simp [results, Try.results26, go_sem, s0, s1, s2]) rfl ⟨rfl, EF.out.bel⟩

set_option maxHeartbeats 4000000 in
set_option maxRecDepth 100000 in
theorem dec_bad (s : ByteArray) (k : Nat) (h1 : 1 < s.size) (hH : (s[0]).toNat = 72) (hk : (s[1]).toNat = k) (hk1 : 1 ≤ k) (hk8 : k ≤ 8) (hsz : s.size = 14 + k) (hsum : crcV (s.extract 0 (10 + k)) = num4 s (10 + k)) (e : Int) (hb : beatE (s.extract 2 (2 + k)) (num4 s (2 + k)) (num4 s (6 + k)) = e) (hz : e ≠ 0) (w : World) :
    Calls Try.prog 26 #[.string s] w (DecIs ⟨#[]⟩ 0 0 3 w) := by
  have HC := Lib.hid (fun w => crcof_any (s.extract 0 (10 + k)) (by rw [ByteArray.size_extract]; omega) w)
  have num : ∀ a, a + 4 ≤ s.size → ∀ w, Calls Try.prog 41 #[.string (s.extract a (14 + k))] w fun e w' => e = .returned (.int .i64 (num4 s a)) ∧ Below w.heap.size w w' := fun a ha w => by
    have := number_any (s.extract a (14 + k)) (by rw [ByteArray.size_extract]; omega) w
    rw [num4_extract s a (14 + k) 0 (by omega) (by omega), Nat.add_zero] at this
    exact this
  have HN := Lib.hid (num (10 + k) (by omega))
  have HN1 := Lib.hid (num (2 + k) (by omega))
  have HN2 := Lib.hid (num (6 + k) (by omega))
  clear num
  have HB := Lib.hid hb
  clear hb
  rw [← hsum] at HN
  generalize crcV (s.extract 0 (10 + k)) = cv at *
  generalize num4 s (2 + k) = n1 at *
  generalize num4 s (6 + k) = n2 at *
  have hi0 : ((s[0]).toNat : Int) = 72 := by omega
  have hi1 : ((s[1]).toNat : Int) = (k : Int) := by omega
  have hszi : (s.size : Int) = 14 + k := by omega
  have E := Lib.hid ((Env.start w).lay #[.string ⟨#[]⟩, .int .i64 0, .int .i64 0] 48)
  clear hH hk hsum
  go_enter Try.func26, Try.ntmps26
  go_wp2_with fail
  refine (HC.out _).mono ?_
  rintro e' w1 ⟨rfl, hb1⟩
  have E1 := Lib.hid (E.out.below hb1)
  clear hb1
  go_wp2_with fail
  refine (HN.out _).mono ?_
  rintro e' w2 ⟨rfl, hb2⟩
  have E2 := Lib.hid (E1.out.below hb2)
  clear hb2 E1 E
  have b1 : IntKind.i64.wrap ((2 : Int) + (k : Int)) = (2 : Int) + (k : Int) := by rw [IntKind.wrap_i64]; omega
  have b2 : IntKind.i64.wrap ((6 : Int) + (k : Int)) = (6 : Int) + (k : Int) := by rw [IntKind.wrap_i64]; omega
  have b3 : (2 : Int) ≤ (2 : Int) + (k : Int) := by omega
  have b4 : (2 : Int) + (k : Int) ≤ (14 : Int) + (k : Int) := by omega
  have b5 : (6 : Int) + (k : Int) ≤ (14 : Int) + (k : Int) := by omega
  have b6 : (0 : Int) ≤ (2 : Int) + (k : Int) := by omega
  have b7 : (0 : Int) ≤ (6 : Int) + (k : Int) := by omega
  have b8 : ((2 : Int) + (k : Int)).toNat = 2 + k := by omega
  have b9 : ((6 : Int) + (k : Int)).toNat = 6 + k := by omega
  have b10 : ((14 : Int) + (k : Int)).toNat = 14 + k := by omega
  have b11 : (2 : Int) ≤ (14 : Int) + (k : Int) := by omega
  have b12 : (0 : Int) ≤ (k : Int) := by omega
  go_upto_region 13 with fail
  go_cut [7] (fun s7 wx => Got3 w2 (s.extract 2 (2 + k)) n1 n2 s7 wx)
  case first =>
    go_region_held3 (fun w' => Below w2.heap.size w2 w')
      (repeat (first | (with_reducible exact hL5) | (with_reducible exact hL4) | (with_reducible exact Below.refl _ _) | (with_reducible refine Below.al2 ?_) | (with_reducible refine Below.drew ?_) | ((with_reducible refine Below.setCell ?_ ?_ _); rotate_left; · (first | omega | (simp; done) | (simp; omega)))))
      (first
        | (go_at_call 41; (with_reducible refine (HN1.out _).mono ?_); rintro e' w4 ⟨rfl, hb4⟩; have hz4 := hb4.size; (try simp at hz4); obtain ⟨hc4, hf4⟩ := bcell hb4; (try simp only [World.size_alloc, World.heap_drew] at hc4); (try simp only [World.size_alloc, World.heap_drew] at hf4); (try (have hy4 := Nat.lt_of_succ_le hz4)); (try (have hx4 := Nat.lt_of_succ_lt hy4)); have hL4 : Below w2.heap.size w2 w4 := Below.thru2 (by repeat (first | (with_reducible exact Below.refl _ _) | (with_reducible refine Below.al2 ?_) | (with_reducible refine Below.drew ?_))) hb4)
        | (go_at_call 41; (with_reducible refine (HN2.out _).mono ?_); rintro e' w5 ⟨rfl, hb5⟩; have hz5 := hb5.size; (try simp at hz5); obtain ⟨hc5, hf5⟩ := bcell hb5; (try simp only [World.size_alloc, World.heap_drew] at hc5); (try simp only [World.size_alloc, World.heap_drew] at hf5); (try (have hy5 := Nat.lt_of_succ_le hz5)); (try (have hx5 := Nat.lt_of_succ_lt hy5)); (try (have hv1 := Nat.lt_of_lt_of_le hy4 hz5)); (try (have hv2 := Nat.lt_of_lt_of_le hx4 hz5)); (try (have hv3 := Nat.lt_trans hy4 hy5)); (try (have hv4 := Nat.lt_trans hx4 hy5)); have hL5 : Below w2.heap.size w2 w5 := Below.thru2 (by repeat (first | (with_reducible exact hL4) | (with_reducible exact Below.refl _ _) | (with_reducible refine Below.al2 ?_) | (with_reducible refine Below.drew ?_))) hb5))
    all_goals
      rename_i hheld
      have hbel := hheld
      clear hheld HN1 HN2
      go_wp2_with fail
      go_meet
      first
        | ((with_reducible refine got3_new hbel ?_); first | exact hL5.size | exact hL4.size | exact Nat.le_refl _)
        | ((with_reducible refine got3_set hbel ?_ ?_); · first | exact hL4.size | exact Nat.le_refl _
           first | exact ⟨_, _, _, (Blk.new _ _ _).below hb5 (by (first | omega | (simp; done) | (simp; omega)))⟩ | exact ⟨_, _, _, (Blk.new _ _ _).drew.below hb5 (by (first | omega | (simp; done) | (simp; omega)))⟩ | exact ⟨_, _, _, ((Blk.new _ _ _).below hb4 (by (first | omega | (simp; done) | (simp; omega)))).below hb5 (by (first | omega | (simp; done) | (simp; omega)))⟩ | exact ⟨_, _, _, ((Blk.new _ _ _).drew.below hb4 (by (first | omega | (simp; done) | (simp; omega)))).below hb5 (by (first | omega | (simp; done) | (simp; omega)))⟩)
  case rest =>
    obtain ⟨g, rfl, hg, hbel, hgb⟩ := hcut
    have E3 := Lib.hid (E2.out.below hbel)
    have d0 := hgb.cell 0
    have d1 := hgb.cell 1
    have d2 := hgb.cell 2
    have dl := hgb.lt
    simp at d0 d1 d2
    clear hbel HN1 HN2
    go_wp2_with fail
    refine (bcheck_any (s.extract 2 (2 + k)) (by rw [ByteArray.size_extract]; unfold maxLen; omega) n1 n2 _).mono ?_
    rw [HB.out]
    rintro e' w6 ⟨rfl, hb6⟩
    have E4 := Lib.hid (E3.out.below hb6)
    have HG := Lib.hid (hgb.below hb6 dl)
    clear hgb hb6 E3 E2 d0 d1 d2
    have d0 := HG.out.cell 0
    have d1 := HG.out.cell 1
    have d2 := HG.out.cell 2
    have dl := HG.out.lt
    simp at d0 d1 d2
    have r0 := E4.out.hd.cell 0
    have r1 := E4.out.hd.cell 1
    have r2 := E4.out.hd.cell 2
    have f0 := E4.out.hd.frozen 0
    have f1 := E4.out.hd.frozen 1
    have f2 := E4.out.hd.frozen 2
    have p0 := E4.out.hd.lt
    simp at r0 r1 r2 p0
    go_wp2
    have EF := Lib.hid (dec_ret E4.out rfl ⟨#[]⟩ 0 0)
    generalize ((w6.setCell ⟨w.heap.size, 0, none⟩ (.string ⟨#[]⟩)).setCell ⟨w.heap.size, 1, none⟩ (.int .i64 0)).setCell ⟨w.heap.size, 2, none⟩ (.int .i64 0) = WF at EF ⊢
    have s0 := EF.out.hd.cell 0
    have s1 := EF.out.hd.cell 1
    have s2 := EF.out.hd.cell 2
    simp at s0 s1 s2
    refine bodyPost_ret (v := .tuple #[.agg #[.string ⟨#[]⟩, .int .i64 0, .int .i64 0], .int .i64 3]) (by simp [results, Try.results26, go_sem, s0, s1, s2]) rfl ⟨rfl, EF.out.bel⟩

set_option maxHeartbeats 4000000 in
set_option maxRecDepth 100000 in
theorem dec_good (s : ByteArray) (k : Nat) (h1 : 1 < s.size) (hH : (s[0]).toNat = 72) (hk : (s[1]).toNat = k) (hk1 : 1 ≤ k) (hk8 : k ≤ 8) (hsz : s.size = 14 + k) (hsum : crcV (s.extract 0 (10 + k)) = num4 s (10 + k)) (hb : beatE (s.extract 2 (2 + k)) (num4 s (2 + k)) (num4 s (6 + k)) = 0) (w : World) :
    Calls Try.prog 26 #[.string s] w (DecIs (s.extract 2 (2 + k)) (num4 s (2 + k)) (num4 s (6 + k)) 0 w) := by
  have HC := Lib.hid (fun w => crcof_any (s.extract 0 (10 + k)) (by rw [ByteArray.size_extract]; omega) w)
  have num : ∀ a, a + 4 ≤ s.size → ∀ w, Calls Try.prog 41 #[.string (s.extract a (14 + k))] w fun e w' => e = .returned (.int .i64 (num4 s a)) ∧ Below w.heap.size w w' := fun a ha w => by
    have := number_any (s.extract a (14 + k)) (by rw [ByteArray.size_extract]; omega) w
    rw [num4_extract s a (14 + k) 0 (by omega) (by omega), Nat.add_zero] at this
    exact this
  have HN := Lib.hid (num (10 + k) (by omega))
  have HN1 := Lib.hid (num (2 + k) (by omega))
  have HN2 := Lib.hid (num (6 + k) (by omega))
  clear num
  have HB := Lib.hid hb
  clear hb
  rw [← hsum] at HN
  generalize crcV (s.extract 0 (10 + k)) = cv at *
  generalize num4 s (2 + k) = n1 at *
  generalize num4 s (6 + k) = n2 at *
  have hi0 : ((s[0]).toNat : Int) = 72 := by omega
  have hi1 : ((s[1]).toNat : Int) = (k : Int) := by omega
  have hszi : (s.size : Int) = 14 + k := by omega
  have E := Lib.hid ((Env.start w).lay #[.string ⟨#[]⟩, .int .i64 0, .int .i64 0] 48)
  clear hH hk hsum
  go_enter Try.func26, Try.ntmps26
  go_wp2_with fail
  refine (HC.out _).mono ?_
  rintro e' w1 ⟨rfl, hb1⟩
  have E1 := Lib.hid (E.out.below hb1)
  clear hb1
  go_wp2_with fail
  refine (HN.out _).mono ?_
  rintro e' w2 ⟨rfl, hb2⟩
  have E2 := Lib.hid (E1.out.below hb2)
  clear hb2 E1 E
  have b1 : IntKind.i64.wrap ((2 : Int) + (k : Int)) = (2 : Int) + (k : Int) := by rw [IntKind.wrap_i64]; omega
  have b2 : IntKind.i64.wrap ((6 : Int) + (k : Int)) = (6 : Int) + (k : Int) := by rw [IntKind.wrap_i64]; omega
  have b3 : (2 : Int) ≤ (2 : Int) + (k : Int) := by omega
  have b4 : (2 : Int) + (k : Int) ≤ (14 : Int) + (k : Int) := by omega
  have b5 : (6 : Int) + (k : Int) ≤ (14 : Int) + (k : Int) := by omega
  have b6 : (0 : Int) ≤ (2 : Int) + (k : Int) := by omega
  have b7 : (0 : Int) ≤ (6 : Int) + (k : Int) := by omega
  have b8 : ((2 : Int) + (k : Int)).toNat = 2 + k := by omega
  have b9 : ((6 : Int) + (k : Int)).toNat = 6 + k := by omega
  have b10 : ((14 : Int) + (k : Int)).toNat = 14 + k := by omega
  have b11 : (2 : Int) ≤ (14 : Int) + (k : Int) := by omega
  have b12 : (0 : Int) ≤ (k : Int) := by omega
  go_upto_region 13 with fail
  go_cut [7] (fun s7 wx => Got3 w2 (s.extract 2 (2 + k)) n1 n2 s7 wx)
  case first =>
    go_region_held3 (fun w' => Below w2.heap.size w2 w')
      (repeat (first | (with_reducible exact hL5) | (with_reducible exact hL4) | (with_reducible exact Below.refl _ _) | (with_reducible refine Below.al2 ?_) | (with_reducible refine Below.drew ?_) | ((with_reducible refine Below.setCell ?_ ?_ _); rotate_left; · (first | omega | (simp; done) | (simp; omega)))))
      (first
        | (go_at_call 41; (with_reducible refine (HN1.out _).mono ?_); rintro e' w4 ⟨rfl, hb4⟩; have hz4 := hb4.size; (try simp at hz4); obtain ⟨hc4, hf4⟩ := bcell hb4; (try simp only [World.size_alloc, World.heap_drew] at hc4); (try simp only [World.size_alloc, World.heap_drew] at hf4); (try (have hy4 := Nat.lt_of_succ_le hz4)); (try (have hx4 := Nat.lt_of_succ_lt hy4)); have hL4 : Below w2.heap.size w2 w4 := Below.thru2 (by repeat (first | (with_reducible exact Below.refl _ _) | (with_reducible refine Below.al2 ?_) | (with_reducible refine Below.drew ?_))) hb4)
        | (go_at_call 41; (with_reducible refine (HN2.out _).mono ?_); rintro e' w5 ⟨rfl, hb5⟩; have hz5 := hb5.size; (try simp at hz5); obtain ⟨hc5, hf5⟩ := bcell hb5; (try simp only [World.size_alloc, World.heap_drew] at hc5); (try simp only [World.size_alloc, World.heap_drew] at hf5); (try (have hy5 := Nat.lt_of_succ_le hz5)); (try (have hx5 := Nat.lt_of_succ_lt hy5)); (try (have hv1 := Nat.lt_of_lt_of_le hy4 hz5)); (try (have hv2 := Nat.lt_of_lt_of_le hx4 hz5)); (try (have hv3 := Nat.lt_trans hy4 hy5)); (try (have hv4 := Nat.lt_trans hx4 hy5)); have hL5 : Below w2.heap.size w2 w5 := Below.thru2 (by repeat (first | (with_reducible exact hL4) | (with_reducible exact Below.refl _ _) | (with_reducible refine Below.al2 ?_) | (with_reducible refine Below.drew ?_))) hb5))
    all_goals
      rename_i hheld
      have hbel := hheld
      clear hheld HN1 HN2
      go_wp2_with fail
      go_meet
      first
        | ((with_reducible refine got3_new hbel ?_); first | exact hL5.size | exact hL4.size | exact Nat.le_refl _)
        | ((with_reducible refine got3_set hbel ?_ ?_); · first | exact hL4.size | exact Nat.le_refl _
           first | exact ⟨_, _, _, (Blk.new _ _ _).below hb5 (by (first | omega | (simp; done) | (simp; omega)))⟩ | exact ⟨_, _, _, (Blk.new _ _ _).drew.below hb5 (by (first | omega | (simp; done) | (simp; omega)))⟩ | exact ⟨_, _, _, ((Blk.new _ _ _).below hb4 (by (first | omega | (simp; done) | (simp; omega)))).below hb5 (by (first | omega | (simp; done) | (simp; omega)))⟩ | exact ⟨_, _, _, ((Blk.new _ _ _).drew.below hb4 (by (first | omega | (simp; done) | (simp; omega)))).below hb5 (by (first | omega | (simp; done) | (simp; omega)))⟩)
  case rest =>
    obtain ⟨g, rfl, hg, hbel, hgb⟩ := hcut
    have E3 := Lib.hid (E2.out.below hbel)
    have d0 := hgb.cell 0
    have d1 := hgb.cell 1
    have d2 := hgb.cell 2
    have dl := hgb.lt
    simp at d0 d1 d2
    clear hbel HN1 HN2
    go_wp2_with fail
    refine (bcheck_any (s.extract 2 (2 + k)) (by rw [ByteArray.size_extract]; unfold maxLen; omega) n1 n2 _).mono ?_
    rw [HB.out]
    rintro e' w6 ⟨rfl, hb6⟩
    have E4 := Lib.hid (E3.out.below hb6)
    have HG := Lib.hid (hgb.below hb6 dl)
    clear hgb hb6 E3 E2 d0 d1 d2
    have d0 := HG.out.cell 0
    have d1 := HG.out.cell 1
    have d2 := HG.out.cell 2
    have dl := HG.out.lt
    simp at d0 d1 d2
    have r0 := E4.out.hd.cell 0
    have r1 := E4.out.hd.cell 1
    have r2 := E4.out.hd.cell 2
    have f0 := E4.out.hd.frozen 0
    have f1 := E4.out.hd.frozen 1
    have f2 := E4.out.hd.frozen 2
    have p0 := E4.out.hd.lt
    simp at r0 r1 r2 p0
    go_wp2
    have EF := Lib.hid (dec_ret E4.out rfl (s.extract 2 (2 + k)) n1 n2)
    generalize ((w6.setCell ⟨w.heap.size, 0, none⟩ (.string (s.extract 2 (2 + k)))).setCell ⟨w.heap.size, 1, none⟩ (.int .i64 n1)).setCell ⟨w.heap.size, 2, none⟩ (.int .i64 n2) = WF at EF ⊢
    have s0 := EF.out.hd.cell 0
    have s1 := EF.out.hd.cell 1
    have s2 := EF.out.hd.cell 2
    simp at s0 s1 s2
    refine bodyPost_ret (v := .tuple #[.agg #[.string (s.extract 2 (2 + k)), .int .i64 n1, .int .i64 n2], .int .i64 0]) (by simp [results, Try.results26, go_sem, s0, s1, s2]) rfl ⟨rfl, EF.out.bel⟩

end Go.Proofs.Ytkgekhabafjpiab
