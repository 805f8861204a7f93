/- prod.Div, walked. -/
import Derived.Test.YtmgkkbmcdnhdeabDoorDiv64
import Derived.Test.YtmgkkbmcdnhdeabDoorWSub
import Derived.Test.YtmgkkbmcdnhdeabDoorWCmp
import Derived.Test.YtmgkkbmcdnhdeabDoorRcmp
import Derived.BigRegion
namespace Go.Proofs.YtmgkkbmcdnhdeabDoor
open Go.RowKit
set_option linter.unusedSimpArgs false
set_option linter.unusedVariables false

def DivIs (q r : Nat) (e : Int) (w : World) (x : Ending) (w' : World) : Prop :=
  x = .returned (.tuple #[.agg #[.int .u64 (hiN q), .int .u64 (loN q)], .agg #[.int .u64 (hiN r), .int .u64 (loN r)], .int .i64 e]) ∧ Below w.heap.size w w'
theorem Blk.cell_eq' {W : World} {g o : Nat} {t : TypeId} {cs : Array Value} {v : Value} (h : Blk W g t cs) (h2 : cs[o]? = some v) : W.cell? ⟨g, o, none⟩ = some v := (h.cell o).trans h2
theorem results_2c {a : Act} {W : World} {g g' : Nat} {x0 x1 y0 y1 : Value} {e : Value} (h : Tryd.f16.results = #[.cell 4 24, .cell 5 24, .tmp 6]) (h4 : a.tmps.getD 4 undef = .pointer (some ⟨g, 0, none⟩)) (h5 : a.tmps.getD 5 undef = .pointer (some ⟨g', 0, none⟩)) (h6 : a.tmps.getD 6 undef = e)
    (c0 : W.cell? ⟨g, 0, none⟩ = some x0) (c1 : W.cell? ⟨g, 1, none⟩ = some x1) (c2 : W.cell? ⟨g', 0, none⟩ = some y0) (c3 : W.cell? ⟨g', 1, none⟩ = some y1) :
    (results Tryd.f16 a.tmps).run Tryd.prog W = .ok (.tuple #[.agg #[x0, x1], .agg #[y0, y1], e]) W := by
  have h4' : a.tmps[4]?.getD undef = .pointer (some ⟨g, 0, none⟩) := by simpa using h4
  have h5' : a.tmps[5]?.getD undef = .pointer (some ⟨g', 0, none⟩) := by simpa using h5
  have h6' : a.tmps[6]?.getD undef = e := by simpa using h6
  simp [results, h, h4', h5', h6', go_sem, c0, c1, c2, c3]
theorem dsetHd {w0 W : World} {l : List (Nat × TypeId × Array Value)} {g : Nat} {t : TypeId} {cs : Array Value} (h : Env w0 W ((g, t, cs) :: l)) (hd : ∀ x ∈ l, x.1 ≠ g) (i : Nat) (u : Value) :
    Env w0 (W.setCell ⟨g, i, none⟩ u) ((g, t, cs.setIfInBounds i u) :: l) := by
  have hg := (h.2 _ (List.mem_cons_self ..)).1
  refine ⟨h.1.setCell hg _, fun x hx => ?_⟩
  rcases List.mem_cons.1 hx with rfl | hx
  · exact ⟨hg, h.hd.set_ i u⟩
  · have := h.2 x (List.mem_cons_of_mem _ hx)
    exact ⟨this.1, this.2.far (p := ⟨g, i, none⟩) (hd x hx) u⟩

set_option maxHeartbeats 2000000 in
theorem div_zero (a : Nat) (ha : a < 2 ^ 128) (w : World) :
    Calls Tryd.prog 16 #[.agg #[.int .u64 (hiN a), .int .u64 (loN a)], .agg #[.int .u64 0, .int .u64 0]] w (DivIs 0 0 6 w) := by
  have E := Lib.hid (((((Env.start w).lay #[.int .u64 (hiN a), .int .u64 (loN a)] 24).lay #[.int .u64 0, .int .u64 0] 24).lay #[.int .u64 0, .int .u64 0] 24).lay #[.int .u64 0, .int .u64 0] 24)
  generalize hiN a = ah at *
  generalize loN a = al at *
  clear ha
  go_enter Tryd.func16, Tryd.ntmps16
  go_wp2
  refine bodyPost_ret (v := .tuple #[.agg #[.int .u64 0, .int .u64 0], .agg #[.int .u64 0, .int .u64 0], .int .i64 6]) (by simp [results, Tryd.results16, go_sem]) rfl ⟨rfl, ?_⟩
  first | exact E.out.bel | exact (((E.out.bel.setCell (by simp <;> omega) _).setCell (by simp <;> omega) _).setCell (by simp <;> omega) _).setCell (by simp <;> omega) _

set_option maxHeartbeats 2000000 in
theorem div_less_h (a b : Nat) (ha : a < 2 ^ 128) (hb : b < 2 ^ 128) (hlt : a < b) (hp : 0 < hiN b) (w : World) :
    Calls Tryd.prog 16 #[.agg #[.int .u64 (hiN a), .int .u64 (loN a)], .agg #[.int .u64 (hiN b), .int .u64 (loN b)]] w (DivIs 0 a 0 w) := by
  have HC := Lib.hid (fun w' => wide_cmp _ _ _ _ a b (WN.mk' a ha) (WN.mk' b hb) w')
  have hneg := cmpN_neg hlt
  obtain ⟨a1, a2⟩ := hiN_bd a ha
  obtain ⟨a3, a4⟩ := loN_bd a
  obtain ⟨b1, b2⟩ := hiN_bd b hb
  obtain ⟨b3, b4⟩ := loN_bd b
  have hhz : (hiN b == 0) = false := by simp; omega
  generalize cmpN a b = cc at *
  generalize hah : hiN a = ah at *
  generalize hal : loN a = al at *
  generalize hiN b = bh at *
  generalize loN b = bl at *
  have HAH := Lib.hid hah
  have HAL := Lib.hid hal
  have E := Lib.hid (((((Env.start w).lay #[.int .u64 ah, .int .u64 al] 24).lay #[.int .u64 bh, .int .u64 bl] 24).lay #[.int .u64 0, .int .u64 0] 24).lay #[.int .u64 0, .int .u64 0] 24)
  clear hah hal ha hb
  simp only [World.size_alloc] at E
  go_enter Tryd.func16, Tryd.ntmps16
  go_wp2_with fail
  refine (HC.out _).mono ?_
  rintro e' w1 ⟨rfl, hb1⟩
  have E1 := Lib.hid (E.out.below hb1)
  clear hb1
  have p0 := E1.out.hd.lt
  have r0 := E1.out.hd.cell 0
  have r1 := E1.out.hd.cell 1
  have fr0 := E1.out.hd.frozen 0
  have fr1 := E1.out.hd.frozen 1
  have q0 := E1.out.tl.hd.cell 0
  have q1 := E1.out.tl.hd.cell 1
  have fq0 := E1.out.tl.hd.frozen 0
  have fq1 := E1.out.tl.hd.frozen 1
  have x0 := E1.out.tl.tl.tl.hd.cell 0
  have x1 := E1.out.tl.tl.tl.hd.cell 1
  simp at r0 r1 q0 q1 x0 x1 fr0 fr1 fq0 fq1 p0
  go_wp2
  go_region
  go_wp2
  have B2 := ((((E1.out.tl.hd.set_ 0 (.int .u64 0)).set_ 1 (.int .u64 0)).far (p := ⟨w.heap.size + 1 + 1 + 1, 0, none⟩) (by simp) (.int .u64 ah)).far (p := ⟨w.heap.size + 1 + 1 + 1, 1, none⟩) (by simp) (.int .u64 al)).drew
  have B3 := ((((E1.out.hd.far (p := ⟨w.heap.size + 1 + 1, 0, none⟩) (by simp) (.int .u64 0)).far (p := ⟨w.heap.size + 1 + 1, 1, none⟩) (by simp) (.int .u64 0)).set_ 0 (.int .u64 ah)).set_ 1 (.int .u64 al)).drew
  refine bodyPost_ret (v := .tuple #[.agg #[.int .u64 0, .int .u64 0], .agg #[.int .u64 ah, .int .u64 al], .int .i64 0]) (results_2c Tryd.results16 rfl rfl rfl (B2.cell_eq' rfl) (B2.cell_eq' rfl) (B3.cell_eq' rfl) (B3.cell_eq' rfl)) rfl ⟨?_, ?_⟩
  · rw [HAH.out, HAL.out]; rfl
  · exact ((((E1.out.bel.setCell (by simp <;> omega) _).setCell (by simp <;> omega) _).setCell (by simp <;> omega) _).setCell (by simp <;> omega) _).drew

set_option maxHeartbeats 2000000 in
theorem div_less_l (a b : Nat) (ha : a < 2 ^ 128) (hb : b < 2 ^ 128) (hlt : a < b) (hp : hiN b = 0) (w : World) :
    Calls Tryd.prog 16 #[.agg #[.int .u64 (hiN a), .int .u64 (loN a)], .agg #[.int .u64 (hiN b), .int .u64 (loN b)]] w (DivIs 0 a 0 w) := by
  have HC := Lib.hid (fun w' => wide_cmp _ _ _ _ a b (WN.mk' a ha) (WN.mk' b hb) w')
  have hneg := cmpN_neg hlt
  obtain ⟨a1, a2⟩ := hiN_bd a ha
  obtain ⟨a3, a4⟩ := loN_bd a
  obtain ⟨b1, b2⟩ := hiN_bd b hb
  obtain ⟨b3, b4⟩ := loN_bd b
  have hlz : (loN b == 0) = false := by have : b < 18446744073709551616 := by (unfold hiN at hp; omega)
                                        unfold loN; simp; omega
  rw [hp] at HC ⊢
  clear hp b1 b2
  generalize cmpN a b = cc at *
  generalize hah : hiN a = ah at *
  generalize hal : loN a = al at *
  generalize loN b = bl at *
  have HAH := Lib.hid hah
  have HAL := Lib.hid hal
  have E := Lib.hid (((((Env.start w).lay #[.int .u64 ah, .int .u64 al] 24).lay #[.int .u64 0, .int .u64 bl] 24).lay #[.int .u64 0, .int .u64 0] 24).lay #[.int .u64 0, .int .u64 0] 24)
  clear hah hal ha hb
  simp only [World.size_alloc] at E
  go_enter Tryd.func16, Tryd.ntmps16
  go_wp2_with fail
  refine (HC.out _).mono ?_
  rintro e' w1 ⟨rfl, hb1⟩
  have E1 := Lib.hid (E.out.below hb1)
  clear hb1
  have p0 := E1.out.hd.lt
  have r0 := E1.out.hd.cell 0
  have r1 := E1.out.hd.cell 1
  have fr0 := E1.out.hd.frozen 0
  have fr1 := E1.out.hd.frozen 1
  have q0 := E1.out.tl.hd.cell 0
  have q1 := E1.out.tl.hd.cell 1
  have fq0 := E1.out.tl.hd.frozen 0
  have fq1 := E1.out.tl.hd.frozen 1
  have x0 := E1.out.tl.tl.tl.hd.cell 0
  have x1 := E1.out.tl.tl.tl.hd.cell 1
  simp at r0 r1 q0 q1 x0 x1 fr0 fr1 fq0 fq1 p0
  go_wp2
  go_region
  go_wp2
  have B2 := ((((E1.out.tl.hd.set_ 0 (.int .u64 0)).set_ 1 (.int .u64 0)).far (p := ⟨w.heap.size + 1 + 1 + 1, 0, none⟩) (by simp) (.int .u64 ah)).far (p := ⟨w.heap.size + 1 + 1 + 1, 1, none⟩) (by simp) (.int .u64 al)).drew
  have B3 := ((((E1.out.hd.far (p := ⟨w.heap.size + 1 + 1, 0, none⟩) (by simp) (.int .u64 0)).far (p := ⟨w.heap.size + 1 + 1, 1, none⟩) (by simp) (.int .u64 0)).set_ 0 (.int .u64 ah)).set_ 1 (.int .u64 al)).drew
  refine bodyPost_ret (v := .tuple #[.agg #[.int .u64 0, .int .u64 0], .agg #[.int .u64 ah, .int .u64 al], .int .i64 0]) (results_2c Tryd.results16 rfl rfl rfl (B2.cell_eq' rfl) (B2.cell_eq' rfl) (B3.cell_eq' rfl) (B3.cell_eq' rfl)) rfl ⟨?_, ?_⟩
  · rw [HAH.out, HAL.out]; rfl
  · exact ((((E1.out.bel.setCell (by simp <;> omega) _).setCell (by simp <;> omega) _).setCell (by simp <;> omega) _).setCell (by simp <;> omega) _).drew

theorem mid_words (a b : Nat) (hb : 0 < b) (hbl : b < 18446744073709551616) (ha : a < 2 ^ 128) :
    hiN (a / b) = ((a / 18446744073709551616 / b : Nat) : Int) ∧ loN (a / b) = (((a / 18446744073709551616 % b * 18446744073709551616 + a % 18446744073709551616) / b : Nat) : Int) ∧
      a % b = (a / 18446744073709551616 % b * 18446744073709551616 + a % 18446744073709551616) % b := by
  have hH : a / 18446744073709551616 < 18446744073709551616 := by omega
  have e : a = 18446744073709551616 * (a / 18446744073709551616) + a % 18446744073709551616 := (Nat.div_add_mod a _).symm
  have hL : a % 18446744073709551616 < 18446744073709551616 := Nat.mod_lt _ (by decide)
  generalize a / 18446744073709551616 = H at *
  generalize a % 18446744073709551616 = L at *
  subst e
  have eH := Nat.div_add_mod H b
  have hr := Nat.mod_lt H hb
  have hq : H / b ≤ H := Nat.div_le_self H b
  generalize H / b = Q at *
  generalize H % b = R at *
  have hx : (R * 18446744073709551616 + L) / b < 18446744073709551616 := by
    rw [Nat.div_lt_iff_lt_mul hb]
    have : (R + 1) * 18446744073709551616 ≤ b * 18446744073709551616 := Nat.mul_le_mul_right _ hr
    rw [Nat.mul_comm 18446744073709551616 b]
    omega
  have e2 : 18446744073709551616 * H + L = b * (18446744073709551616 * Q) + (R * 18446744073709551616 + L) := by
    rw [← eH, Nat.mul_add, Nat.mul_left_comm]; omega
  rw [e2, Nat.mul_add_div hb, Nat.mul_add_mod]
  generalize (R * 18446744073709551616 + L) / b = xx at *
  refine ⟨?_, ?_, rfl⟩
  · unfold hiN; omega
  · unfold loN; omega

set_option maxHeartbeats 4000000 in
set_option maxRecDepth 100000 in
theorem div_mid (a b : Nat) (ha : a < 2 ^ 128) (hbl : b < 18446744073709551616) (h0 : 0 < b) (hge : b ≤ a) (w : World) :
    Calls Tryd.prog 16 #[.agg #[.int .u64 (hiN a), .int .u64 (loN a)], .agg #[.int .u64 0, .int .u64 (b : Int)]] w (DivIs (a / b) (a % b) 0 w) := by
  have HC := Lib.hid (fun w' => wide_cmp (hiN a) (loN a) 0 (b : Int) a b (WN.mk' a ha) ⟨by unfold hiN; omega, by unfold loN; omega, by omega⟩ w')
  have hneg := cmpN_nonneg hge
  obtain ⟨m1, m2, m3⟩ := mid_words a b h0 hbl ha
  have M1 := Lib.hid m1
  have M2 := Lib.hid m2
  have M3 := Lib.hid m3
  have hah : hiN a = ((a / 18446744073709551616 : Nat) : Int) := by unfold hiN; rfl
  have hal : loN a = ((a % 18446744073709551616 : Nat) : Int) := by unfold loN; rfl
  have hH : a / 18446744073709551616 < 18446744073709551616 := by omega
  have hL : a % 18446744073709551616 < 18446744073709551616 := Nat.mod_lt _ (by decide)
  have hR : a / 18446744073709551616 % b < b := Nat.mod_lt _ h0
  have HD := Lib.hid (fun w => div64_any (a / 18446744073709551616 % b) (a % 18446744073709551616) b hR hL hbl w)
  have hlz : ((b : Int) == 0) = false := by simp; omega
  rw [hah, hal]
  rw [hah, hal] at HC
  clear m1 m2 m3 hah hal ha hge
  have hmr : a % b < b := Nat.mod_lt _ h0
  have HRZ := Lib.hid (show hiN (a % b) = 0 ∧ loN (a % b) = ((a % b : Nat) : Int) from ⟨by unfold hiN; omega, by unfold loN; omega⟩)
  clear hmr
  generalize cmpN a b = cc at *
  generalize a / 18446744073709551616 = H at *
  generalize a % 18446744073709551616 = L at *
  have hbi0 : (0 : Int) ≤ (b : Int) := by omega
  have E := Lib.hid (((((Env.start w).lay #[.int .u64 (H : Int), .int .u64 (L : Int)] 24).lay #[.int .u64 0, .int .u64 (b : Int)] 24).lay #[.int .u64 0, .int .u64 0] 24).lay #[.int .u64 0, .int .u64 0] 24)
  simp only [World.size_alloc] at E
  go_enter Tryd.func16, Tryd.ntmps16
  go_wp2_with fail
  refine (HC.out _).mono ?_
  rintro e' w1 ⟨rfl, hb1⟩
  have E1 := Lib.hid (E.out.below hb1)
  clear hb1 E
  have p0 := E1.out.hd.lt
  have r0 := E1.out.hd.cell 0
  have r1 := E1.out.hd.cell 1
  have fr0 := E1.out.hd.frozen 0
  have fr1 := E1.out.hd.frozen 1
  have q0 := E1.out.tl.hd.cell 0
  have q1 := E1.out.tl.hd.cell 1
  have fq0 := E1.out.tl.hd.frozen 0
  have fq1 := E1.out.tl.hd.frozen 1
  have x0 := E1.out.tl.tl.tl.hd.cell 0
  have x1 := E1.out.tl.tl.tl.hd.cell 1
  have y0 := E1.out.tl.tl.hd.cell 0
  have y1 := E1.out.tl.tl.hd.cell 1
  simp at r0 r1 q0 q1 x0 x1 y0 y1 fr0 fr1 fq0 fq1 p0
  have hQb : H / b ≤ H := Nat.div_le_self H b
  have eq1 : (H : Int) / (b : Int) = ((H / b : Nat) : Int) := (Int.natCast_ediv H b).symm
  have eq2 : (H : Int) % (b : Int) = ((H % b : Nat) : Int) := (Int.natCast_emod H b).symm
  generalize H / b = Q at *
  generalize H % b = R at *
  have eqw : IntKind.u64.wrap (Q : Int) = (Q : Int) := by rw [IntKind.wrap_u64]; omega
  have hxl : (R * 18446744073709551616 + L) / b < 18446744073709551616 := by
    rw [Nat.div_lt_iff_lt_mul h0]
    have : (R + 1) * 18446744073709551616 ≤ b * 18446744073709551616 := Nat.mul_le_mul_right _ hR
    rw [Nat.mul_comm 18446744073709551616 b]
    omega
  have hxr : (R * 18446744073709551616 + L) % b < b := Nat.mod_lt _ h0
  generalize (R * 18446744073709551616 + L) / b = X at *
  generalize (R * 18446744073709551616 + L) % b = Y at *
  go_wp2
  go_region
  rw [eq2]
  clear eq1 eq2 eqw
  go_wp2_with fail
  refine (HD.out _).mono ?_
  rintro e' w2 ⟨rfl, hb2⟩
  have E2 := Lib.hid (E1.out.drew.below hb2)
  clear hb2 p0 r0 r1 fr0 fr1 q0 q1 fq0 fq1 x0 x1 y0 y1 E1
  have p0 := E2.out.hd.lt
  have r0 := E2.out.hd.cell 0
  have r1 := E2.out.hd.cell 1
  have fr0 := E2.out.hd.frozen 0
  have fr1 := E2.out.hd.frozen 1
  have q0 := E2.out.tl.hd.cell 0
  have q1 := E2.out.tl.hd.cell 1
  have fq0 := E2.out.tl.hd.frozen 0
  have fq1 := E2.out.tl.hd.frozen 1
  simp at r0 r1 q0 q1 fr0 fr1 fq0 fq1 p0
  go_wp2
  have B2 := (((E2.out.tl.hd.set_ 0 (.int .u64 (Q : Int))).set_ 1 (.int .u64 (X : Int))).far (p := ⟨w.heap.size + 1 + 1 + 1, 0, none⟩) (by simp) (.int .u64 0)).far (p := ⟨w.heap.size + 1 + 1 + 1, 1, none⟩) (by simp) (.int .u64 (Y : Int))
  have B3 := (((E2.out.hd.far (p := ⟨w.heap.size + 1 + 1, 0, none⟩) (by simp) (.int .u64 (Q : Int))).far (p := ⟨w.heap.size + 1 + 1, 1, none⟩) (by simp) (.int .u64 (X : Int))).set_ 0 (.int .u64 0)).set_ 1 (.int .u64 (Y : Int))
  refine bodyPost_ret (v := .tuple #[.agg #[.int .u64 (Q : Int), .int .u64 (X : Int)], .agg #[.int .u64 0, .int .u64 (Y : Int)], .int .i64 0]) (results_2c Tryd.results16 rfl rfl rfl (B2.cell_eq' rfl) (B2.cell_eq' rfl) (B3.cell_eq' rfl) (B3.cell_eq' rfl)) rfl ⟨?_, ?_⟩
  · rw [M1.out, M2.out, HRZ.out.1, HRZ.out.2, M3.out]
  · exact (((E2.out.bel.setCell (by simp <;> omega) _).setCell (by simp <;> omega) _).setCell (by simp <;> omega) _).setCell (by simp <;> omega) _
end Go.Proofs.YtmgkkbmcdnhdeabDoor
