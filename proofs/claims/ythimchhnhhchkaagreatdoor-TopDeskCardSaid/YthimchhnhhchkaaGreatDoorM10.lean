/- level.look, level.spread, the reference's Look. -/
import Derived.Test.YthimchhnhhchkaaGreatDoorM05
import Derived.Test.YthimchhnhhchkaaGreatDoorM04
import Derived.Deep.DeepCutAuto
namespace Go.Proofs.YthimchhnhhchkaaGreatDoor
open Go.RowKit
set_option linter.unusedSimpArgs false
set_option linter.unusedVariables false

set_option maxRecDepth 100000 in
set_option maxHeartbeats 1000000 in
theorem look_is (cap least : Int) (A : Option Addr) (c B n : Nat) (l : List Int) (hn : l.length = n) (e : Int) (he : lookE cap least l = e) (hm : n ≤ maxLen) (w : World) (hr : Reads w B 1 A n (cellsI l)) (hB : B ≤ w.heap.size) :
    Calls Tryz.prog 106 #[.agg #[.int .i64 cap, .slice A n c], .int .i64 least] w fun e' w' => e' = .returned (.int .i64 e) ∧ Below w.heap.size w w' := by
  have key : (winE cap l = e ∧ e ≠ 0) ∨ (winE cap l = 0 ∧ wi least 1 16777216 = false ∧ e = 1) ∨ (winE cap l = 0 ∧ wi least 1 16777216 = true ∧ n = 0 ∧ e = 4) ∨ (winE cap l = 0 ∧ wi least 1 16777216 = true ∧ 0 < n ∧ e = 0) := by
    unfold lookE at he
    split at he
    · rename_i h0
      split at he
      · rename_i h1
        split at he
        · exact .inr (.inr (.inl ⟨h0, h1, by omega, he.symm⟩))
        · exact .inr (.inr (.inr ⟨h0, h1, by omega, he.symm⟩))
      · rename_i h1
        exact .inr (.inl ⟨h0, by simpa using h1, he.symm⟩)
    · rename_i h0
      exact .inl ⟨he, he ▸ h0⟩
  have HN := Lib.hid hn
  have HC := Lib.hid (hr.alloc hB (.cells #[.int .i64 cap, .slice A n c] 97))
  have E := Lib.hid ((Env.start w).lay #[.int .i64 cap, .slice A n c] 97)
  have hB2 : B ≤ (w.alloc (.cells #[.int .i64 cap, .slice A n c] 97)).heap.size := by simp; omega
  clear hr hB he hn
  rcases key with ⟨hw, he⟩ | ⟨hw, h1, rfl⟩ | ⟨hw, h1, rfl, rfl⟩ | ⟨hw, h1, hz, rfl⟩
  · have HW := Lib.hid hw
    clear hw
    go_enter Tryz.func106, Tryz.ntmps106
    go_wp2_with fail
    refine (wchk_is _ _ _ _ _ l HN.out _ HW.out hm _ HC.out hB2).mono ?_
    rintro e' w1 ⟨rfl, hb1⟩
    have E1 := Lib.hid (E.out.below hb1)
    clear hb1 HC hB2 E
    have a1 := E1.out.hd.cell 1
    have p0 := E1.out.hd.lt
    simp at a1 p0
    go_wp2
    all_goals first
      | (exfalso; omega)
      | (go_ret; exact ⟨rfl, E1.out.bel⟩)
  · have HW := Lib.hid hw
    clear hw
    have h2 := wi_false.1 h1
    clear h1
    go_enter Tryz.func106, Tryz.ntmps106
    go_wp2_with fail
    refine (wchk_is _ _ _ _ _ l HN.out _ HW.out hm _ HC.out hB2).mono ?_
    rintro e' w1 ⟨rfl, hb1⟩
    have E1 := Lib.hid (E.out.below hb1)
    clear hb1 HC hB2 E
    have a1 := E1.out.hd.cell 1
    have p0 := E1.out.hd.lt
    simp at a1 p0
    go_wp2
    all_goals first
      | (exfalso; omega)
      | (go_ret; exact ⟨rfl, E1.out.bel⟩)
  · have HW := Lib.hid hw
    clear hw
    obtain ⟨l0, l1⟩ := wi_true.1 h1
    clear h1
    go_enter Tryz.func106, Tryz.ntmps106
    go_wp2_with fail
    refine (wchk_is _ _ _ _ _ l HN.out _ HW.out hm _ HC.out hB2).mono ?_
    rintro e' w1 ⟨rfl, hb1⟩
    have E1 := Lib.hid (E.out.below hb1)
    clear hb1 HC hB2 E
    have a1 := E1.out.hd.cell 1
    have p0 := E1.out.hd.lt
    simp at a1 p0
    go_wp2
    all_goals first
      | (exfalso; omega)
      | (go_ret; exact ⟨rfl, E1.out.bel⟩)
  · have HW := Lib.hid hw
    clear hw
    obtain ⟨l0, l1⟩ := wi_true.1 h1
    clear h1
    go_enter Tryz.func106, Tryz.ntmps106
    go_wp2_with fail
    refine (wchk_is _ _ _ _ _ l HN.out _ HW.out hm _ HC.out hB2).mono ?_
    rintro e' w1 ⟨rfl, hb1⟩
    have E1 := Lib.hid (E.out.below hb1)
    clear hb1 HC hB2 E
    have a1 := E1.out.hd.cell 1
    have p0 := E1.out.hd.lt
    simp at a1 p0
    go_wp2
    all_goals first
      | (exfalso; omega)
      | (go_ret; exact ⟨rfl, E1.out.bel⟩)





















































































theorem sof_is (A : Option Addr) (c B n : Nat) (l : List Int) (hn : l.length = n) (he : listE l = 0) (S Q : Int) (hS : s1 l = S) (hQ : s2 l = Q) (hc : n ≤ c) (hm : c ≤ maxLen) (w : World) (hr : Reads w B 1 A n (cellsI l)) (hB : B ≤ w.heap.size) :
    Calls Tryz.prog 100 #[.slice A n c] w fun e' w' => e' = .returned (.tuple #[.agg #[.int .i64 n, .int .i64 S, .int .i64 Q], .int .i64 0]) ∧ Below w.heap.size w w' := by
  subst hn hS hQ
  have := sof_ok A c B l.length l rfl he hc hm w hr hB
  rw [(t_all l).1, (t_all l).2] at this
  exact this

set_option maxHeartbeats 2000000 in
set_option maxRecDepth 100000 in
theorem lspread_is (cap least : Int) (A : Option Addr) (c B n : Nat) (l : List Int) (hn : l.length = n) (he : listE l = 0) (h1n : 1 ≤ n) (h0l : 1 ≤ least) (h1l : least ≤ 16777216) (S Q : Int) (hS : s1 l = S) (hQ : s2 l = Q) (hc : n ≤ c) (hm : c ≤ maxLen) (w : World) (hr : Reads w B 1 A n (cellsI l)) (hB : B ≤ w.heap.size) :
    Calls Tryz.prog 107 #[.agg #[.int .i64 cap, .slice A n c], .int .i64 least] w fun e' w' => e' = .returned (.tuple #[.agg #[.int .i64 n, .int .i64 S, .int .i64 Q], .int .i64 (lvV n S Q least)]) ∧ Below w.heap.size w w' := by
  have hsum : sumsE n S Q = 0 := by have := sums_ok l he; rw [hn, hS, hQ] at this; exact this
  obtain ⟨g1, g2, g3, g4, g5, g6, g7, g8, g9, g10, g11, g12, g13, g14, g15, g16, g17, g18, g19⟩ := lv_bd hsum (by omega) h0l h1l
  have HN := Lib.hid hn
  have HE := Lib.hid he
  have HS := Lib.hid hS
  have HQ := Lib.hid hQ
  have HM := Lib.hid (lvM_eq n least)
  have HSP := Lib.hid (fun w' => spread_ok n S Q hsum w')
  have HV := Lib.hid (show lvV n S Q least = if n * Q - S * S < lvM n least then lvM n least else n * Q - S * S from rfl)
  have E := Lib.hid ((((Env.start w).lay #[.int .i64 cap, .slice A n c] 97).lay #[.int .i64 0, .int .i64 0, .int .i64 0] 87))
  have HC := Lib.hid (((hr.alloc hB (.cells #[.int .i64 cap, .slice A n c] 97)).alloc (by simp; omega) (.cells #[.int .i64 0, .int .i64 0, .int .i64 0] 87)))
  have hB2 : B ≤ ((w.alloc (.cells #[.int .i64 cap, .slice A n c] 97)).alloc (.cells #[.int .i64 0, .int .i64 0, .int .i64 0] 87)).heap.size := by simp; omega
  clear hn he hS hQ hr hB hsum
  go_enter Tryz.func107, Tryz.ntmps107
  go_wp2_with fail
  refine (sof_is _ _ _ n l HN.out HE.out S Q HS.out HQ.out hc hm _ HC.out hB2).mono ?_
  rintro e' w1 ⟨rfl, hb1⟩
  have E1 := Lib.hid ((E.out.below hb1).lay #[.int .i64 n, .int .i64 S, .int .i64 Q] 87)
  have pw := (E.out.below hb1).hd.lt
  simp at pw
  clear hb1 HC hB2 E
  go_wp2_with fail
  refine (HSP.out _).mono ?_
  rintro e' w2 ⟨rfl, hb2⟩
  have E2 := Lib.hid (E1.out.below hb2)
  clear hb2 E1
  have p0 := E2.out.hd.lt
  have a0 := E2.out.hd.cell 0
  have a1 := E2.out.hd.cell 1
  have a2 := E2.out.hd.cell 2
  have p1 := E2.out.tl.hd.lt
  have b0 := E2.out.tl.hd.cell 0
  have b1 := E2.out.tl.hd.cell 1
  have b2 := E2.out.tl.hd.cell 2
  have f0 := E2.out.tl.hd.frozen 0
  have f1 := E2.out.tl.hd.frozen 1
  have f2 := E2.out.tl.hd.frozen 2
  simp at a0 a1 a2 b0 b1 b2 f0 f1 f2 p0 p1
  have hbel := E2.out.bel
  go_upto_region 3 with fail
  go_region
  have hw64 : wrap64 ((n : Int) * n * least * least) = lvM n least := by
    rw [HM.out]; unfold wrap64; omega
  rw [hw64, ← HV.out]
  have B := (((E2.out.tl.hd.set_ 0 (.int .i64 n)).set_ 1 (.int .i64 S)).set_ 2 (.int .i64 Q)).drew
  have hb2 := (((hbel.setCell (p := ⟨w.heap.size + 1, 0, none⟩) (by simp) (.int .i64 n)).setCell (p := ⟨w.heap.size + 1, 1, none⟩) (by simp) (.int .i64 S)).setCell (p := ⟨w.heap.size + 1, 2, none⟩) (by simp) (.int .i64 Q)).drew
  simp only [World.size_alloc] at B
  generalize (((w2.setCell ⟨w.heap.size + 1, 0, none⟩ (.int .i64 n)).setCell ⟨w.heap.size + 1, 1, none⟩ (.int .i64 S)).setCell ⟨w.heap.size + 1, 2, none⟩ (.int .i64 Q)).drew = wf at B hb2 ⊢
  have c0 := B.cell 0
  have c1 := B.cell 1
  have c2 := B.cell 2
  simp at c0 c1 c2
  clear a0 a1 a2 b0 b1 b2 f0 f1 f2
  go_wp2
  refine bodyPost_ret (v := .tuple #[.agg #[.int .i64 n, .int .i64 S, .int .i64 Q], .int .i64 (lvV n S Q least)]) (by simp [results, Tryz.results107, go_sem, c0, c1, c2]) rfl ⟨rfl, hb2⟩
end Go.Proofs.YthimchhnhhchkaaGreatDoor
