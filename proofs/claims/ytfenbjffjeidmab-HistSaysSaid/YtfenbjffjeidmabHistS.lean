/- The reference's Hist over slices of histograms, walked. -/
import Derived.Test.YtfenbjffjeidmabHistR
import Derived.ChangeKeysEq
import Derived.Laws.StructEq
namespace Go.Proofs.Ytfenbjffjeidmab
open Go.RowKit
set_option linter.unusedSimpArgs false
set_option linter.unusedVariables false

theorem Below.al {w W : World} {o : Obj} (h : Below w.heap.size w W) : Below w.heap.size w (W.alloc o) := h.alloc h.size _
theorem Below.thru {w X W : World} (h : Below w.heap.size w X) (h2 : Below X.heap.size X W) : Below w.heap.size w W := h.trans (h2.mono h.size)
theorem Blk.nw1 (w : World) (o : Obj) (t : TypeId) (cs : Array Value) : Blk ((w.alloc o).alloc (.cells cs t)) (w.heap.size + 1) t cs := by
  have e : w.heap.size + 1 = (w.alloc o).heap.size := by simp
  rw [e]; exact Blk.new _ _ _
theorem eqItems_self (l : List Int) (w : World) : ∀ is : List Nat, (∀ i ∈ is, i < l.length) → (Op.eqItems 9998 3 1 (histA l) (histA l) is).run Try.prog w = .ok true w
  | [], _ => by simp [Op.eqItems]
  | j :: is, h => by
    have e2 : ∀ w, (isAgg 3).run Try.prog w = .ok false w := fun w => by kernel_rfl
    have hj := histA_at l j (h j (List.mem_cons_self ..))
    have hp : ∀ w, (part 3 (histA l) (j * 1)).run Try.prog w = .ok (.int .i64 (l.getD j 0)) w := fun w => by
      simp [part, Sem.run_bind, e2, Result.andThen, hj]
    have he := run_equalIn_int w 9997 3 .i64 .i64 (l.getD j 0) (l.getD j 0) Try.underlying3
    have ih := eqItems_self l w is fun i hi => h i (List.mem_cons_of_mem _ hi)
    simp only [Op.eqItems, Sem.run_bind, hp, Result.andThen_ok, he]
    simpa using ih
theorem eq26 {l : List Int} (h : l.length = 26) (w : World) : (Op.equalIn 9999 22 (.agg (histA l)) (.agg (histA l))).run Try.prog w = .ok true w := by
  obtain ⟨i, hi⟩ : ∃ i, Try.prog.info? 3 = some i := by
    cases hq : Try.prog.info? 3 with
    | none => have : (Try.prog.info? 3).isSome = true := by kernel_rfl
              rw [hq] at this; cases this
    | some i => exact ⟨i, rfl⟩
  rw [run_equalIn_array (P := Try.prog) w 9998 (histA l) (histA l) Try.underlying22 hi]
  have hc : Try.prog.cellsOf 3 = 1 := by kernel_rfl
  rw [hc]
  exact eqItems_self l w _ fun i hi => by simp at hi; omega
theorem ext26 {l : List Int} (h : l.length = 26) : (histA l).extract 0 26 = histA l := by
  have : (histA l).size = 26 := by rw [histA_size, h]
  rw [← this]; simp
theorem lit26 {a : List Int} (h : a.length = 26) : ∃ x0 x1 x2 x3 x4 x5 x6 x7 x8 x9 x10 x11 x12 x13 x14 x15 x16 x17 x18 x19 x20 x21 x22 x23 x24 x25, a = [x0, x1, x2, x3, x4, x5, x6, x7, x8, x9, x10, x11, x12, x13, x14, x15, x16, x17, x18, x19, x20, x21, x22, x23, x24, x25] := by
  match a, h with
  | [x0, x1, x2, x3, x4, x5, x6, x7, x8, x9, x10, x11, x12, x13, x14, x15, x16, x17, x18, x19, x20, x21, x22, x23, x24, x25], _ => exact ⟨_, _, _, _, _, _, _, _, _, _, _, _, _, _, _, _, _, _, _, _, _, _, _, _, _, _, rfl⟩
theorem histA_app (a b : List Int) : histA (a ++ b) = histA a ++ histA b := by simp [histA]
theorem histA_lit {a : List Int} (h : a.length = 26) : ∃ x0 x1 x2 x3 x4 x5 x6 x7 x8 x9 x10 x11 x12 x13 x14 x15 x16 x17 x18 x19 x20 x21 x22 x23 x24 x25 : Value, histA a = #[x0, x1, x2, x3, x4, x5, x6, x7, x8, x9, x10, x11, x12, x13, x14, x15, x16, x17, x18, x19, x20, x21, x22, x23, x24, x25] := by
  obtain ⟨x0, x1, x2, x3, x4, x5, x6, x7, x8, x9, x10, x11, x12, x13, x14, x15, x16, x17, x18, x19, x20, x21, x22, x23, x24, x25, rfl⟩ := lit26 h
  exact ⟨_, _, _, _, _, _, _, _, _, _, _, _, _, _, _, _, _, _, _, _, _, _, _, _, _, _, rfl⟩
set_option maxRecDepth 100000 in
theorem histA_lit2 {a b : List Int} (h : a.length = 26) (h2 : b.length = 26) : ∃ x0 x1 x2 x3 x4 x5 x6 x7 x8 x9 x10 x11 x12 x13 x14 x15 x16 x17 x18 x19 x20 x21 x22 x23 x24 x25 y0 y1 y2 y3 y4 y5 y6 y7 y8 y9 y10 y11 y12 y13 y14 y15 y16 y17 y18 y19 y20 y21 y22 y23 y24 y25 : Value, histA a = #[x0, x1, x2, x3, x4, x5, x6, x7, x8, x9, x10, x11, x12, x13, x14, x15, x16, x17, x18, x19, x20, x21, x22, x23, x24, x25] ∧ histA b = #[y0, y1, y2, y3, y4, y5, y6, y7, y8, y9, y10, y11, y12, y13, y14, y15, y16, y17, y18, y19, y20, y21, y22, y23, y24, y25] ∧ histA (a ++ b) = #[x0, x1, x2, x3, x4, x5, x6, x7, x8, x9, x10, x11, x12, x13, x14, x15, x16, x17, x18, x19, x20, x21, x22, x23, x24, x25, y0, y1, y2, y3, y4, y5, y6, y7, y8, y9, y10, y11, y12, y13, y14, y15, y16, y17, y18, y19, y20, y21, y22, y23, y24, y25] := by
  obtain ⟨x0, x1, x2, x3, x4, x5, x6, x7, x8, x9, x10, x11, x12, x13, x14, x15, x16, x17, x18, x19, x20, x21, x22, x23, x24, x25, rfl⟩ := lit26 h
  obtain ⟨y0, y1, y2, y3, y4, y5, y6, y7, y8, y9, y10, y11, y12, y13, y14, y15, y16, y17, y18, y19, y20, y21, y22, y23, y24, y25, rfl⟩ := lit26 h2
  exact ⟨_, _, _, _, _, _, _, _, _, _, _, _, _, _, _, _, _, _, _, _, _, _, _, _, _, _, _, _, _, _, _, _, _, _, _, _, _, _, _, _, _, _, _, _, _, _, _, _, _, _, _, _, rfl, rfl, rfl⟩
set_option maxRecDepth 100000 in
theorem slice_one (a : List Int) (h : a.length = 26) (w : World) : (Instr.buildSlice 39 1 #[(0, .agg (histA a))]).run Try.prog w = .ok (.slice (some ⟨w.heap.size, 0, none⟩) 1 1) (w.alloc (.cells (histA a) 24)) := by
  obtain ⟨x0, x1, x2, x3, x4, x5, x6, x7, x8, x9, x10, x11, x12, x13, x14, x15, x16, x17, x18, x19, x20, x21, x22, x23, x24, x25, rfl⟩ := lit26 h
  kernel_rfl
set_option maxRecDepth 100000 in
theorem slice_two (a b : List Int) (h : a.length = 26) (h2 : b.length = 26) (w : World) : (Instr.buildSlice 39 2 #[(0, .agg (histA a)), (1, .agg (histA b))]).run Try.prog w = .ok (.slice (some ⟨w.heap.size, 0, none⟩) 2 2) (w.alloc (.cells (histA (a ++ b)) 24)) := by
  obtain ⟨x0, x1, x2, x3, x4, x5, x6, x7, x8, x9, x10, x11, x12, x13, x14, x15, x16, x17, x18, x19, x20, x21, x22, x23, x24, x25, rfl⟩ := lit26 h
  obtain ⟨y0, y1, y2, y3, y4, y5, y6, y7, y8, y9, y10, y11, y12, y13, y14, y15, y16, y17, y18, y19, y20, y21, y22, y23, y24, y25, rfl⟩ := lit26 h2
  kernel_rfl
section
variable {P : Program}
theorem run_loadVar_part (w : World) (g off : Nat) (ty : TypeId) (cs : Array Value) (d : TypeDesc) (hc : ∀ j u, cs[j]? = some u → w.cell? ⟨g, off + j, none⟩ = some u)
    (hu : P.underlying ty = some d) (hd : (match d with | .struct _ | .array _ _ => true | _ => false) = true) (hi : (P.info? ty).map (·.size) = some cs.size) :
    (loadVar ty ⟨g, off, none⟩).run P w = .ok (.agg cs) w := by
  have hl : (loadCells ⟨g, off, none⟩ cs.toList.length).run P w = .ok cs.toList.toArray w :=
    run_loadCells_list (P := P) w ⟨g, off, none⟩ cs.toList (fun j v hv => by
      have hadd : (⟨g, off, none⟩ : Addr).add j = ⟨g, off + j, none⟩ := by unfold Addr.add; split <;> simp_all
      rw [hadd]
      exact hc j v (by simpa using hv))
  cases hq : P.info? ty with
  | none => simp [hq] at hi
  | some i =>
    have hs : i.size = cs.size := by simpa [hq] using hi
    have hagg : (isAgg ty).run P w = .ok true w := by
      unfold isAgg
      rw [Sem.run_bind, run_underlying hu w]
      cases d <;> simp_all
    simp only [Array.length_toList, Array.toArray_toList] at hl
    simp [loadVar, Sem.run_bind, hagg, sizeOf, typeInfo, hq, hs, hl]
theorem wpList_load_part {ops : Array Oper} {rest : List Oper} {o : Oper} {a : Act} {w : World} {Q : Exit → Act → World → Prop} (hgd : o.guard = none) (ty : TypeId) (x : Operand) (ho : o.op = .load ty x)
    (g off : Nat) (hx : a.eval x = .pointer (some ⟨g, off, none⟩)) (cs : Array Value) (d : TypeDesc) (hc : ∀ j u, cs[j]? = some u → w.cell? ⟨g, off + j, none⟩ = some u)
    (hu : P.underlying ty = some d) (hd : (match d with | .struct _ | .array _ _ => true | _ => false) = true) (hi : (P.info? ty).map (·.size) = some cs.size)
    (h : wpList P ops Q rest (a.put o.dst (.agg cs)) w) : wpList P ops Q (o :: rest) a w :=
  wpList_plain hgd fun _ hK => by
    unfold Oper.wp execOp
    simp only [ho, hx, Instr.loadAt, Instr.sureAddr, Sem.run_bind, Sem.run_pure, Result.andThen_ok, run_loadVar_part w g off ty cs d hc hu hd hi]
    exact hK _ _ h
end
/-- the i-th histogram of many -/
def nth26 (F : List Int) (i : Nat) : List Int := (List.range 26).map fun j => F.getD (i * 26 + j) 0
theorem nth26_len (F : List Int) (i : Nat) : (nth26 F i).length = 26 := by simp [nth26]
theorem nth26_at (F : List Int) (i j : Nat) (h : j < 26) : (nth26 F i).getD j 0 = F.getD (i * 26 + j) 0 := by simp [nth26, List.getD, h]

set_option maxHeartbeats 2000000 in
set_option maxRecDepth 100000 in
theorem rhist_is (F : List Int) (n : Nat) (hn : n ≤ 2) (hF : F.length = n * 26) (w : World) (g : Nat) (hg : Blk w g 24 (histA F)) (e : Int) (he : histE F = e) :
    Calls Try.prog 7 #[.slice (some ⟨g, 0, none⟩) n n] w fun e' w' => e' = .returned (.int .i64 e) ∧ Below w.heap.size w w' := by
  obtain ⟨hz, hi⟩ := zero_of_info hist_info
  obtain ⟨hz2, hi2⟩ := zero_of_info hist_arr
  have HI := Lib.hid (show ∀ m : List Int, m.length = 26 → (Try.prog.info? 24).map (·.size) = some (histA m).size from fun m hm => by rw [histA_size, hm]; exact hi)
  have HI2 := Lib.hid (show ∀ m : List Int, m.length = 26 → (Try.prog.info? 22).map (·.size) = some (histA m).size from fun m hm => by rw [histA_size, hm]; exact hi2)
  have HS := Lib.hid (show ∀ m : List Int, m.length = 26 → (histA zeros).size = (histA m).size from fun m hm => by rw [histA_size, histA_size, hm, zeros_len])
  have H1 := Lib.hid (fun (m : List Int) => histA_one m)
  have hzz : (Value.agg (histA (List.replicate 26 0))) = .agg (histA zeros) := rfl
  rw [hzz] at hz
  have HG := Lib.hid hg
  have HGL := Lib.hid hg.lt
  have HFL := Lib.hid hF
  have HE := Lib.hid he
  have HBAD := Lib.hid (show ∀ k, k < F.length → ¬ (0 ≤ F.getD k 0 ∧ F.getD k 0 ≤ 1073741824) → e = 1 from fun k hk hn => by rw [← he, histE]; exact if_neg fun h => hn (h k hk))
  have HGOOD := Lib.hid (show (∀ k, k < n * 26 → 0 ≤ F.getD k 0 ∧ F.getD k 0 ≤ 1073741824) → e = 0 from fun h => by rw [← he, histE]; exact if_pos fun k hk => h k (by omega))
  clear hi hi2 hz2 hzz hg hF he
  generalize hZ : histA zeros = Z at *
  clear hZ
  go_enter Try.func7, Try.ntmps7
  go_wp2
  go_loopw [9] (fun iv wr => ∃ i : Nat, i ≤ n ∧ iv = .int .i64 i ∧ (∀ k, k < i * 26 → 0 ≤ F.getD k 0 ∧ F.getD k 0 ≤ 1073741824) ∧ Below w.heap.size w wr) (fun iv _ => n - (intOf iv).toNat)
  case atStart => exact ⟨0, by omega, rfl, fun k h => by omega, Below.refl _ _⟩
  case round =>
    obtain ⟨i, hi, rfl, hok, hbel⟩ := hrel
    have HOK := Lib.hid hok
    have HB := Lib.hid hbel
    have hsz := hbel.size
    clear hok hbel
    by_cases hlt : i < n
    · have E := Lib.hid (((Env.start w).below (W' := wr) (by simpa using HB.out)).lay Z 24)
      have HC := Lib.hid (show ∀ j u, (histA (nth26 F i))[j]? = some u → wr.cell? ⟨g, i * 26 + j, none⟩ = some u from fun j u hu => by
        have hj : j < 26 := by
          have := (Array.getElem?_eq_some_iff.1 hu).1
          rw [histA_size, nth26_len] at this
          exact this
        rw [histA_at _ _ (by rw [nth26_len]; exact hj), nth26_at _ _ _ hj] at hu
        rw [((HG.out.below HB.out HGL.out).cell _), histA_at _ _ (by have := HFL.out; omega)]
        exact hu)
      have hM := nth26_len F i
      have HM := Lib.hid hM
      have HMA := Lib.hid (fun j (h : j < 26) => (histA_at (nth26 F i) j (by rw [nth26_len]; exact h)).trans (by rw [nth26_at _ _ _ h]))
      generalize nth26 F i = M at *
      go_wp2_with (first
        | (refine wpList_load_part rfl 24 _ rfl g (i * 26) rfl (histA M) _ HC.out Try.underlying24 rfl (HI.out _ HM.out) ?_)
        | (refine wpList_store_row rfl 24 _ _ rfl wr.heap.size Z (histA M) 24 rfl rfl E.out.hd (HI.out _ HM.out) (HS.out _ HM.out) (H1.out _) ?_)
        | (refine wpList_load_row rfl 22 _ rfl wr.heap.size rfl 24 (histA M) (0, 0) _ (setRow_heap _ _ Z (histA M) _ (0, 0) E.out.hd) Try.underlying22 rfl (HI2.out _ HM.out) ?_))
      have HB2 := Lib.hid (show Below w.heap.size w ((wr.alloc (.cells Z 24)).setRow wr.heap.size (histA M)) from below_row E.out.bel hsz (histA M))
      go_loop [15] (fun jv => ∃ j : Nat, j ≤ 26 ∧ jv = .int .i64 j ∧ ∀ k, k < i * 26 + j → 0 ≤ F.getD k 0 ∧ F.getD k 0 ≤ 1073741824) (fun jv => 26 - (intOf jv).toNat)
      case atStart => exact ⟨0, by omega, rfl, by simpa using HOK.out⟩
      case round =>
        obtain ⟨j, hj, rfl, hok⟩ := hrel
        have HOJ := Lib.hid hok
        clear hok
        by_cases hjl : j < 26
        · have x1 := index26 (histA M) j hjl _ (HMA.out j hjl)
          have HBX := Lib.hid (HBAD.out (i * 26 + j) (by have := HFL.out; omega))
          have HNX := Lib.hid (show (0 ≤ F.getD (i * 26 + j) 0 ∧ F.getD (i * 26 + j) 0 ≤ 1073741824) → ∀ k, k < i * 26 + (j + 1) → 0 ≤ F.getD k 0 ∧ F.getD k 0 ≤ 1073741824 from fun hx k hk => by
            rcases Nat.lt_or_ge k (i * 26 + j) with h | h
            · exact HOJ.out k h
            · have : k = i * 26 + j := by omega
              subst this; exact hx)
          generalize F.getD (i * 26 + j) 0 = x at *
          cases hx : wi x 0 1073741824
          · have HR := Lib.hid (HBX.out fun h => by rw [wi_true.2 h] at hx; cases hx)
            go_wp2_with (go_at_call 15; refine (within_any _ _ _ _).mono ?_; rintro e w' ⟨rfl, rfl⟩; rw [hx])
            go_ret
            exact ⟨ret_int HR.out.symm, HB2.out⟩
          · have HN2 := Lib.hid (HNX.out (wi_true.1 hx))
            go_wp2_with (go_at_call 15; refine (within_any _ _ _ _).mono ?_; rintro e w' ⟨rfl, rfl⟩; rw [hx])
            go_round
            case rel => exact ⟨j + 1, hjl, by simp, HN2.out⟩
            case measure => simp [intOf]; omega
        · have hj3 : 26 ≤ j := by omega
          have HN3 := Lib.hid (show ∀ k, k < (i + 1) * 26 → 0 ≤ F.getD k 0 ∧ F.getD k 0 ≤ 1073741824 from fun k hk => HOJ.out k (by omega))
          go_wp2
          go_roundw
          case rel => exact ⟨i + 1, hlt, by simp, HN3.out, HB2.out⟩
          case measure => simp [intOf]; omega
    · have hin : n ≤ i := by omega
      have HR := Lib.hid (HGOOD.out fun k hk => HOK.out k (by have : n * 26 ≤ i * 26 := Nat.mul_le_mul_right _ hin; omega))
      go_wp2
      go_ret
      exact ⟨ret_int HR.out.symm, HB.out⟩
end Go.Proofs.Ytfenbjffjeidmab
