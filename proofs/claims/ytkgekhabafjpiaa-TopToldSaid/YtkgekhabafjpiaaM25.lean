/- slices.Insert of one peer into a row that must grow, walked. -/
import Derived.Test.YtkgekhabafjpiaaM24
namespace Go.Proofs.Ytkgekhabafjpiaa
open Go.RowKit Go.Lib
set_option linter.unusedSimpArgs false
set_option linter.unusedVariables false

set_option maxHeartbeats 3000000 in
set_option maxRecDepth 100000 in
theorem insert_grow (base i d vb cap : Nat) (A : Option Addr) (xs vs : List Value) (hd : 0 < d) (hm : i + d ≤ 1000) (hno : ¬ i + d + 1 ≤ cap) (hone : ∀ u ∈ xs, u.oneCell' = true) (honev : ∀ u ∈ vs, u.oneCell' = true) (w : World) (hown : w.ownsRow base 53 7 (.slice A (i + d) cap) (i + d) xs) (hv : Blk w vb 53 vs.toArray) (hvl : vs.length = 7) (hbase : base ≤ w.heap.size) :
    Calls Try.prog 38 #[.slice A (i + d) cap, .int .i64 i, .slice (some ⟨vb, 0, none⟩) 1 1] w (Put1 A base (i + d + 1) (xs.take (i * 7) ++ (vs ++ xs.drop (i * 7))) w) := by
  obtain ⟨i0, hi, hz0, hz1, hz2⟩ := info_parts slP_info
  obtain ⟨g, c', hva, hgb, hgl, hnc, hcm, hcells⟩ := ownsRow_at hown (by omega)
  injection hva with hva hvb hvc
  subst hva hvc
  clear hvb
  obtain rfl : cap = i + d := by omega
  unfold maxLen at hcm
  have hxl := hown.1
  have hdl : (xs.drop (i * 7)).length = d * 7 := by rw [List.length_drop, hxl]; omega
  have htl : (xs.take (i * 7)).length = i * 7 := by rw [List.length_take, hxl]; omega
  have hge := grownCap_ge w (i + (d + 1)) (i + d) 53
  have hle := grownCap_le_maxLen w (i + (d + 1)) (i + d) 53 (by unfold maxLen; omega)
  have hrz : ∀ ty, (Builtin.append_ #[44, 3] ty #[.slice (some ⟨g, 0, none⟩) i (i + d), .int .i64 ((d + 1 : Nat) : Int)]).run Try.prog w = _ := fun ty =>
    run_append_grow_zeros w 44 3 ty 53 i0 _ .i64 .i64 Try.underlying44 Try.underlying3 hi hz0 (some ⟨g, 0, none⟩) i (i + d) (xs.take (i * 7))
      (run_firstCells_some w.drew i0.size i ⟨g, 0, none⟩ i (i + d) _ (by rw [htl, hz1]) (fun j u hj => by
        have hadd : (⟨g, 0, none⟩ : Addr).add j = ⟨g, j, none⟩ := by (unfold Addr.add; split <;> simp_all)
        rw [hadd]
        rw [List.getElem?_take] at hj
        split at hj
        · exact hcells j u hj
        · cases hj)) (d + 1) (by omega) (by rw [hz1]; decide) (by omega) (by omega) (by rw [hz2]; omega) (growslice_fits (by omega) (by rw [hz2]; omega))
  rw [show i + (d + 1) = i + d + 1 from rfl] at hge hle
  simp only [show i + (d + 1) = i + d + 1 from rfl] at hrz
  generalize grownCap w (i + d + 1) (i + d) 53 = G at *
  obtain ⟨zs, hzs⟩ : ∃ zs : Array Value, zs = (xs.take (i * 7)).toArray ++ Builtin.zeroCells (Value.cells (.agg #[.string ByteArray.empty, .int .i64 0, .int .i64 0, .int .i64 0, .int .i64 0, .slice none 0 0, .int .i64 0])) (d + 1) ++ Builtin.zeroCells (Value.cells (.agg #[.string ByteArray.empty, .int .i64 0, .int .i64 0, .int .i64 0, .int .i64 0, .slice none 0 0, .int .i64 0])) (G - (i + d + 1)) := ⟨_, rfl⟩
  rw [← hzs] at hrz
  have hzl : zs.toList.length = G * 7 := by
    rw [hzs, Array.length_toList]
    simp only [Array.size_append, size_zeroCells, List.size_toArray, htl]
    rw [show (Value.cells (.agg #[.string ByteArray.empty, .int .i64 0, .int .i64 0, .int .i64 0, .int .i64 0, .slice none 0 0, .int .i64 0])).size = 7 from rfl]
    omega
  have hzt : zs.toList.take (i * 7) = xs.take (i * 7) := by
    rw [hzs, Array.toList_append, Array.toList_append, List.append_assoc]
    exact List.take_left' htl
  have HFIN := Lib.hid (show (splice (splice zs.toList (i * 7) vs) ((i + 1) * 7) (xs.drop (i * 7))).take ((i + d + 1) * 7) = xs.take (i * 7) ++ (vs ++ xs.drop (i * 7)) by
    have := splice_two zs.toList (xs.drop (i * 7)) vs (i * 7) 7 hvl (by rw [hdl, hzl]; omega)
    rw [hdl, show i * 7 + 7 + d * 7 = (i + d + 1) * 7 by omega, show i * 7 + 7 = (i + 1) * 7 by omega] at this
    rw [this, hzt])
  have HL := Lib.hid (show (xs.take (i * 7) ++ (vs ++ xs.drop (i * 7))).length = (i + d + 1) * 7 by simp only [List.length_append, hvl, hdl, htl]; omega)
  have ONE := Lib.hid (show ∀ u ∈ xs.drop (i * 7), u.oneCell' = true from fun u hu => hone u (List.mem_of_mem_drop hu))
  have HDL := Lib.hid hdl
  have HCS := Lib.hid hzl
  have HG := Lib.hid (show (w.drew.alloc (.cells zs 53)).heap[w.heap.size]? = some (.cells zs.toList.toArray 53 (0, 0)) by have := heap_alloc_new w.drew (.cells zs 53); simpa using this)
  have HV := Lib.hid (show Blk (w.drew.alloc (.cells zs 53)) vb 53 vs.toArray from hv.drew.alloc _)
  have hvlt := hv.lt
  have HY := Lib.hid (show ∀ j u, (xs.drop (i * 7))[j]? = some u → (w.drew.alloc (.cells zs 53)).cell? ((⟨g, i * 7, none⟩ : Addr).add j) = some u by
    intro j u hj
    rw [List.getElem?_drop] at hj
    have hadd : ((⟨g, i * 7, none⟩ : Addr)).add j = ⟨g, i * 7 + j, none⟩ := by unfold Addr.add; split <;> simp_all
    rw [hadd, World.cell?_alloc_lt w.drew _ _ (by exact hgl)]
    exact hcells _ u hj)
  rw [show ((d + 1 : Nat) : Int) = (i : Int) + d + 1 - i by omega] at hrz
  have HRZ := Lib.hid hrz
  generalize xs.take (i * 7) ++ (vs ++ xs.drop (i * 7)) = ys at *
  generalize xs.drop (i * 7) = yd at *
  clear hzs hzl hzt hcells hown hxl hdl htl hone hv hrz
  generalize zs.toList = curL at *
  have b0 : (d : Int) + 1 = ((d + 1 : Nat) : Int) := by omega
  have hne2 : ¬ ((i : Int) = (i : Int) + d) := by omega
  have hz : ¬ ((1 : Int) = 0) := by omega
  have c0 : ¬ (d = 0) := by omega
  have c1 : ¬ (G = i) := by omega
  have c2 : ¬ (G = i + 1) := by omega
  have b1 : (i : Int) ≤ (i : Int) + d + 1 := by omega
  have b2 : (0 : Int) ≤ (i : Int) + 1 := by omega
  have b3 : (i : Int) + 1 ≤ (i : Int) + d + 1 := by omega
  have b4 : ((i : Int) + 1).toNat = i + 1 := by omega
  have b5 : (0 : Int) ≤ (i : Int) := by omega
  have b6 : (i : Int) ≤ (i : Int) + d := by omega
  have b7 : ((i : Int)).toNat = i := by omega
  have w1 : IntKind.i64.wrap ((i : Int) + 1) = (i : Int) + 1 := by rw [IntKind.wrap_i64]; omega
  have HC := Lib.hid (blk_row HV.out)
  go_enter Try.func38, Try.ntmps38
  go_wp2_with (first
    | (at_builtin; refine Lib.wpList_append_run _ rfl _ _ _ _ rfl _ _ rfl rfl _ _ (HRZ.out _) ?_)
    | (refine wpList_copy_spliceN (by rfl) _ _ _ _ (by rfl) 53 7 Try.underlying44 slP_size (by decide) _ _ _ _ _ _ (by rfl) (by rfl) w.heap.size (i * 7) curL 53 HG.out vs (by rw [hvl]; simp only [Nat.min_def]; split <;> omega) (fun _ => ⟨rfl, _, rfl, HC.out⟩) (by rw [hvl, HCS.out]; omega) honev base w (by first | exact ((Below.refl base w).drew.alloc hbase _) | exact ((Below.refl base w).alloc hbase _).drew) hbase ?_; intro w5 hg5 hb5 hgr5))
  all_goals
    have G5 := Lib.hid hg5.out
    have B5 := Lib.hid hb5
    have hl5 := Lib.hid (show (splice curL (i * 7) vs).length = G * 7 by rw [length_splice _ _ _ (by rw [hvl, HCS.out]; omega), HCS.out])
    have HY5 := Lib.hid (show ∀ j u, yd[j]? = some u → w5.cell? ((⟨g, i * 7, none⟩ : Addr).add j) = some u from fun j u hj => by
      have h := HY.out j u hj
      have hq := hgr5.block g (by simp; omega) (by simp; omega)
      rw [World.cell?_of_block (w := w.drew.alloc (.cells zs 53)) (by rw [block_of_add]; exact hq)]
      exact h)
    have R5 := Lib.hid (show w.grownBy w5 (some g) from ⟨hgr5.os, hgr5.tape, hgr5.output, Nat.le_trans (by simp) hgr5.size, fun k hk hn => (hgr5.block k (by simp; omega) (by simp; omega)).trans (Below.heap_alloc w.drew _ k hk)⟩)
    clear hg5 hb5 hgr5
    have hS0 : Below 0 w w5 := Below.mono B5.out (Nat.zero_le _)
    go_region_held3 (fun w' => Below 0 w w') ((first | exact Below.mono hb6 (Nat.zero_le _) | exact hS0 | exact hS0.drew)) ((refine step_copy_spliceN (by rfl) _ _ _ _ (by rfl) 53 7 Try.underlying44 slP_size (by decide) _ _ _ _ _ _ (by rfl) (by rfl) w.heap.size ((i + 1) * 7) _ 53 G5.out yd (by rw [HDL.out]; congr 1; simp only [Nat.min_def]; split <;> omega) (fun _ => ⟨rfl, _, rfl, fun j u hj => HY5.out j u hj⟩) (by rw [HDL.out, hl5.out]; omega) ONE.out base w (by first | exact B5.out | exact B5.out.drew) hbase ?_; intro w6 hg6 hb6 hgr6))
    all_goals
      have G6 := Lib.hid hg6.out
      have R6 := Lib.hid (show w.grownBy w6 (some g) from ⟨hgr6.os.trans R5.out.os, hgr6.tape.trans R5.out.tape, hgr6.output.trans R5.out.output, Nat.le_trans R5.out.size hgr6.size, fun k hk hn => (hgr6.block k (Nat.lt_of_lt_of_le hk R5.out.size) (by simp; omega)).trans (R5.out.block k hk hn)⟩)
      clear hg6 hb6 hgr6
      go_wp2
      go_ret
      refine ⟨some ⟨w.heap.size, 0, none⟩, G, rfl, ⟨HL.out, .inr ⟨w.heap.size, G, _, rfl, hbase, G6.out, by omega, hle, ?_, HFIN.out⟩⟩, R6.out⟩
      rw [List.size_toArray, length_splice _ _ _ (by rw [HDL.out, hl5.out]; omega), hl5.out]
end Go.Proofs.Ytkgekhabafjpiaa
