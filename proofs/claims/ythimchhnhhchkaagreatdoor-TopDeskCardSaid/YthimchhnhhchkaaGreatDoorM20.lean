/- slices of the package slices over heartwood/api.Peer, walked. (with what it needs) -/
import Derived.Test.YthimchhnhhchkaaGreatDoorM11
import Derived.Test.YthimchhnhhchkaaGreatDoorM08
import Derived.Lib.AppendZerosOnto
import Derived.Lib.Overlaps
import Derived.Deep.DeepCutAuto
import Derived.Deep.RegionHeld3
namespace Go.Proofs.YthimchhnhhchkaaGreatDoor
open Go.RowKit Go.Lib
set_option linter.unusedSimpArgs false
set_option linter.unusedVariables false

theorem slP_info : (Tryz.prog.info? 183).map (fun i => (i.zero, i.size, i.bytes)) = some (some (.agg #[.string ByteArray.empty, .int .i64 0, .int .i64 0, .int .i64 0, .int .i64 0, .slice none 0 0, .int .i64 0]), 7, 80) := by kernel_rfl
theorem slP_zone : ∀ u ∈ (Value.cells (.agg #[.string ByteArray.empty, .int .i64 0, .int .i64 0, .int .i64 0, .int .i64 0, .slice none 0 0, .int .i64 0])).toList, u.oneCell' = true := by decide
/-- a row of this kind that the call owns -/
def NewP (n : Nat) (xs : List Value) (w : World) (e : Ending) (w' : World) : Prop := ∃ A c, e = .returned (.slice A n c) ∧ w'.ownsRow w.heap.size 183 7 (.slice A n c) n xs ∧ Below w.heap.size w w'


























abbrev SlAP := Option Addr × Nat × Nat × List Value
def slVP (s : SlAP) : Value := .slice s.1 s.2.1 s.2.2.1
def sumNP (ss : List SlAP) : Nat := (ss.map (·.2.1)).sum
theorem sumNP_take (ss : List SlAP) (k : Nat) (h : k < ss.length) : sumNP (ss.take (k + 1)) = sumNP (ss.take k) + (ss[k]'h).2.1 := by
  unfold sumNP
  rw [List.take_succ_eq_append_getElem h, List.map_append, List.sum_append]
  simp
theorem sumNP_le : ∀ (ss : List SlAP) (m : Nat), (∀ s ∈ ss, s.2.1 ≤ m) → sumNP ss ≤ ss.length * m
  | [], m, _ => by simp [sumNP]
  | s :: ss, m, h => by
    have := sumNP_le ss m (fun x hx => h x (List.mem_cons_of_mem _ hx))
    have h1 := h s (by simp)
    unfold sumNP at *
    simp only [List.map_cons, List.sum_cons, List.length_cons, Nat.succ_mul]
    omega


































































































/-- a row that was changed in place -/
def CutP (base g cap n : Nat) (xs : List Value) (w : World) (e : Ending) (w' : World) : Prop := e = .returned (.slice (some ⟨g, 0, none⟩) n cap) ∧ w'.ownsRow base 183 7 (.slice (some ⟨g, 0, none⟩) n cap) n xs ∧ w.grownBy w' (some g)


































































end Go.Proofs.YthimchhnhhchkaaGreatDoor

namespace Go.Proofs.YthimchhnhhchkaaGreatDoor
open Go.RowKit Go.Lib
set_option linter.unusedSimpArgs false
set_option linter.unusedVariables false

theorem Reads.of_blk {w : World} {g : Nat} {t : TypeId} {cs : Array Value} (h : Blk w g t cs) (size n : Nat) (hs : cs.size = n * size) : Reads w (g + 1) size (some ⟨g, 0, none⟩) n cs.toList := by
  refine ⟨by simpa using hs, fun _ => ⟨_, rfl, by simp, fun j u hj => ?_⟩⟩
  have hadd : (⟨g, 0, none⟩ : Addr).add j = ⟨g, j, none⟩ := by unfold Addr.add; split <;> simp_all
  rw [hadd, h.cell, ← hj]
  simp
theorem ret_slice {A : Option Addr} {n n' c : Nat} (h : n = n') : Ending.returned (.slice A n c) = .returned (.slice A n' c) := by rw [h]
theorem blk_row {w : World} {b : Nat} {t : TypeId} {vs : List Value} (h : Blk w b t vs.toArray) (j : Nat) (u : Value) (hj : vs[j]? = some u) : w.cell? ((⟨b, 0, none⟩ : Addr).add j) = some u := by
  have hadd : (⟨b, 0, none⟩ : Addr).add j = ⟨b, j, none⟩ := by unfold Addr.add; split <;> simp_all
  rw [hadd, h.cell, ← hj]
  simp
theorem slP_size : (Tryz.prog.info? 183).map (·.size) = some 7 := by
  obtain ⟨i0, hi, hz0, hz1, hz2⟩ := info_parts slP_info
  simp [hi, hz1]
theorem sizeOf_peer (w : World) : (Go.sizeOf 183).run Tryz.prog w = .ok 7 w := by
  obtain ⟨i0, hi, hz0, hz1, hz2⟩ := info_parts slP_info
  simp [Go.sizeOf, typeInfo, hi, hz1]
/-- slices.overlaps of rows in two blocks -/
theorem overlaps_no (w : World) (vb g off lb cb : Nat) (vs cur : Array Value) (hv : Blk w vb 183 vs) (hg : Blk w g 183 cur) (hne : vb ≠ g) (hc : cur.size ≠ 0) :
    (callFunc 194 #[.slice (some ⟨vb, 0, none⟩) 1 1, .slice (some ⟨g, off, none⟩) lb cb]).run Tryz.prog w = .ok (.value (.bool false)) w := by
  rw [run_callFunc_extern Tryz.func194 (by kernel_rfl) (by kernel_rfl) (by kernel_rfl) (e := Extern.SlicesOverlaps.overlaps #[164, 164] #[4]) (by kernel_rfl),
    Lib.run_overlaps_apart w 164 4 183 Tryz.underlying164 7 sizeOf_peer ⟨vb, 0, none⟩ ⟨g, off, none⟩ 1 1 lb cb hne 183 183 vs.size cur.size
      (by unfold Blk at hv; simp [World.shape?, hv]) (by unfold Blk at hg; simp [World.shape?, hg]) hc (hv.frozen 0) (hv.frozen _)]
  rfl
/-- a row with an element put in, new to the call or changed in place from block 'base' on -/
theorem own_row (A : Option Addr) (n c : Nat) : (Value.slice A n c).ownBlock = A.map (·.block) := by cases A <;> rfl
def Put1 (A0 : Option Addr) (base n : Nat) (xs : List Value) (w : World) (e : Ending) (w' : World) : Prop := ∃ A c, e = .returned (.slice A n c) ∧ w'.ownsRow base 183 7 (.slice A n c) n xs ∧ w.grownBy w' (A0.map (·.block))

set_option maxHeartbeats 2000000 in
set_option maxRecDepth 100000 in
theorem insert_end (base n vb : Nat) (A : Option Addr) (c : Nat) (xs vs : List Value) (hn : n ≤ 1000) (hone : ∀ u ∈ vs, u.oneCell' = true) (w : World) (hown : w.ownsRow base 183 7 (.slice A n c) n xs) (hv : Blk w vb 183 vs.toArray) (hvl : vs.length = 7) (hbase : base ≤ w.heap.size) :
    Calls Tryz.prog 163 #[.slice A n c, .int .i64 n, .slice (some ⟨vb, 0, none⟩) 1 1] w (Put1 A base (n + 1) (xs ++ vs) w) := by
  obtain ⟨i0, hi, hz0, hz1, hz2⟩ := info_parts slP_info
  have hcp := ownsRow_cap hown
  have hcm := hcp.2
  have hnc := hcp.1
  unfold maxLen at hcm
  have hr := Reads.of_blk hv 7 1 (by simp [hvl])
  simp at hr
  have HR := Lib.hid hr
  have HO := Lib.hid hown
  clear hr hown hv hcp
  have hz : ¬ ((1 : Int) = 0) := by omega
  go_enter Tryz.func163, Tryz.ntmps163
  go_wp2_with (at_builtin; refine wpList_append_any _ (by rfl) _ _ 164 rfl base 183 i0 _ 7 80 Tryz.underlying164 hi hz0 hz1 hz2 rfl (by decide) (.slice A n _) n xs rfl HO.out _ _ _ _ _ rfl HR.out hone (by unfold maxLen; omega) (by omega) hbase ?_; intro v' w3 hown3 hb3 _; obtain ⟨A3, c3, rfl⟩ := ownsRow_len hown3)
  all_goals
    rw [own_row] at hb3
    have HB3 := Lib.hid hb3
    have HO3 := Lib.hid hown3
    clear hb3 hown3
    go_ret
    exact ⟨A3, c3, rfl, HO3.out, HB3.out⟩

set_option maxHeartbeats 2000000 in
set_option maxRecDepth 100000 in
theorem insert_room (base g i d vb cap : Nat) (xs vs : List Value) (hd : 0 < d) (hroom : i + d + 1 ≤ cap) (hone : ∀ u ∈ xs, u.oneCell' = true) (honev : ∀ u ∈ vs, u.oneCell' = true) (w : World) (hown : w.ownsRow base 183 7 (.slice (some ⟨g, 0, none⟩) (i + d) cap) (i + d) xs) (hv : Blk w vb 183 vs.toArray) (hvl : vs.length = 7) (hne : vb ≠ g) :
    Calls Tryz.prog 163 #[.slice (some ⟨g, 0, none⟩) (i + d) cap, .int .i64 i, .slice (some ⟨vb, 0, none⟩) 1 1] w (Put1 (some ⟨g, 0, none⟩) base (i + d + 1) (xs.take (i * 7) ++ (vs ++ xs.drop (i * 7))) w) := by
  obtain ⟨i0, hi, hz0, hz1, hz2⟩ := info_parts slP_info
  have hcp := ownsRow_cap hown
  have hcm := hcp.2
  unfold maxLen at hcm
  have hxl := hown.1
  obtain ⟨cur, hg, hbg, hcs, htake⟩ : ∃ cur : Array Value, Blk w g 183 cur ∧ base ≤ g ∧ cur.size = cap * 7 ∧ cur.toList.take ((i + d) * 7) = xs := by
    rcases hown.2 with ⟨h, _⟩ | ⟨g', cap', cur, hv, h1, h2, h3, h4, h5, h6⟩
    · cases h
    · cases hv
      exact ⟨cur, h2, h1, h5, h6⟩
  have hcells := hown.cells (g := g) rfl
  have OV := Lib.hid (fun lb cb => overlaps_no w vb g ((i + 1) * 7) lb cb vs.toArray cur hv hg hne (by omega))
  have hdl : (xs.drop (i * 7)).length = d * 7 := by rw [List.length_drop, hxl]; omega
  have HY := Lib.hid (show ∀ j u, (xs.drop (i * 7))[j]? = some u → w.cell? ((⟨g, i * 7, none⟩ : Addr).add j) = some u by
    intro j u hj
    rw [List.getElem?_drop] at hj
    have := hcells _ u hj
    have hadd : ((⟨g, i * 7, none⟩ : Addr)).add j = (⟨g, 0, none⟩ : Addr).add (i * 7 + j) := by unfold Addr.add; (repeat' split) <;> simp_all
    rw [hadd]
    exact this)
  have HFIN := Lib.hid (show (splice (splice cur.toList ((i + 1) * 7) (xs.drop (i * 7))) (i * 7) vs).take ((i + d + 1) * 7) = xs.take (i * 7) ++ (vs ++ xs.drop (i * 7)) by
    have := splice_shift cur.toList (xs.drop (i * 7)) vs (i * 7) 7 hvl (by rw [hdl, Array.length_toList, hcs]; omega)
    rw [hdl, show i * 7 + 7 + d * 7 = (i + d + 1) * 7 by omega, show i * 7 + 7 = (i + 1) * 7 by omega] at this
    rw [this, ← htake, List.take_take, Nat.min_eq_left (by omega)])
  have HL := Lib.hid (show (xs.take (i * 7) ++ (vs ++ xs.drop (i * 7))).length = (i + d + 1) * 7 by simp only [List.length_append, hvl, hdl, List.length_take, hxl]; omega)
  have ONE := Lib.hid (show ∀ u ∈ xs.drop (i * 7), u.oneCell' = true from fun u hu => hone u (List.mem_of_mem_drop hu))
  have HDL := Lib.hid hdl
  have HCS := Lib.hid (show cur.toList.length = cap * 7 by rw [Array.length_toList]; exact hcs)
  have HG := Lib.hid (show w.heap[g]? = some (.cells cur.toList.toArray 183 (0, 0)) by have := hg; unfold Blk at this; simpa using this)
  have HV := Lib.hid hv
  have hvlt := hv.lt
  generalize xs.take (i * 7) ++ (vs ++ xs.drop (i * 7)) = ys at *
  generalize xs.drop (i * 7) = yd at *
  generalize cur.toList = curL at *
  clear hcells hown hcp hxl hg htake hcs hdl hone hv
  have b1 : (0 : Int) ≤ (i : Int) + 1 := by omega
  have b2 : (i : Int) + 1 ≤ (i : Int) + d + 1 := by omega
  have b3 : (i : Int) ≤ (i : Int) + d + 1 := by omega
  have b4 : ((i : Int) + 1).toNat = i + 1 := by omega
  have b5 : ((i : Int) + d + 1).toNat = i + d + 1 := by omega
  have b6 : (i : Int) + d + 1 ≤ cap := by omega
  have b7 : (0 : Int) ≤ (i : Int) + d + 1 := by omega
  have c1 : ¬ cap = i := by omega
  have c2 : ¬ cap = i + 1 := by omega
  have hne2 : ¬ ((i : Int) = (i : Int) + d) := by omega
  have hz : ¬ ((1 : Int) = 0) := by omega
  have w1 : IntKind.i64.wrap ((i : Int) + 1) = (i : Int) + 1 := by rw [IntKind.wrap_i64]; omega
  have hov := OV.out
  go_enter Tryz.func163, Tryz.ntmps163
  go_wp2_with (simp only [hov])
  have hS0 : Below 0 w w := Below.refl _ _
  go_region_held3 (fun w' => Below 0 w w') ((first | exact Below.mono hb4 (Nat.zero_le _) | exact Below.refl _ _ | exact (Below.refl _ _).drew)) ((refine step_copy_spliceN (by rfl) _ _ _ _ (by rfl) 183 7 Tryz.underlying164 slP_size (by decide) _ _ _ _ _ _ (by rfl) (by rfl) g ((i + 1) * 7) curL 183 HG.out yd (by rw [HDL.out]; congr 1; simp only [Nat.min_def]; split <;> omega) (fun _ => ⟨rfl, _, rfl, fun j u hj => HY.out j u hj⟩) (by rw [HDL.out, HCS.out]; omega) ONE.out base w (by first | exact Below.refl _ _ | exact (Below.refl _ _).drew) hbg ?_; intro w4 hg4 hb4 hgr4))
  all_goals
    have HV4 := Lib.hid (show Blk w4 vb 183 vs.toArray from (hgr4.block vb hvlt (by simpa using hne)).trans HV.out)
    have HC4 := Lib.hid (blk_row HV4.out)
    have G4 := Lib.hid hg4.out
    have B4 := Lib.hid hb4
    have R4 := Lib.hid (show w.grownBy w4 (some g) from ⟨hgr4.os, hgr4.tape, hgr4.output, hgr4.size, hgr4.block⟩)
    have hl4 := Lib.hid (show (splice curL ((i + 1) * 7) yd).length = cap * 7 by rw [length_splice _ _ _ (by rw [HDL.out, HCS.out]; omega), HCS.out])
    clear hgr4 hg4 hb4 hov
    go_wp2_with ((refine wpList_copy_spliceN (by rfl) _ _ _ _ (by rfl) 183 7 Tryz.underlying164 slP_size (by decide) _ _ _ _ _ _ (by rfl) (by rfl) g (i * 7) _ 183 G4.out vs (by rw [hvl]; simp only [Nat.min_def]; split <;> omega) (fun _ => ⟨rfl, _, rfl, HC4.out⟩) (by rw [hvl, hl4.out]; omega) honev base w B4.out hbg ?_); intro w5 hg5 hb5 hgr5)
    have G5 := Lib.hid hg5.out
    have R5 := Lib.hid (grownBy_trans R4.out hgr5)
    clear hg5 hb5 hgr5
    go_wp2
    go_ret
    refine ⟨some ⟨g, 0, none⟩, cap, rfl, ⟨HL.out, .inr ⟨g, cap, _, rfl, hbg, G5.out, hroom, by unfold maxLen; omega, ?_, ?_⟩⟩, R5.out⟩
    · rw [List.size_toArray, length_splice _ _ _ (by rw [hvl, hl4.out]; omega), hl4.out]
    · exact HFIN.out

end Go.Proofs.YthimchhnhhchkaaGreatDoor

namespace Go.Proofs.YthimchhnhhchkaaGreatDoor
open Go.RowKit Go.Lib
set_option linter.unusedSimpArgs false
set_option linter.unusedVariables false

set_option maxHeartbeats 3000000 in
set_option maxRecDepth 100000 in
theorem insert_grow (base i d vb cap : Nat) (A : Option Addr) (xs vs : List Value) (hd : 0 < d) (hm : i + d ≤ 1000) (hno : ¬ i + d + 1 ≤ cap) (hone : ∀ u ∈ xs, u.oneCell' = true) (honev : ∀ u ∈ vs, u.oneCell' = true) (w : World) (hown : w.ownsRow base 183 7 (.slice A (i + d) cap) (i + d) xs) (hv : Blk w vb 183 vs.toArray) (hvl : vs.length = 7) (hbase : base ≤ w.heap.size) :
    Calls Tryz.prog 163 #[.slice A (i + d) cap, .int .i64 i, .slice (some ⟨vb, 0, none⟩) 1 1] w (Put1 A base (i + d + 1) (xs.take (i * 7) ++ (vs ++ xs.drop (i * 7))) w) := by
  obtain ⟨i0, hi, hz0, hz1, hz2⟩ := info_parts slP_info
  obtain ⟨g, c', hva, hgb, hgl, hnc, hcm, hcells⟩ := ownsRow_at hown (by omega)
  injection hva with hva hvb hvc
  subst hva hvc
  clear hvb
  obtain rfl : cap = i + d := by omega
  unfold maxLen at hcm
  have hxl := hown.1
  have hdl : (xs.drop (i * 7)).length = d * 7 := by rw [List.length_drop, hxl]; omega
  have htl : (xs.take (i * 7)).length = i * 7 := by rw [List.length_take, hxl]; omega
  have hge := grownCap_ge w (i + (d + 1)) (i + d) 183
  have hle := grownCap_le_maxLen w (i + (d + 1)) (i + d) 183 (by unfold maxLen; omega)
  have hrz : ∀ ty, (Builtin.append_ #[164, 3] ty #[.slice (some ⟨g, 0, none⟩) i (i + d), .int .i64 ((d + 1 : Nat) : Int)]).run Tryz.prog w = _ := fun ty =>
    run_append_grow_zeros w 164 3 ty 183 i0 _ .i64 .i64 Tryz.underlying164 Tryz.underlying3 hi hz0 (some ⟨g, 0, none⟩) i (i + d) (xs.take (i * 7))
      (run_firstCells_some w.drew i0.size i ⟨g, 0, none⟩ i (i + d) _ (by rw [htl, hz1]) (fun j u hj => by
        have hadd : (⟨g, 0, none⟩ : Addr).add j = ⟨g, j, none⟩ := by (unfold Addr.add; split <;> simp_all)
        rw [hadd]
        rw [List.getElem?_take] at hj
        split at hj
        · exact hcells j u hj
        · cases hj)) (d + 1) (by omega) (by rw [hz1]; decide) (by omega) (by omega) (by rw [hz2]; omega) (growslice_fits (by omega) (by rw [hz2]; omega))
  rw [show i + (d + 1) = i + d + 1 from rfl] at hge hle
  simp only [show i + (d + 1) = i + d + 1 from rfl] at hrz
  generalize grownCap w (i + d + 1) (i + d) 183 = G at *
  obtain ⟨zs, hzs⟩ : ∃ zs : Array Value, zs = (xs.take (i * 7)).toArray ++ Builtin.zeroCells (Value.cells (.agg #[.string ByteArray.empty, .int .i64 0, .int .i64 0, .int .i64 0, .int .i64 0, .slice none 0 0, .int .i64 0])) (d + 1) ++ Builtin.zeroCells (Value.cells (.agg #[.string ByteArray.empty, .int .i64 0, .int .i64 0, .int .i64 0, .int .i64 0, .slice none 0 0, .int .i64 0])) (G - (i + d + 1)) := ⟨_, rfl⟩
  rw [← hzs] at hrz
  have hzl : zs.toList.length = G * 7 := by
    rw [hzs, Array.length_toList]
    simp only [Array.size_append, size_zeroCells, List.size_toArray, htl]
    rw [show (Value.cells (.agg #[.string ByteArray.empty, .int .i64 0, .int .i64 0, .int .i64 0, .int .i64 0, .slice none 0 0, .int .i64 0])).size = 7 from rfl]
    omega
  have hzt : zs.toList.take (i * 7) = xs.take (i * 7) := by
    rw [hzs, Array.toList_append, Array.toList_append, List.append_assoc]
    exact List.take_left' htl
  have HFIN := Lib.hid (show (splice (splice zs.toList (i * 7) vs) ((i + 1) * 7) (xs.drop (i * 7))).take ((i + d + 1) * 7) = xs.take (i * 7) ++ (vs ++ xs.drop (i * 7)) by
    have := splice_two zs.toList (xs.drop (i * 7)) vs (i * 7) 7 hvl (by rw [hdl, hzl]; omega)
    rw [hdl, show i * 7 + 7 + d * 7 = (i + d + 1) * 7 by omega, show i * 7 + 7 = (i + 1) * 7 by omega] at this
    rw [this, hzt])
  have HL := Lib.hid (show (xs.take (i * 7) ++ (vs ++ xs.drop (i * 7))).length = (i + d + 1) * 7 by simp only [List.length_append, hvl, hdl, htl]; omega)
  have ONE := Lib.hid (show ∀ u ∈ xs.drop (i * 7), u.oneCell' = true from fun u hu => hone u (List.mem_of_mem_drop hu))
  have HDL := Lib.hid hdl
  have HCS := Lib.hid hzl
  have HG := Lib.hid (show (w.drew.alloc (.cells zs 183)).heap[w.heap.size]? = some (.cells zs.toList.toArray 183 (0, 0)) by have := heap_alloc_new w.drew (.cells zs 183); simpa using this)
  have HV := Lib.hid (show Blk (w.drew.alloc (.cells zs 183)) vb 183 vs.toArray from hv.drew.alloc _)
  have hvlt := hv.lt
  have HY := Lib.hid (show ∀ j u, (xs.drop (i * 7))[j]? = some u → (w.drew.alloc (.cells zs 183)).cell? ((⟨g, i * 7, none⟩ : Addr).add j) = some u by
    intro j u hj
    rw [List.getElem?_drop] at hj
    have hadd : ((⟨g, i * 7, none⟩ : Addr)).add j = ⟨g, i * 7 + j, none⟩ := by unfold Addr.add; split <;> simp_all
    rw [hadd, World.cell?_alloc_lt w.drew _ _ (by exact hgl)]
    exact hcells _ u hj)
  rw [show ((d + 1 : Nat) : Int) = (i : Int) + d + 1 - i by omega] at hrz
  have HRZ := Lib.hid hrz
  generalize xs.take (i * 7) ++ (vs ++ xs.drop (i * 7)) = ys at *
  generalize xs.drop (i * 7) = yd at *
  clear hzs hzl hzt hcells hown hxl hdl htl hone hv hrz
  generalize zs.toList = curL at *
  have b0 : (d : Int) + 1 = ((d + 1 : Nat) : Int) := by omega
  have hne2 : ¬ ((i : Int) = (i : Int) + d) := by omega
  have hz : ¬ ((1 : Int) = 0) := by omega
  have c0 : ¬ (d = 0) := by omega
  have c1 : ¬ (G = i) := by omega
  have c2 : ¬ (G = i + 1) := by omega
  have b1 : (i : Int) ≤ (i : Int) + d + 1 := by omega
  have b2 : (0 : Int) ≤ (i : Int) + 1 := by omega
  have b3 : (i : Int) + 1 ≤ (i : Int) + d + 1 := by omega
  have b4 : ((i : Int) + 1).toNat = i + 1 := by omega
  have b5 : (0 : Int) ≤ (i : Int) := by omega
  have b6 : (i : Int) ≤ (i : Int) + d := by omega
  have b7 : ((i : Int)).toNat = i := by omega
  have w1 : IntKind.i64.wrap ((i : Int) + 1) = (i : Int) + 1 := by rw [IntKind.wrap_i64]; omega
  have HC := Lib.hid (blk_row HV.out)
  go_enter Tryz.func163, Tryz.ntmps163
  go_wp2_with (first
    | (at_builtin; refine Lib.wpList_append_run _ rfl _ _ _ _ rfl _ _ rfl rfl _ _ (HRZ.out _) ?_)
    | (refine wpList_copy_spliceN (by rfl) _ _ _ _ (by rfl) 183 7 Tryz.underlying164 slP_size (by decide) _ _ _ _ _ _ (by rfl) (by rfl) w.heap.size (i * 7) curL 183 HG.out vs (by rw [hvl]; simp only [Nat.min_def]; split <;> omega) (fun _ => ⟨rfl, _, rfl, HC.out⟩) (by rw [hvl, HCS.out]; omega) honev base w (by first | exact ((Below.refl base w).drew.alloc hbase _) | exact ((Below.refl base w).alloc hbase _).drew) hbase ?_; intro w5 hg5 hb5 hgr5))
  all_goals
    have G5 := Lib.hid hg5.out
    have B5 := Lib.hid hb5
    have hl5 := Lib.hid (show (splice curL (i * 7) vs).length = G * 7 by rw [length_splice _ _ _ (by rw [hvl, HCS.out]; omega), HCS.out])
    have HY5 := Lib.hid (show ∀ j u, yd[j]? = some u → w5.cell? ((⟨g, i * 7, none⟩ : Addr).add j) = some u from fun j u hj => by
      have h := HY.out j u hj
      have hq := hgr5.block g (by simp; omega) (by simp; omega)
      rw [World.cell?_of_block (w := w.drew.alloc (.cells zs 183)) (by rw [block_of_add]; exact hq)]
      exact h)
    have R5 := Lib.hid (show w.grownBy w5 (some g) from ⟨hgr5.os, hgr5.tape, hgr5.output, Nat.le_trans (by simp) hgr5.size, fun k hk hn => (hgr5.block k (by simp; omega) (by simp; omega)).trans (Below.heap_alloc w.drew _ k hk)⟩)
    clear hg5 hb5 hgr5
    have hS0 : Below 0 w w5 := Below.mono B5.out (Nat.zero_le _)
    go_region_held3 (fun w' => Below 0 w w') ((first | exact Below.mono hb6 (Nat.zero_le _) | exact hS0 | exact hS0.drew)) ((refine step_copy_spliceN (by rfl) _ _ _ _ (by rfl) 183 7 Tryz.underlying164 slP_size (by decide) _ _ _ _ _ _ (by rfl) (by rfl) w.heap.size ((i + 1) * 7) _ 183 G5.out yd (by rw [HDL.out]; congr 1; simp only [Nat.min_def]; split <;> omega) (fun _ => ⟨rfl, _, rfl, fun j u hj => HY5.out j u hj⟩) (by rw [HDL.out, hl5.out]; omega) ONE.out base w (by first | exact B5.out | exact B5.out.drew) hbase ?_; intro w6 hg6 hb6 hgr6))
    all_goals
      have G6 := Lib.hid hg6.out
      have R6 := Lib.hid (show w.grownBy w6 (some g) from ⟨hgr6.os.trans R5.out.os, hgr6.tape.trans R5.out.tape, hgr6.output.trans R5.out.output, Nat.le_trans R5.out.size hgr6.size, fun k hk hn => (hgr6.block k (Nat.lt_of_lt_of_le hk R5.out.size) (by simp; omega)).trans (R5.out.block k hk hn)⟩)
      clear hg6 hb6 hgr6
      go_wp2
      go_ret
      refine ⟨some ⟨w.heap.size, 0, none⟩, G, rfl, ⟨HL.out, .inr ⟨w.heap.size, G, _, rfl, hbase, G6.out, by omega, hle, ?_, HFIN.out⟩⟩, R6.out⟩
      rw [List.size_toArray, length_splice _ _ _ (by rw [HDL.out, hl5.out]; omega), hl5.out]
end Go.Proofs.YthimchhnhhchkaaGreatDoor

namespace Go.Proofs.YthimchhnhhchkaaGreatDoor
open Go.RowKit Go.Lib
set_option linter.unusedSimpArgs false
set_option linter.unusedVariables false

theorem slS_info : (Tryz.prog.info? 187).map (fun i => (i.zero, i.size, i.bytes)) = some (some (.agg #[.string ByteArray.empty, .int .i64 0, .bool false]), 3, 32) := by kernel_rfl
theorem slS_zone : ∀ u ∈ (Value.cells (.agg #[.string ByteArray.empty, .int .i64 0, .bool false])).toList, u.oneCell' = true := by decide
/-- a row of this kind that the call owns -/
def NewS (n : Nat) (xs : List Value) (w : World) (e : Ending) (w' : World) : Prop := ∃ A c, e = .returned (.slice A n c) ∧ w'.ownsRow w.heap.size 187 3 (.slice A n c) n xs ∧ Below w.heap.size w w'


























abbrev SlAS := Option Addr × Nat × Nat × List Value
def slVS (s : SlAS) : Value := .slice s.1 s.2.1 s.2.2.1
def sumNS (ss : List SlAS) : Nat := (ss.map (·.2.1)).sum
theorem sumNS_take (ss : List SlAS) (k : Nat) (h : k < ss.length) : sumNS (ss.take (k + 1)) = sumNS (ss.take k) + (ss[k]'h).2.1 := by
  unfold sumNS
  rw [List.take_succ_eq_append_getElem h, List.map_append, List.sum_append]
  simp
theorem sumNS_le : ∀ (ss : List SlAS) (m : Nat), (∀ s ∈ ss, s.2.1 ≤ m) → sumNS ss ≤ ss.length * m
  | [], m, _ => by simp [sumNS]
  | s :: ss, m, h => by
    have := sumNS_le ss m (fun x hx => h x (List.mem_cons_of_mem _ hx))
    have h1 := h s (by simp)
    unfold sumNS at *
    simp only [List.map_cons, List.sum_cons, List.length_cons, Nat.succ_mul]
    omega


































































































/-- a row that was changed in place -/
def CutS (base g cap n : Nat) (xs : List Value) (w : World) (e : Ending) (w' : World) : Prop := e = .returned (.slice (some ⟨g, 0, none⟩) n cap) ∧ w'.ownsRow base 187 3 (.slice (some ⟨g, 0, none⟩) n cap) n xs ∧ w.grownBy w' (some g)


































































end Go.Proofs.YthimchhnhhchkaaGreatDoor
