/- slices.Equal and slices.Clone over ints. (with what it needs) -/
import Derived.Test.YthimchhnhhchkaaGreatDoorM04
import Derived.Laws.OwnMore
namespace Go.Proofs.YthimchhnhhchkaaGreatDoor
open Go.RowKit
set_option linter.unusedSimpArgs false
set_option linter.unusedVariables false

theorem take_eq_step {l m : List Int} {k : Nat} (hl : k < l.length) (hm : k < m.length) (h : l.take k = m.take k) (he : l.getD k 0 = m.getD k 0) : l.take (k + 1) = m.take (k + 1) := by
  rw [List.take_add_one, List.take_add_one, h, List.getElem?_eq_getElem hl, List.getElem?_eq_getElem hm]
  simp [List.getD, List.getElem?_eq_getElem hl, List.getElem?_eq_getElem hm] at he
  rw [he]
theorem ne_at {l m : List Int} {k : Nat} (he : l.getD k 0 ≠ m.getD k 0) : l ≠ m := fun h => he (by rw [h])



























































































end Go.Proofs.YthimchhnhhchkaaGreatDoor

namespace Go.Proofs.YthimchhnhhchkaaGreatDoor
open Go.RowKit
set_option linter.unusedSimpArgs false
set_option linter.unusedVariables false

theorem int_info : (Tryz.prog.info? 3).map (fun i => (i.zero, i.size, i.bytes)) = some (some (.int .i64 0), 1, 8) := by kernel_rfl
theorem oneCell_ints (l : List Int) : ∀ u ∈ cellsI l, u.oneCell' = true := by
  intro u hu
  obtain ⟨x, _, rfl⟩ := List.mem_map.1 hu
  rfl
/-- a new list of numbers, in memory of the call's own -/
def NewInts (l : List Int) (w : World) (e : Ending) (w' : World) : Prop := ∃ A c, e = .returned (.slice A l.length c) ∧ w'.ownsRow w.heap.size 3 1 (.slice A l.length c) l.length (cellsI l) ∧ Below w.heap.size w w'

set_option maxRecDepth 100000 in
set_option maxHeartbeats 1000000 in
theorem clone_any (A : Option Addr) (c B n : Nat) (l : List Int) (hn : l.length = n) (h64 : n ≤ 100000) (w : World) (hr : Reads w B 1 A n (cellsI l)) (hB : B ≤ w.heap.size) :
    Calls Tryz.prog 196 #[.slice A n c] w (NewInts l w) := by
  have HN := Lib.hid hn
  have HR := Lib.hid hr
  have HBB := Lib.hid hB
  rcases A with _ | ad
  · have hl : l = [] := by
      rcases Nat.eq_zero_or_pos n with h | h
      · exact List.eq_nil_of_length_eq_zero (by omega)
      · obtain ⟨ad, h', _⟩ := hr.2 h; cases h'
    subst hl
    obtain rfl : n = 0 := hn.symm
    have hnil := fun w => Lib.run_eql_slice_nil (P := Tryz.prog) w 84 3 none 0 c 0 0 Tryz.underlying84
    clear hr hB h64
    go_enter Tryz.func196, Tryz.ntmps196
    go_wp2
    go_ret
    exact ⟨none, 0, rfl, World.ownsRow_nil _ _ _ _, Below.refl _ _⟩
  · have hnil := fun w => Lib.run_eql_slice_nil (P := Tryz.prog) w 84 3 (some ad) n c 0 0 Tryz.underlying84
    obtain ⟨i0, hi, hz0, hz1, hz2⟩ := info_parts int_info
    have hown : (w.alloc (.cells #[] 3)).ownsRow w.heap.size 3 1 (.slice (some ⟨w.heap.size, 0, none⟩) 0 0) 0 [] :=
      ⟨rfl, .inr ⟨w.heap.size, 0, #[], rfl, Nat.le_refl _, heap_alloc_new w _, Nat.le_refl _, by unfold maxLen; omega, rfl, rfl⟩⟩
    have HO := Lib.hid hown
    have HRA := Lib.hid (hr.alloc hB (.cells #[] 3))
    clear hn hr hB hown
    go_enter Tryz.func196, Tryz.ntmps196
    go_wp2_with (at_builtin; refine wpList_appN _ rfl _ _ 84 rfl w.heap.size 3 i0 (.int .i64 0) 1 8 Tryz.underlying84 hi hz0 hz1 hz2 rfl (by decide) _ _ _ rfl HO.out _ _ _ _ _ rfl HRA.out (oneCell_ints l) ?c1 ?c2 ?c3 ?_)
    case c1 => unfold maxLen; omega
    case c2 => omega
    case c3 => simp
    intro v' w2 hown2 hb2
    obtain ⟨A2, c2, rfl⟩ := ownsRow_len hown2
    go_wp2
    go_ret
    have hl : n = l.length := HN.out.symm
    refine ⟨A2, c2, by rw [← hl]; rfl, ?_, ((Below.refl _ _).alloc (Nat.le_refl _) _).trans hb2⟩
    rw [← hl]
    simpa using hown2
end Go.Proofs.YthimchhnhhchkaaGreatDoor

namespace Go.Proofs.YthimchhnhhchkaaGreatDoor
open Go.RowKit
set_option linter.unusedSimpArgs false
set_option linter.unusedVariables false



















end Go.Proofs.YthimchhnhhchkaaGreatDoor

namespace Go.Proofs.YthimchhnhhchkaaGreatDoor
open Go.RowKit
set_option linter.unusedSimpArgs false
set_option linter.unusedVariables false

def NewIntsB (l : List Int) (b : Nat) (w : World) (e : Ending) (w' : World) : Prop := ∃ A c, e = .returned (.slice A l.length c) ∧ w'.ownsRow b 3 1 (.slice A l.length c) l.length (cellsI l) ∧ Below w.heap.size w w'
theorem reads_new (w : World) (t : TypeId) (x : Int) : Reads (w.alloc (.cells #[.int .i64 x] t)) (w.heap.size + 1) 1 (some ⟨w.heap.size, 0, none⟩) 1 (cellsI [x]) :=
  ⟨rfl, fun _ => ⟨_, rfl, by simp, fun j u hj => by
    match j, hj with
    | 0, hj => simp [cellsI] at hj; subst hj; exact (Blk.new w t #[.int .i64 x]).cell 0⟩⟩

def cellV (w : World) (a : Addr) : Value := (w.cell? a).getD undef
/-- what stays while the result's block (g, two cells) is waited for: w0 is as it was, the blocks below b0 too, the cell a holds u -/
def Core (w0 : World) (b0 : Nat) (a : Addr) (u : Value) (g : Nat) (t : TypeId) (w' : World) : Prop :=
  Below w0.heap.size w0 w' ∧ b0 ≤ w'.heap.size ∧ w'.cell? a = some u ∧ ∃ cs, cs.size = 2 ∧ Blk w' g t cs
section
variable {w0 w' w'' : World} {b0 g : Nat} {a : Addr} {u : Value} {t : TypeId}
theorem Core.next (h : Core w0 b0 a u g t w') (h0 : w0.heap.size ≤ b0) (ha : a.block < b0) (hg : g < b0) (hb : Below b0 w' w'') : Core w0 b0 a u g t w'' := by
  obtain ⟨h1, h2, h3, cs, h4, h5⟩ := h
  exact ⟨h1.trans (hb.mono h0), Nat.le_trans h2 hb.size, (hb.cell ha).trans h3, cs, h4, h5.below hb hg⟩
theorem Core.set_ (h : Core w0 b0 a u g t w') (hg0 : w0.heap.size ≤ g) (ha : a.block ≠ g) (i : Nat) (v : Value) : Core w0 b0 a u g t (w'.setCell ⟨g, i, none⟩ v) := by
  obtain ⟨h1, h2, h3, cs, h4, h5⟩ := h
  exact ⟨h1.setCell hg0 _, by simpa using h2, (World.cell?_setCell_other w' ⟨g, i, none⟩ a v (fun e => ha (by rw [← e]))).trans h3, _, by simpa using h4, h5.set_ i v⟩
theorem Core.facts (h : Core w0 b0 a u g t w') : Core w0 b0 a u g t w' ∧ w'.cell? a = some u ∧ w'.cell? ⟨g, 0, none⟩ = some (cellV w' ⟨g, 0, none⟩) ∧ w'.cell? ⟨g, 1, none⟩ = some (cellV w' ⟨g, 1, none⟩) ∧ w'.frozen? ⟨g, 0, none⟩ = false ∧ w'.frozen? ⟨g, 1, none⟩ = false := by
  have h' := h
  obtain ⟨h1, h2, h3, cs, h4, h5⟩ := h
  have e0 : w'.cell? ⟨g, 0, none⟩ = some (cs[0]'(by omega)) := (h5.cell 0).trans (by simp [h4])
  have e1 : w'.cell? ⟨g, 1, none⟩ = some (cs[1]'(by omega)) := (h5.cell 1).trans (by simp [h4])
  exact ⟨h', h3, by unfold cellV; rw [e0]; rfl, by unfold cellV; rw [e1]; rfl, h5.frozen 0, h5.frozen 1⟩
end
theorem wval_is (x : Int) (b : Bool) (h : wi x 0 16777216 = b) (w : World) :
    Calls Tryz.prog 132 #[.int .i64 x] w fun e w' => e = .returned (.bool b) ∧ w = w' := by
  subst h; exact lval_any x w
def PushIs (cap : Int) (l : List Int) (n : Nat) (w : World) (e : Ending) (w' : World) : Prop :=
  ∃ A c, e = .returned (.tuple #[.agg #[.int .i64 cap, .slice A n c], .int .i64 0]) ∧ w'.ownsRow w.heap.size 3 1 (.slice A n c) n (cellsI l) ∧ Below w.heap.size w w'

set_option maxRecDepth 100000 in
set_option maxHeartbeats 4000000 in
theorem push_tail (cap x : Int) (A : Option Addr) (c B n : Nat) (l : List Int) (hn : l.length = n) (hc : n ≤ c) (hm : c ≤ maxLen) (hcap : winE cap l = 0) (hlt : (n : Int) < cap) (hx : wi x 0 16777216 = true) (w : World) (hr : Reads w B 1 A n (cellsI l)) (hB : B ≤ w.heap.size) :
    Calls Tryz.prog 171 #[.agg #[.int .i64 cap, .slice A n c], .int .i64 x] w (PushIs cap (l ++ [x]) (n + 1) w) := by
  obtain ⟨i0, hi, hz0, hz1, hz2⟩ := info_parts int_info
  obtain ⟨c0, c1, c2, c3⟩ := winE_zero hcap
  have h64 : n ≤ 64 := by omega
  have HN := Lib.hid hn
  have HE := Lib.hid hcap
  have HR := Lib.hid hr
  have HB := Lib.hid hB
  have HX := Lib.hid hx
  have hne : ((n : Int) == cap) = false := by simp; omega
  have E := Lib.hid (((Env.start w).lay #[.int .i64 cap, .slice A n c] 97).lay #[.int .i64 0, .slice none 0 0] 97)
  clear hn hr hB hcap c3 hx
  go_enter Tryz.func171, Tryz.ntmps171
  go_wp2_with fail
  refine (wchk_is cap A c B n l HN.out 0 HE.out (by omega) _ (HR.out.below E.out.bel HB.out) (Nat.le_trans HB.out E.out.bel.size)).mono ?_
  rintro e' w1 ⟨rfl, hb1⟩
  have E1 := Lib.hid (E.out.below hb1)
  clear hb1
  have p0 := E1.out.hd.lt
  have b0 := E1.out.hd.cell 0
  have b1 := E1.out.hd.cell 1
  have f0 := E1.out.hd.frozen 0
  have f1 := E1.out.hd.frozen 1
  have a0 := E1.out.tl.hd.cell 0
  have a1 := E1.out.tl.hd.cell 1
  simp at a0 a1 b0 b1 p0 f0 f1
  go_wp2_with (go_at_call 132; refine (wval_is _ true HX.out _).mono ?_; rintro e' w' ⟨rfl, rfl⟩)
  have HCL := Lib.hid (show ∀ w', Core w w1.heap.size ⟨w.heap.size, 0, none⟩ (.int .i64 cap) (w.heap.size + 1) 97 w' → Calls Tryz.prog 196 #[.slice A n c] w' (NewIntsB l w1.heap.size w')
    from fun w' hb => (clone_any A c B n l HN.out (by omega) w' (HR.out.below hb.1 HB.out) (Nat.le_trans HB.out hb.1.size)).mono fun e w'' ⟨A2, c2, h1, h2, h3⟩ => ⟨A2, c2, h1, ownsRow_base h2 hb.2.1, h3⟩)
  have HRE := Lib.hid (fun w' => reads_new w' 3 x)
  have HO1 := Lib.hid (oneCell_ints [x])
  have HL := Lib.hid (show l.length = n from HN.out)
  have HNX := Lib.hid (show ∀ w' w'', Core w w1.heap.size ⟨w.heap.size, 0, none⟩ (.int .i64 cap) (w.heap.size + 1) 97 w' → Below w1.heap.size w' w'' → Core w w1.heap.size ⟨w.heap.size, 0, none⟩ (.int .i64 cap) (w.heap.size + 1) 97 w'' from fun w' w'' h hb => h.next (by omega) (by simp; omega) (by omega) hb)
  have HST := Lib.hid (show ∀ w' i v, Core w w1.heap.size ⟨w.heap.size, 0, none⟩ (.int .i64 cap) (w.heap.size + 1) 97 w' → Core w w1.heap.size ⟨w.heap.size, 0, none⟩ (.int .i64 cap) (w.heap.size + 1) 97 (w'.setCell ⟨w.heap.size + 1, i, none⟩ v) from fun w' i v h => h.set_ (by omega) (by simp) i v)
  have HC0 := Lib.hid (show Core w w1.heap.size ⟨w.heap.size, 0, none⟩ (.int .i64 cap) (w.heap.size + 1) 97 w1 from ⟨E1.out.bel, Nat.le_refl _, a0, _, rfl, by simpa using E1.out.hd⟩)
  clear a0 a1 b0 b1 f0 f1
  go_region_held3 (fun w' => Core w w1.heap.size ⟨w.heap.size, 0, none⟩ (.int .i64 cap) (w.heap.size + 1) 97 w' ∧ w'.cell? ⟨w.heap.size, 0, none⟩ = some (.int .i64 cap) ∧ w'.cell? ⟨w.heap.size + 1, 0, none⟩ = some (cellV w' ⟨w.heap.size + 1, 0, none⟩) ∧ w'.cell? ⟨w.heap.size + 1, 1, none⟩ = some (cellV w' ⟨w.heap.size + 1, 1, none⟩) ∧ w'.frozen? ⟨w.heap.size + 1, 0, none⟩ = false ∧ w'.frozen? ⟨w.heap.size + 1, 1, none⟩ = false)
    ((refine Core.facts ?_; first | exact HNX.out _ _ HC0.out (Below.refl _ _).drew | exact HST.out _ _ _ (HST.out _ _ _ (And.left (by assumption))) | exact HNX.out _ _ (And.left (by assumption)) (Below.mono hb4 (And.left (And.right (And.left (by assumption))))) | exact HNX.out _ _ (And.left (by assumption)) hb9 | exact HNX.out _ _ (And.left (by assumption)) ((Below.refl _ _).alloc (And.left (And.right (And.left (by assumption)))) _)))
    (first
      | (go_at_call 196; refine (HCL.out _ (by exact And.left (by assumption))).mono ?_; rintro e' w4 ⟨A4, c4, rfl, hown4, hb4⟩)
      | ((refine step_appN (by rfl) _ _ _ (by rfl) w1.heap.size 3 i0 (.int .i64 0) 1 8 Tryz.underlying84 hi hz0 hz1 hz2 rfl (by decide) _ _ _ (by rfl) (hown4.alloc _) _ _ _ _ _ (by rfl) (HRE.out _) HO1.out (by unfold maxLen; have := HL.out; omega) (by have := HL.out; omega) (by exact And.left (And.right (And.left (by assumption)))) ?_; intro v9 w9 hown9 hb9; obtain ⟨A9, c9, rfl⟩ := ownsRow_len hown9; have hcore9 := HNX.out _ _ (And.left (by assumption)) hb9))
      | ((refine step_appN (by rfl) _ _ _ (by rfl) w1.heap.size 3 i0 (.int .i64 0) 1 8 Tryz.underlying84 hi hz0 hz1 hz2 rfl (by decide) _ _ _ (by rfl) hown4 _ _ _ _ _ (by rfl) ((HRE.out _).drew.below hb4 (by simp)) HO1.out (by unfold maxLen; have := HL.out; omega) (by have := HL.out; omega) (by exact And.left (And.right (And.left (by assumption)))) ?_; intro v9 w9 hown9 hb9; obtain ⟨A9, c9, rfl⟩ := ownsRow_len hown9; have hcore9 := HNX.out _ _ (And.left (by assumption)) hb9)))
  all_goals
    rename_i hheld
    have hc0 : w9.cell? ⟨w.heap.size + 1, 0, none⟩ = some (cellV w9 ⟨w.heap.size + 1, 0, none⟩) := (Core.facts hcore9).2.2.1
    have hc1 : w9.cell? ⟨w.heap.size + 1, 1, none⟩ = some (cellV w9 ⟨w.heap.size + 1, 1, none⟩) := (Core.facts hcore9).2.2.2.1
    have hbel := hheld.1.1
    have HBL := Lib.hid hbel
    have HO9 := Lib.hid hown9
    clear hheld hown9 hbel hcore9
    go_wp2
    refine bodyPost_ret (v := .tuple #[.agg #[.int .i64 cap, .slice A9 (l.length + 1) c9], .int .i64 0]) (by simp [results, Tryz.results171, go_sem, hc0, hc1]) rfl ?_
    have h9 := ownsRow_base (ownsRow_setCell (ownsRow_setCell HO9.out (a := ⟨w.heap.size + 1, 0, none⟩) (by simp; omega) (.int .i64 cap)) (a := ⟨w.heap.size + 1, 1, none⟩) (by simp; omega) (.slice A9 (l.length + 1) c9)) (by omega : w.heap.size ≤ w1.heap.size)
    refine ⟨A9, c9, by rw [HL.out], ?_, HBL.out⟩
    have e : cellsI (l ++ [x]) = cellsI l ++ cellsI [x] := by simp [cellsI]
    rw [HL.out] at h9 ⊢
    rw [e]
    exact h9
set_option maxRecDepth 100000 in
set_option maxHeartbeats 4000000 in
theorem push_full (x y : Int) (A : Option Addr) (B m d : Nat) (l : List Int) (hn : l.length = m) (hd : 1 ≤ d) (hc : m ≤ d) (hm : d + 1 ≤ maxLen) (hcap : winE ((m : Int) + 1) (y :: l) = 0) (hx : wi x 0 16777216 = true) (w : World) (hr : Reads w B 1 A (m + 1) (cellsI (y :: l))) (hB : B ≤ w.heap.size) :
    Calls Tryz.prog 171 #[.agg #[.int .i64 ((m : Int) + 1), .slice A (m + 1) (d + 1)], .int .i64 x] w (PushIs ((m : Int) + 1) (l ++ [x]) (m + 1) w) := by
  obtain ⟨i0, hi, hz0, hz1, hz2⟩ := info_parts int_info
  obtain ⟨c0, c1, c2, c3⟩ := winE_zero hcap
  obtain ⟨g0, off, rfl, hg, hcells⟩ := hr.addr (by omega)
  have h64 : m ≤ 64 := by omega
  have HN := Lib.hid hn
  have HE := Lib.hid hcap
  have htail : ∀ A', (m = 0 ∨ A' = some ⟨g0, off + 1, none⟩) → Reads w B 1 A' m (cellsI l) := by
    rintro A' h
    refine ⟨by simp [cellsI, hn], fun hn0 => ?_⟩
    rcases h with h | rfl
    · omega
    · refine ⟨_, rfl, hg, fun j u hu => ?_⟩
      have := hcells (j + 1) u (by simpa [cellsI] using hu)
      by_cases hj : j = 0
      · subst hj; simpa [Addr.add] using this
      · simpa [Addr.add, hj, Nat.add_assoc, Nat.add_comm 1] using this
  have HR0 := Lib.hid hr
  have HR := Lib.hid (htail (some ⟨g0, off + 1, none⟩) (.inr rfl))
  have HB := Lib.hid hB
  have HX := Lib.hid hx
  have hne : ((m : Int) + 1 == (m : Int) + 1) = true := by simp
  have hd2 : ¬ ((d : Int) + 1 = 1) := by omega
  have E := Lib.hid (((Env.start w).lay #[.int .i64 ((m : Int) + 1), .slice (some ⟨g0, off, none⟩) (m + 1) (d + 1)] 97).lay #[.int .i64 0, .slice none 0 0] 97)
  clear hr hB hcap c3 hx hg hcells htail
  have HN' := Lib.hid (show (y :: l).length = m + 1 by simp [hn])
  clear hn
  go_enter Tryz.func171, Tryz.ntmps171
  go_wp2_with fail
  refine (wchk_is ((m : Int) + 1) _ _ B _ (y :: l) HN'.out 0 HE.out (by unfold maxLen; omega) _ (HR0.out.below E.out.bel HB.out) (Nat.le_trans HB.out E.out.bel.size)).mono ?_
  rintro e' w1 ⟨rfl, hb1⟩
  have E1 := Lib.hid (E.out.below hb1)
  clear hb1
  have p0 := E1.out.hd.lt
  have b0 := E1.out.hd.cell 0
  have b1 := E1.out.hd.cell 1
  have f0 := E1.out.hd.frozen 0
  have f1 := E1.out.hd.frozen 1
  have a0 := E1.out.tl.hd.cell 0
  have a1 := E1.out.tl.hd.cell 1
  simp at a0 a1 b0 b1 p0 f0 f1
  go_wp2_with (go_at_call 132; refine (wval_is _ true HX.out _).mono ?_; rintro e' w' ⟨rfl, rfl⟩)
  have HCL := Lib.hid (show ∀ w', Core w w1.heap.size ⟨w.heap.size, 0, none⟩ (.int .i64 ((m : Int) + 1)) (w.heap.size + 1) 97 w' → Calls Tryz.prog 196 #[.slice (some ⟨g0, off + 1, none⟩) m d] w' (NewIntsB l w1.heap.size w')
    from fun w' hb => (clone_any _ _ B m l HN.out (by omega) w' (HR.out.below hb.1 HB.out) (Nat.le_trans HB.out hb.1.size)).mono fun e w'' ⟨A2, c2, h1, h2, h3⟩ => ⟨A2, c2, h1, ownsRow_base h2 hb.2.1, h3⟩)
  have HRE := Lib.hid (fun w' => reads_new w' 3 x)
  have HO1 := Lib.hid (oneCell_ints [x])
  have HL := Lib.hid (show l.length = m from HN.out)
  have HNX := Lib.hid (show ∀ w' w'', Core w w1.heap.size ⟨w.heap.size, 0, none⟩ (.int .i64 ((m : Int) + 1)) (w.heap.size + 1) 97 w' → Below w1.heap.size w' w'' → Core w w1.heap.size ⟨w.heap.size, 0, none⟩ (.int .i64 ((m : Int) + 1)) (w.heap.size + 1) 97 w'' from fun w' w'' h hb => h.next (by omega) (by simp; omega) (by omega) hb)
  have HST := Lib.hid (show ∀ w' i v, Core w w1.heap.size ⟨w.heap.size, 0, none⟩ (.int .i64 ((m : Int) + 1)) (w.heap.size + 1) 97 w' → Core w w1.heap.size ⟨w.heap.size, 0, none⟩ (.int .i64 ((m : Int) + 1)) (w.heap.size + 1) 97 (w'.setCell ⟨w.heap.size + 1, i, none⟩ v) from fun w' i v h => h.set_ (by omega) (by simp) i v)
  have HC0 := Lib.hid (show Core w w1.heap.size ⟨w.heap.size, 0, none⟩ (.int .i64 ((m : Int) + 1)) (w.heap.size + 1) 97 w1 from ⟨E1.out.bel, Nat.le_refl _, a0, _, rfl, by simpa using E1.out.hd⟩)
  clear a0 a1 b0 b1 f0 f1
  go_region_held3 (fun w' => Core w w1.heap.size ⟨w.heap.size, 0, none⟩ (.int .i64 ((m : Int) + 1)) (w.heap.size + 1) 97 w' ∧ w'.cell? ⟨w.heap.size, 0, none⟩ = some (.int .i64 ((m : Int) + 1)) ∧ w'.cell? ⟨w.heap.size + 1, 0, none⟩ = some (cellV w' ⟨w.heap.size + 1, 0, none⟩) ∧ w'.cell? ⟨w.heap.size + 1, 1, none⟩ = some (cellV w' ⟨w.heap.size + 1, 1, none⟩) ∧ w'.frozen? ⟨w.heap.size + 1, 0, none⟩ = false ∧ w'.frozen? ⟨w.heap.size + 1, 1, none⟩ = false)
    ((refine Core.facts ?_; first | exact HNX.out _ _ HC0.out (Below.refl _ _).drew | exact HST.out _ _ _ (HST.out _ _ _ (And.left (by assumption))) | exact HNX.out _ _ (And.left (by assumption)) (Below.mono hb4 (And.left (And.right (And.left (by assumption))))) | exact HNX.out _ _ (And.left (by assumption)) hb9 | exact HNX.out _ _ (And.left (by assumption)) ((Below.refl _ _).alloc (And.left (And.right (And.left (by assumption)))) _)))
    (first
      | (go_at_call 196; refine (HCL.out _ (by exact And.left (by assumption))).mono ?_; rintro e' w4 ⟨A4, c4, rfl, hown4, hb4⟩)
      | ((refine step_appN (by rfl) _ _ _ (by rfl) w1.heap.size 3 i0 (.int .i64 0) 1 8 Tryz.underlying84 hi hz0 hz1 hz2 rfl (by decide) _ _ _ (by rfl) (hown4.alloc _) _ _ _ _ _ (by rfl) (HRE.out _) HO1.out (by unfold maxLen; have := HL.out; omega) (by have := HL.out; omega) (by exact And.left (And.right (And.left (by assumption)))) ?_; intro v9 w9 hown9 hb9; obtain ⟨A9, c9, rfl⟩ := ownsRow_len hown9; have hcore9 := HNX.out _ _ (And.left (by assumption)) hb9))
      | ((refine step_appN (by rfl) _ _ _ (by rfl) w1.heap.size 3 i0 (.int .i64 0) 1 8 Tryz.underlying84 hi hz0 hz1 hz2 rfl (by decide) _ _ _ (by rfl) hown4 _ _ _ _ _ (by rfl) ((HRE.out _).drew.below hb4 (by simp)) HO1.out (by unfold maxLen; have := HL.out; omega) (by have := HL.out; omega) (by exact And.left (And.right (And.left (by assumption)))) ?_; intro v9 w9 hown9 hb9; obtain ⟨A9, c9, rfl⟩ := ownsRow_len hown9; have hcore9 := HNX.out _ _ (And.left (by assumption)) hb9)))
  all_goals
    rename_i hheld
    have hc0 : w9.cell? ⟨w.heap.size + 1, 0, none⟩ = some (cellV w9 ⟨w.heap.size + 1, 0, none⟩) := (Core.facts hcore9).2.2.1
    have hc1 : w9.cell? ⟨w.heap.size + 1, 1, none⟩ = some (cellV w9 ⟨w.heap.size + 1, 1, none⟩) := (Core.facts hcore9).2.2.2.1
    have hbel := hheld.1.1
    have HBL := Lib.hid hbel
    have HO9 := Lib.hid hown9
    clear hheld hown9 hbel hcore9
    go_wp2
    refine bodyPost_ret (v := .tuple #[.agg #[.int .i64 ((m : Int) + 1), .slice A9 (l.length + 1) c9], .int .i64 0]) (by simp [results, Tryz.results171, go_sem, hc0, hc1]) rfl ?_
    have h9 := ownsRow_base (ownsRow_setCell (ownsRow_setCell HO9.out (a := ⟨w.heap.size + 1, 0, none⟩) (by simp; omega) (.int .i64 ((m : Int) + 1))) (a := ⟨w.heap.size + 1, 1, none⟩) (by simp; omega) (.slice A9 (l.length + 1) c9)) (by omega : w.heap.size ≤ w1.heap.size)
    refine ⟨A9, c9, by rw [HL.out], ?_, HBL.out⟩
    have e : cellsI (l ++ [x]) = cellsI l ++ cellsI [x] := by simp [cellsI]
    rw [HL.out] at h9 ⊢
    rw [e]
    exact h9
set_option maxRecDepth 100000 in
set_option maxHeartbeats 4000000 in
theorem push_full1 (x y : Int) (A : Option Addr) (B  : Nat) (l : List Int) (hn : l.length = 0)  (hcap : winE (1) (y :: l) = 0) (hx : wi x 0 16777216 = true) (w : World) (hr : Reads w B 1 A (0 + 1) (cellsI (y :: l))) (hB : B ≤ w.heap.size) :
    Calls Tryz.prog 171 #[.agg #[.int .i64 (1), .slice A (0 + 1) (0 + 1)], .int .i64 x] w (PushIs (1) (l ++ [x]) (0 + 1) w) := by
  obtain ⟨i0, hi, hz0, hz1, hz2⟩ := info_parts int_info
  obtain ⟨c0, c1, c2, c3⟩ := winE_zero hcap
  obtain ⟨g0, off, rfl, hg, hcells⟩ := hr.addr (by omega)
  have h64 : 0 ≤ 64 := by omega
  have HN := Lib.hid hn
  have HE := Lib.hid hcap
  have htail : ∀ A', (0 = 0 ∨ A' = some ⟨g0, off + 1, none⟩) → Reads w B 1 A' 0 (cellsI l) := by
    rintro A' h
    refine ⟨by simp [cellsI, hn], fun hn0 => ?_⟩
    rcases h with h | rfl
    · omega
    · refine ⟨_, rfl, hg, fun j u hu => ?_⟩
      have := hcells (j + 1) u (by simpa [cellsI] using hu)
      by_cases hj : j = 0
      · subst hj; simpa [Addr.add] using this
      · simpa [Addr.add, hj, Nat.add_assoc, Nat.add_comm 1] using this
  have HR0 := Lib.hid hr
  have HR := Lib.hid (htail (some ⟨g0, off, none⟩) (.inl rfl))
  have HB := Lib.hid hB
  have HX := Lib.hid hx
  have E := Lib.hid (((Env.start w).lay #[.int .i64 1, .slice (some ⟨g0, off, none⟩) 1 1] 97).lay #[.int .i64 0, .slice none 0 0] 97)
  clear hr hB hcap c3 hx hg hcells htail
  have HN' := Lib.hid (show (y :: l).length = 0 + 1 by simp [hn])
  clear hn
  go_enter Tryz.func171, Tryz.ntmps171
  go_wp2_with fail
  refine (wchk_is 1 _ _ B _ (y :: l) HN'.out 0 HE.out (by unfold maxLen; omega) _ (HR0.out.below E.out.bel HB.out) (Nat.le_trans HB.out E.out.bel.size)).mono ?_
  rintro e' w1 ⟨rfl, hb1⟩
  have E1 := Lib.hid (E.out.below hb1)
  clear hb1
  have p0 := E1.out.hd.lt
  have b0 := E1.out.hd.cell 0
  have b1 := E1.out.hd.cell 1
  have f0 := E1.out.hd.frozen 0
  have f1 := E1.out.hd.frozen 1
  have a0 := E1.out.tl.hd.cell 0
  have a1 := E1.out.tl.hd.cell 1
  simp at a0 a1 b0 b1 p0 f0 f1
  go_wp2_with (go_at_call 132; refine (wval_is _ true HX.out _).mono ?_; rintro e' w' ⟨rfl, rfl⟩)
  have HCL := Lib.hid (show ∀ w', Core w w1.heap.size ⟨w.heap.size, 0, none⟩ (.int .i64 1) (w.heap.size + 1) 97 w' → Calls Tryz.prog 196 #[.slice (some ⟨g0, off, none⟩) 0 0] w' (NewIntsB l w1.heap.size w')
    from fun w' hb => (clone_any _ _ B 0 l HN.out (by omega) w' (HR.out.below hb.1 HB.out) (Nat.le_trans HB.out hb.1.size)).mono fun e w'' ⟨A2, c2, h1, h2, h3⟩ => ⟨A2, c2, h1, ownsRow_base h2 hb.2.1, h3⟩)
  have HRE := Lib.hid (fun w' => reads_new w' 3 x)
  have HO1 := Lib.hid (oneCell_ints [x])
  have HL := Lib.hid (show l.length = 0 from HN.out)
  have HNX := Lib.hid (show ∀ w' w'', Core w w1.heap.size ⟨w.heap.size, 0, none⟩ (.int .i64 1) (w.heap.size + 1) 97 w' → Below w1.heap.size w' w'' → Core w w1.heap.size ⟨w.heap.size, 0, none⟩ (.int .i64 1) (w.heap.size + 1) 97 w'' from fun w' w'' h hb => h.next (by omega) (by simp; omega) (by omega) hb)
  have HST := Lib.hid (show ∀ w' i v, Core w w1.heap.size ⟨w.heap.size, 0, none⟩ (.int .i64 1) (w.heap.size + 1) 97 w' → Core w w1.heap.size ⟨w.heap.size, 0, none⟩ (.int .i64 1) (w.heap.size + 1) 97 (w'.setCell ⟨w.heap.size + 1, i, none⟩ v) from fun w' i v h => h.set_ (by omega) (by simp) i v)
  have HC0 := Lib.hid (show Core w w1.heap.size ⟨w.heap.size, 0, none⟩ (.int .i64 1) (w.heap.size + 1) 97 w1 from ⟨E1.out.bel, Nat.le_refl _, a0, _, rfl, by simpa using E1.out.hd⟩)
  clear a0 a1 b0 b1 f0 f1
  go_region_held3 (fun w' => Core w w1.heap.size ⟨w.heap.size, 0, none⟩ (.int .i64 1) (w.heap.size + 1) 97 w' ∧ w'.cell? ⟨w.heap.size, 0, none⟩ = some (.int .i64 1) ∧ w'.cell? ⟨w.heap.size + 1, 0, none⟩ = some (cellV w' ⟨w.heap.size + 1, 0, none⟩) ∧ w'.cell? ⟨w.heap.size + 1, 1, none⟩ = some (cellV w' ⟨w.heap.size + 1, 1, none⟩) ∧ w'.frozen? ⟨w.heap.size + 1, 0, none⟩ = false ∧ w'.frozen? ⟨w.heap.size + 1, 1, none⟩ = false)
    ((refine Core.facts ?_; first | exact HNX.out _ _ HC0.out (Below.refl _ _).drew | exact HST.out _ _ _ (HST.out _ _ _ (And.left (by assumption))) | exact HNX.out _ _ (And.left (by assumption)) (Below.mono hb4 (And.left (And.right (And.left (by assumption))))) | exact HNX.out _ _ (And.left (by assumption)) hb9 | exact HNX.out _ _ (And.left (by assumption)) ((Below.refl _ _).alloc (And.left (And.right (And.left (by assumption)))) _)))
    (first
      | (go_at_call 196; refine (HCL.out _ (by exact And.left (by assumption))).mono ?_; rintro e' w4 ⟨A4, c4, rfl, hown4, hb4⟩)
      | ((refine step_appN (by rfl) _ _ _ (by rfl) w1.heap.size 3 i0 (.int .i64 0) 1 8 Tryz.underlying84 hi hz0 hz1 hz2 rfl (by decide) _ _ _ (by rfl) (hown4.alloc _) _ _ _ _ _ (by rfl) (HRE.out _) HO1.out (by unfold maxLen; have := HL.out; omega) (by have := HL.out; omega) (by exact And.left (And.right (And.left (by assumption)))) ?_; intro v9 w9 hown9 hb9; obtain ⟨A9, c9, rfl⟩ := ownsRow_len hown9; have hcore9 := HNX.out _ _ (And.left (by assumption)) hb9))
      | ((refine step_appN (by rfl) _ _ _ (by rfl) w1.heap.size 3 i0 (.int .i64 0) 1 8 Tryz.underlying84 hi hz0 hz1 hz2 rfl (by decide) _ _ _ (by rfl) hown4 _ _ _ _ _ (by rfl) ((HRE.out _).drew.below hb4 (by simp)) HO1.out (by unfold maxLen; have := HL.out; omega) (by have := HL.out; omega) (by exact And.left (And.right (And.left (by assumption)))) ?_; intro v9 w9 hown9 hb9; obtain ⟨A9, c9, rfl⟩ := ownsRow_len hown9; have hcore9 := HNX.out _ _ (And.left (by assumption)) hb9)))
  all_goals
    rename_i hheld
    have hc0 : w9.cell? ⟨w.heap.size + 1, 0, none⟩ = some (cellV w9 ⟨w.heap.size + 1, 0, none⟩) := (Core.facts hcore9).2.2.1
    have hc1 : w9.cell? ⟨w.heap.size + 1, 1, none⟩ = some (cellV w9 ⟨w.heap.size + 1, 1, none⟩) := (Core.facts hcore9).2.2.2.1
    have hbel := hheld.1.1
    have HBL := Lib.hid hbel
    have HO9 := Lib.hid hown9
    clear hheld hown9 hbel hcore9
    go_wp2
    refine bodyPost_ret (v := .tuple #[.agg #[.int .i64 1, .slice A9 (l.length + 1) c9], .int .i64 0]) (by simp [results, Tryz.results171, go_sem, hc0, hc1]) rfl ?_
    have h9 := ownsRow_base (ownsRow_setCell (ownsRow_setCell HO9.out (a := ⟨w.heap.size + 1, 0, none⟩) (by simp; omega) (.int .i64 1)) (a := ⟨w.heap.size + 1, 1, none⟩) (by simp; omega) (.slice A9 (l.length + 1) c9)) (by omega : w.heap.size ≤ w1.heap.size)
    refine ⟨A9, c9, by rw [HL.out], ?_, HBL.out⟩
    have e : cellsI (l ++ [x]) = cellsI l ++ cellsI [x] := by simp [cellsI]
    rw [HL.out] at h9 ⊢
    rw [e]
    exact h9
end Go.Proofs.YthimchhnhhchkaaGreatDoor
