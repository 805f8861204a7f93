/- slices of the package slices over heartwood/api.Peer, walked. -/
import Derived.Test.YtcikljcjhijjdaaGreatM13
import Derived.Test.YtcikljcjhijjdaaGreatM11
import Derived.Lib.AppendZerosOnto
import Derived.Lib.Overlaps
import Derived.Deep.DeepCutAuto
namespace Go.Proofs.YtcikljcjhijjdaaGreat
open Go.RowKit Go.Lib
set_option linter.unusedSimpArgs false
set_option linter.unusedVariables false

theorem slP_info : (Tryz.prog.info? 94).map (fun i => (i.zero, i.size, i.bytes)) = some (some (.agg #[.string ByteArray.empty, .int .i64 0, .int .i64 0, .int .i64 0, .int .i64 0, .slice none 0 0, .int .i64 0]), 7, 80) := by kernel_rfl
theorem slP_zone : ∀ u ∈ (Value.cells (.agg #[.string ByteArray.empty, .int .i64 0, .int .i64 0, .int .i64 0, .int .i64 0, .slice none 0 0, .int .i64 0])).toList, u.oneCell' = true := by decide
/-- a row of this kind that the call owns -/
def NewP (n : Nat) (xs : List Value) (w : World) (e : Ending) (w' : World) : Prop := ∃ A c, e = .returned (.slice A n c) ∧ w'.ownsRow w.heap.size 94 7 (.slice A n c) n xs ∧ Below w.heap.size w w'

set_option maxRecDepth 100000 in
set_option maxHeartbeats 1000000 in
theorem slP_grow (n : Nat) (hm : n ≤ 100000) (w : World) : Calls Tryz.prog 114 #[.slice none 0 0, .int .i64 n] w (NewP 0 [] w) := by
  obtain ⟨i0, hi, hz0, hz1, hz2⟩ := info_parts slP_info
  rcases Nat.eq_zero_or_pos n with h | h
  · subst h
    go_enter Tryz.func114, Tryz.ntmps114
    go_wp2
    go_ret
    exact ⟨none, 0, rfl, World.ownsRow_nil _ _ _ _, Below.refl _ _⟩
  · have hn0 : 0 < (n : Int) := by omega
    have hrz : ∀ ty, (Builtin.append_ #[33, 3] ty #[.slice none 0 0, .int .i64 (n : Int)]).run Tryz.prog w = _ := fun ty =>
      run_append_nil_zeros w 33 3 ty 94 i0 _ .i64 .i64 Tryz.underlying33 Tryz.underlying3 hi hz0 n h (by rw [hz1]; decide) (by omega) (by rw [hz2]; omega)
    have hge := grownCap_ge w n 0 94
    have hle := grownCap_le_maxLen w n 0 94 (by unfold maxLen; omega)
    generalize grownCap w n 0 94 = G at *
    have hO : (w.drew.alloc (.cells (Builtin.zeroCells (Value.cells (.agg #[.string ByteArray.empty, .int .i64 0, .int .i64 0, .int .i64 0, .int .i64 0, .slice none 0 0, .int .i64 0])) n ++ Builtin.zeroCells (Value.cells (.agg #[.string ByteArray.empty, .int .i64 0, .int .i64 0, .int .i64 0, .int .i64 0, .slice none 0 0, .int .i64 0])) (G - n)) 94)).ownsRow w.heap.size 94 7 (.slice (some ⟨w.heap.size, 0, none⟩) 0 G) 0 [] :=
      World.ownsRow_made w.drew _ G (Nat.le_refl _) hle (by simp only [Array.size_append, size_zeroCells]; rw [show (Value.cells (.agg #[.string ByteArray.empty, .int .i64 0, .int .i64 0, .int .i64 0, .int .i64 0, .slice none 0 0, .int .i64 0])).size = 7 from rfl]; omega)
    have HO := Lib.hid hO
    clear hO
    unfold maxLen at hle
    go_enter Tryz.func114, Tryz.ntmps114
    go_wp2_with (at_builtin; refine Lib.wpList_append_run _ rfl _ _ _ _ rfl _ _ rfl rfl _ _ (hrz _) ?_)
    all_goals (go_ret; exact ⟨_, _, rfl, HO.out, (Below.refl _ _).drew.alloc (Nat.le_refl _) _⟩)

abbrev SlAP := Option Addr × Nat × Nat × List Value
def slVP (s : SlAP) : Value := .slice s.1 s.2.1 s.2.2.1
def sumNP (ss : List SlAP) : Nat := (ss.map (·.2.1)).sum
theorem sumNP_take (ss : List SlAP) (k : Nat) (h : k < ss.length) : sumNP (ss.take (k + 1)) = sumNP (ss.take k) + (ss[k]'h).2.1 := by
  unfold sumNP
  rw [List.take_succ_eq_append_getElem h, List.map_append, List.sum_append]
  simp
theorem sumNP_le : ∀ (ss : List SlAP) (m : Nat), (∀ s ∈ ss, s.2.1 ≤ m) → sumNP ss ≤ ss.length * m
  | [], m, _ => by simp [sumNP]
  | s :: ss, m, h => by
    have := sumNP_le ss m (fun x hx => h x (List.mem_cons_of_mem _ hx))
    have h1 := h s (by simp)
    unfold sumNP at *
    simp only [List.map_cons, List.sum_cons, List.length_cons, Nat.succ_mul]
    omega

set_option maxRecDepth 100000 in
set_option maxHeartbeats 2000000 in
theorem slP_concat (ss : List SlAP) (B bs : Nat) (hl : ss.length ≤ 4) (w : World) (hss : ∀ s ∈ ss, Reads w B 7 s.1 s.2.1 s.2.2.2 ∧ (∀ u ∈ s.2.2.2, u.oneCell' = true) ∧ s.2.1 ≤ 1000) (hB : B ≤ w.heap.size)
    (hb : Blk w bs 33 (ss.map slVP).toArray) (kk : Nat) (hkk : kk = ss.length) (nn : Nat) (hnn : sumNP ss = nn) (xs : List Value) (hxs : ss.flatMap (·.2.2.2) = xs) :
    Calls Tryz.prog 88 #[.slice (some ⟨bs, 0, none⟩) kk kk] w (NewP nn xs w) := by
  obtain ⟨i0, hi, hz0, hz1, hz2⟩ := info_parts slP_info
  have HSS := Lib.hid hss
  have HB := Lib.hid hb
  have HBB := Lib.hid hB
  have HK := Lib.hid hkk
  have HX := Lib.hid hxs
  have hall : ∀ k, sumNP (ss.take k) ≤ 4000 := fun k => by
    have h1 := sumNP_le (ss.take k) 1000 (fun s hs => (hss s (List.mem_of_mem_take hs)).2.2)
    have h2 : (ss.take k).length ≤ 4 := Nat.le_trans (List.length_take_le' ..) hl
    omega
  have HALL := Lib.hid hall
  have hnb : nn ≤ 4000 := by have := hall ss.length; rw [List.take_of_length_le (Nat.le_refl _), hnn] at this; exact this
  have HN := Lib.hid hnn
  have p0 := hb.lt
  have hkl : kk ≤ 4 := by omega
  clear hss hb hB hkk hxs hall hnn
  go_enter Tryz.func88, Tryz.ntmps88
  go_wp2_with fail
  go_loop [3, 11] (fun s i => ∃ k : Nat, k ≤ kk ∧ i = .int .i64 (k : Int) ∧ s = .int .i64 ((sumNP (ss.take k) : Nat) : Int)) (fun _ i => kk - (intOf i).toNat)
  case atStart => exact ⟨0, by omega, rfl, rfl⟩
  case round =>
    obtain ⟨k, hk, rfl, rfl⟩ := hrel
    by_cases hlt : k < kk
    · have hks : k < ss.length := by rw [← HK.out]; exact hlt
      have c0 := HB.out.cell k
      simp [hks, slVP] at c0
      have hs := sumNP_take ss k hks
      have h1 := HALL.out k
      have h2 := HALL.out (k + 1)
      have HS := Lib.hid hs
      have h3 : (ss[k]'hks).2.1 ≤ 1000 := (HSS.out _ (List.getElem_mem hks)).2.2
      generalize sumNP (ss.take k) = S at *
      generalize ss[k]'hks = s at *
      clear hs h2
      go_wp2
      all_goals first
        | (exfalso; omega)
        | exact ⟨⟨k + 1, by omega, by simp, by rw [HS.out]; simp⟩, by simp [intOf]; omega⟩
    · obtain rfl : k = kk := by omega
      have hsk : sumNP (ss.take k) = nn := by rw [List.take_of_length_le (by rw [HK.out]; exact Nat.le_refl _)]; exact HN.out
      rw [hsk]
      clear hsk
      go_wp2_with fail
      refine (slP_grow nn (by omega) w).mono ?_
      rintro e' w2 ⟨A, c, rfl, ho, hb2⟩
      have B2 := Lib.hid hb2
      have HO := Lib.hid ho
      clear hb2 ho
      go_wp2_with fail
      go_loopw [6, 27] (fun v i wr => ∃ (j : Nat) (A : Option Addr) (c m : Nat), j ≤ k ∧ i = .int .i64 (j : Int) ∧ v = .slice A m c ∧ m = sumNP (ss.take j) ∧ wr.ownsRow w.heap.size 94 7 (.slice A m c) m ((ss.take j).flatMap (·.2.2.2)) ∧ Below w.heap.size w wr) (fun _ i _ => k - (intOf i).toNat)
      case atStart => exact ⟨0, A, c, 0, by omega, rfl, rfl, rfl, HO.out, B2.out⟩
      case round =>
        obtain ⟨j, A', c', m, hj, rfl, rfl, hm, hown, hbw⟩ := hrel
        have HW := Lib.hid hbw
        have HOW := Lib.hid hown
        have HM := Lib.hid hm
        have hmb : m ≤ 4000 := by rw [hm]; exact HALL.out j
        have HBR := Lib.hid (HB.out.below hbw p0)
        have p0' := HBR.out.lt
        clear hbw hown hm B2 HO
        by_cases hjt : j < k
        · have hks : j < ss.length := by rw [← HK.out]; exact hjt
          have c0 := HBR.out.cell j
          simp [hks, slVP] at c0
          have hsj := HSS.out _ (List.getElem_mem hks)
          have R1 := Lib.hid (hsj.1.below HW.out HBB.out)
          have O1 := Lib.hid hsj.2.1
          have h3 := hsj.2.2
          have HS := Lib.hid (sumNP_take ss j hks)
          have HT := Lib.hid (List.take_succ_eq_append_getElem hks)
          clear hsj
          generalize ss[j]'hks = s at *
          go_wp2_with (at_builtin; refine wpList_appN _ rfl _ _ 33 rfl w.heap.size 94 i0 (.agg #[.string ByteArray.empty, .int .i64 0, .int .i64 0, .int .i64 0, .int .i64 0, .slice none 0 0, .int .i64 0]) 7 80 Tryz.underlying33 hi hz0 hz1 hz2 rfl (by decide) _ _ _ rfl HOW.out _ _ _ _ _ rfl R1.out O1.out ?c1 ?c2 ?c3 ?_)
          case c1 => unfold maxLen; omega
          case c2 => omega
          case c3 => exact HW.out.size
          intro v' w3 hown3 hb3
          obtain ⟨A3, c3, rfl⟩ := ownsRow_len hown3
          have O3 := Lib.hid (show w3.ownsRow w.heap.size 94 7 (.slice A3 (m + s.2.1) c3) (m + s.2.1) ((ss.take (j + 1)).flatMap (·.2.2.2)) by rw [HT.out, List.flatMap_append]; simpa using hown3)
          have B3 := Lib.hid (HW.out.trans hb3)
          clear hown3 hb3
          go_wp2
          exact ⟨⟨j + 1, A3, c3, m + s.2.1, by omega, by simp, rfl, by rw [HS.out, HM.out], O3.out, B3.out⟩, by simp [intOf]; omega⟩
        · obtain rfl : j = k := by omega
          have hsk : m = nn := by rw [HM.out, List.take_of_length_le (by rw [HK.out]; exact Nat.le_refl _)]; exact HN.out
          subst hsk
          have OX := Lib.hid (show wr.ownsRow w.heap.size 94 7 (.slice A' m c') m xs by have := HOW.out; rw [List.take_of_length_le (by rw [HK.out]; exact Nat.le_refl _), HX.out] at this; exact this)
          clear HOW
          go_wp2
          go_ret
          exact ⟨_, _, rfl, OX.out, HW.out⟩

/-- a row that was changed in place -/
def CutP (base g cap n : Nat) (xs : List Value) (w : World) (e : Ending) (w' : World) : Prop := e = .returned (.slice (some ⟨g, 0, none⟩) n cap) ∧ w'.ownsRow base 94 7 (.slice (some ⟨g, 0, none⟩) n cap) n xs ∧ w.grownBy w' (some g)

set_option maxRecDepth 100000 in
set_option maxHeartbeats 2000000 in
theorem slP_delete (base g cap n i : Nat) (xs : List Value) (hin : i < n) (hone : ∀ u ∈ xs, u.oneCell' = true) (w : World) (hown : w.ownsRow base 94 7 (.slice (some ⟨g, 0, none⟩) n cap) n xs) :
    Calls Tryz.prog 89 #[.slice (some ⟨g, 0, none⟩) n cap, .int .i64 i, .int .i64 ((i : Int) + 1)] w (CutP base g cap (n - 1) (xs.take (i * 7) ++ xs.drop ((i + 1) * 7)) w) := by
  obtain ⟨i0, hi, hz0, hz1, hz2⟩ := info_parts slP_info
  obtain ⟨d, rfl⟩ : ∃ d, n = i + 1 + d := ⟨n - (i + 1), by omega⟩
  have hcp := ownsRow_cap hown
  have hxl := hown.1
  have hcells := hown.cells (g := g) rfl
  have HO := Lib.hid (ownsRow_head hown (show i ≤ i + 1 + d by omega))
  have ONE := Lib.hid (show ∀ u ∈ xs.drop ((i + 1) * 7), u.oneCell' = true from fun u hu => hone u (List.mem_of_mem_drop hu))
  have hcm := hcp.2
  have hnc := hcp.1
  unfold maxLen at hcm
  have HND := Lib.hid (show ∀ j u, (xs.drop ((i + 1) * 7))[j]? = some u → w.cell? ((⟨g, (i + 1) * 7, none⟩ : Addr).add j) = some u by
    intro j u hj
    rw [List.getElem?_drop] at hj
    have := hcells _ u hj
    have hadd : ((⟨g, (i + 1) * 7, none⟩ : Addr)).add j = (⟨g, 0, none⟩ : Addr).add ((i + 1) * 7 + j) := by unfold Addr.add; (repeat' split) <;> simp_all
    rw [hadd]
    exact this)
  have HN0 := Lib.hid (show d = 0 → xs.drop ((i + 1) * 7) = [] from fun h => by subst h; exact List.drop_of_length_le (by rw [hxl]; omega))
  have HLEN := Lib.hid (show (xs.drop ((i + 1) * 7)).length = d * 7 by rw [List.length_drop, hxl]; omega)
  clear hcells hone hown hcp hxl
  rw [show i + 1 + d - 1 = i + d by omega]
  generalize xs.take (i * 7) = xa at *
  generalize xs.drop ((i + 1) * 7) = xb at *
  have e1 : ((i : Int) + 1).toNat = i + 1 := by omega
  have hne : ¬ ((i : Int) = (i : Int) + 1) := by omega
  have hb1 : (i : Int) + 1 ≤ (i : Int) + 1 + d := by omega
  have hb2 : (0 : Int) ≤ (i : Int) + 1 := by omega
  have hb3 : (i : Int) ≤ cap := by omega
  have hci : ¬ (cap = i) := by omega
  have hcd : ¬ (cap = i + d) := by omega
  have hb4 : (i : Int) ≤ (i : Int) + 1 := by omega
  have close : ∀ (W w1 w2 : World), W.os = w.os → W.tape = w.tape → W.output = w.output → W.heap = w.heap → W.grownBy w1 (some g) → w1.grownBy w2 (some g) → w.grownBy w2 (some g) := fun W w1 w2 h1 h2 h3 h4 h5 h6 =>
    grownBy_trans ⟨h5.os.trans h1, h5.tape.trans h2, h5.output.trans h3, by rw [← h4]; exact h5.size, fun k hk hn => (h5.block k (by rw [h4]; exact hk) hn).trans (by rw [h4])⟩ h6
  have CL := Lib.hid close
  clear close
  by_cases hc : cap = i + 1
  · obtain rfl : d = 0 := by omega
    subst hc
    have HX0 := Lib.hid (HN0.out rfl)
    go_enter Tryz.func89, Tryz.ntmps89
    go_wp2_with fail
    go_region_law ((refine step_append_spare (by rfl) _ _ _ (by rfl) base 94 i0 7 Tryz.underlying33 hi hz1 g i (i + 1) xa (by rfl) HO.out _ 0 _ xb (by rfl) HLEN.out (by intro j u hj; rw [HX0.out] at hj; cases hj) ONE.out (by omega) ?_; intro w1 hown1 hgrow1))
    all_goals
      have HO1 := Lib.hid hown1
      have HG1 := Lib.hid hgrow1
      clear hown1 hgrow1
      go_wp2_with ((refine wpList_clear_own (by rfl) _ _ (by rfl) 94 i0 _ 7 Tryz.underlying33 hi hz0 rfl slP_zone base g (i + 0) (i + 1) (xa ++ xb) HO1.out _ _ _ (by rfl) ?c0 ?c1 ?_); (case c0 => first | exact Nat.le_refl _ | omega); (case c1 => omega); intro w2 hown2 hgrow2)
      go_ret
      exact ⟨rfl, hown2, CL.out w.drew w1 w2 rfl rfl rfl rfl HG1.out hgrow2⟩
  · have hcd2 : ¬ (cap = i + 1 + d ∧ d = 0) := by omega
    go_enter Tryz.func89, Tryz.ntmps89
    go_wp2_with fail
    go_region_law ((refine step_append_spare (by rfl) _ _ _ (by rfl) base 94 i0 7 Tryz.underlying33 hi hz1 g i cap xa (by rfl) HO.out _ d _ xb (by rfl) HLEN.out HND.out ONE.out (by omega) ?_; intro w1 hown1 hgrow1))
    all_goals
      have HO1 := Lib.hid hown1
      have HG1 := Lib.hid hgrow1
      clear hown1 hgrow1
      go_wp2_with ((refine wpList_clear_own (by rfl) _ _ (by rfl) 94 i0 _ 7 Tryz.underlying33 hi hz0 rfl slP_zone base g (i + d) cap (xa ++ xb) HO1.out _ _ _ (by rfl) ?c0 ?c1 ?_); (case c0 => first | exact Nat.le_refl _ | omega); (case c1 => omega); intro w2 hown2 hgrow2)
      go_ret
      exact ⟨rfl, hown2, CL.out w.drew w1 w2 rfl rfl rfl rfl HG1.out hgrow2⟩

end Go.Proofs.YtcikljcjhijjdaaGreat
