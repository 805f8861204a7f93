/- dec.Parse, walked. -/
import Derived.Test.YtmgkkbmcdnhdeabDoorDecP
import Derived.Test.YtmgkkbmcdnhdeabDoorBeatF
import Derived.Test.YtmgkkbmcdnhdeabDoorTimes
import Derived.Test.YtmgkkbmcdnhdeabDoorWAdd
import Derived.Deep.AppendLies
namespace Go.Proofs.YtmgkkbmcdnhdeabDoor
open Go.RowKit Go.Lib
set_option linter.unusedSimpArgs false
set_option linter.unusedVariables false

theorem results_1d {fn : Func} {a : Act} {W : World} {g p q : Nat} {x0 x1 e : Value} (h : fn.results = #[.cell p 24, .tmp q]) (h4 : a.tmps.getD p undef = .pointer (some ⟨g, 0, none⟩)) (h6 : a.tmps.getD q undef = e)
    (c0 : W.cell? ⟨g, 0, none⟩ = some x0) (c1 : W.cell? ⟨g, 1, none⟩ = some x1) : (results fn a.tmps).run Tryd.prog W = .ok (.tuple #[.agg #[x0, x1], e]) W := by
  have h4' : a.tmps[p]?.getD undef = .pointer (some ⟨g, 0, none⟩) := by simpa using h4
  have h6' : a.tmps[q]?.getD undef = e := by simpa using h6
  simp [results, h, h4', h6', go_sem, c0, c1]
namespace Dc
/-- the first byte is a 0 that may not stand there -/
def lead (s : ByteArray) : Bool := decide (1 < s.size) && decide ((s.data.toList.getD 0 0).toNat = 48)
def allD (s : ByteArray) : Bool := s.data.toList.all dig
/-- what Parse answers: an error, or 0 and the number -/
def parseE (s : ByteArray) : Int := if s.size = 0 ∨ lead s = true ∨ allD s = false then 3 else if vals s.data.toList < 2 ^ 128 then 0 else 2
def parseV (s : ByteArray) : Nat := if parseE s = 0 then vals s.data.toList else 0
theorem len_is (s : ByteArray) : s.data.toList.length = s.size := by rw [Array.length_toList]; rfl
theorem at_is (s : ByteArray) (k : Nat) (h : k < s.size) : s.data.toList[k]'(by rw [len_is]; exact h) = s[k] := rfl
theorem parse_form {s : ByteArray} (h : s.size = 0 ∨ lead s = true ∨ allD s = false) : parseE s = 3 ∧ parseV s = 0 := by
  have : parseE s = 3 := if_pos h
  exact ⟨this, by unfold parseV; rw [this]; rfl⟩
theorem parse_bad {s : ByteArray} {k : Nat} (h : k < s.size) (hd : dig s[k] = false) : parseE s = 3 ∧ parseV s = 0 := by
  refine parse_form (.inr (.inr ?_))
  unfold allD
  rw [List.all_eq_false]
  exact ⟨s[k], by rw [← at_is s k h]; exact List.getElem_mem _, by rw [hd]; simp⟩
theorem all_of {s : ByteArray} (h : ∀ k, (hk : k < s.size) → dig (s[k]'hk) = true) : allD s = true := by
  unfold allD
  rw [List.all_eq_true]
  intro b hb
  obtain ⟨k, hk, rfl⟩ := List.getElem_of_mem hb
  exact h k (by rw [len_is] at hk; exact hk)
theorem parse_ok {s : ByteArray} (h0 : s.size ≠ 0) (h1 : lead s = false) (h2 : allD s = true) (h3 : vals s.data.toList < 2 ^ 128) : parseE s = 0 ∧ parseV s = vals s.data.toList := by
  have : parseE s = 0 := by
    unfold parseE
    rw [if_neg (by rw [h1, h2]; simp [h0]), if_pos h3]
  exact ⟨this, by unfold parseV; rw [if_pos this]⟩
theorem parse_large {s : ByteArray} (h0 : s.size ≠ 0) (h1 : lead s = false) (h2 : allD s = true) (h3 : ¬ vals s.data.toList < 2 ^ 128) : parseE s = 2 ∧ parseV s = 0 := by
  have : parseE s = 2 := by
    unfold parseE
    rw [if_neg (by rw [h1, h2]; simp [h0]), if_neg h3]
  exact ⟨this, by unfold parseV; rw [this]; rfl⟩
theorem parse_over {s : ByteArray} (h0 : s.size ≠ 0) (h1 : lead s = false) (h2 : allD s = true) {k : Nat} (hk : k ≤ s.size) (h3 : ¬ vals (s.data.toList.take k) < 2 ^ 128) : parseE s = 2 ∧ parseV s = 0 := by
  refine parse_large h0 h1 h2 ?_
  have := vals_mono s.data.toList k s.size hk (by rw [len_is]; exact Nat.le_refl _)
  rw [List.take_of_length_le (show s.data.toList.length ≤ s.size by rw [len_is]; exact Nat.le_refl _)] at this
  omega
theorem vals_at (s : ByteArray) (k : Nat) (h : k < s.size) : vals (s.data.toList.take (k + 1)) = 10 * vals (s.data.toList.take k) + ((s[k]).toNat - 48) := by
  rw [vals_take _ k (by rw [len_is]; exact h), at_is s k h]
theorem byte0 {s : ByteArray} (h : 0 < s.size) : s.data.toList.getD 0 0 = s[0] := by
  rw [List.getD_eq_getElem?_getD, List.getElem?_eq_getElem (by rw [len_is]; exact h), at_is s 0 h]
  rfl
theorem lead_of {s : ByteArray} (h : 1 < s.size) (h0 : (s[0]).toNat = 48) : lead s = true := by
  unfold lead
  have : s.data.toList.getD 0 0 = s[0] := byte0 (by omega)
  rw [this]
  simp [h, h0]
theorem lead_not {s : ByteArray} (h0 : 0 < s.size) (h : ¬ (1 < s.size ∧ (s[0]).toNat = 48)) : lead s = false := by
  unfold lead
  have : s.data.toList.getD 0 0 = s[0] := byte0 h0
  rw [this]
  simp only [Bool.and_eq_false_iff, decide_eq_false_iff_not]
  omega
end Dc
theorem env2 {w W : World} {g0 g1 : Nat} {t : TypeId} {cs0 cs1 : Array Value} (hb : Below w.heap.size w W) (h1 : w.heap.size ≤ g1) (b1 : Blk W g1 t cs1) (h0 : w.heap.size ≤ g0) (b0 : Blk W g0 t cs0) : Env w W [(g1, t, cs1), (g0, t, cs0)] :=
  ⟨hb, fun x hx => by
    rcases List.mem_cons.1 hx with rfl | hx
    · exact ⟨h1, b1⟩
    · obtain rfl := List.mem_singleton.1 hx
      exact ⟨h0, b0⟩⟩
/-- what Parse and its reference answer -/
def ParseIs (s : ByteArray) (w : World) (e : Ending) (w' : World) : Prop :=
  e = .returned (.tuple #[.agg #[.int .u64 (hiN (Dc.parseV s)), .int .u64 (loN (Dc.parseV s))], .int .i64 (Dc.parseE s)]) ∧ Below w.heap.size w w'

set_option maxHeartbeats 4000000 in
set_option maxRecDepth 100000 in
theorem parse_any (s : ByteArray) (hs : s.size ≤ maxLen) (w : World) : Calls Tryd.prog 4 #[.string s] w (ParseIs s w) := by
  have hml : s.size ≤ 9223372036854775807 := by unfold maxLen at hs; omega
  have HT := Lib.hid (show ∀ v, v < 2 ^ 128 → ∀ w, Calls Tryd.prog 8 #[.agg #[.int .u64 (hiN v), .int .u64 (loN v)], .agg #[.int .u64 0, .int .u64 10]] w fun e w' => e = .returned (.tuple #[.agg #[.int .u64 (hiN (fitN (v * 10))), .int .u64 (loN (fitN (v * 10)))], .int .i64 (fitE (v * 10))]) ∧ Below w.heap.size w w' from fun v hv w => by
    have := times_any v 10 hv (by decide) w
    have e1 : hiN 10 = 0 := by decide
    have e2 : loN 10 = 10 := by decide
    rw [e1, e2] at this
    exact this)
  have E := Lib.hid ((Env.start w).lay #[.int .u64 0, .int .u64 0] 24)
  by_cases hz : s.size = 0
  · obtain ⟨p1, p2⟩ := Dc.parse_form (.inl hz)
    have hemp : s = ⟨#[]⟩ := by
      have : s.data = #[] := Array.eq_empty_of_size_eq_zero hz
      cases s; cases this; rfl
    subst hemp
    unfold ParseIs
    rw [p1, p2, show hiN 0 = 0 by decide, show loN 0 = 0 by decide]
    go_enter Tryd.func4, Tryd.ntmps4
    go_wp2
    refine bodyPost_ret (v := .tuple #[.agg #[.int .u64 0, .int .u64 0], .int .i64 3]) (by simp [results, Tryd.results4, go_sem]) rfl ⟨rfl, E.out.bel⟩
  have hemp := empty_false s hz
  have hpos : 0 < s.size := by omega
  by_cases hl : 1 < s.size ∧ (s[0]).toNat = 48
  · obtain ⟨p1, p2⟩ := Dc.parse_form (.inr (.inl (Dc.lead_of hl.1 hl.2)))
    obtain ⟨hl1, hl2⟩ := hl
    have hb0 : ((s[0]).toNat : Int) = 48 := by omega
    unfold ParseIs
    rw [p1, p2, show hiN 0 = 0 by decide, show loN 0 = 0 by decide]
    clear hl2 p1 p2
    go_enter Tryd.func4, Tryd.ntmps4
    go_wp2
    refine bodyPost_ret (v := .tuple #[.agg #[.int .u64 0, .int .u64 0], .int .i64 3]) (by simp [results, Tryd.results4, go_sem]) rfl ⟨rfl, E.out.bel⟩
  have HLD := Lib.hid (Dc.lead_not hpos hl)
  have hgd : 1 < (s.size : Int) → (((s[0]).toNat : Int) == 48) = false := by
    intro h
    have : ¬ (s[0]).toNat = 48 := fun e => hl ⟨by omega, e⟩
    simp
    omega
  clear hl
  go_enter Tryd.func4, Tryd.ntmps4
  rcases Int.lt_or_le 1 (s.size : Int) with h1 | h1
  · have hg0 := hgd h1
    clear hgd
    go_wp2_with fail
    go_loopw [24] (fun iv wr => ∃ j : Nat, j ≤ s.size ∧ iv = .int .i64 (j : Int) ∧ (∀ k, (hk : k < s.size) → k < j → Dc.dig (s[k]'hk) = true) ∧ wr = w.alloc (.cells #[.int .u64 0, .int .u64 0] 24)) (fun iv _ => s.size - (RowKit.intOf iv).toNat)
    case atStart => exact ⟨0, by omega, rfl, fun k hk h => absurd h (by omega), rfl⟩
    case round =>
      obtain ⟨j, hj, rfl, hall, rfl⟩ := hrel
      by_cases hlt : j < s.size
      · by_cases hd : Dc.dig (s[j]'hlt) = true
        · have HALL := Lib.hid (show ∀ k, (hk : k < s.size) → k < j + 1 → Dc.dig (s[k]'hk) = true from fun k hk h => by
            by_cases hkj : k = j
            · subst hkj; exact hd
            · exact hall k hk (by omega))
          have hd' := hd
          simp only [Dc.dig, Bool.and_eq_true, decide_eq_true_eq] at hd'
          obtain ⟨hd1, hd2⟩ := hd'
          have hd1' : ¬ ((s[j]'hlt).toNat : Int) < 48 := by omega
          have hd2' : ¬ 57 < ((s[j]'hlt).toNat : Int) := by omega
          clear hall hd hd1 hd2
          go_wp2
          exact ⟨⟨j + 1, by omega, by simp, HALL.out, by first | rfl | trivial⟩, by simp [RowKit.intOf]; omega⟩
        · obtain ⟨p1, p2⟩ := Dc.parse_bad hlt (by simpa using hd)
          simp only [Dc.dig, Bool.and_eq_true, decide_eq_true_eq] at hd
          have P1 := Lib.hid p1
          have P2 := Lib.hid p2
          clear hall p1 p2
          by_cases hd1 : ((s[j]'hlt).toNat : Int) < 48
          · go_wp2
            refine bodyPost_ret (v := .tuple #[.agg #[.int .u64 0, .int .u64 0], .int .i64 3]) (by simp [results, Tryd.results4, go_sem]) rfl ⟨by rw [P1.out, P2.out]; rfl, E.out.bel⟩
          · have hd2 : 57 < ((s[j]'hlt).toNat : Int) := by omega
            go_wp2
            refine bodyPost_ret (v := .tuple #[.agg #[.int .u64 0, .int .u64 0], .int .i64 3]) (by simp [results, Tryd.results4, go_sem]) rfl ⟨by rw [P1.out, P2.out]; rfl, E.out.bel⟩
      · have HAD := Lib.hid (Dc.all_of fun k hk => hall k hk (by omega))
        have HDK := Lib.hid (show ∀ k, (hk : k < s.size) → 48 ≤ (s[k]'hk).toNat ∧ (s[k]'hk).toNat ≤ 57 from fun k hk => by
          have := hall k hk (by omega)
          simpa [Dc.dig] using this)
        have E2 := Lib.hid (E.out.lay #[.int .u64 0, .int .u64 0] 24)
        have HOV := Lib.hid (fun k (hk : k ≤ s.size) h => Dc.parse_over hz HLD.out HAD.out (k := k) hk h)
        have HOK := Lib.hid (fun h => Dc.parse_ok hz HLD.out HAD.out h)
        have HVA := Lib.hid (Dc.vals_at s)
        have hlen := Dc.len_is s
        have HFU := Lib.hid (show Dc.vals (s.data.toList.take s.size) = Dc.vals s.data.toList by rw [List.take_of_length_le (by omega)])
        clear hall hlen E
        go_wp2_with fail
        go_loopw [41] (fun iv wr => ∃ j : Nat, j ≤ s.size ∧ iv = .int .i64 (j : Int) ∧ Dc.vals (s.data.toList.take j) < 2 ^ 128 ∧ Env w wr [(w.heap.size + 1, 24, #[.int .u64 (hiN (Dc.vals (s.data.toList.take j))), .int .u64 (loN (Dc.vals (s.data.toList.take j)))]), (w.heap.size, 24, #[.int .u64 0, .int .u64 0])]) (fun iv _ => s.size - (RowKit.intOf iv).toNat)
        case atStart => exact ⟨0, by omega, rfl, by simp [Dc.vals], by simpa [Dc.vals, hiN, loN] using E2.out⟩
        case round =>
          obtain ⟨j, hj, rfl, hv, hE⟩ := hrel
          have E3 := Lib.hid hE
          clear hE E2
          by_cases hlt : j < s.size
          · obtain ⟨hd1, hd2⟩ := HDK.out j hlt
            obtain ⟨d, hd⟩ : ∃ d, (s[j]'hlt).toNat = d + 48 := ⟨(s[j]'hlt).toNat - 48, by omega⟩
            have hva := HVA.out j hlt
            have hov := HOV.out (j + 1) (by omega)
            have HT1 := Lib.hid (HT.out _ hv)
            rw [hva, hd, Nat.add_sub_cancel] at hov
            rw [hd, Nat.add_sub_cancel] at hva
            generalize hvv : Dc.vals (s.data.toList.take j) = v at *
            have VA := Lib.hid hva
            have OV := Lib.hid hov
            have hd9 : d ≤ 9 := by omega
            have hbx : ((s[j]'hlt).toNat : Int) = (d : Int) + 48 := by omega
            clear hva hov hvv hd hd1 hd2
            have x0 := E3.out.hd.cell 0
            have x1 := E3.out.hd.cell 1
            have p0 := E3.out.hd.lt
            simp at x0 x1
            by_cases hx : v * 10 < 2 ^ 128
            · have e1 : fitN (v * 10) = v * 10 := if_pos hx
              have e2 : fitE (v * 10) = 0 := if_pos hx
              rw [e1, e2] at HT1
              clear e1 e2
              go_wp2_with fail
              refine (HT1.out _).mono ?_
              rintro e' w1 ⟨rfl, hb1⟩
              have E4 := Lib.hid ((E3.out.below hb1).lay #[.int .u64 (hiN (v * 10)), .int .u64 (loN (v * 10))] 24)
              clear hb1 x0 x1 E3 HT1
              have HA := Lib.hid (wide_add_any _ _ _ _ (v * 10) d ⟨rfl, rfl, hx⟩ ⟨(by unfold hiN; omega : (0 : Int) = hiN d), (by rw [IntKind.wrap_u8, IntKind.wrap_u64]; unfold loN; omega : IntKind.u64.wrap (IntKind.u8.wrap (d : Int)) = loN d), by omega⟩)
              go_upto_region 16 with fail
              generalize hW7 : World.alloc w1 _ = w7 at *
              have z0 := E4.out.hd.cell 0
              have z1 := E4.out.hd.cell 1
              simp at z0 z1
              clear hW7
              by_cases hy : v * 10 + d < 2 ^ 128
              · have e1 : fitN (v * 10 + d) = v * 10 + d := if_pos hy
                have e2 : fitE (v * 10 + d) = 0 := if_pos hy
                rw [e1, e2] at HA
                clear e1 e2
                go_region_law (go_simp; go_at_call 9; (with_reducible refine (HA.out _).mono ?_); rintro e' w9 ⟨rfl, hb9⟩; have E9 : Env w w9 [(w1.heap.size, 24, #[.int .u64 (hiN (v * 10)), .int .u64 (loN (v * 10))]), (w.heap.size + 1, 24, #[.int .u64 (hiN v), .int .u64 (loN v)]), (w.heap.size, 24, #[.int .u64 0, .int .u64 0])] := (by first | exact E4.out.below hb9 | exact E4.out.drew.below hb9); have y0 := E9.tl.hd.cell 0; have y1 := E9.tl.hd.cell 1; have f0 := E9.tl.hd.frozen 0; have f1 := E9.tl.hd.frozen 1; simp at y0 y1)
                all_goals
                  have HBK := Lib.hid ((E9.tl.hd.set_ 0 (.int .u64 (hiN (v * 10 + d)))).set_ 1 (.int .u64 (loN (v * 10 + d))))
                  have HB0 := Lib.hid ((E9.tl.tl.hd.far (p := ⟨w.heap.size + 1, 0, none⟩) (by simp) (.int .u64 (hiN (v * 10 + d)))).far (p := ⟨w.heap.size + 1, 1, none⟩) (by simp) (.int .u64 (loN (v * 10 + d))))
                  have HBE := Lib.hid ((E9.bel.setCell (p := ⟨w.heap.size + 1, 0, none⟩) (by simp) (.int .u64 (hiN (v * 10 + d)))).setCell (p := ⟨w.heap.size + 1, 1, none⟩) (by simp) (.int .u64 (loN (v * 10 + d))))
                  have hsv : Dc.vals (s.data.toList.take (j + 1)) = v * 10 + d := by rw [VA.out]; omega
                  have HSV := Lib.hid hsv
                  clear hsv E9 y0 y1 f0 f1 z0 z1
                  go_wp2
                  exact ⟨⟨j + 1, by omega, by simp, by rw [HSV.out]; exact hy, by rw [HSV.out]; exact env2 HBE.out (by omega) (by simpa using HBK.out) (Nat.le_refl _) HB0.out⟩, by simp [RowKit.intOf]; omega⟩
              · have e1 : fitN (v * 10 + d) = 0 := if_neg hy
                have e2 : fitE (v * 10 + d) = 2 := if_neg hy
                rw [e1, e2] at HA
                obtain ⟨p1, p2⟩ := OV.out (by omega)
                have P1 := Lib.hid p1
                have P2 := Lib.hid p2
                clear e1 e2 p1 p2
                go_region_law (go_simp; go_at_call 9; (with_reducible refine (HA.out _).mono ?_); rintro e' w9 ⟨rfl, hb9⟩; have E9 : Env w w9 [(w1.heap.size, 24, #[.int .u64 (hiN (v * 10)), .int .u64 (loN (v * 10))]), (w.heap.size + 1, 24, #[.int .u64 (hiN v), .int .u64 (loN v)]), (w.heap.size, 24, #[.int .u64 0, .int .u64 0])] := (by first | exact E4.out.below hb9 | exact E4.out.drew.below hb9); have y0 := E9.tl.hd.cell 0; have y1 := E9.tl.hd.cell 1; have f0 := E9.tl.hd.frozen 0; have f1 := E9.tl.hd.frozen 1; simp at y0 y1)
                all_goals
                  have k0 := E9.tl.tl.hd.cell 0
                  have k1 := E9.tl.tl.hd.cell 1
                  have l0 := E9.tl.tl.hd.frozen 0
                  have l1 := E9.tl.tl.hd.frozen 1
                  simp at k0 k1
                  have HB0 := Lib.hid ((E9.tl.tl.hd.far (p := ⟨w.heap.size + 1, 0, none⟩) (by simp) (.int .u64 (hiN 0))).far (p := ⟨w.heap.size + 1, 1, none⟩) (by simp) (.int .u64 (loN 0)))
                  have HBE := Lib.hid ((E9.bel.setCell (p := ⟨w.heap.size + 1, 0, none⟩) (by simp) (.int .u64 (hiN 0))).setCell (p := ⟨w.heap.size + 1, 1, none⟩) (by simp) (.int .u64 (loN 0)))
                  clear E9 y0 y1 f0 f1 z0 z1
                  go_wp2
                  have BK := ((HB0.out.set_ 0 (.int .u64 0)).set_ 1 (.int .u64 0))
                  refine bodyPost_ret (v := .tuple #[.agg #[.int .u64 0, .int .u64 0], .int .i64 2]) (results_1d Tryd.results4 rfl rfl ((BK.cell 0).trans rfl) ((BK.cell 1).trans rfl)) rfl ⟨by rw [P1.out, P2.out]; rfl, (HBE.out.setCell (p := ⟨w.heap.size, 0, none⟩) (Nat.le_refl _) (.int .u64 0)).setCell (p := ⟨w.heap.size, 1, none⟩) (Nat.le_refl _) (.int .u64 0)⟩
            · have e1 : fitN (v * 10) = 0 := if_neg hx
              have e2 : fitE (v * 10) = 2 := if_neg hx
              rw [e1, e2] at HT1
              obtain ⟨p1, p2⟩ := OV.out (by omega)
              have P1 := Lib.hid p1
              have P2 := Lib.hid p2
              clear e1 e2 p1 p2
              go_wp2_with fail
              refine (HT1.out _).mono ?_
              rintro e' w1 ⟨rfl, hb1⟩
              have E4 := Lib.hid (E3.out.below hb1)
              have B4 := Lib.hid (E4.out.tl.hd.alloc (.cells #[.int .u64 (hiN 0), .int .u64 (loN 0)] 24))
              clear hb1 x0 x1 E3 HT1
              have y0 := E4.out.tl.hd.cell 0
              have y1 := E4.out.tl.hd.cell 1
              have f0 := E4.out.tl.hd.frozen 0
              have f1 := E4.out.tl.hd.frozen 1
              have q0 := E4.out.tl.hd.lt
              simp at y0 y1
              go_wp2
              have BK := ((E4.out.tl.hd.set_ 0 (.int .u64 0)).set_ 1 (.int .u64 0)).alloc (.cells #[.int .u64 (hiN 0), .int .u64 (loN 0)] 24)
              have BE := ((E4.out.bel.setCell (p := ⟨w.heap.size, 0, none⟩) (Nat.le_refl _) (.int .u64 0)).setCell (p := ⟨w.heap.size, 1, none⟩) (Nat.le_refl _) (.int .u64 0))
              refine bodyPost_ret (v := .tuple #[.agg #[.int .u64 0, .int .u64 0], .int .i64 2]) (results_1d Tryd.results4 rfl rfl ((BK.cell 0).trans rfl) ((BK.cell 1).trans rfl)) rfl ⟨by rw [P1.out, P2.out]; rfl, BE.alloc BE.size _⟩
          · obtain rfl : j = s.size := by omega
            have hfu := HFU.out
            rw [hfu] at hv E3
            obtain ⟨p1, p2⟩ := HOK.out hv
            have P1 := Lib.hid p1
            have P2 := Lib.hid p2
            clear hfu p1 p2
            generalize Dc.vals s.data.toList = v at *
            have x0 := E3.out.hd.cell 0
            have x1 := E3.out.hd.cell 1
            have p0 := E3.out.hd.lt
            have y0 := E3.out.tl.hd.cell 0
            have y1 := E3.out.tl.hd.cell 1
            have f0 := E3.out.tl.hd.frozen 0
            have f1 := E3.out.tl.hd.frozen 1
            have q0 := E3.out.tl.hd.lt
            simp at x0 x1 y0 y1
            go_wp2
            have BK := (E3.out.tl.hd.set_ 0 (.int .u64 (hiN v))).set_ 1 (.int .u64 (loN v))
            have BE := ((E3.out.bel.setCell (p := ⟨w.heap.size, 0, none⟩) (Nat.le_refl _) (.int .u64 (hiN v))).setCell (p := ⟨w.heap.size, 1, none⟩) (Nat.le_refl _) (.int .u64 (loN v)))
            refine bodyPost_ret (v := .tuple #[.agg #[.int .u64 (hiN v), .int .u64 (loN v)], .int .i64 0]) (results_1d Tryd.results4 rfl rfl ((BK.cell 0).trans rfl) ((BK.cell 1).trans rfl)) rfl ⟨by rw [P1.out, P2.out], BE⟩
  · clear hgd
    go_wp2_with fail
    go_loopw [24] (fun iv wr => ∃ j : Nat, j ≤ s.size ∧ iv = .int .i64 (j : Int) ∧ (∀ k, (hk : k < s.size) → k < j → Dc.dig (s[k]'hk) = true) ∧ wr = w.alloc (.cells #[.int .u64 0, .int .u64 0] 24)) (fun iv _ => s.size - (RowKit.intOf iv).toNat)
    case atStart => exact ⟨0, by omega, rfl, fun k hk h => absurd h (by omega), rfl⟩
    case round =>
      obtain ⟨j, hj, rfl, hall, rfl⟩ := hrel
      by_cases hlt : j < s.size
      · by_cases hd : Dc.dig (s[j]'hlt) = true
        · have HALL := Lib.hid (show ∀ k, (hk : k < s.size) → k < j + 1 → Dc.dig (s[k]'hk) = true from fun k hk h => by
            by_cases hkj : k = j
            · subst hkj; exact hd
            · exact hall k hk (by omega))
          have hd' := hd
          simp only [Dc.dig, Bool.and_eq_true, decide_eq_true_eq] at hd'
          obtain ⟨hd1, hd2⟩ := hd'
          have hd1' : ¬ ((s[j]'hlt).toNat : Int) < 48 := by omega
          have hd2' : ¬ 57 < ((s[j]'hlt).toNat : Int) := by omega
          clear hall hd hd1 hd2
          go_wp2
          exact ⟨⟨j + 1, by omega, by simp, HALL.out, by first | rfl | trivial⟩, by simp [RowKit.intOf]; omega⟩
        · obtain ⟨p1, p2⟩ := Dc.parse_bad hlt (by simpa using hd)
          simp only [Dc.dig, Bool.and_eq_true, decide_eq_true_eq] at hd
          have P1 := Lib.hid p1
          have P2 := Lib.hid p2
          clear hall p1 p2
          by_cases hd1 : ((s[j]'hlt).toNat : Int) < 48
          · go_wp2
            refine bodyPost_ret (v := .tuple #[.agg #[.int .u64 0, .int .u64 0], .int .i64 3]) (by simp [results, Tryd.results4, go_sem]) rfl ⟨by rw [P1.out, P2.out]; rfl, E.out.bel⟩
          · have hd2 : 57 < ((s[j]'hlt).toNat : Int) := by omega
            go_wp2
            refine bodyPost_ret (v := .tuple #[.agg #[.int .u64 0, .int .u64 0], .int .i64 3]) (by simp [results, Tryd.results4, go_sem]) rfl ⟨by rw [P1.out, P2.out]; rfl, E.out.bel⟩
      · have HAD := Lib.hid (Dc.all_of fun k hk => hall k hk (by omega))
        have HDK := Lib.hid (show ∀ k, (hk : k < s.size) → 48 ≤ (s[k]'hk).toNat ∧ (s[k]'hk).toNat ≤ 57 from fun k hk => by
          have := hall k hk (by omega)
          simpa [Dc.dig] using this)
        have E2 := Lib.hid (E.out.lay #[.int .u64 0, .int .u64 0] 24)
        have HOV := Lib.hid (fun k (hk : k ≤ s.size) h => Dc.parse_over hz HLD.out HAD.out (k := k) hk h)
        have HOK := Lib.hid (fun h => Dc.parse_ok hz HLD.out HAD.out h)
        have HVA := Lib.hid (Dc.vals_at s)
        have hlen := Dc.len_is s
        have HFU := Lib.hid (show Dc.vals (s.data.toList.take s.size) = Dc.vals s.data.toList by rw [List.take_of_length_le (by omega)])
        clear hall hlen E
        go_wp2_with fail
        go_loopw [41] (fun iv wr => ∃ j : Nat, j ≤ s.size ∧ iv = .int .i64 (j : Int) ∧ Dc.vals (s.data.toList.take j) < 2 ^ 128 ∧ Env w wr [(w.heap.size + 1, 24, #[.int .u64 (hiN (Dc.vals (s.data.toList.take j))), .int .u64 (loN (Dc.vals (s.data.toList.take j)))]), (w.heap.size, 24, #[.int .u64 0, .int .u64 0])]) (fun iv _ => s.size - (RowKit.intOf iv).toNat)
        case atStart => exact ⟨0, by omega, rfl, by simp [Dc.vals], by simpa [Dc.vals, hiN, loN] using E2.out⟩
        case round =>
          obtain ⟨j, hj, rfl, hv, hE⟩ := hrel
          have E3 := Lib.hid hE
          clear hE E2
          by_cases hlt : j < s.size
          · obtain ⟨hd1, hd2⟩ := HDK.out j hlt
            obtain ⟨d, hd⟩ : ∃ d, (s[j]'hlt).toNat = d + 48 := ⟨(s[j]'hlt).toNat - 48, by omega⟩
            have hva := HVA.out j hlt
            have hov := HOV.out (j + 1) (by omega)
            have HT1 := Lib.hid (HT.out _ hv)
            rw [hva, hd, Nat.add_sub_cancel] at hov
            rw [hd, Nat.add_sub_cancel] at hva
            generalize hvv : Dc.vals (s.data.toList.take j) = v at *
            have VA := Lib.hid hva
            have OV := Lib.hid hov
            have hd9 : d ≤ 9 := by omega
            have hbx : ((s[j]'hlt).toNat : Int) = (d : Int) + 48 := by omega
            clear hva hov hvv hd hd1 hd2
            have x0 := E3.out.hd.cell 0
            have x1 := E3.out.hd.cell 1
            have p0 := E3.out.hd.lt
            simp at x0 x1
            by_cases hx : v * 10 < 2 ^ 128
            · have e1 : fitN (v * 10) = v * 10 := if_pos hx
              have e2 : fitE (v * 10) = 0 := if_pos hx
              rw [e1, e2] at HT1
              clear e1 e2
              go_wp2_with fail
              refine (HT1.out _).mono ?_
              rintro e' w1 ⟨rfl, hb1⟩
              have E4 := Lib.hid ((E3.out.below hb1).lay #[.int .u64 (hiN (v * 10)), .int .u64 (loN (v * 10))] 24)
              clear hb1 x0 x1 E3 HT1
              have HA := Lib.hid (wide_add_any _ _ _ _ (v * 10) d ⟨rfl, rfl, hx⟩ ⟨(by unfold hiN; omega : (0 : Int) = hiN d), (by rw [IntKind.wrap_u8, IntKind.wrap_u64]; unfold loN; omega : IntKind.u64.wrap (IntKind.u8.wrap (d : Int)) = loN d), by omega⟩)
              go_upto_region 16 with fail
              generalize hW7 : World.alloc w1 _ = w7 at *
              have z0 := E4.out.hd.cell 0
              have z1 := E4.out.hd.cell 1
              simp at z0 z1
              clear hW7
              by_cases hy : v * 10 + d < 2 ^ 128
              · have e1 : fitN (v * 10 + d) = v * 10 + d := if_pos hy
                have e2 : fitE (v * 10 + d) = 0 := if_pos hy
                rw [e1, e2] at HA
                clear e1 e2
                go_region_law (go_simp; go_at_call 9; (with_reducible refine (HA.out _).mono ?_); rintro e' w9 ⟨rfl, hb9⟩; have E9 : Env w w9 [(w1.heap.size, 24, #[.int .u64 (hiN (v * 10)), .int .u64 (loN (v * 10))]), (w.heap.size + 1, 24, #[.int .u64 (hiN v), .int .u64 (loN v)]), (w.heap.size, 24, #[.int .u64 0, .int .u64 0])] := (by first | exact E4.out.below hb9 | exact E4.out.drew.below hb9); have y0 := E9.tl.hd.cell 0; have y1 := E9.tl.hd.cell 1; have f0 := E9.tl.hd.frozen 0; have f1 := E9.tl.hd.frozen 1; simp at y0 y1)
                all_goals
                  have HBK := Lib.hid ((E9.tl.hd.set_ 0 (.int .u64 (hiN (v * 10 + d)))).set_ 1 (.int .u64 (loN (v * 10 + d))))
                  have HB0 := Lib.hid ((E9.tl.tl.hd.far (p := ⟨w.heap.size + 1, 0, none⟩) (by simp) (.int .u64 (hiN (v * 10 + d)))).far (p := ⟨w.heap.size + 1, 1, none⟩) (by simp) (.int .u64 (loN (v * 10 + d))))
                  have HBE := Lib.hid ((E9.bel.setCell (p := ⟨w.heap.size + 1, 0, none⟩) (by simp) (.int .u64 (hiN (v * 10 + d)))).setCell (p := ⟨w.heap.size + 1, 1, none⟩) (by simp) (.int .u64 (loN (v * 10 + d))))
                  have hsv : Dc.vals (s.data.toList.take (j + 1)) = v * 10 + d := by rw [VA.out]; omega
                  have HSV := Lib.hid hsv
                  clear hsv E9 y0 y1 f0 f1 z0 z1
                  go_wp2
                  exact ⟨⟨j + 1, by omega, by simp, by rw [HSV.out]; exact hy, by rw [HSV.out]; exact env2 HBE.out (by omega) (by simpa using HBK.out) (Nat.le_refl _) HB0.out⟩, by simp [RowKit.intOf]; omega⟩
              · have e1 : fitN (v * 10 + d) = 0 := if_neg hy
                have e2 : fitE (v * 10 + d) = 2 := if_neg hy
                rw [e1, e2] at HA
                obtain ⟨p1, p2⟩ := OV.out (by omega)
                have P1 := Lib.hid p1
                have P2 := Lib.hid p2
                clear e1 e2 p1 p2
                go_region_law (go_simp; go_at_call 9; (with_reducible refine (HA.out _).mono ?_); rintro e' w9 ⟨rfl, hb9⟩; have E9 : Env w w9 [(w1.heap.size, 24, #[.int .u64 (hiN (v * 10)), .int .u64 (loN (v * 10))]), (w.heap.size + 1, 24, #[.int .u64 (hiN v), .int .u64 (loN v)]), (w.heap.size, 24, #[.int .u64 0, .int .u64 0])] := (by first | exact E4.out.below hb9 | exact E4.out.drew.below hb9); have y0 := E9.tl.hd.cell 0; have y1 := E9.tl.hd.cell 1; have f0 := E9.tl.hd.frozen 0; have f1 := E9.tl.hd.frozen 1; simp at y0 y1)
                all_goals
                  have k0 := E9.tl.tl.hd.cell 0
                  have k1 := E9.tl.tl.hd.cell 1
                  have l0 := E9.tl.tl.hd.frozen 0
                  have l1 := E9.tl.tl.hd.frozen 1
                  simp at k0 k1
                  have HB0 := Lib.hid ((E9.tl.tl.hd.far (p := ⟨w.heap.size + 1, 0, none⟩) (by simp) (.int .u64 (hiN 0))).far (p := ⟨w.heap.size + 1, 1, none⟩) (by simp) (.int .u64 (loN 0)))
                  have HBE := Lib.hid ((E9.bel.setCell (p := ⟨w.heap.size + 1, 0, none⟩) (by simp) (.int .u64 (hiN 0))).setCell (p := ⟨w.heap.size + 1, 1, none⟩) (by simp) (.int .u64 (loN 0)))
                  clear E9 y0 y1 f0 f1 z0 z1
                  go_wp2
                  have BK := ((HB0.out.set_ 0 (.int .u64 0)).set_ 1 (.int .u64 0))
                  refine bodyPost_ret (v := .tuple #[.agg #[.int .u64 0, .int .u64 0], .int .i64 2]) (results_1d Tryd.results4 rfl rfl ((BK.cell 0).trans rfl) ((BK.cell 1).trans rfl)) rfl ⟨by rw [P1.out, P2.out]; rfl, (HBE.out.setCell (p := ⟨w.heap.size, 0, none⟩) (Nat.le_refl _) (.int .u64 0)).setCell (p := ⟨w.heap.size, 1, none⟩) (Nat.le_refl _) (.int .u64 0)⟩
            · have e1 : fitN (v * 10) = 0 := if_neg hx
              have e2 : fitE (v * 10) = 2 := if_neg hx
              rw [e1, e2] at HT1
              obtain ⟨p1, p2⟩ := OV.out (by omega)
              have P1 := Lib.hid p1
              have P2 := Lib.hid p2
              clear e1 e2 p1 p2
              go_wp2_with fail
              refine (HT1.out _).mono ?_
              rintro e' w1 ⟨rfl, hb1⟩
              have E4 := Lib.hid (E3.out.below hb1)
              have B4 := Lib.hid (E4.out.tl.hd.alloc (.cells #[.int .u64 (hiN 0), .int .u64 (loN 0)] 24))
              clear hb1 x0 x1 E3 HT1
              have y0 := E4.out.tl.hd.cell 0
              have y1 := E4.out.tl.hd.cell 1
              have f0 := E4.out.tl.hd.frozen 0
              have f1 := E4.out.tl.hd.frozen 1
              have q0 := E4.out.tl.hd.lt
              simp at y0 y1
              go_wp2
              have BK := ((E4.out.tl.hd.set_ 0 (.int .u64 0)).set_ 1 (.int .u64 0)).alloc (.cells #[.int .u64 (hiN 0), .int .u64 (loN 0)] 24)
              have BE := ((E4.out.bel.setCell (p := ⟨w.heap.size, 0, none⟩) (Nat.le_refl _) (.int .u64 0)).setCell (p := ⟨w.heap.size, 1, none⟩) (Nat.le_refl _) (.int .u64 0))
              refine bodyPost_ret (v := .tuple #[.agg #[.int .u64 0, .int .u64 0], .int .i64 2]) (results_1d Tryd.results4 rfl rfl ((BK.cell 0).trans rfl) ((BK.cell 1).trans rfl)) rfl ⟨by rw [P1.out, P2.out]; rfl, BE.alloc BE.size _⟩
          · obtain rfl : j = s.size := by omega
            have hfu := HFU.out
            rw [hfu] at hv E3
            obtain ⟨p1, p2⟩ := HOK.out hv
            have P1 := Lib.hid p1
            have P2 := Lib.hid p2
            clear hfu p1 p2
            generalize Dc.vals s.data.toList = v at *
            have x0 := E3.out.hd.cell 0
            have x1 := E3.out.hd.cell 1
            have p0 := E3.out.hd.lt
            have y0 := E3.out.tl.hd.cell 0
            have y1 := E3.out.tl.hd.cell 1
            have f0 := E3.out.tl.hd.frozen 0
            have f1 := E3.out.tl.hd.frozen 1
            have q0 := E3.out.tl.hd.lt
            simp at x0 x1 y0 y1
            go_wp2
            have BK := (E3.out.tl.hd.set_ 0 (.int .u64 (hiN v))).set_ 1 (.int .u64 (loN v))
            have BE := ((E3.out.bel.setCell (p := ⟨w.heap.size, 0, none⟩) (Nat.le_refl _) (.int .u64 (hiN v))).setCell (p := ⟨w.heap.size, 1, none⟩) (Nat.le_refl _) (.int .u64 (loN v)))
            refine bodyPost_ret (v := .tuple #[.agg #[.int .u64 (hiN v), .int .u64 (loN v)], .int .i64 0]) (results_1d Tryd.results4 rfl rfl ((BK.cell 0).trans rfl) ((BK.cell 1).trans rfl)) rfl ⟨by rw [P1.out, P2.out], BE⟩
end Go.Proofs.YtmgkkbmcdnhdeabDoor
