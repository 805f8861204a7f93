/- The reference's Num. -/
import Derived.Test.YtmgkkbmcdnhdeabDoorRa0
import Derived.Test.YtmgkkbmcdnhdeabDoorRc0
namespace Go.Proofs.YtmgkkbmcdnhdeabDoor
open Go.RowKit
set_option linter.unusedSimpArgs false
set_option linter.unusedVariables false

def NumRel (l : List Bool) (w : World) (k : Nat) (wr : World) : Prop :=
  k ≤ l.length ∧ Bt.val (l.take k) < 2 ^ 128 ∧ Blk wr (w.heap.size + 1) 24 #[.int .u64 (hiN (Bt.val (l.take k))), .int .u64 (loN (Bt.val (l.take k)))] ∧
    Blk wr w.heap.size 24 #[.int .u64 0, .int .u64 0] ∧ Below w.heap.size w wr

theorem num_hi (m k : Nat) (h : m < 2 ^ k) (h1 : 63 < k) (h2 : k ≤ 127) :
    IntKind.u64.wrap (hiN m + IntKind.u64.wrap (2 ^ (k - 64))) = hiN (m + 2 ^ k) ∧ loN m = loN (m + 2 ^ k) := by
  obtain ⟨j, rfl⟩ : ∃ j, k = j + 64 := ⟨k - 64, by omega⟩
  have e1 : 2 ^ (j + 64) = 2 ^ j * 18446744073709551616 := by rw [Nat.pow_add]
  have e2 : 2 ^ j ≤ 2 ^ 63 := Bt.pow_le_pow (by omega)
  rw [e1] at h ⊢
  rw [Nat.add_sub_cancel]
  have e3 : ((2 : Int) ^ j) = ((2 ^ j : Nat) : Int) := by simp
  rw [e3]
  generalize 2 ^ j = q at *
  rw [IntWalk.u64_in (q : Int) (by omega), IntWalk.u64_in _ (by unfold hiN; omega)]
  unfold hiN loN
  omega

theorem num_lo (m k : Nat) (h : m < 2 ^ k) (h2 : k ≤ 63) :
    IntKind.u64.wrap (loN m + IntKind.u64.wrap (2 ^ k)) = loN (m + 2 ^ k) ∧ hiN m = hiN (m + 2 ^ k) := by
  have e2 : 2 ^ k ≤ 2 ^ 63 := Bt.pow_le_pow (by omega)
  have e3 : ((2 : Int) ^ k) = ((2 ^ k : Nat) : Int) := by simp
  rw [e3]
  generalize 2 ^ k = q at *
  rw [IntWalk.u64_in (q : Int) (by omega), IntWalk.u64_in _ (by unfold loN; omega)]
  unfold hiN loN
  omega

set_option maxHeartbeats 1600000 in
set_option maxRecDepth 100000 in
theorem num_ok (A : Option Addr) (l : List Bool) (c : Nat) (w : World) (h : Reads w w.heap.size 1 A l.length (l.map Value.bool)) (h1 : l.length ≤ 1000000) (hv : Bt.val l < 2 ^ 128) :
    Calls Tryd.prog 15 #[.slice A l.length c] w fun e w' => e = .returned (.tuple #[.agg #[.int .u64 (hiN (Bt.val l)), .int .u64 (loN (Bt.val l))], .bool true]) ∧ Below w.heap.size w w' := by
  have HVV := Lib.hid hv
  clear hv
  go_enter Tryd.func15, Tryd.ntmps15
  go_wp2
  go_loopw [9] (fun iv wr => ∃ (k : Nat), iv = .int .i64 k ∧ NumRel l w k wr) (fun iv _ => l.length - (intOf iv).toNat)
  case atStart =>
    exact ⟨0, rfl, Nat.zero_le _, by simp, by simpa [hiN, loN] using Blk.new (w.alloc (.cells #[.int .u64 0, .int .u64 0] 24)) 24 #[.int .u64 0, .int .u64 0], (Blk.new _ _ _).alloc _, ((Below.refl _ _).alloc (Nat.le_refl _) _).alloc (by simp) _⟩
  case round =>
    obtain ⟨k, rfl, hk, hlt, hblk, hres, hbel⟩ := hrel
    have hsz := hblk.lt
    have HL := Lib.hid hlt
    have HB := Lib.hid hbel
    have HS := Lib.hid hres
    generalize hm : Bt.val (l.take k) = m at *
    have HM := Lib.hid hm
    have hg := hiN_bd m hlt
    have hg2 := loN_bd m
    obtain ⟨g0, g3⟩ := hg
    obtain ⟨g1, g2⟩ := hg2
    clear hm hlt hres
    have c0 := hblk.cell 0
    have c1 := hblk.cell 1
    simp at c0 c1
    have f0 := hblk.frozen 0
    have f1 := hblk.frozen 1
    by_cases hkl : k < l.length
    · obtain ⟨b, off, rfl, hb, hc⟩ := (h.below hbel (Nat.le_refl _)).addr (by omega)
      have hcell := hc k (.bool l[k]) (by simp [hkl])
      clear hc h hbel
      by_cases hbk : l[k] = true
      · rw [hbk] at hcell
        have HBK := Lib.hid hbk
        clear hbk
        rcases Nat.lt_or_ge 127 k with h2 | h2
        · exfalso
          have e4 : 2 ^ 128 ≤ 2 ^ k := Bt.pow_le_pow (by omega)
          have e5 := HVV.out
          have := val_true_ge l k hkl HBK.out
          omega
        · rcases Nat.lt_or_ge 63 k with h3 | h3
          · go_wp2
            go_region
            go_wp2
            go_roundw
            case rel =>
              have e1 := take_true l k hkl HBK.out
              have e2 := take_lt l k hk
              have e3 := val_take_le l (k + 1) hkl
              rw [HM.out] at e1 e2
              obtain ⟨n1, n2⟩ := num_hi m k e2 h3 h2
              refine ⟨k + 1, by go_num, hkl, by have := HVV.out; omega, ?_, ?_, ?_⟩
              · rw [e1, ← n1, ← n2]; exact hblk.set_ 0 _
              · exact HS.out.far (by simp) _
              · exact (HB.out.setCell (by simp) _).drew
            case measure => simp [intOf]; omega
          · go_wp2
            go_region
            go_wp2
            go_roundw
            case rel =>
              have e1 := take_true l k hkl HBK.out
              have e2 := take_lt l k hk
              have e3 := val_take_le l (k + 1) hkl
              rw [HM.out] at e1 e2
              obtain ⟨n1, n2⟩ := num_lo m k e2 h3
              refine ⟨k + 1, by go_num, hkl, by have := HVV.out; omega, ?_, ?_, ?_⟩
              · rw [e1, ← n1, ← n2]; exact hblk.set_ 1 _
              · exact HS.out.far (by simp) _
              · exact (HB.out.setCell (by simp) _).drew
            case measure => simp [intOf]; omega
      · have hbk' : l[k] = false := by simpa using hbk
        rw [hbk'] at hcell
        have HBK := Lib.hid hbk'
        clear hbk hbk'
        go_wp2
        go_roundw
        case rel =>
          have e1 := take_false l k hkl HBK.out
          rw [HM.out] at e1
          exact ⟨k + 1, by go_num, hkl, by rw [e1]; exact HL.out, by rw [e1]; exact hblk, HS.out, HB.out⟩
        case measure => simp [intOf]; omega
    · have r0 := HS.out.cell 0
      have r1 := HS.out.cell 1
      simp at r0 r1
      have q0 := HS.out.frozen 0
      have q1 := HS.out.frozen 1
      go_wp2
      have e1 : Bt.val l = m := by rw [← HM.out, List.take_of_length_le (by omega)]
      refine bodyPost_ret (v := .tuple #[.agg #[.int .u64 (hiN m), .int .u64 (loN m)], .bool true]) (by simp [results, Tryd.results15, go_sem, r0, r1]) rfl ⟨by rw [e1], ?_⟩
      exact (HB.out.setCell (by simp) _).setCell (by simp) _
set_option maxHeartbeats 1600000 in
set_option maxRecDepth 100000 in
theorem num_large (A : Option Addr) (l : List Bool) (c : Nat) (w : World) (h : Reads w w.heap.size 1 A l.length (l.map Value.bool)) (h1 : l.length ≤ 1000000) (hv : 2 ^ 128 ≤ Bt.val l) :
    Calls Tryd.prog 15 #[.slice A l.length c] w fun e w' => e = .returned (.tuple #[.agg #[.int .u64 0, .int .u64 0], .bool false]) ∧ Below w.heap.size w w' := by
  have HVV := Lib.hid hv
  clear hv
  go_enter Tryd.func15, Tryd.ntmps15
  go_wp2
  go_loopw [9] (fun iv wr => ∃ (k : Nat), iv = .int .i64 k ∧ NumRel l w k wr) (fun iv _ => l.length - (intOf iv).toNat)
  case atStart =>
    exact ⟨0, rfl, Nat.zero_le _, by simp, by simpa [hiN, loN] using Blk.new (w.alloc (.cells #[.int .u64 0, .int .u64 0] 24)) 24 #[.int .u64 0, .int .u64 0], (Blk.new _ _ _).alloc _, ((Below.refl _ _).alloc (Nat.le_refl _) _).alloc (by simp) _⟩
  case round =>
    obtain ⟨k, rfl, hk, hlt, hblk, hres, hbel⟩ := hrel
    have hsz := hblk.lt
    have HL := Lib.hid hlt
    have HB := Lib.hid hbel
    have HS := Lib.hid hres
    generalize hm : Bt.val (l.take k) = m at *
    have HM := Lib.hid hm
    have hg := hiN_bd m hlt
    have hg2 := loN_bd m
    obtain ⟨g0, g3⟩ := hg
    obtain ⟨g1, g2⟩ := hg2
    clear hm hlt hres
    have c0 := hblk.cell 0
    have c1 := hblk.cell 1
    simp at c0 c1
    have f0 := hblk.frozen 0
    have f1 := hblk.frozen 1
    by_cases hkl : k < l.length
    · obtain ⟨b, off, rfl, hb, hc⟩ := (h.below hbel (Nat.le_refl _)).addr (by omega)
      have hcell := hc k (.bool l[k]) (by simp [hkl])
      clear hc h hbel
      by_cases hbk : l[k] = true
      · rw [hbk] at hcell
        have HBK := Lib.hid hbk
        clear hbk
        rcases Nat.lt_or_ge 127 k with h2 | h2
        · have r0 := HS.out.cell 0
          have r1 := HS.out.cell 1
          simp at r0 r1
          have q0 := HS.out.frozen 0
          have q1 := HS.out.frozen 1
          go_wp2
          refine bodyPost_ret (v := .tuple #[.agg #[.int .u64 0, .int .u64 0], .bool false]) (by simp [results, Tryd.results15, go_sem, r0, r1]) rfl ⟨rfl, ?_⟩
          exact (HB.out.setCell (by simp) _).setCell (by simp) _
        · rcases Nat.lt_or_ge 63 k with h3 | h3
          · go_wp2
            go_region
            go_wp2
            go_roundw
            case rel =>
              have e1 := take_true l k hkl HBK.out
              have e2 := take_lt l k hk
              have e3 := val_take_le l (k + 1) hkl
              rw [HM.out] at e1 e2
              obtain ⟨n1, n2⟩ := num_hi m k e2 h3 h2
              refine ⟨k + 1, by go_num, hkl, by rw [e1]; have e9 : 2 ^ (k + 1) ≤ 2 ^ 128 := Bt.pow_le_pow (by omega); rw [Nat.pow_succ] at e9; omega, ?_, ?_, ?_⟩
              · rw [e1, ← n1, ← n2]; exact hblk.set_ 0 _
              · exact HS.out.far (by simp) _
              · exact (HB.out.setCell (by simp) _).drew
            case measure => simp [intOf]; omega
          · go_wp2
            go_region
            go_wp2
            go_roundw
            case rel =>
              have e1 := take_true l k hkl HBK.out
              have e2 := take_lt l k hk
              have e3 := val_take_le l (k + 1) hkl
              rw [HM.out] at e1 e2
              obtain ⟨n1, n2⟩ := num_lo m k e2 h3
              refine ⟨k + 1, by go_num, hkl, by rw [e1]; have e9 : 2 ^ (k + 1) ≤ 2 ^ 128 := Bt.pow_le_pow (by omega); rw [Nat.pow_succ] at e9; omega, ?_, ?_, ?_⟩
              · rw [e1, ← n1, ← n2]; exact hblk.set_ 1 _
              · exact HS.out.far (by simp) _
              · exact (HB.out.setCell (by simp) _).drew
            case measure => simp [intOf]; omega
      · have hbk' : l[k] = false := by simpa using hbk
        rw [hbk'] at hcell
        have HBK := Lib.hid hbk'
        clear hbk hbk'
        go_wp2
        go_roundw
        case rel =>
          have e1 := take_false l k hkl HBK.out
          rw [HM.out] at e1
          exact ⟨k + 1, by go_num, hkl, by rw [e1]; exact HL.out, by rw [e1]; exact hblk, HS.out, HB.out⟩
        case measure => simp [intOf]; omega
    · exfalso
      have e1 : Bt.val l = m := by rw [← HM.out, List.take_of_length_le (by omega)]
      have := HVV.out
      have := HL.out
      omega

end Go.Proofs.YtmgkkbmcdnhdeabDoor
