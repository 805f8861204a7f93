/- crc.table, walked. -/
import Derived.Test.YthimchhnhhchkaaGreatDoorM02
import Derived.Test.YthimchhnhhchkaaGreatDoorM06
namespace Go.Proofs.YthimchhnhhchkaaGreatDoor
open Go.RowKit
set_option linter.unusedSimpArgs false
set_option linter.unusedVariables false

def tabA (f : Nat → Nat) : Array Value := ((List.range 256).map fun j => Value.int .u32 (f j : Int)).toArray
theorem tabA_size (f : Nat → Nat) : (tabA f).size = 256 := by simp [tabA]
theorem tabA_at (f : Nat → Nat) (j : Nat) (h : j < 256) : (tabA f)[j]? = some (.int .u32 (f j : Int)) := by simp [tabA, h]
theorem tabA_one (f : Nat → Nat) : (tabA f).all (·.oneCell') = true := by
  rw [Array.all_eq_true_iff_forall_mem]
  intro v hv
  simp [tabA] at hv
  obtain ⟨j, _, rfl⟩ := hv
  rfl
theorem tabA_set (f : Nat → Nat) (k v : Nat) : (tabA f).setIfInBounds k (.int .u32 (v : Int)) = tabA (fun j => if j = k then v else f j) := by
  apply Array.ext_getElem?
  intro i
  rw [Array.getElem?_setIfInBounds]
  by_cases hi : i < 256
  · rw [tabA_at _ i hi, tabA_at _ i hi, tabA_size]
    by_cases e : k = i
    · subst e; simp [hi]
    · have e' : ¬ i = k := fun h => e h.symm
      simp [e, e']
  · have h1 : (tabA (fun j => if j = k then v else f j))[i]? = none := Array.getElem?_eq_none (by rw [tabA_size]; omega)
    have h2 : (tabA f)[i]? = none := Array.getElem?_eq_none (by rw [tabA_size]; omega)
    rw [h1, h2, tabA_size]
    by_cases e : k = i
    · subst e; simp [hi]
    · simp [e]
theorem tab_info : (Tryz.prog.info? 240).map (fun i => (i.zero, i.size)) = some (some (.agg (tabA fun _ => 0)), 256) := by kernel_rfl
theorem and_one (c : Nat) (h : c < 4294967296) : (bits BinOp.and IntKind.u32 (c : Int) 1 == 1) = (c % 2 == 1) := by
  have := u32_and_nat c 1 h (by omega)
  rw [show ((1 : Nat) : Int) = 1 from rfl] at this
  rw [this, nat_mask1, Bool.eq_iff_iff, beq_iff_eq, beq_iff_eq]
  omega

set_option maxHeartbeats 1000000 in
set_option maxRecDepth 100000 in
theorem table_any (w : World) :
    Calls Tryz.prog 197 #[] w fun e w' => e = .returned (.agg (tabA (Crc.sts 8))) ∧ Below w.heap.size w w' := by
  obtain ⟨hz, hi⟩ := zero_of_info tab_info
  have HI := Lib.hid hi
  generalize hZ : tabA (fun _ => 0) = Z at *
  have HZ := Lib.hid hZ
  have E := Lib.hid (((Env.start w).lay Z 240).lay Z 240)
  clear hZ hi
  go_enter Tryz.func197, Tryz.ntmps197
  go_wp2
  go_loopw [2, 3, 4, 9] (fun _ _ i _ wr => ∃ k : Nat, k ≤ 256 ∧ i = .int .i64 k ∧ Env w wr [(w.heap.size + 1, 240, tabA fun j => if j < k then Crc.sts 8 j else 0), (w.heap.size, 240, Z)]) (fun _ _ i _ _ => 256 - (intOf i).toNat)
  case atStart =>
    refine ⟨0, by omega, rfl, ?_⟩
    have e : (tabA fun j => if j < 0 then Crc.sts 8 j else 0) = Z := by rw [← HZ.out]; simp
    rw [e]
    simpa using E.out
  case round =>
    obtain ⟨k, hk, rfl, hE⟩ := hrel
    have F := Lib.hid hE
    clear hE
    by_cases hlt : k < 256
    · have x0 := F.out.hd.cell k
      rw [tabA_at _ k hlt] at x0
      have f0 := F.out.hd.frozen k
      go_wp2
      go_loop [3, 9] (fun c i => ∃ j : Nat, j ≤ 8 ∧ i = .int .i64 j ∧ c = .int .u32 (Crc.sts j k : Nat)) (fun _ i => 8 - (intOf i).toNat)
      case atStart => exact ⟨0, by omega, rfl, rfl⟩
      case round =>
        obtain ⟨j, hj, rfl, rfl⟩ := hrel
        have hb : Crc.sts j k < 4294967296 := Crc.sts_lt (by omega) j
        have HST := Lib.hid (show Crc.sts (j + 1) k = Crc.st (Crc.sts j k) from rfl)
        have H8 := Lib.hid (show j = 8 → Crc.sts 8 k = Crc.sts j k from fun e => by rw [e])
        generalize Crc.sts j k = c at *
        by_cases hjl : j < 8
        · have hbit := and_one c hb
          rcases Nat.mod_two_eq_zero_or_one c with hp | hp
          · have hq : (bits BinOp.and IntKind.u32 (c : Int) 1 == 1) = false := by rw [hbit]; simp [hp]
            have HV := Lib.hid (show Crc.st c = c / 2 by unfold Crc.st; rw [if_neg (by omega)])
            clear hbit hp
            go_wp2
            go_round
            case rel => exact ⟨j + 1, hjl, by simp, by rw [HST.out, HV.out]; simp⟩
            case measure => simp [intOf]; omega
          · have hq : (bits BinOp.and IntKind.u32 (c : Int) 1 == 1) = true := by rw [hbit]; simp [hp]
            have HV := Lib.hid (show Crc.st c = (c / 2) ^^^ 3988292384 by unfold Crc.st Crc.poly; rw [if_pos hp])
            have HXO := Lib.hid (show bits BinOp.xor IntKind.u32 ((c : Int) / 2) 3988292384 = (((c / 2) ^^^ 3988292384 : Nat) : Int) by
              have := u32_xor_nat (c / 2) 3988292384 (by omega) (by omega)
              simpa using this)
            clear hbit hp
            go_wp2
            go_round
            case rel => exact ⟨j + 1, hjl, by simp, by rw [HST.out, HV.out, HXO.out]⟩
            case measure => simp [intOf]; omega
        · have h8 : j = 8 := by omega
          have HV := Lib.hid (H8.out h8)
          have hj8 : 8 ≤ j := by omega
          clear h8
          go_wp2
          go_roundw
          case rel =>
            refine ⟨k + 1, hlt, by simp, ?_⟩
            have := F.out.setHd (by simp) k (.int .u32 (c : Int))
            rw [tabA_set] at this
            have e : (fun j => if j = k then c else if j < k then Crc.sts 8 j else 0) = (fun j => if j < k + 1 then Crc.sts 8 j else 0) := by
              funext j
              by_cases e1 : j = k
              · subst e1; rw [if_pos rfl, if_pos (by omega), HV.out]
              · rw [if_neg e1]
                by_cases e2 : j < k
                · rw [if_pos e2, if_pos (by omega)]
                · rw [if_neg e2, if_neg (by omega)]
            rw [e] at this
            exact this
          case measure => simp [intOf]; omega
    · have hk2 : k = 256 := by omega
      have HT := Lib.hid (show tabA (fun j => if j < k then Crc.sts 8 j else 0) = tabA (Crc.sts 8) by
        unfold tabA
        congr 1
        apply List.map_congr_left
        intro j hj
        have : j < k := by simp at hj; omega
        simp [this])
      have hk3 : 256 ≤ k := by omega
      clear hk2
      have F2 := Lib.hid (show Env w wr [(w.heap.size + 1, 240, tabA (Crc.sts 8)), (w.heap.size, 240, Z)] by rw [← HT.out]; exact F.out)
      have F3 := Lib.hid (show Env w wr [(w.heap.size, 240, Z)] from F2.out.tl)
      have hT1 := tabA_one (Crc.sts 8)
      have hTs := tabA_size (Crc.sts 8)
      have HIT := Lib.hid (show (Tryz.prog.info? 240).map (·.size) = some (tabA (Crc.sts 8)).size by rw [hTs]; exact HI.out)
      have HZS := Lib.hid (show Z.size = (tabA (Crc.sts 8)).size by rw [hTs, ← HZ.out, tabA_size])
      have HT1 := Lib.hid hT1
      clear hT1 hTs F HT
      generalize hTT : tabA (Crc.sts 8) = T at *
      have HTT := Lib.hid hTT
      clear hTT
      go_wp2_with (first
        | (refine wpList_load_row rfl 240 _ rfl (w.heap.size + 1) rfl 240 T (0, 0) _ F2.out.hd Tryz.underlying240 rfl HIT.out ?_)
        | (refine wpList_store_row rfl 240 _ _ rfl w.heap.size Z T 240 rfl rfl F3.out.hd HIT.out HZS.out HT1.out ?_))
      refine bodyPost_ret (v := .agg T) (results_cell_row Tryz.results197 _ _ w.heap.size 240 T (0, 0) _ rfl (setRow_heap wr w.heap.size Z T 240 (0, 0) F3.out.hd) Tryz.underlying240 rfl HIT.out) rfl ⟨by rw [← HTT.out], ?_⟩
      exact below_row F3.out.bel (Nat.le_refl _) _
end Go.Proofs.YthimchhnhhchkaaGreatDoor
