/- hwref.Parse, walked. -/
import Derived.Test.YtmgkkbmcdnhdeabDoorDecW
import Derived.Test.YtmgkkbmcdnhdeabDoorRp
import Derived.Test.YtmgkkbmcdnhdeabDoorRcN
import Derived.Test.YtmgkkbmcdnhdeabDoorRa
import Derived.Test.YtmgkkbmcdnhdeabDoorRw
import Derived.Test.YtmgkkbmcdnhdeabDoorIdx
namespace Go.Proofs.YtmgkkbmcdnhdeabDoor
open Go.RowKit Go.Lib
set_option linter.unusedSimpArgs false
set_option linter.unusedVariables false

theorem ten_reads (w : World) : Reads (w.alloc (.cells #[.bool false, .bool true, .bool false, .bool true] 4)) (w.alloc (.cells #[.bool false, .bool true, .bool false, .bool true] 4)).heap.size 1 (some ⟨w.heap.size, 0, none⟩) 4 ([false, true, false, true].map Value.bool) :=
  ⟨rfl, fun _ => ⟨_, rfl, by simp, fun j u hj => by
    have hc := (Blk.new w 4 #[.bool false, .bool true, .bool false, .bool true]).cell j
    have hadd : (⟨w.heap.size, 0, none⟩ : Addr).add j = ⟨w.heap.size, j, none⟩ := by unfold Addr.add; split <;> simp_all
    rw [hadd, hc]
    simpa using hj⟩⟩

set_option maxHeartbeats 4000000 in
set_option maxRecDepth 100000 in
theorem rparse_bad (s : ByteArray) (hs : s.size ≤ maxLen) (hf : s.size = 0 ∨ Dc.lead s = true ∨ Dc.allD s = false) (w : World) : Calls Tryd.prog 5 #[.string s] w (ParseIs s w) := by
  have hml : s.size ≤ 9223372036854775807 := by unfold maxLen at hs; omega
  have E := Lib.hid ((Env.start w).lay #[.int .u64 0, .int .u64 0] 24)
  have HT := Lib.hid (trim_any s hml)
  obtain ⟨p1, p2⟩ := Dc.parse_form hf
  unfold ParseIs
  rw [p1, p2, show hiN 0 = 0 by decide, show loN 0 = 0 by decide]
  clear p1 p2
  by_cases hz : s.size = 0
  · have hemp := empty_true s hz
    clear hf
    go_enter Tryd.func5, Tryd.ntmps5
    go_wp2
    refine bodyPost_ret (v := .tuple #[.agg #[.int .u64 0, .int .u64 0], .int .i64 3]) (by simp [results, Tryd.results5, go_sem]) rfl ⟨rfl, E.out.bel⟩
  have hemp := empty_false s hz
  have hpos : 0 < s.size := by omega
  cases hd : Dc.allD s
  · have hne := empty_false _ (trim_not hd)
    generalize (⟨(Lib.trimS s.data.toList digL).toArray⟩ : ByteArray) = t at *
    clear hf hd
    go_enter Tryd.func5, Tryd.ntmps5
    go_wp2_with fail
    refine (HT.out _).mono ?_
    rintro e' w1 ⟨rfl, hb1⟩
    have E1 := Lib.hid (E.out.below hb1)
    have y0 := E1.out.hd.cell 0
    have y1 := E1.out.hd.cell 1
    have f0 := E1.out.hd.frozen 0
    have f1 := E1.out.hd.frozen 1
    have q0 := E1.out.hd.lt
    simp at y0 y1
    clear hb1
    go_wp2
    have BK := ((E1.out.hd.set_ 0 (.int .u64 0)).set_ 1 (.int .u64 0))
    refine bodyPost_ret (v := .tuple #[.agg #[.int .u64 0, .int .u64 0], .int .i64 3]) (results_1d Tryd.results5 rfl rfl ((BK.cell 0).trans rfl) ((BK.cell 1).trans rfl)) rfl ⟨rfl, (E1.out.bel.setCell (p := ⟨w.heap.size, 0, none⟩) (Nat.le_refl _) (.int .u64 0)).setCell (p := ⟨w.heap.size, 1, none⟩) (Nat.le_refl _) (.int .u64 0)⟩
  · have hlead : Dc.lead s = true := by
      rcases hf with h | h | h
      · exact absurd h hz
      · exact h
      · rw [hd] at h; cases h
    have htr := trim_all hd
    rw [htr] at HT
    have HLS := hlead
    unfold Dc.lead at HLS
    rw [Dc.byte0 hpos] at HLS
    simp only [Bool.and_eq_true, decide_eq_true_eq] at HLS
    obtain ⟨hl1, hl2⟩ := HLS
    have hb0 : ((s[0]).toNat : Int) = 48 := by omega
    have hne0 : (s.toList == [48]) = false := by
      rw [ByteArray.toList_eq]
      cases hq : s.data.toList with
      | nil => rfl
      | cons b l =>
        cases l with
        | nil => have := Dc.len_is s; rw [hq] at this; simp at this; omega
        | cons => simp
    clear hf hd htr hlead hl2
    go_enter Tryd.func5, Tryd.ntmps5
    go_wp2_with fail
    refine (HT.out _).mono ?_
    rintro e' w1 ⟨rfl, hb1⟩
    have E1 := Lib.hid (E.out.below hb1)
    have y0 := E1.out.hd.cell 0
    have y1 := E1.out.hd.cell 1
    have f0 := E1.out.hd.frozen 0
    have f1 := E1.out.hd.frozen 1
    have q0 := E1.out.hd.lt
    simp at y0 y1
    clear hb1
    go_wp2
    have BK := ((E1.out.hd.set_ 0 (.int .u64 0)).set_ 1 (.int .u64 0))
    refine bodyPost_ret (v := .tuple #[.agg #[.int .u64 0, .int .u64 0], .int .i64 3]) (results_1d Tryd.results5 rfl rfl ((BK.cell 0).trans rfl) ((BK.cell 1).trans rfl)) rfl ⟨rfl, (E1.out.bel.setCell (p := ⟨w.heap.size, 0, none⟩) (Nat.le_refl _) (.int .u64 0)).setCell (p := ⟨w.heap.size, 1, none⟩) (Nat.le_refl _) (.int .u64 0)⟩

set_option maxHeartbeats 4000000 in
set_option maxRecDepth 100000 in
theorem rparse_good (s : ByteArray) (hs : s.size ≤ maxLen) (hz : s.size ≠ 0) (hl : Dc.lead s = false) (hd : Dc.allD s = true) (w : World) : Calls Tryd.prog 5 #[.string s] w (ParseIs s w) := by
  have hml : s.size ≤ 9223372036854775807 := by unfold maxLen at hs; omega
  have E := Lib.hid ((Env.start w).lay #[.int .u64 0, .int .u64 0] 24)
  have HT := Lib.hid (trim_any s hml)
  have htr := trim_all hd
  rw [htr] at HT
  have hemp := empty_false s hz
  have hpos : 0 < s.size := by omega
  have HD := Lib.hid hd
  have HL := Lib.hid hl
  have hg : (((s[0]).toNat : Int) == 48) = false ∨ ((((s[0]).toNat : Int) == 48) = true ∧ (s.toList == [48]) = true) := by
    by_cases h : (s[0]).toNat = 48
    · right
      have h1 : ¬ 1 < s.size := fun h1 => by rw [Dc.lead_of h1 h] at hl; cases hl
      refine ⟨by simp [h], ?_⟩
      rw [ByteArray.toList_eq]
      have hlen := Dc.len_is s
      have h0 := Dc.byte0 hpos
      cases hq : s.data.toList with
      | nil => rw [hq] at hlen; simp at hlen; omega
      | cons b l =>
        cases l with
        | nil =>
          rw [hq] at h0
          have : b = 48 := by
            have h2 : b = s[0] := by simpa using h0
            rw [h2]; apply UInt8.toNat_inj.1; rw [h]; rfl
          rw [this]; rfl
        | cons c l => rw [hq] at hlen; simp at hlen; omega
    · left
      simp
      omega
  clear htr hl hd
  go_enter Tryd.func5, Tryd.ntmps5
  go_wp2_with fail
  refine (HT.out _).mono ?_
  rintro e' w1 ⟨rfl, hb1⟩
  have E1 := Lib.hid (E.out.below hb1)
  clear hb1 HT E
  rcases hg with hg | ⟨hg, hg2⟩
  · go_wp2_with fail
    rw [Go.Lib.run_convert_string_bytes w1 _ _ 5 s Tryd.underlying9 Tryd.underlying32 Tryd.underlying5]
    rw [Result.andThen]
    have HC := Lib.hid (bytesWorld_cell w1 5 s)
    have HB := Lib.hid (bytesWorld_below w1 5 s)
    generalize bytesWorld w1 5 s = w2 at *
    generalize grownCap w1 s.size 0 5 = cc at *
    have E2 := Lib.hid (E1.out.below HB.out)
    have HDK := Lib.hid (show ∀ k, k < s.size → 48 ≤ (s.data.toList.getD k 0).toNat ∧ (s.data.toList.getD k 0).toNat ≤ 57 from fun k hk => by
      have h1 : k < s.data.toList.length := by rw [Dc.len_is]; exact hk
      have := mem_dig HD.out (s.data.toList.getD k 0) (by rw [List.getD_eq_getElem?_getD, List.getElem?_eq_getElem h1]; exact List.getElem_mem h1)
      simpa [Dc.dig] using this)
    clear E1 HB
    go_wp2_with fail
    go_loopw [31] (fun iv wr => ∃ j : Nat, j ≤ s.size ∧ iv = .int .i64 (j : Int) ∧ wr = w2) (fun iv _ => s.size - (RowKit.intOf iv).toNat)
    case atStart => exact ⟨0, by omega, rfl, rfl⟩
    case round =>
      obtain ⟨j, hj, rfl, rfl⟩ := hrel
      by_cases hlt : j < s.size
      · have hcell := HC.out j hlt
        obtain ⟨hd1, hd2⟩ := HDK.out j hlt
        generalize (s.data.toList.getD j 0).toNat = b at *
        have hd1' : ¬ (b : Int) < 48 := by omega
        have hd2' : ¬ 57 < (b : Int) := by omega
        go_wp2
        exact ⟨⟨j + 1, by omega, by simp, by first | rfl | trivial⟩, by simp [RowKit.intOf]; omega⟩
      · have y0 := E2.out.hd.cell 0
        have y1 := E2.out.hd.cell 1
        have f0 := E2.out.hd.frozen 0
        have f1 := E2.out.hd.frozen 1
        have q0 := E2.out.hd.lt
        simp at y0 y1
        clear HC HDK
        by_cases h39 : 39 < s.size
        · obtain ⟨p1, p2⟩ := Dc.parse_large hz HL.out HD.out (long_large HD.out HL.out h39)
          have P1 := Lib.hid p1
          have P2 := Lib.hid p2
          have h39' : 39 < (s.size : Int) := by omega
          clear p1 p2
          go_wp2
          have BK := ((E2.out.hd.set_ 0 (.int .u64 0)).set_ 1 (.int .u64 0))
          refine bodyPost_ret (v := .tuple #[.agg #[.int .u64 0, .int .u64 0], .int .i64 2]) (results_1d Tryd.results5 rfl rfl ((BK.cell 0).trans rfl) ((BK.cell 1).trans rfl)) rfl ⟨by rw [P1.out, P2.out]; rfl, (E2.out.bel.setCell (p := ⟨w.heap.size, 0, none⟩) (Nat.le_refl _) (.int .u64 0)).setCell (p := ⟨w.heap.size, 1, none⟩) (Nat.le_refl _) (.int .u64 0)⟩
        · have h39' : ¬ 39 < (s.size : Int) := by omega
          by_cases hv : Dc.vals s.data.toList < 2 ^ 128
          · obtain ⟨p1, p2⟩ := Dc.parse_ok hz HL.out HD.out hv
            have P1 := Lib.hid p1
            have P2 := Lib.hid p2
            have HV := Lib.hid hv
            clear p1 p2 y0 y1 f0 f1
            by_cases h2 : s.size = 39
            · have h2' : ((s.size : Int) == 39) = true := by simp [h2]
              rcases same_small HD.out h2 hv with hm | ⟨hm, hm2⟩
              · unfold mostL at hm
                clear hv
                go_wp2_with fail
                obtain rfl : j = s.size := by omega
                clear h2 h2'
                obtain ⟨wo, rfl⟩ : ∃ wo, wo = wr := ⟨_, rfl⟩
                have HVA := Lib.hid (Dc.vals_at s)
                have hlen := Dc.len_is s
                have HFU := Lib.hid (show Dc.vals (s.data.toList.take s.size) = Dc.vals s.data.toList by rw [List.take_of_length_le (by omega)])
                have HMO := Lib.hid (fun k (hk : k ≤ s.size) => Dc.vals_mono s.data.toList k s.size hk (by omega))
                have HDK2 := Lib.hid (show ∀ k, (hk : k < s.size) → ∃ d, (s[k]'hk).toNat = d + 48 ∧ d ≤ 9 from fun k hk => by
                  have h1 : k < s.data.toList.length := by rw [Dc.len_is]; exact hk
                  have := mem_dig HD.out (s[k]'hk) (by rw [← Dc.at_is s k hk]; exact List.getElem_mem h1)
                  simp only [Dc.dig, Bool.and_eq_true, decide_eq_true_eq] at this
                  exact ⟨(s[k]'hk).toNat - 48, by omega, by omega⟩)
                clear hlen hj hlt
                go_loopw [7, 63] (fun v kv wr => ∃ (j : Nat) (l : List Bool) (A : Option Addr) (c : Nat), j ≤ s.size ∧ kv = .int .i64 (j : Int) ∧ v = .slice A l.length c ∧ Bt.Norm l ∧ Bt.val l = Dc.vals (s.data.toList.take j) ∧ Reads wr wr.heap.size 1 A l.length (l.map Value.bool) ∧ Below wo.heap.size wo wr) (fun _ kv _ => s.size - (RowKit.intOf kv).toNat)
                case atStart => exact ⟨0, [], none, 0, by omega, rfl, rfl, Bt.norm_nil, by simp [Bt.val, Dc.vals], Reads.none_, Below.refl _ _⟩
                case round =>
                  obtain ⟨j, l, A, c, hj, rfl, rfl, hno, hva, hrd, hbl⟩ := hrel
                  have hmo := HMO.out j hj
                  have hfu := HFU.out
                  have hvv := HV.out
                  have hll : l.length ≤ 128 := Bt.norm_len_le hno (by omega)
                  have RD := Lib.hid hrd
                  have BL := Lib.hid hbl
                  have NO := Lib.hid hno
                  have VA := Lib.hid hva
                  clear hmo hfu hvv hrd hbl hno hva
                  by_cases hlt : j < s.size
                  · obtain ⟨d, hd, hd9⟩ := HDK2.out j hlt
                    have hst := HVA.out j hlt
                    rw [hd, Nat.add_sub_cancel, ← VA.out] at hst
                    have hbx : ((s[j]'hlt).toNat : Int) = (d : Int) + 48 := by omega
                    have ST := Lib.hid hst
                    clear hst hd
                    have HWD := Lib.hid (show ∀ w, Calls Tryd.prog 14 #[.int .i64 (IntKind.i64.wrap (IntKind.u8.wrap (d : Int)))] w fun e w' => e = .returned (.agg #[.int .u64 (hiN d), .int .u64 (loN d)]) ∧ Below w.heap.size w w' from fun w => by
                      have := wide_any (d : Int) (by omega) (by omega) w
                      rw [Int.toNat_natCast] at this
                      rwa [show IntKind.i64.wrap (IntKind.u8.wrap (d : Int)) = (d : Int) by rw [IntKind.wrap_u8, IntKind.wrap_i64]; omega])
                    have HBI := Lib.hid (bits_any d (by omega))
                    have hbl4 : (Bt.bits d).length ≤ 128 := by rw [Bt.len_bits]; exact Bt.blen_le (by omega)
                    have HPR := Lib.hid (show Calls Tryd.prog 12 #[.slice A l.length c, .slice (some ⟨wr.heap.size, 0, none⟩) 4 4] (wr.alloc (.cells #[.bool false, .bool true, .bool false, .bool true] 4)).drew (NewBits (ProdIs l [false, true, false, true] l.length) (wr.alloc (.cells #[.bool false, .bool true, .bool false, .bool true] 4)).drew)
                      from prod_any A (some ⟨wr.heap.size, 0, none⟩) l [false, true, false, true] c 4 _ (((RD.out.alloc (Nat.le_refl _) _).more (by simp)).drew) (ten_reads wr).drew (by omega) (by simp))
                    have BX := Lib.hid (show Below wo.heap.size wo (wr.alloc (.cells #[.bool false, .bool true, .bool false, .bool true] 4)).drew from (BL.out.alloc BL.out.size _).drew)
                    go_upto_region 16 with fail
                    go_region_law (first
                      | (go_simp; go_at_call 12; (with_reducible refine HPR.out.mono ?_); rintro e' w3 ⟨A3, c3, l3, rfl, hp3, hown3, hb3⟩; have R3 := Reads.of_own hown3; have B3 := BX.out.trans (hb3.mono BX.out.size))
                      | (go_simp; go_at_call 14; (with_reducible refine (HWD.out _).mono ?_); rintro e' w4 ⟨rfl, hb4⟩; have R4 := (R3.below hb4 (Nat.le_refl _)).more hb4.size; have B4 := B3.trans (hb4.mono B3.size))
                      | (go_simp; go_at_call 13; (with_reducible refine (HBI.out _).mono ?_); rintro e' w5 ⟨A5, c5, l5, rfl, rfl, hown5, hb5⟩; have R5 := (R4.below hb5 (Nat.le_refl _)).more hb5.size; have Q5 := Reads.of_own hown5; have B5 := B4.trans (hb5.mono B4.size))
                      | (go_simp; go_at_call 11; (with_reducible refine (plus_any A3 A5 l3 (Bt.bits d) c3 c5 w5 R5 Q5 ?p1 ?p2).mono ?_); (case p1 => have := hp3.2.1; simp only [List.length_cons, List.length_nil] at this; omega); (case p2 => omega); rintro e' w6 ⟨A6, c6, l6, rfl, hp6, hown6, hb6⟩; have R6 := Reads.of_own hown6; have B6 := B5.trans (hb6.mono B5.size)))
                    all_goals
                      have hn3 : Bt.Norm l3 := hp3.2.2 (.inr (by decide)) (by simp)
                      have N6 := Lib.hid (plus_norm hp6 hn3 (Bt.norm_bits d))
                      have V6 := Lib.hid (show Bt.val l6 = Dc.vals (s.data.toList.take (j + 1)) by
                        rw [ST.out, hp6.1, hp3.1, Bt.val_bits, List.take_length]
                        have : Bt.val [false, true, false, true] = 10 := by decide
                        rw [this]
                        omega)
                      have R6' := Lib.hid R6
                      have B6' := Lib.hid B6
                      clear R3 R4 R5 Q5 R6 B3 B4 B5 B6 hp3 hp6 hown3 hown5 hown6 hb3 hb4 hb5 hb6 hn3
                      go_wp2
                      exact ⟨⟨j + 1, l6, A6, c6, by omega, by simp, rfl, N6.out, V6.out, R6'.out, B6'.out⟩, by simp [RowKit.intOf]; omega⟩
                  · obtain rfl : j = s.size := by omega
                    have hva := VA.out
                    rw [HFU.out] at hva
                    have E3 := Lib.hid (E2.out.below BL.out)
                    have HNU := Lib.hid (num_ok A l c wr RD.out (by omega) (by rw [hva]; exact HV.out))
                    rw [hva] at HNU
                    clear hva
                    generalize Dc.vals s.data.toList = v at *
                    go_wp2_with fail
                    refine HNU.out.mono ?_
                    rintro e' w7 ⟨rfl, hb7⟩
                    have E4 := Lib.hid (E3.out.below hb7)
                    have y0 := E4.out.hd.cell 0
                    have y1 := E4.out.hd.cell 1
                    have f0 := E4.out.hd.frozen 0
                    have f1 := E4.out.hd.frozen 1
                    have q0 := E4.out.hd.lt
                    simp at y0 y1
                    clear hb7
                    go_wp2
                    have BK := ((E4.out.hd.set_ 0 (.int .u64 (hiN v))).set_ 1 (.int .u64 (loN v))).alloc (.cells #[.int .u64 (hiN v), .int .u64 (loN v)] 24)
                    have BE := ((E4.out.bel.setCell (p := ⟨w.heap.size, 0, none⟩) (Nat.le_refl _) (.int .u64 (hiN v))).setCell (p := ⟨w.heap.size, 1, none⟩) (Nat.le_refl _) (.int .u64 (loN v)))
                    refine bodyPost_ret (v := .tuple #[.agg #[.int .u64 (hiN v), .int .u64 (loN v)], .int .i64 0]) (results_1d Tryd.results5 rfl rfl ((BK.cell 0).trans rfl) ((BK.cell 1).trans rfl)) rfl ⟨by rw [P1.out, P2.out], BE.alloc BE.size _⟩
              · unfold mostL at hm hm2
                clear hv
                go_wp2_with fail
                obtain rfl : j = s.size := by omega
                clear h2 h2'
                obtain ⟨wo, rfl⟩ : ∃ wo, wo = wr := ⟨_, rfl⟩
                have HVA := Lib.hid (Dc.vals_at s)
                have hlen := Dc.len_is s
                have HFU := Lib.hid (show Dc.vals (s.data.toList.take s.size) = Dc.vals s.data.toList by rw [List.take_of_length_le (by omega)])
                have HMO := Lib.hid (fun k (hk : k ≤ s.size) => Dc.vals_mono s.data.toList k s.size hk (by omega))
                have HDK2 := Lib.hid (show ∀ k, (hk : k < s.size) → ∃ d, (s[k]'hk).toNat = d + 48 ∧ d ≤ 9 from fun k hk => by
                  have h1 : k < s.data.toList.length := by rw [Dc.len_is]; exact hk
                  have := mem_dig HD.out (s[k]'hk) (by rw [← Dc.at_is s k hk]; exact List.getElem_mem h1)
                  simp only [Dc.dig, Bool.and_eq_true, decide_eq_true_eq] at this
                  exact ⟨(s[k]'hk).toNat - 48, by omega, by omega⟩)
                clear hlen hj hlt
                go_loopw [7, 63] (fun v kv wr => ∃ (j : Nat) (l : List Bool) (A : Option Addr) (c : Nat), j ≤ s.size ∧ kv = .int .i64 (j : Int) ∧ v = .slice A l.length c ∧ Bt.Norm l ∧ Bt.val l = Dc.vals (s.data.toList.take j) ∧ Reads wr wr.heap.size 1 A l.length (l.map Value.bool) ∧ Below wo.heap.size wo wr) (fun _ kv _ => s.size - (RowKit.intOf kv).toNat)
                case atStart => exact ⟨0, [], none, 0, by omega, rfl, rfl, Bt.norm_nil, by simp [Bt.val, Dc.vals], Reads.none_, Below.refl _ _⟩
                case round =>
                  obtain ⟨j, l, A, c, hj, rfl, rfl, hno, hva, hrd, hbl⟩ := hrel
                  have hmo := HMO.out j hj
                  have hfu := HFU.out
                  have hvv := HV.out
                  have hll : l.length ≤ 128 := Bt.norm_len_le hno (by omega)
                  have RD := Lib.hid hrd
                  have BL := Lib.hid hbl
                  have NO := Lib.hid hno
                  have VA := Lib.hid hva
                  clear hmo hfu hvv hrd hbl hno hva
                  by_cases hlt : j < s.size
                  · obtain ⟨d, hd, hd9⟩ := HDK2.out j hlt
                    have hst := HVA.out j hlt
                    rw [hd, Nat.add_sub_cancel, ← VA.out] at hst
                    have hbx : ((s[j]'hlt).toNat : Int) = (d : Int) + 48 := by omega
                    have ST := Lib.hid hst
                    clear hst hd
                    have HWD := Lib.hid (show ∀ w, Calls Tryd.prog 14 #[.int .i64 (IntKind.i64.wrap (IntKind.u8.wrap (d : Int)))] w fun e w' => e = .returned (.agg #[.int .u64 (hiN d), .int .u64 (loN d)]) ∧ Below w.heap.size w w' from fun w => by
                      have := wide_any (d : Int) (by omega) (by omega) w
                      rw [Int.toNat_natCast] at this
                      rwa [show IntKind.i64.wrap (IntKind.u8.wrap (d : Int)) = (d : Int) by rw [IntKind.wrap_u8, IntKind.wrap_i64]; omega])
                    have HBI := Lib.hid (bits_any d (by omega))
                    have hbl4 : (Bt.bits d).length ≤ 128 := by rw [Bt.len_bits]; exact Bt.blen_le (by omega)
                    have HPR := Lib.hid (show Calls Tryd.prog 12 #[.slice A l.length c, .slice (some ⟨wr.heap.size, 0, none⟩) 4 4] (wr.alloc (.cells #[.bool false, .bool true, .bool false, .bool true] 4)).drew (NewBits (ProdIs l [false, true, false, true] l.length) (wr.alloc (.cells #[.bool false, .bool true, .bool false, .bool true] 4)).drew)
                      from prod_any A (some ⟨wr.heap.size, 0, none⟩) l [false, true, false, true] c 4 _ (((RD.out.alloc (Nat.le_refl _) _).more (by simp)).drew) (ten_reads wr).drew (by omega) (by simp))
                    have BX := Lib.hid (show Below wo.heap.size wo (wr.alloc (.cells #[.bool false, .bool true, .bool false, .bool true] 4)).drew from (BL.out.alloc BL.out.size _).drew)
                    go_upto_region 16 with fail
                    go_region_law (first
                      | (go_simp; go_at_call 12; (with_reducible refine HPR.out.mono ?_); rintro e' w3 ⟨A3, c3, l3, rfl, hp3, hown3, hb3⟩; have R3 := Reads.of_own hown3; have B3 := BX.out.trans (hb3.mono BX.out.size))
                      | (go_simp; go_at_call 14; (with_reducible refine (HWD.out _).mono ?_); rintro e' w4 ⟨rfl, hb4⟩; have R4 := (R3.below hb4 (Nat.le_refl _)).more hb4.size; have B4 := B3.trans (hb4.mono B3.size))
                      | (go_simp; go_at_call 13; (with_reducible refine (HBI.out _).mono ?_); rintro e' w5 ⟨A5, c5, l5, rfl, rfl, hown5, hb5⟩; have R5 := (R4.below hb5 (Nat.le_refl _)).more hb5.size; have Q5 := Reads.of_own hown5; have B5 := B4.trans (hb5.mono B4.size))
                      | (go_simp; go_at_call 11; (with_reducible refine (plus_any A3 A5 l3 (Bt.bits d) c3 c5 w5 R5 Q5 ?p1 ?p2).mono ?_); (case p1 => have := hp3.2.1; simp only [List.length_cons, List.length_nil] at this; omega); (case p2 => omega); rintro e' w6 ⟨A6, c6, l6, rfl, hp6, hown6, hb6⟩; have R6 := Reads.of_own hown6; have B6 := B5.trans (hb6.mono B5.size)))
                    all_goals
                      have hn3 : Bt.Norm l3 := hp3.2.2 (.inr (by decide)) (by simp)
                      have N6 := Lib.hid (plus_norm hp6 hn3 (Bt.norm_bits d))
                      have V6 := Lib.hid (show Bt.val l6 = Dc.vals (s.data.toList.take (j + 1)) by
                        rw [ST.out, hp6.1, hp3.1, Bt.val_bits, List.take_length]
                        have : Bt.val [false, true, false, true] = 10 := by decide
                        rw [this]
                        omega)
                      have R6' := Lib.hid R6
                      have B6' := Lib.hid B6
                      clear R3 R4 R5 Q5 R6 B3 B4 B5 B6 hp3 hp6 hown3 hown5 hown6 hb3 hb4 hb5 hb6 hn3
                      go_wp2
                      exact ⟨⟨j + 1, l6, A6, c6, by omega, by simp, rfl, N6.out, V6.out, R6'.out, B6'.out⟩, by simp [RowKit.intOf]; omega⟩
                  · obtain rfl : j = s.size := by omega
                    have hva := VA.out
                    rw [HFU.out] at hva
                    have E3 := Lib.hid (E2.out.below BL.out)
                    have HNU := Lib.hid (num_ok A l c wr RD.out (by omega) (by rw [hva]; exact HV.out))
                    rw [hva] at HNU
                    clear hva
                    generalize Dc.vals s.data.toList = v at *
                    go_wp2_with fail
                    refine HNU.out.mono ?_
                    rintro e' w7 ⟨rfl, hb7⟩
                    have E4 := Lib.hid (E3.out.below hb7)
                    have y0 := E4.out.hd.cell 0
                    have y1 := E4.out.hd.cell 1
                    have f0 := E4.out.hd.frozen 0
                    have f1 := E4.out.hd.frozen 1
                    have q0 := E4.out.hd.lt
                    simp at y0 y1
                    clear hb7
                    go_wp2
                    have BK := ((E4.out.hd.set_ 0 (.int .u64 (hiN v))).set_ 1 (.int .u64 (loN v))).alloc (.cells #[.int .u64 (hiN v), .int .u64 (loN v)] 24)
                    have BE := ((E4.out.bel.setCell (p := ⟨w.heap.size, 0, none⟩) (Nat.le_refl _) (.int .u64 (hiN v))).setCell (p := ⟨w.heap.size, 1, none⟩) (Nat.le_refl _) (.int .u64 (loN v)))
                    refine bodyPost_ret (v := .tuple #[.agg #[.int .u64 (hiN v), .int .u64 (loN v)], .int .i64 0]) (results_1d Tryd.results5 rfl rfl ((BK.cell 0).trans rfl) ((BK.cell 1).trans rfl)) rfl ⟨by rw [P1.out, P2.out], BE.alloc BE.size _⟩
            · have h2' : ((s.size : Int) == 39) = false := by simp; omega
              clear hv
              go_wp2_with fail
              obtain rfl : j = s.size := by omega
              clear h2 h2'
              obtain ⟨wo, rfl⟩ : ∃ wo, wo = wr := ⟨_, rfl⟩
              have HVA := Lib.hid (Dc.vals_at s)
              have hlen := Dc.len_is s
              have HFU := Lib.hid (show Dc.vals (s.data.toList.take s.size) = Dc.vals s.data.toList by rw [List.take_of_length_le (by omega)])
              have HMO := Lib.hid (fun k (hk : k ≤ s.size) => Dc.vals_mono s.data.toList k s.size hk (by omega))
              have HDK2 := Lib.hid (show ∀ k, (hk : k < s.size) → ∃ d, (s[k]'hk).toNat = d + 48 ∧ d ≤ 9 from fun k hk => by
                have h1 : k < s.data.toList.length := by rw [Dc.len_is]; exact hk
                have := mem_dig HD.out (s[k]'hk) (by rw [← Dc.at_is s k hk]; exact List.getElem_mem h1)
                simp only [Dc.dig, Bool.and_eq_true, decide_eq_true_eq] at this
                exact ⟨(s[k]'hk).toNat - 48, by omega, by omega⟩)
              clear hlen hj hlt
              go_loopw [7, 63] (fun v kv wr => ∃ (j : Nat) (l : List Bool) (A : Option Addr) (c : Nat), j ≤ s.size ∧ kv = .int .i64 (j : Int) ∧ v = .slice A l.length c ∧ Bt.Norm l ∧ Bt.val l = Dc.vals (s.data.toList.take j) ∧ Reads wr wr.heap.size 1 A l.length (l.map Value.bool) ∧ Below wo.heap.size wo wr) (fun _ kv _ => s.size - (RowKit.intOf kv).toNat)
              case atStart => exact ⟨0, [], none, 0, by omega, rfl, rfl, Bt.norm_nil, by simp [Bt.val, Dc.vals], Reads.none_, Below.refl _ _⟩
              case round =>
                obtain ⟨j, l, A, c, hj, rfl, rfl, hno, hva, hrd, hbl⟩ := hrel
                have hmo := HMO.out j hj
                have hfu := HFU.out
                have hvv := HV.out
                have hll : l.length ≤ 128 := Bt.norm_len_le hno (by omega)
                have RD := Lib.hid hrd
                have BL := Lib.hid hbl
                have NO := Lib.hid hno
                have VA := Lib.hid hva
                clear hmo hfu hvv hrd hbl hno hva
                by_cases hlt : j < s.size
                · obtain ⟨d, hd, hd9⟩ := HDK2.out j hlt
                  have hst := HVA.out j hlt
                  rw [hd, Nat.add_sub_cancel, ← VA.out] at hst
                  have hbx : ((s[j]'hlt).toNat : Int) = (d : Int) + 48 := by omega
                  have ST := Lib.hid hst
                  clear hst hd
                  have HWD := Lib.hid (show ∀ w, Calls Tryd.prog 14 #[.int .i64 (IntKind.i64.wrap (IntKind.u8.wrap (d : Int)))] w fun e w' => e = .returned (.agg #[.int .u64 (hiN d), .int .u64 (loN d)]) ∧ Below w.heap.size w w' from fun w => by
                    have := wide_any (d : Int) (by omega) (by omega) w
                    rw [Int.toNat_natCast] at this
                    rwa [show IntKind.i64.wrap (IntKind.u8.wrap (d : Int)) = (d : Int) by rw [IntKind.wrap_u8, IntKind.wrap_i64]; omega])
                  have HBI := Lib.hid (bits_any d (by omega))
                  have hbl4 : (Bt.bits d).length ≤ 128 := by rw [Bt.len_bits]; exact Bt.blen_le (by omega)
                  have HPR := Lib.hid (show Calls Tryd.prog 12 #[.slice A l.length c, .slice (some ⟨wr.heap.size, 0, none⟩) 4 4] (wr.alloc (.cells #[.bool false, .bool true, .bool false, .bool true] 4)).drew (NewBits (ProdIs l [false, true, false, true] l.length) (wr.alloc (.cells #[.bool false, .bool true, .bool false, .bool true] 4)).drew)
                    from prod_any A (some ⟨wr.heap.size, 0, none⟩) l [false, true, false, true] c 4 _ (((RD.out.alloc (Nat.le_refl _) _).more (by simp)).drew) (ten_reads wr).drew (by omega) (by simp))
                  have BX := Lib.hid (show Below wo.heap.size wo (wr.alloc (.cells #[.bool false, .bool true, .bool false, .bool true] 4)).drew from (BL.out.alloc BL.out.size _).drew)
                  go_upto_region 16 with fail
                  go_region_law (first
                    | (go_simp; go_at_call 12; (with_reducible refine HPR.out.mono ?_); rintro e' w3 ⟨A3, c3, l3, rfl, hp3, hown3, hb3⟩; have R3 := Reads.of_own hown3; have B3 := BX.out.trans (hb3.mono BX.out.size))
                    | (go_simp; go_at_call 14; (with_reducible refine (HWD.out _).mono ?_); rintro e' w4 ⟨rfl, hb4⟩; have R4 := (R3.below hb4 (Nat.le_refl _)).more hb4.size; have B4 := B3.trans (hb4.mono B3.size))
                    | (go_simp; go_at_call 13; (with_reducible refine (HBI.out _).mono ?_); rintro e' w5 ⟨A5, c5, l5, rfl, rfl, hown5, hb5⟩; have R5 := (R4.below hb5 (Nat.le_refl _)).more hb5.size; have Q5 := Reads.of_own hown5; have B5 := B4.trans (hb5.mono B4.size))
                    | (go_simp; go_at_call 11; (with_reducible refine (plus_any A3 A5 l3 (Bt.bits d) c3 c5 w5 R5 Q5 ?p1 ?p2).mono ?_); (case p1 => have := hp3.2.1; simp only [List.length_cons, List.length_nil] at this; omega); (case p2 => omega); rintro e' w6 ⟨A6, c6, l6, rfl, hp6, hown6, hb6⟩; have R6 := Reads.of_own hown6; have B6 := B5.trans (hb6.mono B5.size)))
                  all_goals
                    have hn3 : Bt.Norm l3 := hp3.2.2 (.inr (by decide)) (by simp)
                    have N6 := Lib.hid (plus_norm hp6 hn3 (Bt.norm_bits d))
                    have V6 := Lib.hid (show Bt.val l6 = Dc.vals (s.data.toList.take (j + 1)) by
                      rw [ST.out, hp6.1, hp3.1, Bt.val_bits, List.take_length]
                      have : Bt.val [false, true, false, true] = 10 := by decide
                      rw [this]
                      omega)
                    have R6' := Lib.hid R6
                    have B6' := Lib.hid B6
                    clear R3 R4 R5 Q5 R6 B3 B4 B5 B6 hp3 hp6 hown3 hown5 hown6 hb3 hb4 hb5 hb6 hn3
                    go_wp2
                    exact ⟨⟨j + 1, l6, A6, c6, by omega, by simp, rfl, N6.out, V6.out, R6'.out, B6'.out⟩, by simp [RowKit.intOf]; omega⟩
                · obtain rfl : j = s.size := by omega
                  have hva := VA.out
                  rw [HFU.out] at hva
                  have E3 := Lib.hid (E2.out.below BL.out)
                  have HNU := Lib.hid (num_ok A l c wr RD.out (by omega) (by rw [hva]; exact HV.out))
                  rw [hva] at HNU
                  clear hva
                  generalize Dc.vals s.data.toList = v at *
                  go_wp2_with fail
                  refine HNU.out.mono ?_
                  rintro e' w7 ⟨rfl, hb7⟩
                  have E4 := Lib.hid (E3.out.below hb7)
                  have y0 := E4.out.hd.cell 0
                  have y1 := E4.out.hd.cell 1
                  have f0 := E4.out.hd.frozen 0
                  have f1 := E4.out.hd.frozen 1
                  have q0 := E4.out.hd.lt
                  simp at y0 y1
                  clear hb7
                  go_wp2
                  have BK := ((E4.out.hd.set_ 0 (.int .u64 (hiN v))).set_ 1 (.int .u64 (loN v))).alloc (.cells #[.int .u64 (hiN v), .int .u64 (loN v)] 24)
                  have BE := ((E4.out.bel.setCell (p := ⟨w.heap.size, 0, none⟩) (Nat.le_refl _) (.int .u64 (hiN v))).setCell (p := ⟨w.heap.size, 1, none⟩) (Nat.le_refl _) (.int .u64 (loN v)))
                  refine bodyPost_ret (v := .tuple #[.agg #[.int .u64 (hiN v), .int .u64 (loN v)], .int .i64 0]) (results_1d Tryd.results5 rfl rfl ((BK.cell 0).trans rfl) ((BK.cell 1).trans rfl)) rfl ⟨by rw [P1.out, P2.out], BE.alloc BE.size _⟩
          · have h2 : s.size = 39 := by
              have := short_small HD.out
              omega
            have h2' : ((s.size : Int) == 39) = true := by simp [h2]
            obtain ⟨hm, hm2⟩ := same_large' HD.out h2 hv
            unfold mostL at hm hm2
            obtain ⟨p1, p2⟩ := Dc.parse_large hz HL.out HD.out hv
            have P1 := Lib.hid p1
            have P2 := Lib.hid p2
            clear p1 p2 hv
            go_wp2
            have BK := ((E2.out.hd.set_ 0 (.int .u64 0)).set_ 1 (.int .u64 0))
            refine bodyPost_ret (v := .tuple #[.agg #[.int .u64 0, .int .u64 0], .int .i64 2]) (results_1d Tryd.results5 rfl rfl ((BK.cell 0).trans rfl) ((BK.cell 1).trans rfl)) rfl ⟨by rw [P1.out, P2.out]; rfl, (E2.out.bel.setCell (p := ⟨w.heap.size, 0, none⟩) (Nat.le_refl _) (.int .u64 0)).setCell (p := ⟨w.heap.size, 1, none⟩) (Nat.le_refl _) (.int .u64 0)⟩
  · go_wp2_with fail
    rw [Go.Lib.run_convert_string_bytes w1 _ _ 5 s Tryd.underlying9 Tryd.underlying32 Tryd.underlying5]
    rw [Result.andThen]
    have HC := Lib.hid (bytesWorld_cell w1 5 s)
    have HB := Lib.hid (bytesWorld_below w1 5 s)
    generalize bytesWorld w1 5 s = w2 at *
    generalize grownCap w1 s.size 0 5 = cc at *
    have E2 := Lib.hid (E1.out.below HB.out)
    have HDK := Lib.hid (show ∀ k, k < s.size → 48 ≤ (s.data.toList.getD k 0).toNat ∧ (s.data.toList.getD k 0).toNat ≤ 57 from fun k hk => by
      have h1 : k < s.data.toList.length := by rw [Dc.len_is]; exact hk
      have := mem_dig HD.out (s.data.toList.getD k 0) (by rw [List.getD_eq_getElem?_getD, List.getElem?_eq_getElem h1]; exact List.getElem_mem h1)
      simpa [Dc.dig] using this)
    clear E1 HB
    go_wp2_with fail
    go_loopw [31] (fun iv wr => ∃ j : Nat, j ≤ s.size ∧ iv = .int .i64 (j : Int) ∧ wr = w2) (fun iv _ => s.size - (RowKit.intOf iv).toNat)
    case atStart => exact ⟨0, by omega, rfl, rfl⟩
    case round =>
      obtain ⟨j, hj, rfl, rfl⟩ := hrel
      by_cases hlt : j < s.size
      · have hcell := HC.out j hlt
        obtain ⟨hd1, hd2⟩ := HDK.out j hlt
        generalize (s.data.toList.getD j 0).toNat = b at *
        have hd1' : ¬ (b : Int) < 48 := by omega
        have hd2' : ¬ 57 < (b : Int) := by omega
        go_wp2
        exact ⟨⟨j + 1, by omega, by simp, by first | rfl | trivial⟩, by simp [RowKit.intOf]; omega⟩
      · have y0 := E2.out.hd.cell 0
        have y1 := E2.out.hd.cell 1
        have f0 := E2.out.hd.frozen 0
        have f1 := E2.out.hd.frozen 1
        have q0 := E2.out.hd.lt
        simp at y0 y1
        clear HC HDK
        by_cases h39 : 39 < s.size
        · obtain ⟨p1, p2⟩ := Dc.parse_large hz HL.out HD.out (long_large HD.out HL.out h39)
          have P1 := Lib.hid p1
          have P2 := Lib.hid p2
          have h39' : 39 < (s.size : Int) := by omega
          clear p1 p2
          go_wp2
          have BK := ((E2.out.hd.set_ 0 (.int .u64 0)).set_ 1 (.int .u64 0))
          refine bodyPost_ret (v := .tuple #[.agg #[.int .u64 0, .int .u64 0], .int .i64 2]) (results_1d Tryd.results5 rfl rfl ((BK.cell 0).trans rfl) ((BK.cell 1).trans rfl)) rfl ⟨by rw [P1.out, P2.out]; rfl, (E2.out.bel.setCell (p := ⟨w.heap.size, 0, none⟩) (Nat.le_refl _) (.int .u64 0)).setCell (p := ⟨w.heap.size, 1, none⟩) (Nat.le_refl _) (.int .u64 0)⟩
        · have h39' : ¬ 39 < (s.size : Int) := by omega
          by_cases hv : Dc.vals s.data.toList < 2 ^ 128
          · obtain ⟨p1, p2⟩ := Dc.parse_ok hz HL.out HD.out hv
            have P1 := Lib.hid p1
            have P2 := Lib.hid p2
            have HV := Lib.hid hv
            clear p1 p2 y0 y1 f0 f1
            by_cases h2 : s.size = 39
            · have h2' : ((s.size : Int) == 39) = true := by simp [h2]
              rcases same_small HD.out h2 hv with hm | ⟨hm, hm2⟩
              · unfold mostL at hm
                clear hv
                go_wp2_with fail
                obtain rfl : j = s.size := by omega
                clear h2 h2'
                obtain ⟨wo, rfl⟩ : ∃ wo, wo = wr := ⟨_, rfl⟩
                have HVA := Lib.hid (Dc.vals_at s)
                have hlen := Dc.len_is s
                have HFU := Lib.hid (show Dc.vals (s.data.toList.take s.size) = Dc.vals s.data.toList by rw [List.take_of_length_le (by omega)])
                have HMO := Lib.hid (fun k (hk : k ≤ s.size) => Dc.vals_mono s.data.toList k s.size hk (by omega))
                have HDK2 := Lib.hid (show ∀ k, (hk : k < s.size) → ∃ d, (s[k]'hk).toNat = d + 48 ∧ d ≤ 9 from fun k hk => by
                  have h1 : k < s.data.toList.length := by rw [Dc.len_is]; exact hk
                  have := mem_dig HD.out (s[k]'hk) (by rw [← Dc.at_is s k hk]; exact List.getElem_mem h1)
                  simp only [Dc.dig, Bool.and_eq_true, decide_eq_true_eq] at this
                  exact ⟨(s[k]'hk).toNat - 48, by omega, by omega⟩)
                clear hlen hj hlt
                go_loopw [7, 63] (fun v kv wr => ∃ (j : Nat) (l : List Bool) (A : Option Addr) (c : Nat), j ≤ s.size ∧ kv = .int .i64 (j : Int) ∧ v = .slice A l.length c ∧ Bt.Norm l ∧ Bt.val l = Dc.vals (s.data.toList.take j) ∧ Reads wr wr.heap.size 1 A l.length (l.map Value.bool) ∧ Below wo.heap.size wo wr) (fun _ kv _ => s.size - (RowKit.intOf kv).toNat)
                case atStart => exact ⟨0, [], none, 0, by omega, rfl, rfl, Bt.norm_nil, by simp [Bt.val, Dc.vals], Reads.none_, Below.refl _ _⟩
                case round =>
                  obtain ⟨j, l, A, c, hj, rfl, rfl, hno, hva, hrd, hbl⟩ := hrel
                  have hmo := HMO.out j hj
                  have hfu := HFU.out
                  have hvv := HV.out
                  have hll : l.length ≤ 128 := Bt.norm_len_le hno (by omega)
                  have RD := Lib.hid hrd
                  have BL := Lib.hid hbl
                  have NO := Lib.hid hno
                  have VA := Lib.hid hva
                  clear hmo hfu hvv hrd hbl hno hva
                  by_cases hlt : j < s.size
                  · obtain ⟨d, hd, hd9⟩ := HDK2.out j hlt
                    have hst := HVA.out j hlt
                    rw [hd, Nat.add_sub_cancel, ← VA.out] at hst
                    have hbx : ((s[j]'hlt).toNat : Int) = (d : Int) + 48 := by omega
                    have ST := Lib.hid hst
                    clear hst hd
                    have HWD := Lib.hid (show ∀ w, Calls Tryd.prog 14 #[.int .i64 (IntKind.i64.wrap (IntKind.u8.wrap (d : Int)))] w fun e w' => e = .returned (.agg #[.int .u64 (hiN d), .int .u64 (loN d)]) ∧ Below w.heap.size w w' from fun w => by
                      have := wide_any (d : Int) (by omega) (by omega) w
                      rw [Int.toNat_natCast] at this
                      rwa [show IntKind.i64.wrap (IntKind.u8.wrap (d : Int)) = (d : Int) by rw [IntKind.wrap_u8, IntKind.wrap_i64]; omega])
                    have HBI := Lib.hid (bits_any d (by omega))
                    have hbl4 : (Bt.bits d).length ≤ 128 := by rw [Bt.len_bits]; exact Bt.blen_le (by omega)
                    have HPR := Lib.hid (show Calls Tryd.prog 12 #[.slice A l.length c, .slice (some ⟨wr.heap.size, 0, none⟩) 4 4] (wr.alloc (.cells #[.bool false, .bool true, .bool false, .bool true] 4)).drew (NewBits (ProdIs l [false, true, false, true] l.length) (wr.alloc (.cells #[.bool false, .bool true, .bool false, .bool true] 4)).drew)
                      from prod_any A (some ⟨wr.heap.size, 0, none⟩) l [false, true, false, true] c 4 _ (((RD.out.alloc (Nat.le_refl _) _).more (by simp)).drew) (ten_reads wr).drew (by omega) (by simp))
                    have BX := Lib.hid (show Below wo.heap.size wo (wr.alloc (.cells #[.bool false, .bool true, .bool false, .bool true] 4)).drew from (BL.out.alloc BL.out.size _).drew)
                    go_upto_region 16 with fail
                    go_region_law (first
                      | (go_simp; go_at_call 12; (with_reducible refine HPR.out.mono ?_); rintro e' w3 ⟨A3, c3, l3, rfl, hp3, hown3, hb3⟩; have R3 := Reads.of_own hown3; have B3 := BX.out.trans (hb3.mono BX.out.size))
                      | (go_simp; go_at_call 14; (with_reducible refine (HWD.out _).mono ?_); rintro e' w4 ⟨rfl, hb4⟩; have R4 := (R3.below hb4 (Nat.le_refl _)).more hb4.size; have B4 := B3.trans (hb4.mono B3.size))
                      | (go_simp; go_at_call 13; (with_reducible refine (HBI.out _).mono ?_); rintro e' w5 ⟨A5, c5, l5, rfl, rfl, hown5, hb5⟩; have R5 := (R4.below hb5 (Nat.le_refl _)).more hb5.size; have Q5 := Reads.of_own hown5; have B5 := B4.trans (hb5.mono B4.size))
                      | (go_simp; go_at_call 11; (with_reducible refine (plus_any A3 A5 l3 (Bt.bits d) c3 c5 w5 R5 Q5 ?p1 ?p2).mono ?_); (case p1 => have := hp3.2.1; simp only [List.length_cons, List.length_nil] at this; omega); (case p2 => omega); rintro e' w6 ⟨A6, c6, l6, rfl, hp6, hown6, hb6⟩; have R6 := Reads.of_own hown6; have B6 := B5.trans (hb6.mono B5.size)))
                    all_goals
                      have hn3 : Bt.Norm l3 := hp3.2.2 (.inr (by decide)) (by simp)
                      have N6 := Lib.hid (plus_norm hp6 hn3 (Bt.norm_bits d))
                      have V6 := Lib.hid (show Bt.val l6 = Dc.vals (s.data.toList.take (j + 1)) by
                        rw [ST.out, hp6.1, hp3.1, Bt.val_bits, List.take_length]
                        have : Bt.val [false, true, false, true] = 10 := by decide
                        rw [this]
                        omega)
                      have R6' := Lib.hid R6
                      have B6' := Lib.hid B6
                      clear R3 R4 R5 Q5 R6 B3 B4 B5 B6 hp3 hp6 hown3 hown5 hown6 hb3 hb4 hb5 hb6 hn3
                      go_wp2
                      exact ⟨⟨j + 1, l6, A6, c6, by omega, by simp, rfl, N6.out, V6.out, R6'.out, B6'.out⟩, by simp [RowKit.intOf]; omega⟩
                  · obtain rfl : j = s.size := by omega
                    have hva := VA.out
                    rw [HFU.out] at hva
                    have E3 := Lib.hid (E2.out.below BL.out)
                    have HNU := Lib.hid (num_ok A l c wr RD.out (by omega) (by rw [hva]; exact HV.out))
                    rw [hva] at HNU
                    clear hva
                    generalize Dc.vals s.data.toList = v at *
                    go_wp2_with fail
                    refine HNU.out.mono ?_
                    rintro e' w7 ⟨rfl, hb7⟩
                    have E4 := Lib.hid (E3.out.below hb7)
                    have y0 := E4.out.hd.cell 0
                    have y1 := E4.out.hd.cell 1
                    have f0 := E4.out.hd.frozen 0
                    have f1 := E4.out.hd.frozen 1
                    have q0 := E4.out.hd.lt
                    simp at y0 y1
                    clear hb7
                    go_wp2
                    have BK := ((E4.out.hd.set_ 0 (.int .u64 (hiN v))).set_ 1 (.int .u64 (loN v))).alloc (.cells #[.int .u64 (hiN v), .int .u64 (loN v)] 24)
                    have BE := ((E4.out.bel.setCell (p := ⟨w.heap.size, 0, none⟩) (Nat.le_refl _) (.int .u64 (hiN v))).setCell (p := ⟨w.heap.size, 1, none⟩) (Nat.le_refl _) (.int .u64 (loN v)))
                    refine bodyPost_ret (v := .tuple #[.agg #[.int .u64 (hiN v), .int .u64 (loN v)], .int .i64 0]) (results_1d Tryd.results5 rfl rfl ((BK.cell 0).trans rfl) ((BK.cell 1).trans rfl)) rfl ⟨by rw [P1.out, P2.out], BE.alloc BE.size _⟩
              · unfold mostL at hm hm2
                clear hv
                go_wp2_with fail
                obtain rfl : j = s.size := by omega
                clear h2 h2'
                obtain ⟨wo, rfl⟩ : ∃ wo, wo = wr := ⟨_, rfl⟩
                have HVA := Lib.hid (Dc.vals_at s)
                have hlen := Dc.len_is s
                have HFU := Lib.hid (show Dc.vals (s.data.toList.take s.size) = Dc.vals s.data.toList by rw [List.take_of_length_le (by omega)])
                have HMO := Lib.hid (fun k (hk : k ≤ s.size) => Dc.vals_mono s.data.toList k s.size hk (by omega))
                have HDK2 := Lib.hid (show ∀ k, (hk : k < s.size) → ∃ d, (s[k]'hk).toNat = d + 48 ∧ d ≤ 9 from fun k hk => by
                  have h1 : k < s.data.toList.length := by rw [Dc.len_is]; exact hk
                  have := mem_dig HD.out (s[k]'hk) (by rw [← Dc.at_is s k hk]; exact List.getElem_mem h1)
                  simp only [Dc.dig, Bool.and_eq_true, decide_eq_true_eq] at this
                  exact ⟨(s[k]'hk).toNat - 48, by omega, by omega⟩)
                clear hlen hj hlt
                go_loopw [7, 63] (fun v kv wr => ∃ (j : Nat) (l : List Bool) (A : Option Addr) (c : Nat), j ≤ s.size ∧ kv = .int .i64 (j : Int) ∧ v = .slice A l.length c ∧ Bt.Norm l ∧ Bt.val l = Dc.vals (s.data.toList.take j) ∧ Reads wr wr.heap.size 1 A l.length (l.map Value.bool) ∧ Below wo.heap.size wo wr) (fun _ kv _ => s.size - (RowKit.intOf kv).toNat)
                case atStart => exact ⟨0, [], none, 0, by omega, rfl, rfl, Bt.norm_nil, by simp [Bt.val, Dc.vals], Reads.none_, Below.refl _ _⟩
                case round =>
                  obtain ⟨j, l, A, c, hj, rfl, rfl, hno, hva, hrd, hbl⟩ := hrel
                  have hmo := HMO.out j hj
                  have hfu := HFU.out
                  have hvv := HV.out
                  have hll : l.length ≤ 128 := Bt.norm_len_le hno (by omega)
                  have RD := Lib.hid hrd
                  have BL := Lib.hid hbl
                  have NO := Lib.hid hno
                  have VA := Lib.hid hva
                  clear hmo hfu hvv hrd hbl hno hva
                  by_cases hlt : j < s.size
                  · obtain ⟨d, hd, hd9⟩ := HDK2.out j hlt
                    have hst := HVA.out j hlt
                    rw [hd, Nat.add_sub_cancel, ← VA.out] at hst
                    have hbx : ((s[j]'hlt).toNat : Int) = (d : Int) + 48 := by omega
                    have ST := Lib.hid hst
                    clear hst hd
                    have HWD := Lib.hid (show ∀ w, Calls Tryd.prog 14 #[.int .i64 (IntKind.i64.wrap (IntKind.u8.wrap (d : Int)))] w fun e w' => e = .returned (.agg #[.int .u64 (hiN d), .int .u64 (loN d)]) ∧ Below w.heap.size w w' from fun w => by
                      have := wide_any (d : Int) (by omega) (by omega) w
                      rw [Int.toNat_natCast] at this
                      rwa [show IntKind.i64.wrap (IntKind.u8.wrap (d : Int)) = (d : Int) by rw [IntKind.wrap_u8, IntKind.wrap_i64]; omega])
                    have HBI := Lib.hid (bits_any d (by omega))
                    have hbl4 : (Bt.bits d).length ≤ 128 := by rw [Bt.len_bits]; exact Bt.blen_le (by omega)
                    have HPR := Lib.hid (show Calls Tryd.prog 12 #[.slice A l.length c, .slice (some ⟨wr.heap.size, 0, none⟩) 4 4] (wr.alloc (.cells #[.bool false, .bool true, .bool false, .bool true] 4)).drew (NewBits (ProdIs l [false, true, false, true] l.length) (wr.alloc (.cells #[.bool false, .bool true, .bool false, .bool true] 4)).drew)
                      from prod_any A (some ⟨wr.heap.size, 0, none⟩) l [false, true, false, true] c 4 _ (((RD.out.alloc (Nat.le_refl _) _).more (by simp)).drew) (ten_reads wr).drew (by omega) (by simp))
                    have BX := Lib.hid (show Below wo.heap.size wo (wr.alloc (.cells #[.bool false, .bool true, .bool false, .bool true] 4)).drew from (BL.out.alloc BL.out.size _).drew)
                    go_upto_region 16 with fail
                    go_region_law (first
                      | (go_simp; go_at_call 12; (with_reducible refine HPR.out.mono ?_); rintro e' w3 ⟨A3, c3, l3, rfl, hp3, hown3, hb3⟩; have R3 := Reads.of_own hown3; have B3 := BX.out.trans (hb3.mono BX.out.size))
                      | (go_simp; go_at_call 14; (with_reducible refine (HWD.out _).mono ?_); rintro e' w4 ⟨rfl, hb4⟩; have R4 := (R3.below hb4 (Nat.le_refl _)).more hb4.size; have B4 := B3.trans (hb4.mono B3.size))
                      | (go_simp; go_at_call 13; (with_reducible refine (HBI.out _).mono ?_); rintro e' w5 ⟨A5, c5, l5, rfl, rfl, hown5, hb5⟩; have R5 := (R4.below hb5 (Nat.le_refl _)).more hb5.size; have Q5 := Reads.of_own hown5; have B5 := B4.trans (hb5.mono B4.size))
                      | (go_simp; go_at_call 11; (with_reducible refine (plus_any A3 A5 l3 (Bt.bits d) c3 c5 w5 R5 Q5 ?p1 ?p2).mono ?_); (case p1 => have := hp3.2.1; simp only [List.length_cons, List.length_nil] at this; omega); (case p2 => omega); rintro e' w6 ⟨A6, c6, l6, rfl, hp6, hown6, hb6⟩; have R6 := Reads.of_own hown6; have B6 := B5.trans (hb6.mono B5.size)))
                    all_goals
                      have hn3 : Bt.Norm l3 := hp3.2.2 (.inr (by decide)) (by simp)
                      have N6 := Lib.hid (plus_norm hp6 hn3 (Bt.norm_bits d))
                      have V6 := Lib.hid (show Bt.val l6 = Dc.vals (s.data.toList.take (j + 1)) by
                        rw [ST.out, hp6.1, hp3.1, Bt.val_bits, List.take_length]
                        have : Bt.val [false, true, false, true] = 10 := by decide
                        rw [this]
                        omega)
                      have R6' := Lib.hid R6
                      have B6' := Lib.hid B6
                      clear R3 R4 R5 Q5 R6 B3 B4 B5 B6 hp3 hp6 hown3 hown5 hown6 hb3 hb4 hb5 hb6 hn3
                      go_wp2
                      exact ⟨⟨j + 1, l6, A6, c6, by omega, by simp, rfl, N6.out, V6.out, R6'.out, B6'.out⟩, by simp [RowKit.intOf]; omega⟩
                  · obtain rfl : j = s.size := by omega
                    have hva := VA.out
                    rw [HFU.out] at hva
                    have E3 := Lib.hid (E2.out.below BL.out)
                    have HNU := Lib.hid (num_ok A l c wr RD.out (by omega) (by rw [hva]; exact HV.out))
                    rw [hva] at HNU
                    clear hva
                    generalize Dc.vals s.data.toList = v at *
                    go_wp2_with fail
                    refine HNU.out.mono ?_
                    rintro e' w7 ⟨rfl, hb7⟩
                    have E4 := Lib.hid (E3.out.below hb7)
                    have y0 := E4.out.hd.cell 0
                    have y1 := E4.out.hd.cell 1
                    have f0 := E4.out.hd.frozen 0
                    have f1 := E4.out.hd.frozen 1
                    have q0 := E4.out.hd.lt
                    simp at y0 y1
                    clear hb7
                    go_wp2
                    have BK := ((E4.out.hd.set_ 0 (.int .u64 (hiN v))).set_ 1 (.int .u64 (loN v))).alloc (.cells #[.int .u64 (hiN v), .int .u64 (loN v)] 24)
                    have BE := ((E4.out.bel.setCell (p := ⟨w.heap.size, 0, none⟩) (Nat.le_refl _) (.int .u64 (hiN v))).setCell (p := ⟨w.heap.size, 1, none⟩) (Nat.le_refl _) (.int .u64 (loN v)))
                    refine bodyPost_ret (v := .tuple #[.agg #[.int .u64 (hiN v), .int .u64 (loN v)], .int .i64 0]) (results_1d Tryd.results5 rfl rfl ((BK.cell 0).trans rfl) ((BK.cell 1).trans rfl)) rfl ⟨by rw [P1.out, P2.out], BE.alloc BE.size _⟩
            · have h2' : ((s.size : Int) == 39) = false := by simp; omega
              clear hv
              go_wp2_with fail
              obtain rfl : j = s.size := by omega
              clear h2 h2'
              obtain ⟨wo, rfl⟩ : ∃ wo, wo = wr := ⟨_, rfl⟩
              have HVA := Lib.hid (Dc.vals_at s)
              have hlen := Dc.len_is s
              have HFU := Lib.hid (show Dc.vals (s.data.toList.take s.size) = Dc.vals s.data.toList by rw [List.take_of_length_le (by omega)])
              have HMO := Lib.hid (fun k (hk : k ≤ s.size) => Dc.vals_mono s.data.toList k s.size hk (by omega))
              have HDK2 := Lib.hid (show ∀ k, (hk : k < s.size) → ∃ d, (s[k]'hk).toNat = d + 48 ∧ d ≤ 9 from fun k hk => by
                have h1 : k < s.data.toList.length := by rw [Dc.len_is]; exact hk
                have := mem_dig HD.out (s[k]'hk) (by rw [← Dc.at_is s k hk]; exact List.getElem_mem h1)
                simp only [Dc.dig, Bool.and_eq_true, decide_eq_true_eq] at this
                exact ⟨(s[k]'hk).toNat - 48, by omega, by omega⟩)
              clear hlen hj hlt
              go_loopw [7, 63] (fun v kv wr => ∃ (j : Nat) (l : List Bool) (A : Option Addr) (c : Nat), j ≤ s.size ∧ kv = .int .i64 (j : Int) ∧ v = .slice A l.length c ∧ Bt.Norm l ∧ Bt.val l = Dc.vals (s.data.toList.take j) ∧ Reads wr wr.heap.size 1 A l.length (l.map Value.bool) ∧ Below wo.heap.size wo wr) (fun _ kv _ => s.size - (RowKit.intOf kv).toNat)
              case atStart => exact ⟨0, [], none, 0, by omega, rfl, rfl, Bt.norm_nil, by simp [Bt.val, Dc.vals], Reads.none_, Below.refl _ _⟩
              case round =>
                obtain ⟨j, l, A, c, hj, rfl, rfl, hno, hva, hrd, hbl⟩ := hrel
                have hmo := HMO.out j hj
                have hfu := HFU.out
                have hvv := HV.out
                have hll : l.length ≤ 128 := Bt.norm_len_le hno (by omega)
                have RD := Lib.hid hrd
                have BL := Lib.hid hbl
                have NO := Lib.hid hno
                have VA := Lib.hid hva
                clear hmo hfu hvv hrd hbl hno hva
                by_cases hlt : j < s.size
                · obtain ⟨d, hd, hd9⟩ := HDK2.out j hlt
                  have hst := HVA.out j hlt
                  rw [hd, Nat.add_sub_cancel, ← VA.out] at hst
                  have hbx : ((s[j]'hlt).toNat : Int) = (d : Int) + 48 := by omega
                  have ST := Lib.hid hst
                  clear hst hd
                  have HWD := Lib.hid (show ∀ w, Calls Tryd.prog 14 #[.int .i64 (IntKind.i64.wrap (IntKind.u8.wrap (d : Int)))] w fun e w' => e = .returned (.agg #[.int .u64 (hiN d), .int .u64 (loN d)]) ∧ Below w.heap.size w w' from fun w => by
                    have := wide_any (d : Int) (by omega) (by omega) w
                    rw [Int.toNat_natCast] at this
                    rwa [show IntKind.i64.wrap (IntKind.u8.wrap (d : Int)) = (d : Int) by rw [IntKind.wrap_u8, IntKind.wrap_i64]; omega])
                  have HBI := Lib.hid (bits_any d (by omega))
                  have hbl4 : (Bt.bits d).length ≤ 128 := by rw [Bt.len_bits]; exact Bt.blen_le (by omega)
                  have HPR := Lib.hid (show Calls Tryd.prog 12 #[.slice A l.length c, .slice (some ⟨wr.heap.size, 0, none⟩) 4 4] (wr.alloc (.cells #[.bool false, .bool true, .bool false, .bool true] 4)).drew (NewBits (ProdIs l [false, true, false, true] l.length) (wr.alloc (.cells #[.bool false, .bool true, .bool false, .bool true] 4)).drew)
                    from prod_any A (some ⟨wr.heap.size, 0, none⟩) l [false, true, false, true] c 4 _ (((RD.out.alloc (Nat.le_refl _) _).more (by simp)).drew) (ten_reads wr).drew (by omega) (by simp))
                  have BX := Lib.hid (show Below wo.heap.size wo (wr.alloc (.cells #[.bool false, .bool true, .bool false, .bool true] 4)).drew from (BL.out.alloc BL.out.size _).drew)
                  go_upto_region 16 with fail
                  go_region_law (first
                    | (go_simp; go_at_call 12; (with_reducible refine HPR.out.mono ?_); rintro e' w3 ⟨A3, c3, l3, rfl, hp3, hown3, hb3⟩; have R3 := Reads.of_own hown3; have B3 := BX.out.trans (hb3.mono BX.out.size))
                    | (go_simp; go_at_call 14; (with_reducible refine (HWD.out _).mono ?_); rintro e' w4 ⟨rfl, hb4⟩; have R4 := (R3.below hb4 (Nat.le_refl _)).more hb4.size; have B4 := B3.trans (hb4.mono B3.size))
                    | (go_simp; go_at_call 13; (with_reducible refine (HBI.out _).mono ?_); rintro e' w5 ⟨A5, c5, l5, rfl, rfl, hown5, hb5⟩; have R5 := (R4.below hb5 (Nat.le_refl _)).more hb5.size; have Q5 := Reads.of_own hown5; have B5 := B4.trans (hb5.mono B4.size))
                    | (go_simp; go_at_call 11; (with_reducible refine (plus_any A3 A5 l3 (Bt.bits d) c3 c5 w5 R5 Q5 ?p1 ?p2).mono ?_); (case p1 => have := hp3.2.1; simp only [List.length_cons, List.length_nil] at this; omega); (case p2 => omega); rintro e' w6 ⟨A6, c6, l6, rfl, hp6, hown6, hb6⟩; have R6 := Reads.of_own hown6; have B6 := B5.trans (hb6.mono B5.size)))
                  all_goals
                    have hn3 : Bt.Norm l3 := hp3.2.2 (.inr (by decide)) (by simp)
                    have N6 := Lib.hid (plus_norm hp6 hn3 (Bt.norm_bits d))
                    have V6 := Lib.hid (show Bt.val l6 = Dc.vals (s.data.toList.take (j + 1)) by
                      rw [ST.out, hp6.1, hp3.1, Bt.val_bits, List.take_length]
                      have : Bt.val [false, true, false, true] = 10 := by decide
                      rw [this]
                      omega)
                    have R6' := Lib.hid R6
                    have B6' := Lib.hid B6
                    clear R3 R4 R5 Q5 R6 B3 B4 B5 B6 hp3 hp6 hown3 hown5 hown6 hb3 hb4 hb5 hb6 hn3
                    go_wp2
                    exact ⟨⟨j + 1, l6, A6, c6, by omega, by simp, rfl, N6.out, V6.out, R6'.out, B6'.out⟩, by simp [RowKit.intOf]; omega⟩
                · obtain rfl : j = s.size := by omega
                  have hva := VA.out
                  rw [HFU.out] at hva
                  have E3 := Lib.hid (E2.out.below BL.out)
                  have HNU := Lib.hid (num_ok A l c wr RD.out (by omega) (by rw [hva]; exact HV.out))
                  rw [hva] at HNU
                  clear hva
                  generalize Dc.vals s.data.toList = v at *
                  go_wp2_with fail
                  refine HNU.out.mono ?_
                  rintro e' w7 ⟨rfl, hb7⟩
                  have E4 := Lib.hid (E3.out.below hb7)
                  have y0 := E4.out.hd.cell 0
                  have y1 := E4.out.hd.cell 1
                  have f0 := E4.out.hd.frozen 0
                  have f1 := E4.out.hd.frozen 1
                  have q0 := E4.out.hd.lt
                  simp at y0 y1
                  clear hb7
                  go_wp2
                  have BK := ((E4.out.hd.set_ 0 (.int .u64 (hiN v))).set_ 1 (.int .u64 (loN v))).alloc (.cells #[.int .u64 (hiN v), .int .u64 (loN v)] 24)
                  have BE := ((E4.out.bel.setCell (p := ⟨w.heap.size, 0, none⟩) (Nat.le_refl _) (.int .u64 (hiN v))).setCell (p := ⟨w.heap.size, 1, none⟩) (Nat.le_refl _) (.int .u64 (loN v)))
                  refine bodyPost_ret (v := .tuple #[.agg #[.int .u64 (hiN v), .int .u64 (loN v)], .int .i64 0]) (results_1d Tryd.results5 rfl rfl ((BK.cell 0).trans rfl) ((BK.cell 1).trans rfl)) rfl ⟨by rw [P1.out, P2.out], BE.alloc BE.size _⟩
          · have h2 : s.size = 39 := by
              have := short_small HD.out
              omega
            have h2' : ((s.size : Int) == 39) = true := by simp [h2]
            obtain ⟨hm, hm2⟩ := same_large' HD.out h2 hv
            unfold mostL at hm hm2
            obtain ⟨p1, p2⟩ := Dc.parse_large hz HL.out HD.out hv
            have P1 := Lib.hid p1
            have P2 := Lib.hid p2
            clear p1 p2 hv
            go_wp2
            have BK := ((E2.out.hd.set_ 0 (.int .u64 0)).set_ 1 (.int .u64 0))
            refine bodyPost_ret (v := .tuple #[.agg #[.int .u64 0, .int .u64 0], .int .i64 2]) (results_1d Tryd.results5 rfl rfl ((BK.cell 0).trans rfl) ((BK.cell 1).trans rfl)) rfl ⟨by rw [P1.out, P2.out]; rfl, (E2.out.bel.setCell (p := ⟨w.heap.size, 0, none⟩) (Nat.le_refl _) (.int .u64 0)).setCell (p := ⟨w.heap.size, 1, none⟩) (Nat.le_refl _) (.int .u64 0)⟩
end Go.Proofs.YtmgkkbmcdnhdeabDoor
