/- hist.Put and hist.Join, walked. -/
import Derived.Test.YtfenbjffjeidmabHist
import Derived.Test.YtfenbjffjeidmabShelf
import Derived.Test.YtfenbjffjeidmabBitLen
import Derived.BigFrame
namespace Go.Proofs.Ytfenbjffjeidmab
open Go.RowKit
set_option linter.unusedSimpArgs false
set_option linter.unusedVariables false

theorem results_cell_slot {P : Program} {fn : Func} {p q : Tmp} {ty : TypeId} (h : fn.results = #[.cell p ty, .tmp q]) (tmps : Array Value) (w : World) (g : Nat) (t : TypeId) (cs : Array Value) (fr : Nat × Nat) (d : TypeDesc) (v : Value)
    (hp : tmps.getD p undef = .pointer (some ⟨g, 0, none⟩)) (hq : tmps.getD q undef = v) (hg : w.heap[g]? = some (.cells cs t fr))
    (hu : P.underlying ty = some d) (hd : (match d with | .struct _ | .array _ _ => true | _ => false) = true) (hi : (P.info? ty).map (·.size) = some cs.size) :
    (results fn tmps).run P w = .ok (.tuple #[.agg cs, v]) w := by
  have hp' : tmps[p]?.getD undef = .pointer (some ⟨g, 0, none⟩) := by simpa using hp
  have hq' : tmps[q]?.getD undef = v := by simpa using hq
  simp [results, h, hp', hq', asAddr, run_loadVar_row w g t ty cs fr d hg hu hd hi]

theorem Env.layRow {w0 W : World} {l : List (Nat × TypeId × Array Value)} (h : Env w0 W l) (cs c' : Array Value) (t : TypeId) : Env w0 ((W.alloc (.cells cs t)).setRow W.heap.size c') ((W.heap.size, t, c') :: l) :=
  (h.lay cs t).setRow (fun x hx => Nat.ne_of_lt (h.2 x hx).2.lt) c'
def zeros : List Int := List.replicate 26 0
theorem zeros_len : zeros.length = 26 := by simp [zeros]
/-- what Put answers -/
def putR (l : List Int) (n : Int) : List Int × Int :=
  if histE l ≠ 0 then (zeros, histE l) else if wi n 0 16777216 = false then (zeros, 1)
  else if l.getD (Bt.blen n.toNat) 0 = 1073741824 then (zeros, 2) else (l.set (Bt.blen n.toNat) (l.getD (Bt.blen n.toNat) 0 + 1), 0)
theorem blen_val {n : Int} (h : wi n 0 16777216 = true) : Bt.blen n.toNat ≤ 25 := by
  obtain ⟨h0, h1⟩ := wi_true.1 h
  exact Bt.blen_le (by omega)
theorem putR_len (l : List Int) (n : Int) (h : l.length = 26) : (putR l n).1.length = 26 := by
  unfold putR
  split
  · exact zeros_len
  · split
    · exact zeros_len
    · split
      · exact zeros_len
      · simp [h]

theorem winval_any (n : Int) (w : World) :
    Calls Try.prog 13 #[.int .i64 n] w fun e w' => e = .returned (.bool (wi n 0 16777216)) ∧ w = w' := by
  go_enter Try.func13, Try.ntmps13
  by_cases h0 : 0 ≤ n
  · by_cases h1 : n ≤ 16777216
    · have hr : wi n 0 16777216 = true := wi_true.2 ⟨h0, h1⟩
      have HR := Lib.hid hr
      clear hr
      go_wp2
      go_ret
      exact ⟨ret_bool HR.out.symm, rfl⟩
    · have hr : wi n 0 16777216 = false := wi_false.2 (.inr (by omega))
      have HR := Lib.hid hr
      clear hr
      go_wp2
      go_ret
      exact ⟨ret_bool HR.out.symm, rfl⟩
  · have hr : wi n 0 16777216 = false := wi_false.2 (.inl (by omega))
    have HR := Lib.hid hr
    clear hr
    go_wp2
    go_ret
    exact ⟨ret_bool HR.out.symm, rfl⟩

section
set_option maxHeartbeats 1000000
set_option maxRecDepth 100000
theorem hput_is (l : List Int) (h26 : l.length = 26) (n : Int) (h0 : -9223372036854775808 ≤ n) (h1 : n ≤ 9223372036854775807) (w : World) :
    Calls Try.prog 4 #[.agg (histA l), .int .i64 n] w fun e' w' => e' = .returned (.tuple #[.agg (histA (putR l n).1), .int .i64 (putR l n).2]) ∧ Below w.heap.size w w' := by
  obtain ⟨hz, hi⟩ := zero_of_info hist_info
  have HB := Lib.hid build26
  have HCK := Lib.hid (fun w => hcheck_is l h26 _ rfl w)
  have H1 := Lib.hid (fun (m : List Int) => histA_one m)
  have HI := Lib.hid (show ∀ m : List Int, m.length = 26 → (Try.prog.info? 24).map (·.size) = some (histA m).size from fun m hm => by rw [histA_size, hm]; exact hi)
  have HS := Lib.hid (show ∀ m : List Int, m.length = 26 → (histA zeros).size = (histA m).size from fun m hm => by rw [histA_size, histA_size, hm, zeros_len])
  have HV := Lib.hid (fun w => winval_any n w)
  have hzz : (Value.agg (histA (List.replicate 26 0))) = .agg (histA zeros) := rfl
  rw [hzz] at HB hz
  have HZ := Lib.hid hz
  have H26 := Lib.hid h26
  have HAT := Lib.hid (fun k (h : k < 26) => histA_at l k (by omega))
  have HZL := Lib.hid zeros_len
  clear hi hzz
  generalize hZ : histA zeros = Z at *
  have HZE := Lib.hid hZ
  clear hZ h26
  have E := Lib.hid (((Env.start w).lay (histA l) 24).lay Z 24)
  simp only [World.size_alloc] at E
  generalize hcs : histA l = cs at *
  have HCS := Lib.hid hcs
  clear hcs
  go_enter Try.func4, Try.ntmps4
  go_wp2_with (refine wpList_load_row rfl 24 _ rfl w.heap.size rfl 24 cs (0, 0) _ E.out.tl.hd Try.underlying24 rfl (by rw [← HCS.out]; exact HI.out l H26.out) ?_)
  refine (HCK.out _).mono ?_
  rintro e' w1 ⟨rfl, hb1⟩
  have E1 := Lib.hid (E.out.below hb1)
  clear hb1 E
  have p0 := E1.out.hd.lt
  have p1 := E1.out.tl.hd.lt
  by_cases he : histE l = 0
  · rw [he]
    have HE := Lib.hid he
    clear he
    go_wp2_with fail
    refine (HV.out _).mono ?_
    rintro e' w' ⟨rfl, rfl⟩
    cases hn : wi n 0 16777216
    · have HR := Lib.hid (show putR l n = (zeros, 1) by unfold putR; rw [if_neg (by simp [HE.out]), if_pos hn])
      clear hn
      have HB1 := Lib.hid (HB.out w1)
      have hb := HB.out
      go_wp2_with (refine wpList_store_row rfl 24 _ _ rfl (w.heap.size + 1) Z Z 24 rfl rfl E1.out.hd (by rw [← HZE.out]; exact HI.out _ HZL.out) rfl (by rw [← HZE.out]; exact H1.out _) ?_)
      refine bodyPost_ret (v := .tuple #[.agg Z, .int .i64 1]) (results_cell_slot Try.results4 _ _ (w.heap.size + 1) 24 Z (0, 0) _ _ rfl rfl (E1.out.setRow (by simp) Z).hd Try.underlying24 rfl (by rw [← HZE.out]; exact HI.out _ HZL.out)) rfl ⟨by rw [HR.out, HZE.out], ?_⟩
      exact (E1.out.setRow (by simp) Z).bel
    · obtain ⟨hn0, hn1⟩ := wi_true.1 hn
      have hk := blen_val hn
      have HBL := Lib.hid (show Lib.bitLen n.toNat = Bt.blen n.toNat from bitLen_blen _ (by omega))
      have HR1 := Lib.hid (show l.getD (Bt.blen n.toNat) 0 = 1073741824 → putR l n = (zeros, 2) from fun h => by
        unfold putR; rw [if_neg (by simp [HE.out]), if_neg (by simp [hn]), if_pos h])
      have HR2 := Lib.hid (show ¬ l.getD (Bt.blen n.toNat) 0 = 1073741824 → putR l n = (l.set (Bt.blen n.toNat) (l.getD (Bt.blen n.toNat) 0 + 1), 0) from fun h => by
        unfold putR; rw [if_neg (by simp [HE.out]), if_neg (by simp [hn]), if_neg h])
      clear hn
      generalize hkk : Bt.blen n.toNat = k at *
      have hk2 : k < 26 := by omega
      have HK := Lib.hid hkk
      clear hkk
      go_wp2_with fail
      refine (Try.bits_Len n w1 hn0 (by omega)).mono ?_
      rintro e' w' ⟨rfl, rfl⟩
      rw [HBL.out]
      have x0 := (E1.out.tl.hd.cell k).trans (HAT.out k hk2)
      have f0 := E1.out.tl.hd.frozen k
      have hokk : 0 ≤ l.getD k 0 ∧ l.getD k 0 ≤ 1073741824 := by
        have := HE.out
        unfold histE at this
        split at this
        · rename_i h; exact h k (by have := H26.out; omega)
        · simp at this
      obtain ⟨x1, x2⟩ := hokk
      generalize hx : l.getD k 0 = x at *
      have HX := Lib.hid hx
      clear hx
      by_cases hm : x = 1073741824
      · have HR := Lib.hid (HR1.out hm)
        have hb := HB.out
        go_wp2_with (refine wpList_store_row rfl 24 _ _ rfl (w.heap.size + 1) Z Z 24 rfl rfl E1.out.hd (by rw [← HZE.out]; exact HI.out _ HZL.out) rfl (by rw [← HZE.out]; exact H1.out _) ?_)
        refine bodyPost_ret (v := .tuple #[.agg Z, .int .i64 2]) (results_cell_slot Try.results4 _ _ (w.heap.size + 1) 24 Z (0, 0) _ _ rfl rfl (E1.out.setRow (by simp) Z).hd Try.underlying24 rfl (by rw [← HZE.out]; exact HI.out _ HZL.out)) rfl ⟨by rw [HR.out, HZE.out], ?_⟩
        exact (E1.out.setRow (by simp) Z).bel
      · have HR := Lib.hid (HR2.out hm)
        have hm' : (x == 1073741824) = false := by simpa using hm
        clear hm
        have B1 := Lib.hid (E1.out.tl.hd.set_ k (.int .i64 (x + 1)))
        have B2 := Lib.hid (E1.out.hd.far (p := ⟨w.heap.size, k, none⟩) (by simp) (.int .i64 (x + 1)))
        have B3 := Lib.hid (E1.out.bel.setCell (p := ⟨w.heap.size, k, none⟩) (by simp) (.int .i64 (x + 1)))
        have HSET := Lib.hid (show cs.setIfInBounds k (.int .i64 (x + 1)) = histA (l.set k (x + 1)) by rw [← HCS.out]; exact histA_set l k _)
        have HLN := Lib.hid (show (l.set k (x + 1)).length = 26 by rw [List.length_set, H26.out])
        generalize hcd : cs.setIfInBounds k (.int .i64 (x + 1)) = cd at *
        clear hcd
        go_wp2_with (first
          | (refine wpList_load_row rfl 24 _ rfl w.heap.size rfl 24 cd (0, 0) _ B1.out Try.underlying24 rfl (by rw [HSET.out]; exact HI.out _ HLN.out) ?_)
          | (refine wpList_store_row rfl 24 _ _ rfl (w.heap.size + 1) Z cd 24 rfl rfl B2.out (by rw [HSET.out]; exact HI.out _ HLN.out) (by rw [HSET.out]; exact HS.out _ HLN.out) (by rw [HSET.out]; exact H1.out _) ?_))
        refine bodyPost_ret (v := .tuple #[.agg cd, .int .i64 0]) (results_cell_slot Try.results4 _ _ (w.heap.size + 1) 24 cd (0, 0) _ _ rfl rfl (setRow_heap _ _ Z cd _ (0, 0) B2.out) Try.underlying24 rfl (by rw [HSET.out]; exact HI.out _ HLN.out)) rfl ⟨by rw [HR.out, HSET.out], ?_⟩
        exact below_row B3.out (by omega) _
  · have hne : (histE l == 0) = false := by simpa using he
    have HR := Lib.hid (show putR l n = (zeros, histE l) by unfold putR; rw [if_pos he])
    clear he
    generalize histE l = e at *
    have hb := HB.out
    go_wp2_with (refine wpList_store_row rfl 24 _ _ rfl (w.heap.size + 1) Z Z 24 rfl rfl E1.out.hd (by rw [← HZE.out]; exact HI.out _ HZL.out) rfl (by rw [← HZE.out]; exact H1.out _) ?_)
    refine bodyPost_ret (v := .tuple #[.agg Z, .int .i64 e]) (results_cell_slot Try.results4 _ _ (w.heap.size + 1) 24 Z (0, 0) _ _ rfl rfl (E1.out.setRow (by simp) Z).hd Try.underlying24 rfl (by rw [← HZE.out]; exact HI.out _ HZL.out)) rfl ⟨by rw [HR.out, HZE.out], ?_⟩
    exact (E1.out.setRow (by simp) Z).bel

/-- what Join answers -/
def joinR (a b : List Int) : List Int × Int :=
  if histE a ≠ 0 then (zeros, histE a) else if histE b ≠ 0 then (zeros, histE b) else if Hi.Fits a b 26 then (Hi.mid a b 26, 0) else (zeros, 2)
theorem joinR_len (a b : List Int) (h : a.length = 26) : (joinR a b).1.length = 26 := by
  unfold joinR
  split
  · exact zeros_len
  · split
    · exact zeros_len
    · split
      · rw [Hi.mid_len, h]
      · exact zeros_len
theorem fits_not {a b : List Int} {k : Nat} (hk : k < 26) (h : 1073741824 < a.getD k 0 + b.getD k 0) : ¬ Hi.Fits a b 26 := fun hf => by have := hf k hk; omega
theorem fits_succ {a b : List Int} {k : Nat} (h : Hi.Fits a b k) (h2 : a.getD k 0 + b.getD k 0 ≤ 1073741824) : Hi.Fits a b (k + 1) := fun j hj => by
  rcases Nat.lt_or_ge j k with e | e
  · exact h j e
  · have : j = k := by omega
    subst this; exact h2

theorem hjoin_is (a b : List Int) (ha : a.length = 26) (hb : b.length = 26) (w : World) :
    Calls Try.prog 5 #[.agg (histA a), .agg (histA b)] w fun e' w' => e' = .returned (.tuple #[.agg (histA (joinR a b).1), .int .i64 (joinR a b).2]) ∧ Below w.heap.size w w' := by
  obtain ⟨hz, hi⟩ := zero_of_info hist_info
  obtain ⟨hz2, hi2⟩ := zero_of_info hist_arr
  have HB := Lib.hid build26
  have HCA := Lib.hid (fun w => hcheck_is a ha _ rfl w)
  have HCB := Lib.hid (fun w => hcheck_is b hb _ rfl w)
  have H1 := Lib.hid (fun (m : List Int) => histA_one m)
  have HI := Lib.hid (show ∀ m : List Int, m.length = 26 → (Try.prog.info? 24).map (·.size) = some (histA m).size from fun m hm => by rw [histA_size, hm]; exact hi)
  have HI2 := Lib.hid (show ∀ m : List Int, m.length = 26 → (Try.prog.info? 22).map (·.size) = some (histA m).size from fun m hm => by rw [histA_size, hm]; exact hi2)
  have HS := Lib.hid (show ∀ m : List Int, m.length = 26 → (histA zeros).size = (histA m).size from fun m hm => by rw [histA_size, histA_size, hm, zeros_len])
  have hzz : (Value.agg (histA (List.replicate 26 0))) = .agg (histA zeros) := rfl
  rw [hzz] at HB hz
  have HZ := Lib.hid hz
  have LA := Lib.hid ha
  have LB := Lib.hid hb
  have ATB := Lib.hid (fun k (h : k < 26) => histA_at b k (by omega))
  have ATM := Lib.hid (fun k (h : k < 26) => (histA_at (Hi.mid a b k) k (by rw [Hi.mid_len, ha]; exact h)).trans (by rw [Hi.mid_at _ _ _ _ (by omega), if_neg (Nat.lt_irrefl _)]))
  have ATN := Lib.hid (fun k (h : k < 26) => (histA_at (Hi.mid a b (k + 1)) k (by rw [Hi.mid_len, ha]; exact h)).trans (by rw [Hi.mid_at _ _ _ _ (by omega), if_pos (Nat.lt_succ_self _)]))
  have HZL := Lib.hid zeros_len
  have OA := Lib.hid (show histE a = 0 → Hi.Ok a from fun h => by unfold histE at h; split at h; assumption; simp at h)
  have OB := Lib.hid (show histE b = 0 → Hi.Ok b from fun h => by unfold histE at h; split at h; assumption; simp at h)
  clear hi hi2 hz2 hzz ha hb
  generalize hZ : histA zeros = Z at *
  have HZE := Lib.hid hZ
  clear hZ
  have E := Lib.hid ((((Env.start w).lay (histA a) 24).lay (histA b) 24).lay Z 24)
  simp only [World.size_alloc] at E
  generalize hca : histA a = ca at *
  have CA := Lib.hid hca
  clear hca
  generalize hcb : histA b = cb at *
  have CB := Lib.hid hcb
  clear hcb
  go_enter Try.func5, Try.ntmps5
  go_wp2_with (refine wpList_load_row rfl 24 _ rfl w.heap.size rfl 24 ca (0, 0) _ E.out.tl.tl.hd Try.underlying24 rfl (by rw [← CA.out]; exact HI.out a LA.out) ?_)
  refine (HCA.out _).mono ?_
  rintro e' w1 ⟨rfl, hb1⟩
  have E1 := Lib.hid (E.out.below hb1)
  clear hb1 E
  have p0 := E1.out.hd.lt
  have p1 := E1.out.tl.hd.lt
  by_cases hea : histE a = 0
  · rw [hea]
    have HEA := Lib.hid hea
    clear hea
    go_wp2_with (refine wpList_load_row rfl 24 _ rfl (w.heap.size + 1) rfl 24 cb (0, 0) _ E1.out.tl.hd Try.underlying24 rfl (by rw [← CB.out]; exact HI.out b LB.out) ?_)
    refine (HCB.out _).mono ?_
    rintro e' w2 ⟨rfl, hb2⟩
    have E2 := Lib.hid (E1.out.below hb2)
    clear hb2 E1 p0 p1
    by_cases heb : histE b = 0
    · rw [heb]
      have HEB := Lib.hid heb
      clear heb
      have E3 := Lib.hid (show Env w w2 [(w.heap.size, 24, histA (Hi.mid a b 0)), (w.heap.size + 1, 24, cb), (w.heap.size + 1 + 1, 24, Z)] by
        rw [Hi.mid_zero, CA.out]
        exact E2.out.drop fun x hx => by simp at hx ⊢; rcases hx with h | h | h <;> simp [h])
      clear E2
      go_wp2_with (refine wpList_load_row rfl 22 _ rfl (w.heap.size + 1) rfl 24 cb (0, 0) _ E3.out.tl.hd Try.underlying22 rfl (by rw [← CB.out]; exact HI2.out b LB.out) ?_)
      go_loopw [24] (fun i wr => ∃ k : Nat, k ≤ 26 ∧ i = .int .i64 k ∧ Hi.Fits a b k ∧ Env w wr [(w.heap.size, 24, histA (Hi.mid a b k)), (w.heap.size + 1, 24, cb), (w.heap.size + 1 + 1, 24, Z)]) (fun i _ => 26 - (intOf i).toNat)
      case atStart => exact ⟨0, by omega, rfl, fun j h => by omega, E3.out⟩
      case round =>
        obtain ⟨k, hk, rfl, hfit, hE⟩ := hrel
        have F := Lib.hid hE
        have HFT := Lib.hid hfit
        clear hE hfit E3
        by_cases hlt : k < 26
        · have y0 := ATB.out k hlt
          have y1 := index26 cb k hlt _ y0
          have x0 := (F.out.hd.cell k).trans (ATM.out k hlt)
          have f0 := F.out.hd.frozen k
          obtain ⟨a0, a1⟩ := OA.out HEA.out k (by have := LA.out; omega)
          obtain ⟨b0, b1⟩ := OB.out HEB.out k (by have := LB.out; omega)
          have HFS := Lib.hid (show a.getD k 0 + b.getD k 0 ≤ 1073741824 → Hi.Fits a b (k + 1) from fits_succ HFT.out)
          have HFN := Lib.hid (show ¬ a.getD k 0 + b.getD k 0 ≤ 1073741824 → joinR a b = (zeros, 2) from fun h => by
            unfold joinR; rw [if_neg (by simp [HEA.out]), if_neg (by simp [HEB.out]), if_neg (fits_not hlt (by omega))])
          have HSET := Lib.hid (show (histA (Hi.mid a b k)).setIfInBounds k (.int .i64 (a.getD k 0 + b.getD k 0)) = histA (Hi.mid a b (k + 1)) by
            rw [histA_set, Hi.mid_set _ _ _ (by have := LA.out; omega)])
          have F2 := Lib.hid (F.out.setHd (by simp; omega) k (.int .i64 (a.getD k 0 + b.getD k 0)))
          rw [HSET.out] at F2
          generalize a.getD k 0 = x at *
          generalize b.getD k 0 = y at *
          by_cases hm : x + y ≤ 1073741824
          · have HFS2 := Lib.hid (HFS.out hm)
            go_wp2
            go_roundw
            case rel => exact ⟨k + 1, hlt, by simp, HFS2.out, F2.out⟩
            case measure => simp [intOf]; omega
          · have HR := Lib.hid (HFN.out hm)
            have hb := HB.out
            go_wp2_with (refine wpList_store_row rfl 24 _ _ rfl (w.heap.size + 1 + 1) Z Z 24 rfl rfl F2.out.tl.tl.hd (by rw [← HZE.out]; exact HI.out _ HZL.out) rfl (by rw [← HZE.out]; exact H1.out _) ?_)
            refine bodyPost_ret (v := .tuple #[.agg Z, .int .i64 2]) (results_cell_slot Try.results5 _ _ (w.heap.size + 1 + 1) 24 Z (0, 0) _ _ rfl rfl (setRow_heap _ _ Z Z _ (0, 0) F2.out.tl.tl.hd) Try.underlying24 rfl (by rw [← HZE.out]; exact HI.out _ HZL.out)) rfl ⟨by rw [HR.out, HZE.out], ?_⟩
            exact below_row F2.out.tl.tl.bel (by omega) _
        · have hk2 : k = 26 := by omega
          have HR := Lib.hid (show joinR a b = (Hi.mid a b k, 0) by
            unfold joinR; rw [if_neg (by simp [HEA.out]), if_neg (by simp [HEB.out]), if_pos (by rw [← hk2]; exact HFT.out), hk2])
          have HML := Lib.hid (show (Hi.mid a b k).length = 26 by rw [Hi.mid_len, LA.out])
          have hk3 : 26 ≤ k := by omega
          clear hk2
          generalize Hi.mid a b k = M at *
          go_wp2_with (first
            | (refine wpList_load_row rfl 24 _ rfl w.heap.size rfl 24 (histA M) (0, 0) _ F.out.hd Try.underlying24 rfl (HI.out _ HML.out) ?_)
            | (refine wpList_store_row rfl 24 _ _ rfl (w.heap.size + 1 + 1) Z (histA M) 24 rfl rfl F.out.tl.tl.hd (HI.out _ HML.out) (HS.out _ HML.out) (H1.out _) ?_))
          refine bodyPost_ret (v := .tuple #[.agg (histA M), .int .i64 0]) (results_cell_slot Try.results5 _ _ (w.heap.size + 1 + 1) 24 (histA M) (0, 0) _ _ rfl rfl (setRow_heap _ _ Z (histA M) _ (0, 0) F.out.tl.tl.hd) Try.underlying24 rfl (HI.out _ HML.out)) rfl ⟨by rw [HR.out], ?_⟩
          exact below_row F.out.bel (by omega) _
    · have hne : (histE b == 0) = false := by simpa using heb
      have HR := Lib.hid (show joinR a b = (zeros, histE b) by unfold joinR; rw [if_neg (by simp [HEA.out]), if_pos heb])
      clear heb
      generalize histE b = e at *
      have hb := HB.out
      go_wp2_with (refine wpList_store_row rfl 24 _ _ rfl (w.heap.size + 1 + 1) Z Z 24 rfl rfl E2.out.hd (by rw [← HZE.out]; exact HI.out _ HZL.out) rfl (by rw [← HZE.out]; exact H1.out _) ?_)
      refine bodyPost_ret (v := .tuple #[.agg Z, .int .i64 e]) (results_cell_slot Try.results5 _ _ (w.heap.size + 1 + 1) 24 Z (0, 0) _ _ rfl rfl (setRow_heap _ _ Z Z _ (0, 0) E2.out.hd) Try.underlying24 rfl (by rw [← HZE.out]; exact HI.out _ HZL.out)) rfl ⟨by rw [HR.out, HZE.out], ?_⟩
      exact below_row E2.out.bel (by omega) _
  · have hne : (histE a == 0) = false := by simpa using hea
    have HR := Lib.hid (show joinR a b = (zeros, histE a) by unfold joinR; rw [if_pos hea])
    clear hea
    generalize histE a = e at *
    have hb := HB.out
    go_wp2_with (refine wpList_store_row rfl 24 _ _ rfl (w.heap.size + 1 + 1) Z Z 24 rfl rfl E1.out.hd (by rw [← HZE.out]; exact HI.out _ HZL.out) rfl (by rw [← HZE.out]; exact H1.out _) ?_)
    refine bodyPost_ret (v := .tuple #[.agg Z, .int .i64 e]) (results_cell_slot Try.results5 _ _ (w.heap.size + 1 + 1) 24 Z (0, 0) _ _ rfl rfl (setRow_heap _ _ Z Z _ (0, 0) E1.out.hd) Try.underlying24 rfl (by rw [← HZE.out]; exact HI.out _ HZL.out)) rfl ⟨by rw [HR.out, HZE.out], ?_⟩
    exact below_row E1.out.bel (by omega) _
end
end Go.Proofs.Ytfenbjffjeidmab
