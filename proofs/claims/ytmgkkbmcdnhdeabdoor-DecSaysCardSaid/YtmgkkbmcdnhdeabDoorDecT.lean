/- dec.Text, walked. -/
import Derived.Test.YtmgkkbmcdnhdeabDoorDecP
import Derived.Test.YtmgkkbmcdnhdeabDoorDecR
import Derived.Test.YtmgkkbmcdnhdeabDoorDivC
import Derived.Test.YtmgkkbmcdnhdeabDoorBeatF
import Derived.Lib.Builder
namespace Go.Proofs.YtmgkkbmcdnhdeabDoor
open Go.RowKit Go.Lib
set_option linter.unusedSimpArgs false
set_option linter.unusedVariables false

/-- digits as the bytes of their text stand in memory -/
def dcells (l : List Nat) : List Value := l.map fun d => Value.int .u8 ((48 + d : Nat) : Int)
theorem conv_row {W : World} {g : Nat} {t : TypeId} {cs : Array Value} (ns : List Int) (h : Blk W g t cs) (hcs : ∀ (j : Nat) v, (ns.map (Value.int .u8))[j]? = some v → cs[j]? = some v) (l c : Nat) (hl : l = ns.length) :
    (convert 32 9 (.slice (some ⟨g, 0, none⟩) l c)).run Tryd.prog W = .ok (.string ⟨(ns.map u8).toArray⟩) W := by
  subst hl
  rw [run_convert_bytes_string W _ _ 5 _ _ _ Tryd.underlying32 Tryd.underlying5 Tryd.underlying9]
  have hc : (loadCells ⟨g, 0, none⟩ ns.length).run Tryd.prog W = .ok (ns.map (Value.int .u8)).toArray W := by
    have := run_loadCells_list (P := Tryd.prog) W ⟨g, 0, none⟩ (ns.map (Value.int .u8)) (fun j v hv => by
      have hadd : (⟨g, 0, none⟩ : Addr).add j = ⟨g, j, none⟩ := by unfold Addr.add; split <;> simp_all
      rw [hadd, h.cell j]
      exact hcs j v hv)
    simpa using this
  rw [run_bytesToString W ⟨g, 0, none⟩ ns.length c ns hc, fold_push]
  rfl
theorem txt_is (n : Nat) : (⟨(((Dc.digs n).reverse.map fun d => ((48 + d : Nat) : Int)).map u8).toArray⟩ : ByteArray) = Dc.txt n := by
  unfold Dc.txt
  rw [List.map_map]
  congr 2
theorem blk_rowT {w w' : World} {g B n : Nat} {t e : TypeId} {cs : Array Value} {v : Value} {xs : List Value} {o : Obj} (h : Blk w g t cs) (ho : w.ownsRow B e 1 v n xs) (hte : t ≠ e) (hg : (w.alloc o).grownBy w' v.ownBlock) : Blk w' g t cs :=
  (hg.block g (h.alloc o).lt fun e' => ownBlock_ne ho h hte e'.symm).trans (h.alloc o)
theorem cur_at {cur : Array Value} {D : List Nat} (hx : cur.toList.take (D.length * 1) = dcells D) (k : Nat) (hk : k < D.length) : cur[k]? = some (.int .u8 ((48 + D.getD k 0 : Nat) : Int)) := by
  have h1 : (dcells D)[k]? = some (.int .u8 ((48 + D.getD k 0 : Nat) : Int)) := by simp [dcells, List.getD, hk]
  rw [← hx, List.getElem?_take, if_pos (by omega)] at h1
  simpa using h1
theorem rev_cells {ds cur : Array Value} {D : List Nat} (hx : cur.toList.take (D.length * 1) = dcells D) (hd : ∀ k, k < D.length → ds[k]? = cur[D.length - 1 - k]?) :
    ∀ (j : Nat) v, ((D.reverse.map fun d => ((48 + d : Nat) : Int)).map (Value.int .u8))[j]? = some v → ds[j]? = some v := by
  intro j v hj
  have hjl : j < D.length := by
    have := (List.getElem?_eq_some_iff.1 hj).1
    simpa using this
  rw [hd j hjl, cur_at hx _ (by omega), ← hj, List.getElem?_map, List.getElem?_map, List.getElem?_reverse hjl]
  simp [List.getD, show D.length - 1 - j < D.length by omega]
theorem u8_info : (Tryd.prog.info? 5).map (fun i => (i.zero, i.size, i.bytes)) = some (some (.int .u8 0), 1, 1) := by kernel_rfl
theorem oneCell_d (l : List Nat) : ∀ u ∈ dcells l, u.oneCell' = true := by
  intro u hu
  obtain ⟨x, _, rfl⟩ := List.mem_map.1 hu
  rfl
theorem reads_one (w : World) (e : TypeId) (d : Nat) : Reads (w.alloc (.cells #[.int .u8 ((48 + d : Nat) : Int)] e)) (w.heap.size + 1) 1 (some ⟨w.heap.size, 0, none⟩) 1 (dcells [d]) :=
  ⟨rfl, fun _ => ⟨_, rfl, by simp, fun j u hj => by
    match j, hj with
    | 0, hj => simp [dcells] at hj; subst hj; exact (Blk.new w e #[.int .u8 ((48 + d : Nat) : Int)]).cell 0⟩⟩

set_option maxHeartbeats 2000000 in
set_option maxRecDepth 100000 in
theorem text_any (n : Nat) (hn : n < 2 ^ 128) (w : World) :
    Calls Tryd.prog 6 #[.agg #[.int .u64 (hiN n), .int .u64 (loN n)]] w fun e w' => e = .returned (.string (Dc.txt n)) ∧ Below w.heap.size w w' := by
  obtain ⟨i0, hi, hz0, hz1, hz2⟩ := info_parts u8_info
  have H39 := Dc.digs_39 hn
  have HDV := Lib.hid (show ∀ a, a < 2 ^ 128 → ∀ w, Calls Tryd.prog 16 #[.agg #[.int .u64 (hiN a), .int .u64 (loN a)], .agg #[.int .u64 0, .int .u64 10]] w fun e w' => e = .returned (.tuple #[.agg #[.int .u64 (hiN (a / 10)), .int .u64 (loN (a / 10))], .agg #[.int .u64 0, .int .u64 ((a % 10 : Nat) : Int)], .int .i64 0]) ∧ Below w.heap.size w w' from fun a ha w => by
    have := div_any a 10 ha (by decide) (by decide) w
    have e1 : hiN 10 = 0 := by decide
    have e2 : loN 10 = 10 := by decide
    have e3 : hiN (a % 10) = 0 := by unfold hiN; omega
    have e4 : loN (a % 10) = ((a % 10 : Nat) : Int) := by unfold loN; omega
    unfold DivIs at this
    rw [e1, e2, e3, e4] at this
    exact this)
  have E := Lib.hid ((Env.start w).lay #[.int .u64 (hiN n), .int .u64 (loN n)] 24)
  have HN := Lib.hid hn
  clear hn
  go_enter Tryd.func6, Tryd.ntmps6
  go_wp2
  go_loopw [3] (fun v wr => ∃ (a : Nat) (pre : List Nat), a < 2 ^ 128 ∧ pre ++ Dc.digs a = Dc.digs n ∧ wr.ownsRow (w.heap.size + 1) 5 1 v pre.length (dcells pre) ∧ Blk wr w.heap.size 24 #[.int .u64 (hiN a), .int .u64 (loN a)] ∧ Below w.heap.size w wr) (fun v _ => 40 - lenOf v)
  case atStart => exact ⟨n, [], HN.out, rfl, ⟨by simp [dcells], .inl ⟨rfl, rfl⟩⟩, by simpa using E.out.hd, E.out.bel⟩
  case round =>
    obtain ⟨a, pre, ha, hpre, hown, hblk, hbel⟩ := hrel
    obtain ⟨A1, c1, rfl⟩ := ownsRow_len hown
    have hlen : pre.length + (Dc.digs a).length = (Dc.digs n).length := by rw [← hpre, List.length_append]
    have hne := Dc.digs_ne a
    have hr9 : a % 10 < 10 := Nat.mod_lt _ (by omega)
    have hd1 := fun h : a < 10 => Dc.digs_small h
    have hd2 := fun h : 10 ≤ a => Dc.digs_big h
    have PRE := Lib.hid hpre
    have OW := Lib.hid hown
    have BK := Lib.hid hblk
    have BL := Lib.hid hbel
    have x0 := BK.out.cell 0
    have x1 := BK.out.cell 1
    have p0 := BK.out.lt
    simp at x0 x1
    have HD1 := Lib.hid (HDV.out a ha)
    have HA := Lib.hid ha
    have HD2 := Lib.hid hd1
    have HD3 := Lib.hid hd2
    clear hpre hown hblk hbel ha hd1 hd2
    go_wp2_with fail
    refine (HD1.out _).mono ?_
    rintro e' w1 ⟨rfl, hb1⟩
    have hp1 := hb1.size
    have BK1 := Lib.hid (BK.out.below hb1 p0)
    have BL1 := Lib.hid (BL.out.trans (hb1.mono BL.out.size))
    have OW1 := Lib.hid (ownsRow_below OW.out hb1)
    clear hb1 x0 x1 BK BL OW HD1
    have hw8 : IntKind.u8.wrap ((a % 10 : Nat) : Int) = ((a % 10 : Nat) : Int) := by rw [IntKind.wrap_u8]; omega
    generalize hr : a % 10 = r at *
    have hw9 : IntKind.u8.wrap (48 + (r : Int)) = ((48 + r : Nat) : Int) := by rw [IntKind.wrap_u8]; omega
    have HR := Lib.hid hr
    clear hr
    have q0 := hiN_bd (a / 10) (by have := HA.out; omega)
    have q1 := loN_bd (a / 10)
    go_upto_region 3 with fail
    have OW2 := Lib.hid ((OW1.out.alloc (.cells #[.int .u64 (hiN (a / 10)), .int .u64 (loN (a / 10))] 24)).alloc (.cells #[.int .u64 0, .int .u64 (r : Int)] 24))
    have BK2 := Lib.hid ((BK1.out.alloc (.cells #[.int .u64 (hiN (a / 10)), .int .u64 (loN (a / 10))] 24)).alloc (.cells #[.int .u64 0, .int .u64 (r : Int)] 24))
    have BL2 := Lib.hid ((BL1.out.alloc BL1.out.size (.cells #[.int .u64 (hiN (a / 10)), .int .u64 (loN (a / 10))] 24)).alloc (by have := BL1.out.size; simp; omega) (.cells #[.int .u64 0, .int .u64 (r : Int)] 24))
    have K4 := Lib.hid ((Blk.new w1 24 #[.int .u64 (hiN (a / 10)), .int .u64 (loN (a / 10))]).alloc (.cells #[.int .u64 0, .int .u64 (r : Int)] 24))
    have K5 := Lib.hid (Blk.new (w1.alloc (.cells #[.int .u64 (hiN (a / 10)), .int .u64 (loN (a / 10))] 24)) 24 #[.int .u64 0, .int .u64 (r : Int)])
    have hs2 : w1.heap.size + 1 + 1 = ((w1.alloc (.cells #[.int .u64 (hiN (a / 10)), .int .u64 (loN (a / 10))] 24)).alloc (.cells #[.int .u64 0, .int .u64 (r : Int)] 24)).heap.size := by simp
    simp only [World.size_alloc] at K5
    generalize hW2 : World.alloc (World.alloc w1 _) _ = w2 at *
    clear hW2
    have x1 := K5.out.cell 1
    simp at x1
    go_wp2_with (at_builtin; refine wpList_append_any _ rfl _ _ 32 rfl (w.heap.size + 1) 5 i0 (.int .u8 0) 1 1 Tryd.underlying32 hi hz0 hz1 hz2 rfl (by decide) _ _ _ rfl (OW2.out.alloc _) _ _ 1 _ _ rfl (reads_one w2 _ r) (oneCell_d [r]) ?c1 ?c2 ?c3 ?_)
    case c1 => unfold maxLen; omega
    case c2 => omega
    case c3 => have := BK2.out.lt; simp; omega
    intro v3 w3 ho3 hg3 hn3
    have BK3 := Lib.hid (blk_rowT BK2.out OW2.out (by decide) hg3)
    have K43 := Lib.hid (blk_rowT K4.out OW2.out (by decide) hg3)
    have BL3 := Lib.hid ((BL2.out.alloc BL2.out.size _).grown hg3 (by have := BL2.out.size; simp; omega) (fun k hk => by have := (OW2.out.lt k hk).1; omega))
    obtain ⟨A3, c3, rfl⟩ := ownsRow_len ho3
    have O3 := Lib.hid ho3
    clear hg3 hn3 ho3 x1 K4 K5 BK2 BK1 BL1 BL2 OW1 OW2
    have x0 := K43.out.cell 0
    have x1 := K43.out.cell 1
    have y0 := BK3.out.cell 0
    have y1 := BK3.out.cell 1
    have f0 := BK3.out.frozen 0
    have f1 := BK3.out.frozen 1
    simp at x0 x1 y0 y1
    have hrc : (pre ++ [r]).length = pre.length + 1 := by simp
    have O3' := Lib.hid (show w3.ownsRow (w.heap.size + 1) 5 1 (.slice A3 (pre.length + 1) c3) (pre.length + 1) (dcells (pre ++ [r])) by simpa [dcells] using O3.out)
    clear O3
    by_cases hq : a / 10 = 0
    · have hpn : pre ++ [r] = Dc.digs n := by
        have h1 := HD2.out (by omega)
        have h2 := PRE.out
        have h3 := HR.out
        rw [h1] at h2
        rw [← h2, show r = a by omega]
      have z0 : hiN (a / 10) = 0 := by rw [hq]; decide
      have z1 : loN (a / 10) = 0 := by rw [hq]; decide
      rw [z0] at x0
      rw [z1] at x1
      rw [z0, z1]
      rw [hpn] at O3'
      have hln : pre.length + 1 = (Dc.digs n).length := by rw [← hpn]; simp
      rw [hln] at O3' ⊢
      clear hpn hrc hlen hne PRE HD2 HD3 hr9 hw8 hw9 q0 q1 z0 z1 HR
      have hD1 := Dc.digs_ne n
      have HTX := Lib.hid (txt_is n)
      generalize hDN : Dc.digs n = D at *
      clear hDN
      have OW4 := ownsRow_setCell (ownsRow_setCell O3'.out (a := ⟨w.heap.size, 0, none⟩) (by simp) (.int .u64 0)) (a := ⟨w.heap.size, 1, none⟩) (by simp) (.int .u64 0)
      have BL4 := Lib.hid ((BL3.out.setCell (p := ⟨w.heap.size, 0, none⟩) (Nat.le_refl _) (.int .u64 0)).setCell (p := ⟨w.heap.size, 1, none⟩) (Nat.le_refl _) (.int .u64 0))
      rcases OW4.2 with ⟨_, h0⟩ | ⟨g, cap, cur, hv, hbg, hg, hnc, hmc, hsz, hx⟩
      · omega
      injection hv with hv1 hv2 hv3
      subst hv1 hv3
      have HG := Lib.hid hg
      have HX := Lib.hid hx
      clear OW4 hg hx O3'
      go_wp2_with fail
      refine (rev_any g c3 D.length cur (by omega) (by omega) hnc (fun k hk => ⟨_, cur_at HX.out k hk⟩) _ HG.out).mono ?_
      rintro e' w5 ⟨rfl, hb5, ds, hk5, hs5, hd5⟩
      have hcv := conv_row (D.reverse.map fun d => ((48 + d : Nat) : Int)) hk5 (rev_cells HX.out hd5) D.length c3 (by simp)
      rw [HTX.out] at hcv
      have BL5 := Lib.hid (BL4.out.trans (hb5.mono (by omega)))
      clear hd5 hk5 hb5
      go_wp2
      go_ret
      exact ⟨rfl, BL5.out⟩
    · have hnz : ¬ (hiN (a / 10) = 0 ∧ loN (a / 10) = 0) := by unfold hiN loN; omega
      have hpd : (pre ++ [r]) ++ Dc.digs (a / 10) = Dc.digs n := by
        have h1 := HD3.out (by omega)
        rw [← PRE.out, h1, List.append_assoc]
        rfl
      have PD := Lib.hid hpd
      have haq : a / 10 < 2 ^ 128 := by have := HA.out; omega
      have HAQ := Lib.hid haq
      generalize a / 10 = q at *
      have HE := Lib.hid (show ∀ W, Blk W w.heap.size 24 #[.int .u64 (hiN q), .int .u64 (loN q)] → Below w.heap.size w W → W.ownsRow (w.heap.size + 1) 5 1 (.slice A3 (pre.length + 1) c3) (pre.length + 1) (dcells (pre ++ [r])) →
        ∃ (a : Nat) (pre' : List Nat), a < 2 ^ 128 ∧ pre' ++ Dc.digs a = Dc.digs n ∧ W.ownsRow (w.heap.size + 1) 5 1 (.slice A3 (pre.length + 1) c3) pre'.length (dcells pre') ∧ Blk W w.heap.size 24 #[.int .u64 (hiN a), .int .u64 (loN a)] ∧ Below w.heap.size w W
        from fun W h1 h2 h3 => ⟨q, pre ++ [r], HAQ.out, PD.out, by rw [hrc]; exact h3, h1, h2⟩)
      clear hpd haq HA HR PRE HD2 HD3 PD HAQ hr9 hw8 hw9
      have HB := Lib.hid (show Blk ((w3.setCell ⟨w.heap.size, 0, none⟩ (.int .u64 (hiN q))).setCell ⟨w.heap.size, 1, none⟩ (.int .u64 (loN q))) w.heap.size 24 #[.int .u64 (hiN q), .int .u64 (loN q)] by simpa using (BK3.out.set_ 0 (.int .u64 (hiN q))).set_ 1 (.int .u64 (loN q)))
      have HL := Lib.hid (show Below w.heap.size w ((w3.setCell ⟨w.heap.size, 0, none⟩ (.int .u64 (hiN q))).setCell ⟨w.heap.size, 1, none⟩ (.int .u64 (loN q))) from (BL3.out.setCell (Nat.le_refl _) _).setCell (Nat.le_refl _) _)
      have HO := Lib.hid (ownsRow_setCell (ownsRow_setCell O3'.out (a := ⟨w.heap.size, 0, none⟩) (by simp) (.int .u64 (hiN q))) (a := ⟨w.heap.size, 1, none⟩) (by simp) (.int .u64 (loN q)))
      generalize hiN q = qh at *
      generalize loN q = ql at *
      go_wp2
      all_goals first
        | (exfalso; omega)
        | exact ⟨HE.out _ HB.out HL.out HO.out, by simp [lenOf]; omega⟩
        | (rename_i h0 h1; subst h0; exact ⟨HE.out _ HB.out HL.out HO.out, by simp [lenOf]; omega⟩)
end Go.Proofs.YtmgkkbmcdnhdeabDoor
