/- The reference's town: Tick, walked. (with what it needs) -/
import Derived.Test.YtcikljcjhijjdabGreatM50
import Derived.Test.YtcikljcjhijjdabGreatM48
import Derived.BigQuiet
import Derived.Deep.QuietTactic
namespace Go.Proofs.YtcikljcjhijjdabGreat
open Go.RowKit Go.Lib
set_option linter.unusedSimpArgs false
set_option linter.unusedVariables false

section
variable {w W W' wr w2 : World} {F : Nat → Nat} {tb db : Nat} {nv wv ov : Value} {bs : List Nat} {t : TSt} {g : Int} {k : Nat}
theorem RTownIs.err {er : Int} (h : RTownIs F W tb db nv wv bs t) (hC : Col w W F) (h5 : t.L.length ≤ 5) (hb : Below W.heap.size W W') (he : t.tickE g = er) (hz : er ≠ 0) : RwN w F W tb (t.ticked g) (t.tickN g) (t.tickE g) (.returned (.tuple #[.slice none 0 0, .int .i64 er])) W' := by
  unfold TSt.ticked TSt.tickN
  rw [he, if_neg hz, if_neg hz]
  exact ⟨none, 0, rfl, World.ownsRow_nil _ _ _ _, F, hC.below hb, Moved.below hC hb, _, _, _, _, h.below hC hb h5⟩
theorem RkRel.fin (h : RkRel w F W tb db nv bs t g t.L.length ov wr) (he : t.tickE g = 0) : RwN w F W tb (t.ticked g) (t.tickN g) (t.tickE g) (.returned (.tuple #[ov, .int .i64 0])) wr := by
  obtain ⟨F1, wv, h⟩ := h
  have e1 : t.mid g t.L.length = t.ticked g := by
    rw [TSt.mid_all t g _ (Nat.le_refl _)]
    unfold TSt.ticked
    rw [if_pos he]
  have e2 : t.midN g t.L.length = t.tickN g := by
    unfold TSt.midN TSt.tickN
    rw [if_pos he, List.take_length]
  have ho := h.out
  have ht := h.twn
  rw [e2] at ho
  rw [e1] at ht
  rw [he]
  obtain ⟨A, c, rfl⟩ := ownsRow_len ho
  exact ⟨A, c, rfl, ho, F1, h.col, h.mov, _, _, _, _, ht⟩
theorem RkRel.start (h : RTownIs F W tb db nv wv bs t) (hC : Col w W F) (h5 : t.L.length ≤ 5) (hb : Below W.heap.size W W') : RkRel w F W tb db nv bs t g 0 (.slice none 0 0) W' :=
  ⟨F, wv, hC.below hb, Moved.below hC hb, by rw [TSt.mid_zero]; exact h.below hC hb h5, by unfold TSt.midN; exact World.ownsRow_nil _ _ _ _, fun x hx => by cases hx⟩
set_option maxHeartbeats 400000 in
set_option maxRecDepth 100000 in
theorem rttick_arg (g : Int) (hg : g < 1 ∨ 1000 < g) (W : World) :
    Calls Tryz.prog 10 #[.pointer (some ⟨tb, 0, none⟩), .int .i64 g] W fun e W' => e = .returned (.tuple #[.slice none 0 0, .int .i64 1]) ∧ W = W' := by
  have HWI := Lib.hid (wi_false.2 hg)
  clear hg
  go_enter Tryz.func10, Tryz.ntmps10
  go_wp2_with fail
  refine (rwithin_b _ _ _ false HWI.out _).mono ?_
  rintro e' w' ⟨rfl, rfl⟩
  go_wp2
  go_ret2
  exact ⟨rfl, rfl⟩
set_option maxHeartbeats 4000000 in
set_option maxRecDepth 100000 in
theorem rttick_go (h : RTownIs F W tb db nv wv bs t) (hC : Col w W F) (hg : TGood t) (g : Int) (g1 : 1 ≤ g) (g2 : g ≤ 1000) :
    Calls Tryz.prog 10 #[.pointer (some ⟨tb, 0, none⟩), .int .i64 g] W (RwN w F W tb (t.ticked g) (t.tickN g) (t.tickE g)) := by
  obtain ⟨in0, hin, hin0, hin1, hin2⟩ := info_parts note_info
  obtain ⟨is0, his, his0, his1, his2⟩ := info_parts str_info
  have h5 := hg.five
  have hw9 := hg.way
  have H := Lib.hid h
  have HC := Lib.hid hC
  have HG := Lib.hid hg
  obtain ⟨htb, b0, b1, b2⟩ := h.cells
  obtain ⟨An, cn, rfl⟩ := ownsRow_len h.nds.1
  obtain ⟨Aw, cw, rfl⟩ := ownsRow_len h.way.1
  have QE := Lib.hid (fun er W' (hb : Below W.heap.size W W') (he : t.tickE g = er) (hz : er ≠ 0) => h.err (w := w) hC h5 hb he hz)
  have QS := Lib.hid (fun W' (hb : Below W.heap.size W W') => RkRel.start (w := w) (g := g) h hC h5 hb)
  have QF := Lib.hid (fun ov wr he (hk : RkRel w F W tb db (.slice An t.L.length cn) bs t g t.L.length ov wr) => hk.fin he)
  have HWI := Lib.hid (show wi g 1 1000 = true by rw [wi_true]; omega)
  generalize hQ : RwN w F W tb (t.ticked g) (t.tickN g) (t.tickE g) = Q at *
  clear hQ h hC hg
  obtain ⟨mf, hmf⟩ : ∃ mf : Nat → Nat, mf = fun k => t.way.length + manyOf g (t.L.take k) := ⟨_, rfl⟩
  have HMF := Lib.hid (fun k => congrFun hmf k)
  have hm0 : t.way.length = mf 0 := by rw [hmf]; simp [manyOf]
  clear hmf
  have hn5 : (t.L.length : Int) ≤ 5 := by omega
  go_enter Tryz.func10, Tryz.ntmps10
  go_wp2_with fail
  refine (rwithin_b _ _ _ true HWI.out _).mono ?_
  rintro e' w' ⟨rfl, rfl⟩
  go_wp2_with fail
  go_loopw [6, 28] (fun mv iv wr => ∃ k : Nat, k ≤ t.L.length ∧ iv = .int .i64 (k : Int) ∧ mv = .int .i64 (mf k : Int) ∧ (∀ p ∈ t.L.take k, badB g p = false) ∧ Below W.heap.size W wr) (fun _ iv _ => t.L.length - (RowKit.intOf iv).toNat)
  case atStart => exact ⟨0, Nat.zero_le _, rfl, rfl, by simp, Below.refl _ _⟩
  case round =>
    obtain ⟨k, hk, rfl, rfl, hgood, hbel⟩ := hrel
    obtain ⟨wo, rfl⟩ : ∃ wo, wo = wr := ⟨_, rfl⟩
    have GD := Lib.hid hgood
    have BW := Lib.hid hbel
    clear hgood hbel
    have HO := Lib.hid (H.out.below HC.out BW.out h5)
    clear b0 b1 b2
    obtain ⟨htbo, b0, b1, b2⟩ := HO.out.cells
    have KEEP := Lib.hid (show ∀ W', Below wo.heap.size wo W' → (∀ hk : k < t.L.length, badB g (t.L[k]'hk) = false) → k < t.L.length → ∃ k' : Nat, k' ≤ t.L.length ∧ Value.int .i64 ((k : Int) + 1) = .int .i64 (k' : Int) ∧ Value.int .i64 (mf (k + 1) : Int) = .int .i64 (mf k' : Int) ∧ (∀ p ∈ t.L.take k', badB g p = false) ∧ Below W.heap.size W W' from fun W' hb hbad hlt =>
      ⟨k + 1, by omega, by simp, rfl, fun p hp => by
        rw [List.take_succ_eq_append_getElem hlt] at hp
        rcases List.mem_append.1 hp with hp | hp
        · exact GD.out p hp
        · rw [List.mem_singleton.1 hp]; exact hbad hlt, Below.thru5 BW.out hb⟩)
    by_cases hlt : k < t.L.length
    · have hb : k < bs.length := by rw [H.out.len]; exact hlt
      have HMS := Lib.hid (show mf (k + 1) = mf k + (if (t.L[k]'hlt).2 = true then 0 else (t.L[k]'hlt).1.many g) by rw [HMF.out, HMF.out, manyOf_snoc g t.L k hlt]; omega)
      have HLV := Lib.hid (rlives_any HO.out h5 (k : Int))
      obtain ⟨gn, cn', e1, hn1, hn2, hgn, hgF, c1⟩ := HO.out.at_ hlt
      simp only [Value.slice.injEq] at e1
      obtain ⟨rfl, -, rfl⟩ := e1
      unfold maxLen at hn2
      have ik0 : (0 : Int) ≤ (k : Int) := by omega
      have ik1 : (k : Int) < (t.L.length : Int) := by omega
      have HNG := Lib.hid (HG.out.good _ (List.getElem_mem hlt))
      have HME := Lib.hid (List.getElem_mem hlt)
      obtain ⟨nA, nn, nc, nsv, nl, hnode⟩ := HO.out.node k hb hlt
      have HBK := Lib.hid hnode.blk
      clear hnode
      have KE2 := Lib.hid (fun W' hb' hbad => KEEP.out W' hb' hbad hlt)
      clear KEEP
      generalize bs[k]'hb = b at *
      rw [lives_of hlt] at HLV
      cases hdd : (t.L[k]'hlt).2 with
      | true =>
        have HLV2 := Lib.hid (show Calls Tryz.prog 16 #[.pointer (some ⟨tb, 0, none⟩), .int .i64 (k : Int)] wo fun e W' => e = .returned (.bool false) ∧ wo = W' by have := HLV.out; rw [hdd] at this; exact this)
        have hms := HMS.out
        rw [hdd] at hms
        simp only [if_true, Nat.add_zero] at hms
        have K3 := Lib.hid (KE2.out wo (Below.refl _ _) (fun _ => by unfold badB; rw [hdd]; rfl))
        rw [hms] at K3
        clear hdd hms HMS KE2 HLV
        go_wp2_with fail
        refine HLV2.out.mono ?_
        rintro e' w' ⟨rfl, rfl⟩
        go_wp2
        exact ⟨K3.out, by simp [RowKit.intOf]; omega⟩
      | false =>
        have HLV2 := Lib.hid (show Calls Tryz.prog 16 #[.pointer (some ⟨tb, 0, none⟩), .int .i64 (k : Int)] wo fun e W' => e = .returned (.bool true) ∧ wo = W' by have := HLV.out; rw [hdd] at this; exact this)
        have hms := HMS.out
        rw [hdd, if_neg (by decide)] at hms
        have hgd0 := HNG.out.now0
        have hgd1 := HNG.out.now1
        have hcf := HNG.out.cfg
        have HCF := Lib.hid hcf
        unfold CfgIn at hcf
        obtain ⟨-, -, he1, he2, -⟩ := hcf
        have HB := Lib.hid (show badB g (t.L[k]'hlt) = decide (1073741824 < (t.L[k]'hlt).1.now + g ∨ 64 ≤ g / cfe (t.L[k]'hlt).1.c) from by
          unfold badB
          rw [hdd, tickE_node g1 g2]
          by_cases q : 1073741824 < (t.L[k]'hlt).1.now + g ∨ 64 ≤ g / cfe (t.L[k]'hlt).1.c
          · rw [if_pos q]; simp [q]
          · rw [if_neg q]; simp [q])
        have QB := Lib.hid (fun (hb : badB g (t.L[k]'hlt) = true) => QE.out 2 wo BW.out (tickE_bad g1 g2 HME.out hb) (by decide))
        have HSN := Lib.hid (show ∀ n, Calls Tryz.prog 33 #[.pointer (some ⟨b, 0, none⟩)] (wo.drewN n) fun e w' => e = .returned (.int .i64 ((t.L[k]'hlt).1.now / cfe (t.L[k]'hlt).1.c)) ∧ ∃ m, w' = wo.drewN m from fun n => (sent_core b (t.L[k]'hlt).1.c (t.L[k]'hlt).1.now (t.L[k]'hlt).1.drops _ _ hgd0 (by omega) HCF.out (wo.drewN n) (HBK.out.drewN n)).mono fun e w' ⟨k1, m, k2⟩ => ⟨k1, n + m, k2.trans (World.drewN_drewN wo n m)⟩)
        unfold NSt.many at hms
        have HMS2 := Lib.hid hms
        have d2 := HBK.out.cell 2
        have d5 := HBK.out.cell 5
        have hbl := HBK.out.lt
        simp [rnodeCs] at d2 d5
        have hdv : ∀ ev : Int, 1 ≤ ev → (64 ≤ g / ev ↔ 64 * ev ≤ g) := fun ev hev => Int.le_ediv_iff_mul_le (by omega)
        have HDV := Lib.hid (hdv _ he1)
        clear hms HMS hdd HLV hdv
        generalize (t.L[k]'hlt).1.now = nw at *
        generalize cfe (t.L[k]'hlt).1.c = ev at *
        have hq64 : IntKind.i64.wrap (64 * ev) = 64 * ev := by rw [IntKind.wrap_i64]; omega
        by_cases q1 : 1073741824 < nw + g
        · have Q1 := Lib.hid (QB.out (by rw [HB.out, decide_eq_true_iff]; exact .inl q1))
          have HT := Lib.hid (show wi (nw + g) 0 1073741824 = false by rw [wi_false]; omega)
          go_wp2_with fail
          refine HLV2.out.mono ?_
          rintro e' w' ⟨rfl, rfl⟩
          go_wp2_with fail
          refine (rtm_any _ false HT.out _).mono ?_
          rintro e' w' ⟨rfl, rfl⟩
          go_wp2
          exact Q1.out
        have HT := Lib.hid (show wi (nw + g) 0 1073741824 = true by rw [wi_true]; omega)
        have q1' : nw + g ≤ 1073741824 := by omega
        by_cases q2 : 64 ≤ g / ev
        · have Q1 := Lib.hid (QB.out (by rw [HB.out, decide_eq_true_iff]; exact .inr q2))
          have q2' : 64 * ev ≤ g := HDV.out.1 q2
          clear q1 q2
          go_wp2_with fail
          refine HLV2.out.mono ?_
          rintro e' w' ⟨rfl, rfl⟩
          go_wp2_with fail
          refine (rtm_any _ true HT.out _).mono ?_
          rintro e' w' ⟨rfl, rfl⟩
          go_wp2
          exact Q1.out
        have q2' : g < 64 * ev := by have := HDV.out; omega
        have hbd : badB g (t.L[k]'hlt) = false := by rw [HB.out, decide_eq_false]; omega
        have HBD := Lib.hid hbd
        clear q1 q2 hbd
        go_wp2_with fail
        refine HLV2.out.mono ?_
        rintro e' w' ⟨rfl, rfl⟩
        go_wp2_with fail
        refine (rtm_any _ true HT.out _).mono ?_
        rintro e' w' ⟨rfl, rfl⟩
        go_wp2_with fail
        have hqa0 : 0 ≤ nw / ev := Int.ediv_nonneg hgd0 (by omega)
        have hqa1 : nw / ev ≤ (nw + g) / ev := Int.ediv_le_ediv (by omega) (by omega)
        have hqa2 : (nw + g) / ev ≤ nw + g := Int.ediv_le_self _ (by omega)
        have hws1 : IntKind.i64.wrap (nw + g) = nw + g := by rw [IntKind.wrap_i64]; omega
        have htd1 : (nw + g).tdiv ev = (nw + g) / ev := Int.tdiv_eq_ediv_of_nonneg (by omega)
        have hmk : mf k ≤ 1500 := by rw [HMF.out]; have := manyOf_take HG.out GD.out; omega
        have hmk1 : mf (k + 1) ≤ 1500 := by
          rw [HMF.out]
          have := manyOf_take (k := k + 1) HG.out (fun p hp => by
            rw [List.take_succ_eq_append_getElem hlt] at hp
            rcases List.mem_append.1 hp with hp | hp
            · exact GD.out p hp
            · rw [List.mem_singleton.1 hp]; exact HBD.out)
          omega
        generalize (nw + g) / ev = qa at *
        generalize nw / ev = qb at *
        have hms := HMS2.out
        have hws2 : IntKind.i64.wrap qa = qa := by rw [IntKind.wrap_i64]; omega
        have hws4 : IntKind.i64.wrap (qa - qb) = qa - qb := by rw [IntKind.wrap_i64]; omega
        have hws5 : IntKind.i64.wrap ((mf k : Int) + (qa - qb)) = (mf (k + 1) : Int) := by rw [IntKind.wrap_i64]; omega
        clear hms hqa0 hqa1 hqa2 hmk hmk1
        go_quiet ((go_at_call 33; exact HSN.out _))
        have K3 := Lib.hid (KE2.out (wo.drewN nq) (below_drewN (Below.refl _ _) nq) (fun _ => HBD.out))
        go_wp2
        exact ⟨K3.out, by simp [RowKit.intOf]; omega⟩
    · obtain rfl : k = t.L.length := by omega
      have hall : ∀ p ∈ t.L, badB g p = false := fun p hp => GD.out p (by rw [List.take_length]; exact hp)
      have hmn := HMF.out t.L.length
      rw [List.take_length] at hmn
      by_cases hf : 1000 < mf t.L.length
      · have Q1 := Lib.hid (QE.out 10 wo BW.out (tickE_full g1 g2 hall (by rw [← hmn]; exact hf)) (by decide))
        clear hall hmn
        have hf2 : (1000 : Int) < (mf t.L.length : Int) := by omega
        generalize mf t.L.length = mm at *
        go_wp2
        exact Q1.out
      · have HE := Lib.hid (tickE_ok g1 g2 hall (by rw [← hmn]; exact hf))
        have T0 := Lib.hid (QS.out wo BW.out)
        have hf2 : (mf t.L.length : Int) ≤ 1000 := by omega
        have HAL := Lib.hid hall
        clear hall hmn
        generalize mf t.L.length = mm at *
        go_wp2_with fail
        go_loopw [9, 80] (fun ov iv wr => ∃ (k : Nat) (o : Value), k ≤ t.L.length ∧ iv = .int .i64 (k : Int) ∧ o = ov ∧ RkRel w F W tb db (.slice An t.L.length cn) bs t g k o wr) (fun _ iv _ => t.L.length - (RowKit.intOf iv).toNat)
        case atStart => exact ⟨0, _, Nat.zero_le _, rfl, rfl, T0.out⟩
        case round =>
          obtain ⟨k, ov, hk, rfl, rfl, htk⟩ := hrel
          obtain ⟨wp, rfl⟩ : ∃ wp, wp = wr := ⟨_, rfl⟩
          have TR := Lib.hid htk
          obtain ⟨F1, wv1, hts⟩ := htk
          have TS := Lib.hid hts
          obtain ⟨Aw1, cw1, rfl⟩ := ownsRow_len TS.out.twn.way.1
          clear hts b0 b1 b2 T0
          obtain ⟨htbp, b0, b1, b2⟩ := TS.out.twn.cells
          by_cases hlt : k < t.L.length
          · have hml : k < (t.mid g k).L.length := by rw [TSt.mid_len]; exact hlt
            have hb : k < bs.length := by rw [H.out.len]; exact hlt
            have hat := TSt.mid_at t g k k hlt (Nat.le_refl _)
            have hlv := rlives_any TS.out.twn (by rw [TSt.mid_len]; exact h5) (k : Int)
            rw [lives_of hml, hat] at hlv
            have HLV := Lib.hid hlv
            obtain ⟨gn, cn', e1, hn1, hn2, hgn, hgF, c1⟩ := TS.out.twn.at_ hml
            rw [TSt.mid_len] at e1 hn1
            simp only [Value.slice.injEq] at e1
            obtain ⟨rfl, -, rfl⟩ := e1
            unfold maxLen at hn2
            have ik0 : (0 : Int) ≤ (k : Int) := by omega
            have ik1 : (k : Int) < (t.L.length : Int) := by omega
            have HNG := Lib.hid (HG.out.good _ (List.getElem_mem hlt))
            have HBF := Lib.hid (HAL.out _ (List.getElem_mem hlt))
            have hnode := TS.out.twn.node k hb hml
            rw [hat] at hnode
            have HND := Lib.hid hnode
            clear hnode hat hlv
            cases hdd : (t.L[k]'hlt).2 with
            | true =>
              have HLV2 := Lib.hid (show Calls Tryz.prog 16 #[.pointer (some ⟨tb, 0, none⟩), .int .i64 (k : Int)] wp fun e W' => e = .returned (.bool false) ∧ wp = W' by have := HLV.out; rw [hdd] at this; exact this)
              have K3 := Lib.hid (TR.out.skip hlt hdd)
              clear hdd HLV
              go_wp2_with fail
              refine HLV2.out.mono ?_
              rintro e' w' ⟨rfl, rfl⟩
              go_wp2
              exact ⟨⟨k + 1, _, by omega, by simp, rfl, K3.out⟩, by simp [RowKit.intOf]; omega⟩
            | false =>
              have HLV2 := Lib.hid (show Calls Tryz.prog 16 #[.pointer (some ⟨tb, 0, none⟩), .int .i64 (k : Int)] wp fun e W' => e = .returned (.bool true) ∧ wp = W' by have := HLV.out; rw [hdd] at this; exact this)
              have HTE := Lib.hid (show (t.L[k]'hlt).1.tickE g = 0 by have := HBF.out; unfold badB at this; simpa [hdd] using this)
              have HDD := Lib.hid hdd
              clear hdd HLV
              have HTK := Lib.hid (show Calls Tryz.prog 34 #[.pointer (some ⟨bs[k]'hb, 0, none⟩), .int .i64 g] wp (fun e w' => ∃ A1 c1 A2 c2, e = .returned (.tuple #[.slice A1 ((t.L[k]'hlt).1.many g) c1, .slice A2 ((t.L[k]'hlt).1.ticked g).notes.length c2, .int .i64 0]) ∧ w'.ownsRow wp.heap.size 9 1 (.slice A1 ((t.L[k]'hlt).1.many g) c1) ((t.L[k]'hlt).1.many g) (cellsTx (beatsOf (t.L[k]'hlt).1.c (t.L[k]'hlt).1.seq ((t.L[k]'hlt).1.many g))) ∧
                  RkMid w F W tb db (.slice (some ⟨gn, 0, none⟩) t.L.length cn) bs t g k (paint F1 wp w' (20 + k)) (.slice Aw1 (t.mid g k).way.length cw1) ov (.slice A2 ((t.L[k]'hlt).1.ticked g).notes.length c2) ((t.L[k]'hlt).1.ticked g).notes w' ((t.mid g k).L.set k (((t.L[k]'hlt).1.ticked g).tell, false)) (t.mid g k).way) from by
                obtain ⟨_, _, _, _, _, hn⟩ := HND.out
                refine (rtick_ok hn HNG.out g HTE.out).mono fun e w' hh => ?_
                obtain ⟨A1, c1, A2, c2, k1, k2, k3, k4, k5⟩ := hh
                exact ⟨A1, c1, A2, c2, k1, k2, TS.out.node h5 hlt HDD.out k3 (HoldIs.at_ (HoldIs.grow k4)) k5⟩)
              have HMY := Lib.hid (show (t.L[k]'hlt).1.many g ≤ 100 by have := tkM_le HNG.out g; unfold NSt.tkM at this; rw [if_pos HTE.out] at this; exact this)
              have HNL := Lib.hid (show ((t.L[k]'hlt).1.ticked g).notes.length ≤ 8 from notes_le8 (HNG.out.ticked HTE.out))
              have HWL := Lib.hid (show (t.mid g k).way.length ≤ 1500 by rw [mid_way_len]; have := manyOf_take (k := k) HG.out (fun p hp => HAL.out p (List.mem_of_mem_take hp)); omega)
              have HML := Lib.hid (midN_le (k := k) HG.out HAL.out)
              have HE1 := Lib.hid (show beatsOf (t.L[k]'hlt).1.c (t.L[k]'hlt).1.seq ((t.L[k]'hlt).1.many g) = beats1 g (t.L[k]'hlt) by unfold beats1; rw [if_neg (by rw [HDD.out]; decide)])
              have HE2 := Lib.hid (show ((t.L[k]'hlt).1.ticked g).notes = notes1b g (t.L[k]'hlt) by unfold notes1b; rw [if_neg (by rw [HDD.out]; decide)])
              have HE3 := Lib.hid (show (((t.L[k]'hlt).1.ticked g).tell, false) = tick1 g (t.L[k]'hlt) by unfold tick1; rw [if_neg (by rw [HDD.out]; decide)])
              have HE4 := Lib.hid (beatsOf_len (t.L[k]'hlt).1.c (t.L[k]'hlt).1.seq ((t.L[k]'hlt).1.many g))
              have hk5 : k < 5 := by omega
              clear HND HTE HBF TR
              generalize bs[k]'hb = b at *
              generalize beatsOf (t.L[k]'hlt).1.c (t.L[k]'hlt).1.seq ((t.L[k]'hlt).1.many g) = TT at *
              generalize ((t.L[k]'hlt).1.ticked g).notes = NN at *
              generalize ((t.L[k]'hlt).1.ticked g).tell = s1 at *
              generalize (t.L[k]'hlt).1.many g = mm1 at *
              go_wp2_with fail
              refine HLV2.out.mono ?_
              rintro e' w' ⟨rfl, rfl⟩
              go_wp2_with fail
              refine HTK.out.mono ?_
              rintro e' w2 ⟨A1, d1, A2, d2, rfl, hk2, hmid⟩
              have TX := Lib.hid (Reads.of_own hk2)
              have MD := Lib.hid hmid
              have MDL := Lib.hid (show ((t.mid g k).L.set k (s1, false)).length ≤ 5 by rw [List.length_set, TSt.mid_len]; exact h5)
              obtain ⟨htb2, q0, q1, q2⟩ := hmid.twn.cells
              clear hk2 hmid c1 b0 b1 b2
              go_wp2_with (at_builtin; refine wpList_append_any _ rfl _ _ 24 rfl 0 9 is0 (.string ByteArray.empty) 1 16 Tryz.underlying24 his his0 his1 his2 rfl (by decide) _ (t.mid g k).way.length (cellsTx (t.mid g k).way) rfl MD.out.twn.way.1 w2.heap.size A1 mm1 d1 (cellsTx TT) rfl TX.out (oneCell_T TT) ?c1 ?c2 (Nat.zero_le _) ?_)
              case c1 => have := HWL.out; have := HMY.out; unfold maxLen; omega
              case c2 => have := HWL.out; have := HMY.out; omega
              intro wv3 w3 ho3 hg3 hb3
              obtain ⟨Aw3, cw3, rfl⟩ := ownsRow_len ho3
              obtain ⟨hB3, F3, hM3⟩ := MD.out.way (T := TT) MDL.out hk5 (by rw [HE4.out]; exact ho3) hg3 hb3
              have htb3 := hB3.lt
              have z3 := hB3.cell 2
              have zf := hB3.frozen 2
              simp at z3
              have M3 := Lib.hid hM3
              have NX := Lib.hid (Reads.of_own hM3.nts)
              have WS := Lib.hid (hM3.mov.kept.size)
              clear ho3 hg3 hb3 hB3 hM3 q0 q1 q2
              go_wp2_with (at_builtin; refine wpList_append_any _ rfl _ _ 38 rfl W.heap.size 55 in0 (.agg #[.string ByteArray.empty, .int .i64 0, .bool false]) 3 32 Tryz.underlying38 hin hin0 hin1 hin2 rfl (by decide) _ (t.midN g k).length (cells3 (t.midN g k)) rfl M3.out.out _ A2 NN.length d2 (cells3 NN) rfl NX.out (oneCell_3 NN) ?c3 ?c4 WS.out ?_)
              case c3 => have := HML.out; have := HNL.out; unfold maxLen; omega
              case c4 => have := HML.out; have := HNL.out; omega
              intro ov4 w4 ho4 hg4 hb4
              have FIN := Lib.hid (M3.out.app h5 hlt ho4 hg4 (hb4.imp id (fun e => by rw [e]; simp [World.setCell])) HE1.out HE2.out HE3.out)
              clear ho4 hg4 hb4
              go_wp2
              exact ⟨⟨k + 1, _, by omega, by simp, rfl, FIN.out⟩, by simp [RowKit.intOf]; omega⟩
          · obtain rfl : k = t.L.length := by omega
            have Q1 := Lib.hid (QF.out ov wp HE.out TR.out)
            go_wp2
            exact Q1.out
theorem rttick_any (h : RTownIs F W tb db nv wv bs t) (hC : Col w W F) (hg : TGood t) (g : Int) :
    Calls Tryz.prog 10 #[.pointer (some ⟨tb, 0, none⟩), .int .i64 g] W (RwN w F W tb (t.ticked g) (t.tickN g) (t.tickE g)) := by
  by_cases ha : g < 1 ∨ 1000 < g
  · have he : t.tickE g = 1 := by unfold TSt.tickE; rw [if_pos ha]
    exact (rttick_arg g ha W).mono fun e W' ⟨k1, k2⟩ => by
      subst k1 k2
      exact h.err hC hg.five (Below.refl _ _) he (by decide)
  · exact rttick_go h hC hg g (by omega) (by omega)
end
end Go.Proofs.YtcikljcjhijjdabGreat

namespace Go.Proofs.YtcikljcjhijjdabGreat
open Go.RowKit Go.Lib
set_option linter.unusedSimpArgs false
set_option linter.unusedVariables false

structure RbIs (F : Nat → Nat) (W : World) (tb db : Nat) (nv : Value) (bs : List Nat) (L : List NSt) : Prop where
  blk : BlkC F 6 W tb 49 #[nv, .map (some db), .slice none 0 0]
  nds : RowC F 7 W 45 1 bs.length nv (ptrs bs)
  ded : MarkMap Tryz.prog 3 4 W db 0 (fun _ => false)
  fdb : F db = 8
  len : bs.length = L.length
  node : ∀ i (h : i < bs.length) (h' : i < L.length), RNodeAt (fun k => F k = 20 + i) W (bs[i]'h) (L[i]'h')
section
variable {w W W' wr w1 w2 w3 w4 : World} {F F' : Nat → Nat} {P : Nat → Prop} {tb db b i k : Nat} {nv nv' : Value} {bs : List Nat} {L : List NSt} {l : List CfgD}
theorem RbIs.other (h : RbIs F W tb db nv bs L) (hC : Col w W F) (m : Moved P F W F' W') (hP : ∀ c, P c → ¬ ((6 ≤ c ∧ c ≤ 9) ∨ (20 ≤ c ∧ c < 20 + bs.length))) : RbIs F' W' tb db nv bs L := by
  have hn : ∀ c, ((6 ≤ c ∧ c ≤ 9) ∨ (20 ≤ c ∧ c < 20 + bs.length)) → ¬ P c := fun c h1 h2 => hP c h2 h1
  exact ⟨m.blk hC (by omega) (hn 6 (.inl (by omega))) h.blk, m.row hC (by omega) (hn 7 (.inl (by omega))) h.nds, m.marks (by rw [h.fdb]; exact hn 8 (.inl (by omega))) h.ded, (m.col hC (by omega) (hn 8 (.inl (by omega)))).2 h.fdb, h.len,
    fun i hi hi' => m.hold hC (by omega) (hn (20 + i) (.inr (by omega))) (h.node i hi hi')⟩
theorem RbIs.below (h : RbIs F W tb db nv bs L) (hC : Col w W F) (hb : Below W.heap.size W W') : RbIs F W' tb db nv bs L :=
  h.other hC (.below (P := fun _ => False) hC hb) (fun _ h => h.elim)
theorem RbIs.cells (h : RbIs F W tb db nv bs L) : tb < W.heap.size ∧ W.cell? ⟨tb, 0, none⟩ = some nv := ⟨h.blk.1.lt, h.blk.1.cell 0⟩
/-- a call of one node -/
theorem RbIs.turn {i : Nat} {s1 : NSt} (h : RbIs F W tb db nv bs L) (hC : Col w W F) (hi : i < L.length) (hk : Kept (fun k => F k = 20 + i) W W') (hn : RNodeAt (grow (fun k => F k = 20 + i) W W') W' (bs[i]'(by rw [h.len]; exact hi)) s1) :
    RbIs (paint F W W' (20 + i)) W' tb db nv bs (L.set i s1) := by
  have m := Moved.paint hC hk
  refine ⟨m.blk hC (by omega) (by omega) h.blk, m.row hC (by omega) (by omega) h.nds, m.marks (by have := h.fdb; omega) h.ded, (m.col hC (by omega) (by omega)).2 h.fdb, by simpa using h.len, fun j hj hj' => ?_⟩
  by_cases e : j = i
  · subst e
    have : RNodeAt (fun k => paint F W W' (20 + j) k = 20 + j) W' (bs[j]'hj) s1 := hC.held hk (by omega) hn
    simpa using this
  · have hj2 : j < L.length := by simpa using hj'
    have : RNodeAt (fun k => paint F W W' (20 + i) k = 20 + j) W' (bs[j]'hj) (L[j]'hj2) := m.hold hC (c' := 20 + j) (by omega) (by omega) (h.node j hj hj2)
    simpa [List.getElem_set, Ne.symm e] using this
/-- a new node in a block of its own, put behind the others -/
theorem RbIs.push {c : CfgD} (h : RbIs F W tb db nv bs L) (hC : Col w W F) (hbs : bs.length < 10) (hb : W.heap.size ≤ b) (hn : RNodeAt (· = b) w2 b (NSt.start c)) (hbl : Below W.heap.size W w2) (hb3 : Below w2.heap.size w2 w3)
    (ho : w4.ownsRow 0 45 1 nv' (bs.length + 1) (ptrs bs ++ ptrs [b])) (hg : w3.grownBy w4 nv.ownBlock) (hx : nv'.ownBlock = nv.ownBlock ∨ nv'.ownBlock = some w3.heap.size) :
    ∃ F', Col w (w4.setCell ⟨tb, 0, none⟩ nv') F' ∧ Moved (fun c => c = 6 ∨ c = 7 ∨ c = 20 + bs.length) F W F' (w4.setCell ⟨tb, 0, none⟩ nv') ∧ RbIs F' (w4.setCell ⟨tb, 0, none⟩ nv') tb db nv' (bs ++ [b]) (L ++ [NSt.start c]) := by
  have k2 : Kept (fun k => F k = 20 + bs.length) W w2 := .of_below hbl
  have mA := Moved.paint hC k2
  have cA := hC.paint (by omega) k2
  have hlt : b < w2.heap.size := RNodeAt.xlt hn b rfl
  have hA := h.other hC mA (fun c hc => by omega)
  have nA : RNodeAt (fun k => paint F W w2 (20 + bs.length) k = 20 + bs.length) w2 b (NSt.start c) := HoldAt.wide hn (fun k e => by rw [e]; exact paint_new hb hlt) (fun k e => cA.hi k (by rw [e]; omega))
  generalize paint F W w2 (20 + bs.length) = G at *
  have m0 : Moved (fun c => c = 7) G w2 G w3 := Moved.below cA hb3
  have hC3 := cA.below hb3
  have hnF : ∀ x, nv.ownBlock = some x → G x = 7 := hA.nds.2
  have k4 : Kept (fun x => G x = 7) w3 w4 := (Kept.refl _ _).grown hg (fun x e => .inl (hnF x e))
  have m4 := Moved.paint hC3 k4
  have c4 := hC3.paint (by decide) k4
  have m : Moved (fun c => c = 7) G w2 (paint G w3 w4 7) w4 := m0.trans m4
  have hrow : RowC (paint G w3 w4 7) 7 w4 45 1 (bs.length + 1) nv' (ptrs bs ++ ptrs [b]) := ⟨ho, fun x e => by
    have hl := (ho.lt x e).2
    rcases hx with e2 | e2
    · rw [e2] at e
      exact paint_keep (hnF x e)
    · rw [e2] at e
      injection e with e
      exact paint_new (by omega) hl⟩
  have hb1 := m.blk cA (c' := 6) (by decide) (by decide) hA.blk
  have hkp : Kept (fun k => paint G w3 w4 7 k = 6) w4 (w4.setCell ⟨tb, 0, none⟩ nv') := (Kept.refl (fun k => paint G w3 w4 7 k = 6) _).setCell (a := ⟨tb, 0, none⟩) (.inl hb1.2) _
  have hsz : (w4.setCell ⟨tb, 0, none⟩ nv').heap.size = w4.heap.size := by simp [World.setCell]
  have m2 : Moved (fun x => x = 6) (paint G w3 w4 7) w4 (paint G w3 w4 7) (w4.setCell ⟨tb, 0, none⟩ nv') := ⟨hkp, fun _ _ => rfl, fun k hl h0 => by have := c4.hi k h0; omega⟩
  have hap : ptrs (bs ++ [b]) = ptrs bs ++ ptrs [b] := by unfold ptrs; rw [List.map_append]
  have f4 : paint G w3 w4 7 db = 8 := (m.col cA (by decide) (by decide)).2 hA.fdb
  refine ⟨_, ⟨c4.lo, fun k hk => by rw [hsz]; exact c4.hi k hk, c4.bel.trans (hkp.below (fun k e => c4.lo k (by rw [e]; decide)) c4.bel.size)⟩, (mA.mono (fun c hc => .inr (.inr hc))).trans ((m.mono (fun c hc => .inr (.inl hc))).trans (m2.mono (fun c hc => .inl hc))), ⟨hb1.1.set_ 0 nv', hb1.2⟩, ?_, m2.marks (by omega) (m.marks (by have := hA.fdb; omega) hA.ded), f4, by simp [h.len], fun i hi hi' => ?_⟩
  · rw [hap, List.length_append]
    exact m2.row c4 (by decide) (by decide) hrow
  · by_cases e : i < bs.length
    · have hi2 : i < L.length := by rw [← h.len]; exact e
      have : RNodeAt (fun k => paint G w3 w4 7 k = 20 + i) (w4.setCell ⟨tb, 0, none⟩ nv') (bs[i]'e) (L[i]'hi2) := m2.hold c4 (by omega) (by omega) (m.hold cA (c' := 20 + i) (by omega) (by omega) (hA.node i e hi2))
      simpa [List.getElem_append_left, e, hi2] using this
    · have hi3 : i = bs.length := by simp at hi; omega
      subst hi3
      have : RNodeAt (fun k => paint G w3 w4 7 k = 20 + bs.length) (w4.setCell ⟨tb, 0, none⟩ nv') b (NSt.start c) := m2.hold c4 (by omega) (by omega) (m.hold cA (c' := 20 + bs.length) (by omega) (by omega) nA)
      simpa [h.len] using this
theorem deads_start (l : List CfgD) (f : CfgD → NSt) : deads (l.map fun c => (f c, false)) = 0 := by
  induction l with
  | nil => rfl
  | cons c l ih => simp [deads, ih]
theorem deadM_start (l : List CfgD) (f : CfgD → NSt) : deadM (l.map fun c => (f c, false)) = fun _ => false := by
  funext q
  unfold deadM
  split
  · next i =>
    by_cases h0 : 0 ≤ i
    · simp only [h0, decide_true, Bool.true_and, List.map_map]
      rw [List.getElem?_map]
      cases l[i.toNat]? <;> rfl
    · simp [h0]
  · rfl
/-- the town, when it is made -/
theorem RbIs.done (h : RbIs F W tb db nv bs L) (hL : L.length = l.length) (ha : ∀ j (hj : j < L.length) (hj' : j < l.length), L[j]'hj = watchAll l (NSt.start (l[j]'hj'))) : RTownIs F W tb db nv (.slice none 0 0) bs (TSt.start l) := by
  have e1 : (TSt.start l).L.length = l.length := by simp [TSt.start]
  refine ⟨h.blk, by rw [e1, ← hL, ← h.len]; exact h.nds, ?_, h.fdb, ⟨World.ownsRow_nil _ _ _ _, fun k hk => by cases hk⟩, by rw [e1, h.len, hL], fun i hi hi' => ?_⟩
  · have q1 : deads (TSt.start l).L = 0 := deads_start l _
    have q2 : deadM (TSt.start l).L = fun _ => false := deadM_start l _
    rw [q1, q2]
    exact h.ded
  · have hi2 : i < L.length := by rw [← h.len]; exact hi
    have hi3 : i < l.length := by rw [← hL]; exact hi2
    have := h.node i hi hi2
    rw [ha i hi2 hi3] at this
    simpa [TSt.start] using this
/-- behind k settings -/
def R1Rel (w : World) (l : List CfgD) (tb db k : Nat) (wr : World) : Prop :=
  ∃ F nv bs, CkTo l k ∧ Col w wr F ∧ Moved RefC (fun _ => 0) w F wr ∧ RbIs F wr tb db nv bs ((l.take k).map NSt.start)
/-- the i-th node has been told of k -/
def R3Rel (w : World) (l : List CfgD) (tb db : Nat) (nv : Value) (bs : List Nat) (i k : Nat) (wr : World) : Prop :=
  ∃ F L, Col w wr F ∧ Moved RefC (fun _ => 0) w F wr ∧ RbIs F wr tb db nv bs L ∧ L.length = l.length ∧ ∀ j (hj : j < L.length) (hj' : j < l.length), L[j]'hj = wat l i k j (l[j]'hj')
theorem R1Rel.start (w : World) (l : List CfgD) : R1Rel w l (w.heap.size + 1) w.heap.size 0 ((w.alloc (.map #[] 0)).alloc (.cells #[.slice none 0 0, .map (some w.heap.size), .slice none 0 0] 49)) := by
  have hb : Below w.heap.size w ((w.alloc (.map #[] 0)).alloc (.cells #[.slice none 0 0, .map (some w.heap.size), .slice none 0 0] 49)) := Below.alB (Below.alB (Below.refl _ _))
  have hm : MarkMap Tryz.prog 3 4 (w.alloc (.map #[] 0)) w.heap.size 0 (fun _ => false) := MarkMap.made w
  refine ⟨fun k => if k = w.heap.size then 8 else if k = w.heap.size + 1 then 6 else 0, .slice none 0 0, [], CkTo.zero l, ⟨fun k hk => ?_, fun k hk => ?_, hb⟩, ⟨.of_below hb, fun k hk => ?_, fun k hk h0 => ?_⟩, ⟨blk_nw _ _ _ _, ?_⟩, ⟨World.ownsRow_nil _ _ _ _, fun k hk => by cases hk⟩, hm.below (Below.alB (Below.refl _ _)), if_pos rfl, rfl, fun i hi => by simp at hi⟩
  · try dsimp only at hk
    split at hk
    · omega
    · split at hk
      · omega
      · exact absurd rfl hk
  · try dsimp only at hk
    have hs : ((w.alloc (.map #[] 0)).alloc (.cells #[.slice none 0 0, .map (some w.heap.size), .slice none 0 0] 49)).heap.size = w.heap.size + 2 := by simp
    rw [hs]
    split at hk
    · omega
    · split at hk
      · omega
      · exact absurd rfl hk
  · try dsimp only
    rw [if_neg (by omega), if_neg (by omega)]
  · try dsimp only
    unfold RefC
    split
    · omega
    · split
      · omega
      · next e1 e2 => exact absurd (by rw [if_neg e1, if_neg e2]) h0
  · simp
theorem R1Rel.below (h : R1Rel w l tb db k wr) (hb : Below wr.heap.size wr w1) : R1Rel w l tb db k w1 := by
  obtain ⟨F, nv, bs, h1, h2, h3, h4⟩ := h
  exact ⟨F, nv, bs, h1, h2.below hb, h3.trans (.below h2 hb), h4.below h2 hb⟩
theorem R1Rel.bel (h : R1Rel w l tb db k wr) : Below w.heap.size w wr := by
  obtain ⟨F, nv, bs, h1, h2, _⟩ := h
  exact h2.bel
theorem R3Rel.bel (h : R3Rel w l tb db nv bs i k wr) : Below w.heap.size w wr := by
  obtain ⟨F, L, h1, _⟩ := h
  exact h1.bel
theorem R3Rel.below (h : R3Rel w l tb db nv bs i k wr) (hb : Below wr.heap.size wr w1) : R3Rel w l tb db nv bs i k w1 := by
  obtain ⟨F, L, h2, h3, h4, h5⟩ := h
  exact ⟨F, L, h2.below hb, h3.trans (.below h2 hb), h4.below h2 hb, h5⟩
theorem R1Rel.fin (h : R1Rel w l tb db l.length wr) : ∃ nv bs, newTE' l = 0 ∧ bs.length = l.length ∧ (∀ c ∈ l, cfgE c = 0) ∧ R3Rel w l tb db nv bs 0 0 wr ∧ ∃ F, RowC F 7 wr 45 1 bs.length nv (ptrs bs) := by
  obtain ⟨F, nv, bs, h1, h2, h3, h4⟩ := h
  have hlen : bs.length = l.length := by rw [h4.len]; simp
  refine ⟨nv, bs, h1.all, hlen, fun c hc => h1.good c (by rw [List.take_length]; exact hc), ⟨F, _, h2, h3, h4, by simp, fun j hj hj' => ?_⟩, F, h4.nds⟩
  rw [wat_zero]
  simp
theorem R3Rel.outer (h : R3Rel w l tb db nv bs i l.length wr) : R3Rel w l tb db nv bs (i + 1) 0 wr := by
  obtain ⟨F, L, h2, h3, h4, h5, h6⟩ := h
  exact ⟨F, L, h2, h3, h4, h5, fun j hj hj' => by rw [h6 j hj hj', wat_next]⟩
theorem R3Rel.cell1 (h : R3Rel w l tb db nv bs i k wr) : tb < wr.heap.size ∧ wr.cell? ⟨tb, 0, none⟩ = some nv := by
  obtain ⟨F, L, h2, h3, h4, _⟩ := h
  exact h4.cells
theorem R3Rel.ptr (h : R3Rel w l tb db nv bs i k wr) (hi : i < bs.length) : ∃ gn cn, nv = .slice (some ⟨gn, 0, none⟩) bs.length cn ∧ bs.length ≤ cn ∧ cn ≤ maxLen ∧ gn < wr.heap.size ∧ wr.cell? ⟨gn, i, none⟩ = some (.pointer (some ⟨bs[i]'hi, 0, none⟩)) := by
  obtain ⟨F, L, h2, h3, h4, h5, h6⟩ := h
  obtain ⟨gn, cn, rfl, -, hgn, h1, h2, hc⟩ := ownsRow_at h4.nds.1 (by omega)
  exact ⟨gn, cn, rfl, h1, h2, hgn, hc i _ (by simp [ptrs, hi])⟩
theorem R3Rel.node (h : R3Rel w l tb db nv bs i k wr) (hbs : bs.length = l.length) (h5 : l.length ≤ 5) (hgo : ∀ c ∈ l, cfgE c = 0) (hi : i < bs.length) (hk : k < l.length) (hid : (l[k]'hk).1.size ≤ maxLen) :
    Calls Tryz.prog 28 #[.pointer (some ⟨bs[i]'hi, 0, none⟩), .string (l[k]'hk).1, .int .i64 (cfe (l[k]'hk))] wr fun e W' => (∃ er, e = .returned (.int .i64 er)) ∧ R3Rel w l tb db nv bs i (k + 1) W' := by
  obtain ⟨F, L, h2, h3, h4, h6, h7⟩ := h
  have hiL : i < L.length := by rw [h6, ← hbs]; exact hi
  have hil : i < l.length := by rw [← hbs]; exact hi
  obtain ⟨_, _, _, _, _, hn⟩ := h4.node i hi hiL
  have hg : NGood (L[i]'hiL) := by
    rw [h7 i hiL hil]
    unfold wat
    rw [if_neg (by omega), if_pos rfl]
    exact (NGood.start (hgo _ (List.getElem_mem hil))).watchAll _
  refine (rwatch_any hn hg _ hid _).mono fun e W' ⟨k1, k2, k3⟩ => ⟨⟨_, k1⟩, ?_⟩
  refine ⟨paint F wr W' (20 + i), L.set i _, h2.paint (by omega) k3, h3.trans ((Moved.paint h2 k3).mono (fun c hc => by unfold RefC; omega)), h4.turn h2 hiL k3 k2, by simpa using h6, fun j hj hj' => ?_⟩
  have hjL : j < L.length := by simpa using hj
  simp only [List.getElem_set]
  by_cases e : i = j
  · subst e
    rw [if_pos rfl, h7 i hiL hil]
    unfold wat
    rw [if_neg (by omega), if_pos rfl, if_neg (by omega), if_pos rfl, watchAll_snoc l k hk]
  · rw [if_neg e, h7 j hjL hj']
    unfold wat
    by_cases h1 : j < i
    · rw [if_pos h1, if_pos h1]
    · rw [if_neg h1, if_neg h1, if_neg (fun h => e h.symm), if_neg (fun h => e h.symm)]
theorem R3Rel.done (h : R3Rel w l tb db nv bs l.length 0 wr) : RwTo w (fun _ => 0) w tb (TSt.start l) wr := by
  obtain ⟨F, L, h2, h3, h4, h5, h6⟩ := h
  refine ⟨F, h2, h3, _, _, _, _, h4.done h5 (fun j hj hj' => ?_)⟩
  rw [h6 j hj hj']
  unfold wat
  rw [if_pos (by omega)]
end
def RnewIs (w : World) (l : List CfgD) (e : Ending) (W' : World) : Prop := (newTE l = 0 ∧ ∃ tb, e = .returned (.tuple #[.pointer (some ⟨tb, 0, none⟩), .int .i64 0]) ∧ RwTo w (fun _ => 0) w tb (TSt.start l) W') ∨ (newTE l ≠ 0 ∧ e = .returned (.tuple #[.pointer none, .int .i64 (newTE l)]) ∧ Below w.heap.size w W')
theorem rcfg_anyT (s : ByteArray) (i v k l : Int) (e0 : Int) (he : cfgE (s, i, v, k, l) = e0) (w : World) :
    Calls Tryz.prog 27 #[.agg #[.string s, .int .i64 i, .int .i64 v, .int .i64 k, .int .i64 l]] w fun e w' => e = .returned (.int .i64 e0) ∧ Below w.heap.size w w' := by
  subst he; exact rcfg_any (s, i, v, k, l) w
end Go.Proofs.YtcikljcjhijjdabGreat
