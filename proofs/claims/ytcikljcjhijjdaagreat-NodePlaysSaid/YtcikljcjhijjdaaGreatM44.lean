/- slices.DeleteFunc over subs, walked for the closure that asks for a name. (with what it needs) -/
import Derived.Test.YtcikljcjhijjdaaGreatM42
import Derived.Test.YtcikljcjhijjdaaGreatM24
import Derived.Test.YtcikljcjhijjdaaGreatM43
namespace Go.Proofs.YtcikljcjhijjdaaGreat
open Go.RowKit Go.Lib
set_option linter.unusedSimpArgs false
set_option linter.unusedVariables false

/-- not of that name -/
def notOf (id : ByteArray) (p : TriD) : Bool := !eqB p.1 id

set_option maxHeartbeats 1000000 in
set_option maxRecDepth 100000 in
theorem leave1_any (p : TriD) (cb : Nat) (id : ByteArray) (W : World) (hc : W.cell? ⟨cb, 0, none⟩ = some (.string id)) :
    Calls Tryz.prog 50 #[.agg (tcells p).toArray, .pointer (some ⟨cb, 0, none⟩)] W fun e w' => e = .returned (.bool (eqB p.1 id)) ∧ Below W.heap.size W w' := by
  have E := Lib.hid ((Env.start W).lay (tcells p).toArray 58)
  simp only [tcells] at E
  have hl := World.block_lt_of_cell? W _ hc
  simp at hl
  unfold tcells
  go_enter Tryz.func50, Tryz.ntmps50
  go_wp2
  go_ret
  exact ⟨rfl, E.out.bel⟩
/-- the place of the first of that name, or -1 -/
def ixN (id : ByteArray) (S : List TriD) : Int := match S.findIdx? (fun p => eqB p.1 id) with | some k => (k : Int) | none => -1

set_option maxHeartbeats 2000000 in
set_option maxRecDepth 100000 in
theorem idxn_run (cb : Nat) (id : ByteArray) (g cap n : Nat) (S : List TriD) (hm : n ≤ 1000) (w : World) (hs : Row3 58 w g cap n S) (hc : w.cell? ⟨cb, 0, none⟩ = some (.string id)) :
    Calls Tryz.prog 56 #[.slice (some ⟨g, 0, none⟩) n cap, .func (.func 50) #[] #[.pointer (some ⟨cb, 0, none⟩)]] w fun e w' => e = .returned (.int .i64 (ixN id S)) ∧ Below w.heap.size w w' := by
  have HS := Lib.hid hs
  have HN := Lib.hid hs.1
  have HC := Lib.hid hc
  have hcl := World.block_lt_of_cell? w _ hc
  simp at hcl
  have hgl := hs.lt
  have hncap := hs.2.1
  have hcap := hs.2.2.1
  unfold maxLen at hcap
  have HCM := Lib.hid (fun p W hc => leave1_any p cb id W hc)
  simp only [tcells] at HCM
  obtain ⟨r, hr⟩ : ∃ r, ixN id S = r := ⟨_, rfl⟩
  rw [hr]
  have HR := Lib.hid hr
  clear hs hc hr
  go_enter Tryz.func56, Tryz.ntmps56
  go_wp2_with fail
  go_loopw [8] (fun iv wr => ∃ k : Nat, k ≤ n ∧ iv = .int .i64 (k : Int) ∧ (∀ j, (hj : j < S.length) → j < k → eqB (S[j]'hj).1 id = false) ∧ Below w.heap.size w wr) (fun iv _ => n - (RowKit.intOf iv).toNat)
  case atStart => exact ⟨0, by omega, rfl, fun j _ h => absurd h (Nat.not_lt_zero j), Below.refl _ _⟩
  case round =>
    obtain ⟨k, hk, rfl, hne, hbl⟩ := hrel
    obtain ⟨wo, rfl⟩ : ∃ wo, wo = wr := ⟨_, rfl⟩
    have BL := Lib.hid hbl
    have NE := Lib.hid hne
    clear hbl hne
    by_cases hlt : k < n
    · have hkl : k < S.length := by rw [HN.out]; exact hlt
      obtain ⟨d0, d1, d2⟩ := (HS.out.below BL.out hgl).cells k hkl
      have hglo : g < wo.heap.size := Nat.lt_of_lt_of_le hgl BL.out.size
      have HCW := Lib.hid (show wo.cell? ⟨cb, 0, none⟩ = some (.string id) from (BL.out.cell (p := ⟨cb, 0, none⟩) hcl).trans HC.out)
      generalize hpe : S[k]'hkl = p at *
      have HPE := Lib.hid hpe
      clear hpe
      go_wp2_with fail
      refine (HCM.out p _ HCW.out).mono ?_
      rintro e' w1 ⟨rfl, hb1⟩
      have BL1 := Lib.hid (BL.out.trans (hb1.mono BL.out.size))
      clear hb1
      cases hq : eqB p.1 id
      · have HNX := Lib.hid (show ∀ j, (hj : j < S.length) → j < k + 1 → eqB (S[j]'hj).1 id = false from fun j hj h => by
          rcases Nat.lt_succ_iff_lt_or_eq.1 h with h | rfl
          · exact NE.out j hj h
          · rw [HPE.out]; exact hq)
        clear hq
        go_wp2
        exact ⟨⟨k + 1, by omega, by simp, HNX.out, BL1.out⟩, by simp [RowKit.intOf]; omega⟩
      · have hrk : r = (k : Int) := by
          rw [← HR.out]
          unfold ixN
          have : S.findIdx? (fun p => eqB p.1 id) = some k := by
            rw [List.findIdx?_eq_some_iff_getElem]
            exact ⟨hkl, by rw [HPE.out]; exact hq, fun j hj => by rw [NE.out j (by omega) hj]; decide⟩
          rw [this]
        subst hrk
        clear hq
        go_wp2
        go_ret
        exact ⟨rfl, BL1.out⟩
    · have hrn : r = -1 := by
        rw [← HR.out]
        unfold ixN
        have : S.findIdx? (fun p => eqB p.1 id) = none := by
          rw [List.findIdx?_eq_none_iff]
          intro x hx
          obtain ⟨j, hj, rfl⟩ := List.getElem_of_mem hx
          rw [NE.out j hj (by have := HN.out; omega)]
        rw [this]
      subst hrn
      go_wp2
      go_ret
      exact ⟨rfl, BL.out⟩

set_option maxHeartbeats 2000000 in
set_option maxRecDepth 100000 in
theorem idxn_nil (cb : Nat) (w : World) :
    Calls Tryz.prog 56 #[.slice none 0 0, .func (.func 50) #[] #[.pointer (some ⟨cb, 0, none⟩)]] w fun e w' => e = .returned (.int .i64 (-1)) ∧ Below w.heap.size w w' := by
  go_enter Tryz.func56, Tryz.ntmps56
  go_wp2_with fail
  go_loop [8] (fun iv => iv = .int .i64 0) (fun iv => 0)
  case atStart => rfl
  case round =>
    obtain rfl := hrel
    go_wp2
    go_ret
    exact ⟨rfl, Below.refl _ _⟩
/-! ### the row while it is thinned -/
theorem Row3.set3 {t : TypeId} {w : World} {g cap n : Nat} {l : List TriD} (h : Row3 t w g cap n l) (k : Nat) (hk : k < l.length) (p : TriD) :
    Row3 t (((w.setCell ⟨g, k * 3, none⟩ (.string p.1)).setCell ⟨g, k * 3 + 1, none⟩ (.int .i64 p.2.1)).setCell ⟨g, k * 3 + 2, none⟩ (.bool p.2.2)) g cap n (l.set k p) := by
  obtain ⟨h0, h1, h2, cur, h3, h4, h5⟩ := h
  refine ⟨by simpa using h0, h1, h2, _, ((h3.set_ (k * 3) (.string p.1)).set_ (k * 3 + 1) (.int .i64 p.2.1)).set_ (k * 3 + 2) (.bool p.2.2), by simpa using h4, ?_⟩
  have e1 := cells3_set l k 0 (.string p.1) (p.1, (l[k]'hk).2) hk (by decide) rfl
  have e2 := cells3_set (l.set k (p.1, (l[k]'hk).2)) k 1 (.int .i64 p.2.1) (p.1, p.2.1, (l[k]'hk).2.2) (by simpa using hk) (by decide) (by rw [List.getElem_set_self]; rfl)
  have e3 := cells3_set ((l.set k (p.1, (l[k]'hk).2)).set k (p.1, p.2.1, (l[k]'hk).2.2)) k 2 (.bool p.2.2) p (by simpa using hk) (by decide) (by rw [List.getElem_set_self]; rfl)
  rw [List.set_set, List.set_set] at e3
  rw [← e3]
  rw [List.set_set] at e2
  rw [← e2, ← e1, ← h5]
  simp only [Array.toList_setIfInBounds, List.take_set, Nat.add_zero]
theorem Row3.head {t : TypeId} {w : World} {g cap n : Nat} {l : List TriD} (h : Row3 t w g cap n l) (m : Nat) (hm : m ≤ n) : Row3 t w g cap m (l.take m) := by
  obtain ⟨h0, h1, h2, cur, h3, h4, h5⟩ := h
  refine ⟨by rw [List.length_take]; omega, by omega, h2, cur, h3, h4, ?_⟩
  rw [← cells3_take, ← h5, List.take_take, Nat.min_eq_left (by omega)]
/-- after j subs, i of which stay -/
def DRel (w : World) (g cap n : Nat) (S : List TriD) (id : ByteArray) (i j : Nat) (wr : World) : Prop :=
  ∃ M, Row3 58 wr g cap n M ∧ M.take i = (S.take j).filter (notOf id) ∧ M.drop j = S.drop j ∧ Kept (· = g) w wr
theorem DRel.len {w : World} {g cap n : Nat} {S : List TriD} {id : ByteArray} {i j : Nat} {wr : World} (h : DRel w g cap n S id i j wr) (hi : i ≤ n) : i = ((S.take j).filter (notOf id)).length := by
  obtain ⟨M, h1, h2, -⟩ := h
  rw [← h2, List.length_take, h1.1]; omega
theorem take_filter_skip {S : List TriD} {id : ByteArray} {j : Nat} (hj : j < S.length) (he : notOf id (S[j]'hj) = false) : (S.take (j + 1)).filter (notOf id) = (S.take j).filter (notOf id) := by
  rw [List.take_succ_eq_append_getElem hj, List.filter_append]
  simp [he]
theorem take_filter_keep {S : List TriD} {id : ByteArray} {j : Nat} (hj : j < S.length) (he : notOf id (S[j]'hj) = true) : (S.take (j + 1)).filter (notOf id) = (S.take j).filter (notOf id) ++ [S[j]'hj] := by
  rw [List.take_succ_eq_append_getElem hj, List.filter_append]
  simp [he]
theorem DRel.start {w wr : World} {g cap n : Nat} {S : List TriD} {id : ByteArray} {k : Nat} (hs : Row3 58 w g cap n S) (hk : k < S.length) (he : eqB (S[k]'hk).1 id = true) (hne : ∀ j, (hj : j < S.length) → j < k → eqB (S[j]'hj).1 id = false) (hb : Below w.heap.size w wr) : DRel w g cap n S id k (k + 1) wr := by
  refine ⟨S, hs.below hb hs.lt, ?_, rfl, .of_below hb⟩
  rw [take_filter_skip hk (by unfold notOf; rw [he]; rfl)]
  symm
  rw [List.filter_eq_self]
  intro x hx
  obtain ⟨j, hj, rfl⟩ := List.getElem_of_mem hx
  rw [List.length_take] at hj
  rw [List.getElem_take]
  unfold notOf
  rw [hne j (by omega) (by omega)]; rfl
theorem DRel.get {w wr : World} {g cap n : Nat} {S : List TriD} {id : ByteArray} {i j : Nat} (h : DRel w g cap n S id i j wr) (hj : j < S.length) (hn : S.length = n) : TriC wr g (j * 3) (S[j]'hj) := by
  obtain ⟨M, h1, h2, h3, h4⟩ := h
  have hjm : j < M.length := by rw [h1.1]; omega
  have e : M[j]'hjm = S[j]'hj := by
    have := congrArg (fun l => l[0]?) h3
    simp only [List.getElem?_drop, Nat.add_zero, List.getElem?_eq_getElem hjm, List.getElem?_eq_getElem hj] at this
    injection this
  have := h1.cells j hjm
  rwa [e] at this
theorem DRel.below {w wr w1 : World} {g cap n : Nat} {S : List TriD} {id : ByteArray} {i j : Nat} (h : DRel w g cap n S id i j wr) (hb : Below wr.heap.size wr w1) : DRel w g cap n S id i j w1 := by
  obtain ⟨M, h1, h2, h3, h4⟩ := h
  exact ⟨M, h1.below hb h1.lt, h2, h3, h4.step hb⟩
theorem DRel.skip {w wr : World} {g cap n : Nat} {S : List TriD} {id : ByteArray} {i j : Nat} (h : DRel w g cap n S id i j wr) (hj : j < S.length) (he : eqB (S[j]'hj).1 id = true) : DRel w g cap n S id i (j + 1) wr := by
  obtain ⟨M, h1, h2, h3, h4⟩ := h
  refine ⟨M, h1, ?_, ?_, h4⟩
  · rw [h2, take_filter_skip hj (by unfold notOf; rw [he]; rfl)]
  · have := congrArg (List.drop 1) h3
    rwa [List.drop_drop, List.drop_drop] at this
theorem DRel.put {w wr : World} {g cap n : Nat} {S : List TriD} {id : ByteArray} {i j : Nat} (h : DRel w g cap n S id i j wr) (hij : i < j) (hj : j < S.length) (hn : S.length = n) (he : eqB (S[j]'hj).1 id = false) (p : TriD) (hp : S[j]'hj = p) :
    DRel w g cap n S id (i + 1) (j + 1) (((wr.setCell ⟨g, i * 3, none⟩ (.string p.1)).setCell ⟨g, i * 3 + 1, none⟩ (.int .i64 p.2.1)).setCell ⟨g, i * 3 + 2, none⟩ (.bool p.2.2)) := by
  obtain ⟨M, h1, h2, h3, h4⟩ := h
  have hm := h1.1
  refine ⟨M.set i p, h1.set3 i (by omega) p, ?_, ?_, ((h4.setCell (.inl rfl) _).setCell (.inl rfl) _).setCell (.inl rfl) _⟩
  · rw [take_filter_keep hj (by unfold notOf; rw [he]; rfl), ← h2, hp, List.take_succ_eq_append_getElem (by rw [List.length_set]; omega), List.getElem_set_self, List.take_set, List.set_eq_of_length_le (by rw [List.length_take]; omega)]
  · rw [List.drop_set, if_pos (by omega)]
    have := congrArg (List.drop 1) h3
    rwa [List.drop_drop, List.drop_drop] at this
theorem Row3.of_own1 {t : TypeId} {w : World} {base g cap n : Nat} {l : List TriD} (h : w.ownsRow base t 3 (.slice (some ⟨g, 0, none⟩) n cap) n (cells3 l)) : Row3 t w g cap n l := by
  have hl : l.length = n := by have := h.1; rw [cells3_len] at this; omega
  rcases h.2 with ⟨hv, h0⟩ | ⟨g', cap', cur, hv, hbg, hg, hnc, hmc, hsz, hx⟩
  · cases hv
  · injection hv with h1 h2 h3
    injection h1 with h1
    injection h1 with h1
    subst h1 h3
    exact ⟨hl, hnc, hmc, cur, hg, hsz, hx⟩
/-- what DeleteFunc answers -/
def DfIs (g cap : Nat) (S : List TriD) (w : World) (e : Ending) (w' : World) : Prop := e = .returned (.slice (some ⟨g, 0, none⟩) S.length cap) ∧ Row3 58 w' g cap S.length S ∧ Kept (· = g) w w'

set_option maxHeartbeats 2000000 in
set_option maxRecDepth 100000 in
theorem delf_none (cb : Nat) (id : ByteArray) (g cap n : Nat) (S : List TriD) (hm : n ≤ 1000) (w : World) (hs : Row3 58 w g cap n S) (hc : w.cell? ⟨cb, 0, none⟩ = some (.string id)) (hx : ixN id S = -1) :
    Calls Tryz.prog 49 #[.slice (some ⟨g, 0, none⟩) n cap, .func (.func 50) #[] #[.pointer (some ⟨cb, 0, none⟩)]] w fun e w' => e = .returned (.slice (some ⟨g, 0, none⟩) n cap) ∧ Below w.heap.size w w' := by
  have HI := Lib.hid (idxn_run cb id g cap n S hm w hs hc)
  rw [hx] at HI
  clear hs hc hx
  go_enter Tryz.func49, Tryz.ntmps49
  go_wp2_with fail
  refine HI.out.mono ?_
  rintro e' w1 ⟨rfl, hb1⟩
  have B1 := Lib.hid hb1
  clear hb1
  go_wp2
  go_ret
  exact ⟨rfl, B1.out⟩
set_option maxHeartbeats 2000000 in
set_option maxRecDepth 100000 in
theorem delf_nil (cb : Nat) (w : World) :
    Calls Tryz.prog 49 #[.slice none 0 0, .func (.func 50) #[] #[.pointer (some ⟨cb, 0, none⟩)]] w fun e w' => e = .returned (.slice none 0 0) ∧ Below w.heap.size w w' := by
  have HI := Lib.hid (idxn_nil cb w)
  go_enter Tryz.func49, Tryz.ntmps49
  go_wp2_with fail
  refine HI.out.mono ?_
  rintro e' w1 ⟨rfl, hb1⟩
  have B1 := Lib.hid hb1
  clear hb1
  go_wp2
  go_ret
  exact ⟨rfl, B1.out⟩

set_option maxHeartbeats 4000000 in
set_option maxRecDepth 100000 in
theorem delf_run (cb : Nat) (id : ByteArray) (g cap n k : Nat) (S : List TriD) (hm : n ≤ 1000) (hcg : cb ≠ g) (w : World) (hs : Row3 58 w g cap n S) (hc : w.cell? ⟨cb, 0, none⟩ = some (.string id)) (hx : ixN id S = (k : Int)) (hk : k < S.length) (hke : eqB (S[k]'hk).1 id = true) (hkn : ∀ j, (hj : j < S.length) → j < k → eqB (S[j]'hj).1 id = false) :
    Calls Tryz.prog 49 #[.slice (some ⟨g, 0, none⟩) n cap, .func (.func 50) #[] #[.pointer (some ⟨cb, 0, none⟩)]] w (DfIs g cap (S.filter (notOf id)) w) := by
  obtain ⟨i0, hi0, hz0, hz1, hz2⟩ := info_parts slS_info
  have HI := Lib.hid (idxn_run cb id g cap n S hm w hs hc)
  rw [hx] at HI
  have HN := Lib.hid hs.1
  have hgl := hs.lt
  have hncap := hs.2.1
  have hcap := hs.2.2.1
  unfold maxLen at hcap
  have hcl := World.block_lt_of_cell? w _ hc
  simp at hcl
  have HC := Lib.hid hc
  have HCM := Lib.hid (fun p W hc => leave1_any p cb id W hc)
  simp only [tcells] at HCM
  have HST := Lib.hid (fun wr hb => DRel.start (wr := wr) hs hk hke hkn hb)
  have hkn' : k < n := by rw [← hs.1]; exact hk
  clear hs hc hx hke hkn
  go_enter Tryz.func49, Tryz.ntmps49
  go_wp2_with fail
  refine HI.out.mono ?_
  rintro e' w1 ⟨rfl, hb1⟩
  have D1 := Lib.hid (HST.out w1 hb1)
  clear hb1
  have hne : ((k : Int) == -1) = false := by rw [beq_eq_false_iff_ne]; omega
  go_wp2_with fail
  go_loopw [5, 6] (fun iv jv wr => ∃ i j : Nat, i < j ∧ j ≤ n ∧ iv = .int .i64 (i : Int) ∧ jv = .int .i64 (j : Int) ∧ DRel w g cap n S id i j wr) (fun _ jv _ => n - (RowKit.intOf jv).toNat)
  case atStart => exact ⟨k, k + 1, by omega, by omega, rfl, by simp, D1.out⟩
  case round =>
    obtain ⟨i, j, hij, hj, rfl, rfl, hrel⟩ := hrel
    obtain ⟨wo, rfl⟩ : ∃ wo, wo = wr := ⟨_, rfl⟩
    have DR := Lib.hid hrel
    clear hrel D1 HST HI hne
    by_cases hlt : j < n
    · have hjl : j < S.length := by rw [HN.out]; exact hlt
      obtain ⟨c0, c1, c2⟩ := DR.out.get hjl HN.out
      have hgo : g < wo.heap.size := by obtain ⟨M, h1, -⟩ := DR.out; exact h1.lt
      have HCW := Lib.hid (show wo.cell? ⟨cb, 0, none⟩ = some (.string id) by obtain ⟨M, h1, h2, h3, h4⟩ := DR.out; exact h4.cell HC.out hcg)
      have HSK := Lib.hid (fun w1 hb he => (DR.out.below (w1 := w1) hb).skip hjl he)
      have HPT := Lib.hid (fun w1 hb he p hp => (DR.out.below (w1 := w1) hb).put hij hjl HN.out he p hp)
      generalize hpe : S[j]'hjl = p at *
      have HPE := Lib.hid hpe
      clear hpe
      obtain ⟨pi, pt, pb⟩ := p
      have EV := Lib.hid ((Env.start wo).lay (tcells (pi, pt, pb)).toArray 58)
      simp only [tcells] at EV
      go_wp2_with fail
      refine (HCM.out (pi, pt, pb) _ ((EV.out.bel.cell (p := ⟨cb, 0, none⟩) (by have := World.block_lt_of_cell? wo _ HCW.out; simpa using this)).trans HCW.out)).mono ?_
      rintro e' w2 ⟨rfl, hb2⟩
      have E2 := Lib.hid (EV.out.below hb2)
      have B2 := Lib.hid (E2.out.bel)
      have x0 := E2.out.hd.cell 0
      have x1 := E2.out.hd.cell 1
      have x2 := E2.out.hd.cell 2
      simp at x0 x1 x2
      clear hb2 c0 c1 c2
      cases hq : eqB pi id
      · have KP := Lib.hid (HPT.out w2 B2.out hq (pi, pt, pb) rfl)
        have hg2 : g < w2.heap.size := by have := B2.out.size; omega
        have hx2 : wo.heap.size < w2.heap.size := E2.out.hd.lt
        obtain ⟨M, hM, -⟩ := DR.out.below B2.out
        have hil : i < M.length := by rw [hM.1]; omega
        obtain ⟨g0, g1, g2⟩ := hM.cells i hil
        have f0 := hM.frozen (i * 3)
        have f1 := hM.frozen (i * 3 + 1)
        have f2 := hM.frozen (i * 3 + 2)
        have hin : (i : Int) < n := by omega
        clear hq hM
        go_wp2
        exact ⟨⟨i + 1, j + 1, by omega, by omega, by simp, by simp, KP.out⟩, by simp [RowKit.intOf]; omega⟩
      · have SK := Lib.hid (HSK.out w2 B2.out hq)
        clear hq
        go_wp2
        exact ⟨⟨i, j + 1, by omega, by omega, rfl, by simp, SK.out⟩, by simp [RowKit.intOf]; omega⟩
    · have hjn : j = n := by omega
      subst hjn
      have hlen := DR.out.len (by omega)
      obtain ⟨M, h1, h2, h3, h4⟩ := DR.out
      have hall : S.take j = S := List.take_of_length_le (by rw [HN.out]; omega)
      rw [hall] at h2 hlen
      have HO := Lib.hid ((h1.head i (by omega)).own (base := 0) (Nat.zero_le _))
      have H2 := Lib.hid h2
      have H4 := Lib.hid h4
      have HLN := Lib.hid hlen
      have hin : (i : Int) ≤ j := by omega
      have hic : (i : Int) ≤ cap := by omega
      clear h1 h2 h3 h4 hlen hall
      go_wp2_with ((refine wpList_clear_own (by rfl) _ _ (by rfl) 58 i0 _ 3 Tryz.underlying34 hi0 hz0 rfl slS_zone 0 g i cap _ HO.out _ _ _ (by rfl) ?c0 ?c1 ?_); (case c0 => first | exact Nat.le_refl _ | omega); (case c1 => omega); intro w5 hown5 hgrow5)
      have R5 := Lib.hid (Row3.of_own1 hown5)
      have K5 := Lib.hid (H4.out.grown hgrow5 (fun k hk => by injection hk with hk; exact .inl hk.symm))
      clear hown5 hgrow5
      go_wp2
      go_ret
      refine ⟨by rw [← HLN.out]; rfl, ?_, K5.out⟩
      have := R5.out
      rw [H2.out] at this
      rw [← HLN.out]
      exact this
end Go.Proofs.YtcikljcjhijjdaaGreat

namespace Go.Proofs.YtcikljcjhijjdaaGreat
open Go.RowKit Go.Lib
set_option linter.unusedSimpArgs false
set_option linter.unusedVariables false

def cutAt (S : List TriD) (k : Nat) : List TriD := S.take k ++ S.drop (k + 1)
def NSt.partE (s : NSt) (id : ByteArray) (th : Int) : Int := if 0 ≤ ixI (isSub id th) s.S then 0 else 4
def NSt.parted (s : NSt) (id : ByteArray) (th : Int) : NSt := if 0 ≤ ixI (isSub id th) s.S then { s with S := cutAt s.S (ixI (isSub id th) s.S).toNat } else s
theorem cutAt_mem {S : List TriD} {k : Nat} {t : TriD} (h : t ∈ cutAt S k) : t ∈ S := by
  unfold cutAt at h
  rcases List.mem_append.1 h with h | h
  · exact List.mem_of_mem_take h
  · exact List.mem_of_mem_drop h
theorem cutAt_len {S : List TriD} {k : Nat} (h : k < S.length) : (cutAt S k).length = S.length - 1 := by
  unfold cutAt; rw [List.length_append, List.length_take, List.length_drop]; omega
theorem cutAt_le (S : List TriD) (k : Nat) : (cutAt S k).length ≤ S.length := by
  unfold cutAt; rw [List.length_append, List.length_take, List.length_drop]; omega
theorem ixI_lt {P : TriD → Bool} {S : List TriD} (h : 0 ≤ ixI P S) : (ixI P S).toNat < S.length ∧ ixI P S = ((ixI P S).toNat : Int) := by
  unfold ixI at h ⊢
  cases hi : S.findIdx? P with
  | none => rw [hi] at h; exact absurd h (by decide)
  | some k =>
    rw [List.findIdx?_eq_some_iff_getElem] at hi
    obtain ⟨hk, -⟩ := hi
    exact ⟨by simpa using hk, by simp⟩
theorem NGood.parted {s : NSt} (h : NGood s) (id : ByteArray) (th : Int) : NGood (s.parted id th) := by
  unfold NSt.parted
  split
  · exact ⟨h.id, h.cfg, h.now0, h.now1, h.seqs, h.drops0, h.drops1, h.ps, h.pv, Nat.le_trans (cutAt_le _ _) h.eight, fun t ht => h.th t (cutAt_mem ht)⟩
  · exact h
/-- subs that lie in the same block, which alone was written -/
theorem HoldIs.thin {T : TypeId} {mk mk' : Value → Value → Array Value} {X : Nat → Prop} {w w1 : World} {b pn pc g cap n n' i : Nat} {A : Option Addr} {l : List PeerT} {D : List PeerD} {S S' : List TriD}
    (h0 : HoldIs T mk X w b A pn pc (.slice (some ⟨g, 0, none⟩) n cap) l D S) (hk : Kept (· = g) w w1) (hs : Row3 58 w1 g cap n' S') (hm : (mk (.slice A pn pc) (.slice (some ⟨g, 0, none⟩) n cap)).setIfInBounds i (.slice (some ⟨g, 0, none⟩) n' cap) = mk' (.slice A pn pc) (.slice (some ⟨g, 0, none⟩) n' cap)) :
    HoldIs T mk' (Go.Proofs.YtcikljcjhijjdaaGreat.grow X w w1) (w1.setCell ⟨b, i, none⟩ (.slice (some ⟨g, 0, none⟩) n' cap)) b A pn pc (.slice (some ⟨g, 0, none⟩) n' cap) l D S' :=
  h0.join (hk.mono fun k hk => .inl (by simp only [Value.ownBlock]; rw [hk])) (.inr ⟨g, cap, n', rfl, hs⟩) (.inl rfl) hm

section
variable {X : Nat → Prop} {w : World} {b pn pc : Nat} {A : Option Addr} {sv : Value} {l : List PeerT} {s : NSt}
set_option maxHeartbeats 1000000 in
set_option maxRecDepth 100000 in
theorem part_none (h : NodeIs X w b A pn pc sv l s) (hg : NGood s) (id : ByteArray) (th : Int) (hx : ixI (isSub id th) s.S = -1) :
    Calls Tryz.prog 20 #[.pointer (some ⟨b, 0, none⟩), .string id, .int .i64 th] w (WtIs X b s 4 w) := by
  have HH := Lib.hid h
  have hbl := h.blk.lt
  have E0 := Lib.hid (((Env.start w).lay #[.string id] 9).lay #[.int .i64 th] 3)
  have N0 := Lib.hid (HoldIs.below h E0.out.bel)
  have b9 := N0.out.blk.cell 9
  have hbl0 := N0.out.blk.lt
  simp [nodeCs] at b9
  have HC := Lib.hid (idxs_anyP w.heap.size (w.heap.size + 1) (isSub id th) sv s.S (by have := hg.eight; omega) _ N0.out.subs (join1_asksP _ _ id th _ E0.out.tl.hd (by have := E0.out.hd; simpa using this)))
  rw [hx] at HC
  clear h hg hx
  go_enter Tryz.func20, Tryz.ntmps20
  go_wp2_with fail
  refine HC.out.mono ?_
  rintro e' w1 ⟨rfl, hb1⟩
  have E1 := Lib.hid (E0.out.below hb1).bel
  clear hb1
  go_wp2
  go_ret
  exact ⟨rfl, HoldIs.at_ (HoldIs.grow (HoldIs.below HH.out E1.out)), .of_below E1.out⟩

set_option maxHeartbeats 1000000 in
set_option maxRecDepth 100000 in
theorem part_ok {g cap n k : Nat} (h : NodeIs X w b A pn pc (.slice (some ⟨g, 0, none⟩) n cap) l s) (hg : NGood s) (id : ByteArray) (th : Int) (hx : ixI (isSub id th) s.S = (k : Int)) (hk : k < s.S.length) (hr : Row3 58 w g cap n s.S) :
    Calls Tryz.prog 20 #[.pointer (some ⟨b, 0, none⟩), .string id, .int .i64 th] w (WtIs X b { s with S := cutAt s.S k } 0 w) := by
  have HH := Lib.hid h
  have hbl := h.blk.lt
  have hgl := hr.lt
  have hn8 : n ≤ 8 := by have := hg.eight; rw [hr.1] at this; exact this
  have hkn : k < n := by rw [← hr.1]; exact hk
  have HN := Lib.hid hr.1
  have E0 := Lib.hid (((Env.start w).lay #[.string id] 9).lay #[.int .i64 th] 3)
  have N0 := Lib.hid (HoldIs.below h E0.out.bel)
  have b9 := N0.out.blk.cell 9
  have hbl0 := N0.out.blk.lt
  simp [nodeCs] at b9
  have HC := Lib.hid (idxs_anyP w.heap.size (w.heap.size + 1) (isSub id th) _ s.S (by have := hg.eight; omega) _ N0.out.subs (join1_asksP _ _ id th _ E0.out.tl.hd (by have := E0.out.hd; simpa using this)))
  rw [hx] at HC
  have HRW := Lib.hid hr
  have hwk : IntKind.i64.wrap ((k : Int) + 1) = (k : Int) + 1 := by rw [IntKind.wrap_i64]; omega
  clear h hg hx hr
  go_enter Tryz.func20, Tryz.ntmps20
  go_wp2_with fail
  refine HC.out.mono ?_
  rintro e' w1 ⟨rfl, hb1⟩
  have E1 := Lib.hid (E0.out.below hb1).bel
  clear hb1 b9
  have N1 := Lib.hid (HoldIs.below HH.out E1.out)
  have R1 := Lib.hid (HRW.out.below E1.out hgl)
  have b9 := N1.out.blk.cell 9
  have hbl1 := N1.out.blk.lt
  simp [nodeCs] at b9
  go_wp2_with fail
  refine (slS_delete 0 g cap n k (cells3 s.S) hkn (oneCell_3 _) w1 (R1.out.own (Nat.zero_le _))).mono ?_
  rintro e' w2 ⟨rfl, hown2, hgr2⟩
  have hK2 : Kept (· = g) w w2 := (Kept.of_below (X := (· = g)) E1.out).grown hgr2 (fun i hi => by injection hi with hi; exact .inl hi.symm)
  have hbg : b ≠ g := fun e => (HH.out.xs g rfl).2 e.symm
  have R2 := Lib.hid (show Row3 58 w2 g cap (n - 1) (cutAt s.S k) from .of_own1 (base := 0) (by unfold cutAt; rw [cells3_app, ← cells3_take, ← cells3_drop]; exact hown2))
  have K2 := Lib.hid hK2
  have HB2 := Lib.hid (K2.out.blk HH.out.blk hbg)
  have f9 := HB2.out.frozen 9
  have b9' := HB2.out.cell 9
  have hbl2 := HB2.out.lt
  simp [nodeCs] at b9'
  have NT := Lib.hid (HoldIs.thin (mk' := nodeCs s.c s.now s.seq s.drops) (i := 9) HH.out K2.out R2.out rfl)
  have KT := Lib.hid ((K2.out.mono (fun i hi => .inl (hi ▸ (HH.out.xs g rfl).1) : ∀ i, i = g → X i ∨ w.heap.size ≤ i)).setCell (a := ⟨b, 9, none⟩) (.inl HH.out.xb) (.slice (some ⟨g, 0, none⟩) (n - 1) cap))
  clear hown2 hgr2 hK2 b9
  go_wp2
  go_ret
  exact ⟨rfl, HoldAt.wide (HoldIs.at_ NT.out) (grow_of' (Nat.le_of_eq (by simp [World.setCell]))) (fun k hk => hk.2), KT.out⟩
theorem part_any (h : NodeIs X w b A pn pc sv l s) (hg : NGood s) (id : ByteArray) (th : Int) :
    Calls Tryz.prog 20 #[.pointer (some ⟨b, 0, none⟩), .string id, .int .i64 th] w (WtIs X b (s.parted id th) (s.partE id th) w) := by
  unfold NSt.parted NSt.partE
  by_cases hx : 0 ≤ ixI (isSub id th) s.S
  · rw [if_pos hx, if_pos hx]
    obtain ⟨h1, h2⟩ := ixI_lt hx
    rcases h.subs with ⟨hsv, hS⟩ | ⟨g, cap, n, hsv, hr⟩
    · rw [hS] at h1; exact absurd h1 (Nat.not_lt_zero _)
    · subst hsv
      exact part_ok h hg id th h2 h1 hr
  · rw [if_neg hx, if_neg hx]
    refine part_none h hg id th ?_
    unfold ixI at hx ⊢
    cases hi : s.S.findIdx? (isSub id th) with
    | none => rfl
    | some k => rw [hi] at hx; exact absurd (show (0 : Int) ≤ (k : Int) by omega) hx
end
end Go.Proofs.YtcikljcjhijjdaaGreat

namespace Go.Proofs.YtcikljcjhijjdaaGreat
open Go.RowKit Go.Lib
set_option linter.unusedSimpArgs false
set_option linter.unusedVariables false

def cutD (D : List PeerD) (k : Nat) : List PeerD := D.take k ++ D.drop (k + 1)
def NSt.leaveE (s : NSt) (id : ByteArray) : Int := match idxOf s.D id with | some _ => 0 | none => 4
def NSt.left (s : NSt) (id : ByteArray) : NSt := match idxOf s.D id with | some k => { s with D := cutD s.D k, S := s.S.filter (notOf id) } | none => s
theorem cutD_ok {D : List PeerD} (h : PsOk D) (k : Nat) : PsOk (cutD D k) := by
  unfold cutD
  refine ⟨by rw [List.length_append, List.length_take, List.length_drop]; have := h.six; omega, fun d hd => ?_, ?_⟩
  · rcases List.mem_append.1 hd with hd | hd
    · exact h.good d (List.mem_of_mem_take hd)
    · exact h.good d (List.mem_of_mem_drop hd)
  · have h1 : (D.take k ++ D.drop (k + 1)).Sublist (D.take k ++ D.drop k) := List.Sublist.append (List.Sublist.refl _) (List.drop_sublist_drop_left D (by omega))
    rw [List.take_append_drop] at h1
    exact h.asc.sublist h1
theorem NGood.left {s : NSt} (h : NGood s) (id : ByteArray) : NGood (s.left id) := by
  unfold NSt.left
  split
  · refine ⟨h.id, h.cfg, h.now0, h.now1, h.seqs, h.drops0, h.drops1, cutD_ok h.ps _, fun d hd => ?_, Nat.le_trans (List.length_filter_le _ _) h.eight, fun t ht => h.th t ((List.mem_filter.1 ht).1)⟩
    unfold cutD at hd
    rcases List.mem_append.1 hd with hd | hd
    · exact h.pv d (List.mem_of_mem_take hd)
    · exact h.pv d (List.mem_of_mem_drop hd)
  · exact h
theorem pdrop_none (A : Option Addr) (c B n : Nat) (l : List PeerT) (D : List PeerD) (hm : l.map Prod.fst = D) (ho : PsOk D) (hnc : n ≤ c ∧ c ≤ maxLen) (id : ByteArray) (hid : id.size ≤ maxLen) (hx : idxOf D id = none) (w : World) (hp : Peers w B A n l) (hB : B ≤ w.heap.size) :
    Calls Tryz.prog 48 #[.slice A n c, .string id] w (AddNo 4 w) :=
  drop_none A c B n l (Nat.le_trans hnc.1 hnc.2) id hid w hp hB (by rw [peersE_map, hm]; exact ho.zero) (idxl hm hx)
theorem pdrop_ok (A : Option Addr) (c B n : Nat) (l : List PeerT) (D : List PeerD) (hm : l.map Prod.fst = D) (ho : PsOk D) (hnc : n ≤ c ∧ c ≤ maxLen) (id : ByteArray) (hid : id.size ≤ maxLen) (k : Nat) (hx : idxOf D id = some k) (w : World) (hp : Peers w B A n l) (hB : B ≤ w.heap.size) :
    Calls Tryz.prog 48 #[.slice A n c, .string id] w (AddIs A l (cutD D k) (n - 1) w) := by
  obtain ⟨hk, h1, -⟩ := idx_some hx
  have he : peersE l = 0 := by rw [peersE_map, hm]; exact ho.zero
  subst hm
  have hkl : k < l.length := by simpa using hk
  exact drop_ok A c B n l (Nat.le_trans hnc.1 hnc.2) id hid w hp hB he k hkl (by simpa using h1)

section
variable {X : Nat → Prop} {w : World} {b pn pc : Nat} {A : Option Addr} {sv : Value} {l : List PeerT} {s : NSt}
set_option maxHeartbeats 1000000 in
set_option maxRecDepth 100000 in
theorem leave_none (h : NodeIs X w b A pn pc sv l s) (hg : NGood s) (id : ByteArray) (hid : id.size ≤ maxLen) (hx : idxOf s.D id = none) :
    Calls Tryz.prog 16 #[.pointer (some ⟨b, 0, none⟩), .string id] w (WtIs X b s 4 w) := by
  have HH := Lib.hid h
  have hbl := h.blk.lt
  have E0 := Lib.hid ((Env.start w).lay #[.string id] 9)
  have HP := Lib.hid (show ∀ W, Below w.heap.size w W → Calls Tryz.prog 48 #[.slice A pn pc, .string id] W (AddNo 4 W) from fun W hw =>
    pdrop_none A pc w.heap.size pn l s.D h.map hg.ps h.room id hid hx W (h.peers.below hw (Nat.le_refl _)) hw.size)
  clear h hg hx
  go_enter Tryz.func16, Tryz.ntmps16
  go_upto_region 8 with fail
  have HS := Lib.hid (show ∀ w', Below (w.heap.size + 1) (w.alloc (.cells #[.string id] 9)) w' → (Below (w.heap.size + 1) (w.alloc (.cells #[.string id] 9)) w' ∧ w'.cell? ⟨b, 8, none⟩ = some (.slice A pn pc) ∧ w'.cell? ⟨w.heap.size, 0, none⟩ = some (.string id))
    from fun w' h => by
      have h2 : Below (w.alloc (.cells #[.string id] 9)).heap.size (w.alloc (.cells #[.string id] 9)) w' := by simpa using h
      exact ⟨h, (HH.out.blk.below (E0.out.bel.trans (h2.mono (by simp))) hbl).cell 8, (E0.out.hd.below h2 E0.out.hd.lt).cell 0⟩)
  generalize hW2 : World.alloc w _ = w2 at *
  have hs12 : w.heap.size + 1 ≤ w2.heap.size := by rw [← hW2]; simp
  have hs21 : w2.heap.size ≤ w.heap.size + 1 := by rw [← hW2]; simp
  clear hW2
  have HP2 := Lib.hid (fun W (hw : Below (w.heap.size + 1) w2 W) => HP.out W (E0.out.bel.trans (hw.mono (by omega))))
  go_region_held3 (fun w' => Below (w.heap.size + 1) w2 w' ∧ w'.cell? ⟨b, 8, none⟩ = some (.slice A pn pc) ∧ w'.cell? ⟨w.heap.size, 0, none⟩ = some (.string id))
    ((refine HS.out _ ?_; first | (with_reducible exact hL3) | (with_reducible exact Below.refl _ _) | (with_reducible exact (Below.refl _ _).drew)))
    ((go_at_call 48; (with_reducible refine (HP2.out _ ?ia).mono ?_); (case ia => first | (with_reducible exact Below.refl _ _) | (with_reducible exact (Below.refl _ _).drew)); rintro e' w3 ⟨rfl, hb3⟩; have hL3 : Below (w.heap.size + 1) w2 w3 := Below.trans (by first | (with_reducible exact Below.refl _ _) | (with_reducible exact (Below.refl _ _).drew)) (Below.mono hb3 (by simp; omega))))
  all_goals
    have E3 := Lib.hid (E0.out.bel.trans (hL3.mono (by omega)))
    clear hL3 hb3
    go_wp2
    go_ret
    exact ⟨rfl, HoldIs.at_ (HoldIs.grow (HoldIs.below HH.out E3.out)), .of_below E3.out⟩
/-- what DeleteFunc answers, whatever the subs -/
def DfA (sv : Value) (S : List TriD) (w : World) (e : Ending) (w' : World) : Prop := ∃ sv', e = .returned sv' ∧ SubsAt w' sv' S ∧ Kept (fun k => sv.ownBlock = some k) w w' ∧ sv'.ownBlock = sv.ownBlock
theorem ixN_none {id : ByteArray} {S : List TriD} (h : S.findIdx? (fun p => eqB p.1 id) = none) : ixN id S = -1 ∧ S.filter (notOf id) = S := by
  refine ⟨by unfold ixN; rw [h], ?_⟩
  rw [List.filter_eq_self]
  rw [List.findIdx?_eq_none_iff] at h
  intro x hx
  unfold notOf
  rw [h x hx]; rfl
theorem delf_any (cb : Nat) (id : ByteArray) (sv : Value) (S : List TriD) (hm : S.length ≤ 1000) (w : World) (hs : SubsAt w sv S) (hcg : sv.ownBlock ≠ some cb) (hc : w.cell? ⟨cb, 0, none⟩ = some (.string id)) :
    Calls Tryz.prog 49 #[sv, .func (.func 50) #[] #[.pointer (some ⟨cb, 0, none⟩)]] w (DfA sv (S.filter (notOf id)) w) := by
  rcases hs with ⟨rfl, rfl⟩ | ⟨g, cap, n, rfl, h⟩
  · exact (delf_nil cb w).mono fun e w' ⟨h1, h2⟩ => ⟨_, h1, .inl ⟨rfl, rfl⟩, .of_below h2, rfl⟩
  · have hn : n ≤ 1000 := by rw [← h.1]; exact hm
    cases hi : S.findIdx? (fun p => eqB p.1 id) with
    | none =>
      obtain ⟨h1, h2⟩ := ixN_none hi
      rw [h2]
      exact (delf_none cb id g cap n S hn w h hc h1).mono fun e w' ⟨k1, k2⟩ => ⟨_, k1, .inr ⟨g, cap, n, rfl, h.below k2 h.lt⟩, .of_below k2, rfl⟩
    | some k =>
      have hi2 := hi
      rw [List.findIdx?_eq_some_iff_getElem] at hi
      obtain ⟨hk, h1, h2⟩ := hi
      have hcb : cb ≠ g := fun e => hcg (by simp only [Value.ownBlock]; rw [e])
      refine (delf_run cb id g cap n k S hn hcb w h hc (by unfold ixN; rw [hi2]) hk h1 (fun j hj hjk => by have := h2 j hjk; simpa using this)).mono fun e w' ⟨k1, k2, k3⟩ => ⟨_, k1, .inr ⟨g, cap, _, rfl, k2⟩, k3.mono fun i hi => .inl (by simp only [Value.ownBlock]; rw [hi]), rfl⟩

set_option maxHeartbeats 2000000 in
set_option maxRecDepth 100000 in
theorem leave_ok (h : NodeIs X w b A pn pc sv l s) (hg : NGood s) (id : ByteArray) (hid : id.size ≤ maxLen) (k : Nat) (hx : idxOf s.D id = some k) :
    Calls Tryz.prog 16 #[.pointer (some ⟨b, 0, none⟩), .string id] w (WtIs X b { s with D := cutD s.D k, S := s.S.filter (notOf id) } 0 w) := by
  have HH := Lib.hid h
  have hbl := h.blk.lt
  have h8 := hg.eight
  have E0 := Lib.hid ((Env.start w).lay #[.string id] 9)
  have HP := Lib.hid (show ∀ W, Below w.heap.size w W → Calls Tryz.prog 48 #[.slice A pn pc, .string id] W (AddIs A l (cutD s.D k) (pn - 1) W) from fun W hw =>
    pdrop_ok A pc w.heap.size pn l s.D h.map hg.ps h.room id hid k hx W (h.peers.below hw (Nat.le_refl _)) hw.size)
  clear h hg hx
  go_enter Tryz.func16, Tryz.ntmps16
  go_upto_region 8 with fail
  have HS := Lib.hid (show ∀ w', Below (w.heap.size + 1) (w.alloc (.cells #[.string id] 9)) w' → (Below (w.heap.size + 1) (w.alloc (.cells #[.string id] 9)) w' ∧ w'.cell? ⟨b, 8, none⟩ = some (.slice A pn pc) ∧ w'.cell? ⟨w.heap.size, 0, none⟩ = some (.string id))
    from fun w' h => by
      have h2 : Below (w.alloc (.cells #[.string id] 9)).heap.size (w.alloc (.cells #[.string id] 9)) w' := by simpa using h
      exact ⟨h, (HH.out.blk.below (E0.out.bel.trans (h2.mono (by simp))) hbl).cell 8, (E0.out.hd.below h2 E0.out.hd.lt).cell 0⟩)
  generalize hW2 : World.alloc w _ = w2 at *
  have hs12 : w.heap.size + 1 ≤ w2.heap.size := by rw [← hW2]; simp
  have hs21 : w2.heap.size ≤ w.heap.size + 1 := by rw [← hW2]; simp
  clear hW2
  have HP2 := Lib.hid (fun W (hw : Below (w.heap.size + 1) w2 W) => HP.out W (E0.out.bel.trans (hw.mono (by omega))))
  go_region_held3 (fun w' => Below (w.heap.size + 1) w2 w' ∧ w'.cell? ⟨b, 8, none⟩ = some (.slice A pn pc) ∧ w'.cell? ⟨w.heap.size, 0, none⟩ = some (.string id))
    ((refine HS.out _ ?_; first | (with_reducible exact hL3) | (with_reducible exact Below.refl _ _) | (with_reducible exact (Below.refl _ _).drew)))
    ((go_at_call 48; (with_reducible refine (HP2.out _ ?ia).mono ?_); (case ia => first | (with_reducible exact Below.refl _ _) | (with_reducible exact (Below.refl _ _).drew)); rintro e' w3 ⟨A3, c3, l3, rfl, hm3, hp3, hb3, hr3, hk3⟩; have hL3 : Below (w.heap.size + 1) w2 w3 := Below.trans (by first | (with_reducible exact Below.refl _ _) | (with_reducible exact (Below.refl _ _).drew)) (Below.mono hb3 (by simp; omega))))
  all_goals
    have E3 := Lib.hid (E0.out.bel.trans (hL3.mono (by omega)))
    have hbl3 : b < w3.heap.size := by have := E3.out.size; omega
    have N3 := Lib.hid (HoldIs.below HH.out E3.out)
    have HK3 := Lib.hid (keeps_fr (w := w) hk3 (by simp; omega))
    have NT := Lib.hid (HoldIs.turn (mk' := nodeCs s.c s.now s.seq s.drops) (i := 8) HH.out E3.out hp3 hm3 hr3 HK3.out rfl)
    have KT := Lib.hid ((Kept.of_below (X := X) E3.out).setCell (a := ⟨b, 8, none⟩) (.inl HH.out.xb) (.slice A3 (pn - 1) c3))
    have f8 := N3.out.blk.frozen 8
    have xb := (HS.out _ hL3).2.2
    have xb4 : (w3.setCell ⟨b, 8, none⟩ (.slice A3 (pn - 1) c3)).cell? ⟨w.heap.size, 0, none⟩ = some (.string id) := (World.cell?_setCell_other _ _ _ _ (by intro h2; simp only [Addr.mk.injEq] at h2; omega)).trans xb
    have hsvb : sv.ownBlock ≠ some w.heap.size := fun e => by have := HH.out.subs.lt _ e; omega
    have HD := Lib.hid (delf_any w.heap.size id sv s.S (by omega) _ NT.out.subs hsvb xb4)
    have b9 := NT.out.blk.cell 9
    have hbl4 := NT.out.blk.lt
    simp [nodeCs] at b9
    clear hL3 hb3 hm3 hp3 hr3 hk3 xb xb4
    obtain ⟨As, cs, hsv⟩ := ownsRow_len NT.out.subs.own
    subst hsv
    go_wp2_with fail
    refine HD.out.mono ?_
    rintro e' w5 ⟨sv', rfl, hsa, hk5, hob⟩
    have f9 := (hk5.blk NT.out.blk (fun e => (NT.out.xs b e).2 rfl)).frozen 9
    have b9' := (hk5.blk NT.out.blk (fun e => (NT.out.xs b e).2 rfl)).cell 9
    have hbl5 := (hk5.blk NT.out.blk (fun e => (NT.out.xs b e).2 rfl)).lt
    simp [nodeCs] at b9'
    have NJ := Lib.hid (HoldIs.join (mk' := nodeCs s.c s.now s.seq s.drops) (i := 9) NT.out hk5 hsa (.inl hob) rfl)
    have hsz : w3.heap.size ≤ w5.heap.size := by have := hk5.size; simpa [World.setCell] using this
    have KJ := Lib.hid ((KT.out.then hk5 (fun i hi => .inl (HH.out.xs i hi).1)).setCell (a := ⟨b, 9, none⟩) (.inl HH.out.xb) sv')
    clear hk5 hob b9
    obtain ⟨A5, c5, hsv5⟩ := ownsRow_len hsa.own
    subst hsv5
    go_wp2
    go_ret
    refine ⟨rfl, HoldAt.wide (HoldIs.at_ NJ.out) (fun i hi => ?_) (fun k hk => hk.2), KJ.out⟩
    obtain ⟨h1, h2⟩ := hi
    refine ⟨?_, by simpa [World.setCell] using h2⟩
    rcases h1 with h1 | h1
    · exact h1.1
    · right
      have h3 : w3.heap.size ≤ i := by simpa [World.setCell] using h1
      have := E3.out.size
      omega
theorem leave_any (h : NodeIs X w b A pn pc sv l s) (hg : NGood s) (id : ByteArray) (hid : id.size ≤ maxLen) :
    Calls Tryz.prog 16 #[.pointer (some ⟨b, 0, none⟩), .string id] w (WtIs X b (s.left id) (s.leaveE id) w) := by
  unfold NSt.left NSt.leaveE
  cases hx : idxOf s.D id with
  | none => exact leave_none h hg id hid hx
  | some k => exact leave_ok h hg id hid k hx
end
end Go.Proofs.YtcikljcjhijjdaaGreat
