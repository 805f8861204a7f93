/- The program's town: Bring, Lose, Way, walked. (with what it needs) -/
import Derived.Test.YthimchhnhhchkaaGreatDoorM42
import Derived.Test.YthimchhnhhchkaaGreatDoorM39
import Derived.BigQuiet
import Derived.Deep.QuietTactic
namespace Go.Proofs.YthimchhnhhchkaaGreatDoor
open Go.RowKit Go.Lib
set_option linter.unusedSimpArgs false
set_option linter.unusedVariables false

section
variable {w W W' W2 : World} {F F' : Nat → Nat} {tb ca : Nat} {Aa : Option Addr} {nv dv wv : Value} {bs : List Nat} {t t' : TSt}
theorem own_mono {base base' n size : Nat} {e : TypeId} {v : Value} {xs : List Value} (h : W.ownsRow base e size v n xs) (hb : base' ≤ base) : W.ownsRow base' e size v n xs :=
  ⟨h.1, h.2.imp id (fun ⟨g, cap, cur, e1, e2, r⟩ => ⟨g, cap, cur, e1, Nat.le_trans hb e2, r⟩)⟩
theorem TwTo.from (hC : Col w W F) (hb : Below W.heap.size W W') (h : TwTo w F W' tb t' W2) : TwTo w F W tb t' W2 := by
  obtain ⟨F', h1, h2, h3⟩ := h
  exact ⟨F', h1, (Moved.below hC hb).trans h2, h3⟩
theorem TwN.from {N : List TriD} {er : Int} {e : Ending} (hC : Col w W F) (hb : Below W.heap.size W W') (h : TwN w F W' tb t' N er e W2) : TwN w F W tb t' N er e W2 := by
  obtain ⟨A, c, h1, h2, h3⟩ := h
  exact ⟨A, c, h1, own_mono h2 hb.size, h3.from hC hb⟩
theorem drew_below (W : World) : Below W.heap.size W W.drew := (Below.refl _ _).drew
/-- one text under way -/
theorem TownIs.word (h : TownIs F W tb Aa ca nv dv wv bs t) {i : Nat} (hi : i < t.way.length) : ∃ gw cw, wv = .slice (some ⟨gw, 0, none⟩) t.way.length cw ∧ t.way.length ≤ cw ∧ cw ≤ maxLen ∧ gw < W.heap.size ∧ F gw = 5 ∧ W.cell? ⟨gw, i, none⟩ = some (.string (t.way[i]'hi)) := by
  obtain ⟨gw, cw, rfl, -, hgw, h1, h2, hc⟩ := ownsRow_at h.way.1 (by omega)
  exact ⟨gw, cw, rfl, h1, h2, hgw, h.way.2 gw rfl, hc i _ (by simp [cellsTx, hi])⟩
set_option maxHeartbeats 1000000 in
set_option maxRecDepth 100000 in
theorem tbring_ok (h : TownIs F W tb Aa ca nv dv wv bs t) (hC : Col w W F) (h5 : t.L.length ≤ 5) (k : Nat) (hk : k < t.L.length) (hd : (t.L[k]'hk).2 = false) (hg : NGood (t.L[k]'hk).1) (i : Nat) (hi : i < t.way.length) :
    Calls Tryz.prog 78 #[.pointer (some ⟨tb, 0, none⟩), .int .i64 (i : Int), .int .i64 (k : Int)] W (TwN w F W tb (t.node k ((t.L[k]'hk).1.heard (t.way[i]'hi))) ((t.L[k]'hk).1.hearN (t.way[i]'hi)) ((t.L[k]'hk).1.hearE (t.way[i]'hi))) := by
  have htb := h.blk.1.lt
  have b1 := h.blk.1.cell 1
  have b2 := h.blk.1.cell 2
  have b3 := h.blk.1.cell 3
  have hb : k < bs.length := by rw [h.len]; exact hk
  have HH := Lib.hid (show ∀ W1, Below W.heap.size W W1 → ∀ e W', HrIs (fun x => F x = 10 + k) (bs[k]'hb) ((t.L[k]'hk).1.heard (t.way[i]'hi)) ((t.L[k]'hk).1.hearN (t.way[i]'hi)) ((t.L[k]'hk).1.hearE (t.way[i]'hi)) W1 e W' → TwN w F W tb (t.node k ((t.L[k]'hk).1.heard (t.way[i]'hi))) ((t.L[k]'hk).1.hearN (t.way[i]'hi)) ((t.L[k]'hk).1.hearE (t.way[i]'hi)) e W' from fun W1 hb1 e W' hr => ((h.below hC hb1 h5).hrIs (hC.below hb1) h5 hk hd (heard_c (t.L[k]'hk).1 (t.way[i]'hi)) hr).from hC hb1)
  have HN := Lib.hid (fun W1 (hb1 : Below W.heap.size W W1) => (h.below hC hb1 h5).node k hb hk)
  have HL := Lib.hid (show ∀ W1, Below W.heap.size W W1 → Calls Tryz.prog 114 #[.pointer (some ⟨bs[k]'hb, 0, none⟩), .string (t.way[i]'hi)] W1 (HrIs (fun x => F x = 10 + k) (bs[k]'hb) ((t.L[k]'hk).1.heard (t.way[i]'hi)) ((t.L[k]'hk).1.hearN (t.way[i]'hi)) ((t.L[k]'hk).1.hearE (t.way[i]'hi)) W1) from fun W1 hb1 => by
    obtain ⟨_, _, _, _, _, hn⟩ := HN.out W1 hb1
    exact hear_any hn hg _)
  obtain ⟨gn, cn, gd, cd, rfl, rfl, hn1, hn2, hd1, hd2, hgn, hgd, hfd, c1, c2, c3⟩ := h.at_ hk
  obtain ⟨gw, cw, rfl, hw1, hw2, hgw, hfw, cw0⟩ := h.word hi
  simp at b1 b2 b3
  have htF := h.blk.2
  have hnF := h.nds.2 gn rfl
  rw [hd] at c2
  unfold maxLen at hn2 hd2 hw2
  have HS := Lib.hid (show ∀ w', Kept (fun x => F x = 10 + k) W w' → (w'.cell? ⟨tb, 1, none⟩ = some (.slice (some ⟨gn, 0, none⟩) t.L.length cn) ∧ w'.cell? ⟨tb, 3, none⟩ = some (.slice (some ⟨gw, 0, none⟩) t.way.length cw) ∧ w'.cell? ⟨gn, k, none⟩ = some (.pointer (some ⟨bs[k]'hb, 0, none⟩)) ∧ w'.cell? ⟨gw, i, none⟩ = some (.string (t.way[i]'hi))) from fun w' hk' =>
    ⟨hk'.cell b1 (fun e => by have : F tb = 10 + k := e; omega), hk'.cell b3 (fun e => by have : F tb = 10 + k := e; omega), hk'.cell c1 (fun e => by have : F gn = 10 + k := e; omega), hk'.cell cw0 (fun e => by have : F gw = 10 + k := e; omega)⟩)
  generalize hQ : TwN w F W tb (t.node k ((t.L[k]'hk).1.heard (t.way[i]'hi))) ((t.L[k]'hk).1.hearN (t.way[i]'hi)) ((t.L[k]'hk).1.hearE (t.way[i]'hi)) = Q at *
  clear hQ HN
  generalize bs[k]'hb = b at *
  clear h hd
  generalize t.way[i]'hi = x at *
  have ik0 : (0 : Int) ≤ (k : Int) := by omega
  have ik1 : (k : Int) < (t.L.length : Int) := by omega
  have ii0 : (0 : Int) ≤ (i : Int) := by omega
  have ii1 : (i : Int) < (t.way.length : Int) := by omega
  go_enter Tryz.func78, Tryz.ntmps78
  go_wp2_with fail
  go_region_held3 (fun w' => w'.cell? ⟨tb, 1, none⟩ = some (.slice (some ⟨gn, 0, none⟩) t.L.length cn) ∧ w'.cell? ⟨tb, 3, none⟩ = some (.slice (some ⟨gw, 0, none⟩) t.way.length cw) ∧ w'.cell? ⟨gn, k, none⟩ = some (.pointer (some ⟨b, 0, none⟩)) ∧ w'.cell? ⟨gw, i, none⟩ = some (.string x))
    ((refine HS.out _ ?_; first | (with_reducible exact hK2) | (with_reducible exact Kept.refl _ _) | (with_reducible exact (Kept.refl _ _).drew)))
    ((go_at_call 114; (with_reducible refine (HL.out _ ?ia).mono ?_); (case ia => first | (with_reducible exact Below.refl _ _) | (with_reducible exact (Below.refl _ _).drew)); intro e' w2 hr; have H2 := Lib.hid (HH.out _ (by first | (with_reducible exact Below.refl _ _) | (with_reducible exact (Below.refl _ _).drew)) _ _ hr); have hK2 : Kept (fun x => F x = 10 + k) W w2 := (by obtain ⟨_, _, _, _, _, hkk⟩ := hr; first | (with_reducible exact hkk) | exact Kept.trans (Kept.refl _ _).drew hkk); obtain ⟨A2, c2', rfl, -⟩ := hr))
  all_goals
    clear hK2
    go_wp2
    exact H2.out
set_option maxHeartbeats 400000 in
set_option maxRecDepth 100000 in
theorem tbring_no (h : TownIs F W tb Aa ca nv dv wv bs t) (i z : Int) (hi : (i < 0 ∨ (t.way.length : Int) ≤ i) ∨ (0 ≤ i ∧ i < (t.way.length : Int) ∧ DeadI t z)) :
    Calls Tryz.prog 78 #[.pointer (some ⟨tb, 0, none⟩), .int .i64 i, .int .i64 z] W fun e W' => e = .returned (.tuple #[.slice none 0 0, .int .i64 4]) ∧ W = W' := by
  have htb := h.blk.1.lt
  have b1 := h.blk.1.cell 1
  have b2 := h.blk.1.cell 2
  have b3 := h.blk.1.cell 3
  obtain ⟨An, cn, Ad, cd, rfl, rfl⟩ := h.lens
  obtain ⟨Aw, cw, rfl⟩ := ownsRow_len h.way.1
  simp at b1 b2 b3
  rcases hi with (hi | hi) | ⟨hi0, hi1, hi | hi | ⟨k, rfl, hk, hd⟩⟩
  · clear h
    go_enter Tryz.func78, Tryz.ntmps78
    go_wp2
    go_ret2
    exact ⟨rfl, rfl⟩
  · have hi0 : 0 ≤ i := by omega
    clear h
    generalize t.way.length = m at *
    go_enter Tryz.func78, Tryz.ntmps78
    go_wp2
    go_ret2
    exact ⟨rfl, rfl⟩
  · clear h
    generalize t.way.length = m at *
    go_enter Tryz.func78, Tryz.ntmps78
    go_wp2
    go_ret2
    exact ⟨rfl, rfl⟩
  · have hto0 : 0 ≤ z := by omega
    clear h
    generalize t.L.length = n at *
    generalize t.way.length = m at *
    go_enter Tryz.func78, Tryz.ntmps78
    go_wp2
    go_ret2
    exact ⟨rfl, rfl⟩
  · obtain ⟨gn, cn', gd, cd', e1, e2, hn1, hn2, hd1, hd2, hgn, hgd, -, c1, c2, -⟩ := h.at_ hk
    simp only [Value.slice.injEq] at e1 e2
    obtain ⟨rfl, -, rfl⟩ := e1
    obtain ⟨rfl, -, rfl⟩ := e2
    rw [hd] at c2
    unfold maxLen at hn2 hd2
    clear c1
    clear h hd
    generalize t.L.length = n at *
    generalize t.way.length = m at *
    go_enter Tryz.func78, Tryz.ntmps78
    go_wp2
    go_ret2
    exact ⟨rfl, rfl⟩
theorem under_true {t : TSt} {i : Int} (h : t.under i = true) : ∃ k : Nat, i = (k : Int) ∧ ∃ hk : k < t.way.length, t.word i = t.way[k]'hk := by
  unfold TSt.under at h
  simp only [Bool.and_eq_true, decide_eq_true_eq] at h
  obtain ⟨h0, h1⟩ := h
  have hk : i.toNat < t.way.length := by omega
  refine ⟨i.toNat, by omega, hk, ?_⟩
  unfold TSt.word
  simp [List.getD, hk]
theorem under_false {t : TSt} {i : Int} (h : t.under i = false) : i < 0 ∨ (t.way.length : Int) ≤ i := by
  unfold TSt.under at h
  by_cases h0 : 0 ≤ i
  · by_cases h1 : i < t.way.length
    · simp [h0, h1] at h
    · exact .inr (by omega)
  · exact .inl (by omega)
theorem tbring_any (h : TownIs F W tb Aa ca nv dv wv bs t) (hC : Col w W F) (hg : TGood t) (i z : Int) :
    Calls Tryz.prog 78 #[.pointer (some ⟨tb, 0, none⟩), .int .i64 i, .int .i64 z] W (TwN w F W tb (t.brought i z) (t.bringN i z) (t.bringE i z)) := by
  unfold TSt.brought TSt.bringN TSt.bringE
  by_cases hl : (t.under i && t.lives z) = true
  · rw [if_pos hl, if_pos hl, if_pos hl]
    simp only [Bool.and_eq_true] at hl
    obtain ⟨j, rfl, hj, hw⟩ := under_true hl.1
    obtain ⟨k, rfl, hk, hd⟩ := lives_true hl.2
    rw [TSt.at_is hk, hw]
    exact tbring_ok h hC hg.five k hk hd (hg.good _ (List.getElem_mem hk)) j hj
  · rw [if_neg hl, if_neg hl, if_neg hl]
    refine (tbring_no h i z ?_).mono fun e W' ⟨k1, k2⟩ => ⟨none, 0, k1, World.ownsRow_nil _ _ _ _, k2 ▸ h.toC hC⟩
    by_cases hu : t.under i = true
    · obtain ⟨j, rfl, hj, hw⟩ := under_true hu
      exact .inr ⟨by omega, by omega, lives_false (by simpa [hu] using hl)⟩
    · exact .inl (under_false (by simpa using hu))
/-! ### what is under way, changed -/
theorem TownIs.setWay {W1 : World} {F1 : Nat → Nat} {wv' : Value} {way' : List ByteArray} (h : TownIs F W tb Aa ca nv dv wv bs t) (hC : Col w W F) (hC1 : Col w W1 F1) (m : Moved (fun c => c = 5 ∨ c = 19) F W F1 W1) (hr : RowC F1 5 W1 9 1 way'.length wv' (cellsTx way')) (h5 : t.L.length ≤ 5) :
    Col w (W1.setCell ⟨tb, 3, none⟩ wv') F1 ∧ Moved (fun c => c = 1 ∨ c = 5 ∨ c = 19) F W F1 (W1.setCell ⟨tb, 3, none⟩ wv') ∧ TownIs F1 (W1.setCell ⟨tb, 3, none⟩ wv') tb Aa ca nv dv wv' bs ⟨t.L, way'⟩ := by
  have hb1 := m.blk hC (c' := 1) (by decide) (by decide) h.blk
  have hkp : Kept (fun k => F1 k = 1) W1 (W1.setCell ⟨tb, 3, none⟩ wv') := (Kept.refl _ _).setCell (a := ⟨tb, 3, none⟩) (.inl hb1.2) _
  have hsz : (W1.setCell ⟨tb, 3, none⟩ wv').heap.size = W1.heap.size := by simp [World.setCell]
  have m2 : Moved (fun x => x = 1) F1 W1 F1 (W1.setCell ⟨tb, 3, none⟩ wv') := ⟨hkp, fun _ _ => rfl, fun k hl h0 => by have := hC1.hi k h0; omega⟩
  refine ⟨⟨hC1.lo, fun k hk => by rw [hsz]; exact hC1.hi k hk, hC1.bel.trans (hkp.below (fun k e => hC1.lo k (by rw [e]; decide)) hC1.bel.size)⟩, (m.mono (fun c hc => .inr hc)).trans (m2.mono (fun c hc => .inl hc)), ?_⟩
  refine ⟨⟨hb1.1.set_ 3 wv', hb1.2⟩, m2.read hC1 (by decide) (by decide) (m.read hC (by decide) (by decide) h.all), m2.row hC1 (by decide) (by decide) (m.row hC (by decide) (by decide) h.nds), m2.row hC1 (by decide) (by decide) (m.row hC (by decide) (by decide) h.ded), m2.row hC1 (by decide) (by decide) hr, h.len, fun i hi hi' => ?_⟩
  have hi5 : i < 5 := Nat.lt_of_lt_of_le hi' h5
  exact m2.hold hC1 (by omega) (by omega) (m.hold hC (c' := 10 + i) (by omega) (by omega) (h.node i hi hi'))
set_option maxHeartbeats 400000 in
set_option maxRecDepth 100000 in
theorem tlose_no (h : TownIs F W tb Aa ca nv dv wv bs t) (i : Int) (hi : i < 0 ∨ (t.way.length : Int) ≤ i) :
    Calls Tryz.prog 80 #[.pointer (some ⟨tb, 0, none⟩), .int .i64 i] W fun e W' => e = .returned (.int .i64 4) ∧ W = W' := by
  have htb := h.blk.1.lt
  have b3 := h.blk.1.cell 3
  obtain ⟨Aw, cw, rfl⟩ := ownsRow_len h.way.1
  simp at b3
  rcases hi with hi | hi
  · clear h
    go_enter Tryz.func80, Tryz.ntmps80
    go_wp2
    go_ret
    exact ⟨rfl, rfl⟩
  · have hi0 : 0 ≤ i := by omega
    clear h
    generalize t.way.length = m at *
    go_enter Tryz.func80, Tryz.ntmps80
    go_wp2
    go_ret
    exact ⟨rfl, rfl⟩
theorem cutW_len {l : List ByteArray} {i : Nat} (h : i < l.length) : (cutW l i).length = l.length - 1 := by
  simp only [cutW, List.length_append, List.length_take, List.length_drop]; omega
theorem cellsTx_cut (l : List ByteArray) (i : Nat) : (cellsTx l).take (i * 1) ++ (cellsTx l).drop ((i + 1) * 1) = cellsTx (cutW l i) := by
  simp [cellsTx, cutW, List.map_take, List.map_drop]
set_option maxHeartbeats 1000000 in
set_option maxRecDepth 100000 in
theorem tlose_ok (h : TownIs F W tb Aa ca nv dv wv bs t) (hC : Col w W F) (h5 : t.L.length ≤ 5) (i : Nat) (hi : i < t.way.length) (hm : t.way.length ≤ 1000) :
    Calls Tryz.prog 80 #[.pointer (some ⟨tb, 0, none⟩), .int .i64 (i : Int)] W (TwE w F W tb ⟨t.L, cutW t.way i⟩ 0) := by
  have htb := h.blk.1.lt
  have b3 := h.blk.1.cell 3
  obtain ⟨gw, cw, rfl, hw1, hw2, hgw, hfw, -⟩ := h.word hi
  simp at b3
  have HD := Lib.hid (slT_delete 0 gw cw t.way.length i (cellsTx t.way) hi (oneCell_T _) W h.way.1)
  have HE := Lib.hid (show ∀ W2, W2.ownsRow 0 9 1 (.slice (some ⟨gw, 0, none⟩) (t.way.length - 1) cw) (t.way.length - 1) ((cellsTx t.way).take (i * 1) ++ (cellsTx t.way).drop ((i + 1) * 1)) → W.grownBy W2 (some gw) → tb < W2.heap.size ∧ (∀ j, W2.cell? ⟨tb, j, none⟩ = W.cell? ⟨tb, j, none⟩) ∧ (∀ j, W2.frozen? ⟨tb, j, none⟩ = false) ∧ TwTo w F W tb ⟨t.L, cutW t.way i⟩ (W2.setCell ⟨tb, 3, none⟩ (.slice (some ⟨gw, 0, none⟩) (t.way.length - 1) cw)) from fun W2 ho hg => by
    have hk : Kept (fun k => F k = 5) W W2 := (Kept.refl _ _).grown hg (fun k e => by injection e with e; exact .inl (e ▸ hfw))
    have hne : ¬ F tb = 5 := by rw [h.blk.2]; decide
    have hb2 := hk.blk h.blk.1 hne
    have hC2 : Col w W2 F := ⟨hC.lo, fun k e => Nat.lt_of_lt_of_le (hC.hi k e) hg.size, hC.bel.trans (hk.below (fun k e => hC.lo k (by rw [e]; decide)) hC.bel.size)⟩
    have m : Moved (fun c => c = 5 ∨ c = 19) F W F W2 := ⟨hk.mono (fun k e => .inl (.inl e)), fun _ _ => rfl, fun k hl h0 => by have := hC.hi k h0; omega⟩
    rw [cellsTx_cut] at ho
    have hl := cutW_len hi
    obtain ⟨q1, q2, q3⟩ := h.setWay hC hC2 m ⟨by rw [hl]; exact ho, fun k e => by injection e with e; exact e ▸ hfw⟩ h5
    exact ⟨hb2.lt, fun j => by rw [World.cell?_of_block (w := W) (hk.block tb h.blk.1.lt hne)], fun j => hb2.frozen j, F, q1, q2.mono (fun c hc => by unfold ProgC; omega), _, _, _, _, _, _, q3⟩)
  unfold maxLen at hw2
  have ii0 : (0 : Int) ≤ (i : Int) := by omega
  have ii1 : (i : Int) < (t.way.length : Int) := by omega
  clear h
  go_enter Tryz.func80, Tryz.ntmps80
  go_wp2_with fail
  refine HD.out.mono ?_
  rintro e' W2 ⟨rfl, ho, hg⟩
  obtain ⟨q1, q2, q3, q4⟩ := HE.out W2 ho hg
  have Q4 := Lib.hid q4
  have c3 := (q2 3).trans b3
  have f3 := q3 3
  clear ho hg q4 q2 q3 b3
  go_wp2
  go_ret
  exact ⟨rfl, Q4.out⟩
theorem tlose_any (h : TownIs F W tb Aa ca nv dv wv bs t) (hC : Col w W F) (hg : TGood t) (i : Int) :
    Calls Tryz.prog 80 #[.pointer (some ⟨tb, 0, none⟩), .int .i64 i] W (TwE w F W tb (t.lost i) (t.loseE i)) := by
  unfold TSt.lost TSt.loseE
  by_cases hl : t.under i = true
  · rw [if_pos hl, if_pos hl]
    obtain ⟨k, rfl, hk, -⟩ := under_true hl
    exact tlose_ok h hC hg.five k hk hg.way
  · rw [if_neg hl, if_neg hl]
    exact (tlose_no h i (under_false (by simpa using hl))).mono fun e W' ⟨k1, k2⟩ => ⟨k1, k2 ▸ h.toC hC⟩
end
end Go.Proofs.YthimchhnhhchkaaGreatDoor

namespace Go.Proofs.YthimchhnhhchkaaGreatDoor
open Go.RowKit Go.Lib
set_option linter.unusedSimpArgs false
set_option linter.unusedVariables false

/-- the answer of a node's Tick, as TickIs, of any node -/
theorem paint_row {F : Nat → Nat} {W W' : World} {c n size : Nat} {T : TypeId} {v : Value} {xs : List Value} (h : W'.ownsRow W.heap.size T size v n xs) : ∀ k, v.ownBlock = some k → paint F W W' c k = c := fun k hk => paint_new (h.lt k hk).1 (h.lt k hk).2
theorem paint_keep {F : Nat → Nat} {W W' : World} {c k : Nat} (h : F k = c) : paint F W W' c k = c := by
  unfold paint
  split
  · rfl
  · exact h
section
variable {w W W' wr w2 w3 w4 : World} {F F1 : Nat → Nat} {tb ca : Nat} {Aa : Option Addr} {nv dv wv ov : Value} {bs : List Nat} {t : TSt} {g : Int} {k : Nat}
/-- among the ticks of the nodes, behind k of them -/
structure TkSt (w : World) (F : Nat → Nat) (W : World) (tb : Nat) (Aa : Option Addr) (ca : Nat) (nv dv : Value) (bs : List Nat) (t : TSt) (g : Int) (k : Nat) (F1 : Nat → Nat) (wv ov : Value) (wr : World) : Prop where
  col : Col w wr F1
  mov : Moved ProgC F W F1 wr
  twn : TownIs F1 wr tb Aa ca nv dv wv bs (t.mid g k)
  out : wr.ownsRow W.heap.size 146 3 ov (t.midN g k).length (cells3 (t.midN g k))
  oc : ∀ x, ov.ownBlock = some x → F1 x = 19
def TkRel (w : World) (F : Nat → Nat) (W : World) (tb : Nat) (Aa : Option Addr) (ca : Nat) (nv dv : Value) (bs : List Nat) (t : TSt) (g : Int) (k : Nat) (ov : Value) (wr : World) : Prop := ∃ F1 wv, TkSt w F W tb Aa ca nv dv bs t g k F1 wv ov wr
theorem mid_dead (hk : k < t.L.length) (hd : (t.L[k]'hk).2 = true) : t.mid g (k + 1) = t.mid g k ∧ t.midN g (k + 1) = t.midN g k := by
  have e1 := TSt.mid_set t g k hk
  have e2 := TSt.mid_way t g k hk
  have e3 := TSt.midN_snoc t g k hk
  have f1 : tick1 g (t.L[k]'hk) = t.L[k]'hk := by unfold tick1; rw [if_pos hd]
  have f2 : beats1 g (t.L[k]'hk) = [] := by unfold beats1; rw [if_pos hd]
  have f3 : notes1b g (t.L[k]'hk) = [] := by unfold notes1b; rw [if_pos hd]
  rw [f1] at e1
  rw [f2, List.append_nil] at e2
  rw [f3, List.append_nil] at e3
  refine ⟨?_, e3⟩
  have hml : k < (t.mid g k).L.length := by rw [TSt.mid_len]; exact hk
  have e4 : (t.mid g k).L.set k (t.L[k]'hk) = (t.mid g k).L := by
    have h9 := List.set_getElem_self hml
    rw [TSt.mid_at t g k k hk (Nat.le_refl _)] at h9
    exact h9
  rw [e4] at e1
  have ext : ∀ a b : TSt, a.L = b.L → a.way = b.way → a = b := fun a b h1 h2 => by cases a; cases b; simp_all
  exact ext _ _ e1 e2
theorem TkRel.skip (h : TkRel w F W tb Aa ca nv dv bs t g k ov wr) (hk : k < t.L.length) (hd : (t.L[k]'hk).2 = true) : TkRel w F W tb Aa ca nv dv bs t g (k + 1) ov wr := by
  obtain ⟨F1, wv, h⟩ := h
  obtain ⟨e1, e2⟩ := mid_dead (g := g) hk hd
  exact ⟨F1, wv, h.col, h.mov, by rw [e1]; exact h.twn, by rw [e2]; exact h.out, h.oc⟩
/-- behind one node's Tick -/
structure TkMid (w : World) (F : Nat → Nat) (W : World) (tb : Nat) (Aa : Option Addr) (ca : Nat) (nv dv : Value) (bs : List Nat) (t : TSt) (g : Int) (k : Nat) (F2 : Nat → Nat) (wv ov tv xv : Value) (T : List ByteArray) (N : List TriD) (w2 : World) (L' : List NdB) : Prop where
  col : Col w w2 F2
  mov : Moved ProgC F W F2 w2
  twn : TownIs F2 w2 tb Aa ca nv dv wv bs ⟨L', (t.mid g k).way⟩
  out : w2.ownsRow W.heap.size 146 3 ov (t.midN g k).length (cells3 (t.midN g k))
  oc : ∀ x, ov.ownBlock = some x → F2 x = 19
  txt : w2.ownsRow 0 9 1 tv T.length (cellsTx T)
  nts : w2.ownsRow 0 146 3 xv N.length (cells3 N)
  nc : ∀ x, xv.ownBlock = some x → F2 x = 10 + k
theorem TkSt.node {T : List ByteArray} {N : List TriD} {s1 : NSt} {tv xv : Value} (h : TkSt w F W tb Aa ca nv dv bs t g k F1 wv ov wr) (h5 : t.L.length ≤ 5) (hk : k < t.L.length) (hd : (t.L[k]'hk).2 = false)
    (ht : w2.ownsRow wr.heap.size 9 1 tv T.length (cellsTx T)) (hn : w2.ownsRow wr.heap.size 146 3 xv N.length (cells3 N)) (hN : NodeAt (grow (fun x => F1 x = 10 + k) wr w2) w2 (bs[k]'(by rw [h.twn.len, TSt.mid_len]; exact hk)) s1) (hkp : Kept (fun x => F1 x = 10 + k) wr w2) (hcfg : s1.c = (t.L[k]'hk).1.c) :
    TkMid w F W tb Aa ca nv dv bs t g k (paint F1 wr w2 (10 + k)) wv ov tv xv T N w2 ((t.mid g k).L.set k (s1, false)) := by
  have hml : k < (t.mid g k).L.length := by rw [TSt.mid_len]; exact hk
  have hat := TSt.mid_at t g k k hk (Nat.le_refl _)
  have m := Moved.paint h.col hkp
  exact ⟨h.col.paint (by omega) hkp, h.mov.trans (m.mono (fun c hc => .inr (by omega))), h.twn.turn h.col hml hkp hN (by rw [hat]; exact hcfg) (by rw [hat]; exact hd.symm),
    hkp.own h.out (fun x hx e => by have := h.oc x hx; omega), fun x hx => (m.col h.col (by decide) (by omega)).2 (h.oc x hx), own_mono ht (Nat.zero_le _), own_mono hn (Nat.zero_le _), paint_row hn⟩
/-- behind both appends, and the store -/
theorem TkMid.app {F2 : Nat → Nat} {T : List ByteArray} {N : List TriD} {s1 : NSt} {tv xv wv' ov' : Value} (h : TkMid w F W tb Aa ca nv dv bs t g k F2 wv ov tv xv T N w2 ((t.mid g k).L.set k (s1, false))) (h5 : t.L.length ≤ 5) (hk : k < t.L.length)
    (ho3 : w3.ownsRow 0 9 1 wv' ((t.mid g k).way.length + T.length) (cellsTx (t.mid g k).way ++ cellsTx T)) (hg3 : w2.grownBy w3 wv.ownBlock) (hb3 : wv'.ownBlock = wv.ownBlock ∨ wv'.ownBlock = some w2.heap.size)
    (ho4 : w4.ownsRow W.heap.size 146 3 ov' ((t.midN g k).length + N.length) (cells3 (t.midN g k) ++ cells3 N)) (hg4 : w3.grownBy w4 ov.ownBlock) (hb4 : ov'.ownBlock = ov.ownBlock ∨ ov'.ownBlock = some w3.heap.size)
    (hT : T = beats1 g (t.L[k]'hk)) (hN : N = notes1b g (t.L[k]'hk)) (hS : (s1, false) = tick1 g (t.L[k]'hk)) : TkRel w F W tb Aa ca nv dv bs t g (k + 1) ov' (w4.setCell ⟨tb, 3, none⟩ wv') := by
  have hwF : ∀ x, wv.ownBlock = some x → F2 x = 5 := h.twn.way.2
  have k3 : Kept (fun x => F2 x = 5) w2 w3 := (Kept.refl _ _).grown hg3 (fun x e => .inl (hwF x e))
  have m3 := Moved.paint h.col k3
  have c3 := h.col.paint (by decide) k3
  have hoF : ∀ x, ov.ownBlock = some x → paint F2 w2 w3 5 x = 19 := fun x e => (m3.col h.col (by decide) (by decide)).2 (h.oc x e)
  have k4 : Kept (fun x => paint F2 w2 w3 5 x = 19) w3 w4 := (Kept.refl _ _).grown hg4 (fun x e => .inl (hoF x e))
  have m4 := Moved.paint c3 k4
  have c4 := c3.paint (by decide) k4
  have hw3 : RowC (paint F2 w2 w3 5) 5 w3 9 1 ((t.mid g k).way.length + T.length) wv' (cellsTx (t.mid g k).way ++ cellsTx T) := ⟨ho3, fun x e => by
    have hl := (ho3.lt x e).2
    rcases hb3 with e2 | e2
    · rw [e2] at e
      exact paint_keep (hwF x e)
    · rw [e2] at e
      injection e with e
      exact paint_new (by omega) hl⟩
  have hw4 := m4.row c3 (c' := 5) (by decide) (by decide) hw3
  have m34 : Moved (fun c => c = 5 ∨ c = 19) F2 w2 (paint (paint F2 w2 w3 5) w3 w4 19) w4 := (m3.mono (fun c hc => .inl hc)).trans (m4.mono (fun c hc => .inr hc))
  have hl5 : ((t.mid g k).L.set k (s1, false)).length ≤ 5 := by rw [List.length_set, TSt.mid_len]; exact h5
  have ew : (t.mid g (k + 1)).way = (t.mid g k).way ++ T := by rw [TSt.mid_way t g k hk, hT]
  have el : (t.mid g (k + 1)).L = (t.mid g k).L.set k (s1, false) := by rw [TSt.mid_set t g k hk, hS]
  have en : t.midN g (k + 1) = t.midN g k ++ N := by rw [TSt.midN_snoc t g k hk, hN]
  have emid : t.mid g (k + 1) = ⟨(t.mid g k).L.set k (s1, false), (t.mid g k).way ++ T⟩ := by rw [← ew, ← el]
  obtain ⟨q1, q2, q3⟩ := h.twn.setWay (way' := (t.mid g k).way ++ T) h.col c4 m34 ⟨by rw [List.length_append, cellsTx_app]; exact hw4.1, hw4.2⟩ hl5
  have hok : ∀ x, ov'.ownBlock = some x → (paint (paint F2 w2 w3 5) w3 w4 19) x = 19 := fun x e => by
    have hl := (ho4.lt x e).2
    rcases hb4 with e2 | e2
    · rw [e2] at e
      exact paint_keep (hoF x e)
    · rw [e2] at e
      injection e with e
      exact paint_new (by omega) hl
  have htb19 : (paint (paint F2 w2 w3 5) w3 w4 19) tb = 1 := q3.blk.2
  refine ⟨_, wv', q1, h.mov.trans (q2.mono (fun c hc => by unfold ProgC; omega)), by rw [emid]; exact q3, ?_, hok⟩
  rw [en, List.length_append, cells3_app]
  have kk : Kept (fun x => x = tb) w4 (w4.setCell ⟨tb, 3, none⟩ wv') := (Kept.refl (fun x => x = tb) _).setCell (a := ⟨tb, 3, none⟩) (.inl rfl) _
  exact kk.own ho4 (fun x e hx => by
    have := hok x e
    have hx : x = tb := hx
    rw [hx, htb19] at this
    cases this)
end
end Go.Proofs.YthimchhnhhchkaaGreatDoor

namespace Go.Proofs.YthimchhnhhchkaaGreatDoor
open Go.RowKit Go.Lib
set_option linter.unusedSimpArgs false
set_option linter.unusedVariables false

theorem quiet_eqT {P : Program} {f : FuncId} {args : Array Value} {w : World} {n : Nat} {v : Value}
    (h : Calls P f args (w.drewN n) fun e w' => e = .returned v ∧ w.drewN n = w') : Calls P f args (w.drewN n) fun e w'' => e = .returned v ∧ ∃ m, w'' = w.drewN m :=
  h.mono fun _ _ ⟨he, hm⟩ => ⟨he, n, hm.symm⟩
theorem tickE_bad {t : TSt} {g : Int} (g1 : 1 ≤ g) (g2 : g ≤ 1000) {p : NdB} (hp : p ∈ t.L) (hb : badB g p = true) : t.tickE g = 2 := by
  unfold TSt.tickE
  rw [if_neg (by omega), if_pos (List.any_eq_true.2 ⟨p, hp, hb⟩)]
theorem any_of {f : NdB → Bool} {l : List NdB} (h : ∀ p ∈ l, f p = false) : ¬ l.any f = true := fun e => by
  obtain ⟨p, hp, hf⟩ := List.any_eq_true.1 e
  rw [h p hp] at hf
  cases hf
theorem tickE_full {t : TSt} {g : Int} (g1 : 1 ≤ g) (g2 : g ≤ 1000) (hp : ∀ p ∈ t.L, badB g p = false) (hf : 1000 < t.way.length + manyOf g t.L) : t.tickE g = 10 := by
  unfold TSt.tickE
  rw [if_neg (by omega), if_neg (any_of hp), if_pos hf]
theorem tickE_ok {t : TSt} {g : Int} (g1 : 1 ≤ g) (g2 : g ≤ 1000) (hp : ∀ p ∈ t.L, badB g p = false) (hf : ¬ 1000 < t.way.length + manyOf g t.L) : t.tickE g = 0 := by
  unfold TSt.tickE
  rw [if_neg (by omega), if_neg (any_of hp), if_neg hf]
theorem tickE_node {s : NSt} {g : Int} (g1 : 1 ≤ g) (g2 : g ≤ 1000) : s.tickE g = if 1073741824 < s.now + g ∨ 64 ≤ g / cfe s.c then 2 else 0 := by
  unfold NSt.tickE
  rw [if_neg (by omega)]
section
variable {w W W' wr w2 : World} {F : Nat → Nat} {tb ca : Nat} {Aa : Option Addr} {nv dv wv ov : Value} {bs : List Nat} {t : TSt} {g : Int} {k : Nat}
theorem TownIs.err {er : Int} (h : TownIs F W tb Aa ca nv dv wv bs t) (hC : Col w W F) (h5 : t.L.length ≤ 5) (hb : Below W.heap.size W W') (he : t.tickE g = er) (hz : er ≠ 0) : TwN w F W tb (t.ticked g) (t.tickN g) (t.tickE g) (.returned (.tuple #[.slice none 0 0, .int .i64 er])) W' := by
  unfold TSt.ticked TSt.tickN
  rw [he, if_neg hz, if_neg hz]
  exact ⟨none, 0, rfl, World.ownsRow_nil _ _ _ _, F, hC.below hb, Moved.below hC hb, _, _, _, _, _, _, h.below hC hb h5⟩
theorem TkRel.fin (h : TkRel w F W tb Aa ca nv dv bs t g t.L.length ov wr) (he : t.tickE g = 0) : TwN w F W tb (t.ticked g) (t.tickN g) (t.tickE g) (.returned (.tuple #[ov, .int .i64 0])) wr := by
  obtain ⟨F1, wv, h⟩ := h
  have e1 : t.mid g t.L.length = t.ticked g := by
    rw [TSt.mid_all t g _ (Nat.le_refl _)]
    unfold TSt.ticked
    rw [if_pos he]
  have e2 : t.midN g t.L.length = t.tickN g := by
    unfold TSt.midN TSt.tickN
    rw [if_pos he, List.take_length]
  have ho := h.out
  have ht := h.twn
  rw [e2] at ho
  rw [e1] at ht
  rw [he]
  obtain ⟨A, c, rfl⟩ := ownsRow_len ho
  exact ⟨A, c, rfl, ho, F1, h.col, h.mov, _, _, _, _, _, _, ht⟩
theorem TkRel.start (h : TownIs F W tb Aa ca nv dv wv bs t) (hC : Col w W F) (h5 : t.L.length ≤ 5) (hb : Below W.heap.size W W') : TkRel w F W tb Aa ca nv dv bs t g 0 (.slice none 0 0) W' :=
  ⟨F, wv, hC.below hb, Moved.below hC hb, by rw [TSt.mid_zero]; exact h.below hC hb h5, by unfold TSt.midN; exact World.ownsRow_nil _ _ _ _, fun x hx => by cases hx⟩
/-- the cells of a town -/
theorem TownIs.cells (h : TownIs F W tb Aa ca nv dv wv bs t) : tb < W.heap.size ∧ W.cell? ⟨tb, 0, none⟩ = some (.slice Aa t.L.length ca) ∧ W.cell? ⟨tb, 1, none⟩ = some nv ∧ W.cell? ⟨tb, 2, none⟩ = some dv ∧ W.cell? ⟨tb, 3, none⟩ = some wv :=
  ⟨h.blk.1.lt, h.blk.1.cell 0, h.blk.1.cell 1, h.blk.1.cell 2, h.blk.1.cell 3⟩
/-- how often a node beats, as its town reads it -/
theorem TownIs.every (h : TownIs F W tb Aa ca nv dv wv bs t) (hk : k < t.L.length) : ∃ ba off, Aa = some ⟨ba, off, none⟩ ∧ ba < W.heap.size ∧ W.cell? ⟨ba, off + k * 5 + 2, none⟩ = some (.int .i64 (cfe (t.L[k]'hk).1.c)) := by
  obtain ⟨ba, off, e, hb, hc⟩ := h.all.1.addrN (by omega) (by decide)
  refine ⟨ba, off, e, hb, ?_⟩
  have := hc (k * 5 + 2) (.int .i64 (cfe (t.L[k]'hk).1.c)) (by
    rw [cellsCf_at _ k 2 (by simpa using hk) (by decide)]
    simp [ccells])
  rw [← Nat.add_assoc] at this
  exact this
theorem manyOf_le : ∀ (l : List NdB), (∀ p ∈ l, NGood p.1 ∧ badB g p = false) → manyOf g l ≤ 100 * l.length
  | [], _ => by simp [manyOf]
  | p :: l, h => by
    have h1 := manyOf_le l (fun q hq => h q (List.mem_cons_of_mem _ hq))
    obtain ⟨h2, h3⟩ := h p (List.mem_cons_self ..)
    have h4 := tkM_le h2 g
    unfold badB at h3
    simp only [manyOf, List.length_cons]
    cases hd : p.2 with
    | true => simp; omega
    | false =>
      have he : p.1.tickE g = 0 := by simpa [hd] using h3
      unfold NSt.tkM at h4
      rw [if_pos he] at h4
      simp
      omega
theorem manyOf_take (hg : TGood t) (hp : ∀ p ∈ t.L.take k, badB g p = false) : manyOf g (t.L.take k) ≤ 500 := by
  have h1 := manyOf_le (g := g) (t.L.take k) (fun p h => ⟨hg.good p (List.mem_of_mem_take h), hp p h⟩)
  have h2 : (t.L.take k).length ≤ 5 := Nat.le_trans (by rw [List.length_take]; exact Nat.min_le_right _ _) hg.five
  omega
theorem mid_way_len : (t.mid g k).way.length = t.way.length + manyOf g (t.L.take k) := by
  show (t.way ++ (t.L.take k).flatMap (beats1 g)).length = _
  rw [List.length_append, beats1_len]
theorem midN_le (hg : TGood t) (hp : ∀ p ∈ t.L, badB g p = false) : (t.midN g k).length ≤ 40 := by
  have h1 := flat_le (f := notes1b g) (t.L.take k) (fun p h => notes1b_le (hg.good p (List.mem_of_mem_take h)) (hp p (List.mem_of_mem_take h)))
  have h2 : (t.L.take k).length ≤ 5 := Nat.le_trans (by rw [List.length_take]; exact Nat.min_le_right _ _) hg.five
  unfold TSt.midN
  omega
theorem TkMid.three {F2 : Nat → Nat} {T : List ByteArray} {N : List TriD} {tv xv : Value} {L' : List NdB} {w3 : World} (h : TkMid w F W tb Aa ca nv dv bs t g k F2 wv ov tv xv T N w2 L') (hg3 : w2.grownBy w3 wv.ownBlock) :
    w3.ownsRow W.heap.size 146 3 ov (t.midN g k).length (cells3 (t.midN g k)) ∧ w3.ownsRow 0 146 3 xv N.length (cells3 N) ∧ Blk w3 tb 138 #[.slice Aa L'.length ca, nv, dv, wv] ∧ W.heap.size ≤ w3.heap.size := by
  have k3 : Kept (fun x => F2 x = 5) w2 w3 := (Kept.refl _ _).grown hg3 (fun x e => .inl (h.twn.way.2 x e))
  exact ⟨k3.own h.out (fun x e hx => by have := h.oc x e; omega), k3.own h.nts (fun x e hx => by have := h.nc x e; omega), k3.blk h.twn.blk.1 (fun hx => by have := h.twn.blk.2; omega), Nat.le_trans h.mov.kept.size hg3.size⟩
theorem TkMid.four {F2 : Nat → Nat} {T : List ByteArray} {N : List TriD} {tv xv : Value} {L' : List NdB} {w3 w4 : World} (h : TkMid w F W tb Aa ca nv dv bs t g k F2 wv ov tv xv T N w2 L') (hg3 : w2.grownBy w3 wv.ownBlock) (hg4 : w3.grownBy w4 ov.ownBlock) :
    Blk w4 tb 138 #[.slice Aa L'.length ca, nv, dv, wv] := by
  obtain ⟨h1, _, h2, _⟩ := h.three hg3
  have k4 : Kept (fun x => ov.ownBlock = some x) w3 w4 := (Kept.refl _ _).grown hg4 (fun x e => .inl e)
  exact k4.blk h2 (fun hx => by have := h.oc tb hx; have := h.twn.blk.2; omega)
set_option maxHeartbeats 400000 in
set_option maxRecDepth 100000 in
theorem ttick_arg (h : TownIs F W tb Aa ca nv dv wv bs t) (g : Int) (hg : g < 1 ∨ 1000 < g) :
    Calls Tryz.prog 76 #[.pointer (some ⟨tb, 0, none⟩), .int .i64 g] W fun e W' => e = .returned (.tuple #[.slice none 0 0, .int .i64 1]) ∧ W = W' := by
  clear h
  rcases hg with hg | hg
  · go_enter Tryz.func76, Tryz.ntmps76
    go_wp2
    go_ret2
    exact ⟨rfl, rfl⟩
  · have h1 : 1 ≤ g := by omega
    go_enter Tryz.func76, Tryz.ntmps76
    go_wp2
    go_ret2
    exact ⟨rfl, rfl⟩
set_option maxHeartbeats 4000000 in
set_option maxRecDepth 100000 in
theorem ttick_go (h : TownIs F W tb Aa ca nv dv wv bs t) (hC : Col w W F) (hg : TGood t) (g : Int) (g1 : 1 ≤ g) (g2 : g ≤ 1000) :
    Calls Tryz.prog 76 #[.pointer (some ⟨tb, 0, none⟩), .int .i64 g] W (TwN w F W tb (t.ticked g) (t.tickN g) (t.tickE g)) := by
  obtain ⟨in0, hin, hin0, hin1, hin2⟩ := info_parts note_info
  obtain ⟨is0, his, his0, his1, his2⟩ := info_parts str_info
  have h5 := hg.five
  have hw9 := hg.way
  have H := Lib.hid h
  have HC := Lib.hid hC
  have HG := Lib.hid hg
  obtain ⟨htb, b0, b1, b2, b3⟩ := h.cells
  obtain ⟨An, cn, Ad, cd, rfl, rfl⟩ := h.lens
  obtain ⟨Aw, cw, rfl⟩ := ownsRow_len h.way.1
  have QE := Lib.hid (fun er W' (hb : Below W.heap.size W W') (he : t.tickE g = er) (hz : er ≠ 0) => h.err (w := w) hC h5 hb he hz)
  have QS := Lib.hid (fun W' (hb : Below W.heap.size W W') => TkRel.start (w := w) (g := g) h hC h5 hb)
  have QF := Lib.hid (fun ov wr he (hk : TkRel w F W tb Aa ca (.slice An t.L.length cn) (.slice Ad t.L.length cd) bs t g t.L.length ov wr) => hk.fin he)
  generalize hQ : TwN w F W tb (t.ticked g) (t.tickN g) (t.tickE g) = Q at *
  clear hQ h hC hg
  obtain ⟨mf, hmf⟩ : ∃ mf : Nat → Nat, mf = fun k => t.way.length + manyOf g (t.L.take k) := ⟨_, rfl⟩
  have HMF := Lib.hid (fun k => congrFun hmf k)
  have hm0 : t.way.length = mf 0 := by rw [hmf]; simp [manyOf]
  clear hmf
  have hd1 : decide (g < 1) = false := by rw [decide_eq_false]; omega
  have hd2 : decide (1000 < g) = false := by rw [decide_eq_false]; omega
  have hd3 : decide (1 ≤ g) = true := by rw [decide_eq_true_iff]; omega
  have hn5 : (t.L.length : Int) ≤ 5 := by omega
  go_enter Tryz.func76, Tryz.ntmps76
  go_wp2_with fail
  go_loopw [6, 32] (fun mv iv wr => ∃ k : Nat, k ≤ t.L.length ∧ iv = .int .i64 (k : Int) ∧ mv = .int .i64 (mf k : Int) ∧ (∀ p ∈ t.L.take k, badB g p = false) ∧ Below W.heap.size W wr) (fun _ iv _ => t.L.length - (RowKit.intOf iv).toNat)
  case atStart => exact ⟨0, Nat.zero_le _, rfl, rfl, by simp, Below.refl _ _⟩
  case round =>
    obtain ⟨k, hk, rfl, rfl, hgood, hbel⟩ := hrel
    obtain ⟨wo, rfl⟩ : ∃ wo, wo = wr := ⟨_, rfl⟩
    have GD := Lib.hid hgood
    have BW := Lib.hid hbel
    clear hgood hbel
    have HO := Lib.hid (H.out.below HC.out BW.out h5)
    clear b0 b1 b2 b3
    obtain ⟨htbo, b0, b1, b2, b3⟩ := HO.out.cells
    have KEEP := Lib.hid (show ∀ W', Below wo.heap.size wo W' → (∀ hk : k < t.L.length, badB g (t.L[k]'hk) = false) → k < t.L.length → ∃ k' : Nat, k' ≤ t.L.length ∧ Value.int .i64 ((k : Int) + 1) = .int .i64 (k' : Int) ∧ Value.int .i64 (mf (k + 1) : Int) = .int .i64 (mf k' : Int) ∧ (∀ p ∈ t.L.take k', badB g p = false) ∧ Below W.heap.size W W' from fun W' hb hbad hlt =>
      ⟨k + 1, by omega, by simp, rfl, fun p hp => by
        rw [List.take_succ_eq_append_getElem hlt] at hp
        rcases List.mem_append.1 hp with hp | hp
        · exact GD.out p hp
        · rw [List.mem_singleton.1 hp]; exact hbad hlt, Below.thru5 BW.out hb⟩)
    by_cases hlt : k < t.L.length
    · have hb : k < bs.length := by rw [H.out.len]; exact hlt
      have HMS := Lib.hid (show mf (k + 1) = mf k + (if (t.L[k]'hlt).2 = true then 0 else (t.L[k]'hlt).1.many g) by rw [HMF.out, HMF.out, manyOf_snoc g t.L k hlt]; omega)
      obtain ⟨gn, cn', gd, cd', e1, e2, hn1, hn2, hd1', hd2', hgn, hgd, -, c1, c2, c3⟩ := HO.out.at_ hlt
      simp only [Value.slice.injEq] at e1 e2
      obtain ⟨rfl, -, rfl⟩ := e1
      obtain ⟨rfl, -, rfl⟩ := e2
      obtain ⟨ba, off, rfl, hba, cE⟩ := HO.out.every hlt
      unfold maxLen at hn2 hd2'
      have ik0 : (0 : Int) ≤ (k : Int) := by omega
      have ik1 : (k : Int) < (t.L.length : Int) := by omega
      have HNG := Lib.hid (HG.out.good _ (List.getElem_mem hlt))
      have HME := Lib.hid (List.getElem_mem hlt)
      have HNW := Lib.hid (show ∀ W', Below wo.heap.size wo W' → Calls Tryz.prog 112 #[.pointer (some ⟨bs[k]'hb, 0, none⟩)] W' fun e w' => e = .returned (.int .i64 (t.L[k]'hlt).1.now) ∧ W' = w' from fun W' hb' => by
        obtain ⟨_, _, _, _, _, hn⟩ := (HO.out.below (HC.out.below BW.out) hb' h5).node k hb hlt
        exact now_any hn)
      have KE2 := Lib.hid (fun W' hb' hbad => KEEP.out W' hb' hbad hlt)
      clear KEEP
      generalize bs[k]'hb = b at *
      cases hdd : (t.L[k]'hlt).2 with
      | true =>
        rw [hdd] at c2
        have hms := HMS.out
        rw [hdd] at hms
        simp only [if_true, Nat.add_zero] at hms
        have K3 := Lib.hid (KE2.out wo (Below.refl _ _) (fun _ => by unfold badB; rw [hdd]; rfl))
        rw [hms] at K3
        clear hdd hms HMS KE2
        go_wp2
        exact ⟨K3.out, by simp [RowKit.intOf]; omega⟩
      | false =>
        rw [hdd] at c2
        have hms := HMS.out
        rw [hdd, if_neg (by decide)] at hms
        have hgd0 := HNG.out.now0
        have hgd1 := HNG.out.now1
        have hcf := HNG.out.cfg
        unfold CfgIn at hcf
        obtain ⟨-, -, he1, he2, -⟩ := hcf
        have HB := Lib.hid (show badB g (t.L[k]'hlt) = decide (1073741824 < (t.L[k]'hlt).1.now + g ∨ 64 ≤ g / cfe (t.L[k]'hlt).1.c) from by
          unfold badB
          rw [hdd, tickE_node g1 g2]
          by_cases q : 1073741824 < (t.L[k]'hlt).1.now + g ∨ 64 ≤ g / cfe (t.L[k]'hlt).1.c
          · rw [if_pos q]; simp [q]
          · rw [if_neg q]; simp [q])
        have QB := Lib.hid (fun (hb : badB g (t.L[k]'hlt) = true) => QE.out 2 wo BW.out (tickE_bad g1 g2 HME.out hb) (by decide))
        unfold NSt.many at hms
        have HMS2 := Lib.hid hms
        clear hms HMS hdd
        generalize (t.L[k]'hlt).1.now = nw at *
        generalize cfe (t.L[k]'hlt).1.c = ev at *
        by_cases q1 : 1073741824 < nw + g
        · have Q1 := Lib.hid (QB.out (by rw [HB.out, decide_eq_true_iff]; exact .inl q1))
          go_wp2_with fail
          refine (HNW.out _ (Below.refl _ _)).mono ?_
          rintro e' w' ⟨rfl, rfl⟩
          go_wp2
          exact Q1.out
        by_cases q2 : 64 ≤ g / ev
        · have Q1 := Lib.hid (QB.out (by rw [HB.out, decide_eq_true_iff]; exact .inr q2))
          have q1' : nw + g ≤ 1073741824 := by omega
          clear q1
          go_wp2_with fail
          refine (HNW.out _ (Below.refl _ _)).mono ?_
          rintro e' w' ⟨rfl, rfl⟩
          go_wp2
          exact Q1.out
        have q1' : nw + g ≤ 1073741824 := by omega
        have q2' : g / ev < 64 := by omega
        have hbd : badB g (t.L[k]'hlt) = false := by rw [HB.out, decide_eq_false]; omega
        have HBD := Lib.hid hbd
        clear q1 q2 hbd
        go_wp2_with fail
        refine (HNW.out _ (Below.refl _ _)).mono ?_
        rintro e' w' ⟨rfl, rfl⟩
        go_wp2_with fail
        have hqa0 : 0 ≤ nw / ev := Int.ediv_nonneg hgd0 (by omega)
        have hqa1 : nw / ev ≤ (nw + g) / ev := Int.ediv_le_ediv (by omega) (by omega)
        have hqa2 : (nw + g) / ev ≤ nw + g := Int.ediv_le_self _ (by omega)
        have hws1 : IntKind.i64.wrap (nw + g) = nw + g := by rw [IntKind.wrap_i64]; omega
        have htd1 : (nw + g).tdiv ev = (nw + g) / ev := Int.tdiv_eq_ediv_of_nonneg (by omega)
        have htd2 : nw.tdiv ev = nw / ev := Int.tdiv_eq_ediv_of_nonneg hgd0
        have hmk : mf k ≤ 1500 := by rw [HMF.out]; have := manyOf_take HG.out GD.out; omega
        have hmk1 : mf (k + 1) ≤ 1500 := by
          rw [HMF.out]
          have := manyOf_take (k := k + 1) HG.out (fun p hp => by
            rw [List.take_succ_eq_append_getElem hlt] at hp
            rcases List.mem_append.1 hp with hp | hp
            · exact GD.out p hp
            · rw [List.mem_singleton.1 hp]; exact HBD.out)
          omega
        generalize (nw + g) / ev = qa at *
        generalize nw / ev = qb at *
        have hms := HMS2.out
        have hws2 : IntKind.i64.wrap qa = qa := by rw [IntKind.wrap_i64]; omega
        have hws3 : IntKind.i64.wrap qb = qb := by rw [IntKind.wrap_i64]; omega
        have hws4 : IntKind.i64.wrap (qa - qb) = qa - qb := by rw [IntKind.wrap_i64]; omega
        have hws5 : IntKind.i64.wrap ((mf k : Int) + (qa - qb)) = (mf (k + 1) : Int) := by rw [IntKind.wrap_i64]; omega
        clear hms hqa0 hqa1 hqa2 hmk hmk1
        go_quiet ((go_at_call 112; exact quiet_eqT (HNW.out _ (below_drewN (Below.refl _ _) _))))
        have K3 := Lib.hid (KE2.out (wo.drewN nq) (below_drewN (Below.refl _ _) nq) (fun _ => HBD.out))
        go_wp2
        exact ⟨K3.out, by simp [RowKit.intOf]; omega⟩
    · obtain rfl : k = t.L.length := by omega
      have hall : ∀ p ∈ t.L, badB g p = false := fun p hp => GD.out p (by rw [List.take_length]; exact hp)
      have hmn := HMF.out t.L.length
      rw [List.take_length] at hmn
      by_cases hf : 1000 < mf t.L.length
      · have Q1 := Lib.hid (QE.out 10 wo BW.out (tickE_full g1 g2 hall (by rw [← hmn]; exact hf)) (by decide))
        clear hall hmn
        have hf2 : (1000 : Int) < (mf t.L.length : Int) := by omega
        generalize mf t.L.length = mm at *
        go_wp2
        exact Q1.out
      · have HE := Lib.hid (tickE_ok g1 g2 hall (by rw [← hmn]; exact hf))
        have T0 := Lib.hid (QS.out wo BW.out)
        have hf2 : (mf t.L.length : Int) ≤ 1000 := by omega
        have HAL := Lib.hid hall
        clear hall hmn
        generalize mf t.L.length = mm at *
        go_wp2_with fail
        go_loopw [10, 84] (fun ov iv wr => ∃ (k : Nat) (o : Value), k ≤ t.L.length ∧ iv = .int .i64 (k : Int) ∧ o = ov ∧ TkRel w F W tb Aa ca (.slice An t.L.length cn) (.slice Ad t.L.length cd) bs t g k o wr) (fun _ iv _ => t.L.length - (RowKit.intOf iv).toNat)
        case atStart => exact ⟨0, _, Nat.zero_le _, rfl, rfl, T0.out⟩
        case round =>
          obtain ⟨k, ov, hk, rfl, rfl, htk⟩ := hrel
          obtain ⟨wp, rfl⟩ : ∃ wp, wp = wr := ⟨_, rfl⟩
          have TR := Lib.hid htk
          obtain ⟨F1, wv1, hts⟩ := htk
          have TS := Lib.hid hts
          obtain ⟨Aw1, cw1, rfl⟩ := ownsRow_len TS.out.twn.way.1
          clear hts b0 b1 b2 b3 T0
          obtain ⟨htbp, b0, b1, b2, b3⟩ := TS.out.twn.cells
          by_cases hlt : k < t.L.length
          · have hml : k < (t.mid g k).L.length := by rw [TSt.mid_len]; exact hlt
            have hb : k < bs.length := by rw [H.out.len]; exact hlt
            have hat := TSt.mid_at t g k k hlt (Nat.le_refl _)
            obtain ⟨gn, cn', gd, cd', e1, e2, hn1, hn2, hd1', hd2', hgn, hgd, -, c1, c2, c3⟩ := TS.out.twn.at_ hml
            rw [TSt.mid_len] at e1 e2 hn1 hd1'
            rw [hat] at c2
            simp only [Value.slice.injEq] at e1 e2
            obtain ⟨rfl, -, rfl⟩ := e1
            obtain ⟨rfl, -, rfl⟩ := e2
            unfold maxLen at hn2 hd2'
            have ik0 : (0 : Int) ≤ (k : Int) := by omega
            have ik1 : (k : Int) < (t.L.length : Int) := by omega
            have HNG := Lib.hid (HG.out.good _ (List.getElem_mem hlt))
            have HBF := Lib.hid (HAL.out _ (List.getElem_mem hlt))
            have hnode := TS.out.twn.node k hb hml
            rw [hat] at hnode
            have HND := Lib.hid hnode
            clear hnode hat
            cases hdd : (t.L[k]'hlt).2 with
            | true =>
              rw [hdd] at c2
              have K3 := Lib.hid (TR.out.skip hlt hdd)
              clear hdd
              go_wp2
              exact ⟨⟨k + 1, _, by omega, by simp, rfl, K3.out⟩, by simp [RowKit.intOf]; omega⟩
            | false =>
              rw [hdd] at c2
              have HTE := Lib.hid (show (t.L[k]'hlt).1.tickE g = 0 by have := HBF.out; unfold badB at this; simpa [hdd] using this)
              have HDD := Lib.hid hdd
              clear hdd
              have HTK := Lib.hid (show Calls Tryz.prog 113 #[.pointer (some ⟨bs[k]'hb, 0, none⟩), .int .i64 g] wp (fun e w' => ∃ A1 c1 A2 c2, e = .returned (.tuple #[.slice A1 ((t.L[k]'hlt).1.many g) c1, .slice A2 ((t.L[k]'hlt).1.ticked g).notes.length c2, .int .i64 0]) ∧ w'.ownsRow wp.heap.size 9 1 (.slice A1 ((t.L[k]'hlt).1.many g) c1) ((t.L[k]'hlt).1.many g) (cellsTx (beatsOf (t.L[k]'hlt).1.c (t.L[k]'hlt).1.seq ((t.L[k]'hlt).1.many g))) ∧
                  TkMid w F W tb Aa ca (.slice (some ⟨gn, 0, none⟩) t.L.length cn) (.slice (some ⟨gd, 0, none⟩) t.L.length cd) bs t g k (paint F1 wp w' (10 + k)) (.slice Aw1 (t.mid g k).way.length cw1) ov (.slice A1 ((t.L[k]'hlt).1.many g) c1) (.slice A2 ((t.L[k]'hlt).1.ticked g).notes.length c2) (beatsOf (t.L[k]'hlt).1.c (t.L[k]'hlt).1.seq ((t.L[k]'hlt).1.many g)) ((t.L[k]'hlt).1.ticked g).notes w' ((t.mid g k).L.set k (((t.L[k]'hlt).1.ticked g).tell, false))) from by
                obtain ⟨_, _, _, _, _, hn⟩ := HND.out
                refine (tick_ok hn HNG.out g HTE.out).mono fun e w' hh => ?_
                obtain ⟨A1, c1, A2, c2, k1, k2, k3, k4, k5⟩ := hh
                exact ⟨A1, c1, A2, c2, k1, k2, TS.out.node h5 hlt HDD.out (by rw [beatsOf_len]; exact k2) k3 (HoldIs.at_ (HoldIs.grow k4)) k5 rfl⟩)
              have HMY := Lib.hid (show (t.L[k]'hlt).1.many g ≤ 100 by have := tkM_le HNG.out g; unfold NSt.tkM at this; rw [if_pos HTE.out] at this; exact this)
              have HNL := Lib.hid (show ((t.L[k]'hlt).1.ticked g).notes.length ≤ 8 from notes_le8 (HNG.out.ticked HTE.out))
              have HWL := Lib.hid (show (t.mid g k).way.length ≤ 1500 by rw [mid_way_len]; have := manyOf_take (k := k) HG.out (fun p hp => HAL.out p (List.mem_of_mem_take hp)); omega)
              have HML := Lib.hid (midN_le (k := k) HG.out HAL.out)
              have HE1 := Lib.hid (show beatsOf (t.L[k]'hlt).1.c (t.L[k]'hlt).1.seq ((t.L[k]'hlt).1.many g) = beats1 g (t.L[k]'hlt) by unfold beats1; rw [if_neg (by rw [HDD.out]; decide)])
              have HE2 := Lib.hid (show ((t.L[k]'hlt).1.ticked g).notes = notes1b g (t.L[k]'hlt) by unfold notes1b; rw [if_neg (by rw [HDD.out]; decide)])
              have HE3 := Lib.hid (show (((t.L[k]'hlt).1.ticked g).tell, false) = tick1 g (t.L[k]'hlt) by unfold tick1; rw [if_neg (by rw [HDD.out]; decide)])
              have HE4 := Lib.hid (beatsOf_len (t.L[k]'hlt).1.c (t.L[k]'hlt).1.seq ((t.L[k]'hlt).1.many g))
              clear HND HTE HBF TR
              generalize bs[k]'hb = b at *
              generalize beatsOf (t.L[k]'hlt).1.c (t.L[k]'hlt).1.seq ((t.L[k]'hlt).1.many g) = TT at *
              generalize ((t.L[k]'hlt).1.ticked g).notes = NN at *
              generalize ((t.L[k]'hlt).1.ticked g).tell = s1 at *
              generalize (t.L[k]'hlt).1.many g = mm1 at *
              go_wp2_with fail
              refine HTK.out.mono ?_
              rintro e' w2 ⟨A1, d1, A2, d2, rfl, hk2, hmid⟩
              have TX := Lib.hid (Reads.of_own hk2)
              have MD := Lib.hid hmid
              obtain ⟨htb2, q0, q1, q2, q3⟩ := hmid.twn.cells
              clear hk2 hmid c1 c2 c3 b0 b1 b2 b3
              go_wp2_with (at_builtin; refine wpList_append_any _ rfl _ _ 33 rfl 0 9 is0 (.string ByteArray.empty) 1 16 Tryz.underlying33 his his0 his1 his2 rfl (by decide) _ (t.mid g k).way.length (cellsTx (t.mid g k).way) rfl MD.out.twn.way.1 w2.heap.size A1 mm1 d1 (cellsTx TT) rfl TX.out (oneCell_T TT) ?c1 ?c2 (Nat.zero_le _) ?_)
              case c1 => have := HWL.out; have := HMY.out; unfold maxLen; omega
              case c2 => have := HWL.out; have := HMY.out; omega
              intro wv3 w3 ho3 hg3 hb3
              obtain ⟨Aw3, cw3, rfl⟩ := ownsRow_len ho3
              have O3 := Lib.hid ho3
              have G3 := Lib.hid hg3
              have B3 := Lib.hid hb3
              have T3 := Lib.hid (MD.out.three hg3)
              have NX := Lib.hid (Reads.of_own T3.out.2.1)
              clear ho3 hg3 hb3 q0 q1 q2 q3
              go_wp2_with (at_builtin; refine wpList_append_any _ rfl _ _ 105 rfl W.heap.size 146 in0 (.agg #[.string ByteArray.empty, .int .i64 0, .bool false]) 3 32 Tryz.underlying105 hin hin0 hin1 hin2 rfl (by decide) _ (t.midN g k).length (cells3 (t.midN g k)) rfl T3.out.1 w3.heap.size A2 NN.length d2 (cells3 NN) rfl NX.out (oneCell_3 NN) ?c3 ?c4 T3.out.2.2.2 ?_)
              case c3 => have := HML.out; have := HNL.out; unfold maxLen; omega
              case c4 => have := HML.out; have := HNL.out; omega
              intro ov4 w4 ho4 hg4 hb4
              have FIN := Lib.hid (MD.out.app h5 hlt (by rw [HE4.out]; exact O3.out) G3.out B3.out ho4 hg4 hb4 HE1.out HE2.out HE3.out)
              have hb4' := MD.out.four G3.out hg4
              have htb4 := hb4'.lt
              have z3 := hb4'.cell 3
              have zf := hb4'.frozen 3
              simp at z3
              clear ho4 hg4 hb4 hb4'
              go_wp2
              exact ⟨⟨k + 1, _, by omega, by simp, rfl, FIN.out⟩, by simp [RowKit.intOf]; omega⟩
          · obtain rfl : k = t.L.length := by omega
            have Q1 := Lib.hid (QF.out ov wp HE.out TR.out)
            go_wp2
            exact Q1.out
theorem ttick_any (h : TownIs F W tb Aa ca nv dv wv bs t) (hC : Col w W F) (hg : TGood t) (g : Int) :
    Calls Tryz.prog 76 #[.pointer (some ⟨tb, 0, none⟩), .int .i64 g] W (TwN w F W tb (t.ticked g) (t.tickN g) (t.tickE g)) := by
  by_cases ha : g < 1 ∨ 1000 < g
  · have he : t.tickE g = 1 := by unfold TSt.tickE; rw [if_pos ha]
    exact (ttick_arg h g ha).mono fun e W' ⟨k1, k2⟩ => by
      subst k1 k2
      exact h.err hC hg.five (Below.refl _ _) he (by decide)
  · exact ttick_go h hC hg g (by omega) (by omega)
end
end Go.Proofs.YthimchhnhhchkaaGreatDoor
