/- hwref: Leave, walked. (with what it needs) -/
import Derived.Test.YtcikljcjhijjdaaGreatM49
import Derived.Test.YtcikljcjhijjdaaGreatM44
import Derived.Test.YtcikljcjhijjdaaGreatM47
import Derived.Test.YtcikljcjhijjdaaGreatM48
import Derived.Test.YtcikljcjhijjdaaGreatM33
namespace Go.Proofs.YtcikljcjhijjdaaGreat
open Go.RowKit Go.Lib
set_option linter.unusedSimpArgs false
set_option linter.unusedVariables false

theorem rpdrop_ok (A : Option Addr) (c B n : Nat) (l : List PeerT) (D : List PeerD) (hm : l.map Prod.fst = D) (ho : PsOk D) (hnc : n ≤ c ∧ c ≤ maxLen) (id : ByteArray) (k : Nat) (hx : idxOf D id = some k) (w : World) (hp : Peers w B A n l) (hB : B ≤ w.heap.size) :
    Calls Tryz.prog 51 #[.slice A n c, .string id] w (AddIs A l (cutD D k) (n - 1) w) := by
  obtain ⟨hk, h1, -⟩ := idx_some hx
  have he : peersE l = 0 := by rw [peersE_map, hm]; exact ho.zero
  obtain ⟨h6, -, hasc⟩ := peersE_zero he
  subst hm
  have hkl : k < l.length := by simpa using hk
  exact rdrop_ok A c B n l (Nat.le_trans hnc.1 hnc.2) id w hp hB (by rw [← hp.len]; exact h6) hnc.1 hnc.2 hasc k hkl (by simpa using h1)
theorem filter_snoc_no {S : List TriD} {id : ByteArray} {k : Nat} (hk : k < S.length) (he : eqB (S[k]'hk).1 id = true) : (S.take (k + 1)).filter (notOf id) = (S.take k).filter (notOf id) := take_filter_skip hk (by unfold notOf; rw [he]; rfl)
theorem filter_snoc_yes {S : List TriD} {id : ByteArray} {k : Nat} (hk : k < S.length) (he : eqB (S[k]'hk).1 id = false) : (S.take (k + 1)).filter (notOf id) = (S.take k).filter (notOf id) ++ [S[k]'hk] := take_filter_keep hk (by unfold notOf; rw [he]; rfl)
/-- while the subs that stay are collected -/
def FRel (w4 : World) (S : List TriD) (id : ByteArray) (k : Nat) (v : Value) (wr : World) : Prop :=
  wr.ownsRow w4.heap.size 58 3 v ((S.take k).filter (notOf id)).length (cells3 ((S.take k).filter (notOf id))) ∧ Below w4.heap.size w4 wr
theorem FRel.skip {w4 wr w1 : World} {S : List TriD} {id : ByteArray} {k : Nat} {v : Value} (h : FRel w4 S id k v wr) (hb : Below wr.heap.size wr w1) (hk : k < S.length) (he : eqB (S[k]'hk).1 id = true) : FRel w4 S id (k + 1) v w1 := by
  unfold FRel
  rw [filter_snoc_no hk he]
  exact ⟨ownsRow_below h.1 hb, h.2.trans (hb.mono h.2.size)⟩
theorem FRel.keep {w4 wr w1 w2 : World} {S : List TriD} {id : ByteArray} {k : Nat} {v v' : Value} (h : FRel w4 S id k v wr) (hb : Below wr.heap.size wr w1) (hb2 : Below w4.heap.size w1 w2) (hk : k < S.length) (he : eqB (S[k]'hk).1 id = false)
    (ho : w2.ownsRow w4.heap.size 58 3 v' (((S.take k).filter (notOf id)).length + 1) (cells3 ((S.take k).filter (notOf id)) ++ cells3 [S[k]'hk])) : FRel w4 S id (k + 1) v' w2 := by
  unfold FRel
  rw [filter_snoc_yes hk he, cells3_app, List.length_append]
  exact ⟨ho, (h.2.trans (hb.mono h.2.size)).trans hb2⟩

section
variable {X : Nat → Prop} {w : World} {b pn pc : Nat} {A : Option Addr} {sv : Value} {l : List PeerT} {s : NSt}
set_option maxHeartbeats 1000000 in
set_option maxRecDepth 100000 in
theorem rleave_none (h : RNodeIs X w b A pn pc sv l s) (hg : NGood s) (id : ByteArray) (hx : idxOf s.D id = none) :
    Calls Tryz.prog 17 #[.pointer (some ⟨b, 0, none⟩), .string id] w (RWtIs X b s 4 w) := by
  have HH := Lib.hid h
  have hbl := h.blk.lt
  have b7 := h.blk.cell 7
  simp [rnodeCs] at b7
  have HP := Lib.hid (rdrop_none A pc w.heap.size pn l (Nat.le_trans h.room.1 h.room.2) id w h.peers (Nat.le_refl _) (idxl h.map hx))
  clear h hg hx
  go_enter Tryz.func17, Tryz.ntmps17
  go_wp2_with fail
  refine HP.out.mono ?_
  rintro e' w1 ⟨rfl, hb1⟩
  have B1 := Lib.hid hb1
  clear hb1
  go_wp2
  go_ret
  exact ⟨rfl, HoldIs.at_ (HoldIs.grow (HoldIs.below HH.out B1.out)), .of_below B1.out⟩

set_option maxHeartbeats 2000000 in
set_option maxRecDepth 100000 in
theorem rleave_ok (h : RNodeIs X w b A pn pc sv l s) (hg : NGood s) (id : ByteArray) (k0 : Nat) (hx : idxOf s.D id = some k0) :
    Calls Tryz.prog 17 #[.pointer (some ⟨b, 0, none⟩), .string id] w (RWtIs X b { s with D := cutD s.D k0, S := s.S.filter (notOf id) } 0 w) := by
  obtain ⟨i0, hi0, hz0, hz1, hz2⟩ := info_parts sub_info
  have HH := Lib.hid h
  have hbl := h.blk.lt
  have h8 := hg.eight
  have b7 := h.blk.cell 7
  simp [rnodeCs] at b7
  have HP := Lib.hid (rpdrop_ok A pc w.heap.size pn l s.D h.map hg.ps h.room id k0 hx w h.peers (Nat.le_refl _))
  clear h hg hx
  go_enter Tryz.func17, Tryz.ntmps17
  go_wp2_with fail
  refine HP.out.mono ?_
  rintro e' w3 ⟨A3, c3, l3, rfl, hm3, hp3, hb3, hr3, hk3⟩
  have E3 := Lib.hid hb3
  have hbl3 : b < w3.heap.size := by have := hb3.size; omega
  have N3 := Lib.hid (HoldIs.below HH.out hb3)
  have NT := Lib.hid (HoldIs.turn (mk' := rnodeCs s.c s.now s.drops) (i := 7) HH.out hb3 hp3 hm3 hr3 hk3 rfl)
  have KT := Lib.hid ((Kept.of_below (X := X) E3.out).setCell (a := ⟨b, 7, none⟩) (.inl HH.out.xb) (.slice A3 (pn - 1) c3))
  have f7 := N3.out.blk.frozen 7
  have b8 := NT.out.blk.cell 8
  have hbl4 := NT.out.blk.lt
  simp [rnodeCs] at b8
  clear hb3 hm3 hp3 hr3 hk3 b7
  obtain ⟨As, cs, hsv⟩ := ownsRow_len NT.out.subs.own
  subst hsv
  have hcp := ownsRow_cap NT.out.subs.own
  obtain ⟨hnc, hcm⟩ := hcp
  unfold maxLen at hcm
  obtain ⟨n, hn⟩ : ∃ n, s.S.length = n := ⟨_, rfl⟩
  rw [hn] at b8 h8 hnc
  have HN := Lib.hid hn
  have b7' := N3.out.blk.cell 7
  simp [rnodeCs] at b7'
  clear hn
  go_wp2_with fail
  clear b7' f7
  have HST := Lib.hid (show FRel (w3.setCell ⟨b, 7, none⟩ (.slice A3 (pn - 1) c3)) s.S id 0 (.slice none 0 0) (w3.setCell ⟨b, 7, none⟩ (.slice A3 (pn - 1) c3)) from ⟨World.ownsRow_nil _ _ _ _, Below.refl _ _⟩)
  have hsz34 : w3.heap.size ≤ (w3.setCell ⟨b, 7, none⟩ (.slice A3 (pn - 1) c3)).heap.size := by simp [World.setCell]
  have hsz43 : (w3.setCell ⟨b, 7, none⟩ (.slice A3 (pn - 1) c3)).heap.size ≤ w3.heap.size := by simp [World.setCell]
  generalize w3.setCell ⟨b, 7, none⟩ (.slice A3 (pn - 1) c3) = w4 at *
  clear b8
  go_loopw [7, 31] (fun v iv wr => ∃ k : Nat, k ≤ n ∧ iv = .int .i64 (k : Int) ∧ FRel w4 s.S id k v wr) (fun _ iv _ => n - (RowKit.intOf iv).toNat)
  case atStart => exact ⟨0, by omega, rfl, HST.out⟩
  case round =>
    obtain ⟨k, hk, rfl, hrel⟩ := hrel
    obtain ⟨wo, rfl⟩ : ∃ wo, wo = wr := ⟨_, rfl⟩
    have FR := Lib.hid hrel
    clear hrel HST
    obtain ⟨Av, cv, rfl⟩ := ownsRow_len FR.out.1
    by_cases hlt : k < n
    · have hkl : k < s.S.length := by rw [HN.out]; exact hlt
      obtain ⟨g, cap, hAs, hr4⟩ : ∃ g cap, (Value.slice As n cs) = .slice (some ⟨g, 0, none⟩) n cap ∧ Row3 58 w4 g cap n s.S := by
        rcases NT.out.subs with ⟨e1, e2⟩ | ⟨g, cap, n', e1, e2⟩
        · rw [e2] at hkl; exact absurd hkl (Nat.not_lt_zero _)
        · rw [HN.out] at e1
          injection e1 with x1 x2 x3
          subst x1 x2 x3
          exact ⟨g, cs, rfl, e2⟩
      injection hAs with x1 x2 x3
      subst x1 x3
      have hgl := hr4.lt
      have hr := hr4.below FR.out.2 hgl
      obtain ⟨c0, c1, c2⟩ := hr.cells k hkl
      have hgo : g < wo.heap.size := hr.lt
      have HSK := Lib.hid (fun w1 hb he => FR.out.skip (w1 := w1) hb hkl he)
      have HKP := Lib.hid (fun w1 w2 v' hb hb2 he ho => FR.out.keep (w1 := w1) (w2 := w2) (v' := v') hb hb2 hkl he ho)
      have hL := List.length_filter_le (notOf id) (s.S.take k)
      have hL2 : (s.S.take k).length ≤ 8 := by rw [List.length_take]; omega
      generalize s.S[k]'hkl = p at *
      obtain ⟨pi, pt, pb⟩ := p
      have EX := Lib.hid ((Env.start wo).lay (tcells (pi, pt, pb)).toArray 58)
      have BX := Lib.hid EX.out.bel
      simp only [tcells] at BX EX
      have hw4 := FR.out.2.size
      clear hr hr4
      cases hq : eqB pi id
      · have h3 : (pi.toList == id.toList) = false := hq
        have OWN := Lib.hid (ownsRow_below FR.out.1 BX.out)
        have HRD := Lib.hid (show Reads ((wo.alloc (.cells #[.string pi, .int .i64 pt, .bool pb] 58)).alloc (.cells #[.string pi, .int .i64 pt, .bool pb] 58)) (wo.heap.size + 1 + 1) 3 (some ⟨wo.heap.size + 1, 0, none⟩) 1 (cells3 [(pi, pt, pb)]) by
          have e : (wo.alloc (.cells #[.string pi, .int .i64 pt, .bool pb] 58)).heap.size = wo.heap.size + 1 := by simp
          have := reads_tri (wo.alloc (.cells #[.string pi, .int .i64 pt, .bool pb] 58)) 58 (pi, pt, pb)
          rw [e] at this
          exact this)
        have HQ := Lib.hid hq
        clear hq
        go_wp2_with (at_builtin; refine wpList_appN _ rfl _ _ 34 rfl w4.heap.size 58 i0 _ 3 32 Tryz.underlying34 hi0 hz0 hz1 hz2 rfl (by decide) _ _ _ rfl (OWN.out.alloc _) _ _ 1 _ _ rfl HRD.out (oneCell_3 [(pi, pt, pb)]) ?c1 ?c2 ?c3 ?_)
        case c1 => unfold maxLen; omega
        case c2 => omega
        case c3 => omega
        intro v9 w9 hown9 hb9
        obtain ⟨A9, c9, rfl⟩ := ownsRow_len hown9
        have KEEP := Lib.hid (HKP.out _ w9 _ (Below.al5 BX.out) hb9 HQ.out hown9)
        clear hown9 hb9
        go_wp2
        exact ⟨⟨k + 1, by omega, by simp, KEEP.out⟩, by simp [RowKit.intOf]; omega⟩
      · have h3 : (pi.toList == id.toList) = true := hq
        have SK := Lib.hid (HSK.out _ BX.out hq)
        clear hq
        go_wp2
        exact ⟨⟨k + 1, by omega, by simp, SK.out⟩, by simp [RowKit.intOf]; omega⟩
    · have hkn : k = n := by omega
      subst hkn
      have hall : s.S.take k = s.S := List.take_of_length_le (by rw [HN.out]; omega)
      have hfr := FR.out
      unfold FRel at hfr
      rw [hall] at hfr
      rw [hall]
      obtain ⟨ho, hbo⟩ := hfr
      have NO := Lib.hid (HoldIs.below NT.out hbo)
      have f8 := NO.out.blk.frozen 8
      have b8 := NO.out.blk.cell 8
      have hblo := NO.out.blk.lt
      simp [rnodeCs] at b8
      rw [HN.out] at b8
      have NJ := Lib.hid (HoldIs.join (mk' := rnodeCs s.c s.now s.drops) (i := 8) (S' := s.S.filter (notOf id)) NT.out (.of_below hbo) (.of_own ho) (.inr fun g hg => (ho.lt g hg).1) rfl)
      have hsz : w3.heap.size ≤ wo.heap.size := by have := hbo.size; omega
      have KJ := Lib.hid ((KT.out.low (hbo.mono (by have := E3.out.size; omega))).setCell (a := ⟨b, 8, none⟩) (.inl HH.out.xb) (.slice Av (s.S.filter (notOf id)).length cv))
      clear ho hbo hall
      go_wp2
      go_ret
      refine ⟨rfl, HoldAt.wide (HoldIs.at_ NJ.out) (fun i hi => ?_) (fun k hk => hk.2), KJ.out⟩
      obtain ⟨h1, h2⟩ := hi
      refine ⟨?_, by simpa [World.setCell] using h2⟩
      rcases h1 with h1 | h1
      · exact h1.1
      · right
        have := E3.out.size
        omega
theorem rleave_any (h : RNodeIs X w b A pn pc sv l s) (hg : NGood s) (id : ByteArray) :
    Calls Tryz.prog 17 #[.pointer (some ⟨b, 0, none⟩), .string id] w (RWtIs X b (s.left id) (s.leaveE id) w) := by
  unfold NSt.left NSt.leaveE
  cases hx : idxOf s.D id with
  | none => exact rleave_none h hg id hx
  | some k => exact rleave_ok h hg id k hx
end
end Go.Proofs.YtcikljcjhijjdaaGreat

namespace Go.Proofs.YtcikljcjhijjdaaGreat
open Go.RowKit Go.Lib
set_option linter.unusedSimpArgs false
set_option linter.unusedVariables false

theorem reads3_head {w : World} {B n k : Nat} {A : Option Addr} {S : List TriD} (h : Reads w B 3 A n (cells3 S)) (hl : S.length = n) (hk : k ≤ n) : Reads w B 3 A k (cells3 (S.take k)) := by
  refine ⟨by rw [cells3_len, List.length_take]; omega, fun hn => ?_⟩
  obtain ⟨ad, e, hb, hc⟩ := h.2 (by omega)
  refine ⟨ad, e, hb, fun j u hj => hc j u ?_⟩
  rw [← cells3_take, List.getElem?_take] at hj
  split at hj
  · exact hj
  · cases hj
theorem rpart_cc (g cap c3 n k bs : Nat) (A3 : Option Addr) (S : List TriD) (hn8 : n ≤ 8) (hkn : k < n) (w W : World) (hr : Row3 58 w g cap n S) (hw : Below w.heap.size w W)
    (h3 : A3 = if cap = k + 1 then some ⟨g, 0, none⟩ else some ⟨g, (k + 1) * 3, none⟩) (hb : Blk W bs 34 #[.slice (some ⟨g, 0, none⟩) k cap, .slice A3 (n - (k + 1)) c3]) :
    Calls Tryz.prog 59 #[.slice (some ⟨bs, 0, none⟩) 2 2] W (NewS (n - 1) (cells3 (cutAt S k)) W) := by
  have hR := (hr.below hw hr.lt)
  have hrd : Reads W W.heap.size 3 (some ⟨g, 0, none⟩) n (cells3 S) := Reads.of_own (hR.own (base := 0) (Nat.zero_le _))
  have hcut := hrd.cut (k := k + 1) (cap := cap) hkn hr.2.1
  have h3' : A3 = if cap = k + 1 then some (⟨g, 0, none⟩ : Addr) else (some (⟨g, 0, none⟩ : Addr)).map (·.add ((k + 1) * 3)) := by
    rw [h3]
    split
    · rfl
    · simp [Addr.add]
  rw [← h3', cells3_drop] at hcut
  refine slS_concat [(some ⟨g, 0, none⟩, k, cap, cells3 (S.take k)), (A3, n - (k + 1), c3, cells3 (S.drop (k + 1)))] W.heap.size bs (by simp) W ?_ (Nat.le_refl _) hb 2 rfl (n - 1) (by simp [sumNS]; omega) _ (by unfold cutAt; rw [cells3_app]; simp)
  intro s hs
  simp only [List.mem_cons, List.not_mem_nil, or_false] at hs
  rcases hs with rfl | rfl
  · exact ⟨reads3_head hrd hr.1 (Nat.le_of_lt hkn), oneCell_3 _, by show k ≤ 1000; omega⟩
  · exact ⟨hcut, oneCell_3 _, by show n - (k + 1) ≤ 1000; omega⟩

section
variable {X : Nat → Prop} {w : World} {b pn pc : Nat} {A : Option Addr} {sv : Value} {l : List PeerT} {s : NSt}
set_option maxHeartbeats 1000000 in
set_option maxRecDepth 100000 in
theorem rpart_none (h : RNodeIs X w b A pn pc sv l s) (hg : NGood s) (id : ByteArray) (th : Int) (hx : ixI (isSub id th) s.S = -1) :
    Calls Tryz.prog 21 #[.pointer (some ⟨b, 0, none⟩), .string id, .int .i64 th] w (RWtIs X b s 4 w) := by
  have HH := Lib.hid h
  have HC := Lib.hid (rsub_any h (by have := hg.eight; omega) id th)
  rw [hx] at HC
  clear h hg hx
  go_enter Tryz.func21, Tryz.ntmps21
  go_wp2_with fail
  refine HC.out.mono ?_
  rintro e' w1 ⟨rfl, hb1⟩
  have B1 := Lib.hid hb1
  clear hb1
  go_wp2
  go_ret
  exact ⟨rfl, HoldIs.at_ (HoldIs.grow (HoldIs.below HH.out B1.out)), .of_below B1.out⟩

set_option maxHeartbeats 2000000 in
set_option maxRecDepth 100000 in
theorem rpart_ok {g cap n k : Nat} (h : RNodeIs X w b A pn pc (.slice (some ⟨g, 0, none⟩) n cap) l s) (hg : NGood s) (id : ByteArray) (th : Int) (hx : ixI (isSub id th) s.S = (k : Int)) (hk : k < s.S.length) (hr : Row3 58 w g cap n s.S) :
    Calls Tryz.prog 21 #[.pointer (some ⟨b, 0, none⟩), .string id, .int .i64 th] w (RWtIs X b { s with S := cutAt s.S k } 0 w) := by
  have HH := Lib.hid h
  have hbl := h.blk.lt
  have hn8 : n ≤ 8 := by have := hg.eight; rw [hr.1] at this; exact this
  have hkn : k < n := by rw [← hr.1]; exact hk
  have hnc := hr.2.1
  have hcm := hr.2.2.1
  unfold maxLen at hcm
  have HC := Lib.hid (rsub_any h (by have := hg.eight; omega) id th)
  rw [hx] at HC
  have HRW := Lib.hid hr
  clear h hg hx hr
  go_enter Tryz.func21, Tryz.ntmps21
  go_wp2_with fail
  refine HC.out.mono ?_
  rintro e' w1 ⟨rfl, hb1⟩
  have B1 := Lib.hid hb1
  have N1 := Lib.hid (HoldIs.below HH.out hb1)
  have R1 := Lib.hid (HRW.out.below hb1 HRW.out.lt)
  have hs1 := hb1.size
  clear hb1
  have b8 := N1.out.blk.cell 8
  have f8 := N1.out.blk.frozen 8
  have hbl1 := N1.out.blk.lt
  simp [rnodeCs] at b8
  have c1 : (k : Int) ≤ n := by omega
  have c2 : (k : Int) + 1 ≤ n := by omega
  have c3 : (k : Int) ≤ cap := by omega
  have c4 : (0 : Int) ≤ (k : Int) + 1 := by omega
  have c5 : ((k : Int) + 1).toNat = k + 1 := by omega
  have c6 : IntKind.i64.wrap ((k : Int) + 1) = (k : Int) + 1 := by rw [IntKind.wrap_i64]; omega
  have hck : ¬ cap = k := by omega
  have hck2 : (k : Int) ≤ (k : Int) + 1 := by omega
  have HCC := Lib.hid (fun W A3 c3 bs h0 h1 h2 => rpart_cc g cap c3 n k bs A3 s.S hn8 hkn w1 W R1.out h0 h1 h2)
  have HST := Lib.hid (show ∀ w', Below w1.heap.size w1 w' → w'.cell? ⟨b, 8, none⟩ = some (.slice (some ⟨g, 0, none⟩) n cap) ∧ w'.frozen? ⟨b, 8, none⟩ = false from fun w' h => ⟨(h.cell (p := ⟨b, 8, none⟩) hbl1).trans b8, (N1.out.blk.below h hbl1).frozen 8⟩)
  by_cases hc : cap = k + 1
  · subst hc
    have HC1 := Lib.hid (fun W c3 bs h0 (h3 : Blk W bs 34 #[.slice (some ⟨g, 0, none⟩) k (k + 1), .slice (some ⟨g, 0, none⟩) 0 c3]) => HCC.out W (some ⟨g, 0, none⟩) c3 bs h0 (if_pos rfl).symm (by rw [show n - (k + 1) = 0 by omega]; exact h3))
    go_upto_region 14 with fail
    go_region_law (go_simp; go_at_call 59; (refine (HC1.out _ _ _ (Below.drew (Below.al5 (Below.refl _ _))) (Blk.drew (Blk.new _ _ _))).mono ?_); rintro e' w9 ⟨A9, c9, rfl, hown9, hb9⟩; have hL9 : Below w1.heap.size w1 w9 := Below.thru5 (Below.drew (Below.al5 (Below.refl _ _))) hb9; have ho9 := ownsRow_base hown9 (show Below w1.heap.size w1 _ from Below.drew (Below.al5 (Below.refl _ _))).size; obtain ⟨z9, zf9⟩ := HST.out w9 hL9)
    all_goals
      go_wp2
      have NJ := Lib.hid (HoldIs.join (mk' := rnodeCs s.c s.now s.drops) (i := 8) (S' := cutAt s.S k) N1.out (.of_below hL9) (.of_own ho9) (.inr fun g hg => (ho9.lt g hg).1) rfl)
      have KJ := Lib.hid (((Kept.of_below (X := X) B1.out).low (hL9.mono hs1)).setCell (a := ⟨b, 8, none⟩) (.inl HH.out.xb) (.slice A9 (n - 1) c9))
      clear ho9 hown9 hL9
      go_ret
      refine ⟨rfl, HoldAt.wide (HoldIs.at_ NJ.out) (fun i hi => ?_) (fun k hk => hk.2), KJ.out⟩
      exact ⟨hi.1.imp (fun h => h) (fun h => Nat.le_trans hs1 h), by simpa [World.setCell] using hi.2⟩
  · go_upto_region 14 with fail
    go_region_law (go_simp; go_at_call 59; (refine (HCC.out _ _ _ _ (Below.drew (Below.al5 (Below.refl _ _))) (if_neg hc).symm (Blk.drew (Blk.new _ _ _))).mono ?_); rintro e' w9 ⟨A9, c9, rfl, hown9, hb9⟩; have hL9 : Below w1.heap.size w1 w9 := Below.thru5 (Below.drew (Below.al5 (Below.refl _ _))) hb9; have ho9 := ownsRow_base hown9 (show Below w1.heap.size w1 _ from Below.drew (Below.al5 (Below.refl _ _))).size; obtain ⟨z9, zf9⟩ := HST.out w9 hL9)
    all_goals
      go_wp2
      have NJ := Lib.hid (HoldIs.join (mk' := rnodeCs s.c s.now s.drops) (i := 8) (S' := cutAt s.S k) N1.out (.of_below hL9) (.of_own ho9) (.inr fun g hg => (ho9.lt g hg).1) rfl)
      have KJ := Lib.hid (((Kept.of_below (X := X) B1.out).low (hL9.mono hs1)).setCell (a := ⟨b, 8, none⟩) (.inl HH.out.xb) (.slice A9 (n - 1) c9))
      clear ho9 hown9 hL9
      go_ret
      refine ⟨rfl, HoldAt.wide (HoldIs.at_ NJ.out) (fun i hi => ?_) (fun k hk => hk.2), KJ.out⟩
      exact ⟨hi.1.imp (fun h => h) (fun h => Nat.le_trans hs1 h), by simpa [World.setCell] using hi.2⟩
theorem rpart_any (h : RNodeIs X w b A pn pc sv l s) (hg : NGood s) (id : ByteArray) (th : Int) :
    Calls Tryz.prog 21 #[.pointer (some ⟨b, 0, none⟩), .string id, .int .i64 th] w (RWtIs X b (s.parted id th) (s.partE id th) w) := by
  unfold NSt.parted NSt.partE
  by_cases hx : 0 ≤ ixI (isSub id th) s.S
  · rw [if_pos hx, if_pos hx]
    obtain ⟨h1, h2⟩ := ixI_lt hx
    rcases h.subs with ⟨hsv, hS⟩ | ⟨g, cap, n, hsv, hr⟩
    · rw [hS] at h1; exact absurd h1 (Nat.not_lt_zero _)
    · subst hsv
      exact rpart_ok h hg id th h2 h1 hr
  · rw [if_neg hx, if_neg hx]
    refine rpart_none h hg id th ?_
    unfold ixI at hx ⊢
    cases hi : s.S.findIdx? (isSub id th) with
    | none => rfl
    | some k => rw [hi] at hx; exact absurd (show (0 : Int) ≤ (k : Int) by omega) hx
end
end Go.Proofs.YtcikljcjhijjdaaGreat

namespace Go.Proofs.YtcikljcjhijjdaaGreat
open Go.RowKit Go.Lib
set_option linter.unusedSimpArgs false
set_option linter.unusedVariables false

def cellsZ (l : List Int) : List Value := l.map fun x => .int .i64 x
def atZ (l : List Int) (i : Nat) : Int := l.getD i 0
def pickT (l : List ByteArray) (i : Int) : ByteArray := if l.length = 0 then ByteArray.empty else l.getD ((i % 18446744073709551616).toNat % l.length) ByteArray.empty

theorem rnode_new {c : CfgD} {w : World} {b : Nat} (h : Blk w b 36 (rnodeCs c 0 0 (.slice none 0 0) (.slice none 0 0))) : RNodeAt (· = b) w b (NSt.start c) :=
  ⟨none, 0, 0, .slice none 0 0, [], h, ⟨rfl, Reads.none_, by simp⟩, rfl, ⟨Nat.le_refl _, Nat.zero_le _⟩, .inl ⟨rfl, rfl⟩, rfl, (fun g hg => by cases hg), ⟨fun h => by simp at h, by simp⟩, fun k hk => hk ▸ h.lt⟩

set_option maxHeartbeats 1000000 in
set_option maxRecDepth 100000 in
theorem at_any (A : Option Addr) (c B n i : Nat) (l : List Int) (hl : l.length = n) (hi : i ≤ 1000) (w : World) (hp : Reads w B 1 A n (cellsZ l)) :
    Calls Tryz.prog 9 #[.slice A n c, .int .i64 i] w fun e w' => e = .returned (.int .i64 (atZ l i)) ∧ Below w.heap.size w w' := by
  by_cases h : i < n
  · have hkl : i < l.length := by rw [hl]; exact h
    obtain ⟨b, off, rfl, hb, hcs⟩ := hp.addr (by omega)
    have c0 := hcs i (.int .i64 (l[i]'hkl)) (by simp [cellsZ, hkl])
    have e0 : atZ l i = l[i]'hkl := by unfold atZ; simp [hkl]
    rw [e0]
    generalize l[i]'hkl = p at *
    clear hcs hp hl e0
    go_enter Tryz.func9, Tryz.ntmps9
    go_wp2
    go_ret
    exact ⟨rfl, Below.refl _ _⟩
  · have e0 : atZ l i = 0 := by unfold atZ; simp; rw [List.getElem?_eq_none (by omega)]; rfl
    rw [e0]
    clear hp hl e0
    go_enter Tryz.func9, Tryz.ntmps9
    go_wp2
    go_ret
    exact ⟨rfl, Below.refl _ _⟩

end Go.Proofs.YtcikljcjhijjdaaGreat

namespace Go.Proofs.YtcikljcjhijjdaaGreat
open Go.RowKit Go.Lib
set_option linter.unusedSimpArgs false
set_option linter.unusedVariables false

set_option maxHeartbeats 400000 in
set_option maxRecDepth 100000 in
theorem pick_core (b off n c j : Nat) (i : Int) (p : ByteArray) (w : World) (c0 : w.cell? ⟨b, off + j, none⟩ = some (.string p)) (hn : ¬ n = 0)
    (hn0 : ¬ ((n : Int) = 0)) (h3 : (IntKind.u64.wrap i).tmod (n : Int) = (j : Int)) (h5 : wrap64 (j : Int) = (j : Int)) (h6 : (j : Int) < n) (h7 : j < n) (hw1 : IntKind.u64.wrap (n : Int) = n) :
    Calls Tryz.prog 8 #[.slice (some ⟨b, off, none⟩) n c, .int .i64 i] w fun e w' => e = .returned (.string p) ∧ Below w.heap.size w w' := by
  go_enter Tryz.func8, Tryz.ntmps8
  go_wp2
  go_ret
  exact ⟨rfl, Below.refl _ _⟩
set_option maxHeartbeats 400000 in
set_option maxRecDepth 100000 in
theorem pick_nil (A : Option Addr) (c : Nat) (i : Int) (w : World) :
    Calls Tryz.prog 8 #[.slice A 0 c, .int .i64 i] w fun e w' => e = .returned (.string ByteArray.empty) ∧ Below w.heap.size w w' := by
  go_enter Tryz.func8, Tryz.ntmps8
  go_wp2
  go_ret
  exact ⟨rfl, Below.refl _ _⟩
theorem wrap64_nat (j : Nat) (h : j ≤ 9223372036854775807) : wrap64 (j : Int) = (j : Int) := by unfold wrap64; omega
theorem wrapu_nat (j : Nat) (h : j ≤ 9223372036854775807) : IntKind.u64.wrap (j : Int) = (j : Int) := by rw [IntKind.wrap_u64]; omega
theorem tmod_pick (i : Int) (n : Nat) : (IntKind.u64.wrap i).tmod (n : Int) = (((i % 18446744073709551616).toNat % n : Nat) : Int) := by
  rw [IntKind.wrap_u64]
  have h : 0 ≤ i % 18446744073709551616 := Int.emod_nonneg _ (by decide)
  generalize i % 18446744073709551616 = x at *
  rw [Int.tmod_eq_emod_of_nonneg h, Int.natCast_emod, Int.toNat_of_nonneg h]
theorem pick_any (A : Option Addr) (c B n : Nat) (i : Int) (l : List ByteArray) (hl : l.length = n) (hm : n ≤ 9223372036854775807) (w : World) (hp : Reads w B 1 A n (cellsTx l)) :
    Calls Tryz.prog 8 #[.slice A n c, .int .i64 i] w fun e w' => e = .returned (.string (pickT l i)) ∧ Below w.heap.size w w' := by
  by_cases h : n = 0
  · subst h
    have e0 : pickT l i = ByteArray.empty := by unfold pickT; rw [if_pos hl]
    rw [e0]
    exact pick_nil A c i w
  · have hjn : (i % 18446744073709551616).toNat % n < n := Nat.mod_lt _ (Nat.pos_of_ne_zero h)
    have ht := tmod_pick i n
    have e1 : pickT l i = l.getD ((i % 18446744073709551616).toNat % n) ByteArray.empty := by unfold pickT; rw [if_neg (fun e => h (hl.symm.trans e)), hl]
    generalize (i % 18446744073709551616).toNat % n = j at *
    have hkl : j < l.length := by rw [hl]; exact hjn
    obtain ⟨b, off, rfl, hb, hcs⟩ := hp.addr (Nat.pos_of_ne_zero h)
    have c0 := hcs j (.string (l[j]'hkl)) (by simp [cellsTx, hkl])
    have e0 : l.getD j ByteArray.empty = l[j]'hkl := by simp [hkl]
    rw [e1, e0]
    exact pick_core b off n c j i _ w c0 h (fun e => h (Int.ofNat_eq_zero.1 e)) ht (wrap64_nat j (by omega)) (Int.ofNat_lt.2 hjn) hjn (wrapu_nat n hm)
end Go.Proofs.YtcikljcjhijjdaaGreat

namespace Go.Proofs.YtcikljcjhijjdaaGreat
open Go.RowKit Go.Lib
set_option linter.unusedSimpArgs false
set_option linter.unusedVariables false

def NSt.tk (s : NSt) (g : Int) : NSt := if s.tickE g = 0 then (s.ticked g).tell else s
def NSt.tkM (s : NSt) (g : Int) : Nat := if s.tickE g = 0 then s.many g else 0
def NSt.tkT (s : NSt) (g : Int) : List ByteArray := if s.tickE g = 0 then beatsOf s.c s.seq (s.many g) else []
def NSt.tkN (s : NSt) (g : Int) : List TriD := if s.tickE g = 0 then (s.ticked g).notes else []
theorem NGood.tk {s : NSt} (h : NGood s) (g : Int) : NGood (s.tk g) := by
  unfold NSt.tk
  split
  · next he => exact (h.ticked he).tell
  · exact h
theorem NSt.tkM_len (s : NSt) (g : Int) : (s.tkT g).length = s.tkM g := by
  unfold NSt.tkM NSt.tkT
  split
  · exact beatsOf_len _ _ _
  · rfl
theorem NSt.notes_le {s : NSt} (h : NGood s) : s.notes.length ≤ 8 := Nat.le_trans (notesOf_le _ _) h.eight
theorem NSt.tkN_le {s : NSt} (h : NGood s) (g : Int) : (s.tkN g).length ≤ 8 := by
  unfold NSt.tkN
  split
  · next he => exact NSt.notes_le (h.ticked he)
  · simp
theorem NSt.hearN_le {s : NSt} (h : NGood s) (x : ByteArray) : (s.hearN x).length ≤ 8 := by
  unfold NSt.hearN
  split
  · exact NSt.notes_le (h.mid x)
  · simp
theorem NSt.joinN_le {s : NSt} (h : NGood s) (id : ByteArray) (th : Int) : (s.joinN id th).length ≤ 8 := by
  unfold NSt.joinN
  split
  · next he => exact NSt.notes_le (h.plus he)
  · simp
theorem tkM_le {s : NSt} (h : NGood s) (g : Int) : s.tkM g ≤ 100 := by
  unfold NSt.tkM
  split
  · next he =>
    have hc := h.cfg
    unfold CfgIn at hc
    unfold NSt.tickE at he
    unfold NSt.many
    obtain ⟨-, -, hc1, hc2, -⟩ := hc
    by_cases h1 : g < 1 ∨ 1073741824 < g
    · rw [if_pos h1] at he; cases he
    · rw [if_neg h1] at he
      by_cases h2 : 1073741824 < s.now + g ∨ 64 ≤ g / cfe s.c
      · rw [if_pos h2] at he; cases he
      · generalize cfe s.c = ev at *
        have h3 : g / ev < 64 := by omega
        have h4 : g < 64 * ev := Int.lt_mul_of_ediv_lt (by omega) h3
        have h5 : (s.now + g) / ev ≤ (s.now + 64 * ev) / ev := Int.ediv_le_ediv (by omega) (by omega)
        rw [Int.add_mul_ediv_right _ _ (by omega)] at h5
        omega
  · omega
/-- the program's node in blocks of its own, the reference's in blocks Y, all new since w -/
def PY (w W : World) (b : Nat) (s : NSt) (b' : Nat) (s' : NSt) (Y : Nat → Prop) : Prop :=
  ∃ X, NodeAt X W b s ∧ RNodeAt Y W b' s' ∧ (∀ k, X k → w.heap.size ≤ k) ∧ (∀ k, Y k → w.heap.size ≤ k) ∧ (∀ k, X k → ¬ Y k) ∧ Below w.heap.size w W
theorem RNodeAt.xlt {Y : Nat → Prop} {W : World} {b : Nat} {s : NSt} (h : RNodeAt Y W b s) : ∀ k, Y k → k < W.heap.size := by
  obtain ⟨_, _, _, _, _, h⟩ := h
  exact h.xlt
theorem NodeAt.xlt {Y : Nat → Prop} {W : World} {b : Nat} {s : NSt} (h : NodeAt Y W b s) : ∀ k, Y k → k < W.heap.size := by
  obtain ⟨_, _, _, _, _, h⟩ := h
  exact h.xlt
section
variable {w W W' : World} {b b' : Nat} {s s' : NSt} {Y : Nat → Prop}
theorem PY.bel (h : PY w W b s b' s' Y) : Below w.heap.size w W := by
  obtain ⟨_, _, _, _, _, _, h⟩ := h
  exact h
theorem PY.ylt (h : PY w W b s b' s' Y) : ∀ k, Y k → k < W.heap.size := by
  obtain ⟨_, _, h, _⟩ := h
  exact RNodeAt.xlt h
theorem PY.below (h : PY w W b s b' s' Y) (hb : Below W.heap.size W W') : PY w W' b s b' s' Y := by
  obtain ⟨X, h1, h2, h3, h4, h5, h6⟩ := h
  exact ⟨X, HoldAt.below h1 hb, HoldAt.below h2 hb, h3, h4, h5, h6.trans (hb.mono h6.size)⟩
theorem PY.p {X : Nat → Prop} {s1 : NSt} (h2 : RNodeAt Y W b' s') (h3 : ∀ k, X k → w.heap.size ≤ k) (h4 : ∀ k, Y k → w.heap.size ≤ k) (h5 : ∀ k, X k → ¬ Y k) (h6 : Below w.heap.size w W) (hn : NodeAt (grow X W W') W' b s1) (hk : Kept X W W') : PY w W' b s1 b' s' Y :=
  ⟨_, hn, HoldAt.kept h2 hk h5, fun k hk => hk.1.elim (h3 k) (fun h => Nat.le_trans h6.size h), h4, fun k hx hy => hx.1.elim (fun e => h5 k e hy) (fun e => by have := RNodeAt.xlt h2 k hy; omega), h6.trans (hk.below h3 h6.size)⟩
theorem PY.r {X : Nat → Prop} {s1 : NSt} (h1 : NodeAt X W b s) (h3 : ∀ k, X k → w.heap.size ≤ k) (h4 : ∀ k, Y k → w.heap.size ≤ k) (h5 : ∀ k, X k → ¬ Y k) (h6 : Below w.heap.size w W) (hn : RNodeAt (grow Y W W') W' b' s1) (hk : Kept Y W W') : PY w W' b s b' s1 (grow Y W W') :=
  ⟨X, HoldAt.kept h1 hk (fun k hy hx => h5 k hx hy), hn, h3, fun k hk => hk.1.elim (h4 k) (fun h => Nat.le_trans h6.size h), fun k hx hy => hy.1.elim (fun e => h5 k hx e) (fun e => by have := NodeAt.xlt h1 k hx; omega), h6.trans (hk.below h4 h6.size)⟩
theorem PY.start {c : CfgD} {w1 w2 : World} (h1 : NodeAt (· = b) w1 b (NSt.start c)) (hw : Below w.heap.size w w1) (hb : w.heap.size ≤ b) (hw2 : Below w1.heap.size w1 w2) (h2 : RNodeAt (· = b') w2 b' (NSt.start c)) (hbb : w1.heap.size ≤ b') : PY w w2 b (NSt.start c) b' (NSt.start c) (· = b') :=
  ⟨_, HoldAt.below h1 hw2, h2, fun k hk => by rw [hk]; exact hb, fun k hk => by rw [hk]; exact Nat.le_trans hw.size hbb, fun k hx hy => by have := NodeAt.xlt h1 b rfl; rw [hy] at hx; omega, hw.trans (hw2.mono hw.size)⟩
/-! ### what the calls answer -/
def PyE (w : World) (b : Nat) (s : NSt) (b' : Nat) (s' : NSt) (Y : Nat → Prop) (er : Int) (e : Ending) (W' : World) : Prop := e = .returned (.int .i64 er) ∧ PY w W' b s b' s' Y
def PyN (w W : World) (b : Nat) (s : NSt) (b' : Nat) (s' : NSt) (Y : Nat → Prop) (N : List TriD) (er : Int) (e : Ending) (W' : World) : Prop :=
  ∃ A c, e = .returned (.tuple #[.slice A N.length c, .int .i64 er]) ∧ W'.ownsRow W.heap.size 52 3 (.slice A N.length c) N.length (cells3 N) ∧ PY w W' b s b' s' Y
def PyT (w W : World) (b : Nat) (s : NSt) (b' : Nat) (s' : NSt) (Y : Nat → Prop) (T : List ByteArray) (m : Nat) (N : List TriD) (er : Int) (e : Ending) (W' : World) : Prop :=
  ∃ A1 c1 A2 c2, e = .returned (.tuple #[.slice A1 m c1, .slice A2 N.length c2, .int .i64 er]) ∧ W'.ownsRow W.heap.size 9 1 (.slice A1 m c1) m (cellsTx T) ∧ W'.ownsRow W.heap.size 52 3 (.slice A2 N.length c2) N.length (cells3 N) ∧ PY w W' b s b' s' Y
def RyE (w : World) (b : Nat) (s : NSt) (b' : Nat) (s' : NSt) (er : Int) (e : Ending) (W' : World) : Prop := e = .returned (.int .i64 er) ∧ ∃ Y, PY w W' b s b' s' Y
def RyN (w W : World) (b : Nat) (s : NSt) (b' : Nat) (s' : NSt) (Y : Nat → Prop) (N : List TriD) (er : Int) (e : Ending) (W' : World) : Prop :=
  ∃ A c, e = .returned (.tuple #[.slice A N.length c, .int .i64 er]) ∧ Reads W' W'.heap.size 3 A N.length (cells3 N) ∧ Kept Y W W' ∧ ∃ Y, PY w W' b s b' s' Y
def RyT (w W : World) (b : Nat) (s : NSt) (b' : Nat) (s' : NSt) (Y : Nat → Prop) (T : List ByteArray) (m : Nat) (N : List TriD) (er : Int) (e : Ending) (W' : World) : Prop :=
  ∃ A1 c1 A2 c2, e = .returned (.tuple #[.slice A1 m c1, .slice A2 N.length c2, .int .i64 er]) ∧ Reads W' W'.heap.size 1 A1 m (cellsTx T) ∧ Reads W' W'.heap.size 3 A2 N.length (cells3 N) ∧ Kept Y W W' ∧ ∃ Y, PY w W' b s b' s' Y
/-- a row of the first's, over a call of the second -/
theorem PY.row {size n : Nat} {T : TypeId} {A : Option Addr} {c : Nat} {xs : List Value} {W1 W2 : World} (hY : ∀ k, Y k → k < W.heap.size) (ho : W1.ownsRow W.heap.size T size (.slice A n c) n xs) (hk : Kept Y W1 W2) : Reads W2 W2.heap.size size A n xs :=
  Reads.of_own (hk.own ho (fun k hk hy => by have := (ho.lt k hk).1; have := hY k hy; omega))
theorem PY.watch (h : PY w W b s b' s' Y) (hg : NGood s) (id : ByteArray) (hid : id.size ≤ maxLen) (ev : Int) :
    Calls Tryz.prog 5 #[.pointer (some ⟨b, 0, none⟩), .string id, .int .i64 ev] W (PyE w b (s.watched id ev) b' s' Y (s.watchE id ev)) := by
  obtain ⟨X, h1, h2, h3, h4, h5, h6⟩ := h
  obtain ⟨_, _, _, _, _, h1⟩ := h1
  exact (watch_any h1 hg id hid ev).mono fun e W' ⟨k1, k2, k3⟩ => ⟨k1, PY.p h2 h3 h4 h5 h6 k2 k3⟩
theorem PY.leave (h : PY w W b s b' s' Y) (hg : NGood s) (id : ByteArray) (hid : id.size ≤ maxLen) :
    Calls Tryz.prog 16 #[.pointer (some ⟨b, 0, none⟩), .string id] W (PyE w b (s.left id) b' s' Y (s.leaveE id)) := by
  obtain ⟨X, h1, h2, h3, h4, h5, h6⟩ := h
  obtain ⟨_, _, _, _, _, h1⟩ := h1
  exact (leave_any h1 hg id hid).mono fun e W' ⟨k1, k2, k3⟩ => ⟨k1, PY.p h2 h3 h4 h5 h6 k2 k3⟩
theorem PY.part (h : PY w W b s b' s' Y) (hg : NGood s) (id : ByteArray) (th : Int) :
    Calls Tryz.prog 20 #[.pointer (some ⟨b, 0, none⟩), .string id, .int .i64 th] W (PyE w b (s.parted id th) b' s' Y (s.partE id th)) := by
  obtain ⟨X, h1, h2, h3, h4, h5, h6⟩ := h
  obtain ⟨_, _, _, _, _, h1⟩ := h1
  exact (part_any h1 hg id th).mono fun e W' ⟨k1, k2, k3⟩ => ⟨k1, PY.p h2 h3 h4 h5 h6 k2 k3⟩
theorem PY.join (h : PY w W b s b' s' Y) (hg : NGood s) (id : ByteArray) (th : Int) :
    Calls Tryz.prog 18 #[.pointer (some ⟨b, 0, none⟩), .string id, .int .i64 th] W (PyN w W b (s.joined id th) b' s' Y (s.joinN id th) (s.joinE id th)) := by
  obtain ⟨X, h1, h2, h3, h4, h5, h6⟩ := h
  obtain ⟨_, _, _, _, _, h1⟩ := h1
  exact (join_any h1 hg id th).mono fun e W' ⟨A, c, k1, k2, k3, k4⟩ => ⟨A, c, k1, k2, PY.p h2 h3 h4 h5 h6 k3 k4⟩
theorem PY.hear (h : PY w W b s b' s' Y) (hg : NGood s) (x : ByteArray) :
    Calls Tryz.prog 13 #[.pointer (some ⟨b, 0, none⟩), .string x] W (PyN w W b (s.heard x) b' s' Y (s.hearN x) (s.hearE x)) := by
  obtain ⟨X, h1, h2, h3, h4, h5, h6⟩ := h
  obtain ⟨_, _, _, _, _, h1⟩ := h1
  exact (hear_any h1 hg x).mono fun e W' ⟨A, c, k1, k2, k3, k4⟩ => ⟨A, c, k1, k2, PY.p h2 h3 h4 h5 h6 k3 k4⟩
theorem PY.tick (h : PY w W b s b' s' Y) (hg : NGood s) (g : Int) :
    Calls Tryz.prog 10 #[.pointer (some ⟨b, 0, none⟩), .int .i64 g] W (PyT w W b (s.tk g) b' s' Y (s.tkT g) (s.tkM g) (s.tkN g) (s.tickE g)) := by
  have hpy := h
  obtain ⟨X, h1, h2, h3, h4, h5, h6⟩ := h
  obtain ⟨_, _, _, _, _, h1⟩ := h1
  refine (tick_any h1 hg g).mono fun e W' hh => ?_
  unfold TkIs at hh
  unfold NSt.tk NSt.tkT NSt.tkM NSt.tkN
  by_cases he : s.tickE g = 0
  · rw [if_pos he] at hh
    rw [if_pos he, if_pos he, if_pos he, if_pos he, he]
    obtain ⟨_, _, _, _, _, A1, c1, A2, c2, k1, k2, k3, k4, k5⟩ := hh
    exact ⟨A1, c1, A2, c2, k1, k2, k3, PY.p h2 h3 h4 h5 h6 (HoldIs.at_ (HoldIs.grow k4)) k5⟩
  · rw [if_neg he] at hh
    rw [if_neg he, if_neg he, if_neg he, if_neg he]
    obtain ⟨rfl, rfl⟩ := hh
    exact ⟨none, 0, none, 0, rfl, World.ownsRow_nil _ _ _ _, World.ownsRow_nil _ _ _ _, hpy⟩
theorem PY.level (h : PY w W b s b' s' Y) (hg : NGood s) (id : ByteArray) :
    Calls Tryz.prog 22 #[.pointer (some ⟨b, 0, none⟩), .string id] W (LvIs (s.lv id) (lvEr s.D id) W) := by
  obtain ⟨X, h1, h2, h3, h4, h5, h6⟩ := h
  obtain ⟨_, _, _, _, _, h1⟩ := h1
  exact nlv_any h1 hg id
/-! ### the reference's -/
theorem PY.rwatch (h : PY w W b s b' s' Y) (hg : NGood s') (id : ByteArray) (hid : id.size ≤ maxLen) (ev : Int) :
    Calls Tryz.prog 15 #[.pointer (some ⟨b', 0, none⟩), .string id, .int .i64 ev] W (RyE w b s b' (s'.watched id ev) (s'.watchE id ev)) := by
  obtain ⟨X, h1, h2, h3, h4, h5, h6⟩ := h
  obtain ⟨_, _, _, _, _, h2⟩ := h2
  exact (rwatch_any h2 hg id hid ev).mono fun e W' ⟨k1, k2, k3⟩ => ⟨k1, _, PY.r h1 h3 h4 h5 h6 k2 k3⟩
theorem PY.rleave (h : PY w W b s b' s' Y) (hg : NGood s') (id : ByteArray) :
    Calls Tryz.prog 17 #[.pointer (some ⟨b', 0, none⟩), .string id] W (RyE w b s b' (s'.left id) (s'.leaveE id)) := by
  obtain ⟨X, h1, h2, h3, h4, h5, h6⟩ := h
  obtain ⟨_, _, _, _, _, h2⟩ := h2
  exact (rleave_any h2 hg id).mono fun e W' ⟨k1, k2, k3⟩ => ⟨k1, _, PY.r h1 h3 h4 h5 h6 k2 k3⟩
theorem PY.rpart (h : PY w W b s b' s' Y) (hg : NGood s') (id : ByteArray) (th : Int) :
    Calls Tryz.prog 21 #[.pointer (some ⟨b', 0, none⟩), .string id, .int .i64 th] W (RyE w b s b' (s'.parted id th) (s'.partE id th)) := by
  obtain ⟨X, h1, h2, h3, h4, h5, h6⟩ := h
  obtain ⟨_, _, _, _, _, h2⟩ := h2
  exact (rpart_any h2 hg id th).mono fun e W' ⟨k1, k2, k3⟩ => ⟨k1, _, PY.r h1 h3 h4 h5 h6 k2 k3⟩
theorem PY.rjoin (h : PY w W b s b' s' Y) (hg : NGood s') (id : ByteArray) (th : Int) :
    Calls Tryz.prog 19 #[.pointer (some ⟨b', 0, none⟩), .string id, .int .i64 th] W (RyN w W b s b' (s'.joined id th) Y (s'.joinN id th) (s'.joinE id th)) := by
  obtain ⟨X, h1, h2, h3, h4, h5, h6⟩ := h
  obtain ⟨_, _, _, _, _, h2⟩ := h2
  exact (rjoin_any h2 hg id th).mono fun e W' ⟨A, c, k1, k2, k3, k4⟩ => ⟨A, c, k1, Reads.of_own k2, k4, _, PY.r h1 h3 h4 h5 h6 k3 k4⟩
theorem PY.rhear (h : PY w W b s b' s' Y) (hg : NGood s') (x : ByteArray) :
    Calls Tryz.prog 14 #[.pointer (some ⟨b', 0, none⟩), .string x] W (RyN w W b s b' (s'.heard x) Y (s'.hearN x) (s'.hearE x)) := by
  obtain ⟨X, h1, h2, h3, h4, h5, h6⟩ := h
  obtain ⟨_, _, _, _, _, h2⟩ := h2
  exact (rhear_any h2 hg x).mono fun e W' ⟨A, c, k1, k2, k3, k4⟩ => ⟨A, c, k1, Reads.of_own k2, k4, _, PY.r h1 h3 h4 h5 h6 k3 k4⟩
theorem PY.rlevel (h : PY w W b s b' s' Y) (hg : NGood s') (id : ByteArray) :
    Calls Tryz.prog 23 #[.pointer (some ⟨b', 0, none⟩), .string id] W (LvIs (s'.lv id) (lvEr s'.D id) W) := by
  obtain ⟨X, h1, h2, h3, h4, h5, h6⟩ := h
  obtain ⟨_, _, _, _, _, h2⟩ := h2
  exact rlv_core h2.blk h2.peers h2.map hg id
/-- the reference's tick, error or not -/
theorem rtick_bad (b : Nat) (s : NSt) (hg : NGood s) (pv sv : Value) (ticks : Int) (he : s.tickE ticks ≠ 0) (w : World) (hb : Blk w b 36 (rnodeCs s.c s.now s.drops pv sv)) :
    Calls Tryz.prog 11 #[.pointer (some ⟨b, 0, none⟩), .int .i64 ticks] w fun e w' => e = .returned (.tuple #[.slice none 0 0, .slice none 0 0, .int .i64 (s.tickE ticks)]) ∧ w = w' := by
  unfold NSt.tickE at he ⊢
  by_cases h1 : ticks < 1 ∨ 1073741824 < ticks
  · rw [if_pos h1]
    exact rtick_arg b ticks (wi_false.2 h1) w
  · rw [if_neg h1] at he ⊢
    by_cases h2 : 1073741824 < s.now + ticks ∨ 64 ≤ ticks / cfe s.c
    · rw [if_pos h2]
      exact rtick_large b s hg.cfg pv sv ticks (by omega) (by omega) hg.now0 hg.now1 h2 w hb
    · rw [if_neg h2] at he
      exact absurd rfl he
theorem PY.rtick (h : PY w W b s b' s' Y) (hg : NGood s') (g : Int) :
    Calls Tryz.prog 11 #[.pointer (some ⟨b', 0, none⟩), .int .i64 g] W (RyT w W b s b' (s'.tk g) Y (s'.tkT g) (s'.tkM g) (s'.tkN g) (s'.tickE g)) := by
  have hpy := h
  obtain ⟨X, h1, h2, h3, h4, h5, h6⟩ := h
  obtain ⟨_, _, _, _, _, h2⟩ := h2
  unfold NSt.tk NSt.tkT NSt.tkM NSt.tkN
  by_cases he : s'.tickE g = 0
  · rw [if_pos he, if_pos he, if_pos he, if_pos he, he]
    exact (rtick_ok h2 hg g he).mono fun e W' ⟨A1, c1, A2, c2, k1, k2, k3, k4, k5⟩ => ⟨A1, c1, A2, c2, k1, Reads.of_own k2, Reads.of_own k3, k5, _, PY.r h1 h3 h4 h5 h6 (HoldIs.at_ (HoldIs.grow k4)) k5⟩
  · rw [if_neg he, if_neg he, if_neg he, if_neg he]
    exact (rtick_bad b' s' hg _ _ g he W h2.blk).mono fun e W' ⟨k1, k2⟩ => ⟨none, 0, none, 0, k1, Reads.none_, Reads.none_, k2 ▸ Kept.refl _ _, _, k2 ▸ hpy⟩
/-! ### what is looked at -/
theorem PY.now (h : PY w W b s b' s' Y) : Calls Tryz.prog 25 #[.pointer (some ⟨b, 0, none⟩)] W fun e w' => e = .returned (.int .i64 s.now) ∧ W = w' := by
  obtain ⟨X, h1, _⟩ := h
  obtain ⟨_, _, _, _, _, h1⟩ := h1
  exact now_any h1
theorem PY.seq (h : PY w W b s b' s' Y) : Calls Tryz.prog 26 #[.pointer (some ⟨b, 0, none⟩)] W fun e w' => e = .returned (.int .i64 s.seq) ∧ W = w' := by
  obtain ⟨X, h1, _⟩ := h
  obtain ⟨_, _, _, _, _, h1⟩ := h1
  exact seq_any h1
theorem PY.drops (h : PY w W b s b' s' Y) : Calls Tryz.prog 28 #[.pointer (some ⟨b, 0, none⟩)] W fun e w' => e = .returned (.int .i64 s.drops) ∧ W = w' := by
  obtain ⟨X, h1, _⟩ := h
  obtain ⟨_, _, _, _, _, h1⟩ := h1
  exact drops_any h1
theorem PY.sent (h : PY w W b s b' s' Y) (hg : NGood s') : Calls Tryz.prog 27 #[.pointer (some ⟨b', 0, none⟩)] W fun e w' => e = .returned (.int .i64 s'.seq) ∧ ∃ n, w' = W.drewN n := by
  obtain ⟨X, h1, h2, _⟩ := h
  obtain ⟨_, _, _, _, _, h2⟩ := h2
  rw [hg.seqs]
  exact sent_core b' s'.c s'.now s'.drops _ _ hg.now0 (by have := hg.now1; omega) hg.cfg W h2.blk
end
end Go.Proofs.YtcikljcjhijjdaaGreat
