/- hwref: Decode as one function; Hear, walked. -/
import Derived.Test.YtcikljcjhijjdaaGreatM47
import Derived.Test.YtcikljcjhijjdaaGreatM27
import Derived.Test.YtcikljcjhijjdaaGreatM37
namespace Go.Proofs.YtcikljcjhijjdaaGreat
open Go.RowKit Go.Lib
set_option linter.unusedSimpArgs false
set_option linter.unusedVariables false

theorem rdec_any (s : ByteArray) (w : World) : Calls Tryz.prog 45 #[.string s] w (DecIs (decR s).1 (decR s).2.1 (decR s).2.2.1 (decR s).2.2.2 w) := by
  unfold decR
  by_cases h1 : s.size < 2
  · rw [if_pos h1]; exact rdec_short s h1 w
  rw [if_neg h1, byteAt_get s 0 (by omega), byteAt_get s 1 (by omega)]
  by_cases h2 : (s[0]).toNat ≠ 72
  · rw [if_pos h2]; exact rdec_h s (by omega) h2 w
  rw [if_neg h2]
  have h2 : (s[0]).toNat = 72 := Classical.not_not.1 h2
  by_cases h3 : (s[1]).toNat = 0
  · rw [if_pos (.inl h3)]; exact rdec_k0 s (by omega) h2 h3 w
  by_cases h3' : 8 < (s[1]).toNat
  · rw [if_pos (.inr h3')]; exact rdec_k9 s _ (by omega) h2 rfl h3' w
  rw [if_neg (by omega)]
  by_cases h4 : s.size < 14 + (s[1]).toNat
  · rw [if_pos h4]; exact rdec_less s _ (by omega) h2 rfl (by omega) (by omega) h4 w
  rw [if_neg h4]
  by_cases h5 : 14 + (s[1]).toNat < s.size
  · rw [if_pos h5]; exact rdec_more s _ (by omega) h2 rfl (by omega) (by omega) h5 w
  rw [if_neg h5]
  by_cases h6 : crcV (s.extract 0 (10 + (s[1]).toNat)) ≠ num4 s (10 + (s[1]).toNat)
  · rw [if_pos h6]; exact rdec_sum s _ (by omega) h2 rfl (by omega) (by omega) (by omega) h6 w
  rw [if_neg h6]
  have h6 := Classical.not_not.1 h6
  by_cases h7 : beatE (s.extract 2 (2 + (s[1]).toNat)) (num4 s (2 + (s[1]).toNat)) (num4 s (6 + (s[1]).toNat)) ≠ 0
  · rw [if_pos h7]; exact rdec_bad s _ (by omega) h2 rfl (by omega) (by omega) (by omega) h6 _ rfl h7 w
  rw [if_neg h7]
  exact rdec_good s _ (by omega) h2 rfl (by omega) (by omega) (by omega) h6 (Classical.not_not.1 h7) w
/-- the answer of Hear -/
def RHrIs (X : Nat → Prop) (b : Nat) (s' : NSt) (N : List TriD) (er : Int) (w : World) (e : Ending) (w' : World) : Prop :=
  ∃ A c, e = .returned (.tuple #[.slice A N.length c, .int .i64 er]) ∧ w'.ownsRow w.heap.size 52 3 (.slice A N.length c) N.length (cells3 N) ∧ RNodeAt (grow X w w') w' b s' ∧ Kept X w w'
theorem RHrIs.no {X : Nat → Prop} {b : Nat} {s' : NSt} {er : Int} {w w' : World} (h : RNodeAt (grow X w w') w' b s') (hk : Kept X w w') : RHrIs X b s' [] er w (.returned (.tuple #[.slice none 0 0, .int .i64 er])) w' :=
  ⟨none, 0, rfl, World.ownsRow_nil _ _ _ _, h, hk⟩

section
variable {X : Nat → Prop} {w : World} {b pn pc : Nat} {A : Option Addr} {sv : Value} {l : List PeerT} {s : NSt}
set_option maxHeartbeats 1000000 in
set_option maxRecDepth 100000 in
theorem rhr_dec (h : RNodeIs X w b A pn pc sv l s) (hg : NGood s) (x : ByteArray) {id : ByteArray} {i q er : Int} (he : decR x = (id, i, q, er)) (hz : er ≠ 0) :
    Calls Tryz.prog 14 #[.pointer (some ⟨b, 0, none⟩), .string x] w (RHrIs X b s.drop [] er w) := by
  have HH := Lib.hid h
  have HG := Lib.hid hg
  have HX := Lib.hid h.xlt
  have hbl := h.blk.lt
  have hd0 := hg.drops0
  have hd1 := hg.drops1
  have hn0 := hg.now0
  have hn1 := hg.now1
  have HE := Lib.hid he
  have HD := Lib.hid (fun W => rdec_any x W)
  simp only [he] at HD
  clear h hg he
  go_enter Tryz.func14, Tryz.ntmps14
  go_wp2_with fail
  refine (HD.out _).mono ?_
  rintro e' w1 ⟨rfl, hb1⟩
  have N1 := Lib.hid (HoldIs.below HH.out hb1)
  have B1 := Lib.hid hb1
  have hs1 := hb1.size
  clear hb1
  have E1 := Lib.hid (B1.out.alloc hs1 (.cells #[.string id, .int .i64 i, .int .i64 q] 72))
  have N2 := Lib.hid (HoldIs.below HH.out E1.out)
  have hbl2 := N2.out.blk.lt
  have b7 := N2.out.blk.cell 6
  have f7 := N2.out.blk.frozen 6
  simp [rnodeCs] at b7 f7
  have NS := Lib.hid (HoldIs.set (mk' := rnodeCs s.c s.now (min (s.drops + 1) 1073741824)) N2.out 6 (.int .i64 (min 1073741824 (s.drops + 1))) (by rw [Int.min_comm 1073741824 (s.drops + 1)]; rfl))
  have KS := Lib.hid ((Kept.of_below (X := X) E1.out).setCell (a := ⟨b, 6, none⟩) (.inl HH.out.xb) (.int .i64 (min 1073741824 (s.drops + 1))))
  clear N1 B1
  go_wp2
  all_goals first
    | (exfalso; omega)
    | (refine bodyPost_ret (v := .tuple #[.slice none 0 0, .int .i64 er]) (by simp [results, Tryz.results14, go_sem]) rfl ?_; exact .no (HoldIs.at_ (HoldIs.grow NS.out)) KS.out)

set_option maxHeartbeats 1000000 in
set_option maxRecDepth 100000 in
theorem rhr_none (h : RNodeIs X w b A pn pc sv l s) (hg : NGood s) (x : ByteArray) {id : ByteArray} {i q : Int} (he : decR x = (id, i, q, 0)) (hb : beatE id i q = 0) (hno : idxOf s.D id = none) :
    Calls Tryz.prog 14 #[.pointer (some ⟨b, 0, none⟩), .string x] w (RHrIs X b s.drop [] 4 w) := by
  have HH := Lib.hid h
  have HG := Lib.hid hg
  have HX := Lib.hid h.xlt
  have hbl := h.blk.lt
  have hd0 := hg.drops0
  have hd1 := hg.drops1
  have hn0 := hg.now0
  have hn1 := hg.now1
  have HB := Lib.hid hb
  have hmm : pn ≤ maxLen := Nat.le_trans h.room.1 h.room.2
  have he0 : peersE l = 0 := by rw [peersE_map, h.map]; exact hg.ps.zero
  have HD := Lib.hid (fun W => rdec_any x W)
  simp only [he] at HD
  have HP0 := Lib.hid (show ∀ W, Below w.heap.size w W → Calls Tryz.prog 46 #[.slice A pn pc, .agg #[.string id, .int .i64 i, .int .i64 q], .int .i64 s.now] W (HearNo 4 W) from fun W hw => rhear_none A pc w.heap.size pn l hmm id i q s.now W (h.peers.below hw (Nat.le_refl _)) hw.size hb hn0 hn1 (idx_none_l h.map hno))
  clear h hg he hb he0 hno
  go_enter Tryz.func14, Tryz.ntmps14
  go_wp2_with fail
  refine (HD.out _).mono ?_
  rintro e' w1 ⟨rfl, hb1⟩
  have N1 := Lib.hid (HoldIs.below HH.out hb1)
  have B1 := Lib.hid hb1
  have hs1 := hb1.size
  clear hb1
  have hid8 : id.size ≤ 8 := (beatE_zero HB.out).1
  have E1 := Lib.hid ((Env.start w1).lay #[.string id, .int .i64 i, .int .i64 q] 72)
  have N2 := Lib.hid (HoldIs.below N1.out E1.out.bel)
  have BW := Lib.hid (B1.out.trans (E1.out.bel.mono hs1))
  go_upto_region 18 with fail
  generalize hW2 : World.alloc w1 _ = w2 at *
  have hs12 : w2.heap.size = w1.heap.size + 1 := by rw [← hW2]; simp
  clear hW2
  have hbl2 := N2.out.blk.lt
  have HS := Lib.hid (show ∀ w', Below w2.heap.size w2 w' → (Below w2.heap.size w2 w' ∧ w'.cell? ⟨b, 7, none⟩ = some (.slice A pn pc) ∧ w'.cell? ⟨b, 5, none⟩ = some (.int .i64 s.now) ∧ w'.cell? ⟨w1.heap.size, 0, none⟩ = some (.string id) ∧ w'.cell? ⟨w1.heap.size, 1, none⟩ = some (.int .i64 i) ∧ w'.cell? ⟨w1.heap.size, 2, none⟩ = some (.int .i64 q))
    from fun w' h => ⟨h, (N2.out.blk.below h hbl2).cell 7, (N2.out.blk.below h hbl2).cell 5, (E1.out.below h).hd.cell 0, (E1.out.below h).hd.cell 1, (E1.out.below h).hd.cell 2⟩)
  have HP := Lib.hid (fun W (hw : Below w2.heap.size w2 W) => HP0.out W (BW.out.trans (hw.mono (by omega))))
  go_region_held3 (fun w' => Below w2.heap.size w2 w' ∧ w'.cell? ⟨b, 7, none⟩ = some (.slice A pn pc) ∧ w'.cell? ⟨b, 5, none⟩ = some (.int .i64 s.now) ∧ w'.cell? ⟨w1.heap.size, 0, none⟩ = some (.string id) ∧ w'.cell? ⟨w1.heap.size, 1, none⟩ = some (.int .i64 i) ∧ w'.cell? ⟨w1.heap.size, 2, none⟩ = some (.int .i64 q))
    ((refine HS.out _ ?_; repeat (first | (with_reducible exact hL3) | (with_reducible exact Below.refl _ _) | (with_reducible refine Below.al5 ?_) | (with_reducible refine Below.drew ?_))))
    ((go_at_call 46; (with_reducible refine (HP.out _ ?ia).mono ?_); (case ia => repeat (first | (with_reducible exact Below.refl _ _) | (with_reducible refine Below.al5 ?_) | (with_reducible refine Below.drew ?_))); rintro e' w3 ⟨rfl, hb3⟩; have hL3 : Below w2.heap.size w2 w3 := Below.thru5 (by repeat (first | (with_reducible exact Below.refl _ _) | (with_reducible refine Below.al5 ?_) | (with_reducible refine Below.drew ?_))) hb3))
  all_goals
    have E3 := Lib.hid (BW.out.trans (hL3.mono (by omega)))
    have N3 := Lib.hid (HoldIs.below HH.out E3.out)
    have hbl3 := N3.out.blk.lt
    have b7 := N3.out.blk.cell 6
    have f7 := N3.out.blk.frozen 6
    simp [rnodeCs] at b7 f7
    have NS := Lib.hid (HoldIs.set (mk' := rnodeCs s.c s.now (min (s.drops + 1) 1073741824)) N3.out 6 (.int .i64 (min 1073741824 (s.drops + 1))) (by rw [Int.min_comm 1073741824 (s.drops + 1)]; rfl))
    have KS := Lib.hid ((Kept.of_below (X := X) E3.out).setCell (a := ⟨b, 6, none⟩) (.inl HH.out.xb) (.int .i64 (min 1073741824 (s.drops + 1))))
    clear hL3 hb3
    go_wp2
    refine bodyPost_ret (v := .tuple #[.slice none 0 0, .int .i64 4]) (by simp [results, Tryz.results14, go_sem]) rfl ?_
    exact .no (HoldIs.at_ (HoldIs.grow NS.out)) KS.out

set_option maxHeartbeats 1000000 in
set_option maxRecDepth 100000 in
theorem rhr_old (h : RNodeIs X w b A pn pc sv l s) (hg : NGood s) (x : ByteArray) {id : ByteArray} {i q : Int} (he : decR x = (id, i, q, 0)) (hb : beatE id i q = 0) (k : Nat) (hk : k < s.D.length) (hkid : (s.D[k]'hk).1 = id) (hnw : ¬ Newer (s.D[k]'hk).2.1.1 (s.D[k]'hk).2.1.2.1 i q) :
    Calls Tryz.prog 14 #[.pointer (some ⟨b, 0, none⟩), .string x] w (RHrIs X b { s with D := heardO s.D k, drops := min (s.drops + 1) 1073741824 } [] 5 w) := by
  have HH := Lib.hid h
  have HG := Lib.hid hg
  have HX := Lib.hid h.xlt
  have hbl := h.blk.lt
  have hd0 := hg.drops0
  have hd1 := hg.drops1
  have hn0 := hg.now0
  have hn1 := hg.now1
  have HB := Lib.hid hb
  have hmm : pn ≤ maxLen := Nat.le_trans h.room.1 h.room.2
  have he0 : peersE l = 0 := by rw [peersE_map, h.map]; exact hg.ps.zero
  have HD := Lib.hid (fun W => rdec_any x W)
  simp only [he] at HD
  have hkl : k < l.length := by have e := congrArg List.length h.map; rw [List.length_map] at e; omega
  have hD : s.D[k]'hk = (l[k]'hkl).1 := by simp only [← h.map, List.getElem_map]
  have hdl : (s.D[k]'hk).2.2.2.2 ≤ s.now := (hg.pv _ (List.getElem_mem hk)).2
  have hpd : pid (l[k]'hkl) = id := by rw [← hkid, hD]
  have HP0 := Lib.hid (show ∀ W, Below w.heap.size w W → Calls Tryz.prog 46 #[.slice A pn pc, .agg #[.string id, .int .i64 i, .int .i64 q], .int .i64 s.now] W (HearIs A l (heardO s.D k) pn false W) from fun W hw => by have hh := rhear_old A pc w.heap.size pn l hmm id i q s.now W (h.peers.below hw (Nat.le_refl _)) hw.size hb hn0 hn1 (peersE_zero he0).2.1 (peersE_zero he0).2.2 (by rw [← h.peers.len]; exact (peersE_zero he0).1) k hkl hpd (by show (l[k]'hkl).1.2.2.2.2 ≤ s.now; rw [← hD]; exact hdl) (by show ¬ Newer (l[k]'hkl).1.2.1.1 (l[k]'hkl).1.2.1.2.1 i q; rw [← hD]; exact hnw); rw [h.map] at hh; simp only [pgd] at hh; rw [← hD] at hh; unfold heardO; rw [List.getElem?_eq_getElem hk]; exact hh)
  clear h hg he hb he0 hkid hnw hD hdl hpd
  go_enter Tryz.func14, Tryz.ntmps14
  go_wp2_with fail
  refine (HD.out _).mono ?_
  rintro e' w1 ⟨rfl, hb1⟩
  have N1 := Lib.hid (HoldIs.below HH.out hb1)
  have B1 := Lib.hid hb1
  have hs1 := hb1.size
  clear hb1
  have hid8 : id.size ≤ 8 := (beatE_zero HB.out).1
  have E1 := Lib.hid ((Env.start w1).lay #[.string id, .int .i64 i, .int .i64 q] 72)
  have N2 := Lib.hid (HoldIs.below N1.out E1.out.bel)
  have BW := Lib.hid (B1.out.trans (E1.out.bel.mono hs1))
  go_upto_region 18 with fail
  generalize hW2 : World.alloc w1 _ = w2 at *
  have hs12 : w2.heap.size = w1.heap.size + 1 := by rw [← hW2]; simp
  clear hW2
  have hbl2 := N2.out.blk.lt
  have HS := Lib.hid (show ∀ w', Below w2.heap.size w2 w' → (Below w2.heap.size w2 w' ∧ w'.cell? ⟨b, 7, none⟩ = some (.slice A pn pc) ∧ w'.cell? ⟨b, 5, none⟩ = some (.int .i64 s.now) ∧ w'.cell? ⟨w1.heap.size, 0, none⟩ = some (.string id) ∧ w'.cell? ⟨w1.heap.size, 1, none⟩ = some (.int .i64 i) ∧ w'.cell? ⟨w1.heap.size, 2, none⟩ = some (.int .i64 q))
    from fun w' h => ⟨h, (N2.out.blk.below h hbl2).cell 7, (N2.out.blk.below h hbl2).cell 5, (E1.out.below h).hd.cell 0, (E1.out.below h).hd.cell 1, (E1.out.below h).hd.cell 2⟩)
  have HP := Lib.hid (fun W (hw : Below w2.heap.size w2 W) => HP0.out W (BW.out.trans (hw.mono (by omega))))
  go_region_held3 (fun w' => Below w2.heap.size w2 w' ∧ w'.cell? ⟨b, 7, none⟩ = some (.slice A pn pc) ∧ w'.cell? ⟨b, 5, none⟩ = some (.int .i64 s.now) ∧ w'.cell? ⟨w1.heap.size, 0, none⟩ = some (.string id) ∧ w'.cell? ⟨w1.heap.size, 1, none⟩ = some (.int .i64 i) ∧ w'.cell? ⟨w1.heap.size, 2, none⟩ = some (.int .i64 q))
    ((refine HS.out _ ?_; repeat (first | (with_reducible exact hL3) | (with_reducible exact Below.refl _ _) | (with_reducible refine Below.al5 ?_) | (with_reducible refine Below.drew ?_))))
    ((go_at_call 46; (with_reducible refine (HP.out _ ?ia).mono ?_); (case ia => repeat (first | (with_reducible exact Below.refl _ _) | (with_reducible refine Below.al5 ?_) | (with_reducible refine Below.drew ?_))); rintro e' w3 ⟨A3, c3, l3, rfl, hm3, hp3, hb3, hr3, hk3⟩; have hL3 : Below w2.heap.size w2 w3 := Below.thru5 (by repeat (first | (with_reducible exact Below.refl _ _) | (with_reducible refine Below.al5 ?_) | (with_reducible refine Below.drew ?_))) hb3))
  all_goals
    have E3 := Lib.hid (BW.out.trans (hL3.mono (by omega)))
    have hbl3 : b < w3.heap.size := by have := E3.out.size; omega
    have N3 := Lib.hid (HoldIs.below HH.out E3.out)
    have HK3 := Lib.hid (keeps_from hk3 (by have := BW.out.size; first | exact this | (simp; omega)))
    have NT := Lib.hid (HoldIs.turn (mk' := rnodeCs s.c s.now s.drops) (i := 7) HH.out E3.out hp3 hm3 hr3 HK3.out rfl)
    have KT := Lib.hid ((Kept.of_below (X := X) E3.out).setCell (a := ⟨b, 7, none⟩) (.inl HH.out.xb) (.slice A3 pn c3))
    have f8 := N3.out.blk.frozen 7
    have b7 := NT.out.blk.cell 6
    have f7 := NT.out.blk.frozen 6
    simp [rnodeCs] at b7 f7 f8
    have NS := Lib.hid (HoldIs.set (mk' := rnodeCs s.c s.now (min (s.drops + 1) 1073741824)) NT.out 6 (.int .i64 (min 1073741824 (s.drops + 1))) (by rw [Int.min_comm 1073741824 (s.drops + 1)]; rfl))
    have KS := Lib.hid (KT.out.setCell (a := ⟨b, 6, none⟩) (.inl HH.out.xb) (.int .i64 (min 1073741824 (s.drops + 1))))
    clear hL3 hb3 hm3 hp3 hr3 hk3
    go_wp2
    refine bodyPost_ret (v := .tuple #[.slice none 0 0, .int .i64 5]) (by simp [results, Tryz.results14, go_sem]) rfl ?_
    exact .no (HoldAt.wide (HoldIs.at_ NS.out) (grow_of (by simp [World.setCell])) (fun k hk => hk.2)) KS.out

set_option maxHeartbeats 1000000 in
set_option maxRecDepth 100000 in
theorem rhr_new (h : RNodeIs X w b A pn pc sv l s) (hg : NGood s) (x : ByteArray) {id : ByteArray} {i q : Int} (he : decR x = (id, i, q, 0)) (hb : beatE id i q = 0) (k : Nat) (hk : k < s.D.length) (hkid : (s.D[k]'hk).1 = id) (hnw : Newer (s.D[k]'hk).2.1.1 (s.D[k]'hk).2.1.2.1 i q) (hg2 : NGood { s with D := heardN s.D k i q s.now }) :
    Calls Tryz.prog 14 #[.pointer (some ⟨b, 0, none⟩), .string x] w (RHrIs X b (NSt.tell { s with D := heardN s.D k i q s.now }) (NSt.notes { s with D := heardN s.D k i q s.now }) 0 w) := by
  have HH := Lib.hid h
  have HG := Lib.hid hg
  have HX := Lib.hid h.xlt
  have hbl := h.blk.lt
  have hd0 := hg.drops0
  have hd1 := hg.drops1
  have hn0 := hg.now0
  have hn1 := hg.now1
  have HB := Lib.hid hb
  have hmm : pn ≤ maxLen := Nat.le_trans h.room.1 h.room.2
  have he0 : peersE l = 0 := by rw [peersE_map, h.map]; exact hg.ps.zero
  have HD := Lib.hid (fun W => rdec_any x W)
  simp only [he] at HD
  have hkl : k < l.length := by have e := congrArg List.length h.map; rw [List.length_map] at e; omega
  have hD : s.D[k]'hk = (l[k]'hkl).1 := by simp only [← h.map, List.getElem_map]
  have hdl : (s.D[k]'hk).2.2.2.2 ≤ s.now := (hg.pv _ (List.getElem_mem hk)).2
  have hpd : pid (l[k]'hkl) = id := by rw [← hkid, hD]
  have HP0 := Lib.hid (show ∀ W, Below w.heap.size w W → Calls Tryz.prog 46 #[.slice A pn pc, .agg #[.string id, .int .i64 i, .int .i64 q], .int .i64 s.now] W (HearIs A l (heardN s.D k i q s.now) pn true W) from fun W hw => by have hh := rhear_new A pc w.heap.size pn l hmm id i q s.now W (h.peers.below hw (Nat.le_refl _)) hw.size hb hn0 hn1 (peersE_zero he0).2.1 (peersE_zero he0).2.2 (by rw [← h.peers.len]; exact (peersE_zero he0).1) k hkl hpd (by show (l[k]'hkl).1.2.2.2.2 ≤ s.now; rw [← hD]; exact hdl) (by show Newer (l[k]'hkl).1.2.1.1 (l[k]'hkl).1.2.1.2.1 i q; rw [← hD]; exact hnw); rw [h.map] at hh; simp only [plast] at hh; rw [← hD] at hh; unfold heardN; rw [List.getElem?_eq_getElem hk]; exact hh)
  clear h hg he hb he0 hkid hnw hD hdl hpd
  have HG2 := Lib.hid hg2
  clear hg2
  go_enter Tryz.func14, Tryz.ntmps14
  go_wp2_with fail
  refine (HD.out _).mono ?_
  rintro e' w1 ⟨rfl, hb1⟩
  have N1 := Lib.hid (HoldIs.below HH.out hb1)
  have B1 := Lib.hid hb1
  have hs1 := hb1.size
  clear hb1
  have hid8 : id.size ≤ 8 := (beatE_zero HB.out).1
  have E1 := Lib.hid ((Env.start w1).lay #[.string id, .int .i64 i, .int .i64 q] 72)
  have N2 := Lib.hid (HoldIs.below N1.out E1.out.bel)
  have BW := Lib.hid (B1.out.trans (E1.out.bel.mono hs1))
  go_upto_region 18 with fail
  generalize hW2 : World.alloc w1 _ = w2 at *
  have hs12 : w2.heap.size = w1.heap.size + 1 := by rw [← hW2]; simp
  clear hW2
  have hbl2 := N2.out.blk.lt
  have HS := Lib.hid (show ∀ w', Below w2.heap.size w2 w' → (Below w2.heap.size w2 w' ∧ w'.cell? ⟨b, 7, none⟩ = some (.slice A pn pc) ∧ w'.cell? ⟨b, 5, none⟩ = some (.int .i64 s.now) ∧ w'.cell? ⟨w1.heap.size, 0, none⟩ = some (.string id) ∧ w'.cell? ⟨w1.heap.size, 1, none⟩ = some (.int .i64 i) ∧ w'.cell? ⟨w1.heap.size, 2, none⟩ = some (.int .i64 q))
    from fun w' h => ⟨h, (N2.out.blk.below h hbl2).cell 7, (N2.out.blk.below h hbl2).cell 5, (E1.out.below h).hd.cell 0, (E1.out.below h).hd.cell 1, (E1.out.below h).hd.cell 2⟩)
  have HP := Lib.hid (fun W (hw : Below w2.heap.size w2 W) => HP0.out W (BW.out.trans (hw.mono (by omega))))
  go_region_held3 (fun w' => Below w2.heap.size w2 w' ∧ w'.cell? ⟨b, 7, none⟩ = some (.slice A pn pc) ∧ w'.cell? ⟨b, 5, none⟩ = some (.int .i64 s.now) ∧ w'.cell? ⟨w1.heap.size, 0, none⟩ = some (.string id) ∧ w'.cell? ⟨w1.heap.size, 1, none⟩ = some (.int .i64 i) ∧ w'.cell? ⟨w1.heap.size, 2, none⟩ = some (.int .i64 q))
    ((refine HS.out _ ?_; repeat (first | (with_reducible exact hL3) | (with_reducible exact Below.refl _ _) | (with_reducible refine Below.al5 ?_) | (with_reducible refine Below.drew ?_))))
    ((go_at_call 46; (with_reducible refine (HP.out _ ?ia).mono ?_); (case ia => repeat (first | (with_reducible exact Below.refl _ _) | (with_reducible refine Below.al5 ?_) | (with_reducible refine Below.drew ?_))); rintro e' w3 ⟨A3, c3, l3, rfl, hm3, hp3, hb3, hr3, hk3⟩; have hL3 : Below w2.heap.size w2 w3 := Below.thru5 (by repeat (first | (with_reducible exact Below.refl _ _) | (with_reducible refine Below.al5 ?_) | (with_reducible refine Below.drew ?_))) hb3))
  all_goals
    have E3 := Lib.hid (BW.out.trans (hL3.mono (by omega)))
    have hbl3 : b < w3.heap.size := by have := E3.out.size; omega
    have N3 := Lib.hid (HoldIs.below HH.out E3.out)
    have HK3 := Lib.hid (keeps_from hk3 (by have := BW.out.size; first | exact this | (simp; omega)))
    have NT := Lib.hid (show RNodeIs (grow X w w3) (w3.setCell ⟨b, 7, none⟩ (.slice A3 pn c3)) b A3 pn c3 sv l3 { s with D := heardN s.D k i q s.now } from HoldIs.turn (mk' := rnodeCs s.c s.now s.drops) (i := 7) HH.out E3.out hp3 hm3 hr3 HK3.out rfl)
    have KT := Lib.hid ((Kept.of_below (X := X) E3.out).setCell (a := ⟨b, 7, none⟩) (.inl HH.out.xb) (.slice A3 pn c3))
    have f8 := N3.out.blk.frozen 7
    have hsz : (w3.setCell ⟨b, 7, none⟩ (.slice A3 pn c3)).heap.size = w3.heap.size := by simp [World.setCell]
    have hw3 := E3.out.size
    clear hL3 hb3 hm3 hp3 hr3 hk3
    go_wp2_with fail
    refine (rnotes_any NT.out HG2.out).mono ?_
    rintro e' w6 ⟨A6, c6, rfl, hown6, hn6, hk6⟩
    have FIN := Lib.hid (show RHrIs X b (NSt.tell { s with D := heardN s.D k i q s.now }) (NSt.notes { s with D := heardN s.D k i q s.now }) 0 w (.returned (.tuple #[.slice A6 (NSt.notes { s with D := heardN s.D k i q s.now }).length c6, .int .i64 0])) w6 from
      ⟨A6, c6, rfl, ownsRow_base hown6 (by rw [hsz]; exact hw3), HoldAt.wide (HoldIs.at_ hn6) (grow_of (by have := hk6.size; rw [hsz] at this; exact this)) (fun k hk => hk.2), KT.out.then hk6 (fun k hk => hk.1)⟩)
    clear hown6 hn6 hk6
    go_wp2
    exact bodyPost_ret (v := .tuple #[.slice A6 (NSt.notes { s with D := heardN s.D k i q s.now }).length c6, .int .i64 0]) (by simp [results, Tryz.results14, go_sem]) rfl FIN.out

theorem rhear_any (h : RNodeIs X w b A pn pc sv l s) (hg : NGood s) (x : ByteArray) :
    Calls Tryz.prog 14 #[.pointer (some ⟨b, 0, none⟩), .string x] w (RHrIs X b (s.heard x) (s.hearN x) (s.hearE x) w) := by
  have hgm := hg.mid x
  obtain ⟨id, i, q, er, he⟩ : ∃ id i q er, decR x = (id, i, q, er) := ⟨_, _, _, _, rfl⟩
  unfold NSt.heard NSt.hearN NSt.hearE
  unfold NSt.mid at hgm ⊢
  have hkd : s.kind x = if er ≠ 0 then .no er else match idxOf s.D id with | none => .no 4 | some k => if isNew s.D k i q = true then .new k i q else .old k := by unfold NSt.kind; rw [he]; rfl
  by_cases hz : er ≠ 0
  · rw [if_pos hz] at hkd
    rw [hkd]
    show Calls _ _ _ _ (RHrIs X b (if er = 0 then s.drop.tell else s.drop) (if er = 0 then s.drop.notes else []) er w)
    rw [if_neg hz, if_neg hz]
    exact rhr_dec h hg x he hz
  have hz := Classical.not_not.1 hz
  subst hz
  rw [if_neg (by simp)] at hkd
  have hb : beatE id i q = 0 := by have := decR_zero (s := x) (by rw [he]); rw [he] at this; exact this
  cases hi : idxOf s.D id with
  | none =>
    rw [hi] at hkd
    rw [hkd]
    show Calls _ _ _ _ (RHrIs X b (if (4 : Int) = 0 then s.drop.tell else s.drop) (if (4 : Int) = 0 then s.drop.notes else []) 4 w)
    rw [if_neg (by decide), if_neg (by decide)]
    exact rhr_none h hg x he hb hi
  | some k =>
    rw [hi] at hkd
    obtain ⟨hk, h1, h2⟩ := idx_some hi
    have hin : isNew s.D k i q = decide (Newer (s.D[k]'hk).2.1.1 (s.D[k]'hk).2.1.2.1 i q) := by unfold isNew; rw [List.getElem?_eq_getElem hk]
    by_cases hn : Newer (s.D[k]'hk).2.1.1 (s.D[k]'hk).2.1.2.1 i q
    · have hkd2 : s.kind x = .new k i q := by rw [hkd]; show (if isNew s.D k i q = true then HK.new k i q else HK.old k) = _; rw [hin, if_pos (by simpa using hn)]
      rw [hkd2] at hgm ⊢
      exact rhr_new h hg x he hb k hk h1 hn hgm
    · have hkd2 : s.kind x = .old k := by rw [hkd]; show (if isNew s.D k i q = true then HK.new k i q else HK.old k) = _; rw [hin, if_neg (by simpa using hn)]
      rw [hkd2]
      exact rhr_old h hg x he hb k hk h1 hn
end
end Go.Proofs.YtcikljcjhijjdaaGreat
