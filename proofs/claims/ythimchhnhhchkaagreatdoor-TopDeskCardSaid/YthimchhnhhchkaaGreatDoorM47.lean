/- The desk's closures that ask a town: tick, bring, lose, stop, ask, join, way. (with what it needs) -/
import Derived.Test.YthimchhnhhchkaaGreatDoorM44
import Derived.Test.YthimchhnhhchkaaGreatDoorM43
import Derived.Test.YthimchhnhhchkaaGreatDoorM39
import Derived.Deep.RegionHeld2
namespace Go.Proofs.YthimchhnhhchkaaGreatDoor
open Go.RowKit Go.Lib
set_option linter.unusedSimpArgs false
set_option linter.unusedVariables false

/-- how one number is told -/
def SayO (n er : Int) (out : ByteArray) : Prop := ∀ (W : World), Calls Tryz.prog 39 #[.int .i64 n, .int .i64 er] W fun x W' => AnsE er out x ∧ Below W.heap.size W W'
theorem sayO_ok {k : Nat} (hk : k < 100) : SayO (k : Int) 0 (toldT [k]) := fun W => (one_ok k hk W).mono fun x W' ⟨h1, h2⟩ => ⟨.inl ⟨rfl, h1⟩, h2⟩
theorem sayO_no {n er : Int} (he : er ≠ 0) (out : ByteArray) : SayO n er out := fun W => (one_no n er he W).mono fun x W' ⟨h1, h2⟩ => ⟨.inr ⟨he, h1⟩, h2 ▸ Below.refl _ _⟩
theorem SayO.ok {n er : Int} {out : ByteArray} (h : SayO n er out) (he : er = 0) (W : World) : Calls Tryz.prog 39 #[.int .i64 n, .int .i64 0] W fun x W' => x = .returned (.string out) ∧ Below W.heap.size W W' := by
  subst he
  exact (h W).mono fun x W' ⟨h1, h2⟩ => ⟨h1.elim (fun a => a.2) (fun a => absurd rfl a.1), h2⟩
theorem SayO.no {n er : Int} {out : ByteArray} (h : SayO n er out) (he : er ≠ 0) (W : World) : Calls Tryz.prog 39 #[.int .i64 n, .int .i64 er] W fun x W' => x = fltE er ∧ Below W.heap.size W W' :=
  (h W).mono fun x W' ⟨h1, h2⟩ => ⟨h1.elim (fun a => absurd a.1 he) (fun a => a.2), h2⟩
/-- the level of a node's peer, as the town tells it -/
def TSt.lvE (t : TSt) (i : Int) (id : ByteArray) : Int := if t.lives i = true then lvEr (t.at i).D id else 4
def TSt.lvV (t : TSt) (i : Int) (id : ByteArray) : Int := if t.lives i = true then (t.at i).lv id else 0
theorem tlevel_any {F : Nat → Nat} {W : World} {tb : Nat} {t : TSt} (h : TwAt F W tb t) (hg : TGood t) (i : Int) (id : ByteArray) :
    Calls Tryz.prog 84 #[.pointer (some ⟨tb, 0, none⟩), .int .i64 i, .string id] W (LvIs (t.lvV i id) (t.lvE i id) W) := by
  obtain ⟨_, _, _, _, _, _, h⟩ := h
  unfold TSt.lvV TSt.lvE
  by_cases hl : t.lives i = true
  · rw [if_pos hl, if_pos hl]
    obtain ⟨k, rfl, hk, hd⟩ := lives_true hl
    rw [TSt.at_is hk]
    exact tlevel_ok h k hk hd (hg.good _ (List.getElem_mem hk)) id
  · rw [if_neg hl, if_neg hl]
    exact (tlevel_no h i (lives_false (by simpa using hl)) id).mono fun e W' ⟨k1, k2⟩ => ⟨k1, k2 ▸ Below.refl _ _⟩
end Go.Proofs.YthimchhnhhchkaaGreatDoor

namespace Go.Proofs.YthimchhnhhchkaaGreatDoor
open Go.RowKit Go.Lib
set_option linter.unusedSimpArgs false
set_option linter.unusedVariables false

set_option maxHeartbeats 1000000 in
set_option maxRecDepth 100000 in
theorem asks_tick {w W : World} {F : Nat → Nat} {pd pi db tb : Nat} {nv : Value} {t : TSt} {g : Int} (hC : Col w W F) (ht : TwAt F W tb t) (hg : TGood t) (hpd : BoxA F W pd 35 #[.pointer (some ⟨db, 0, none⟩)]) (hpi : BoxA F W pi 3 #[.int .i64 g]) (hk : BlkC F 31 W db 39 #[.pointer (some ⟨tb, 0, none⟩), nv]) {out : ByteArray} (hs : SayN (t.tickN g) (t.tickE g) out) :
    Calls Tryz.prog 74 #[.pointer (some ⟨pd, 0, none⟩), .pointer (some ⟨pi, 0, none⟩)] W fun e W' => AnsE (t.tickE g) out e ∧ TwTo w F W tb (t.ticked g) W' := by
  have HT := Lib.hid (there_ok db tb nv W hk.1)
  have HM := Lib.hid (show ∀ W1, Below W.heap.size W W1 → Calls Tryz.prog 76 #[.pointer (some ⟨tb, 0, none⟩), .int .i64 g] W1 fun e W' => ∃ A c, e = .returned (.tuple #[.slice A (t.tickN g).length c, .int .i64 (t.tickE g)]) ∧ Reads W' W'.heap.size 3 A (t.tickN g).length (cells3 (t.tickN g)) ∧ TwTo w F W tb (t.ticked g) W' from fun W1 hb => by
    obtain ⟨_, _, _, _, _, _, k⟩ := ht.belowC hC hg.five hb
    exact (ttick_any k (hC.below hb) hg g).mono fun e W' ⟨A, c, q1, q2, q3⟩ => ⟨A, c, q1, Reads.of_own q2, q3.from_ hC hb⟩)
  have HG := Lib.hid (show TGood (t.ticked g) from hg.ticked g)
  have HS := Lib.hid (show ∀ w', Kept (fun k => ProgC (F k)) W w' → (w'.cell? ⟨pd, 0, none⟩ = some (.pointer (some ⟨db, 0, none⟩)) ∧ w'.cell? ⟨pi, 0, none⟩ = some (.int .i64 g) ∧ w'.cell? ⟨db, 0, none⟩ = some (.pointer (some ⟨tb, 0, none⟩))) from fun w' h => ⟨hpd.cellK h 0, hpi.cellK h 0, hk.cellK h 0⟩)
  obtain ⟨c0, c1, c2⟩ := HS.out W (.refl _ _)
  have lpd := hpd.blk.lt
  have lpi := hpi.blk.lt
  have ldb := hk.1.lt
  have HY := Lib.hid hs
  clear ht hC hpd hpi hk hg hs
  generalize t.tickE g = er at *
  generalize t.tickN g = N at *
  generalize t.ticked g = t' at *
  go_enter Tryz.func74, Tryz.ntmps74
  go_wp2_with fail
  refine HT.out.mono ?_
  rintro e' w1 ⟨rfl, rfl⟩
  by_cases he : er = 0
  · subst he
    go_wp2_with fail
    go_region_held3 (fun w' => w'.cell? ⟨pd, 0, none⟩ = some (.pointer (some ⟨db, 0, none⟩)) ∧ w'.cell? ⟨pi, 0, none⟩ = some (.int .i64 g) ∧ w'.cell? ⟨db, 0, none⟩ = some (.pointer (some ⟨tb, 0, none⟩)))
      ((refine HS.out _ ?_; first | (with_reducible exact hK2) | (with_reducible exact Kept.refl _ _) | (with_reducible exact (Kept.refl _ _).drew)))
      (first
      | (go_at_call 76; (with_reducible refine (HM.out _ ?ia).mono ?_); (case ia => first | (with_reducible exact Below.refl _ _) | (with_reducible exact (Below.refl _ _).drew)); rintro e' w2 ⟨A2, c2, rfl, hr, hto⟩; have H2 := Lib.hid hto; have R2 := Lib.hid hr; have hK2 := hto.kept; clear hto hr)
      | (go_at_call 75; (with_reducible refine (HY.out.ok rfl _ _ _ R2.out).mono ?_); rintro e' w3 ⟨rfl, hb3⟩; have H3 := Lib.hid (H2.out.more HG.out hb3); have hK2 := H3.out.kept; clear hb3))
    all_goals
      clear hK2
      go_wp2
      go_ret
      exact ⟨.inl ⟨rfl, rfl⟩, H3.out⟩
  · have HE := Lib.hid he
    clear he
    go_wp2_with fail
    go_region_held2 (fun w' => w'.cell? ⟨pd, 0, none⟩ = some (.pointer (some ⟨db, 0, none⟩)) ∧ w'.cell? ⟨pi, 0, none⟩ = some (.int .i64 g) ∧ w'.cell? ⟨db, 0, none⟩ = some (.pointer (some ⟨tb, 0, none⟩)))
      ((refine HS.out _ ?_; first | (with_reducible exact hK2) | (with_reducible exact Kept.refl _ _) | (with_reducible exact (Kept.refl _ _).drew)))
      (first
      | (go_at_call 76; (with_reducible refine (HM.out _ ?ia).mono ?_); (case ia => first | (with_reducible exact Below.refl _ _) | (with_reducible exact (Below.refl _ _).drew)); rintro e' w2 ⟨A2, c2, rfl, hr, hto⟩; have H2 := Lib.hid hto; have R2 := Lib.hid hr; have hK2 := hto.kept; clear hto hr)
      | (go_at_call 75; (with_reducible refine (HY.out.no HE.out _ _ _ R2.out).mono ?_); rintro e' w3 ⟨rfl, hb3⟩; refine Classical.byContradiction fun hn => ?_; have HP := Lib.hid (hn ⟨rfl, .inr ⟨HE.out, rfl⟩, H2.out.more HG.out hb3⟩); clear hn hb3; refine (fun (_ : (‹Act → World → Prop›) ⟨#[], []⟩ w2) => HP.out) ?_))
    all_goals exact HP.out.elim
set_option maxHeartbeats 1000000 in
set_option maxRecDepth 100000 in
theorem asks_bring {w W : World} {F : Nat → Nat} {pd pi pj db tb : Nat} {nv : Value} {t : TSt} {i j : Int} (hC : Col w W F) (ht : TwAt F W tb t) (hg : TGood t) (hpd : BoxA F W pd 35 #[.pointer (some ⟨db, 0, none⟩)]) (hpi : BoxA F W pi 3 #[.int .i64 i]) (hpj : BoxA F W pj 3 #[.int .i64 j]) (hk : BlkC F 31 W db 39 #[.pointer (some ⟨tb, 0, none⟩), nv]) {out : ByteArray} (hs : SayN (t.bringN i j) (t.bringE i j) out) :
    Calls Tryz.prog 77 #[.pointer (some ⟨pd, 0, none⟩), .pointer (some ⟨pi, 0, none⟩), .pointer (some ⟨pj, 0, none⟩)] W fun e W' => AnsE (t.bringE i j) out e ∧ TwTo w F W tb (t.brought i j) W' := by
  have HT := Lib.hid (there_ok db tb nv W hk.1)
  have HM := Lib.hid (show ∀ W1, Below W.heap.size W W1 → Calls Tryz.prog 78 #[.pointer (some ⟨tb, 0, none⟩), .int .i64 i, .int .i64 j] W1 fun e W' => ∃ A c, e = .returned (.tuple #[.slice A (t.bringN i j).length c, .int .i64 (t.bringE i j)]) ∧ Reads W' W'.heap.size 3 A (t.bringN i j).length (cells3 (t.bringN i j)) ∧ TwTo w F W tb (t.brought i j) W' from fun W1 hb => by
    obtain ⟨_, _, _, _, _, _, k⟩ := ht.belowC hC hg.five hb
    exact (tbring_any k (hC.below hb) hg i j).mono fun e W' ⟨A, c, q1, q2, q3⟩ => ⟨A, c, q1, Reads.of_own q2, q3.from_ hC hb⟩)
  have HG := Lib.hid (show TGood (t.brought i j) from hg.brought i j)
  have HS := Lib.hid (show ∀ w', Kept (fun k => ProgC (F k)) W w' → (w'.cell? ⟨pd, 0, none⟩ = some (.pointer (some ⟨db, 0, none⟩)) ∧ w'.cell? ⟨pi, 0, none⟩ = some (.int .i64 i) ∧ w'.cell? ⟨pj, 0, none⟩ = some (.int .i64 j) ∧ w'.cell? ⟨db, 0, none⟩ = some (.pointer (some ⟨tb, 0, none⟩))) from fun w' h => ⟨hpd.cellK h 0, hpi.cellK h 0, hpj.cellK h 0, hk.cellK h 0⟩)
  obtain ⟨c0, c1, c2, c3⟩ := HS.out W (.refl _ _)
  have lpd := hpd.blk.lt
  have lpi := hpi.blk.lt
  have lpj := hpj.blk.lt
  have ldb := hk.1.lt
  have HY := Lib.hid hs
  clear ht hC hpd hpi hpj hk hg hs
  generalize t.bringE i j = er at *
  generalize t.bringN i j = N at *
  generalize t.brought i j = t' at *
  go_enter Tryz.func77, Tryz.ntmps77
  go_wp2_with fail
  refine HT.out.mono ?_
  rintro e' w1 ⟨rfl, rfl⟩
  by_cases he : er = 0
  · subst he
    go_wp2_with fail
    go_region_held3 (fun w' => w'.cell? ⟨pd, 0, none⟩ = some (.pointer (some ⟨db, 0, none⟩)) ∧ w'.cell? ⟨pi, 0, none⟩ = some (.int .i64 i) ∧ w'.cell? ⟨pj, 0, none⟩ = some (.int .i64 j) ∧ w'.cell? ⟨db, 0, none⟩ = some (.pointer (some ⟨tb, 0, none⟩)))
      ((refine HS.out _ ?_; first | (with_reducible exact hK2) | (with_reducible exact Kept.refl _ _) | (with_reducible exact (Kept.refl _ _).drew)))
      (first
      | (go_at_call 78; (with_reducible refine (HM.out _ ?ia).mono ?_); (case ia => first | (with_reducible exact Below.refl _ _) | (with_reducible exact (Below.refl _ _).drew)); rintro e' w2 ⟨A2, c2, rfl, hr, hto⟩; have H2 := Lib.hid hto; have R2 := Lib.hid hr; have hK2 := hto.kept; clear hto hr)
      | (go_at_call 75; (with_reducible refine (HY.out.ok rfl _ _ _ R2.out).mono ?_); rintro e' w3 ⟨rfl, hb3⟩; have H3 := Lib.hid (H2.out.more HG.out hb3); have hK2 := H3.out.kept; clear hb3))
    all_goals
      clear hK2
      go_wp2
      go_ret
      exact ⟨.inl ⟨rfl, rfl⟩, H3.out⟩
  · have HE := Lib.hid he
    clear he
    go_wp2_with fail
    go_region_held2 (fun w' => w'.cell? ⟨pd, 0, none⟩ = some (.pointer (some ⟨db, 0, none⟩)) ∧ w'.cell? ⟨pi, 0, none⟩ = some (.int .i64 i) ∧ w'.cell? ⟨pj, 0, none⟩ = some (.int .i64 j) ∧ w'.cell? ⟨db, 0, none⟩ = some (.pointer (some ⟨tb, 0, none⟩)))
      ((refine HS.out _ ?_; first | (with_reducible exact hK2) | (with_reducible exact Kept.refl _ _) | (with_reducible exact (Kept.refl _ _).drew)))
      (first
      | (go_at_call 78; (with_reducible refine (HM.out _ ?ia).mono ?_); (case ia => first | (with_reducible exact Below.refl _ _) | (with_reducible exact (Below.refl _ _).drew)); rintro e' w2 ⟨A2, c2, rfl, hr, hto⟩; have H2 := Lib.hid hto; have R2 := Lib.hid hr; have hK2 := hto.kept; clear hto hr)
      | (go_at_call 75; (with_reducible refine (HY.out.no HE.out _ _ _ R2.out).mono ?_); rintro e' w3 ⟨rfl, hb3⟩; refine Classical.byContradiction fun hn => ?_; have HP := Lib.hid (hn ⟨rfl, .inr ⟨HE.out, rfl⟩, H2.out.more HG.out hb3⟩); clear hn hb3; refine (fun (_ : (‹Act → World → Prop›) ⟨#[], []⟩ w2) => HP.out) ?_))
    all_goals exact HP.out.elim
end Go.Proofs.YthimchhnhhchkaaGreatDoor

namespace Go.Proofs.YthimchhnhhchkaaGreatDoor
open Go.RowKit Go.Lib
set_option linter.unusedSimpArgs false
set_option linter.unusedVariables false

set_option maxHeartbeats 1000000 in
set_option maxRecDepth 100000 in
theorem asks_ask {w W : World} {F : Nat → Nat} {pd pi ps db tb : Nat} {nv : Value} {t : TSt} {i : Int} {id : ByteArray} (hC : Col w W F) (ht : TwAt F W tb t) (hg : TGood t) (hpd : BoxA F W pd 35 #[.pointer (some ⟨db, 0, none⟩)]) (hpi : BoxA F W pi 3 #[.int .i64 i]) (hps : BoxA F W ps 9 #[.string id]) (hk : BlkC F 31 W db 39 #[.pointer (some ⟨tb, 0, none⟩), nv]) {out : ByteArray} (hs : SayO (t.lvV i id) (t.lvE i id) out) :
    Calls Tryz.prog 83 #[.pointer (some ⟨pd, 0, none⟩), .pointer (some ⟨pi, 0, none⟩), .pointer (some ⟨ps, 0, none⟩)] W fun e W' => AnsE (t.lvE i id) out e ∧ TwTo w F W tb (t) W' := by
  have HT := Lib.hid (there_ok db tb nv W hk.1)
  have HM := Lib.hid (show ∀ W1, Below W.heap.size W W1 → Calls Tryz.prog 84 #[.pointer (some ⟨tb, 0, none⟩), .int .i64 i, .string id] W1 fun e W' => e = .returned (.tuple #[.int .i64 (t.lvV i id), .int .i64 (t.lvE i id)]) ∧ TwTo w F W tb (t) W' from fun W1 hb =>
    (tlevel_any (ht.belowC hC hg.five hb) hg i id).mono fun e W' ⟨q1, q2⟩ => ⟨q1, F, (hC.below hb).below q2, (Moved.below hC hb).trans (.below (hC.below hb) q2), (ht.belowC hC hg.five hb).belowC (hC.below hb) hg.five q2⟩)
  have HG := Lib.hid (show TGood (t) from hg)
  have HS := Lib.hid (show ∀ w', Kept (fun k => ProgC (F k)) W w' → (w'.cell? ⟨pd, 0, none⟩ = some (.pointer (some ⟨db, 0, none⟩)) ∧ w'.cell? ⟨pi, 0, none⟩ = some (.int .i64 i) ∧ w'.cell? ⟨ps, 0, none⟩ = some (.string id) ∧ w'.cell? ⟨db, 0, none⟩ = some (.pointer (some ⟨tb, 0, none⟩))) from fun w' h => ⟨hpd.cellK h 0, hpi.cellK h 0, hps.cellK h 0, hk.cellK h 0⟩)
  obtain ⟨c0, c1, c2, c3⟩ := HS.out W (.refl _ _)
  have lpd := hpd.blk.lt
  have lpi := hpi.blk.lt
  have lps := hps.blk.lt
  have ldb := hk.1.lt
  have HY := Lib.hid hs
  clear ht hC hpd hpi hps hk hg hs
  generalize t.lvE i id = er at *
  generalize t.lvV i id = n at *
  go_enter Tryz.func83, Tryz.ntmps83
  go_wp2_with fail
  refine HT.out.mono ?_
  rintro e' w1 ⟨rfl, rfl⟩
  by_cases he : er = 0
  · subst he
    go_wp2_with fail
    go_region_held3 (fun w' => w'.cell? ⟨pd, 0, none⟩ = some (.pointer (some ⟨db, 0, none⟩)) ∧ w'.cell? ⟨pi, 0, none⟩ = some (.int .i64 i) ∧ w'.cell? ⟨ps, 0, none⟩ = some (.string id) ∧ w'.cell? ⟨db, 0, none⟩ = some (.pointer (some ⟨tb, 0, none⟩)))
      ((refine HS.out _ ?_; first | (with_reducible exact hK2) | (with_reducible exact Kept.refl _ _) | (with_reducible exact (Kept.refl _ _).drew)))
      (first
      | (go_at_call 84; (with_reducible refine (HM.out _ ?ia).mono ?_); (case ia => first | (with_reducible exact Below.refl _ _) | (with_reducible exact (Below.refl _ _).drew)); rintro e' w2 ⟨rfl, hto⟩; have H2 := Lib.hid hto; have hK2 := hto.kept; clear hto)
      | (go_at_call 39; (with_reducible refine (HY.out.ok rfl _).mono ?_); rintro e' w3 ⟨rfl, hb3⟩; have H3 := Lib.hid (H2.out.more HG.out hb3); have hK2 := H3.out.kept; clear hb3))
    all_goals
      clear hK2
      go_wp2
      go_ret
      exact ⟨.inl ⟨rfl, rfl⟩, H3.out⟩
  · have HE := Lib.hid he
    clear he
    go_wp2_with fail
    go_region_held2 (fun w' => w'.cell? ⟨pd, 0, none⟩ = some (.pointer (some ⟨db, 0, none⟩)) ∧ w'.cell? ⟨pi, 0, none⟩ = some (.int .i64 i) ∧ w'.cell? ⟨ps, 0, none⟩ = some (.string id) ∧ w'.cell? ⟨db, 0, none⟩ = some (.pointer (some ⟨tb, 0, none⟩)))
      ((refine HS.out _ ?_; first | (with_reducible exact hK2) | (with_reducible exact Kept.refl _ _) | (with_reducible exact (Kept.refl _ _).drew)))
      (first
      | (go_at_call 84; (with_reducible refine (HM.out _ ?ia).mono ?_); (case ia => first | (with_reducible exact Below.refl _ _) | (with_reducible exact (Below.refl _ _).drew)); rintro e' w2 ⟨rfl, hto⟩; have H2 := Lib.hid hto; have hK2 := hto.kept; clear hto)
      | (go_at_call 39; (with_reducible refine (HY.out.no HE.out _).mono ?_); rintro e' w3 ⟨rfl, hb3⟩; refine Classical.byContradiction fun hn => ?_; have HP := Lib.hid (hn ⟨rfl, .inr ⟨HE.out, rfl⟩, H2.out.more HG.out hb3⟩); clear hn hb3; refine (fun (_ : (‹Act → World → Prop›) ⟨#[], []⟩ w2) => HP.out) ?_))
    all_goals exact HP.out.elim
set_option maxHeartbeats 1000000 in
set_option maxRecDepth 100000 in
theorem asks_join {w W : World} {F : Nat → Nat} {pd pi ps pj db tb : Nat} {nv : Value} {t : TSt} {i th : Int} {id : ByteArray} (hC : Col w W F) (ht : TwAt F W tb t) (hg : TGood t) (hpd : BoxA F W pd 35 #[.pointer (some ⟨db, 0, none⟩)]) (hpi : BoxA F W pi 3 #[.int .i64 i]) (hps : BoxA F W ps 9 #[.string id]) (hpj : BoxA F W pj 3 #[.int .i64 th]) (hk : BlkC F 31 W db 39 #[.pointer (some ⟨tb, 0, none⟩), nv]) {out : ByteArray} (hs : SayN (t.joinN i id th) (t.joinE i id th) out) :
    Calls Tryz.prog 85 #[.pointer (some ⟨pd, 0, none⟩), .pointer (some ⟨pi, 0, none⟩), .pointer (some ⟨ps, 0, none⟩), .pointer (some ⟨pj, 0, none⟩)] W fun e W' => AnsE (t.joinE i id th) out e ∧ TwTo w F W tb (t.joined i id th) W' := by
  have HT := Lib.hid (there_ok db tb nv W hk.1)
  have HM := Lib.hid (show ∀ W1, Below W.heap.size W W1 → Calls Tryz.prog 86 #[.pointer (some ⟨tb, 0, none⟩), .int .i64 i, .string id, .int .i64 th] W1 fun e W' => ∃ A c, e = .returned (.tuple #[.slice A (t.joinN i id th).length c, .int .i64 (t.joinE i id th)]) ∧ Reads W' W'.heap.size 3 A (t.joinN i id th).length (cells3 (t.joinN i id th)) ∧ TwTo w F W tb (t.joined i id th) W' from fun W1 hb => by
    obtain ⟨_, _, _, _, _, _, k⟩ := ht.belowC hC hg.five hb
    exact (tjoin_any k (hC.below hb) hg i id th).mono fun e W' ⟨A, c, q1, q2, q3⟩ => ⟨A, c, q1, Reads.of_own q2, q3.from_ hC hb⟩)
  have HG := Lib.hid (show TGood (t.joined i id th) from hg.joined i id th)
  have HS := Lib.hid (show ∀ w', Kept (fun k => ProgC (F k)) W w' → (w'.cell? ⟨pd, 0, none⟩ = some (.pointer (some ⟨db, 0, none⟩)) ∧ w'.cell? ⟨pi, 0, none⟩ = some (.int .i64 i) ∧ w'.cell? ⟨ps, 0, none⟩ = some (.string id) ∧ w'.cell? ⟨pj, 0, none⟩ = some (.int .i64 th) ∧ w'.cell? ⟨db, 0, none⟩ = some (.pointer (some ⟨tb, 0, none⟩))) from fun w' h => ⟨hpd.cellK h 0, hpi.cellK h 0, hps.cellK h 0, hpj.cellK h 0, hk.cellK h 0⟩)
  obtain ⟨c0, c1, c2, c3, c4⟩ := HS.out W (.refl _ _)
  have lpd := hpd.blk.lt
  have lpi := hpi.blk.lt
  have lps := hps.blk.lt
  have lpj := hpj.blk.lt
  have ldb := hk.1.lt
  have HY := Lib.hid hs
  clear ht hC hpd hpi hps hpj hk hg hs
  generalize t.joinE i id th = er at *
  generalize t.joinN i id th = N at *
  generalize t.joined i id th = t' at *
  go_enter Tryz.func85, Tryz.ntmps85
  go_wp2_with fail
  refine HT.out.mono ?_
  rintro e' w1 ⟨rfl, rfl⟩
  by_cases he : er = 0
  · subst he
    go_wp2_with fail
    go_region_held3 (fun w' => w'.cell? ⟨pd, 0, none⟩ = some (.pointer (some ⟨db, 0, none⟩)) ∧ w'.cell? ⟨pi, 0, none⟩ = some (.int .i64 i) ∧ w'.cell? ⟨ps, 0, none⟩ = some (.string id) ∧ w'.cell? ⟨pj, 0, none⟩ = some (.int .i64 th) ∧ w'.cell? ⟨db, 0, none⟩ = some (.pointer (some ⟨tb, 0, none⟩)))
      ((refine HS.out _ ?_; first | (with_reducible exact hK2) | (with_reducible exact Kept.refl _ _) | (with_reducible exact (Kept.refl _ _).drew)))
      (first
      | (go_at_call 86; (with_reducible refine (HM.out _ ?ia).mono ?_); (case ia => first | (with_reducible exact Below.refl _ _) | (with_reducible exact (Below.refl _ _).drew)); rintro e' w2 ⟨A2, c2, rfl, hr, hto⟩; have H2 := Lib.hid hto; have R2 := Lib.hid hr; have hK2 := hto.kept; clear hto hr)
      | (go_at_call 75; (with_reducible refine (HY.out.ok rfl _ _ _ R2.out).mono ?_); rintro e' w3 ⟨rfl, hb3⟩; have H3 := Lib.hid (H2.out.more HG.out hb3); have hK2 := H3.out.kept; clear hb3))
    all_goals
      clear hK2
      go_wp2
      go_ret
      exact ⟨.inl ⟨rfl, rfl⟩, H3.out⟩
  · have HE := Lib.hid he
    clear he
    go_wp2_with fail
    go_region_held2 (fun w' => w'.cell? ⟨pd, 0, none⟩ = some (.pointer (some ⟨db, 0, none⟩)) ∧ w'.cell? ⟨pi, 0, none⟩ = some (.int .i64 i) ∧ w'.cell? ⟨ps, 0, none⟩ = some (.string id) ∧ w'.cell? ⟨pj, 0, none⟩ = some (.int .i64 th) ∧ w'.cell? ⟨db, 0, none⟩ = some (.pointer (some ⟨tb, 0, none⟩)))
      ((refine HS.out _ ?_; first | (with_reducible exact hK2) | (with_reducible exact Kept.refl _ _) | (with_reducible exact (Kept.refl _ _).drew)))
      (first
      | (go_at_call 86; (with_reducible refine (HM.out _ ?ia).mono ?_); (case ia => first | (with_reducible exact Below.refl _ _) | (with_reducible exact (Below.refl _ _).drew)); rintro e' w2 ⟨A2, c2, rfl, hr, hto⟩; have H2 := Lib.hid hto; have R2 := Lib.hid hr; have hK2 := hto.kept; clear hto hr)
      | (go_at_call 75; (with_reducible refine (HY.out.no HE.out _ _ _ R2.out).mono ?_); rintro e' w3 ⟨rfl, hb3⟩; refine Classical.byContradiction fun hn => ?_; have HP := Lib.hid (hn ⟨rfl, .inr ⟨HE.out, rfl⟩, H2.out.more HG.out hb3⟩); clear hn hb3; refine (fun (_ : (‹Act → World → Prop›) ⟨#[], []⟩ w2) => HP.out) ?_))
    all_goals exact HP.out.elim
end Go.Proofs.YthimchhnhhchkaaGreatDoor

namespace Go.Proofs.YthimchhnhhchkaaGreatDoor
open Go.RowKit Go.Lib
set_option linter.unusedSimpArgs false
set_option linter.unusedVariables false

set_option maxHeartbeats 1000000 in
set_option maxRecDepth 100000 in
theorem asks_lose {w W : World} {F : Nat → Nat} {pd pi db tb : Nat} {nv : Value} {t : TSt} {i : Int} (hC : Col w W F) (ht : TwAt F W tb t) (hg : TGood t) (hpd : BoxA F W pd 35 #[.pointer (some ⟨db, 0, none⟩)]) (hpi : BoxA F W pi 3 #[.int .i64 i]) (hk : BlkC F 31 W db 39 #[.pointer (some ⟨tb, 0, none⟩), nv]) :
    Calls Tryz.prog 79 #[.pointer (some ⟨pd, 0, none⟩), .pointer (some ⟨pi, 0, none⟩)] W fun e W' => AnsE (t.loseE i) ⟨#[111, 107]⟩ e ∧ TwTo w F W tb (t.lost i) W' := by
  have HT := Lib.hid (there_ok db tb nv W hk.1)
  have HM := Lib.hid (show ∀ W1, Below W.heap.size W W1 → Calls Tryz.prog 80 #[.pointer (some ⟨tb, 0, none⟩), .int .i64 i] W1 fun e W' => e = .returned (.int .i64 (t.loseE i)) ∧ TwTo w F W tb (t.lost i) W' from fun W1 hb => by
    obtain ⟨_, _, _, _, _, _, k⟩ := ht.belowC hC hg.five hb
    exact (tlose_any k (hC.below hb) hg i).mono fun e W' ⟨q1, q2⟩ => ⟨q1, q2.from_ hC hb⟩)
  have HS := Lib.hid (show ∀ w', Kept (fun k => ProgC (F k)) W w' → (w'.cell? ⟨pd, 0, none⟩ = some (.pointer (some ⟨db, 0, none⟩)) ∧ w'.cell? ⟨pi, 0, none⟩ = some (.int .i64 i) ∧ w'.cell? ⟨db, 0, none⟩ = some (.pointer (some ⟨tb, 0, none⟩))) from fun w' h => ⟨hpd.cellK h 0, hpi.cellK h 0, hk.cellK h 0⟩)
  obtain ⟨c0, c1, c2⟩ := HS.out W (.refl _ _)
  have lpd := hpd.blk.lt
  have lpi := hpi.blk.lt
  have ldb := hk.1.lt
  clear ht hC hpd hpi hk hg
  generalize t.loseE i = er at *
  generalize t.lost i = t' at *
  go_enter Tryz.func79, Tryz.ntmps79
  go_wp2_with fail
  refine HT.out.mono ?_
  rintro e' w1 ⟨rfl, rfl⟩
  by_cases he : er = 0
  · subst he
    go_wp2_with fail
    go_region_held3 (fun w' => w'.cell? ⟨pd, 0, none⟩ = some (.pointer (some ⟨db, 0, none⟩)) ∧ w'.cell? ⟨pi, 0, none⟩ = some (.int .i64 i) ∧ w'.cell? ⟨db, 0, none⟩ = some (.pointer (some ⟨tb, 0, none⟩)))
      ((refine HS.out _ ?_; first | (with_reducible exact hK2) | (with_reducible exact Kept.refl _ _) | (with_reducible exact (Kept.refl _ _).drew)))
      (first
      | (go_at_call 80; (with_reducible refine (HM.out _ ?ia).mono ?_); (case ia => first | (with_reducible exact Below.refl _ _) | (with_reducible exact (Below.refl _ _).drew)); rintro e' w2 ⟨rfl, hto⟩; have H2 := Lib.hid hto; have hK2 := hto.kept; clear hto)
      | (go_at_call 44; (with_reducible refine (must_ok _).mono ?_); rintro e' w3 ⟨rfl, rfl⟩))
    all_goals
      clear hK2
      go_wp2
      go_ret
      exact ⟨.inl ⟨rfl, rfl⟩, H2.out⟩
  · have HE := Lib.hid he
    clear he
    go_wp2_with fail
    go_region_held2 (fun w' => w'.cell? ⟨pd, 0, none⟩ = some (.pointer (some ⟨db, 0, none⟩)) ∧ w'.cell? ⟨pi, 0, none⟩ = some (.int .i64 i) ∧ w'.cell? ⟨db, 0, none⟩ = some (.pointer (some ⟨tb, 0, none⟩)))
      ((refine HS.out _ ?_; first | (with_reducible exact hK2) | (with_reducible exact Kept.refl _ _) | (with_reducible exact (Kept.refl _ _).drew)))
      (first
      | (go_at_call 80; (with_reducible refine (HM.out _ ?ia).mono ?_); (case ia => first | (with_reducible exact Below.refl _ _) | (with_reducible exact (Below.refl _ _).drew)); rintro e' w2 ⟨rfl, hto⟩; have H2 := Lib.hid hto; have hK2 := hto.kept; clear hto)
      | (go_at_call 44; (with_reducible refine (must_no _ HE.out _).mono ?_); rintro e' w3 ⟨rfl, rfl⟩; refine Classical.byContradiction fun hn => ?_; have HP := Lib.hid (hn ⟨rfl, .inr ⟨HE.out, rfl⟩, H2.out⟩); clear hn; refine (fun (_ : (‹Act → World → Prop›) ⟨#[], []⟩ w2) => HP.out) ?_))
    all_goals exact HP.out.elim
set_option maxHeartbeats 1000000 in
set_option maxRecDepth 100000 in
theorem asks_stop {w W : World} {F : Nat → Nat} {pd pi db tb : Nat} {nv : Value} {t : TSt} {i : Int} (hC : Col w W F) (ht : TwAt F W tb t) (hg : TGood t) (hpd : BoxA F W pd 35 #[.pointer (some ⟨db, 0, none⟩)]) (hpi : BoxA F W pi 3 #[.int .i64 i]) (hk : BlkC F 31 W db 39 #[.pointer (some ⟨tb, 0, none⟩), nv]) :
    Calls Tryz.prog 81 #[.pointer (some ⟨pd, 0, none⟩), .pointer (some ⟨pi, 0, none⟩)] W fun e W' => AnsE (t.stopE i) ⟨#[111, 107]⟩ e ∧ TwTo w F W tb (t.stopped i) W' := by
  have HT := Lib.hid (there_ok db tb nv W hk.1)
  have HM := Lib.hid (show ∀ W1, Below W.heap.size W W1 → Calls Tryz.prog 82 #[.pointer (some ⟨tb, 0, none⟩), .int .i64 i] W1 fun e W' => e = .returned (.int .i64 (t.stopE i)) ∧ TwTo w F W tb (t.stopped i) W' from fun W1 hb => by
    obtain ⟨_, _, _, _, _, _, k⟩ := ht.belowC hC hg.five hb
    exact (tstop_any k (hC.below hb) i).mono fun e W' ⟨q1, q2⟩ => ⟨q1, q2.from_ hC hb⟩)
  have HS := Lib.hid (show ∀ w', Kept (fun k => ProgC (F k)) W w' → (w'.cell? ⟨pd, 0, none⟩ = some (.pointer (some ⟨db, 0, none⟩)) ∧ w'.cell? ⟨pi, 0, none⟩ = some (.int .i64 i) ∧ w'.cell? ⟨db, 0, none⟩ = some (.pointer (some ⟨tb, 0, none⟩))) from fun w' h => ⟨hpd.cellK h 0, hpi.cellK h 0, hk.cellK h 0⟩)
  obtain ⟨c0, c1, c2⟩ := HS.out W (.refl _ _)
  have lpd := hpd.blk.lt
  have lpi := hpi.blk.lt
  have ldb := hk.1.lt
  clear ht hC hpd hpi hk hg
  generalize t.stopE i = er at *
  generalize t.stopped i = t' at *
  go_enter Tryz.func81, Tryz.ntmps81
  go_wp2_with fail
  refine HT.out.mono ?_
  rintro e' w1 ⟨rfl, rfl⟩
  by_cases he : er = 0
  · subst he
    go_wp2_with fail
    go_region_held3 (fun w' => w'.cell? ⟨pd, 0, none⟩ = some (.pointer (some ⟨db, 0, none⟩)) ∧ w'.cell? ⟨pi, 0, none⟩ = some (.int .i64 i) ∧ w'.cell? ⟨db, 0, none⟩ = some (.pointer (some ⟨tb, 0, none⟩)))
      ((refine HS.out _ ?_; first | (with_reducible exact hK2) | (with_reducible exact Kept.refl _ _) | (with_reducible exact (Kept.refl _ _).drew)))
      (first
      | (go_at_call 82; (with_reducible refine (HM.out _ ?ia).mono ?_); (case ia => first | (with_reducible exact Below.refl _ _) | (with_reducible exact (Below.refl _ _).drew)); rintro e' w2 ⟨rfl, hto⟩; have H2 := Lib.hid hto; have hK2 := hto.kept; clear hto)
      | (go_at_call 44; (with_reducible refine (must_ok _).mono ?_); rintro e' w3 ⟨rfl, rfl⟩))
    all_goals
      clear hK2
      go_wp2
      go_ret
      exact ⟨.inl ⟨rfl, rfl⟩, H2.out⟩
  · have HE := Lib.hid he
    clear he
    go_wp2_with fail
    go_region_held2 (fun w' => w'.cell? ⟨pd, 0, none⟩ = some (.pointer (some ⟨db, 0, none⟩)) ∧ w'.cell? ⟨pi, 0, none⟩ = some (.int .i64 i) ∧ w'.cell? ⟨db, 0, none⟩ = some (.pointer (some ⟨tb, 0, none⟩)))
      ((refine HS.out _ ?_; first | (with_reducible exact hK2) | (with_reducible exact Kept.refl _ _) | (with_reducible exact (Kept.refl _ _).drew)))
      (first
      | (go_at_call 82; (with_reducible refine (HM.out _ ?ia).mono ?_); (case ia => first | (with_reducible exact Below.refl _ _) | (with_reducible exact (Below.refl _ _).drew)); rintro e' w2 ⟨rfl, hto⟩; have H2 := Lib.hid hto; have hK2 := hto.kept; clear hto)
      | (go_at_call 44; (with_reducible refine (must_no _ HE.out _).mono ?_); rintro e' w3 ⟨rfl, rfl⟩; refine Classical.byContradiction fun hn => ?_; have HP := Lib.hid (hn ⟨rfl, .inr ⟨HE.out, rfl⟩, H2.out⟩); clear hn; refine (fun (_ : (‹Act → World → Prop›) ⟨#[], []⟩ w2) => HP.out) ?_))
    all_goals exact HP.out.elim
end Go.Proofs.YthimchhnhhchkaaGreatDoor
