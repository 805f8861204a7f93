/- (*node.Node).Level, walked. -/
import Derived.Test.YthimchhnhhchkaaGreatDoorM29
import Derived.Test.YthimchhnhhchkaaGreatDoorM27
namespace Go.Proofs.YthimchhnhhchkaaGreatDoor
open Go.RowKit Go.Lib
set_option linter.unusedSimpArgs false
set_option linter.unusedVariables false

def eqB (a b : ByteArray) : Bool := a.toList == b.toList
theorem eqB_iff (a b : ByteArray) : eqB a b = true ↔ a = b := by
  unfold eqB
  constructor
  · intro h
    have := eq_of_beq h
    rw [ByteArray.toList_eq, ByteArray.toList_eq] at this
    exact ByteArray.ext (Array.toList_inj.1 this)
  · intro h; rw [h]; simp
theorem eqB_no {a b : ByteArray} (h : a ≠ b) : eqB a b = false := by
  cases hq : eqB a b
  · rfl
  · exact absurd ((eqB_iff a b).1 hq) h
/-- the cells of a node -/
def nodeCs (c : CfgD) (now seq drops : Int) (pv sv : Value) : Array Value := #[.string c.1, .int .i64 (cfi c), .int .i64 (cfe c), .int .i64 (cfc c), .int .i64 (cfl c), .int .i64 now, .int .i64 seq, .int .i64 drops, pv, sv]

set_option maxRecDepth 100000 in
set_option maxHeartbeats 400000 in
theorem lvl1_any (p : PeerT) (cb : Nat) (id : ByteArray) (W : World) (hc : W.cell? ⟨cb, 0, none⟩ = some (.string id)) :
    Calls Tryz.prog 145 #[pagg p, .pointer (some ⟨cb, 0, none⟩)] W fun e w' => e = .returned (.bool (eqB (pid p) id)) ∧ Below W.heap.size W w' := by
  have E := Lib.hid ((Env.start W).lay (pcells p).toArray 183)
  simp only [pcells] at E
  have hl := World.block_lt_of_cell? W _ hc
  simp at hl
  unfold pagg pcells
  go_enter Tryz.func145, Tryz.ntmps145
  go_wp2
  go_ret
  exact ⟨rfl, E.out.bel⟩

set_option maxHeartbeats 2000000 in
set_option maxRecDepth 100000 in
theorem idxp_run (A : Option Addr) (c B n : Nat) (l : List PeerT) (id : ByteArray) (cb : Nat) (r : Int) (hm : n ≤ 1000)
    (hr : (∃ k, ∃ hk : k < l.length, pid (l[k]'hk) = id ∧ (∀ j, (hj : j < l.length) → j < k → pid (l[j]'hj) ≠ id) ∧ r = (k : Int)) ∨ ((∀ j, (hj : j < l.length) → pid (l[j]'hj) ≠ id) ∧ r = -1)) (w : World) (hp : Peers w B A n l) (hB : B ≤ w.heap.size) (hc : w.cell? ⟨cb, 0, none⟩ = some (.string id)) :
    Calls Tryz.prog 144 #[.slice A n c, .func (.func 145) #[] #[.pointer (some ⟨cb, 0, none⟩)]] w fun e w' => e = .returned (.int .i64 r) ∧ Below w.heap.size w w' := by
  have HP := Lib.hid hp
  have HBB := Lib.hid hB
  have HN := Lib.hid hp.len
  have HR := Lib.hid hr
  have HC := Lib.hid hc
  have hcl := World.block_lt_of_cell? w _ hc
  simp at hcl
  have HCM := Lib.hid (fun p W hc => lvl1_any p cb id W hc)
  simp only [pagg, pcells] at HCM
  clear hp hB hr hc
  go_enter Tryz.func144, Tryz.ntmps144
  go_wp2_with fail
  go_loopw [8] (fun iv wr => ∃ k : Nat, k ≤ n ∧ iv = .int .i64 (k : Int) ∧ (∀ j, (hj : j < l.length) → j < k → pid (l[j]'hj) ≠ id) ∧ Below w.heap.size w wr) (fun iv _ => n - (RowKit.intOf iv).toNat)
  case atStart => exact ⟨0, by omega, rfl, fun j _ h => absurd h (Nat.not_lt_zero j), Below.refl _ _⟩
  case round =>
    obtain ⟨k, hk, rfl, hne, hbl⟩ := hrel
    obtain ⟨wo, rfl⟩ : ∃ wo, wo = wr := ⟨_, rfl⟩
    have BL := Lib.hid hbl
    have NE := Lib.hid hne
    clear hbl hne
    by_cases hlt : k < n
    · have hkl : k < l.length := by rw [HN.out]; exact hlt
      have hBo : B ≤ wo.heap.size := Nat.le_trans HBB.out BL.out.size
      have HPW := Lib.hid (HP.out.below BL.out HBB.out)
      obtain ⟨b, off, rfl, hb, hcs⟩ := HPW.out.addr (by omega)
      obtain ⟨c0, c1, c2, c3, c4, c5, c6⟩ := hcs k hkl
      have HCW := Lib.hid (show wo.cell? ⟨cb, 0, none⟩ = some (.string id) from (BL.out.cell (p := ⟨cb, 0, none⟩) hcl).trans HC.out)
      have HPK := Lib.hid (rfl : l[k]'hkl = l[k]'hkl)
      generalize hpe : l[k]'hkl = p at *
      have HPE := Lib.hid hpe
      clear hcs hpe HPK
      go_wp2_with fail
      refine (HCM.out p _ HCW.out).mono ?_
      rintro e' w1 ⟨rfl, hb1⟩
      have BL1 := Lib.hid (BL.out.trans (hb1.mono BL.out.size))
      clear hb1
      cases hq : eqB (pid p) id
      · have HNX := Lib.hid (show ∀ j, (hj : j < l.length) → j < k + 1 → pid (l[j]'hj) ≠ id from fun j hj h => by
          rcases Nat.lt_succ_iff_lt_or_eq.1 h with h | rfl
          · exact NE.out j hj h
          · rw [HPE.out]; intro e; rw [(eqB_iff _ _).2 e] at hq; cases hq)
        clear hq
        go_wp2
        exact ⟨⟨k + 1, by omega, by simp, HNX.out, BL1.out⟩, by simp [RowKit.intOf]; omega⟩
      · have hrk : r = (k : Int) := by
          have hpi := (eqB_iff _ _).1 hq
          rcases HR.out with ⟨k', hk', h1, h2, rfl⟩ | ⟨h1, rfl⟩
          · rcases Nat.lt_trichotomy k k' with h | h | h
            · exact absurd (HPE.out ▸ hpi) (h2 k hkl h)
            · rw [h]
            · exact absurd h1 (NE.out k' hk' h)
          · exact absurd (HPE.out ▸ hpi) (h1 k hkl)
        subst hrk
        clear hq
        go_wp2
        go_ret
        exact ⟨rfl, BL1.out⟩
    · have hrn : r = -1 := by
        rcases HR.out with ⟨k', hk', h1, h2, rfl⟩ | ⟨h1, rfl⟩
        · exact absurd h1 (NE.out k' hk' (by have := HN.out; omega))
        · rfl
      subst hrn
      go_wp2
      go_ret
      exact ⟨rfl, BL.out⟩

/-- the answer of Level -/
def LvIs (k e : Int) (w : World) (x : Ending) (w' : World) : Prop := x = .returned (.tuple #[.int .i64 k, .int .i64 e]) ∧ Below w.heap.size w w'

/-- level.Of of a peer -/
theorem plv_is (p : PeerT) (least now : Int) (hok : PlOk least now p.1) (B : Nat) (w : World) (hp : PeerOk w B p) (hB : B ≤ w.heap.size) :
    Calls Tryz.prog 64 #[.agg #[.int .i64 (pcap p), psl p], .int .i64 least, .int .i64 (now - plast p)] w (LvIs (plv least now p.1) 0 w) := by
  obtain ⟨h1, h2, h3⟩ := hok
  obtain ⟨hwz, hl0, hl1, hn1⟩ := lookE_zero h1
  have hle := (winE_zero hwz).2.2.2
  have hsum : sumsE ((pvals p).length : Int) (s1 (pvals p)) (s2 (pvals p)) = 0 := sums_ok _ hle
  have hn2 : (1 : Int) ≤ ((pvals p).length : Int) := by have : 1 ≤ (pvals p).length := hn1; omega
  exact lof_ok (pcap p) least (now - plast p) p.2.1 p.2.2 B (pvals p).length (pvals p) rfl h1 _ _ rfl rfl _ (lvV_nat hsum hn2 hl0 hl1).symm h2 h3 hp.2.1 hp.2.2.1 w hp.1 hB

set_option maxHeartbeats 2000000 in
set_option maxRecDepth 100000 in
theorem nlv_none (b n cp : Nat) (A : Option Addr) (c : CfgD) (now seq drops : Int) (sv : Value) (l : List PeerT) (hm : n ≤ 1000) (id : ByteArray) (hno : ∀ j, (hj : j < l.length) → pid (l[j]'hj) ≠ id) (w : World)
    (hb : Blk w b 167 (nodeCs c now seq drops (.slice A n cp) sv)) (hp : Peers w w.heap.size A n l) :
    Calls Tryz.prog 116 #[.pointer (some ⟨b, 0, none⟩), .string id] w (LvIs 0 4 w) := by
  have E := Lib.hid ((Env.start w).lay #[.string id] 9)
  have HP := Lib.hid (hp.below E.out.bel (Nat.le_refl _))
  have b8 := hb.cell 8
  have hbl := hb.lt
  simp [nodeCs] at b8
  have HI := Lib.hid (idxp_run A cp w.heap.size n l id w.heap.size (-1) hm (.inr ⟨hno, rfl⟩) (w.alloc (.cells #[.string id] 9)) HP.out (by simp) (E.out.hd.cell 0))
  clear hb hp hno
  go_enter Tryz.func116, Tryz.ntmps116
  go_wp2_with fail
  refine HI.out.mono ?_
  rintro e' w1 ⟨rfl, hb1⟩
  have E1 := Lib.hid (E.out.below hb1)
  clear hb1
  go_wp2
  refine bodyPost_ret (v := .tuple #[.int .i64 0, .int .i64 4]) (by simp [results, Tryz.results116, go_sem]) rfl ⟨rfl, E1.out.bel⟩

set_option maxHeartbeats 2000000 in
set_option maxRecDepth 100000 in
theorem nlv_some (b n cp : Nat) (A : Option Addr) (c : CfgD) (now seq drops : Int) (sv : Value) (l : List PeerT) (hm : n ≤ 1000) (id : ByteArray) (k : Nat) (hk : k < l.length) (hid : pid (l[k]'hk) = id) (hfst : ∀ j, (hj : j < l.length) → j < k → pid (l[j]'hj) ≠ id)
    (hok : PlOk (cfl c) now (l[k]'hk).1) (h0 : 0 ≤ now) (h1 : now ≤ 1073741824) (w : World)
    (hb : Blk w b 167 (nodeCs c now seq drops (.slice A n cp) sv)) (hp : Peers w w.heap.size A n l) :
    Calls Tryz.prog 116 #[.pointer (some ⟨b, 0, none⟩), .string id] w (LvIs (plv (cfl c) now (l[k]'hk).1) 0 w) := by
  obtain ⟨p, hpk⟩ : ∃ p, l[k]'hk = p := ⟨_, rfl⟩
  have HPK := Lib.hid hpk
  rw [hpk] at hok ⊢
  have E := Lib.hid ((Env.start w).lay #[.string id] 9)
  have hbl := hb.lt
  have HB := Lib.hid hb
  have HP := Lib.hid (hp.below E.out.bel (Nat.le_refl _))
  have HP0 := Lib.hid hp
  have b8 := hb.cell 8
  simp [nodeCs] at b8
  have hkn : k < n := by rw [← hp.len]; exact hk
  have HI := Lib.hid (idxp_run A cp w.heap.size n l id w.heap.size k hm (.inl ⟨k, hk, hid, hfst, rfl⟩) (w.alloc (.cells #[.string id] 9)) HP.out (by simp) (E.out.hd.cell 0))
  have HK := Lib.hid hok
  have HL := Lib.hid hp.len
  clear hb hp hid hfst hok hpk
  go_enter Tryz.func116, Tryz.ntmps116
  go_wp2_with fail
  refine HI.out.mono ?_
  rintro e' w1 ⟨rfl, hb1⟩
  have E1 := Lib.hid (E.out.below hb1)
  clear hb1 b8
  have HP1 := Lib.hid (HP0.out.below E1.out.bel (Nat.le_refl _))
  have HB1 := Lib.hid (HB.out.below E1.out.bel hbl)
  obtain ⟨pb, off, rfl, hpb, hcs⟩ := HP1.out.addr (by omega)
  have hck := hcs k hk
  have hok2 := HP0.out.ok _ (List.getElem_mem hk)
  rw [HPK.out] at hck hok2
  have OK := Lib.hid hok2
  obtain ⟨c0, c1, c2, c3, c4, c5, c6⟩ := hck
  have hsz1 := E1.out.bel.size
  clear hok2
  have b8 := HB1.out.cell 8
  simp [nodeCs] at b8
  clear hcs
  have E2 := Lib.hid (E1.out.lay (pcells p).toArray 183)
  simp only [pcells] at E2
  have hpl := hpb
  have hbl1 := HB1.out.lt
  go_upto_region 23 with fail
  have OK2 := Lib.hid (OK.out.below E2.out.bel (Nat.le_refl _))
  have HB2 := Lib.hid (HB.out.below E2.out.bel hbl)
  generalize hW2 : World.alloc w1 _ = w2 at *
  have hs12 : w1.heap.size + 1 = w2.heap.size := by rw [← hW2]; simp
  clear hW2
  have x4 := HB2.out.cell 4
  have x5 := HB2.out.cell 5
  have y4 := E2.out.hd.cell 4
  have y5 := E2.out.hd.cell 5
  have y6 := E2.out.hd.cell 6
  simp [nodeCs] at x4 x5 y4 y5 y6
  have HLV := Lib.hid (show ∀ W, Below w2.heap.size w2 W → Calls Tryz.prog 64 #[.agg #[.int .i64 (pcap p), psl p], .int .i64 (cfl c), .int .i64 (now - plast p)] W (LvIs (plv (cfl c) now p.1) 0 W) from fun W h =>
    plv_is p (cfl c) now HK.out _ W (OK2.out.below h (by have := E2.out.bel.size; omega)) (Nat.le_trans E2.out.bel.size h.size))
  have w1x : IntKind.i64.wrap (now - plast p) = now - plast p := by have := HK.out.2.1; have := HK.out.2.2; rw [IntKind.wrap_i64]; simp only [plast]; omega
  have HS := Lib.hid (show ∀ w', Below w2.heap.size w2 w' → (Below w2.heap.size w2 w' ∧ w'.cell? ⟨b, 4, none⟩ = some (.int .i64 (cfl c)) ∧ w'.cell? ⟨b, 5, none⟩ = some (.int .i64 now) ∧ w'.cell? ⟨w1.heap.size, 4, none⟩ = some (.int .i64 (pcap p)) ∧ w'.cell? ⟨w1.heap.size, 5, none⟩ = some (psl p) ∧ w'.cell? ⟨w1.heap.size, 6, none⟩ = some (.int .i64 (plast p)))
    from fun w' h => ⟨h, (HB2.out.below h (by have := HB2.out.lt; omega)).cell 4, (HB2.out.below h (by have := HB2.out.lt; omega)).cell 5, (E2.out.below h).hd.cell 4, (E2.out.below h).hd.cell 5, (E2.out.below h).hd.cell 6⟩)
  go_region_held3 (fun w' => Below w2.heap.size w2 w' ∧ w'.cell? ⟨b, 4, none⟩ = some (.int .i64 (cfl c)) ∧ w'.cell? ⟨b, 5, none⟩ = some (.int .i64 now) ∧ w'.cell? ⟨w1.heap.size, 4, none⟩ = some (.int .i64 (pcap p)) ∧ w'.cell? ⟨w1.heap.size, 5, none⟩ = some (psl p) ∧ w'.cell? ⟨w1.heap.size, 6, none⟩ = some (.int .i64 (plast p)))
    ((refine HS.out _ ?_; repeat (first | (with_reducible exact hL3) | (with_reducible exact Below.refl _ _) | (with_reducible refine Below.al5 ?_) | (with_reducible refine Below.drew ?_))))
    ((go_at_call 64; (with_reducible refine (HLV.out _ ?ia).mono ?_); (case ia => repeat (first | (with_reducible exact Below.refl _ _) | (with_reducible refine Below.al5 ?_) | (with_reducible refine Below.drew ?_))); rintro e' w3 ⟨rfl, hb3⟩; have hL3 : Below w2.heap.size w2 w3 := Below.thru5 (by repeat (first | (with_reducible exact Below.refl _ _) | (with_reducible refine Below.al5 ?_) | (with_reducible refine Below.drew ?_))) hb3))
  all_goals
    have EV := Lib.hid (E2.out.bel.trans (hL3.mono E2.out.bel.size))
    clear hL3 hb3
    go_wp2
    refine bodyPost_ret (v := .tuple #[.int .i64 (plv (cfl c) now p.1), .int .i64 0]) (by simp [results, Tryz.results116, go_sem]) rfl ⟨rfl, EV.out⟩
end Go.Proofs.YthimchhnhhchkaaGreatDoor
