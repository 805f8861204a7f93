/- The reference's node: Sent, Level, walked. (with what it needs) -/
import Derived.Test.YtcikljcjhijjdabGreatM38
import Derived.Test.YtcikljcjhijjdabGreatM30
import Derived.Test.YtcikljcjhijjdabGreatM29
import Derived.BigQuiet
import Derived.Deep.QuietTactic
import Derived.Test.YtcikljcjhijjdabGreatM22
namespace Go.Proofs.YtcikljcjhijjdabGreat
open Go.RowKit Go.Lib
set_option linter.unusedSimpArgs false
set_option linter.unusedVariables false

/-- the cells of the reference's node -/
def rnodeCs (c : CfgD) (now drops : Int) (pv sv : Value) : Array Value := #[.string c.1, .int .i64 (cfi c), .int .i64 (cfe c), .int .i64 (cfc c), .int .i64 (cfl c), .int .i64 now, .int .i64 drops, pv, sv]
def RNodeIs (X : Nat → Prop) (w : World) (b : Nat) (A : Option Addr) (pn pc : Nat) (sv : Value) (l : List PeerT) (s : NSt) : Prop := HoldIs 73 (rnodeCs s.c s.now s.drops) X w b A pn pc sv l s.D s.S
def RNodeAt (X : Nat → Prop) (w : World) (b : Nat) (s : NSt) : Prop := HoldAt 73 (rnodeCs s.c s.now s.drops) X w b s.D s.S
theorem quiet_eqR {P : Program} {f : FuncId} {args : Array Value} {w : World} {n : Nat} {v : Value}
    (h : Calls P f args (w.drewN n) fun e w' => e = .returned v ∧ w.drewN n = w') : Calls P f args (w.drewN n) fun e w'' => e = .returned v ∧ ∃ m, w'' = w.drewN m :=
  h.mono fun _ _ ⟨he, hm⟩ => ⟨he, n, hm.symm⟩

set_option maxHeartbeats 1000000 in
set_option maxRecDepth 100000 in
theorem sent_core (b : Nat) (c : CfgD) (now drops : Int) (pv sv : Value) (h0 : 0 ≤ now) (h1 : now ≤ 4611686018427387904) (hc : CfgIn c) (w : World) (hb : Blk w b 73 (rnodeCs c now drops pv sv)) :
    Calls Tryz.prog 33 #[.pointer (some ⟨b, 0, none⟩)] w fun e w' => e = .returned (.int .i64 (now / cfe c)) ∧ ∃ n, w' = w.drewN n := by
  unfold CfgIn at hc
  obtain ⟨-, -, he1, he2, -⟩ := hc
  have b2 := hb.cell 2
  have b5 := hb.cell 5
  have hbl := hb.lt
  simp [rnodeCs] at b2 b5
  have w3 : now.tdiv (cfe c) = now / cfe c := Int.tdiv_eq_ediv_of_nonneg h0
  have q0 : 0 ≤ now / cfe c := Int.ediv_nonneg h0 (by omega)
  have q1 : now / cfe c ≤ now := Int.ediv_le_self _ h0
  generalize hq : now / cfe c = q at *
  have HQ := Lib.hid hq
  clear hb hq
  go_enter Tryz.func33, Tryz.ntmps33
  go_wp2_with fail
  go_quiet (fail)
  go_wp2
  go_ret
  exact ⟨rfl, nq, rfl⟩

section
variable {X : Nat → Prop} {w : World} {b pn pc : Nat} {A : Option Addr} {sv : Value} {l : List PeerT} {s : NSt}
set_option maxHeartbeats 1000000 in
set_option maxRecDepth 100000 in
theorem rlv_none (hb : Blk w b 73 (rnodeCs s.c s.now s.drops (.slice A pn pc) sv)) (hp : Peers w w.heap.size A pn l) (hm : pn ≤ maxLen) (id : ByteArray) (hno : ∀ j, (hj : j < l.length) → pid (l[j]'hj) ≠ id) :
    Calls Tryz.prog 18 #[.pointer (some ⟨b, 0, none⟩), .string id] w (LvIs 0 4 w) := by
  have b7 := hb.cell 7
  have hbl := hb.lt
  simp [rnodeCs] at b7
  have HF := Lib.hid (rfind_none A pc w.heap.size pn l id hno hm w hp (Nat.le_refl _))
  clear hb hp hno
  go_enter Tryz.func18, Tryz.ntmps18
  go_wp2_with fail
  refine HF.out.mono ?_
  rintro e' w1 ⟨rfl, hb1⟩
  have B1 := Lib.hid hb1
  clear hb1
  go_wp2
  refine bodyPost_ret (v := .tuple #[.int .i64 0, .int .i64 4]) (by simp [results, Tryz.results18, go_sem]) rfl ⟨rfl, B1.out⟩

set_option maxHeartbeats 1000000 in
set_option maxRecDepth 100000 in
theorem rlv_some (hb : Blk w b 73 (rnodeCs s.c s.now s.drops (.slice A pn pc) sv)) (hp : Peers w w.heap.size A pn l) (hm : pn ≤ maxLen) (id : ByteArray) (k : Nat) (hk : k < l.length) (hid : pid (l[k]'hk) = id) (hfst : ∀ j, (hj : j < l.length) → j < k → pid (l[j]'hj) ≠ id)
    (hok : PlOk (cfl s.c) s.now (l[k]'hk).1) (h0 : 0 ≤ s.now) (h1 : s.now ≤ 1073741824) :
    Calls Tryz.prog 18 #[.pointer (some ⟨b, 0, none⟩), .string id] w (LvIs (plv (cfl s.c) s.now (l[k]'hk).1) 0 w) := by
  have hbl := hb.lt
  have HB := Lib.hid hb
  have HP := Lib.hid hp
  have b7 := hb.cell 7
  simp [rnodeCs] at b7
  have hkn : k < pn := by rw [← hp.len]; exact hk
  have hf := rfind_some A pc w.heap.size pn l k hk (fun j hj hjk => by rw [hid]; exact hfst j hj hjk) hm w hp (Nat.le_refl _)
  rw [hid] at hf
  have HF := Lib.hid hf
  obtain ⟨p, hpk⟩ : ∃ p, l[k]'hk = p := ⟨_, rfl⟩
  have HPK := Lib.hid hpk
  rw [hpk] at hok ⊢
  have HK := Lib.hid hok
  clear hb hp hid hfst hok hpk hf
  unfold maxLen at hm
  go_enter Tryz.func18, Tryz.ntmps18
  go_wp2_with fail
  refine HF.out.mono ?_
  rintro e' w1 ⟨rfl, hb1⟩
  have B1 := Lib.hid hb1
  have HP1 := Lib.hid (HP.out.below hb1 (Nat.le_refl _))
  clear hb1 b7
  obtain ⟨pb, off, rfl, hpb, hcs⟩ := HP1.out.addr (by omega)
  have hck := hcs k hk
  have hok2 := HP1.out.ok _ (List.getElem_mem hk)
  rw [HPK.out] at hck hok2
  have OK := Lib.hid hok2
  have CK := Lib.hid hck
  obtain ⟨c0, c1, c2, c3, c4, c5, c6⟩ := hck
  have hs1 := B1.out.size
  have hpb1 : pb < w1.heap.size := by omega
  clear hcs hok2
  go_upto_region 15 with fail
  have w1x : IntKind.i64.wrap (s.now - plast p) = s.now - plast p := by have := HK.out.2.1; have := HK.out.2.2; rw [IntKind.wrap_i64]; simp only [plast]; omega
  have hlk := HK.out.1
  obtain ⟨hwz, hl0, hl1, hn1⟩ := lookE_zero hlk
  have hle := (winE_zero hwz).2.2.2
  have hsum : sumsE ((pvals p).length : Int) (s1 (pvals p)) (s2 (pvals p)) = 0 := sums_ok _ hle
  have hn2 : (1 : Int) ≤ ((pvals p).length : Int) := by have : 1 ≤ (pvals p).length := hn1; omega
  have HLV := Lib.hid (show ∀ W, Below w1.heap.size w1 W → Calls Tryz.prog 41 #[psl p, .int .i64 (cfl s.c), .int .i64 (s.now - plast p)] W fun e w' => e = .returned (.int .i64 (plv (cfl s.c) s.now p.1)) ∧ Below W.heap.size W w' from fun W hW =>
    rlevel_ok (cfl s.c) (s.now - plast p) p.2.1 p.2.2 w.heap.size (pvals p).length (pvals p) rfl hle hn1 hl0 hl1 _ _ rfl rfl _ (lvV_nat hsum hn2 hl0 hl1).symm HK.out.2.1 (by have := HK.out.2.2; simp only [plast]; omega) OK.out.2.1 OK.out.2.2.1 W (OK.out.1.below hW hs1) (Nat.le_trans hs1 hW.size))
  have HB1 := Lib.hid (HB.out.below B1.out hbl)
  have HS := Lib.hid (show ∀ w', Below w1.heap.size w1 w' → (Below w1.heap.size w1 w' ∧ w'.cell? ⟨b, 7, none⟩ = some (.slice (some ⟨pb, off, none⟩) pn pc) ∧ w'.cell? ⟨b, 4, none⟩ = some (.int .i64 (cfl s.c)) ∧ w'.cell? ⟨b, 5, none⟩ = some (.int .i64 s.now) ∧ w'.cell? ⟨pb, off + k * 7 + 5, none⟩ = some (psl p) ∧ w'.cell? ⟨pb, off + k * 7 + 6, none⟩ = some (.int .i64 (plast p)))
    from fun w' h => ⟨h, (HB1.out.below h (by omega)).cell 7, (HB1.out.below h (by omega)).cell 4, (HB1.out.below h (by omega)).cell 5, (h.cell (p := ⟨pb, off + k * 7 + 5, none⟩) hpb1).trans CK.out.2.2.2.2.2.1, (h.cell (p := ⟨pb, off + k * 7 + 6, none⟩) hpb1).trans CK.out.2.2.2.2.2.2⟩)
  clear c0 c1 c2 c3 c4 c5 c6 hlk hwz hle hsum
  go_region_held3 (fun w' => Below w1.heap.size w1 w' ∧ w'.cell? ⟨b, 7, none⟩ = some (.slice (some ⟨pb, off, none⟩) pn pc) ∧ w'.cell? ⟨b, 4, none⟩ = some (.int .i64 (cfl s.c)) ∧ w'.cell? ⟨b, 5, none⟩ = some (.int .i64 s.now) ∧ w'.cell? ⟨pb, off + k * 7 + 5, none⟩ = some (psl p) ∧ w'.cell? ⟨pb, off + k * 7 + 6, none⟩ = some (.int .i64 (plast p)))
    ((refine HS.out _ ?_; repeat (first | (with_reducible exact hL3) | (with_reducible exact Below.refl _ _) | (with_reducible refine Below.al5 ?_) | (with_reducible refine Below.drew ?_))))
    ((go_at_call 41; (with_reducible refine (HLV.out _ ?ia).mono ?_); (case ia => repeat (first | (with_reducible exact Below.refl _ _) | (with_reducible refine Below.al5 ?_) | (with_reducible refine Below.drew ?_))); rintro e' w3 ⟨rfl, hb3⟩; have hL3 : Below w1.heap.size w1 w3 := Below.thru5 (by repeat (first | (with_reducible exact Below.refl _ _) | (with_reducible refine Below.al5 ?_) | (with_reducible refine Below.drew ?_))) hb3))
  all_goals
    have EV := Lib.hid (B1.out.trans (hL3.mono hs1))
    clear hL3 hb3
    go_wp2
    refine bodyPost_ret (v := .tuple #[.int .i64 (plv (cfl s.c) s.now p.1), .int .i64 0]) (by simp [results, Tryz.results18, go_sem]) rfl ⟨rfl, EV.out⟩
theorem rlv_core (hb : Blk w b 73 (rnodeCs s.c s.now s.drops (.slice A pn pc) sv)) (hp : Peers w w.heap.size A pn l) (hm : l.map Prod.fst = s.D) (hg : NGood s) (id : ByteArray) :
    Calls Tryz.prog 18 #[.pointer (some ⟨b, 0, none⟩), .string id] w (LvIs (s.lv id) (lvEr s.D id) w) := by
  have hl : l.length = s.D.length := by rw [← hm, List.length_map]
  have hn : pn ≤ maxLen := by have := hg.ps.six; have := hp.len; unfold maxLen; omega
  have hget : ∀ j, (hj : j < l.length) → (s.D[j]'(by omega)) = (l[j]'hj).1 := fun j hj => by simp only [← hm, List.getElem_map]
  unfold NSt.lv lvOf lvEr
  rw [fnd_idx]
  cases hi : idxOf s.D id with
  | none =>
    have hno := idx_none hi
    exact rlv_none hb hp hn id (fun j hj e => hno j (by omega) (by rw [hget j hj]; exact e))
  | some k =>
    obtain ⟨hk, h1, h2⟩ := idx_some hi
    have hkl : k < l.length := by omega
    have e : s.D[k]? = some (l[k]'hkl).1 := by rw [List.getElem?_eq_getElem hk, hget k hkl]
    show Calls _ _ _ _ (LvIs (match s.D[k]? with | some d => plv (cfl s.c) s.now d | none => 0) (match s.D[k]? with | some _ => 0 | none => 4) w)
    rw [e]
    exact rlv_some hb hp hn id k hkl (by rw [hget k hkl] at h1; exact h1) (fun j hj hjk e => h2 j (by omega) hjk (by rw [hget j hj]; exact e)) (by rw [← hget k hkl]; exact hg.pl _ (List.getElem_mem hk)) hg.now0 hg.now1
end
end Go.Proofs.YtcikljcjhijjdabGreat

namespace Go.Proofs.YtcikljcjhijjdabGreat
open Go.RowKit Go.Lib
set_option linter.unusedSimpArgs false
set_option linter.unusedVariables false

set_option maxHeartbeats 2000000 in
set_option maxRecDepth 100000 in
theorem rnotes_run (b g cap n pn cp : Nat) (A : Option Addr) (c : CfgD) (now drops : Int) (S : List TriD) (f : ByteArray → Int) (hn8 : n ≤ 8) (hbg : b ≠ g) (w : World) (hb : Blk w b 73 (rnodeCs c now drops (.slice A pn cp) (.slice (some ⟨g, 0, none⟩) n cap)))
    (hs : Row3 92 w g cap n S) (hf : ∀ W id, Kept (· = g) w W → ∃ er, Calls Tryz.prog 18 #[.pointer (some ⟨b, 0, none⟩), .string id] W (LvIs (f id) er W)) :
    Calls Tryz.prog 44 #[.pointer (some ⟨b, 0, none⟩)] w (ToldIs g 92 cap n (subsTo f S) (notesOf f S) w) := by
  obtain ⟨i0, hi, hz0, hz1, hz2⟩ := info_parts note_info
  have HB := Lib.hid hb
  have HS := Lib.hid hs
  have HF := Lib.hid hf
  have HN := Lib.hid hs.1
  have hgl := hs.lt
  have hbl := hb.lt
  have hcap := hs.2.2.1
  have hncap := hs.2.1
  unfold maxLen at hcap
  have b8 := hb.cell 8
  simp [rnodeCs] at b8
  clear hb hs hf
  go_enter Tryz.func44, Tryz.ntmps44
  go_wp2_with fail
  go_loopw [3, 14] (fun v iv wr => ∃ k : Nat, k ≤ n ∧ iv = .int .i64 (k : Int) ∧ TRel f S g cap n w k v wr) (fun _ iv _ => n - (RowKit.intOf iv).toNat)
  case atStart => exact ⟨0, by omega, rfl, TRel.start f HS.out⟩
  case round =>
    obtain ⟨k, hk, rfl, hrel⟩ := hrel
    obtain ⟨wo, rfl⟩ : ∃ wo, wo = wr := ⟨_, rfl⟩
    have RL0 := Lib.hid hrel
    clear hrel b8
    obtain ⟨Av, cv, rfl⟩ := ownsRow_len RL0.out.1
    by_cases hlt : k < n
    · have hkS : k < S.length := by rw [HN.out]; exact hlt
      have hkM : k < (subsMid f S k).length := by rw [subsMid_len]; exact hkS
      have hcs := RL0.out.2.1.cells k hkM
      rw [subsMid_at f S k hkS hkM] at hcs
      have hgl0 := RL0.out.2.1.lt
      have HSM := Lib.hid (fun w1 (h0 : Below wo.heap.size wo w1) he => (RL0.out.below h0).same hkS he)
      have HNW := Lib.hid (fun w0 v' w1 (h0 : Below wo.heap.size wo w0) he m hm ho hb => TRel.new (w1 := w1) (v' := v') (RL0.out.below h0) hgl hkS he m hm ho hb)
      have HMK := Lib.hid (show markOf f (S[k]'hkS) = decide ((S[k]'hkS).2.1 ≤ f (S[k]'hkS).1) from rfl)
      generalize S[k]'hkS = s at *
      obtain ⟨sid, sth, son⟩ := s
      obtain ⟨c0, c1, c2⟩ := hcs
      have EX := Lib.hid ((Env.start wo).lay (tcells (sid, sth, son)).toArray 92)
      simp only [tcells] at EX
      have RL := Lib.hid (RL0.out.below EX.out.bel)
      obtain ⟨er, hlv⟩ := HF.out _ sid RL.out.2.2
      have HLV := Lib.hid hlv
      clear hlv
      go_wp2_with fail
      refine HLV.out.mono ?_
      rintro e' w1 ⟨rfl, hb1⟩
      have E1 := Lib.hid (EX.out.below hb1)
      have RL1 := Lib.hid (RL.out.below hb1)
      have x0 := E1.out.hd.cell 0
      have x1 := E1.out.hd.cell 1
      have x2 := E1.out.hd.cell 2
      have hx := E1.out.hd.lt
      simp at x0 x1 x2
      have hb1s := E1.out.bel.size
      have hglt : g < w1.heap.size := by omega
      have fz := RL1.out.2.1.frozen (k * 3 + 2)
      have d2 := (E1.out.bel.cell (p := ⟨g, k * 3 + 2, none⟩) hgl0).trans c2
      have HB1 := Lib.hid (RL1.out.2.2.blk HB.out hbg)
      have b8 := HB1.out.cell 8
      have hbl1 := HB1.out.lt
      simp [rnodeCs] at b8
      clear hb1 c0 c1 c2
      cases hmk : decide (sth ≤ f sid) <;> cases son
      case false.false | true.true =>
        have KEEP := Lib.hid (HSM.out w1 E1.out.bel (by rw [HMK.out, hmk]))
        have hle := hmk
        simp only [decide_eq_false_iff_not, decide_eq_true_eq] at hle
        clear hmk
        go_wp2
        exact ⟨⟨k + 1, by omega, by simp, KEEP.out⟩, by simp [RowKit.intOf]; omega⟩
      case false.true =>
        have HNX := Lib.hid (fun v' w9 ho hb => HNW.out w1 v' w9 E1.out.bel (by rw [HMK.out, hmk]; decide) false (by rw [HMK.out, hmk]) ho hb)
        have hle := hmk
        clear hle
        have e0 : (w1.setCell ⟨g, k * 3 + 2, none⟩ (.bool false)).cell? ⟨wo.heap.size, 0, none⟩ = some (.string sid) := (World.cell?_setCell_other _ _ _ _ (by intro h2; simp only [Addr.mk.injEq] at h2; omega)).trans x0
        have e1 : (w1.setCell ⟨g, k * 3 + 2, none⟩ (.bool false)).cell? ⟨wo.heap.size, 1, none⟩ = some (.int .i64 sth) := (World.cell?_setCell_other _ _ _ _ (by intro h2; simp only [Addr.mk.injEq] at h2; omega)).trans x1
        have OWN := Lib.hid (ownsRow_setCell RL1.out.1 (a := ⟨g, k * 3 + 2, none⟩) hgl (.bool false))
        have hwz := RL1.out.2.2.size
        have hsz2 : w1.heap.size ≤ (w1.setCell ⟨g, k * 3 + 2, none⟩ (.bool false)).heap.size := by simp [World.setCell]
        have hL := notesOf_le f (S.take k)
        have hL2 : (S.take k).length ≤ 8 := by rw [List.length_take]; omega
        have HRD := Lib.hid (show Reads ((w1.setCell ⟨g, k * 3 + 2, none⟩ (.bool false)).alloc (.cells #[.string sid, .int .i64 sth, .bool false] 55)) (w1.heap.size + 1) 3 (some ⟨w1.heap.size, 0, none⟩) 1 (cells3 [(sid, sth, false)]) by
          have e : (w1.setCell ⟨g, k * 3 + 2, none⟩ (.bool false)).heap.size = w1.heap.size := by simp [World.setCell]
          have := reads_tri (w1.setCell ⟨g, k * 3 + 2, none⟩ (.bool false)) 55 (sid, sth, false)
          rw [e] at this
          exact this)
        go_wp2_with (at_builtin; refine wpList_appN _ rfl _ _ 38 rfl w.heap.size 55 i0 _ 3 32 Tryz.underlying38 hi hz0 hz1 hz2 rfl (by decide) _ _ _ rfl (OWN.out.alloc _) _ _ 1 _ _ rfl HRD.out (oneCell_3 [(sid, sth, false)]) ?c1 ?c2 ?c3 ?_)
        case c1 => unfold maxLen; omega
        case c2 => omega
        case c3 => simp; omega
        intro v9 w9 hown9 hb9
        obtain ⟨A9, c9, rfl⟩ := ownsRow_len hown9
        have KEEP := Lib.hid (HNX.out _ w9 hown9 (((Below.refl _ _).alloc (by omega) _).trans hb9))
        clear hown9 hb9 e0 e1
        go_wp2
        exact ⟨⟨k + 1, by omega, by simp, KEEP.out⟩, by simp [RowKit.intOf]; omega⟩
      case true.false =>
        have HNX := Lib.hid (fun v' w9 ho hb => HNW.out w1 v' w9 E1.out.bel (by rw [HMK.out, hmk]; decide) true (by rw [HMK.out, hmk]) ho hb)
        have hle := hmk
        simp only [decide_eq_true_eq] at hle
        clear hmk
        have e0 : (w1.setCell ⟨g, k * 3 + 2, none⟩ (.bool true)).cell? ⟨wo.heap.size, 0, none⟩ = some (.string sid) := (World.cell?_setCell_other _ _ _ _ (by intro h2; simp only [Addr.mk.injEq] at h2; omega)).trans x0
        have e1 : (w1.setCell ⟨g, k * 3 + 2, none⟩ (.bool true)).cell? ⟨wo.heap.size, 1, none⟩ = some (.int .i64 sth) := (World.cell?_setCell_other _ _ _ _ (by intro h2; simp only [Addr.mk.injEq] at h2; omega)).trans x1
        have OWN := Lib.hid (ownsRow_setCell RL1.out.1 (a := ⟨g, k * 3 + 2, none⟩) hgl (.bool true))
        have hwz := RL1.out.2.2.size
        have hsz2 : w1.heap.size ≤ (w1.setCell ⟨g, k * 3 + 2, none⟩ (.bool true)).heap.size := by simp [World.setCell]
        have hL := notesOf_le f (S.take k)
        have hL2 : (S.take k).length ≤ 8 := by rw [List.length_take]; omega
        have HRD := Lib.hid (show Reads ((w1.setCell ⟨g, k * 3 + 2, none⟩ (.bool true)).alloc (.cells #[.string sid, .int .i64 sth, .bool true] 55)) (w1.heap.size + 1) 3 (some ⟨w1.heap.size, 0, none⟩) 1 (cells3 [(sid, sth, true)]) by
          have e : (w1.setCell ⟨g, k * 3 + 2, none⟩ (.bool true)).heap.size = w1.heap.size := by simp [World.setCell]
          have := reads_tri (w1.setCell ⟨g, k * 3 + 2, none⟩ (.bool true)) 55 (sid, sth, true)
          rw [e] at this
          exact this)
        go_wp2_with (at_builtin; refine wpList_appN _ rfl _ _ 38 rfl w.heap.size 55 i0 _ 3 32 Tryz.underlying38 hi hz0 hz1 hz2 rfl (by decide) _ _ _ rfl (OWN.out.alloc _) _ _ 1 _ _ rfl HRD.out (oneCell_3 [(sid, sth, true)]) ?c1 ?c2 ?c3 ?_)
        case c1 => unfold maxLen; omega
        case c2 => omega
        case c3 => simp; omega
        intro v9 w9 hown9 hb9
        obtain ⟨A9, c9, rfl⟩ := ownsRow_len hown9
        have KEEP := Lib.hid (HNX.out _ w9 hown9 (((Below.refl _ _).alloc (by omega) _).trans hb9))
        clear hown9 hb9 e0 e1
        go_wp2
        exact ⟨⟨k + 1, by omega, by simp, KEEP.out⟩, by simp [RowKit.intOf]; omega⟩
    · have hkn : k = n := by omega
      subst hkn
      have hall : S.take k = S := List.take_of_length_le (by rw [HN.out]; omega)
      have hend := RL0.out
      unfold TRel at hend
      rw [hall, subsMid_all f S k (by rw [HN.out]; omega)] at hend
      have HE := Lib.hid hend
      rw [hall]
      clear hend hall
      go_wp2
      go_ret
      exact ⟨Av, cv, rfl, HE.out.1, HE.out.2.1, HE.out.2.2⟩

section
variable {X : Nat → Prop} {w : World} {b pn pc : Nat} {A : Option Addr} {sv : Value} {l : List PeerT} {s : NSt}
/-- the answer of Notes -/
def RTellIs (X : Nat → Prop) (b : Nat) (A : Option Addr) (pn pc : Nat) (sv : Value) (l : List PeerT) (s : NSt) (w : World) (e : Ending) (w' : World) : Prop :=
  ∃ A' c', e = .returned (.slice A' s.notes.length c') ∧ w'.ownsRow w.heap.size 55 3 (.slice A' s.notes.length c') s.notes.length (cells3 s.notes) ∧ RNodeIs X w' b A pn pc sv l s.tell ∧ Kept X w w'

set_option maxHeartbeats 400000 in
set_option maxRecDepth 100000 in
theorem rnotes_none (b : Nat) (A : Option Addr) (c : CfgD) (now drops : Int) (w : World) (hb : Blk w b 73 (rnodeCs c now drops (.slice A pn pc) (.slice none 0 0))) :
    Calls Tryz.prog 44 #[.pointer (some ⟨b, 0, none⟩)] w fun e w' => e = .returned (.slice none 0 0) ∧ w = w' := by
  have hbl := hb.lt
  have b8 := hb.cell 8
  simp [rnodeCs] at b8
  clear hb
  go_enter Tryz.func44, Tryz.ntmps44
  go_wp2_with fail
  go_loop [3, 14] (fun v iv => v = .slice none 0 0 ∧ iv = .int .i64 0) (fun _ iv => 0)
  case atStart => exact ⟨rfl, rfl⟩
  case round =>
    obtain ⟨rfl, rfl⟩ := hrel
    go_wp2
    go_ret
    exact ⟨rfl, rfl⟩
theorem rnotes_any (h : RNodeIs X w b A pn pc sv l s) (hg : NGood s) :
    Calls Tryz.prog 44 #[.pointer (some ⟨b, 0, none⟩)] w (RTellIs X b A pn pc sv l s w) := by
  rcases h.subs with ⟨hsv, hS⟩ | ⟨g, cap, n, hsv, hr⟩
  · subst hsv
    refine (rnotes_none b A s.c s.now s.drops w h.blk).mono ?_
    rintro e w' ⟨rfl, rfl⟩
    have e1 : s.notes = [] := by unfold NSt.notes; rw [hS]; rfl
    have e2 : s.tell = s := by unfold NSt.tell; rw [hS]; show ({ s with S := [] } : NSt) = s; rw [← hS]
    rw [show RTellIs X b A pn pc (.slice none 0 0) l s w _ w = ∃ A' c', _ from rfl, e1, e2]
    exact ⟨none, 0, rfl, World.ownsRow_nil _ _ _ _, h, Kept.refl _ _⟩
  · subst hsv
    have hbg : b ≠ g := fun e => (h.xs g rfl).2 e.symm
    have hn : n ≤ 8 := by rw [← hr.1]; exact hg.eight
    refine (rnotes_run b g cap n pn pc A s.c s.now s.drops s.S s.lv hn hbg w h.blk hr ?_).mono ?_
    · intro W id hk
      exact ⟨_, rlv_core (hk.blk h.blk hbg) ((hk.peers h.peers (h.far.mono fun k hy hx => hy.2.2 (by simp only [Value.ownBlock]; rw [hx]))).more hk.size) h.map hg id⟩
    · rintro e w' ⟨A', c', rfl, h1, h2, h3⟩
      exact ⟨A', c', rfl, h1, h.mark h3 h2, h3.mono fun k hk => .inl (hk ▸ (h.xs g rfl).1)⟩
end
end Go.Proofs.YtcikljcjhijjdabGreat

namespace Go.Proofs.YtcikljcjhijjdabGreat
open Go.RowKit Go.Lib
set_option linter.unusedSimpArgs false
set_option linter.unusedVariables false

/-- not of that name -/
def notOf (id : ByteArray) (p : TriD) : Bool := !eqB p.1 id














/-- the place of the first of that name, or -1 -/
def ixN (id : ByteArray) (S : List TriD) : Int := match S.findIdx? (fun p => eqB p.1 id) with | some k => (k : Int) | none => -1



























































































theorem Row3.set3 {t : TypeId} {w : World} {g cap n : Nat} {l : List TriD} (h : Row3 t w g cap n l) (k : Nat) (hk : k < l.length) (p : TriD) :
    Row3 t (((w.setCell ⟨g, k * 3, none⟩ (.string p.1)).setCell ⟨g, k * 3 + 1, none⟩ (.int .i64 p.2.1)).setCell ⟨g, k * 3 + 2, none⟩ (.bool p.2.2)) g cap n (l.set k p) := by
  obtain ⟨h0, h1, h2, cur, h3, h4, h5⟩ := h
  refine ⟨by simpa using h0, h1, h2, _, ((h3.set_ (k * 3) (.string p.1)).set_ (k * 3 + 1) (.int .i64 p.2.1)).set_ (k * 3 + 2) (.bool p.2.2), by simpa using h4, ?_⟩
  have e1 := cells3_set l k 0 (.string p.1) (p.1, (l[k]'hk).2) hk (by decide) rfl
  have e2 := cells3_set (l.set k (p.1, (l[k]'hk).2)) k 1 (.int .i64 p.2.1) (p.1, p.2.1, (l[k]'hk).2.2) (by simpa using hk) (by decide) (by rw [List.getElem_set_self]; rfl)
  have e3 := cells3_set ((l.set k (p.1, (l[k]'hk).2)).set k (p.1, p.2.1, (l[k]'hk).2.2)) k 2 (.bool p.2.2) p (by simpa using hk) (by decide) (by rw [List.getElem_set_self]; rfl)
  rw [List.set_set, List.set_set] at e3
  rw [← e3]
  rw [List.set_set] at e2
  rw [← e2, ← e1, ← h5]
  simp only [Array.toList_setIfInBounds, List.take_set, Nat.add_zero]
theorem Row3.head {t : TypeId} {w : World} {g cap n : Nat} {l : List TriD} (h : Row3 t w g cap n l) (m : Nat) (hm : m ≤ n) : Row3 t w g cap m (l.take m) := by
  obtain ⟨h0, h1, h2, cur, h3, h4, h5⟩ := h
  refine ⟨by rw [List.length_take]; omega, by omega, h2, cur, h3, h4, ?_⟩
  rw [← cells3_take, ← h5, List.take_take, Nat.min_eq_left (by omega)]
/-- after j subs, i of which stay -/
def DRel (w : World) (g cap n : Nat) (S : List TriD) (id : ByteArray) (i j : Nat) (wr : World) : Prop :=
  ∃ M, Row3 92 wr g cap n M ∧ M.take i = (S.take j).filter (notOf id) ∧ M.drop j = S.drop j ∧ Kept (· = g) w wr
theorem DRel.len {w : World} {g cap n : Nat} {S : List TriD} {id : ByteArray} {i j : Nat} {wr : World} (h : DRel w g cap n S id i j wr) (hi : i ≤ n) : i = ((S.take j).filter (notOf id)).length := by
  obtain ⟨M, h1, h2, -⟩ := h
  rw [← h2, List.length_take, h1.1]; omega
theorem take_filter_skip {S : List TriD} {id : ByteArray} {j : Nat} (hj : j < S.length) (he : notOf id (S[j]'hj) = false) : (S.take (j + 1)).filter (notOf id) = (S.take j).filter (notOf id) := by
  rw [List.take_succ_eq_append_getElem hj, List.filter_append]
  simp [he]
theorem take_filter_keep {S : List TriD} {id : ByteArray} {j : Nat} (hj : j < S.length) (he : notOf id (S[j]'hj) = true) : (S.take (j + 1)).filter (notOf id) = (S.take j).filter (notOf id) ++ [S[j]'hj] := by
  rw [List.take_succ_eq_append_getElem hj, List.filter_append]
  simp [he]
theorem DRel.start {w wr : World} {g cap n : Nat} {S : List TriD} {id : ByteArray} {k : Nat} (hs : Row3 92 w g cap n S) (hk : k < S.length) (he : eqB (S[k]'hk).1 id = true) (hne : ∀ j, (hj : j < S.length) → j < k → eqB (S[j]'hj).1 id = false) (hb : Below w.heap.size w wr) : DRel w g cap n S id k (k + 1) wr := by
  refine ⟨S, hs.below hb hs.lt, ?_, rfl, .of_below hb⟩
  rw [take_filter_skip hk (by unfold notOf; rw [he]; rfl)]
  symm
  rw [List.filter_eq_self]
  intro x hx
  obtain ⟨j, hj, rfl⟩ := List.getElem_of_mem hx
  rw [List.length_take] at hj
  rw [List.getElem_take]
  unfold notOf
  rw [hne j (by omega) (by omega)]; rfl
theorem DRel.get {w wr : World} {g cap n : Nat} {S : List TriD} {id : ByteArray} {i j : Nat} (h : DRel w g cap n S id i j wr) (hj : j < S.length) (hn : S.length = n) : TriC wr g (j * 3) (S[j]'hj) := by
  obtain ⟨M, h1, h2, h3, h4⟩ := h
  have hjm : j < M.length := by rw [h1.1]; omega
  have e : M[j]'hjm = S[j]'hj := by
    have := congrArg (fun l => l[0]?) h3
    simp only [List.getElem?_drop, Nat.add_zero, List.getElem?_eq_getElem hjm, List.getElem?_eq_getElem hj] at this
    injection this
  have := h1.cells j hjm
  rwa [e] at this
theorem DRel.below {w wr w1 : World} {g cap n : Nat} {S : List TriD} {id : ByteArray} {i j : Nat} (h : DRel w g cap n S id i j wr) (hb : Below wr.heap.size wr w1) : DRel w g cap n S id i j w1 := by
  obtain ⟨M, h1, h2, h3, h4⟩ := h
  exact ⟨M, h1.below hb h1.lt, h2, h3, h4.step hb⟩
theorem DRel.skip {w wr : World} {g cap n : Nat} {S : List TriD} {id : ByteArray} {i j : Nat} (h : DRel w g cap n S id i j wr) (hj : j < S.length) (he : eqB (S[j]'hj).1 id = true) : DRel w g cap n S id i (j + 1) wr := by
  obtain ⟨M, h1, h2, h3, h4⟩ := h
  refine ⟨M, h1, ?_, ?_, h4⟩
  · rw [h2, take_filter_skip hj (by unfold notOf; rw [he]; rfl)]
  · have := congrArg (List.drop 1) h3
    rwa [List.drop_drop, List.drop_drop] at this
theorem DRel.put {w wr : World} {g cap n : Nat} {S : List TriD} {id : ByteArray} {i j : Nat} (h : DRel w g cap n S id i j wr) (hij : i < j) (hj : j < S.length) (hn : S.length = n) (he : eqB (S[j]'hj).1 id = false) (p : TriD) (hp : S[j]'hj = p) :
    DRel w g cap n S id (i + 1) (j + 1) (((wr.setCell ⟨g, i * 3, none⟩ (.string p.1)).setCell ⟨g, i * 3 + 1, none⟩ (.int .i64 p.2.1)).setCell ⟨g, i * 3 + 2, none⟩ (.bool p.2.2)) := by
  obtain ⟨M, h1, h2, h3, h4⟩ := h
  have hm := h1.1
  refine ⟨M.set i p, h1.set3 i (by omega) p, ?_, ?_, ((h4.setCell (.inl rfl) _).setCell (.inl rfl) _).setCell (.inl rfl) _⟩
  · rw [take_filter_keep hj (by unfold notOf; rw [he]; rfl), ← h2, hp, List.take_succ_eq_append_getElem (by rw [List.length_set]; omega), List.getElem_set_self, List.take_set, List.set_eq_of_length_le (by rw [List.length_take]; omega)]
  · rw [List.drop_set, if_pos (by omega)]
    have := congrArg (List.drop 1) h3
    rwa [List.drop_drop, List.drop_drop] at this
theorem Row3.of_own1 {t : TypeId} {w : World} {base g cap n : Nat} {l : List TriD} (h : w.ownsRow base t 3 (.slice (some ⟨g, 0, none⟩) n cap) n (cells3 l)) : Row3 t w g cap n l := by
  have hl : l.length = n := by have := h.1; rw [cells3_len] at this; omega
  rcases h.2 with ⟨hv, h0⟩ | ⟨g', cap', cur, hv, hbg, hg, hnc, hmc, hsz, hx⟩
  · cases hv
  · injection hv with h1 h2 h3
    injection h1 with h1
    injection h1 with h1
    subst h1 h3
    exact ⟨hl, hnc, hmc, cur, hg, hsz, hx⟩
/-- what DeleteFunc answers -/
def DfIs (g cap : Nat) (S : List TriD) (w : World) (e : Ending) (w' : World) : Prop := e = .returned (.slice (some ⟨g, 0, none⟩) S.length cap) ∧ Row3 92 w' g cap S.length S ∧ Kept (· = g) w w'




































































































































end Go.Proofs.YtcikljcjhijjdabGreat

namespace Go.Proofs.YtcikljcjhijjdabGreat
open Go.RowKit Go.Lib
set_option linter.unusedSimpArgs false
set_option linter.unusedVariables false

def cutAt (S : List TriD) (k : Nat) : List TriD := S.take k ++ S.drop (k + 1)
def NSt.partE (s : NSt) (id : ByteArray) (th : Int) : Int := if 0 ≤ ixI (isSub id th) s.S then 0 else 4
def NSt.parted (s : NSt) (id : ByteArray) (th : Int) : NSt := if 0 ≤ ixI (isSub id th) s.S then { s with S := cutAt s.S (ixI (isSub id th) s.S).toNat } else s
theorem cutAt_mem {S : List TriD} {k : Nat} {t : TriD} (h : t ∈ cutAt S k) : t ∈ S := by
  unfold cutAt at h
  rcases List.mem_append.1 h with h | h
  · exact List.mem_of_mem_take h
  · exact List.mem_of_mem_drop h
theorem cutAt_len {S : List TriD} {k : Nat} (h : k < S.length) : (cutAt S k).length = S.length - 1 := by
  unfold cutAt; rw [List.length_append, List.length_take, List.length_drop]; omega
theorem cutAt_le (S : List TriD) (k : Nat) : (cutAt S k).length ≤ S.length := by
  unfold cutAt; rw [List.length_append, List.length_take, List.length_drop]; omega
theorem ixI_lt {P : TriD → Bool} {S : List TriD} (h : 0 ≤ ixI P S) : (ixI P S).toNat < S.length ∧ ixI P S = ((ixI P S).toNat : Int) := by
  unfold ixI at h ⊢
  cases hi : S.findIdx? P with
  | none => rw [hi] at h; exact absurd h (by decide)
  | some k =>
    rw [List.findIdx?_eq_some_iff_getElem] at hi
    obtain ⟨hk, -⟩ := hi
    exact ⟨by simpa using hk, by simp⟩
theorem NGood.parted {s : NSt} (h : NGood s) (id : ByteArray) (th : Int) : NGood (s.parted id th) := by
  unfold NSt.parted
  split
  · exact ⟨h.id, h.cfg, h.now0, h.now1, h.seqs, h.drops0, h.drops1, h.ps, h.pv, Nat.le_trans (cutAt_le _ _) h.eight, fun t ht => h.th t (cutAt_mem ht)⟩
  · exact h
/-- subs that lie in the same block, which alone was written -/
theorem HoldIs.thin {T : TypeId} {mk mk' : Value → Value → Array Value} {X : Nat → Prop} {w w1 : World} {b pn pc g cap n n' i : Nat} {A : Option Addr} {l : List PeerT} {D : List PeerD} {S S' : List TriD}
    (h0 : HoldIs T mk X w b A pn pc (.slice (some ⟨g, 0, none⟩) n cap) l D S) (hk : Kept (· = g) w w1) (hs : Row3 92 w1 g cap n' S') (hm : (mk (.slice A pn pc) (.slice (some ⟨g, 0, none⟩) n cap)).setIfInBounds i (.slice (some ⟨g, 0, none⟩) n' cap) = mk' (.slice A pn pc) (.slice (some ⟨g, 0, none⟩) n' cap)) :
    HoldIs T mk' (Go.Proofs.YtcikljcjhijjdabGreat.grow X w w1) (w1.setCell ⟨b, i, none⟩ (.slice (some ⟨g, 0, none⟩) n' cap)) b A pn pc (.slice (some ⟨g, 0, none⟩) n' cap) l D S' :=
  h0.join (hk.mono fun k hk => .inl (by simp only [Value.ownBlock]; rw [hk])) (.inr ⟨g, cap, n', rfl, hs⟩) (.inl rfl) hm

section
variable {X : Nat → Prop} {w : World} {b pn pc : Nat} {A : Option Addr} {sv : Value} {l : List PeerT} {s : NSt}

























































































end
end Go.Proofs.YtcikljcjhijjdabGreat

namespace Go.Proofs.YtcikljcjhijjdabGreat
open Go.RowKit Go.Lib
set_option linter.unusedSimpArgs false
set_option linter.unusedVariables false

def cutD (D : List PeerD) (k : Nat) : List PeerD := D.take k ++ D.drop (k + 1)
def NSt.leaveE (s : NSt) (id : ByteArray) : Int := match idxOf s.D id with | some _ => 0 | none => 4
def NSt.left (s : NSt) (id : ByteArray) : NSt := match idxOf s.D id with | some k => { s with D := cutD s.D k, S := s.S.filter (notOf id) } | none => s
theorem cutD_ok {D : List PeerD} (h : PsOk D) (k : Nat) : PsOk (cutD D k) := by
  unfold cutD
  refine ⟨by rw [List.length_append, List.length_take, List.length_drop]; have := h.six; omega, fun d hd => ?_, ?_⟩
  · rcases List.mem_append.1 hd with hd | hd
    · exact h.good d (List.mem_of_mem_take hd)
    · exact h.good d (List.mem_of_mem_drop hd)
  · have h1 : (D.take k ++ D.drop (k + 1)).Sublist (D.take k ++ D.drop k) := List.Sublist.append (List.Sublist.refl _) (List.drop_sublist_drop_left D (by omega))
    rw [List.take_append_drop] at h1
    exact h.asc.sublist h1
theorem NGood.left {s : NSt} (h : NGood s) (id : ByteArray) : NGood (s.left id) := by
  unfold NSt.left
  split
  · refine ⟨h.id, h.cfg, h.now0, h.now1, h.seqs, h.drops0, h.drops1, cutD_ok h.ps _, fun d hd => ?_, Nat.le_trans (List.length_filter_le _ _) h.eight, fun t ht => h.th t ((List.mem_filter.1 ht).1)⟩
    unfold cutD at hd
    rcases List.mem_append.1 hd with hd | hd
    · exact h.pv d (List.mem_of_mem_take hd)
    · exact h.pv d (List.mem_of_mem_drop hd)
  · exact h











section
variable {X : Nat → Prop} {w : World} {b pn pc : Nat} {A : Option Addr} {sv : Value} {l : List PeerT} {s : NSt}






























/-- what DeleteFunc answers, whatever the subs -/
def DfA (sv : Value) (S : List TriD) (w : World) (e : Ending) (w' : World) : Prop := ∃ sv', e = .returned sv' ∧ SubsAt w' sv' S ∧ Kept (fun k => sv.ownBlock = some k) w w' ∧ sv'.ownBlock = sv.ownBlock
theorem ixN_none {id : ByteArray} {S : List TriD} (h : S.findIdx? (fun p => eqB p.1 id) = none) : ixN id S = -1 ∧ S.filter (notOf id) = S := by
  refine ⟨by unfold ixN; rw [h], ?_⟩
  rw [List.filter_eq_self]
  rw [List.findIdx?_eq_none_iff] at h
  intro x hx
  unfold notOf
  rw [h x hx]; rfl


























































































end
end Go.Proofs.YtcikljcjhijjdabGreat
