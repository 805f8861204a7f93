/- (*node.Node).told, walked. (with what it needs) -/
import Derived.Test.YthimchhnhhchkaaGreatDoorM31
import Derived.Test.YthimchhnhhchkaaGreatDoorM11
import Derived.BigQuiet
import Derived.Deep.QuietTactic
namespace Go.Proofs.YthimchhnhhchkaaGreatDoor
open Go.RowKit Go.Lib
set_option linter.unusedSimpArgs false
set_option linter.unusedVariables false

theorem note_info : (Tryz.prog.info? 146).map (fun i => (i.zero, i.size, i.bytes)) = some (some (.agg #[.string ByteArray.empty, .int .i64 0, .bool false]), 3, 32) := by kernel_rfl
theorem reads_tri (w : World) (e : TypeId) (p : TriD) : Reads (w.alloc (.cells (tcells p).toArray e)) (w.heap.size + 1) 3 (some ⟨w.heap.size, 0, none⟩) 1 (cells3 [p]) :=
  ⟨rfl, fun _ => ⟨_, rfl, by simp, fun j u hj => by
    have hc := (Blk.new w e (tcells p).toArray).cell j
    have hadd : (⟨w.heap.size, 0, none⟩ : Addr).add j = ⟨w.heap.size, j, none⟩ := by unfold Addr.add; split <;> simp_all
    rw [hadd, hc, ← hj]
    simp [cells3]⟩⟩
theorem Kept.low {X : Nat → Prop} {w w1 w2 : World} (h : Kept X w w1) (hb : Below w.heap.size w1 w2) : Kept X w w2 :=
  ⟨hb.os.trans h.os, hb.tape.trans h.tape, hb.output.trans h.output, Nat.le_trans h.size hb.size, fun k hk hx => (hb.block k hk).trans (h.block k hk hx)⟩
theorem Kept.as_below {X : Nat → Prop} {w w1 : World} (h : Kept X w w1) : w.heap.size ≤ w1.heap.size := h.size
/-- what told answers: the notes; the subs' marks are turned in place -/
def ToldIs (g : Nat) (t : TypeId) (cap n : Nat) (S : List TriD) (N : List TriD) (w : World) (e : Ending) (w' : World) : Prop :=
  ∃ A c, e = .returned (.slice A N.length c) ∧ w'.ownsRow w.heap.size 146 3 (.slice A N.length c) N.length (cells3 N) ∧ Row3 t w' g cap n S ∧ Kept (· = g) w w'
theorem notes_same {f : ByteArray → Int} {S : List TriD} {k : Nat} (h : k < S.length) (he : markOf f (S[k]'h) = (S[k]'h).2.2) : notesOf f (S.take (k + 1)) = notesOf f (S.take k) := by
  rw [notesOf_snoc f S k h, if_pos he, List.append_nil]
theorem notes_new {f : ByteArray → Int} {S : List TriD} {k : Nat} (h : k < S.length) (he : markOf f (S[k]'h) ≠ (S[k]'h).2.2) : notesOf f (S.take (k + 1)) = notesOf f (S.take k) ++ [((S[k]'h).1, (S[k]'h).2.1, markOf f (S[k]'h))] := by
  rw [notesOf_snoc f S k h, if_neg he]

theorem cell_set_other {w : World} {g i j : Nat} {v : Value} (h : i ≠ j) : (w.setCell ⟨g, j, none⟩ v).cell? ⟨g, i, none⟩ = w.cell? ⟨g, i, none⟩ := by
  rw [World.cell?_setCell_other _ _ _ _ (by intro h2; simp only [Addr.mk.injEq] at h2; omega)]
theorem Row3.any {t : TypeId} {w : World} {g cap n : Nat} {l : List TriD} (h : Row3 t w g cap n l) (j : Nat) (v : Value) : ∃ cur, Blk (w.setCell ⟨g, j, none⟩ v) g t cur := by
  obtain ⟨cur, hc⟩ := h.blk
  exact ⟨_, hc.set_ j v⟩
/-- the relation of the loop, after k subs -/
def TRel (f : ByteArray → Int) (S : List TriD) (g cap n : Nat) (w : World) (k : Nat) (v : Value) (wr : World) : Prop :=
  wr.ownsRow w.heap.size 146 3 v (notesOf f (S.take k)).length (cells3 (notesOf f (S.take k))) ∧ Row3 187 wr g cap n (subsMid f S k) ∧ Kept (· = g) w wr
theorem TRel.start (f : ByteArray → Int) {S : List TriD} {g cap n : Nat} {w : World} (hs : Row3 187 w g cap n S) : TRel f S g cap n w 0 (.slice none 0 0) w :=
  ⟨World.ownsRow_nil _ _ _ _, hs, Kept.refl _ _⟩
theorem TRel.below {f : ByteArray → Int} {S : List TriD} {g cap n k : Nat} {w wr w1 : World} {v : Value} (h : TRel f S g cap n w k v wr) (hb : Below wr.heap.size wr w1) : TRel f S g cap n w k v w1 :=
  ⟨ownsRow_below h.1 hb, h.2.1.below hb h.2.1.lt, h.2.2.step hb⟩
theorem TRel.same {f : ByteArray → Int} {S : List TriD} {g cap n k : Nat} {w wr : World} {v : Value} (h : TRel f S g cap n w k v wr) (hk : k < S.length) (he : markOf f (S[k]'hk) = (S[k]'hk).2.2) : TRel f S g cap n w (k + 1) v wr := by
  unfold TRel
  rw [notes_same hk he, subsMid_stay f S k hk he]
  exact h
theorem TRel.new {f : ByteArray → Int} {S : List TriD} {g cap n k : Nat} {w wr w1 : World} {v v' : Value} (h : TRel f S g cap n w k v wr) (hg : g < w.heap.size) (hk : k < S.length) (he : markOf f (S[k]'hk) ≠ (S[k]'hk).2.2) (m : Bool) (hm : markOf f (S[k]'hk) = m)
    (ho : w1.ownsRow w.heap.size 146 3 v' ((notesOf f (S.take k)).length + 1) (cells3 (notesOf f (S.take k)) ++ cells3 [((S[k]'hk).1, (S[k]'hk).2.1, m)])) (hb : Below w.heap.size (wr.setCell ⟨g, k * 3 + 2, none⟩ (.bool m)) w1) : TRel f S g cap n w (k + 1) v' w1 := by
  unfold TRel
  subst hm
  have hk' : k < (subsMid f S k).length := by rw [subsMid_len]; exact hk
  have e := subsMid_at f S k hk hk'
  refine ⟨?_, ?_, ?_⟩
  · rw [notes_new hk he, cells3_app, List.length_append]; exact ho
  · rw [subsMid_succ f S k hk]
    have := h.2.1.set2 k (markOf f (S[k]'hk)) hk'
    rw [e] at this
    exact this.below hb hg
  · exact (h.2.2.setCell (a := ⟨g, k * 3 + 2, none⟩) (.inl rfl) _).low hb

set_option maxHeartbeats 1000000 in
set_option maxRecDepth 100000 in
theorem told_run (b g cap n pn cp : Nat) (A : Option Addr) (c : CfgD) (now seq drops : Int) (S : List TriD) (f : ByteArray → Int) (hn8 : n ≤ 8) (hbg : b ≠ g) (w : World) (hb : Blk w b 167 (nodeCs c now seq drops (.slice A pn cp) (.slice (some ⟨g, 0, none⟩) n cap)))
    (hs : Row3 187 w g cap n S) (hf : ∀ W id, Kept (· = g) w W → ∃ er, Calls Tryz.prog 116 #[.pointer (some ⟨b, 0, none⟩), .string id] W (LvIs (f id) er W)) :
    Calls Tryz.prog 141 #[.pointer (some ⟨b, 0, none⟩)] w (ToldIs g 187 cap n (subsTo f S) (notesOf f S) w) := by
  obtain ⟨i0, hi, hz0, hz1, hz2⟩ := info_parts note_info
  have HB := Lib.hid hb
  have HS := Lib.hid hs
  have HF := Lib.hid hf
  have HN := Lib.hid hs.1
  have hgl := hs.lt
  have hbl := hb.lt
  have hcap := hs.2.2.1
  have hncap := hs.2.1
  unfold maxLen at hcap
  have b9 := hb.cell 9
  simp [nodeCs] at b9
  clear hb hs hf
  go_enter Tryz.func141, Tryz.ntmps141
  go_wp2_with fail
  go_loopw [3, 14] (fun v iv wr => ∃ k : Nat, k ≤ n ∧ iv = .int .i64 (k : Int) ∧ TRel f S g cap n w k v wr) (fun _ iv _ => n - (RowKit.intOf iv).toNat)
  case atStart => exact ⟨0, by omega, rfl, TRel.start f HS.out⟩
  case round =>
    obtain ⟨k, hk, rfl, hrel⟩ := hrel
    obtain ⟨wo, rfl⟩ : ∃ wo, wo = wr := ⟨_, rfl⟩
    have RL := Lib.hid hrel
    clear hrel b9
    obtain ⟨Av, cv, rfl⟩ := ownsRow_len RL.out.1
    have HBo := Lib.hid (RL.out.2.2.blk HB.out hbg)
    have b9 := HBo.out.cell 9
    have hblo := HBo.out.lt
    simp [nodeCs] at b9
    by_cases hlt : k < n
    · have hkS : k < S.length := by rw [HN.out]; exact hlt
      have hkM : k < (subsMid f S k).length := by rw [subsMid_len]; exact hkS
      have hcs := RL.out.2.1.cells k hkM
      rw [subsMid_at f S k hkS hkM] at hcs
      have hfz := RL.out.2.1.frozen (k * 3 + 2)
      have hglo := RL.out.2.1.lt
      obtain ⟨er, hlv⟩ := HF.out wo (S[k]'hkS).1 RL.out.2.2
      have HLV := Lib.hid hlv
      have HSM := Lib.hid (fun he => RL.out.same hkS he)
      have HNW := Lib.hid (fun w0 v' w1 (h0 : Below wo.heap.size wo w0) he m hm ho hb => TRel.new (w1 := w1) (v' := v') (RL.out.below h0) hgl hkS he m hm ho hb)
      have HMK := Lib.hid (show markOf f (S[k]'hkS) = decide ((S[k]'hkS).2.1 ≤ f (S[k]'hkS).1) from rfl)
      generalize S[k]'hkS = s at *
      obtain ⟨c0, c1, c2⟩ := hcs
      clear hlv
      go_wp2_with fail
      refine HLV.out.mono ?_
      rintro e' w1 ⟨rfl, hb1⟩
      have RL1 := Lib.hid (RL.out.below hb1)
      have B1 := Lib.hid hb1
      have d0 := (hb1.cell (p := ⟨g, k * 3, none⟩) hglo).trans c0
      have d1 := (hb1.cell (p := ⟨g, k * 3 + 1, none⟩) hglo).trans c1
      have d2 := (hb1.cell (p := ⟨g, k * 3 + 2, none⟩) hglo).trans c2
      have fz := RL1.out.2.1.frozen (k * 3 + 2)
      have hb1s := hb1.size
      have hglt : g < w1.heap.size := by omega
      clear hb1 c0 c1 c2 hfz
      cases hmk : decide (s.2.1 ≤ f s.1) <;> cases hon : s.2.2
      case false.false | true.true =>
        have KEEP := Lib.hid ((HSM.out (by rw [HMK.out, hmk, hon])).below B1.out)
        rw [hon] at d2
        have hle := hmk
        simp only [decide_eq_false_iff_not, decide_eq_true_eq] at hle
        clear hon hmk
        go_wp2
        exact ⟨⟨k + 1, by omega, by simp, KEEP.out⟩, by simp [RowKit.intOf]; omega⟩
      case false.true =>
        have HNX := Lib.hid (fun w0 v' w1 h0 ho hb => HNW.out w0 v' w1 h0 (by rw [HMK.out, hmk, hon]; decide) false (by rw [HMK.out, hmk]) ho hb)
        rw [hon] at d2
        have hle := hmk
        simp only [decide_eq_false_iff_not, decide_eq_true_eq] at hle
        clear hon hle
        go_upto_region 48 with fail
        have e0 := (cell_set_other (w := w1) (g := g) (i := k * 3) (j := k * 3 + 2) (v := .bool false) (by omega)).trans d0
        have e1 := (cell_set_other (w := w1) (g := g) (i := k * 3 + 1) (j := k * 3 + 2) (v := .bool false) (by omega)).trans d1
        have OWN := Lib.hid (ownsRow_setCell RL1.out.1 (a := ⟨g, k * 3 + 2, none⟩) hgl (.bool false))
        have hwz := RL1.out.2.2.size
        have HNY := Lib.hid (fun v' w9 ho hb => HNX.out w1 v' w9 B1.out ho hb)
        clear d0 d1 d2 fz
        generalize hW2 : w1.setCell ⟨g, k * 3 + 2, none⟩ (.bool false) = w2 at *
        have hs2 : w1.heap.size = w2.heap.size := by rw [← hW2]; simp [World.setCell]
        clear hW2
        have hw2z : w.heap.size ≤ w2.heap.size := by omega
        have hg2 : g < w2.heap.size := by omega
        have HRE := Lib.hid (fun w' => reads_tri w' 146 (s.1, s.2.1, false))
        have HO1 := Lib.hid (oneCell_3 [(s.1, s.2.1, false)])
        have hL := notesOf_le f (S.take k)
        have hL2 : (S.take k).length ≤ 8 := by rw [List.length_take]; omega
        have HS := Lib.hid (show ∀ w', Below w.heap.size w2 w' → (Below w.heap.size w2 w' ∧ w'.cell? ⟨g, k * 3, none⟩ = some (.string s.1) ∧ w'.cell? ⟨g, k * 3 + 1, none⟩ = some (.int .i64 s.2.1)) from fun w' h => ⟨h, (h.cell (p := ⟨g, k * 3, none⟩) hgl).trans e0, (h.cell (p := ⟨g, k * 3 + 1, none⟩) hgl).trans e1⟩)
        go_region_held3 (fun w' => Below w.heap.size w2 w' ∧ w'.cell? ⟨g, k * 3, none⟩ = some (.string s.1) ∧ w'.cell? ⟨g, k * 3 + 1, none⟩ = some (.int .i64 s.2.1))
          ((refine HS.out _ ?_; first | (with_reducible exact hL9) | (with_reducible exact Below.refl _ _) | (with_reducible exact (Below.refl _ _).drew) | exact (Below.refl _ _).alloc hw2z _ | exact ((Below.refl _ _).drew).alloc hw2z _))
          ((refine step_appN (by rfl) _ _ _ (by rfl) w.heap.size 146 i0 (.agg #[.string ByteArray.empty, .int .i64 0, .bool false]) 3 32 Tryz.underlying105 hi hz0 hz1 hz2 rfl (by decide) _ _ _ (by rfl) (OWN.out.drew.alloc _) _ _ 1 _ _ (by rfl) (HRE.out _) HO1.out (by unfold maxLen; omega) (by omega) (by simp; omega) ?_; intro v9 w9 hown9 hb9; obtain ⟨A9, c9, rfl⟩ := ownsRow_len hown9; have hL9 : Below w.heap.size w2 w9 := Below.trans (by first | exact (Below.refl _ _).alloc hw2z _ | exact ((Below.refl _ _).drew).alloc hw2z _) hb9))
        all_goals
          have KEEP := Lib.hid (HNY.out _ w9 hown9 hL9)
          clear hown9 hb9 hL9
          go_wp2
          exact ⟨⟨k + 1, by omega, by simp, KEEP.out⟩, by simp [RowKit.intOf]; omega⟩
      case true.false =>
        have HNX := Lib.hid (fun w0 v' w1 h0 ho hb => HNW.out w0 v' w1 h0 (by rw [HMK.out, hmk, hon]; decide) true (by rw [HMK.out, hmk]) ho hb)
        rw [hon] at d2
        have hle := hmk
        simp only [decide_eq_false_iff_not, decide_eq_true_eq] at hle
        clear hon hmk
        go_upto_region 48 with fail
        have e0 := (cell_set_other (w := w1) (g := g) (i := k * 3) (j := k * 3 + 2) (v := .bool true) (by omega)).trans d0
        have e1 := (cell_set_other (w := w1) (g := g) (i := k * 3 + 1) (j := k * 3 + 2) (v := .bool true) (by omega)).trans d1
        have OWN := Lib.hid (ownsRow_setCell RL1.out.1 (a := ⟨g, k * 3 + 2, none⟩) hgl (.bool true))
        have hwz := RL1.out.2.2.size
        have HNY := Lib.hid (fun v' w9 ho hb => HNX.out w1 v' w9 B1.out ho hb)
        clear d0 d1 d2 fz
        generalize hW2 : w1.setCell ⟨g, k * 3 + 2, none⟩ (.bool true) = w2 at *
        have hs2 : w1.heap.size = w2.heap.size := by rw [← hW2]; simp [World.setCell]
        clear hW2
        have hw2z : w.heap.size ≤ w2.heap.size := by omega
        have hg2 : g < w2.heap.size := by omega
        have HRE := Lib.hid (fun w' => reads_tri w' 146 (s.1, s.2.1, true))
        have HO1 := Lib.hid (oneCell_3 [(s.1, s.2.1, true)])
        have hL := notesOf_le f (S.take k)
        have hL2 : (S.take k).length ≤ 8 := by rw [List.length_take]; omega
        have HS := Lib.hid (show ∀ w', Below w.heap.size w2 w' → (Below w.heap.size w2 w' ∧ w'.cell? ⟨g, k * 3, none⟩ = some (.string s.1) ∧ w'.cell? ⟨g, k * 3 + 1, none⟩ = some (.int .i64 s.2.1)) from fun w' h => ⟨h, (h.cell (p := ⟨g, k * 3, none⟩) hgl).trans e0, (h.cell (p := ⟨g, k * 3 + 1, none⟩) hgl).trans e1⟩)
        go_region_held3 (fun w' => Below w.heap.size w2 w' ∧ w'.cell? ⟨g, k * 3, none⟩ = some (.string s.1) ∧ w'.cell? ⟨g, k * 3 + 1, none⟩ = some (.int .i64 s.2.1))
          ((refine HS.out _ ?_; first | (with_reducible exact hL9) | (with_reducible exact Below.refl _ _) | (with_reducible exact (Below.refl _ _).drew) | exact (Below.refl _ _).alloc hw2z _ | exact ((Below.refl _ _).drew).alloc hw2z _))
          ((refine step_appN (by rfl) _ _ _ (by rfl) w.heap.size 146 i0 (.agg #[.string ByteArray.empty, .int .i64 0, .bool false]) 3 32 Tryz.underlying105 hi hz0 hz1 hz2 rfl (by decide) _ _ _ (by rfl) (OWN.out.drew.alloc _) _ _ 1 _ _ (by rfl) (HRE.out _) HO1.out (by unfold maxLen; omega) (by omega) (by simp; omega) ?_; intro v9 w9 hown9 hb9; obtain ⟨A9, c9, rfl⟩ := ownsRow_len hown9; have hL9 : Below w.heap.size w2 w9 := Below.trans (by first | exact (Below.refl _ _).alloc hw2z _ | exact ((Below.refl _ _).drew).alloc hw2z _) hb9))
        all_goals
          have KEEP := Lib.hid (HNY.out _ w9 hown9 hL9)
          clear hown9 hb9 hL9
          go_wp2
          exact ⟨⟨k + 1, by omega, by simp, KEEP.out⟩, by simp [RowKit.intOf]; omega⟩
    · have hkn : k = n := by omega
      subst hkn
      have hall : S.take k = S := List.take_of_length_le (by rw [HN.out]; omega)
      have hend := RL.out
      unfold TRel at hend
      rw [hall, subsMid_all f S k (by rw [HN.out]; omega)] at hend
      have HE := Lib.hid hend
      rw [hall]
      clear hend hall
      go_wp2
      go_ret
      exact ⟨Av, cv, rfl, HE.out.1, HE.out.2.1, HE.out.2.2⟩
end Go.Proofs.YthimchhnhhchkaaGreatDoor

namespace Go.Proofs.YthimchhnhhchkaaGreatDoor
open Go.RowKit Go.Lib
set_option linter.unusedSimpArgs false
set_option linter.unusedVariables false

theorem tri_addr {w : World} {B n : Nat} {A : Option Addr} {l : List TriD} (h : Reads w B 3 A n (cells3 l)) (hl : l.length = n) (hn : 0 < n) :
    ∃ b off, A = some ⟨b, off, none⟩ ∧ b < B ∧ ∀ k, (hk : k < l.length) → TriC w b (off + k * 3) (l[k]'hk) := by
  obtain ⟨b, off, e, hb, hc⟩ := h.addrN hn (by decide)
  refine ⟨b, off, e, hb, fun k hk => ?_⟩
  have at' : ∀ j v, j < 3 → (tcells (l[k]'hk))[j]? = some v → w.cell? ⟨b, off + k * 3 + j, none⟩ = some v := fun j v hj hv => by
    rw [Nat.add_assoc]
    exact hc _ _ ((cells3_at l k j hk hj).trans hv)
  exact ⟨at' 0 _ (by decide) rfl, at' 1 _ (by decide) rfl, at' 2 _ (by decide) rfl⟩





































end Go.Proofs.YthimchhnhhchkaaGreatDoor
