/- The reference's Prod. -/
import Derived.Test.YtmgkkbmcdnhdeabDoorRb
import Derived.Test.YtmgkkbmcdnhdeabDoorRm
import Derived.Test.YtmgkkbmcdnhdeabDoorRc0
namespace Go.Proofs.YtmgkkbmcdnhdeabDoor
open Go.RowKit
set_option linter.unusedSimpArgs false
set_option linter.unusedVariables false

theorem plus_norm {la lb l : List Bool} (h : PlusIs la lb l) (ha : Bt.Norm la) (hb : Bt.Norm lb) : Bt.Norm l := by
  obtain ⟨h1, h2, h3, h4⟩ := h
  rcases Nat.lt_or_ge (max la.length lb.length) l.length with hx | hx
  · have e : l.length = max la.length lb.length + 1 := by omega
    have := h4 e
    exact .inr (by rw [e, Nat.pow_succ]; omega)
  · have e : l.length = max la.length lb.length := by omega
    rcases Nat.lt_or_ge la.length lb.length with ho | ho
    · rcases hb with rfl | hb
      · simp at ho
      · exact .inr (by rw [e, Nat.max_eq_right (by omega)]; omega)
    · rcases ha with rfl | ha
      · left
        have : l.length = 0 := by rw [e]; simp at ho ⊢; exact ho
        exact List.eq_nil_of_length_eq_zero this
      · exact .inr (by rw [e, Nat.max_eq_left ho]; omega)

theorem norm_moved (k : Nat) {lb : List Bool} (h : Bt.Norm lb) (hne : lb ≠ []) : Bt.Norm (List.replicate k false ++ lb) := by
  rcases h with h | h
  · exact absurd h hne
  · refine .inr ?_
    rw [val_moved, List.length_append, List.length_replicate, Nat.pow_add, Nat.mul_left_comm]
    exact Nat.mul_le_mul_left _ h

def ProdIs (la lb : List Bool) (k : Nat) (l : List Bool) : Prop :=
  Bt.val l = Bt.val (la.take k) * Bt.val lb ∧ l.length ≤ k + lb.length ∧ (Bt.Norm lb → lb ≠ [] → Bt.Norm l)

theorem prod_step {la lb l l' : List Bool} {k : Nat} (hk : k < la.length) (hb : la[k] = true) (h : ProdIs la lb k l) (hp : PlusIs l (List.replicate k false ++ lb) l') : ProdIs la lb (k + 1) l' := by
  obtain ⟨h1, h2, h3⟩ := h
  have hp' := hp
  obtain ⟨p1, p2, p3, _⟩ := hp
  refine ⟨?_, ?_, fun hn hne => plus_norm hp' (h3 hn hne) (norm_moved k hn hne)⟩
  · rw [p1, val_moved, h1, take_true la k hk hb, Nat.add_mul]
  · simp at p3
    omega

theorem prod_keep {la lb l : List Bool} {k : Nat} (hk : k < la.length) (hb : la[k] = false) (h : ProdIs la lb k l) : ProdIs la lb (k + 1) l := by
  obtain ⟨h1, h2, h3⟩ := h
  exact ⟨by rw [h1, take_false la k hk hb], by omega, h3⟩

def ProdRel (la lb : List Bool) (w : World) (v : Value) (k : Nat) (wr : World) : Prop :=
  ∃ A c l, v = .slice A l.length c ∧ k ≤ la.length ∧ ProdIs la lb k l ∧ wr.ownsRow w.heap.size 4 1 (.slice A l.length c) l.length (l.map Value.bool) ∧ Below w.heap.size w wr

set_option maxHeartbeats 1600000 in
set_option maxRecDepth 100000 in
theorem prod_any (A B : Option Addr) (la lb : List Bool) (ca cb : Nat) (w : World) (ha : Reads w w.heap.size 1 A la.length (la.map Value.bool)) (hb : Reads w w.heap.size 1 B lb.length (lb.map Value.bool))
    (la1 : la.length ≤ 400000) (lb1 : lb.length ≤ 400000) :
    Calls Tryd.prog 12 #[.slice A la.length ca, .slice B lb.length cb] w (NewBits (ProdIs la lb la.length) w) := by
  go_enter Tryd.func12, Tryd.ntmps12
  go_wp2
  go_loopw [5, 10] (fun v iv wr => ∃ (k : Nat), iv = .int .i64 k ∧ ProdRel la lb w v k wr) (fun _ iv _ => la.length - (intOf iv).toNat)
  case atStart => exact ⟨0, rfl, none, 0, [], rfl, Nat.zero_le _, ⟨by simp, by simp, fun _ _ => Bt.norm_nil⟩, World.ownsRow_nil _ _ _ _, Below.refl _ _⟩
  case round =>
    obtain ⟨k, rfl, A1, c1, l, rfl, hk, hl, hown, hbel⟩ := hrel
    have hll := hl.2.1
    have HL := Lib.hid hl
    have HO := Lib.hid hown
    have HBE := Lib.hid hbel
    have hsz := hbel.size
    by_cases hlt : k < la.length
    · obtain ⟨b, off, rfl, hbb, hc⟩ := (ha.below hbel (Nat.le_refl _)).addr (by omega)
      have hcell := hc k (.bool la[k]) (by simp [hlt])
      have RB := Lib.hid (hb.below hbel (Nat.le_refl _))
      have RL := Lib.hid (Reads.of_own hown)
      clear hc hl hown hbel ha hb
      by_cases hbk : la[k] = true
      · rw [hbk] at hcell
        have HBK := Lib.hid hbk
        clear hbk
        go_wp2_with fail
        refine (moved_any B lb cb _ (RB.out.more hsz) (by omega) _ (by omega) (by omega)).mono ?_
        rintro e w1 ⟨A2, c2, l2, rfl, hl2, ho2, hb2⟩
        rw [Int.toNat_natCast] at hl2
        have hll2 : l2.length ≤ 400000 + k := by rw [hl2]; simp; omega
        have HL2 := Lib.hid hl2
        clear hl2
        have hsz2 := hb2.size
        go_wp2_with fail
        refine (plus_any A1 A2 l l2 c1 c2 _ ((RL.out.below hb2 (Nat.le_refl _)).more hsz2) (Reads.of_own ho2) (by omega) (by omega)).mono ?_
        rintro e w2 ⟨A3, c3, l3, rfl, hl3, ho3, hb3⟩
        have HL3 := Lib.hid hl3
        have HO3 := Lib.hid (ownsRow_base ho3 (base' := w.heap.size) (by omega))
        have HB3 := Lib.hid (HBE.out.trans ((hb2.mono hsz).trans (hb3.mono (by omega))))
        clear hl3 ho3 hb3 hb2 ho2
        go_wp2
        go_roundw
        case rel => exact ⟨k + 1, by go_num, A3, c3, l3, rfl, hlt, prod_step hlt HBK.out HL.out (HL2.out ▸ HL3.out), HO3.out, HB3.out⟩
        case measure => simp [intOf] <;> omega
      · have hbk' : la[k] = false := by simpa using hbk
        rw [hbk'] at hcell
        have HBK := Lib.hid hbk'
        clear hbk hbk'
        go_wp2
        go_roundw
        case rel => exact ⟨k + 1, by go_num, A1, c1, l, rfl, hlt, prod_keep hlt HBK.out HL.out, HO.out, HBE.out⟩
        case measure => simp [intOf] <;> omega
    · clear hl hown hbel
      go_wp2
      go_ret
      obtain rfl : k = la.length := by omega
      exact ⟨A1, c1, l, rfl, HL.out, HO.out, HBE.out⟩

end Go.Proofs.YtmgkkbmcdnhdeabDoor
