/- The reference's Plus. -/
import Derived.Test.YtmgkkbmcdnhdeabDoorRbit
namespace Go.Proofs.YtmgkkbmcdnhdeabDoor
open Go.RowKit
set_option linter.unusedSimpArgs false
set_option linter.unusedVariables false

def PlusIs (la lb l : List Bool) : Prop :=
  Bt.val l = Bt.val la + Bt.val lb ∧ max la.length lb.length ≤ l.length ∧ l.length ≤ max la.length lb.length + 1 ∧ (l.length = max la.length lb.length + 1 → 2 ^ max la.length lb.length ≤ Bt.val l)

def PlusRel (la lb : List Bool) (w : World) (v : Value) (k c : Nat) (wr : World) : Prop :=
  ∃ l : List Bool, l.length = k ∧ c ≤ 1 ∧ k ≤ max la.length lb.length + 1 ∧ (k = max la.length lb.length + 1 → c = 0 ∧ 2 ^ max la.length lb.length ≤ Bt.val l) ∧
    Bt.val l + 2 ^ k * (c + Bt.val (la.drop k) + Bt.val (lb.drop k)) = Bt.val la + Bt.val lb ∧ wr.ownsRow w.heap.size 4 1 v k (l.map Value.bool) ∧ Below w.heap.size w wr

theorem plus_step (la lb : List Bool) (w wr w1 : World) (u v' : Value) (k c : Nat) (h : PlusRel la lb w u k c wr) (hgo : k < max la.length lb.length ∨ 0 < c)
    (hown : w1.ownsRow w.heap.size 4 1 v' (k + 1) ((Classical.choose h).map Value.bool ++ [Value.bool (((Bt.bit la k : Int) + (Bt.bit lb k : Int) + (c : Int)) % 2 == 1)]))
    (hbel : Below w.heap.size wr w1) : PlusRel la lb w v' (k + 1) ((Bt.bit la k + Bt.bit lb k + c) / 2) w1 := by
  obtain ⟨hlk, hc1, hk1, hk2, hval, hown0, hb⟩ := Classical.choose_spec h
  generalize Classical.choose h = l at *
  have hka := Bt.bit_le la k
  have hkb := Bt.bit_le lb k
  have hda := Bt.val_drop la k
  have hdb := Bt.val_drop lb k
  have hpa := fun hx => Bt.bit_past la k hx
  have hpb := fun hx => Bt.bit_past lb k hx
  have hkm : k ≤ max la.length lb.length := by
    rcases Nat.lt_or_ge (max la.length lb.length) k with hx | hx
    · have := (hk2 (by omega)).1; omega
    · exact hx
  have hbit : (((Bt.bit la k : Int) + (Bt.bit lb k : Int) + (c : Int)) % 2 == 1) = ((Bt.bit la k + Bt.bit lb k + c) % 2 == 1) := by
    rw [Bool.eq_iff_iff, beq_iff_eq, beq_iff_eq]; omega
  have hto : ((Bt.bit la k + Bt.bit lb k + c) % 2 == 1).toNat = (Bt.bit la k + Bt.bit lb k + c) % 2 := by
    rcases Nat.mod_two_eq_zero_or_one (Bt.bit la k + Bt.bit lb k + c) with e | e <;> simp [e]
  have hvl : Bt.val (l ++ [(Bt.bit la k + Bt.bit lb k + c) % 2 == 1]) = Bt.val l + 2 ^ k * ((Bt.bit la k + Bt.bit lb k + c) % 2) := by
    rw [Bt.val_append, hlk]; simp [hto]
  refine ⟨l ++ [(Bt.bit la k + Bt.bit lb k + c) % 2 == 1], by simp [hlk], by omega, by omega, fun hm => ?_, ?_, ?_, hb.trans hbel⟩
  · have e1 : k = max la.length lb.length := by omega
    have h1 := hpa (by omega)
    have h2 := hpb (by omega)
    have h3 : c = 1 := by omega
    rw [h1, h2, h3] at hvl ⊢
    refine ⟨by omega, ?_⟩
    rw [hvl, ← e1]; simp
  · rw [hvl, ← hval, hda, hdb, Nat.add_assoc]
    congr 1
    rw [Nat.pow_succ, Nat.mul_assoc, ← Nat.mul_add]
    congr 1
    omega
  · rw [hbit] at hown
    rw [List.map_append]
    exact hown

theorem plus_done (la lb : List Bool) (w wr : World) (u : Value) (k c : Nat) (h : PlusRel la lb w u k c wr) (hk : max la.length lb.length ≤ k) (hc : c = 0) :
    NewBits (PlusIs la lb) w (.returned u) wr := by
  obtain ⟨l, hlk, hc1, hk1, hk2, hval, hown, hb⟩ := h
  obtain ⟨A, cc, hv⟩ := ownsRow_len hown
  subst hv hlk hc
  rw [List.drop_eq_nil_of_le (by omega), List.drop_eq_nil_of_le (by omega)] at hval
  exact ⟨A, cc, l, rfl, ⟨by simpa using hval, by omega, by omega, fun e => (hk2 e).2⟩, hown, hb⟩

set_option maxHeartbeats 1600000 in
set_option maxRecDepth 100000 in
theorem plus_any (A B : Option Addr) (la lb : List Bool) (ca cb : Nat) (w : World) (ha : Reads w w.heap.size 1 A la.length (la.map Value.bool)) (hb : Reads w w.heap.size 1 B lb.length (lb.map Value.bool))
    (la1 : la.length ≤ 1000000) (lb1 : lb.length ≤ 1000000) :
    Calls Tryd.prog 11 #[.slice A la.length ca, .slice B lb.length cb] w (NewBits (PlusIs la lb) w) := by
  obtain ⟨i0, hi, hz0, hz1, hz2⟩ := info_parts Tryd.info4
  go_enter Tryd.func11, Tryd.ntmps11
  go_wp2
  go_loopw [5, 6, 7] (fun v cv iv wr => ∃ (k c : Nat), iv = .int .i64 k ∧ cv = .int .i64 c ∧ PlusRel la lb w v k c wr) (fun _ _ iv _ => max la.length lb.length + 2 - (intOf iv).toNat)
  case atStart => exact ⟨0, 0, rfl, rfl, [], rfl, by omega, by omega, by omega, by simp, World.ownsRow_nil _ _ _ _, Below.refl _ _⟩
  case round =>
    obtain ⟨k, c, rfl, rfl, hr⟩ := hrel
    have HR := Lib.hid hr
    have hc1 : c ≤ 1 := (Classical.choose_spec hr).2.1
    have hk1 : k ≤ max la.length lb.length + 1 := (Classical.choose_spec hr).2.2.1
    have hown := (Classical.choose_spec hr).2.2.2.2.2.1
    have hbel := (Classical.choose_spec hr).2.2.2.2.2.2
    have RA := Lib.hid (ha.below hbel (Nat.le_refl _))
    have RB := Lib.hid (hb.below hbel (Nat.le_refl _))
    have hsz := hbel.size
    have ba := Bt.bit_le la k
    have bb := Bt.bit_le lb k
    generalize hlx : (Classical.choose hr).map Value.bool = lx at *
    have HLX := Lib.hid hlx
    have HB := Lib.hid hbel
    clear ha hb hlx hbel
    have hgo : (k < max la.length lb.length ∨ 0 < c) ∨ (max la.length lb.length ≤ k ∧ c ≤ 0) := by omega
    rcases hgo with hgo | ⟨hge, hc0⟩
    · rcases Nat.lt_or_ge la.length lb.length with ho | ho
      all_goals
        go_wp2_with fail
        all_goals
          refine (bit_any A la ca _ _ RA.out _ (by omega)).mono ?_
          rintro e w' ⟨rfl, rfl⟩
          go_wp2_with fail
          refine (bit_any B lb cb _ _ RB.out _ (by omega)).mono ?_
          rintro e w' ⟨rfl, rfl⟩
          go_wp2_with (at_builtin; refine wpList_app1 _ rfl _ _ 33 rfl w.heap.size 4 i0 (.bool false) 1 Tryd.underlying33 hi hz0 hz1 hz2 rfl _ _ _ rfl hown _ _ rfl rfl ?c1 ?c2 ?c3 ?_)
          case c1 => omega
          case c2 => unfold maxLen; omega
          case c3 => omega
          intro v' w1 hown1 hb1
          go_wp2
          go_roundw
          case rel =>
            refine ⟨k + 1, (Bt.bit la k + Bt.bit lb k + c) / 2, by go_num, by congr 1, plus_step la lb w wr w1 _ v' k c hr hgo ?_ hb1⟩
            rw [HLX.out]; exact hown1
          case measure => simp [intOf]; omega
    · rcases Nat.lt_or_ge la.length lb.length with ho | ho
      all_goals
        go_wp2
        go_ret
        exact plus_done la lb w _ _ k c HR.out hge (by omega)

end Go.Proofs.YtmgkkbmcdnhdeabDoor
