/- The reference's Minus. -/
import Derived.Test.YtfenbjffjeidmaaRbit
namespace Go.Proofs.Ytfenbjffjeidmaa
open Go.RowKit
set_option linter.unusedSimpArgs false
set_option linter.unusedVariables false

def MinusRel (la lb : List Bool) (w : World) (v : Value) (k c : Nat) (wr : World) : Prop :=
  ∃ l : List Bool, l.length = k ∧ c ≤ 1 ∧ k ≤ la.length ∧ Bt.val l + Bt.val (lb.take k) = Bt.val (la.take k) + 2 ^ k * c ∧ wr.ownsRow w.heap.size 4 1 v k (l.map Value.bool) ∧ Below w.heap.size w wr

theorem and_one_small (n : Int) (h : -2 ≤ n) (h' : n ≤ 1) : (bits BinOp.and IntKind.i64 n 1 == 1) = (n % 2 == 1) := by
  have : n = -2 ∨ n = -1 ∨ n = 0 ∨ n = 1 := by omega
  rcases this with rfl | rfl | rfl | rfl <;> decide

theorem minus_step (la lb : List Bool) (w wr w1 : World) (u v' : Value) (k c c' : Nat) (h : MinusRel la lb w u k c wr) (hk : k < la.length)
    (hc' : (c' = 1 ∧ (Bt.bit la k : Int) - (Bt.bit lb k : Int) - (c : Int) < 0) ∨ (c' = 0 ∧ 0 ≤ (Bt.bit la k : Int) - (Bt.bit lb k : Int) - (c : Int)))
    (hown : w1.ownsRow w.heap.size 4 1 v' (k + 1) ((Classical.choose h).map Value.bool ++ [Value.bool (bits BinOp.and IntKind.i64 ((Bt.bit la k : Int) - (Bt.bit lb k : Int) - (c : Int)) 1 == 1)]))
    (hbel : Below w.heap.size wr w1) : MinusRel la lb w v' (k + 1) c' w1 := by
  obtain ⟨hlk, hc1, hk1, hval, hown0, hb⟩ := Classical.choose_spec h
  generalize Classical.choose h = l at *
  have hka := Bt.bit_le la k
  have hkb := Bt.bit_le lb k
  have hda := Bt.val_take_succ la k
  have hdb := Bt.val_take_succ lb k
  rw [and_one_small _ (by omega) (by omega)] at hown
  have hto : ((((Bt.bit la k : Int) - (Bt.bit lb k : Int) - (c : Int)) % 2 == 1).toNat : Int) = ((Bt.bit la k : Int) - (Bt.bit lb k : Int) - (c : Int)) % 2 := by
    have e2 : ((Bt.bit la k : Int) - (Bt.bit lb k : Int) - (c : Int)) % 2 = 0 ∨ ((Bt.bit la k : Int) - (Bt.bit lb k : Int) - (c : Int)) % 2 = 1 := by omega
    rcases e2 with e | e <;> simp [e]
  generalize hx : (((Bt.bit la k : Int) - (Bt.bit lb k : Int) - (c : Int)) % 2 == 1) = x at *
  have hvl : Bt.val (l ++ [x]) = Bt.val l + 2 ^ k * x.toNat := by
    rw [Bt.val_append, hlk]; simp
  refine ⟨l ++ [x], by simp [hlk], by omega, by omega, ?_, by rw [List.map_append]; exact hown, hb.trans hbel⟩
  rw [hvl, hda, hdb, Nat.pow_succ]
  have key : x.toNat + Bt.bit lb k + c = Bt.bit la k + 2 * c' := by omega
  have e2 : 2 ^ k * (x.toNat + Bt.bit lb k + c) = 2 ^ k * (Bt.bit la k + 2 * c') := by rw [key]
  simp only [Nat.mul_add] at e2
  rw [Nat.mul_assoc]
  omega

theorem minus_done (la lb : List Bool) (w wr : World) (u : Value) (k c : Nat) (h : MinusRel la lb w u k c wr) (hk : la.length ≤ k) (hle : Bt.val lb ≤ Bt.val la) :
    NewBits (fun l => l.length = la.length ∧ Bt.val l = Bt.val la - Bt.val lb) w (.returned u) wr := by
  obtain ⟨l, hlk, hc1, hk1, hval, hown, hb⟩ := h
  obtain ⟨A, cc, hv⟩ := ownsRow_len hown
  have hkl : la.length = k := by omega
  have h1 := Bt.val_lt l
  have h2 := Bt.val_lt la
  have h3 : Bt.val lb = Bt.val (lb.take k) := by
    rcases Nat.lt_or_ge lb.length k with hx | hx
    · rw [List.take_of_length_le (by omega)]
    · have e1 := Bt.val_take_drop lb k hx
      have e2 : Bt.val (lb.drop k) = 0 := by
        rcases Nat.eq_zero_or_pos (Bt.val (lb.drop k)) with e | e
        · exact e
        · have : 2 ^ k * 1 ≤ 2 ^ k * Bt.val (lb.drop k) := Nat.mul_le_mul_left _ e
          rw [hkl] at h2
          omega
      rw [e2] at e1; simpa using e1
  rw [show la.take k = la from List.take_of_length_le (by omega), ← h3] at hval
  subst hv hlk
  refine ⟨A, cc, l, rfl, ⟨by omega, ?_⟩, hown, hb⟩
  rcases Nat.eq_zero_or_pos c with e | e
  · subst e; simp at hval; omega
  · have : c = 1 := by omega
    subst this
    simp at hval
    omega

set_option maxHeartbeats 1600000 in
set_option maxRecDepth 100000 in
theorem minus_any (A B : Option Addr) (la lb : List Bool) (ca cb : Nat) (w : World) (ha : Reads w w.heap.size 1 A la.length (la.map Value.bool)) (hb : Reads w w.heap.size 1 B lb.length (lb.map Value.bool))
    (la1 : la.length ≤ 1000000) (lb1 : lb.length ≤ 1000000) (hle : Bt.val lb ≤ Bt.val la) :
    Calls Try.prog 22 #[.slice A la.length ca, .slice B lb.length cb] w (NewBits (fun l => l.length = la.length ∧ Bt.val l = Bt.val la - Bt.val lb) w) := by
  obtain ⟨i0, hi, hz0, hz1, hz2⟩ := info_parts Try.info4
  have HLE := Lib.hid hle
  clear hle
  go_enter Try.func22, Try.ntmps22
  go_wp2
  go_loopw [5, 6, 11] (fun v cv iv wr => ∃ (k c : Nat), iv = .int .i64 k ∧ cv = .int .i64 c ∧ MinusRel la lb w v k c wr) (fun _ _ iv _ => la.length - (intOf iv).toNat)
  case atStart => exact ⟨0, 0, rfl, rfl, [], rfl, by omega, by omega, by simp, World.ownsRow_nil _ _ _ _, Below.refl _ _⟩
  case round =>
    obtain ⟨k, c, rfl, rfl, hr⟩ := hrel
    have HR := Lib.hid hr
    have hc1 : c ≤ 1 := (Classical.choose_spec hr).2.1
    have hk1 : k ≤ la.length := (Classical.choose_spec hr).2.2.1
    have hown := (Classical.choose_spec hr).2.2.2.2.1
    have hbel := (Classical.choose_spec hr).2.2.2.2.2
    have RA := Lib.hid (ha.below hbel (Nat.le_refl _))
    have RB := Lib.hid (hb.below hbel (Nat.le_refl _))
    have hsz := hbel.size
    have ba := Bt.bit_le la k
    have bb := Bt.bit_le lb k
    generalize hlx : (Classical.choose hr).map Value.bool = lx at *
    have HLX := Lib.hid hlx
    have HB := Lib.hid hbel
    clear ha hb hlx hbel
    by_cases hlt : k < la.length
    · go_wp2_with fail
      refine (bit_any A la ca _ _ RA.out _ (by omega)).mono ?_
      rintro e w' ⟨rfl, rfl⟩
      go_wp2_with fail
      refine (bit_any B lb cb _ _ RB.out _ (by omega)).mono ?_
      rintro e w' ⟨rfl, rfl⟩
      go_wp2_with (at_builtin; refine wpList_app1 _ rfl _ _ 30 rfl w.heap.size 4 i0 (.bool false) 1 Try.underlying30 hi hz0 hz1 hz2 rfl _ _ _ rfl hown _ _ rfl rfl ?c1 ?c2 ?c3 ?_)
      case c1 => omega
      case c2 => unfold maxLen; omega
      case c3 => omega
      intro v' w1 hown1 hb1
      go_wp2
      all_goals go_roundw
      all_goals first
        | (case rel =>
            first
              | exact ⟨k + 1, 1, by go_num, rfl, minus_step la lb w wr w1 _ v' k c 1 hr hlt (.inl ⟨rfl, by assumption⟩) (by rw [HLX.out]; exact hown1) hb1⟩
              | exact ⟨k + 1, 0, by go_num, rfl, minus_step la lb w wr w1 _ v' k c 0 hr hlt (.inr ⟨rfl, by assumption⟩) (by rw [HLX.out]; exact hown1) hb1⟩)
        | (simp [intOf] <;> omega)
    · go_wp2
      go_ret
      exact minus_done la lb w _ _ k c HR.out (by omega) HLE.out

end Go.Proofs.Ytfenbjffjeidmaa
