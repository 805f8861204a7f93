/- What the walks of this seat import; the two words of a number. (with what it needs) -/
import Derived.Test.YthimchhnhhchkaaGreatDoorM03
import Derived.Test.YthimchhnhhchkaaGreatDoorM01
import Derived.RegionTactic
import Derived.ChangeAlike
import Derived.BigQuiet
import Derived.Deep.QuietTactic
import Derived.WalkSpells
import Derived.WalkLawsBesides
import Derived.Outline
import Derived.LoopTactic
import Derived.Deep.RegionHeld3
namespace Go.Proofs.YthimchhnhhchkaaGreatDoor
open Go.RowKit
set_option linter.unusedSimpArgs false
set_option linter.unusedVariables false

/-- the slots of a Wide of the number n -/
def hiN (n : Nat) : Int := ((n / 18446744073709551616 : Nat) : Int)
def loN (n : Nat) : Int := ((n % 18446744073709551616 : Nat) : Int)

theorem hiN_half (m : Nat) : hiN m / 2 = hiN (m / 2) := by unfold hiN; omega
theorem loN_half (m : Nat) : loN m / 2 + hiN m % 2 * 9223372036854775808 = loN (m / 2) := by unfold hiN loN; omega
theorem loN_odd (m : Nat) : (loN m % 2 == 1) = (m % 2 == 1) := by
  rw [Bool.eq_iff_iff, beq_iff_eq, beq_iff_eq]; unfold loN; omega
theorem zero_of_words {m : Nat} (h : hiN m = 0) (h' : loN m = 0) : m = 0 := by unfold hiN at h; unfold loN at h'; omega
theorem hiN_bd (m : Nat) (h : m < 2 ^ 128) : 0 ≤ hiN m ∧ hiN m ≤ 18446744073709551615 := by unfold hiN; omega
theorem loN_bd (m : Nat) : 0 ≤ loN m ∧ loN m ≤ 18446744073709551615 := by unfold loN; omega

end Go.Proofs.YthimchhnhhchkaaGreatDoor

namespace Go.Proofs.YthimchhnhhchkaaGreatDoor
open Go.RowKit
set_option linter.unusedSimpArgs false
set_option linter.unusedVariables false

def cellsI (l : List Int) : List Value := l.map fun x => .int .i64 x
theorem cellsI_at (l : List Int) (k : Nat) (h : k < l.length) : (cellsI l)[k]? = some (.int .i64 (l.getD k 0)) := by
  simp [cellsI, List.getD, List.getElem?_eq_getElem h]

theorem anyI_take {p : Int → Bool} {xs : List Int} {j : Nat} (h : (xs.take j).any p = true) : xs.any p = true := by
  rw [List.any_eq_true] at h ⊢
  obtain ⟨x, hx, hp⟩ := h
  exact ⟨x, List.mem_of_mem_take hx, hp⟩
theorem anyI_step {p : Int → Bool} {xs : List Int} {k : Nat} (hk : k < xs.length) (h : (xs.take k).any p = false) : (xs.take (k + 1)).any p = p (xs.getD k 0) := by
  rw [List.take_add_one, List.any_append, h, List.getElem?_eq_getElem hk]
  simp [List.getD_eq_getElem?_getD, hk]

def SomeIdxI (b : Bool) (w : World) (e : Ending) (w' : World) : Prop := ∃ k : Int, (decide (0 ≤ k) = b) ∧ e = .returned (.int .i64 k) ∧ w = w'

end Go.Proofs.YthimchhnhhchkaaGreatDoor

namespace Go.Proofs.YthimchhnhhchkaaGreatDoor
open Go.RowKit
set_option linter.unusedSimpArgs false
set_option linter.unusedVariables false

theorem Tryz.info4 : (Tryz.prog.info? 4).map (fun i => (i.zero, i.size, i.bytes)) = some (some (.bool false), 1, 1) := by kernel_rfl

/-- A new list of bits of the call's own, of which p is known. -/
def NewBits (p : List Bool → Prop) (w : World) (e : Ending) (w' : World) : Prop :=
  ∃ A c l, e = .returned (.slice A l.length c) ∧ p l ∧ w'.ownsRow w.heap.size 4 1 (.slice A l.length c) l.length (l.map Value.bool) ∧ Below w.heap.size w w'

end Go.Proofs.YthimchhnhhchkaaGreatDoor

namespace Go.Proofs.YthimchhnhhchkaaGreatDoor
open Go.RowKit
set_option linter.unusedSimpArgs false
set_option linter.unusedVariables false



















































































end Go.Proofs.YthimchhnhhchkaaGreatDoor

namespace Go.Proofs.YthimchhnhhchkaaGreatDoor
open Go.RowKit
set_option linter.unusedSimpArgs false
set_option linter.unusedVariables false


































end Go.Proofs.YthimchhnhhchkaaGreatDoor

namespace Go.Proofs.YthimchhnhhchkaaGreatDoor
open Go.RowKit
set_option linter.unusedSimpArgs false
set_option linter.unusedVariables false

def PlusIs (la lb l : List Bool) : Prop :=
  Bt.val l = Bt.val la + Bt.val lb ∧ max la.length lb.length ≤ l.length ∧ l.length ≤ max la.length lb.length + 1 ∧ (l.length = max la.length lb.length + 1 → 2 ^ max la.length lb.length ≤ Bt.val l)

def PlusRel (la lb : List Bool) (w : World) (v : Value) (k c : Nat) (wr : World) : Prop :=
  ∃ l : List Bool, l.length = k ∧ c ≤ 1 ∧ k ≤ max la.length lb.length + 1 ∧ (k = max la.length lb.length + 1 → c = 0 ∧ 2 ^ max la.length lb.length ≤ Bt.val l) ∧
    Bt.val l + 2 ^ k * (c + Bt.val (la.drop k) + Bt.val (lb.drop k)) = Bt.val la + Bt.val lb ∧ wr.ownsRow w.heap.size 4 1 v k (l.map Value.bool) ∧ Below w.heap.size w wr

theorem plus_step (la lb : List Bool) (w wr w1 : World) (u v' : Value) (k c : Nat) (h : PlusRel la lb w u k c wr) (hgo : k < max la.length lb.length ∨ 0 < c)
    (hown : w1.ownsRow w.heap.size 4 1 v' (k + 1) ((Classical.choose h).map Value.bool ++ [Value.bool (((Bt.bit la k : Int) + (Bt.bit lb k : Int) + (c : Int)) % 2 == 1)]))
    (hbel : Below w.heap.size wr w1) : PlusRel la lb w v' (k + 1) ((Bt.bit la k + Bt.bit lb k + c) / 2) w1 := by
  obtain ⟨hlk, hc1, hk1, hk2, hval, hown0, hb⟩ := Classical.choose_spec h
  generalize Classical.choose h = l at *
  have hka := Bt.bit_le la k
  have hkb := Bt.bit_le lb k
  have hda := Bt.val_drop la k
  have hdb := Bt.val_drop lb k
  have hpa := fun hx => Bt.bit_past la k hx
  have hpb := fun hx => Bt.bit_past lb k hx
  have hkm : k ≤ max la.length lb.length := by
    rcases Nat.lt_or_ge (max la.length lb.length) k with hx | hx
    · have := (hk2 (by omega)).1; omega
    · exact hx
  have hbit : (((Bt.bit la k : Int) + (Bt.bit lb k : Int) + (c : Int)) % 2 == 1) = ((Bt.bit la k + Bt.bit lb k + c) % 2 == 1) := by
    rw [Bool.eq_iff_iff, beq_iff_eq, beq_iff_eq]; omega
  have hto : ((Bt.bit la k + Bt.bit lb k + c) % 2 == 1).toNat = (Bt.bit la k + Bt.bit lb k + c) % 2 := by
    rcases Nat.mod_two_eq_zero_or_one (Bt.bit la k + Bt.bit lb k + c) with e | e <;> simp [e]
  have hvl : Bt.val (l ++ [(Bt.bit la k + Bt.bit lb k + c) % 2 == 1]) = Bt.val l + 2 ^ k * ((Bt.bit la k + Bt.bit lb k + c) % 2) := by
    rw [Bt.val_append, hlk]; simp [hto]
  refine ⟨l ++ [(Bt.bit la k + Bt.bit lb k + c) % 2 == 1], by simp [hlk], by omega, by omega, fun hm => ?_, ?_, ?_, hb.trans hbel⟩
  · have e1 : k = max la.length lb.length := by omega
    have h1 := hpa (by omega)
    have h2 := hpb (by omega)
    have h3 : c = 1 := by omega
    rw [h1, h2, h3] at hvl ⊢
    refine ⟨by omega, ?_⟩
    rw [hvl, ← e1]; simp
  · rw [hvl, ← hval, hda, hdb, Nat.add_assoc]
    congr 1
    rw [Nat.pow_succ, Nat.mul_assoc, ← Nat.mul_add]
    congr 1
    omega
  · rw [hbit] at hown
    rw [List.map_append]
    exact hown

theorem plus_done (la lb : List Bool) (w wr : World) (u : Value) (k c : Nat) (h : PlusRel la lb w u k c wr) (hk : max la.length lb.length ≤ k) (hc : c = 0) :
    NewBits (PlusIs la lb) w (.returned u) wr := by
  obtain ⟨l, hlk, hc1, hk1, hk2, hval, hown, hb⟩ := h
  obtain ⟨A, cc, hv⟩ := ownsRow_len hown
  subst hv hlk hc
  rw [List.drop_eq_nil_of_le (by omega), List.drop_eq_nil_of_le (by omega)] at hval
  exact ⟨A, cc, l, rfl, ⟨by simpa using hval, by omega, by omega, fun e => (hk2 e).2⟩, hown, hb⟩























































end Go.Proofs.YthimchhnhhchkaaGreatDoor

namespace Go.Proofs.YthimchhnhhchkaaGreatDoor
open Go.RowKit
set_option linter.unusedSimpArgs false
set_option linter.unusedVariables false

def NumRel (l : List Bool) (w : World) (k : Nat) (wr : World) : Prop :=
  k ≤ l.length ∧ Bt.val (l.take k) < 2 ^ 128 ∧ Blk wr (w.heap.size + 1) 29 #[.int .u64 (hiN (Bt.val (l.take k))), .int .u64 (loN (Bt.val (l.take k)))] ∧
    Blk wr w.heap.size 29 #[.int .u64 0, .int .u64 0] ∧ Below w.heap.size w wr

theorem num_hi (m k : Nat) (h : m < 2 ^ k) (h1 : 63 < k) (h2 : k ≤ 127) :
    IntKind.u64.wrap (hiN m + IntKind.u64.wrap (2 ^ (k - 64))) = hiN (m + 2 ^ k) ∧ loN m = loN (m + 2 ^ k) := by
  obtain ⟨j, rfl⟩ : ∃ j, k = j + 64 := ⟨k - 64, by omega⟩
  have e1 : 2 ^ (j + 64) = 2 ^ j * 18446744073709551616 := by rw [Nat.pow_add]
  have e2 : 2 ^ j ≤ 2 ^ 63 := Bt.pow_le_pow (by omega)
  rw [e1] at h ⊢
  rw [Nat.add_sub_cancel]
  have e3 : ((2 : Int) ^ j) = ((2 ^ j : Nat) : Int) := by simp
  rw [e3]
  generalize 2 ^ j = q at *
  rw [IntWalk.u64_in (q : Int) (by omega), IntWalk.u64_in _ (by unfold hiN; omega)]
  unfold hiN loN
  omega

theorem num_lo (m k : Nat) (h : m < 2 ^ k) (h2 : k ≤ 63) :
    IntKind.u64.wrap (loN m + IntKind.u64.wrap (2 ^ k)) = loN (m + 2 ^ k) ∧ hiN m = hiN (m + 2 ^ k) := by
  have e2 : 2 ^ k ≤ 2 ^ 63 := Bt.pow_le_pow (by omega)
  have e3 : ((2 : Int) ^ k) = ((2 ^ k : Nat) : Int) := by simp
  rw [e3]
  generalize 2 ^ k = q at *
  rw [IntWalk.u64_in (q : Int) (by omega), IntWalk.u64_in _ (by unfold loN; omega)]
  unfold hiN loN
  omega





























































































































































































end Go.Proofs.YthimchhnhhchkaaGreatDoor

namespace Go.Proofs.YthimchhnhhchkaaGreatDoor
open Go.RowKit
set_option linter.unusedSimpArgs false
set_option linter.unusedVariables false

def cmpN (a b : Nat) : Int := if a < b then -1 else if b < a then 1 else 0

theorem cmpN_neg {a b : Nat} (h : a < b) : cmpN a b < 0 := by unfold cmpN; rw [if_pos h]; decide
theorem cmpN_nonneg {a b : Nat} (h : b ≤ a) : 0 ≤ cmpN a b := by unfold cmpN; rw [if_neg (by omega)]; split <;> decide

end Go.Proofs.YthimchhnhhchkaaGreatDoor

namespace Go.Proofs.YthimchhnhhchkaaGreatDoor
open Go.RowKit
set_option linter.unusedSimpArgs false
set_option linter.unusedVariables false

def OrderRel (la lb : List Bool) (j : Int) : Prop :=
  -1 ≤ j ∧ j < max la.length lb.length ∧ Bt.val (la.drop (j + 1).toNat) = Bt.val (lb.drop (j + 1).toNat)

theorem cmp_of (la lb : List Bool) (k : Nat) (h : Bt.val (la.drop (k + 1)) = Bt.val (lb.drop (k + 1))) (hk : k < max la.length lb.length) :
    ((Bt.bit la k : Int) - (Bt.bit lb k : Int) ≠ 0 → cmpN (Bt.val la) (Bt.val lb) = (Bt.bit la k : Int) - (Bt.bit lb k : Int)) ∧
    ((Bt.bit la k : Int) - (Bt.bit lb k : Int) = 0 → Bt.val (la.drop k) = Bt.val (lb.drop k)) := by
  have hda := Bt.val_drop la k
  have hdb := Bt.val_drop lb k
  have ba := Bt.bit_le la k
  have bb := Bt.bit_le lb k
  refine ⟨fun hne => ?_, fun he => by omega⟩
  have hsa : Bt.val la = Bt.val (la.take k) + 2 ^ k * Bt.val (la.drop k) := by
    rcases Nat.lt_or_ge la.length k with hx | hx
    · rw [List.take_of_length_le (by omega), List.drop_eq_nil_of_le (by omega)]; simp
    · exact Bt.val_take_drop la k hx
  have hsb : Bt.val lb = Bt.val (lb.take k) + 2 ^ k * Bt.val (lb.drop k) := by
    rcases Nat.lt_or_ge lb.length k with hx | hx
    · rw [List.take_of_length_le (by omega), List.drop_eq_nil_of_le (by omega)]; simp
    · exact Bt.val_take_drop lb k hx
  have hta : Bt.val (la.take k) < 2 ^ k := by
    have h1 := Bt.val_lt (la.take k)
    have : 2 ^ (la.take k).length ≤ 2 ^ k := Bt.pow_le_pow (by simp; omega)
    omega
  have htb : Bt.val (lb.take k) < 2 ^ k := by
    have h1 := Bt.val_lt (lb.take k)
    have : 2 ^ (lb.take k).length ≤ 2 ^ k := Bt.pow_le_pow (by simp; omega)
    omega
  generalize Bt.val (la.take k) = ta at *
  generalize Bt.val (lb.take k) = tb at *
  generalize Bt.val (la.drop (k + 1)) = da at *
  rw [← h] at hdb
  generalize 2 ^ k = q at *
  rw [hda] at hsa
  rw [hdb] at hsb
  unfold cmpN
  rcases Nat.lt_or_ge (Bt.bit la k) (Bt.bit lb k) with hx | hx
  · have e1 : Bt.bit la k = 0 := by omega
    have e2 : Bt.bit lb k = 1 := by omega
    rw [e1] at hsa ⊢
    rw [e2] at hsb ⊢
    rw [Nat.mul_add] at hsa hsb
    rw [if_pos (by omega)]; rfl
  · have e1 : Bt.bit la k = 1 := by omega
    have e2 : Bt.bit lb k = 0 := by omega
    rw [e1] at hsa ⊢
    rw [e2] at hsb ⊢
    rw [Nat.mul_add] at hsa hsb
    rw [if_neg (by omega), if_pos (by omega)]; rfl































































end Go.Proofs.YthimchhnhhchkaaGreatDoor

namespace Go.Proofs.YthimchhnhhchkaaGreatDoor
open Go.RowKit
set_option linter.unusedSimpArgs false
set_option linter.unusedVariables false






end Go.Proofs.YthimchhnhhchkaaGreatDoor

namespace Go.Proofs.YthimchhnhhchkaaGreatDoor
open Go.RowKit
set_option linter.unusedSimpArgs false
set_option linter.unusedVariables false

theorem madeBools (n : Nat) : (madeCells #[Value.bool false] n).toList = List.replicate n (Value.bool false) := by
  simp only [madeCells]
  apply List.ext_getElem <;> simp [Nat.mod_one]

theorem oneCell_bools (l : List Bool) : ∀ u ∈ l.map Value.bool, u.oneCell' = true := by
  intro u hu
  obtain ⟨b, _, rfl⟩ := List.mem_map.1 hu
  rfl

end Go.Proofs.YthimchhnhhchkaaGreatDoor

namespace Go.Proofs.YthimchhnhhchkaaGreatDoor
open Go.RowKit
set_option linter.unusedSimpArgs false
set_option linter.unusedVariables false



































end Go.Proofs.YthimchhnhhchkaaGreatDoor

namespace Go.Proofs.YthimchhnhhchkaaGreatDoor
open Go.RowKit
set_option linter.unusedSimpArgs false
set_option linter.unusedVariables false

theorem plus_norm {la lb l : List Bool} (h : PlusIs la lb l) (ha : Bt.Norm la) (hb : Bt.Norm lb) : Bt.Norm l := by
  obtain ⟨h1, h2, h3, h4⟩ := h
  rcases Nat.lt_or_ge (max la.length lb.length) l.length with hx | hx
  · have e : l.length = max la.length lb.length + 1 := by omega
    have := h4 e
    exact .inr (by rw [e, Nat.pow_succ]; omega)
  · have e : l.length = max la.length lb.length := by omega
    rcases Nat.lt_or_ge la.length lb.length with ho | ho
    · rcases hb with rfl | hb
      · simp at ho
      · exact .inr (by rw [e, Nat.max_eq_right (by omega)]; omega)
    · rcases ha with rfl | ha
      · left
        have : l.length = 0 := by rw [e]; simp at ho ⊢; exact ho
        exact List.eq_nil_of_length_eq_zero this
      · exact .inr (by rw [e, Nat.max_eq_left ho]; omega)

theorem norm_moved (k : Nat) {lb : List Bool} (h : Bt.Norm lb) (hne : lb ≠ []) : Bt.Norm (List.replicate k false ++ lb) := by
  rcases h with h | h
  · exact absurd h hne
  · refine .inr ?_
    rw [val_moved, List.length_append, List.length_replicate, Nat.pow_add, Nat.mul_left_comm]
    exact Nat.mul_le_mul_left _ h

def ProdIs (la lb : List Bool) (k : Nat) (l : List Bool) : Prop :=
  Bt.val l = Bt.val (la.take k) * Bt.val lb ∧ l.length ≤ k + lb.length ∧ (Bt.Norm lb → lb ≠ [] → Bt.Norm l)

theorem prod_step {la lb l l' : List Bool} {k : Nat} (hk : k < la.length) (hb : la[k] = true) (h : ProdIs la lb k l) (hp : PlusIs l (List.replicate k false ++ lb) l') : ProdIs la lb (k + 1) l' := by
  obtain ⟨h1, h2, h3⟩ := h
  have hp' := hp
  obtain ⟨p1, p2, p3, _⟩ := hp
  refine ⟨?_, ?_, fun hn hne => plus_norm hp' (h3 hn hne) (norm_moved k hn hne)⟩
  · rw [p1, val_moved, h1, take_true la k hk hb, Nat.add_mul]
  · simp at p3
    omega

theorem prod_keep {la lb l : List Bool} {k : Nat} (hk : k < la.length) (hb : la[k] = false) (h : ProdIs la lb k l) : ProdIs la lb (k + 1) l := by
  obtain ⟨h1, h2, h3⟩ := h
  exact ⟨by rw [h1, take_false la k hk hb], by omega, h3⟩

def ProdRel (la lb : List Bool) (w : World) (v : Value) (k : Nat) (wr : World) : Prop :=
  ∃ A c l, v = .slice A l.length c ∧ k ≤ la.length ∧ ProdIs la lb k l ∧ wr.ownsRow w.heap.size 4 1 (.slice A l.length c) l.length (l.map Value.bool) ∧ Below w.heap.size w wr




























































end Go.Proofs.YthimchhnhhchkaaGreatDoor

namespace Go.Proofs.YthimchhnhhchkaaGreatDoor
open Go.RowKit
set_option linter.unusedSimpArgs false
set_option linter.unusedVariables false













end Go.Proofs.YthimchhnhhchkaaGreatDoor

namespace Go.Proofs.YthimchhnhhchkaaGreatDoor
open Go.RowKit
set_option linter.unusedSimpArgs false
set_option linter.unusedVariables false
theorem step_appN {P : Program} {w : World} {ops : Array Oper} {o : Oper} {a : Act} {K : Act → World → Prop} {Q : Exit → Act → World → Prop} {E : Prop} (hgd : o.guard = none) (s x : Operand) (t : TypeId)
    (ho : o.op = .call { callee := .builtin .append, args := #[s, x], argTypes := #[t, t] })
    (base : Nat) (e : TypeId) (i : TypeInfo) (z : Value) (size bytes : Nat) (ht : P.underlying t = some (.slice e)) (hi : P.info? e = some i) (hz : i.zero = some z)
    (hsize : i.size = size) (hby : i.bytes = bytes) (hzs : z.cells.size = size) (hsz : 0 < size)
    (v : Value) (n : Nat) (xs : List Value) (hs : a.eval s = v) (hown : w.ownsRow base e size v n xs)
    (B : Nat) (A : Option Addr) (m c : Nat) (news : List Value) (hx : a.eval x = .slice A m c) (hr : Reads w B size A m news) (h1 : ∀ u ∈ news, u.oneCell' = true)
    (h63 : n + m ≤ maxLen) (hbytes : (n + m) * bytes ≤ 140737488355328) (hbase : base ≤ w.heap.size)
    (h : ∀ v' w', w'.ownsRow base e size v' (n + m) (xs ++ news) → Below base w w' → K (a.put o.dst v') w') :
    if Region.wanted o (yielded ops a.tmps) = true then Oper.wp P o a w K Q else E := by
  have hw : Region.wanted o (yielded ops a.tmps) = true := by simp [Region.wanted, hgd]
  rw [if_pos hw]
  refine wp_append_any w s x t ho base e i z size bytes ht hi hz hsize hby hzs hsz v n xs hs hown B A m c news hx hr h1 h63 hbytes hbase fun v' w' h2 h3 h4 => h v' w' h2 ?_
  have hlt := hown.lt
  exact ⟨h3.os, h3.tape, h3.output, h3.size, fun k hk => h3.block k (by omega) (fun e => by have := hlt k e.symm; omega)⟩
theorem Env.belowB {w0 W W' : World} {l : List (Nat × TypeId × Array Value)} {B : Nat} (h : Env w0 W l) (hb : Below B W W') (h0 : w0.heap.size ≤ B) (hl : ∀ x ∈ l, x.1 < B) : Env w0 W' l :=
  ⟨h.1.trans (hb.mono h0), fun x hx => ⟨(h.2 x hx).1, (h.2 x hx).2.below hb (hl x hx)⟩⟩
theorem ownsRow_at {w : World} {base : Nat} {e : TypeId} {size n : Nat} {v : Value} {xs : List Value} (h : w.ownsRow base e size v n xs) (hn : 0 < n) :
    ∃ g c, v = .slice (some ⟨g, 0, none⟩) n c ∧ base ≤ g ∧ g < w.heap.size ∧ n ≤ c ∧ c ≤ maxLen ∧ ∀ k u, xs[k]? = some u → w.cell? ⟨g, k, none⟩ = some u := by
  have hc := fun (g : Nat) (cap : Nat) (hv : v = .slice (some ⟨g, 0, none⟩) n cap) => h.cells (g := g) (by rw [hv]; rfl)
  rcases h.2 with ⟨_, h0⟩ | ⟨g, cap, cur, hv, hb, hg, hnc, hm, hs, hx⟩
  · omega
  · exact ⟨g, cap, hv, hb, (Array.getElem?_eq_some_iff.1 hg).1, hnc, hm, fun k u hu => by
      have := hc g cap hv k u hu
      by_cases hk : k = 0
      · subst hk; simpa [Addr.add] using this
      · simpa [Addr.add, hk] using this⟩
end Go.Proofs.YthimchhnhhchkaaGreatDoor

namespace Go.Proofs.YthimchhnhhchkaaGreatDoor
open Go.RowKit
set_option linter.unusedSimpArgs false
set_option linter.unusedVariables false

/-- The words h, l are those of the number n. -/
def WN (h l : Int) (n : Nat) : Prop := h = hiN n ∧ l = loN n ∧ n < 2 ^ 128

def s64 (x y c : Int) : Int := (x + y + c) % 18446744073709551616
def k64 (x y c : Int) : Int := (x + y + c) / 18446744073709551616
def d64 (x y b : Int) : Int := (x - y - b) % 18446744073709551616
def b64 (x y b : Int) : Int := if x < y + b then 1 else 0

theorem k64_bd (x y c : Int) (hx : 0 ≤ x ∧ x ≤ 18446744073709551615) (hy : 0 ≤ y ∧ y ≤ 18446744073709551615) (hc : 0 ≤ c ∧ c ≤ 1) : 0 ≤ k64 x y c ∧ k64 x y c ≤ 1 := by unfold k64; omega
theorem b64_bd (x y b : Int) : 0 ≤ b64 x y b ∧ b64 x y b ≤ 1 := by unfold b64; split <;> omega

/-- What is answered of a number: it, or the error, if it is too large. -/
def fitN (n : Nat) : Nat := if n < 2 ^ 128 then n else 0
def fitE (n : Nat) : Int := if n < 2 ^ 128 then 0 else 2
def subE (a b : Nat) : Int := if b ≤ a then 0 else 7

theorem fitN_lt (n : Nat) : fitN n < 2 ^ 128 := by unfold fitN; split <;> omega

theorem WN.mk' (n : Nat) (h : n < 2 ^ 128) : WN (hiN n) (loN n) n := ⟨rfl, rfl, h⟩
theorem WN.one : WN 1 0 18446744073709551616 := ⟨by unfold hiN; omega, by unfold loN; omega, by omega⟩

end Go.Proofs.YthimchhnhhchkaaGreatDoor

namespace Go.Proofs.YthimchhnhhchkaaGreatDoor
open Go.RowKit
set_option linter.unusedSimpArgs false
set_option linter.unusedVariables false

theorem add64 (x y c : Int) (hx : 0 ≤ x) (hy : 0 ≤ y) (hc0 : 0 ≤ c) (hc : c ≤ 1) (w : World) :
    (callFunc 14 #[.int .u64 x, .int .u64 y, .int .u64 c]).run Tryz.prog w = .ok (.value (.tuple #[.int .u64 (s64 x y c), .int .u64 (k64 x y c)])) w := by
  rw [run_callFunc_extern Tryz.func14 (by kernel_rfl) (by kernel_rfl) (by kernel_rfl) (e := add64Entry) (by kernel_rfl), run_add64 x y c hx hy hc0 hc]
  rfl

theorem add_words (a b : Nat) : s64 (loN a) (loN b) 0 = loN (a + b) ∧ s64 (hiN a) (hiN b) (k64 (loN a) (loN b) 0) = hiN ((a + b) % 2 ^ 128) ∧
    (k64 (hiN a) (hiN b) (k64 (loN a) (loN b) 0) = ((a + b) / 2 ^ 128 : Nat)) := by
  unfold s64 k64 hiN loN; omega

set_option maxRecDepth 100000 in
set_option maxHeartbeats 400000 in
theorem wide_add_ok (ah al bh bl : Int) (a b : Nat) (ha : WN ah al a) (hb : WN bh bl b) (h : a + b < 2 ^ 128) (w : World) :
    Calls Tryz.prog 8 #[.agg #[.int .u64 ah, .int .u64 al], .agg #[.int .u64 bh, .int .u64 bl]] w fun e w' =>
      e = .returned (.tuple #[.agg #[.int .u64 (hiN (a + b)), .int .u64 (loN (a + b))], .int .i64 0]) ∧ Below w.heap.size w w' := by
  obtain ⟨rfl, rfl, ha⟩ := ha
  obtain ⟨rfl, rfl, hb⟩ := hb
  obtain ⟨e1, e2, e3⟩ := add_words a b
  rw [Nat.mod_eq_of_lt h] at e2
  rw [Nat.div_eq_of_lt h] at e3
  obtain ⟨a1, a2⟩ := hiN_bd a ha
  obtain ⟨a3, a4⟩ := loN_bd a
  obtain ⟨b1, b2⟩ := hiN_bd b hb
  obtain ⟨b3, b4⟩ := loN_bd b
  obtain ⟨k0, k1⟩ := k64_bd (loN a) (loN b) 0 ⟨a3, a4⟩ ⟨b3, b4⟩ (by omega)
  have E1 := Lib.hid e1
  have E2 := Lib.hid e2
  have hk : k64 (hiN a) (hiN b) (k64 (loN a) (loN b) 0) ≤ 0 := by omega
  clear e1 e2 e3 ha hb h
  go_enter Tryz.func8, Tryz.ntmps8
  go_wp2_with (first | simp only [add64 (loN a) (loN b) 0 a3 b3 (Int.le_refl 0) (by decide)] | simp only [add64 (hiN a) (hiN b) _ a1 b1 k0 k1])
  rw [E1.out, E2.out]
  refine bodyPost_ret (v := .tuple #[.agg #[.int .u64 (hiN (a + b)), .int .u64 (loN (a + b))], .int .i64 0]) (by simp [results, Tryz.results8, go_sem]) rfl ⟨rfl, ?_⟩
  exact (((Below.refl _ _).alloc (Nat.le_refl _) _).alloc (by simp) _).alloc (by simp; omega) _

set_option maxRecDepth 100000 in
set_option maxHeartbeats 400000 in
theorem wide_add_large (ah al bh bl : Int) (a b : Nat) (ha : WN ah al a) (hb : WN bh bl b) (h : 2 ^ 128 ≤ a + b) (w : World) :
    Calls Tryz.prog 8 #[.agg #[.int .u64 ah, .int .u64 al], .agg #[.int .u64 bh, .int .u64 bl]] w fun e w' =>
      e = .returned (.tuple #[.agg #[.int .u64 0, .int .u64 0], .int .i64 2]) ∧ Below w.heap.size w w' := by
  obtain ⟨rfl, rfl, ha⟩ := ha
  obtain ⟨rfl, rfl, hb⟩ := hb
  obtain ⟨e1, e2, e3⟩ := add_words a b
  obtain ⟨a1, a2⟩ := hiN_bd a ha
  obtain ⟨a3, a4⟩ := loN_bd a
  obtain ⟨b1, b2⟩ := hiN_bd b hb
  obtain ⟨b3, b4⟩ := loN_bd b
  obtain ⟨k0, k1⟩ := k64_bd (loN a) (loN b) 0 ⟨a3, a4⟩ ⟨b3, b4⟩ (by omega)
  have hk : 0 < k64 (hiN a) (hiN b) (k64 (loN a) (loN b) 0) := by
    rw [e3]
    have : 1 ≤ (a + b) / 2 ^ 128 := by rw [Nat.le_div_iff_mul_le (by decide)]; omega
    omega
  clear e1 e2 e3 ha hb h
  go_enter Tryz.func8, Tryz.ntmps8
  go_wp2_with (first | simp only [add64 (loN a) (loN b) 0 a3 b3 (Int.le_refl 0) (by decide)] | simp only [add64 (hiN a) (hiN b) _ a1 b1 k0 k1])
  refine bodyPost_ret (v := .tuple #[.agg #[.int .u64 0, .int .u64 0], .int .i64 2]) (by simp [results, Tryz.results8, go_sem]) rfl ⟨rfl, ?_⟩
  exact (((Below.refl _ _).alloc (Nat.le_refl _) _).alloc (by simp) _).alloc (by simp; omega) _

theorem wide_add_any (ah al bh bl : Int) (a b : Nat) (ha : WN ah al a) (hb : WN bh bl b) (w : World) :
    Calls Tryz.prog 8 #[.agg #[.int .u64 ah, .int .u64 al], .agg #[.int .u64 bh, .int .u64 bl]] w fun e w' =>
      e = .returned (.tuple #[.agg #[.int .u64 (hiN (fitN (a + b))), .int .u64 (loN (fitN (a + b)))], .int .i64 (fitE (a + b))]) ∧ Below w.heap.size w w' := by
  unfold fitN fitE
  by_cases h : a + b < 2 ^ 128
  · rw [if_pos h, if_pos h]; exact wide_add_ok ah al bh bl a b ha hb h w
  · rw [if_neg h, if_neg h]; exact wide_add_large ah al bh bl a b ha hb (by omega) w

end Go.Proofs.YthimchhnhhchkaaGreatDoor

namespace Go.Proofs.YthimchhnhhchkaaGreatDoor
open Go.RowKit Go.Lib
set_option linter.unusedSimpArgs false
set_option linter.unusedVariables false

/-- a number from 0 to n-1 -/
def wthn (k n : Int) : Int := k % 18446744073709551616 % n
theorem wthn_bd (k : Int) {n : Int} (h : 1 ≤ n) : 0 ≤ wthn k n ∧ wthn k n < n := ⟨Int.emod_nonneg _ (by omega), Int.emod_lt_of_pos _ (by omega)⟩
set_option maxRecDepth 100000 in
theorem kwithin_any (k n : Int) (hn : 1 ≤ n) (hm : n ≤ 9223372036854775807) (w : World) :
    Calls Tryz.prog 4 #[.int .i64 k, .int .i64 n] w fun e w' => e = .returned (.int .i64 (wthn k n)) ∧ w = w' := by
  go_enter Tryz.func4, Tryz.ntmps4
  have hb := wthn_bd k hn
  have hq : wrap64 ((IntKind.u64.wrap k).tmod n) = wthn k n := by
    have e : (IntKind.u64.wrap k).tmod n = wthn k n := by
      rw [IntKind.wrap_u64, Int.tmod_eq_emod_of_nonneg (by omega)]
      rfl
    rw [e]
    unfold wrap64
    omega
  clear hb
  go_wp2
  go_ret
  exact ⟨ret_int hq, rfl⟩

set_option maxRecDepth 100000 in
theorem begun_true (w : World) : Calls Tryz.prog 6 #[] w fun e w' => e = .returned (.bool true) ∧ Below w.heap.size w w' := by
  have HA := Lib.hid (wide_add_ok 0 2 0 3 2 3 ⟨by decide, by decide, by decide⟩ ⟨by decide, by decide, by decide⟩ (by decide))
  go_enter Tryz.func6, Tryz.ntmps6
  go_wp2_with fail
  refine (HA.out _).mono ?_
  rintro e' w1 ⟨rfl, hb1⟩
  have E1 := Lib.hid (((Env.start w).below hb1).lay #[.int .u64 (hiN (2 + 3)), .int .u64 (loN (2 + 3))] 29)
  have e1 : hiN (2 + 3) = 0 := by decide
  have e2 : loN (2 + 3) = 5 := by decide
  rw [e1, e2] at E1
  go_wp2
  go_ret
  exact ⟨rfl, E1.out.bel⟩
end Go.Proofs.YthimchhnhhchkaaGreatDoor

namespace Go.Proofs.YthimchhnhhchkaaGreatDoor
open Go.RowKit
set_option linter.unusedSimpArgs false
set_option linter.unusedVariables false

theorem hilo_lt (a b : Nat) : a < b ↔ (hiN a < hiN b ∨ (hiN a = hiN b ∧ loN a < loN b)) := by unfold hiN loN; omega
theorem hilo_eq (a b : Nat) : a = b ↔ (hiN a = hiN b ∧ loN a = loN b) := by unfold hiN loN; omega

set_option maxRecDepth 100000 in
set_option maxHeartbeats 1000000 in
theorem wide_cmp (ah al bh bl : Int) (a b : Nat) (ha : WN ah al a) (hb : WN bh bl b) (w : World) :
    Calls Tryz.prog 94 #[.agg #[.int .u64 ah, .int .u64 al], .agg #[.int .u64 bh, .int .u64 bl]] w fun e w' => e = .returned (.int .i64 (cmpN a b)) ∧ Below w.heap.size w w' := by
  obtain ⟨rfl, rfl, ha⟩ := ha
  obtain ⟨rfl, rfl, hb⟩ := hb
  have hl := hilo_lt a b
  have he := hilo_eq a b
  have hbel : ∀ o1 o2, Below w.heap.size w ((w.alloc o1).alloc o2) := fun o1 o2 => ((Below.refl _ _).alloc (Nat.le_refl _) _).alloc (by simp) _
  have HBE := Lib.hid hbel
  clear ha hb hbel
  by_cases h1 : hiN a = hiN b
  · by_cases h2 : loN a = loN b
    · have h3 : a = b := he.2 ⟨h1, h2⟩
      subst h3
      clear hl he h1 h2
      go_enter Tryz.func94, Tryz.ntmps94
      go_wp2
      go_ret
      exact ⟨ret_int (by simp [cmpN]), HBE.out _ _⟩
    · have h2b : (loN a == loN b) = false := by simpa using h2
      rw [h1]
      have HL := Lib.hid hl
      have HE := Lib.hid he
      have H1 := Lib.hid h1
      have H2 := Lib.hid h2
      rcases Int.lt_or_gt_of_ne h2 with h3 | h3
      · clear hl he h1 h2
        go_enter Tryz.func94, Tryz.ntmps94
        go_wp2
        go_ret
        have : a < b := HL.out.2 (.inr ⟨H1.out, h3⟩)
        exact ⟨ret_int (by simp [cmpN, this]), HBE.out _ _⟩
      · clear hl he h1 h2
        go_enter Tryz.func94, Tryz.ntmps94
        go_wp2
        go_ret
        have h4 : ¬ a < b := fun h => by
          have := HL.out.1 h
          have := H1.out
          omega
        have h5 : a ≠ b := fun h => H2.out (HE.out.1 h).2
        have h6 : b < a := by omega
        exact ⟨ret_int (by simp [cmpN, h4, h6]), HBE.out _ _⟩
  · have h2b : (hiN a == hiN b) = false := by simpa using h1
    have HL := Lib.hid hl
    have HE := Lib.hid he
    have H1 := Lib.hid h1
    rcases Int.lt_or_gt_of_ne h1 with h3 | h3
    · clear hl he h1
      go_enter Tryz.func94, Tryz.ntmps94
      go_wp2
      go_ret
      have : a < b := HL.out.2 (.inl h3)
      exact ⟨ret_int (by simp [cmpN, this]), HBE.out _ _⟩
    · clear hl he h1
      go_enter Tryz.func94, Tryz.ntmps94
      go_wp2
      go_ret
      have h4 : ¬ a < b := fun h => by
        have := HL.out.1 h
        omega
      have h5 : a ≠ b := fun h => H1.out (HE.out.1 h).1
      have h6 : b < a := by omega
      exact ⟨ret_int (by simp [cmpN, h4, h6]), HBE.out _ _⟩

end Go.Proofs.YthimchhnhhchkaaGreatDoor

namespace Go.Proofs.YthimchhnhhchkaaGreatDoor
open Go.RowKit
set_option linter.unusedSimpArgs false
set_option linter.unusedVariables false









end Go.Proofs.YthimchhnhhchkaaGreatDoor

namespace Go.Proofs.YthimchhnhhchkaaGreatDoor
open Go.RowKit
set_option linter.unusedSimpArgs false
set_option linter.unusedVariables false

def GateOk (i s d : Int) : Prop := 0 ≤ i ∧ i ≤ 2147483647 ∧ 0 ≤ s ∧ s ≤ 2147483647 ∧ 0 ≤ d ∧ d ≤ 1073741824 ∧ (s = 0 → i = 0)
def BeatNo (inc seq : Int) : Prop := 0 ≤ inc ∧ inc ≤ 2147483647 ∧ 1 ≤ seq ∧ seq ≤ 2147483647
def Newer (i s inc seq : Int) : Prop := i < inc ∨ (inc = i ∧ s < seq)
instance (i s d : Int) : Decidable (GateOk i s d) := by unfold GateOk; infer_instance
instance (i s : Int) : Decidable (BeatNo i s) := by unfold BeatNo; infer_instance
instance (i s a b : Int) : Decidable (Newer i s a b) := by unfold Newer; infer_instance
def gateE (i s d : Int) : Int := if GateOk i s d then 0 else 1

set_option maxRecDepth 100000 in
theorem gate_check (i s d : Int) (w : World) :
    Calls Tryz.prog 190 #[.agg #[.int .i64 i, .int .i64 s, .int .i64 d]] w fun e w' => e = .returned (.int .i64 (gateE i s d)) ∧ Below w.heap.size w w' := by
  go_enter Tryz.func190, Tryz.ntmps190
  go_wp2
  all_goals (go_ret; refine ⟨ret_int ?_, (Below.refl _ _).alloc (Nat.le_refl _) _⟩; simp_all [gateE, GateOk] <;> omega)










theorem check_ok (i s d : Int) (h : GateOk i s d) (w : World) :
    Calls Tryz.prog 190 #[.agg #[.int .i64 i, .int .i64 s, .int .i64 d]] w fun e w' => e = .returned (.int .i64 0) ∧ Below w.heap.size w w' := by
  have := gate_check i s d w
  rwa [gateE, if_pos h] at this
theorem check_bad (i s d : Int) (h : ¬ GateOk i s d) (w : World) :
    Calls Tryz.prog 190 #[.agg #[.int .i64 i, .int .i64 s, .int .i64 d]] w fun e w' => e = .returned (.int .i64 1) ∧ Below w.heap.size w w' := by
  have := gate_check i s d w
  rwa [gateE, if_neg h] at this









set_option maxRecDepth 100000 in
set_option maxHeartbeats 1000000 in
theorem take_badgate (i s d inc seq : Int) (h : ¬ GateOk i s d) (w : World) :
    Calls Tryz.prog 170 #[.agg #[.int .i64 i, .int .i64 s, .int .i64 d], .int .i64 inc, .int .i64 seq] w fun e w' =>
      e = .returned (.tuple #[.agg #[.int .i64 0, .int .i64 0, .int .i64 0], .bool false, .int .i64 1]) ∧ Below w.heap.size w w' := by
  have H := Lib.hid h
  have E := Lib.hid (((Env.start w).lay #[.int .i64 i, .int .i64 s, .int .i64 d] 181).lay #[.int .i64 0, .int .i64 0, .int .i64 0] 181)
  clear h
  go_enter Tryz.func170, Tryz.ntmps170
  go_wp2_with fail
  refine (check_bad _ _ _ H.out _).mono ?_
  rintro e w1 ⟨rfl, hb1⟩
  have E1 := Lib.hid (E.out.below hb1)
  clear hb1
  have p0 := E1.out.hd.lt
  have p1 := E1.out.tl.hd.lt
  have b0 := E1.out.hd.cell 0
  have b1 := E1.out.hd.cell 1
  have b2 := E1.out.hd.cell 2
  have a0 := E1.out.tl.hd.cell 0
  have a1 := E1.out.tl.hd.cell 1
  have a2 := E1.out.tl.hd.cell 2
  have f0 := E1.out.hd.frozen 0
  have f1 := E1.out.hd.frozen 1
  have f2 := E1.out.hd.frozen 2
  have f3 := E1.out.tl.hd.frozen 2
  simp at a0 a1 a2 b0 b1 b2 f0 f1 f2 f3 p0 p1
  go_wp2
  refine bodyPost_ret (v := .tuple #[.agg #[.int .i64 0, .int .i64 0, .int .i64 0], .bool false, .int .i64 1]) (by simp [results, Tryz.results170, go_sem, b0, b1, b2, a0, a1, a2] <;> omega) rfl ⟨rfl, ?_⟩
  exact ((E1.out.bel.setCell (by simp) _).setCell (by simp) _).setCell (by simp) _

set_option maxRecDepth 100000 in
set_option maxHeartbeats 1000000 in
theorem take_badarg (i s d inc seq : Int) (h : GateOk i s d) (hn : ¬ BeatNo inc seq) (w : World) :
    Calls Tryz.prog 170 #[.agg #[.int .i64 i, .int .i64 s, .int .i64 d], .int .i64 inc, .int .i64 seq] w fun e w' =>
      e = .returned (.tuple #[.agg #[.int .i64 0, .int .i64 0, .int .i64 0], .bool false, .int .i64 1]) ∧ Below w.heap.size w w' := by
  have H := Lib.hid h
  have hn' : inc < 0 ∨ 2147483648 ≤ inc ∨ seq < 1 ∨ 2147483648 ≤ seq := by unfold BeatNo at hn; omega
  have E := Lib.hid (((Env.start w).lay #[.int .i64 i, .int .i64 s, .int .i64 d] 181).lay #[.int .i64 0, .int .i64 0, .int .i64 0] 181)
  clear h hn
  go_enter Tryz.func170, Tryz.ntmps170
  go_wp2_with fail
  refine (check_ok _ _ _ H.out _).mono ?_
  rintro e w1 ⟨rfl, hb1⟩
  have E1 := Lib.hid (E.out.below hb1)
  clear hb1
  have p0 := E1.out.hd.lt
  have p1 := E1.out.tl.hd.lt
  have b0 := E1.out.hd.cell 0
  have b1 := E1.out.hd.cell 1
  have b2 := E1.out.hd.cell 2
  have a0 := E1.out.tl.hd.cell 0
  have a1 := E1.out.tl.hd.cell 1
  have a2 := E1.out.tl.hd.cell 2
  have f0 := E1.out.hd.frozen 0
  have f1 := E1.out.hd.frozen 1
  have f2 := E1.out.hd.frozen 2
  have f3 := E1.out.tl.hd.frozen 2
  simp at a0 a1 a2 b0 b1 b2 f0 f1 f2 f3 p0 p1
  go_wp2
  all_goals first
    | (exfalso; omega)
    | (refine bodyPost_ret (v := .tuple #[.agg #[.int .i64 0, .int .i64 0, .int .i64 0], .bool false, .int .i64 1]) (by simp [results, Tryz.results170, go_sem, b0, b1, b2, a0, a1, a2] <;> omega) rfl ⟨rfl, ?_⟩
       exact ((E1.out.bel.setCell (by simp) _).setCell (by simp) _).setCell (by simp) _)

set_option maxRecDepth 100000 in
set_option maxHeartbeats 1000000 in
theorem take_new (i s d inc seq : Int) (h : GateOk i s d) (hn : BeatNo inc seq) (hg : Newer i s inc seq) (w : World) :
    Calls Tryz.prog 170 #[.agg #[.int .i64 i, .int .i64 s, .int .i64 d], .int .i64 inc, .int .i64 seq] w fun e w' =>
      e = .returned (.tuple #[.agg #[.int .i64 inc, .int .i64 seq, .int .i64 d], .bool true, .int .i64 0]) ∧ Below w.heap.size w w' := by
  have H := Lib.hid h
  obtain ⟨n0, n1, n2, n3⟩ := hn
  unfold Newer at hg
  have E := Lib.hid (((Env.start w).lay #[.int .i64 i, .int .i64 s, .int .i64 d] 181).lay #[.int .i64 0, .int .i64 0, .int .i64 0] 181)
  clear h
  go_enter Tryz.func170, Tryz.ntmps170
  go_wp2_with fail
  refine (check_ok _ _ _ H.out _).mono ?_
  rintro e w1 ⟨rfl, hb1⟩
  have E1 := Lib.hid (E.out.below hb1)
  clear hb1
  have p0 := E1.out.hd.lt
  have p1 := E1.out.tl.hd.lt
  have b0 := E1.out.hd.cell 0
  have b1 := E1.out.hd.cell 1
  have b2 := E1.out.hd.cell 2
  have a0 := E1.out.tl.hd.cell 0
  have a1 := E1.out.tl.hd.cell 1
  have a2 := E1.out.tl.hd.cell 2
  have f0 := E1.out.hd.frozen 0
  have f1 := E1.out.hd.frozen 1
  have f2 := E1.out.hd.frozen 2
  have f3 := E1.out.tl.hd.frozen 2
  simp at a0 a1 a2 b0 b1 b2 f0 f1 f2 f3 p0 p1
  go_wp2
  all_goals first
    | (exfalso; omega)
    | (exfalso; simp_all; omega)
    | (refine bodyPost_ret (v := .tuple #[.agg #[.int .i64 inc, .int .i64 seq, .int .i64 d], .bool true, .int .i64 0]) (by simp [results, Tryz.results170, go_sem, b0, b1, b2, a0, a1, a2] <;> omega) rfl ⟨rfl, ?_⟩
       exact ((E1.out.bel.setCell (by simp) _).setCell (by simp) _).setCell (by simp) _)

set_option maxRecDepth 100000 in
set_option maxHeartbeats 1000000 in
theorem take_old (i s d inc seq : Int) (h : GateOk i s d) (hn : BeatNo inc seq) (hg : ¬ Newer i s inc seq) (m : Int) (hm : min (d + 1) 1073741824 = m) (w : World) :
    Calls Tryz.prog 170 #[.agg #[.int .i64 i, .int .i64 s, .int .i64 d], .int .i64 inc, .int .i64 seq] w fun e w' =>
      e = .returned (.tuple #[.agg #[.int .i64 i, .int .i64 s, .int .i64 m], .bool false, .int .i64 0]) ∧ Below w.heap.size w w' := by
  have H := Lib.hid h
  obtain ⟨n0, n1, n2, n3⟩ := hn
  have hg1 : inc ≤ i := by unfold Newer at hg; omega
  have hg2 : inc < i ∨ seq ≤ s := by unfold Newer at hg; omega
  have hd0 : 0 ≤ d := h.2.2.2.2.1
  have hd1 : d ≤ 1073741824 := h.2.2.2.2.2.1
  have E := Lib.hid (((Env.start w).lay #[.int .i64 i, .int .i64 s, .int .i64 d] 181).lay #[.int .i64 0, .int .i64 0, .int .i64 0] 181)
  clear h hg
  go_enter Tryz.func170, Tryz.ntmps170
  go_wp2_with fail
  refine (check_ok _ _ _ H.out _).mono ?_
  rintro e w1 ⟨rfl, hb1⟩
  have E1 := Lib.hid (E.out.below hb1)
  clear hb1
  have p0 := E1.out.hd.lt
  have p1 := E1.out.tl.hd.lt
  have b0 := E1.out.hd.cell 0
  have b1 := E1.out.hd.cell 1
  have b2 := E1.out.hd.cell 2
  have a0 := E1.out.tl.hd.cell 0
  have a1 := E1.out.tl.hd.cell 1
  have a2 := E1.out.tl.hd.cell 2
  have f0 := E1.out.hd.frozen 0
  have f1 := E1.out.hd.frozen 1
  have f2 := E1.out.hd.frozen 2
  have f3 := E1.out.tl.hd.frozen 2
  simp at a0 a1 a2 b0 b1 b2 f0 f1 f2 f3 p0 p1
  go_wp2
  all_goals first
    | (exfalso; omega)
    | (exfalso; simp_all; omega)
    | (refine bodyPost_ret (v := .tuple #[.agg #[.int .i64 i, .int .i64 s, .int .i64 m], .bool false, .int .i64 0]) (by simp [results, Tryz.results170, go_sem, b0, b1, b2, a0, a1, a2] <;> omega) rfl ⟨rfl, ?_⟩
       exact (((E1.out.bel.setCell (by simp) _).setCell (by simp) _).setCell (by simp) _).setCell (by simp) _)

theorem packed (i s inc seq : Int) (hs0 : 0 ≤ s) (hs1 : s ≤ 2147483647) (h2 : 1 ≤ seq) (h3 : seq ≤ 2147483647) : i * 2147483648 + s < inc * 2147483648 + seq ↔ Newer i s inc seq := by
  unfold Newer; omega







































end Go.Proofs.YthimchhnhhchkaaGreatDoor

namespace Go.Proofs.YthimchhnhhchkaaGreatDoor
open Go.RowKit
set_option linter.unusedSimpArgs false
set_option linter.unusedVariables false

def offI (c : Int) : Bool := !wi c 0 16777216
def listE (l : List Int) : Int := if 64 < l.length then 2 else if l.any offI then 1 else 0

set_option maxRecDepth 100000 in
theorem lval_any (x : Int) (w : World) :
    Calls Tryz.prog 132 #[.int .i64 x] w fun e w' => e = .returned (.bool (wi x 0 16777216)) ∧ w = w' := by
  unfold wi
  go_enter Tryz.func132, Tryz.ntmps132
  go_wp2
  all_goals (go_ret; simp [*] <;> omega)






set_option maxRecDepth 100000 in
theorem list1_any (c : Int) (w : World) :
    Calls Tryz.prog 131 #[.int .i64 c] w fun e w' => e = .returned (.bool (offI c)) ∧ w = w' := by
  unfold offI
  go_enter Tryz.func131, Tryz.ntmps131
  go_wp2_with (go_at_call 132; refine (lval_any _ _).mono ?_; rintro e w' ⟨rfl, rfl⟩)
  go_ret
  exact ⟨rfl, rfl⟩

set_option maxRecDepth 100000 in
set_option maxHeartbeats 400000 in
theorem idx_ints (A : Option Addr) (c B : Nat) (l : List Int) (hm : l.length ≤ 100000) (w : World) (hr : Reads w B 1 A l.length (cellsI l)) :
    Calls Tryz.prog 156 #[.slice A l.length c, .func (.func 131) #[] #[]] w (SomeIdxI (l.any offI) w) := by
  generalize hn : l.length = n at *
  have HN := Lib.hid hn
  have HC := Lib.hid hr
  clear hn hr
  by_cases hz : n = 0
  · have HZ := Lib.hid hz
    have hz' : n < 1 := by omega
    clear hz
    go_enter Tryz.func156, Tryz.ntmps156
    go_wp2
    go_loop [8] (fun i => i = .int .i64 0) (fun i => 0)
    case atStart => exact rfl
    case round =>
      subst hrel
      go_wp2
      go_ret
      refine ⟨-1, ?_, rfl, rfl⟩
      have : l = [] := List.eq_nil_of_length_eq_zero (by rw [HN.out, HZ.out])
      rw [this]; rfl
  · obtain ⟨b, off, rfl, hb, hcells⟩ := HC.out.addr (by omega)
    have HCC := Lib.hid hcells
    clear hcells hz
    go_enter Tryz.func156, Tryz.ntmps156
    go_wp2
    go_loop [5, 8] (fun _ i => ∃ k : Nat, k ≤ n ∧ i = .int .i64 k ∧ (l.take k).any offI = false) (fun _ i => n - (intOf i).toNat)
    case atStart => exact ⟨0, Nat.zero_le _, rfl, rfl⟩
    case round =>
      obtain ⟨k, hk, rfl, hrel⟩ := hrel
      have HR := Lib.hid hrel
      clear hrel
      by_cases hlt : k < n
      · have hcell := HCC.out k _ (cellsI_at l k (by rw [HN.out]; exact hlt))
        have HX := Lib.hid (anyI_step (by rw [HN.out]; exact hlt) HR.out)
        generalize hx : l.getD k 0 = x at *
        clear hx
        go_wp2_with (go_at_call 131; refine (list1_any _ _).mono ?_; rintro e w' ⟨rfl, rfl⟩)
        go_ways
        · rename_i ho
          go_ret
          exact ⟨k, by rw [anyI_take (HX.out.trans ho)]; simp, rfl, rfl⟩
        · rename_i ho
          refine ⟨⟨k + 1, hlt, by simp, HX.out.trans ho⟩, ?_⟩
          simp [intOf]
          omega
      · go_wp2
        go_ret
        refine ⟨-1, ?_, rfl, rfl⟩
        have : l.take k = l := by rw [List.take_of_length_le]; have := HN.out; omega
        have h2 := HR.out
        rw [this] at h2
        rw [h2]
        rfl

set_option maxRecDepth 100000 in
theorem contains_ints (A : Option Addr) (c B : Nat) (l : List Int) (hm : l.length ≤ 100000) (w : World) (hr : Reads w B 1 A l.length (cellsI l)) :
    Calls Tryz.prog 130 #[.slice A l.length c, .func (.func 131) #[] #[]] w fun e w' => e = .returned (.bool (l.any offI)) ∧ w = w' := by
  have HC := Lib.hid hr
  clear hr
  go_enter Tryz.func130, Tryz.ntmps130
  go_wp2_with fail
  refine (idx_ints _ _ _ _ hm _ HC.out).mono ?_
  rintro e w' ⟨k, hk, rfl, rfl⟩
  go_wp2
  go_ret
  first | exact ⟨rfl, rfl⟩ | exact ⟨ret_bool hk, rfl⟩

set_option maxRecDepth 100000 in
theorem wlist_any (A : Option Addr) (c B : Nat) (l : List Int) (hm : l.length ≤ maxLen) (w : World) (hr : Reads w B 1 A l.length (cellsI l)) :
    Calls Tryz.prog 102 #[.slice A l.length c] w fun e w' => e = .returned (.int .i64 (listE l)) ∧ w = w' := by
  have HC := Lib.hid hr
  clear hr
  unfold listE
  by_cases h : 64 < l.length
  · rw [if_pos h]
    go_enter Tryz.func102, Tryz.ntmps102
    go_wp2
    go_ret
    exact ⟨rfl, rfl⟩
  · rw [if_neg h]
    go_enter Tryz.func102, Tryz.ntmps102
    go_wp2_with fail
    refine (contains_ints _ _ _ _ (by omega) _ HC.out).mono ?_
    rintro e w' ⟨rfl, rfl⟩
    go_wp2
    all_goals (go_ret; exact ⟨ret_int (by simp [*]), rfl⟩)











































































end Go.Proofs.YthimchhnhhchkaaGreatDoor

namespace Go.Proofs.YthimchhnhhchkaaGreatDoor
open Go.RowKit
set_option linter.unusedSimpArgs false
set_option linter.unusedVariables false

theorem vals_of {l : List Int} (h : l.any offI = false) (j : Nat) (hj : j < l.length) : 0 ≤ l.getD j 0 ∧ l.getD j 0 ≤ 16777216 := by
  have h1 : offI (l.getD j 0) = false := by
    rw [List.any_eq_false] at h
    have := h (l.getD j 0) (by simp [List.getD, List.getElem?_eq_getElem hj])
    simpa using this
  unfold offI at h1
  exact wi_true.1 (by simpa using h1)
theorem listE_zero {l : List Int} (h : listE l = 0) : l.length ≤ 64 ∧ l.any offI = false := by
  unfold listE at h
  split at h
  · simp at h
  · split at h
    · simp at h
    · rename_i h1 h2; exact ⟨by omega, by simpa using h2⟩
theorem wlist_is (A : Option Addr) (c B : Nat) (l : List Int) (n : Nat) (hn : l.length = n) (e : Int) (h : listE l = e) (hm : n ≤ maxLen) (w : World) (hr : Reads w B 1 A n (cellsI l)) :
    Calls Tryz.prog 102 #[.slice A n c] w fun e' w' => e' = .returned (.int .i64 e) ∧ w = w' := by
  subst hn h; exact wlist_any A c B l hm w hr

end Go.Proofs.YthimchhnhhchkaaGreatDoor

namespace Go.Proofs.YthimchhnhhchkaaGreatDoor
open Go.RowKit
set_option linter.unusedSimpArgs false
set_option linter.unusedVariables false

def SumsArg (n s q : Int) : Prop := 0 ≤ n ∧ n ≤ 64 ∧ 0 ≤ s ∧ s ≤ n * 16777216 ∧ s ≤ q ∧ q ≤ s * 16777216
instance (n s q : Int) : Decidable (SumsArg n s q) := by unfold SumsArg; infer_instance
def sumsE (n s q : Int) : Int := if SumsArg n s q then (if n * q < s * s then 9 else 0) else 1

theorem SumsArg.bounds {n s q : Int} (h : SumsArg n s q) : s ≤ 1073741824 ∧ q ≤ 18014398509481984 ∧ 0 ≤ n * q ∧ n * q ≤ 1152921504606846976 ∧ 0 ≤ s * s ∧ s * s ≤ 1152921504606846976 := by
  obtain ⟨h0, h1, h2, h3, h4, h5⟩ := h
  have hs : s ≤ 1073741824 := by omega
  have hq : q ≤ 18014398509481984 := by omega
  have hq0 : 0 ≤ q := by omega
  refine ⟨hs, hq, Int.mul_nonneg h0 hq0, ?_, Int.mul_nonneg h2 h2, ?_⟩
  · have := Int.mul_le_mul h1 hq hq0 (by omega : (0 : Int) ≤ 64)
    omega
  · have := Int.mul_le_mul hs hs h2 (by omega : (0 : Int) ≤ 1073741824)
    omega

set_option maxRecDepth 100000 in
theorem wval_any (x : Int) (w : World) :
    Calls Tryz.prog 132 #[.int .i64 x] w fun e w' => e = .returned (.bool (wi x 0 16777216)) ∧ w = w' := by
  unfold wi
  go_enter Tryz.func132, Tryz.ntmps132
  go_wp2
  all_goals (go_ret; simp [*] <;> omega)







set_option maxRecDepth 100000 in
set_option maxHeartbeats 1000000 in
theorem stat_check_bad (n s q : Int) (h : ¬ SumsArg n s q) (w : World) :
    Calls Tryz.prog 101 #[.agg #[.int .i64 n, .int .i64 s, .int .i64 q]] w fun e w' => e = .returned (.int .i64 1) ∧ Below w.heap.size w w' := by
  have h' : n < 0 ∨ 64 < n ∨ s < 0 ∨ q < 0 ∨ n * 16777216 < s ∨ s * 16777216 < q ∨ q < s := by unfold SumsArg at h; omega
  clear h
  go_enter Tryz.func101, Tryz.ntmps101
  go_wp2
  all_goals first
    | (exfalso; omega)
    | (go_ret; exact ⟨rfl, (Below.refl _ _).alloc (Nat.le_refl _) _⟩)

set_option maxRecDepth 100000 in
set_option maxHeartbeats 1000000 in
theorem stat_check_good (n s q : Int) (h : SumsArg n s q) (w : World) :
    Calls Tryz.prog 101 #[.agg #[.int .i64 n, .int .i64 s, .int .i64 q]] w fun e w' => e = .returned (.int .i64 (if n * q < s * s then 9 else 0)) ∧ Below w.heap.size w w' := by
  obtain ⟨b1, b2, b3, b4, b5, b6⟩ := h.bounds
  obtain ⟨h0, h1, h2, h3, h4, h5⟩ := h
  go_enter Tryz.func101, Tryz.ntmps101
  go_wp2
  all_goals first
    | (exfalso; omega)
    | (go_ret; exact ⟨ret_int (by simp [*] <;> omega), (Below.refl _ _).alloc (Nat.le_refl _) _⟩)

theorem stat_check (n s q : Int) (w : World) :
    Calls Tryz.prog 101 #[.agg #[.int .i64 n, .int .i64 s, .int .i64 q]] w fun e w' => e = .returned (.int .i64 (sumsE n s q)) ∧ Below w.heap.size w w' := by
  unfold sumsE
  by_cases h : SumsArg n s q
  · rw [if_pos h]; exact stat_check_good n s q h w
  · rw [if_neg h]; exact stat_check_bad n s q h w

theorem sumsE_zero {n s q : Int} (h : sumsE n s q = 0) : SumsArg n s q ∧ ¬ n * q < s * s := by
  unfold sumsE at h
  split at h
  · split at h
    · simp at h
    · exact ⟨by assumption, by assumption⟩
  · simp at h
theorem check_is (n s q e : Int) (h : sumsE n s q = e) (w : World) :
    Calls Tryz.prog 101 #[.agg #[.int .i64 n, .int .i64 s, .int .i64 q]] w fun e' w' => e' = .returned (.int .i64 e) ∧ Below w.heap.size w w' := by
  subst h; exact stat_check n s q w
theorem wval_d (x : Int) (b : Bool) (h : wi x 0 16777216 = b) (w : World) :
    Calls Tryz.prog 132 #[.int .i64 x] w fun e w' => e = .returned (.bool b) ∧ w = w' := by
  subst h; exact wval_any x w



theorem sq_bounds {v : Int} (h : wi v 0 16777216 = true) : 0 ≤ v ∧ v ≤ 16777216 ∧ 0 ≤ v * v ∧ v * v ≤ 281474976710656 := by
  obtain ⟨h0, h1⟩ := wi_true.1 h
  refine ⟨h0, h1, Int.mul_nonneg h0 h0, ?_⟩
  have := Int.mul_le_mul h1 h1 h0 (by omega : (0 : Int) ≤ 16777216)
  omega
end Go.Proofs.YthimchhnhhchkaaGreatDoor

namespace Go.Proofs.YthimchhnhhchkaaGreatDoor
open Go.RowKit
set_option linter.unusedSimpArgs false
set_option linter.unusedVariables false

set_option maxRecDepth 100000 in
set_option maxHeartbeats 1000000 in
theorem spread_err (n s q : Int) (e : Int) (he : sumsE n s q = e) (hn : e ≠ 0) (w : World) :
    Calls Tryz.prog 55 #[.agg #[.int .i64 n, .int .i64 s, .int .i64 q]] w fun e' w' => e' = .returned (.tuple #[.int .i64 (0), .int .i64 e]) ∧ Below w.heap.size w w' := by
  have HE := Lib.hid he
  clear he
  have E := Lib.hid ((Env.start w).lay #[.int .i64 n, .int .i64 s, .int .i64 q] 87)
  go_enter Tryz.func55, Tryz.ntmps55
  go_wp2_with fail
  refine (check_is _ _ _ _ HE.out _).mono ?_
  rintro e' w1 ⟨rfl, hb1⟩
  have E1 := Lib.hid (E.out.below hb1)
  clear hb1
  have p0 := E1.out.hd.lt
  have a0 := E1.out.hd.cell 0
  have a1 := E1.out.hd.cell 1
  have a2 := E1.out.hd.cell 2
  simp at a0 a1 a2 p0
  go_wp2
  refine bodyPost_ret (v := .tuple #[.int .i64 (0), .int .i64 e]) (by simp [results, Tryz.results55, go_sem] <;> omega) rfl ⟨rfl, E1.out.bel⟩

set_option maxRecDepth 100000 in
set_option maxHeartbeats 1000000 in
theorem spread_ok (n s q : Int) (he : sumsE n s q = 0) (w : World) :
    Calls Tryz.prog 55 #[.agg #[.int .i64 n, .int .i64 s, .int .i64 q]] w fun e' w' => e' = .returned (.tuple #[.int .i64 (n * q - s * s), .int .i64 0]) ∧ Below w.heap.size w w' := by
  have HE := Lib.hid he
  clear he
  obtain ⟨b1, b2, b3, b4, b5, b6⟩ := (sumsE_zero HE.out).1.bounds
  obtain ⟨h0, h1, h2, h3, h4, h5⟩ := (sumsE_zero HE.out).1
  have E := Lib.hid ((Env.start w).lay #[.int .i64 n, .int .i64 s, .int .i64 q] 87)
  go_enter Tryz.func55, Tryz.ntmps55
  go_wp2_with fail
  refine (check_is _ _ _ _ HE.out _).mono ?_
  rintro e' w1 ⟨rfl, hb1⟩
  have E1 := Lib.hid (E.out.below hb1)
  clear hb1
  have p0 := E1.out.hd.lt
  have a0 := E1.out.hd.cell 0
  have a1 := E1.out.hd.cell 1
  have a2 := E1.out.hd.cell 2
  simp at a0 a1 a2 p0
  go_wp2
  refine bodyPost_ret (v := .tuple #[.int .i64 (n * q - s * s), .int .i64 0]) (by simp [results, Tryz.results55, go_sem] <;> omega) rfl ⟨rfl, E1.out.bel⟩












end Go.Proofs.YthimchhnhhchkaaGreatDoor

namespace Go.Proofs.YthimchhnhhchkaaGreatDoor
open Go.RowKit
set_option linter.unusedSimpArgs false
set_option linter.unusedVariables false

def s1 : List Int → Int | [] => 0 | x :: l => s1 l + x
def s2 : List Int → Int | [] => 0 | x :: l => s2 l + x * x
theorem s1_snoc (l : List Int) (x : Int) : s1 (l ++ [x]) = s1 l + x := by
  induction l with
  | nil => simp [s1]
  | cons y l ih => simp [s1, ih]; omega
theorem s2_snoc (l : List Int) (x : Int) : s2 (l ++ [x]) = s2 l + x * x := by
  induction l with
  | nil => simp [s2]
  | cons y l ih => simp [s2, ih]; omega
theorem s_bd (l : List Int) (h : l.any offI = false) : 0 ≤ s1 l ∧ s1 l ≤ l.length * 16777216 ∧ 0 ≤ s2 l ∧ s2 l ≤ l.length * 281474976710656 := by
  induction l with
  | nil => simp [s1, s2]
  | cons x l ih =>
    simp only [List.any_cons, Bool.or_eq_false_iff] at h
    obtain ⟨i0, i1, i2, i3⟩ := ih h.2
    have hx : wi x 0 16777216 = true := by have := h.1; unfold offI at this; simpa using this
    obtain ⟨x0, x1⟩ := wi_true.1 hx
    have y0 := Int.mul_nonneg x0 x0
    have y1 := Int.mul_le_mul x1 x1 x0 (by omega : (0 : Int) ≤ 16777216)
    simp only [s1, s2, List.length_cons]
    refine ⟨by omega, by omega, by omega, by omega⟩
theorem take_next (l : List Int) (k : Nat) (h : k < l.length) : l.take (k + 1) = l.take k ++ [l.getD k 0] := by
  rw [List.take_add_one, List.getElem?_eq_getElem h]
  simp [List.getD, List.getElem?_eq_getElem h]
theorem off_take {l : List Int} (h : l.any offI = false) (k : Nat) : (l.take k).any offI = false := by
  rw [List.any_eq_false] at h ⊢
  exact fun x hx => h x (List.mem_of_mem_take hx)
def t1 (l : List Int) (k : Nat) : Int := s1 (l.take k)
def t2 (l : List Int) (k : Nat) : Int := s2 (l.take k)
theorem t_succ (l : List Int) (k : Nat) (h : k < l.length) : t1 l (k + 1) = t1 l k + l.getD k 0 ∧ t2 l (k + 1) = t2 l k + l.getD k 0 * l.getD k 0 := by
  unfold t1 t2
  rw [take_next l k h, s1_snoc, s2_snoc]
  exact ⟨rfl, rfl⟩
theorem t_bd (l : List Int) (k : Nat) (h : l.any offI = false) (h64 : l.length ≤ 64) : 0 ≤ t1 l k ∧ t1 l k ≤ 1073741824 ∧ 0 ≤ t2 l k ∧ t2 l k ≤ 18014398509481984 := by
  obtain ⟨a, b, c, d⟩ := s_bd (l.take k) (off_take h k)
  have : (l.take k).length ≤ 64 := by rw [List.length_take]; omega
  unfold t1 t2
  refine ⟨a, by omega, c, by omega⟩
theorem t_all (l : List Int) : t1 l l.length = s1 l ∧ t2 l l.length = s2 l := by unfold t1 t2; rw [List.take_length]; exact ⟨rfl, rfl⟩

theorem Env.set_hd {w0 W : World} {l : List (Nat × TypeId × Array Value)} {g : Nat} {t : TypeId} {cs : Array Value} (h : Env w0 W ((g, t, cs) :: l)) (hd : ∀ x ∈ l, x.1 ≠ g) (i : Nat) (u : Value) :
    Env w0 (W.setCell ⟨g, i, none⟩ u) ((g, t, cs.setIfInBounds i u) :: l) := by
  have hg := (h.2 _ (List.mem_cons_self ..)).1
  refine ⟨h.1.setCell hg _, fun x hx => ?_⟩
  rcases List.mem_cons.1 hx with rfl | hx
  · exact ⟨hg, h.hd.set_ i u⟩
  · have := h.2 x (List.mem_cons_of_mem _ hx)
    exact ⟨this.1, this.2.far (p := ⟨g, i, none⟩) (hd x hx) u⟩

end Go.Proofs.YthimchhnhhchkaaGreatDoor

namespace Go.Proofs.YthimchhnhhchkaaGreatDoor
open Go.RowKit
set_option linter.unusedSimpArgs false
set_option linter.unusedVariables false

def winE (cap : Int) (l : List Int) : Int := if wi cap 1 64 = true then (if cap < (l.length : Int) then 2 else listE l) else 1
theorem winE_zero {cap : Int} {l : List Int} (h : winE cap l = 0) : 1 ≤ cap ∧ cap ≤ 64 ∧ (l.length : Int) ≤ cap ∧ listE l = 0 := by
  unfold winE at h
  split at h
  · rename_i h1
    obtain ⟨a, b⟩ := wi_true.1 h1
    split at h
    · simp at h
    · exact ⟨a, b, by omega, h⟩
  · simp at h




set_option maxRecDepth 100000 in
set_option maxHeartbeats 1000000 in
theorem wchk_is (cap : Int) (A : Option Addr) (c B n : Nat) (l : List Int) (hn : l.length = n) (e : Int) (he : winE cap l = e) (hm : n ≤ maxLen) (w : World) (hr : Reads w B 1 A n (cellsI l)) (hB : B ≤ w.heap.size) :
    Calls Tryz.prog 137 #[.agg #[.int .i64 cap, .slice A n c]] w fun e' w' => e' = .returned (.int .i64 e) ∧ Below w.heap.size w w' := by
  subst he hn
  unfold winE
  have HC := Lib.hid (hr.alloc hB (.cells #[.int .i64 cap, .slice A l.length c] 97))
  clear hr hB
  by_cases h1 : wi cap 1 64 = true
  · rw [if_pos h1]
    obtain ⟨c0, c1⟩ := wi_true.1 h1
    clear h1
    by_cases h2 : cap < (l.length : Int)
    · rw [if_pos h2]
      generalize l.length = n at *
      go_enter Tryz.func137, Tryz.ntmps137
      go_wp2
      go_ret
      exact ⟨rfl, (Below.refl _ _).alloc (Nat.le_refl _) _⟩
    · rw [if_neg h2]
      have h3 : (l.length : Int) ≤ cap := by omega
      clear h2
      generalize hn : l.length = n at *
      have HN := Lib.hid hn
      generalize he : listE l = e
      have HE := Lib.hid he
      clear hn he
      go_enter Tryz.func137, Tryz.ntmps137
      go_wp2_with fail
      refine (wlist_is _ _ _ l n HN.out _ HE.out (by omega) _ HC.out).mono ?_
      rintro e' w' ⟨rfl, rfl⟩
      go_wp2
      go_ret
      exact ⟨rfl, (Below.refl _ _).alloc (Nat.le_refl _) _⟩
  · rw [if_neg h1]
    have h2 : cap < 1 ∨ 64 < cap := by
      have := wi_false.1 (by simpa using h1)
      exact this
    clear h1
    generalize l.length = n at *
    go_enter Tryz.func137, Tryz.ntmps137
    go_wp2
    all_goals first
      | (exfalso; omega)
      | (go_ret; exact ⟨rfl, (Below.refl _ _).alloc (Nat.le_refl _) _⟩)









































end Go.Proofs.YthimchhnhhchkaaGreatDoor
