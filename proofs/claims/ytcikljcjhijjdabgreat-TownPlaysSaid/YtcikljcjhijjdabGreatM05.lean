/- What the walks of this seat import; the two words of a number. (with what it needs) -/
import Derived.Test.YtcikljcjhijjdabGreatM03
import Derived.Test.YtcikljcjhijjdabGreatM01
import Derived.RegionTactic
import Derived.ChangeAlike
import Derived.BigQuiet
import Derived.Deep.QuietTactic
import Derived.WalkSpells
import Derived.WalkLawsBesides
import Derived.Outline
import Derived.LoopTactic
import Derived.Deep.RegionHeld3
namespace Go.Proofs.YtcikljcjhijjdabGreat
open Go.RowKit
set_option linter.unusedSimpArgs false
set_option linter.unusedVariables false

/-- the slots of a Wide of the number n -/
def hiN (n : Nat) : Int := ((n / 18446744073709551616 : Nat) : Int)
def loN (n : Nat) : Int := ((n % 18446744073709551616 : Nat) : Int)

theorem hiN_half (m : Nat) : hiN m / 2 = hiN (m / 2) := by unfold hiN; omega
theorem loN_half (m : Nat) : loN m / 2 + hiN m % 2 * 9223372036854775808 = loN (m / 2) := by unfold hiN loN; omega
theorem loN_odd (m : Nat) : (loN m % 2 == 1) = (m % 2 == 1) := by
  rw [Bool.eq_iff_iff, beq_iff_eq, beq_iff_eq]; unfold loN; omega
theorem zero_of_words {m : Nat} (h : hiN m = 0) (h' : loN m = 0) : m = 0 := by unfold hiN at h; unfold loN at h'; omega
theorem hiN_bd (m : Nat) (h : m < 2 ^ 128) : 0 ≤ hiN m ∧ hiN m ≤ 18446744073709551615 := by unfold hiN; omega
theorem loN_bd (m : Nat) : 0 ≤ loN m ∧ loN m ≤ 18446744073709551615 := by unfold loN; omega

end Go.Proofs.YtcikljcjhijjdabGreat

namespace Go.Proofs.YtcikljcjhijjdabGreat
open Go.RowKit
set_option linter.unusedSimpArgs false
set_option linter.unusedVariables false

def cellsI (l : List Int) : List Value := l.map fun x => .int .i64 x
theorem cellsI_at (l : List Int) (k : Nat) (h : k < l.length) : (cellsI l)[k]? = some (.int .i64 (l.getD k 0)) := by
  simp [cellsI, List.getD, List.getElem?_eq_getElem h]

theorem anyI_take {p : Int → Bool} {xs : List Int} {j : Nat} (h : (xs.take j).any p = true) : xs.any p = true := by
  rw [List.any_eq_true] at h ⊢
  obtain ⟨x, hx, hp⟩ := h
  exact ⟨x, List.mem_of_mem_take hx, hp⟩
theorem anyI_step {p : Int → Bool} {xs : List Int} {k : Nat} (hk : k < xs.length) (h : (xs.take k).any p = false) : (xs.take (k + 1)).any p = p (xs.getD k 0) := by
  rw [List.take_add_one, List.any_append, h, List.getElem?_eq_getElem hk]
  simp [List.getD_eq_getElem?_getD, hk]

def SomeIdxI (b : Bool) (w : World) (e : Ending) (w' : World) : Prop := ∃ k : Int, (decide (0 ≤ k) = b) ∧ e = .returned (.int .i64 k) ∧ w = w'

end Go.Proofs.YtcikljcjhijjdabGreat

namespace Go.Proofs.YtcikljcjhijjdabGreat
open Go.RowKit
set_option linter.unusedSimpArgs false
set_option linter.unusedVariables false

theorem Tryz.info4 : (Tryz.prog.info? 4).map (fun i => (i.zero, i.size, i.bytes)) = some (some (.bool false), 1, 1) := by kernel_rfl

/-- A new list of bits of the call's own, of which p is known. -/
def NewBits (p : List Bool → Prop) (w : World) (e : Ending) (w' : World) : Prop :=
  ∃ A c l, e = .returned (.slice A l.length c) ∧ p l ∧ w'.ownsRow w.heap.size 4 1 (.slice A l.length c) l.length (l.map Value.bool) ∧ Below w.heap.size w w'

end Go.Proofs.YtcikljcjhijjdabGreat

namespace Go.Proofs.YtcikljcjhijjdabGreat
open Go.RowKit
set_option linter.unusedSimpArgs false
set_option linter.unusedVariables false

set_option maxHeartbeats 800000 in
set_option maxRecDepth 100000 in
theorem bits_any (n : Nat) (hn : n < 2 ^ 128) (w : World) :
    Calls Tryz.prog 63 #[.agg #[.int .u64 (hiN n), .int .u64 (loN n)]] w (NewBits (fun l => l = Bt.bits n) w) := by
  obtain ⟨i0, hi, hz0, hz1, hz2⟩ := info_parts Tryz.info4
  go_enter Tryz.func63, Tryz.ntmps63
  go_wp2
  go_loopw [3] (fun v wr => ∃ (m : Nat) (l : List Bool), m < 2 ^ 128 ∧ wr.ownsRow (w.heap.size + 1) 4 1 v l.length (l.map Value.bool) ∧ Blk wr w.heap.size 121 #[.int .u64 (hiN m), .int .u64 (loN m)] ∧ Below w.heap.size w wr ∧ l ++ Bt.bits m = Bt.bits n)
    (fun v _ => 200 - lenOf v)
  case atStart => exact ⟨n, [], hn, World.ownsRow_nil _ _ _ _, Blk.new _ _ _, (Below.refl _ _).alloc (Nat.le_refl _) _, rfl⟩
  case round =>
    obtain ⟨m, l, hm, hown, hblk, hbel, hl⟩ := hrel
    have c0 := hblk.cell 0
    have c1 := hblk.cell 1
    simp at c0 c1
    have f0 := hblk.frozen 0
    have f1 := hblk.frozen 1
    have hsz := hblk.lt
    have HM := Lib.hid hm
    have HL := Lib.hid hl
    have g0 : 0 ≤ hiN m := by unfold hiN; omega
    have g1 : 0 ≤ loN m := by unfold loN; omega
    have g2 : loN m ≤ 18446744073709551615 := by unfold loN; omega
    have g3 : hiN m ≤ 18446744073709551615 := by unfold hiN; omega
    have hlen : l.length ≤ 128 := by
      have := congrArg List.length hl
      have h2 := Bt.len_bits n
      have h3 := Bt.blen_le hn
      simp at this; omega
    clear hm hl hn
    by_cases h0 : hiN m = 0 ∧ loN m = 0
    · obtain ⟨h1, h2⟩ := h0
      go_wp2
      go_ret
      have hm0 := zero_of_words h1 h2
      subst hm0
      have e := HL.out
      rw [Bt.bits_zero, List.append_nil] at e
      obtain ⟨A, c, hv⟩ := ownsRow_len hown
      subst hv
      exact ⟨A, c, l, rfl, e, ownsRow_base hown (by omega), hbel⟩
    · have hcase : ((hiN m == 0) = true ∧ (loN m == 0) = false) ∨ (hiN m == 0) = false := by
        by_cases h1 : hiN m = 0
        · left; simp [h1]; intro h2; exact h0 ⟨h1, h2⟩
        · right; simpa using h1
      clear h0
      rcases hcase with ⟨t1, t2⟩ | t1
      all_goals
        go_wp2_with (at_builtin; refine wpList_app1 _ rfl _ _ 60 rfl (w.heap.size + 1) 4 i0 (.bool false) 1 Tryz.underlying60 hi hz0 hz1 hz2 rfl _ _ _ rfl hown _ _ rfl rfl ?c1 ?c2 ?c3 ?_)
        case c1 => omega
        case c2 => unfold maxLen; omega
        case c3 => omega
        intro v' w1 hown1 hb1
        have hblk1 := hblk.below hb1 (by omega)
        have d0 := hblk1.cell 0
        have d1 := hblk1.cell 1
        simp at d0 d1
        have e0 := hblk1.frozen 0
        have e1 := hblk1.frozen 1
        clear c0 c1 f0 f1
        go_wp2
        go_roundw
        case rel =>
          have hmp : 0 < m := by
            rcases Nat.eq_zero_or_pos m with h | h
            · subst h; simp [hiN, loN] at *
            · exact h
          refine ⟨m / 2, l ++ [m % 2 == 1], ?_, ?_, ?_, ?_, ?_⟩
          · have := HM.out; omega
          · have h2 := ownsRow_setCell (ownsRow_setCell hown1 (a := ⟨w.heap.size, 1, none⟩) (by simp) (Value.int .u64 (loN (m / 2)))) (a := ⟨w.heap.size, 0, none⟩) (by simp) (Value.int .u64 (hiN (m / 2)))
            rw [loN_half, hiN_half, List.length_append, List.map_append, ← loN_odd]
            exact h2
          · have h2 := (hblk1.set_ 1 (Value.int .u64 (loN (m / 2)))).set_ 0 (Value.int .u64 (hiN (m / 2)))
            rw [loN_half, hiN_half]
            exact h2
          · exact ((hbel.trans (hb1.mono (by omega))).setCell (by simp) _).setCell (by simp) _
          · rw [← HL.out, Bt.bits_pos m hmp]; simp
        case measure =>
          obtain ⟨A, c, hv⟩ := ownsRow_len hown
          obtain ⟨A', c', hv'⟩ := ownsRow_len hown1
          rw [hv, hv']; simp [lenOf]; omega

end Go.Proofs.YtcikljcjhijjdabGreat

namespace Go.Proofs.YtcikljcjhijjdabGreat
open Go.RowKit
set_option linter.unusedSimpArgs false
set_option linter.unusedVariables false

set_option maxRecDepth 100000 in
theorem bit_any (A : Option Addr) (l : List Bool) (c B : Nat) (w : World) (h : Reads w B 1 A l.length (l.map Value.bool)) (i : Int) (h0 : 0 ≤ i) :
    Calls Tryz.prog 100 #[.slice A l.length c, .int .i64 i] w fun e w' => e = .returned (.int .i64 (Bt.bit l i.toNat)) ∧ w = w' := by
  obtain ⟨k, rfl⟩ := Int.eq_ofNat_of_zero_le h0
  rw [Int.toNat_natCast]
  by_cases hk : k < l.length
  · obtain ⟨b, off, rfl, hb, hc⟩ := h.addr (by omega)
    have hcell := hc k (.bool l[k]) (by simp [hk])
    have hv := Bt.bit_at l k hk
    clear hc h
    by_cases hbk : l[k] = true
    · rw [hbk] at hcell hv
      have HV := Lib.hid hv
      clear hv hbk
      go_enter Tryz.func100, Tryz.ntmps100
      go_wp2
      go_ret
      exact ⟨ret_int (by rw [HV.out]; rfl), rfl⟩
    · have hbk' : l[k] = false := by simpa using hbk
      rw [hbk'] at hcell hv
      have HV := Lib.hid hv
      clear hv hbk hbk'
      go_enter Tryz.func100, Tryz.ntmps100
      go_wp2
      go_ret
      exact ⟨ret_int (by rw [HV.out]; rfl), rfl⟩
  · have HV := Lib.hid (Bt.bit_past l k (by omega))
    clear h
    go_enter Tryz.func100, Tryz.ntmps100
    go_wp2
    go_ret
    exact ⟨ret_int (by rw [HV.out]; rfl), rfl⟩

end Go.Proofs.YtcikljcjhijjdabGreat

namespace Go.Proofs.YtcikljcjhijjdabGreat
open Go.RowKit
set_option linter.unusedSimpArgs false
set_option linter.unusedVariables false

def PlusIs (la lb l : List Bool) : Prop :=
  Bt.val l = Bt.val la + Bt.val lb ∧ max la.length lb.length ≤ l.length ∧ l.length ≤ max la.length lb.length + 1 ∧ (l.length = max la.length lb.length + 1 → 2 ^ max la.length lb.length ≤ Bt.val l)

def PlusRel (la lb : List Bool) (w : World) (v : Value) (k c : Nat) (wr : World) : Prop :=
  ∃ l : List Bool, l.length = k ∧ c ≤ 1 ∧ k ≤ max la.length lb.length + 1 ∧ (k = max la.length lb.length + 1 → c = 0 ∧ 2 ^ max la.length lb.length ≤ Bt.val l) ∧
    Bt.val l + 2 ^ k * (c + Bt.val (la.drop k) + Bt.val (lb.drop k)) = Bt.val la + Bt.val lb ∧ wr.ownsRow w.heap.size 4 1 v k (l.map Value.bool) ∧ Below w.heap.size w wr

theorem plus_step (la lb : List Bool) (w wr w1 : World) (u v' : Value) (k c : Nat) (h : PlusRel la lb w u k c wr) (hgo : k < max la.length lb.length ∨ 0 < c)
    (hown : w1.ownsRow w.heap.size 4 1 v' (k + 1) ((Classical.choose h).map Value.bool ++ [Value.bool (((Bt.bit la k : Int) + (Bt.bit lb k : Int) + (c : Int)) % 2 == 1)]))
    (hbel : Below w.heap.size wr w1) : PlusRel la lb w v' (k + 1) ((Bt.bit la k + Bt.bit lb k + c) / 2) w1 := by
  obtain ⟨hlk, hc1, hk1, hk2, hval, hown0, hb⟩ := Classical.choose_spec h
  generalize Classical.choose h = l at *
  have hka := Bt.bit_le la k
  have hkb := Bt.bit_le lb k
  have hda := Bt.val_drop la k
  have hdb := Bt.val_drop lb k
  have hpa := fun hx => Bt.bit_past la k hx
  have hpb := fun hx => Bt.bit_past lb k hx
  have hkm : k ≤ max la.length lb.length := by
    rcases Nat.lt_or_ge (max la.length lb.length) k with hx | hx
    · have := (hk2 (by omega)).1; omega
    · exact hx
  have hbit : (((Bt.bit la k : Int) + (Bt.bit lb k : Int) + (c : Int)) % 2 == 1) = ((Bt.bit la k + Bt.bit lb k + c) % 2 == 1) := by
    rw [Bool.eq_iff_iff, beq_iff_eq, beq_iff_eq]; omega
  have hto : ((Bt.bit la k + Bt.bit lb k + c) % 2 == 1).toNat = (Bt.bit la k + Bt.bit lb k + c) % 2 := by
    rcases Nat.mod_two_eq_zero_or_one (Bt.bit la k + Bt.bit lb k + c) with e | e <;> simp [e]
  have hvl : Bt.val (l ++ [(Bt.bit la k + Bt.bit lb k + c) % 2 == 1]) = Bt.val l + 2 ^ k * ((Bt.bit la k + Bt.bit lb k + c) % 2) := by
    rw [Bt.val_append, hlk]; simp [hto]
  refine ⟨l ++ [(Bt.bit la k + Bt.bit lb k + c) % 2 == 1], by simp [hlk], by omega, by omega, fun hm => ?_, ?_, ?_, hb.trans hbel⟩
  · have e1 : k = max la.length lb.length := by omega
    have h1 := hpa (by omega)
    have h2 := hpb (by omega)
    have h3 : c = 1 := by omega
    rw [h1, h2, h3] at hvl ⊢
    refine ⟨by omega, ?_⟩
    rw [hvl, ← e1]; simp
  · rw [hvl, ← hval, hda, hdb, Nat.add_assoc]
    congr 1
    rw [Nat.pow_succ, Nat.mul_assoc, ← Nat.mul_add]
    congr 1
    omega
  · rw [hbit] at hown
    rw [List.map_append]
    exact hown

theorem plus_done (la lb : List Bool) (w wr : World) (u : Value) (k c : Nat) (h : PlusRel la lb w u k c wr) (hk : max la.length lb.length ≤ k) (hc : c = 0) :
    NewBits (PlusIs la lb) w (.returned u) wr := by
  obtain ⟨l, hlk, hc1, hk1, hk2, hval, hown, hb⟩ := h
  obtain ⟨A, cc, hv⟩ := ownsRow_len hown
  subst hv hlk hc
  rw [List.drop_eq_nil_of_le (by omega), List.drop_eq_nil_of_le (by omega)] at hval
  exact ⟨A, cc, l, rfl, ⟨by simpa using hval, by omega, by omega, fun e => (hk2 e).2⟩, hown, hb⟩

set_option maxHeartbeats 1600000 in
set_option maxRecDepth 100000 in
theorem plus_any (A B : Option Addr) (la lb : List Bool) (ca cb : Nat) (w : World) (ha : Reads w w.heap.size 1 A la.length (la.map Value.bool)) (hb : Reads w w.heap.size 1 B lb.length (lb.map Value.bool))
    (la1 : la.length ≤ 1000000) (lb1 : lb.length ≤ 1000000) :
    Calls Tryz.prog 66 #[.slice A la.length ca, .slice B lb.length cb] w (NewBits (PlusIs la lb) w) := by
  obtain ⟨i0, hi, hz0, hz1, hz2⟩ := info_parts Tryz.info4
  go_enter Tryz.func66, Tryz.ntmps66
  go_wp2
  go_loopw [5, 6, 7] (fun v cv iv wr => ∃ (k c : Nat), iv = .int .i64 k ∧ cv = .int .i64 c ∧ PlusRel la lb w v k c wr) (fun _ _ iv _ => max la.length lb.length + 2 - (intOf iv).toNat)
  case atStart => exact ⟨0, 0, rfl, rfl, [], rfl, by omega, by omega, by omega, by simp, World.ownsRow_nil _ _ _ _, Below.refl _ _⟩
  case round =>
    obtain ⟨k, c, rfl, rfl, hr⟩ := hrel
    have HR := Lib.hid hr
    have hc1 : c ≤ 1 := (Classical.choose_spec hr).2.1
    have hk1 : k ≤ max la.length lb.length + 1 := (Classical.choose_spec hr).2.2.1
    have hown := (Classical.choose_spec hr).2.2.2.2.2.1
    have hbel := (Classical.choose_spec hr).2.2.2.2.2.2
    have RA := Lib.hid (ha.below hbel (Nat.le_refl _))
    have RB := Lib.hid (hb.below hbel (Nat.le_refl _))
    have hsz := hbel.size
    have ba := Bt.bit_le la k
    have bb := Bt.bit_le lb k
    generalize hlx : (Classical.choose hr).map Value.bool = lx at *
    have HLX := Lib.hid hlx
    have HB := Lib.hid hbel
    clear ha hb hlx hbel
    have hgo : (k < max la.length lb.length ∨ 0 < c) ∨ (max la.length lb.length ≤ k ∧ c ≤ 0) := by omega
    rcases hgo with hgo | ⟨hge, hc0⟩
    · rcases Nat.lt_or_ge la.length lb.length with ho | ho
      all_goals
        go_wp2_with fail
        all_goals
          refine (bit_any A la ca _ _ RA.out _ (by omega)).mono ?_
          rintro e w' ⟨rfl, rfl⟩
          go_wp2_with fail
          refine (bit_any B lb cb _ _ RB.out _ (by omega)).mono ?_
          rintro e w' ⟨rfl, rfl⟩
          go_wp2_with (at_builtin; refine wpList_app1 _ rfl _ _ 60 rfl w.heap.size 4 i0 (.bool false) 1 Tryz.underlying60 hi hz0 hz1 hz2 rfl _ _ _ rfl hown _ _ rfl rfl ?c1 ?c2 ?c3 ?_)
          case c1 => omega
          case c2 => unfold maxLen; omega
          case c3 => omega
          intro v' w1 hown1 hb1
          go_wp2
          go_roundw
          case rel =>
            refine ⟨k + 1, (Bt.bit la k + Bt.bit lb k + c) / 2, by go_num, by congr 1, plus_step la lb w wr w1 _ v' k c hr hgo ?_ hb1⟩
            rw [HLX.out]; exact hown1
          case measure => simp [intOf]; omega
    · rcases Nat.lt_or_ge la.length lb.length with ho | ho
      all_goals
        go_wp2
        go_ret
        exact plus_done la lb w _ _ k c HR.out hge (by omega)

end Go.Proofs.YtcikljcjhijjdabGreat

namespace Go.Proofs.YtcikljcjhijjdabGreat
open Go.RowKit
set_option linter.unusedSimpArgs false
set_option linter.unusedVariables false

def NumRel (l : List Bool) (w : World) (k : Nat) (wr : World) : Prop :=
  k ≤ l.length ∧ Bt.val (l.take k) < 2 ^ 128 ∧ Blk wr (w.heap.size + 1) 121 #[.int .u64 (hiN (Bt.val (l.take k))), .int .u64 (loN (Bt.val (l.take k)))] ∧
    Blk wr w.heap.size 121 #[.int .u64 0, .int .u64 0] ∧ Below w.heap.size w wr

theorem num_hi (m k : Nat) (h : m < 2 ^ k) (h1 : 63 < k) (h2 : k ≤ 127) :
    IntKind.u64.wrap (hiN m + IntKind.u64.wrap (2 ^ (k - 64))) = hiN (m + 2 ^ k) ∧ loN m = loN (m + 2 ^ k) := by
  obtain ⟨j, rfl⟩ : ∃ j, k = j + 64 := ⟨k - 64, by omega⟩
  have e1 : 2 ^ (j + 64) = 2 ^ j * 18446744073709551616 := by rw [Nat.pow_add]
  have e2 : 2 ^ j ≤ 2 ^ 63 := Bt.pow_le_pow (by omega)
  rw [e1] at h ⊢
  rw [Nat.add_sub_cancel]
  have e3 : ((2 : Int) ^ j) = ((2 ^ j : Nat) : Int) := by simp
  rw [e3]
  generalize 2 ^ j = q at *
  rw [IntWalk.u64_in (q : Int) (by omega), IntWalk.u64_in _ (by unfold hiN; omega)]
  unfold hiN loN
  omega

theorem num_lo (m k : Nat) (h : m < 2 ^ k) (h2 : k ≤ 63) :
    IntKind.u64.wrap (loN m + IntKind.u64.wrap (2 ^ k)) = loN (m + 2 ^ k) ∧ hiN m = hiN (m + 2 ^ k) := by
  have e2 : 2 ^ k ≤ 2 ^ 63 := Bt.pow_le_pow (by omega)
  have e3 : ((2 : Int) ^ k) = ((2 ^ k : Nat) : Int) := by simp
  rw [e3]
  generalize 2 ^ k = q at *
  rw [IntWalk.u64_in (q : Int) (by omega), IntWalk.u64_in _ (by unfold loN; omega)]
  unfold hiN loN
  omega

set_option maxHeartbeats 1600000 in
set_option maxRecDepth 100000 in
theorem num_ok (A : Option Addr) (l : List Bool) (c : Nat) (w : World) (h : Reads w w.heap.size 1 A l.length (l.map Value.bool)) (h1 : l.length ≤ 1000000) (hv : Bt.val l < 2 ^ 128) :
    Calls Tryz.prog 65 #[.slice A l.length c] w fun e w' => e = .returned (.tuple #[.agg #[.int .u64 (hiN (Bt.val l)), .int .u64 (loN (Bt.val l))], .bool true]) ∧ Below w.heap.size w w' := by
  have HVV := Lib.hid hv
  clear hv
  go_enter Tryz.func65, Tryz.ntmps65
  go_wp2
  go_loopw [9] (fun iv wr => ∃ (k : Nat), iv = .int .i64 k ∧ NumRel l w k wr) (fun iv _ => l.length - (intOf iv).toNat)
  case atStart =>
    exact ⟨0, rfl, Nat.zero_le _, by simp, by simpa [hiN, loN] using Blk.new (w.alloc (.cells #[.int .u64 0, .int .u64 0] 121)) 121 #[.int .u64 0, .int .u64 0], (Blk.new _ _ _).alloc _, ((Below.refl _ _).alloc (Nat.le_refl _) _).alloc (by simp) _⟩
  case round =>
    obtain ⟨k, rfl, hk, hlt, hblk, hres, hbel⟩ := hrel
    have hsz := hblk.lt
    have HL := Lib.hid hlt
    have HB := Lib.hid hbel
    have HS := Lib.hid hres
    generalize hm : Bt.val (l.take k) = m at *
    have HM := Lib.hid hm
    have hg := hiN_bd m hlt
    have hg2 := loN_bd m
    obtain ⟨g0, g3⟩ := hg
    obtain ⟨g1, g2⟩ := hg2
    clear hm hlt hres
    have c0 := hblk.cell 0
    have c1 := hblk.cell 1
    simp at c0 c1
    have f0 := hblk.frozen 0
    have f1 := hblk.frozen 1
    by_cases hkl : k < l.length
    · obtain ⟨b, off, rfl, hb, hc⟩ := (h.below hbel (Nat.le_refl _)).addr (by omega)
      have hcell := hc k (.bool l[k]) (by simp [hkl])
      clear hc h hbel
      by_cases hbk : l[k] = true
      · rw [hbk] at hcell
        have HBK := Lib.hid hbk
        clear hbk
        rcases Nat.lt_or_ge 127 k with h2 | h2
        · exfalso
          have e4 : 2 ^ 128 ≤ 2 ^ k := Bt.pow_le_pow (by omega)
          have e5 := HVV.out
          have := val_true_ge l k hkl HBK.out
          omega
        · rcases Nat.lt_or_ge 63 k with h3 | h3
          · go_wp2
            go_region
            go_wp2
            go_roundw
            case rel =>
              have e1 := take_true l k hkl HBK.out
              have e2 := take_lt l k hk
              have e3 := val_take_le l (k + 1) hkl
              rw [HM.out] at e1 e2
              obtain ⟨n1, n2⟩ := num_hi m k e2 h3 h2
              refine ⟨k + 1, by go_num, hkl, by have := HVV.out; omega, ?_, ?_, ?_⟩
              · rw [e1, ← n1, ← n2]; exact hblk.set_ 0 _
              · exact HS.out.far (by simp) _
              · exact (HB.out.setCell (by simp) _).drew
            case measure => simp [intOf]; omega
          · go_wp2
            go_region
            go_wp2
            go_roundw
            case rel =>
              have e1 := take_true l k hkl HBK.out
              have e2 := take_lt l k hk
              have e3 := val_take_le l (k + 1) hkl
              rw [HM.out] at e1 e2
              obtain ⟨n1, n2⟩ := num_lo m k e2 h3
              refine ⟨k + 1, by go_num, hkl, by have := HVV.out; omega, ?_, ?_, ?_⟩
              · rw [e1, ← n1, ← n2]; exact hblk.set_ 1 _
              · exact HS.out.far (by simp) _
              · exact (HB.out.setCell (by simp) _).drew
            case measure => simp [intOf]; omega
      · have hbk' : l[k] = false := by simpa using hbk
        rw [hbk'] at hcell
        have HBK := Lib.hid hbk'
        clear hbk hbk'
        go_wp2
        go_roundw
        case rel =>
          have e1 := take_false l k hkl HBK.out
          rw [HM.out] at e1
          exact ⟨k + 1, by go_num, hkl, by rw [e1]; exact HL.out, by rw [e1]; exact hblk, HS.out, HB.out⟩
        case measure => simp [intOf]; omega
    · have r0 := HS.out.cell 0
      have r1 := HS.out.cell 1
      simp at r0 r1
      have q0 := HS.out.frozen 0
      have q1 := HS.out.frozen 1
      go_wp2
      have e1 : Bt.val l = m := by rw [← HM.out, List.take_of_length_le (by omega)]
      refine bodyPost_ret (v := .tuple #[.agg #[.int .u64 (hiN m), .int .u64 (loN m)], .bool true]) (by simp [results, Tryz.results65, go_sem, r0, r1]) rfl ⟨by rw [e1], ?_⟩
      exact (HB.out.setCell (by simp) _).setCell (by simp) _
set_option maxHeartbeats 1600000 in
set_option maxRecDepth 100000 in
theorem num_large (A : Option Addr) (l : List Bool) (c : Nat) (w : World) (h : Reads w w.heap.size 1 A l.length (l.map Value.bool)) (h1 : l.length ≤ 1000000) (hv : 2 ^ 128 ≤ Bt.val l) :
    Calls Tryz.prog 65 #[.slice A l.length c] w fun e w' => e = .returned (.tuple #[.agg #[.int .u64 0, .int .u64 0], .bool false]) ∧ Below w.heap.size w w' := by
  have HVV := Lib.hid hv
  clear hv
  go_enter Tryz.func65, Tryz.ntmps65
  go_wp2
  go_loopw [9] (fun iv wr => ∃ (k : Nat), iv = .int .i64 k ∧ NumRel l w k wr) (fun iv _ => l.length - (intOf iv).toNat)
  case atStart =>
    exact ⟨0, rfl, Nat.zero_le _, by simp, by simpa [hiN, loN] using Blk.new (w.alloc (.cells #[.int .u64 0, .int .u64 0] 121)) 121 #[.int .u64 0, .int .u64 0], (Blk.new _ _ _).alloc _, ((Below.refl _ _).alloc (Nat.le_refl _) _).alloc (by simp) _⟩
  case round =>
    obtain ⟨k, rfl, hk, hlt, hblk, hres, hbel⟩ := hrel
    have hsz := hblk.lt
    have HL := Lib.hid hlt
    have HB := Lib.hid hbel
    have HS := Lib.hid hres
    generalize hm : Bt.val (l.take k) = m at *
    have HM := Lib.hid hm
    have hg := hiN_bd m hlt
    have hg2 := loN_bd m
    obtain ⟨g0, g3⟩ := hg
    obtain ⟨g1, g2⟩ := hg2
    clear hm hlt hres
    have c0 := hblk.cell 0
    have c1 := hblk.cell 1
    simp at c0 c1
    have f0 := hblk.frozen 0
    have f1 := hblk.frozen 1
    by_cases hkl : k < l.length
    · obtain ⟨b, off, rfl, hb, hc⟩ := (h.below hbel (Nat.le_refl _)).addr (by omega)
      have hcell := hc k (.bool l[k]) (by simp [hkl])
      clear hc h hbel
      by_cases hbk : l[k] = true
      · rw [hbk] at hcell
        have HBK := Lib.hid hbk
        clear hbk
        rcases Nat.lt_or_ge 127 k with h2 | h2
        · have r0 := HS.out.cell 0
          have r1 := HS.out.cell 1
          simp at r0 r1
          have q0 := HS.out.frozen 0
          have q1 := HS.out.frozen 1
          go_wp2
          refine bodyPost_ret (v := .tuple #[.agg #[.int .u64 0, .int .u64 0], .bool false]) (by simp [results, Tryz.results65, go_sem, r0, r1]) rfl ⟨rfl, ?_⟩
          exact (HB.out.setCell (by simp) _).setCell (by simp) _
        · rcases Nat.lt_or_ge 63 k with h3 | h3
          · go_wp2
            go_region
            go_wp2
            go_roundw
            case rel =>
              have e1 := take_true l k hkl HBK.out
              have e2 := take_lt l k hk
              have e3 := val_take_le l (k + 1) hkl
              rw [HM.out] at e1 e2
              obtain ⟨n1, n2⟩ := num_hi m k e2 h3 h2
              refine ⟨k + 1, by go_num, hkl, by rw [e1]; have e9 : 2 ^ (k + 1) ≤ 2 ^ 128 := Bt.pow_le_pow (by omega); rw [Nat.pow_succ] at e9; omega, ?_, ?_, ?_⟩
              · rw [e1, ← n1, ← n2]; exact hblk.set_ 0 _
              · exact HS.out.far (by simp) _
              · exact (HB.out.setCell (by simp) _).drew
            case measure => simp [intOf]; omega
          · go_wp2
            go_region
            go_wp2
            go_roundw
            case rel =>
              have e1 := take_true l k hkl HBK.out
              have e2 := take_lt l k hk
              have e3 := val_take_le l (k + 1) hkl
              rw [HM.out] at e1 e2
              obtain ⟨n1, n2⟩ := num_lo m k e2 h3
              refine ⟨k + 1, by go_num, hkl, by rw [e1]; have e9 : 2 ^ (k + 1) ≤ 2 ^ 128 := Bt.pow_le_pow (by omega); rw [Nat.pow_succ] at e9; omega, ?_, ?_, ?_⟩
              · rw [e1, ← n1, ← n2]; exact hblk.set_ 1 _
              · exact HS.out.far (by simp) _
              · exact (HB.out.setCell (by simp) _).drew
            case measure => simp [intOf]; omega
      · have hbk' : l[k] = false := by simpa using hbk
        rw [hbk'] at hcell
        have HBK := Lib.hid hbk'
        clear hbk hbk'
        go_wp2
        go_roundw
        case rel =>
          have e1 := take_false l k hkl HBK.out
          rw [HM.out] at e1
          exact ⟨k + 1, by go_num, hkl, by rw [e1]; exact HL.out, by rw [e1]; exact hblk, HS.out, HB.out⟩
        case measure => simp [intOf]; omega
    · exfalso
      have e1 : Bt.val l = m := by rw [← HM.out, List.take_of_length_le (by omega)]
      have := HVV.out
      have := HL.out
      omega

end Go.Proofs.YtcikljcjhijjdabGreat

namespace Go.Proofs.YtcikljcjhijjdabGreat
open Go.RowKit
set_option linter.unusedSimpArgs false
set_option linter.unusedVariables false

def cmpN (a b : Nat) : Int := if a < b then -1 else if b < a then 1 else 0

theorem cmpN_neg {a b : Nat} (h : a < b) : cmpN a b < 0 := by unfold cmpN; rw [if_pos h]; decide
theorem cmpN_nonneg {a b : Nat} (h : b ≤ a) : 0 ≤ cmpN a b := by unfold cmpN; rw [if_neg (by omega)]; split <;> decide

end Go.Proofs.YtcikljcjhijjdabGreat

namespace Go.Proofs.YtcikljcjhijjdabGreat
open Go.RowKit
set_option linter.unusedSimpArgs false
set_option linter.unusedVariables false

def OrderRel (la lb : List Bool) (j : Int) : Prop :=
  -1 ≤ j ∧ j < max la.length lb.length ∧ Bt.val (la.drop (j + 1).toNat) = Bt.val (lb.drop (j + 1).toNat)

theorem cmp_of (la lb : List Bool) (k : Nat) (h : Bt.val (la.drop (k + 1)) = Bt.val (lb.drop (k + 1))) (hk : k < max la.length lb.length) :
    ((Bt.bit la k : Int) - (Bt.bit lb k : Int) ≠ 0 → cmpN (Bt.val la) (Bt.val lb) = (Bt.bit la k : Int) - (Bt.bit lb k : Int)) ∧
    ((Bt.bit la k : Int) - (Bt.bit lb k : Int) = 0 → Bt.val (la.drop k) = Bt.val (lb.drop k)) := by
  have hda := Bt.val_drop la k
  have hdb := Bt.val_drop lb k
  have ba := Bt.bit_le la k
  have bb := Bt.bit_le lb k
  refine ⟨fun hne => ?_, fun he => by omega⟩
  have hsa : Bt.val la = Bt.val (la.take k) + 2 ^ k * Bt.val (la.drop k) := by
    rcases Nat.lt_or_ge la.length k with hx | hx
    · rw [List.take_of_length_le (by omega), List.drop_eq_nil_of_le (by omega)]; simp
    · exact Bt.val_take_drop la k hx
  have hsb : Bt.val lb = Bt.val (lb.take k) + 2 ^ k * Bt.val (lb.drop k) := by
    rcases Nat.lt_or_ge lb.length k with hx | hx
    · rw [List.take_of_length_le (by omega), List.drop_eq_nil_of_le (by omega)]; simp
    · exact Bt.val_take_drop lb k hx
  have hta : Bt.val (la.take k) < 2 ^ k := by
    have h1 := Bt.val_lt (la.take k)
    have : 2 ^ (la.take k).length ≤ 2 ^ k := Bt.pow_le_pow (by simp; omega)
    omega
  have htb : Bt.val (lb.take k) < 2 ^ k := by
    have h1 := Bt.val_lt (lb.take k)
    have : 2 ^ (lb.take k).length ≤ 2 ^ k := Bt.pow_le_pow (by simp; omega)
    omega
  generalize Bt.val (la.take k) = ta at *
  generalize Bt.val (lb.take k) = tb at *
  generalize Bt.val (la.drop (k + 1)) = da at *
  rw [← h] at hdb
  generalize 2 ^ k = q at *
  rw [hda] at hsa
  rw [hdb] at hsb
  unfold cmpN
  rcases Nat.lt_or_ge (Bt.bit la k) (Bt.bit lb k) with hx | hx
  · have e1 : Bt.bit la k = 0 := by omega
    have e2 : Bt.bit lb k = 1 := by omega
    rw [e1] at hsa ⊢
    rw [e2] at hsb ⊢
    rw [Nat.mul_add] at hsa hsb
    rw [if_pos (by omega)]; rfl
  · have e1 : Bt.bit la k = 1 := by omega
    have e2 : Bt.bit lb k = 0 := by omega
    rw [e1] at hsa ⊢
    rw [e2] at hsb ⊢
    rw [Nat.mul_add] at hsa hsb
    rw [if_neg (by omega), if_pos (by omega)]; rfl

set_option maxHeartbeats 800000 in
set_option maxRecDepth 100000 in
theorem order_any (A B : Option Addr) (la lb : List Bool) (ca cb D : Nat) (w : World) (ha : Reads w D 1 A la.length (la.map Value.bool)) (hb : Reads w D 1 B lb.length (lb.map Value.bool))
    (la1 : la.length ≤ 1000000) (lb1 : lb.length ≤ 1000000) :
    Calls Tryz.prog 102 #[.slice A la.length ca, .slice B lb.length cb] w fun e w' => e = .returned (.int .i64 (cmpN (Bt.val la) (Bt.val lb))) ∧ w = w' := by
  have RA := Lib.hid ha
  have RB := Lib.hid hb
  clear ha hb
  rcases Nat.lt_or_ge la.length lb.length with ho | ho
  all_goals
    go_enter Tryz.func102, Tryz.ntmps102
    go_wp2
    go_loop [5] (fun iv => ∃ j : Int, iv = .int .i64 j ∧ OrderRel la lb j) (fun iv => (intOf iv + 1).toNat)
    case atStart =>
      refine ⟨_, rfl, by omega, by omega, ?_⟩
      rw [List.drop_eq_nil_of_le (by omega), List.drop_eq_nil_of_le (by omega)]
    case round =>
      obtain ⟨j, rfl, h1, h2, h3⟩ := hrel
      by_cases hj : 0 ≤ j
      · obtain ⟨k, rfl⟩ := Int.eq_ofNat_of_zero_le hj
        have hkm : k < max la.length lb.length := by omega
        have e1 : ((k : Int) + 1).toNat = k + 1 := by omega
        rw [e1] at h3
        obtain ⟨c1, c2⟩ := cmp_of la lb k h3 hkm
        have C1 := Lib.hid c1
        have C2 := Lib.hid c2
        have ba := Bt.bit_le la k
        have bb := Bt.bit_le lb k
        clear c1 c2 h3 e1
        by_cases hz : (Bt.bit la k : Int) - (Bt.bit lb k : Int) = 0
        · have HZ := Lib.hid hz
          have hzb : ((Bt.bit la k : Int) - (Bt.bit lb k : Int) != 0) = false := by simpa using hz
          clear hz
          go_wp2_with fail
          refine (bit_any A la ca _ _ RA.out _ (by omega)).mono ?_
          rintro e w' ⟨rfl, rfl⟩
          go_wp2_with fail
          refine (bit_any B lb cb _ _ RB.out _ (by omega)).mono ?_
          rintro e w' ⟨rfl, rfl⟩
          go_wp2
          go_round
          case rel => exact ⟨_, rfl, by omega, by omega, by rw [show ((k : Int) - 1 + 1).toNat = k by omega]; exact C2.out HZ.out⟩
          case measure => simp [intOf] <;> omega
        · have HZ := Lib.hid hz
          have hzb : ((Bt.bit la k : Int) - (Bt.bit lb k : Int) != 0) = true := by simpa using hz
          clear hz
          go_wp2_with fail
          refine (bit_any A la ca _ _ RA.out _ (by omega)).mono ?_
          rintro e w' ⟨rfl, rfl⟩
          go_wp2_with fail
          refine (bit_any B lb cb _ _ RB.out _ (by omega)).mono ?_
          rintro e w' ⟨rfl, rfl⟩
          go_wp2
          go_ret
          exact ⟨ret_int (C1.out HZ.out).symm, rfl⟩
      · go_wp2
        go_ret
        have e0 : (j + 1).toNat = 0 := by omega
        rw [e0] at h3
        simp at h3
        exact ⟨ret_int (by simp [cmpN, h3]), rfl⟩

end Go.Proofs.YtcikljcjhijjdabGreat

namespace Go.Proofs.YtcikljcjhijjdabGreat
open Go.RowKit
set_option linter.unusedSimpArgs false
set_option linter.unusedVariables false

theorem order_is (A B : Option Addr) (la lb : List Bool) (ca cb D a b : Nat) (w : World) (ha : Reads w D 1 A la.length (la.map Value.bool)) (hb : Reads w D 1 B lb.length (lb.map Value.bool))
    (la1 : la.length ≤ 1000000) (lb1 : lb.length ≤ 1000000) (hva : Bt.val la = a) (hvb : Bt.val lb = b) :
    Calls Tryz.prog 102 #[.slice A la.length ca, .slice B lb.length cb] w fun e w' => e = .returned (.int .i64 (cmpN a b)) ∧ w = w' := by
  subst hva hvb; exact order_any A B la lb ca cb D w ha hb la1 lb1

end Go.Proofs.YtcikljcjhijjdabGreat

namespace Go.Proofs.YtcikljcjhijjdabGreat
open Go.RowKit
set_option linter.unusedSimpArgs false
set_option linter.unusedVariables false

theorem madeBools (n : Nat) : (madeCells #[Value.bool false] n).toList = List.replicate n (Value.bool false) := by
  simp only [madeCells]
  apply List.ext_getElem <;> simp [Nat.mod_one]

theorem oneCell_bools (l : List Bool) : ∀ u ∈ l.map Value.bool, u.oneCell' = true := by
  intro u hu
  obtain ⟨b, _, rfl⟩ := List.mem_map.1 hu
  rfl

end Go.Proofs.YtcikljcjhijjdabGreat

namespace Go.Proofs.YtcikljcjhijjdabGreat
open Go.RowKit
set_option linter.unusedSimpArgs false
set_option linter.unusedVariables false

set_option maxHeartbeats 800000 in
set_option maxRecDepth 100000 in
theorem moved_any (A : Option Addr) (la : List Bool) (ca : Nat) (w : World) (ha : Reads w w.heap.size 1 A la.length (la.map Value.bool)) (la1 : la.length ≤ 1000000) (n : Int) (h0 : 0 ≤ n) (h1 : n ≤ 1000000) :
    Calls Tryz.prog 101 #[.slice A la.length ca, .int .i64 n] w (NewBits (fun l => l = List.replicate n.toNat false ++ la) w) := by
  obtain ⟨i0, hi, hz0, hz1, hz2⟩ := info_parts Tryz.info4
  obtain ⟨m, rfl⟩ := Int.eq_ofNat_of_zero_le h0
  rw [Int.toNat_natCast]
  have HA := Lib.hid ha
  clear ha
  go_enter Tryz.func101, Tryz.ntmps101
  go_wp2_with (at_make; refine wpList_make_full w rfl _ _ _ rfl w.heap.size 4 i0 (.bool false) 1 Tryz.underlying60 hi hz0 hz1 .i64 .i64 _ _ m rfl rfl rfl rfl ?c1 ?c2 ?c3 ?_)
  case c1 => rw [hz2]; omega
  case c2 => unfold maxLen; omega
  case c3 => omega
  intro w1 hown hg
  rw [madeBools] at hown
  have hbel : Below w.heap.size w w1 := ⟨hg.os, hg.tape, hg.output, hg.size, fun k hk => hg.block k hk (by simp)⟩
  have HR := HA.out.below hbel (Nat.le_refl _)
  have hsz := hg.size
  have HB := Lib.hid hbel
  clear hbel hg
  go_wp2_with (at_builtin; refine wpList_appN w1 rfl _ _ 60 rfl w.heap.size 4 i0 (.bool false) 1 1 Tryz.underlying60 hi hz0 hz1 hz2 rfl (by decide) _ _ _ rfl hown _ _ _ _ _ rfl HR (oneCell_bools _) ?c1 ?c2 ?c3 ?_)
  case c1 => unfold maxLen; omega
  case c2 => omega
  case c3 => omega
  intro v' w2 hown2 hb2
  obtain ⟨A2, c2, rfl⟩ := ownsRow_len hown2
  go_wp2
  go_ret
  have hl : (List.replicate m false ++ la).length = m + la.length := by simp
  refine ⟨A2, c2, _, by rw [hl]; rfl, rfl, ?_, HB.out.trans hb2⟩
  rw [hl, List.map_append, List.map_replicate]
  exact hown2

end Go.Proofs.YtcikljcjhijjdabGreat

namespace Go.Proofs.YtcikljcjhijjdabGreat
open Go.RowKit
set_option linter.unusedSimpArgs false
set_option linter.unusedVariables false

theorem plus_norm {la lb l : List Bool} (h : PlusIs la lb l) (ha : Bt.Norm la) (hb : Bt.Norm lb) : Bt.Norm l := by
  obtain ⟨h1, h2, h3, h4⟩ := h
  rcases Nat.lt_or_ge (max la.length lb.length) l.length with hx | hx
  · have e : l.length = max la.length lb.length + 1 := by omega
    have := h4 e
    exact .inr (by rw [e, Nat.pow_succ]; omega)
  · have e : l.length = max la.length lb.length := by omega
    rcases Nat.lt_or_ge la.length lb.length with ho | ho
    · rcases hb with rfl | hb
      · simp at ho
      · exact .inr (by rw [e, Nat.max_eq_right (by omega)]; omega)
    · rcases ha with rfl | ha
      · left
        have : l.length = 0 := by rw [e]; simp at ho ⊢; exact ho
        exact List.eq_nil_of_length_eq_zero this
      · exact .inr (by rw [e, Nat.max_eq_left ho]; omega)

theorem norm_moved (k : Nat) {lb : List Bool} (h : Bt.Norm lb) (hne : lb ≠ []) : Bt.Norm (List.replicate k false ++ lb) := by
  rcases h with h | h
  · exact absurd h hne
  · refine .inr ?_
    rw [val_moved, List.length_append, List.length_replicate, Nat.pow_add, Nat.mul_left_comm]
    exact Nat.mul_le_mul_left _ h

def ProdIs (la lb : List Bool) (k : Nat) (l : List Bool) : Prop :=
  Bt.val l = Bt.val (la.take k) * Bt.val lb ∧ l.length ≤ k + lb.length ∧ (Bt.Norm lb → lb ≠ [] → Bt.Norm l)

theorem prod_step {la lb l l' : List Bool} {k : Nat} (hk : k < la.length) (hb : la[k] = true) (h : ProdIs la lb k l) (hp : PlusIs l (List.replicate k false ++ lb) l') : ProdIs la lb (k + 1) l' := by
  obtain ⟨h1, h2, h3⟩ := h
  have hp' := hp
  obtain ⟨p1, p2, p3, _⟩ := hp
  refine ⟨?_, ?_, fun hn hne => plus_norm hp' (h3 hn hne) (norm_moved k hn hne)⟩
  · rw [p1, val_moved, h1, take_true la k hk hb, Nat.add_mul]
  · simp at p3
    omega

theorem prod_keep {la lb l : List Bool} {k : Nat} (hk : k < la.length) (hb : la[k] = false) (h : ProdIs la lb k l) : ProdIs la lb (k + 1) l := by
  obtain ⟨h1, h2, h3⟩ := h
  exact ⟨by rw [h1, take_false la k hk hb], by omega, h3⟩

def ProdRel (la lb : List Bool) (w : World) (v : Value) (k : Nat) (wr : World) : Prop :=
  ∃ A c l, v = .slice A l.length c ∧ k ≤ la.length ∧ ProdIs la lb k l ∧ wr.ownsRow w.heap.size 4 1 (.slice A l.length c) l.length (l.map Value.bool) ∧ Below w.heap.size w wr

set_option maxHeartbeats 1600000 in
set_option maxRecDepth 100000 in
theorem prod_any (A B : Option Addr) (la lb : List Bool) (ca cb : Nat) (w : World) (ha : Reads w w.heap.size 1 A la.length (la.map Value.bool)) (hb : Reads w w.heap.size 1 B lb.length (lb.map Value.bool))
    (la1 : la.length ≤ 400000) (lb1 : lb.length ≤ 400000) :
    Calls Tryz.prog 67 #[.slice A la.length ca, .slice B lb.length cb] w (NewBits (ProdIs la lb la.length) w) := by
  go_enter Tryz.func67, Tryz.ntmps67
  go_wp2
  go_loopw [5, 10] (fun v iv wr => ∃ (k : Nat), iv = .int .i64 k ∧ ProdRel la lb w v k wr) (fun _ iv _ => la.length - (intOf iv).toNat)
  case atStart => exact ⟨0, rfl, none, 0, [], rfl, Nat.zero_le _, ⟨by simp, by simp, fun _ _ => Bt.norm_nil⟩, World.ownsRow_nil _ _ _ _, Below.refl _ _⟩
  case round =>
    obtain ⟨k, rfl, A1, c1, l, rfl, hk, hl, hown, hbel⟩ := hrel
    have hll := hl.2.1
    have HL := Lib.hid hl
    have HO := Lib.hid hown
    have HBE := Lib.hid hbel
    have hsz := hbel.size
    by_cases hlt : k < la.length
    · obtain ⟨b, off, rfl, hbb, hc⟩ := (ha.below hbel (Nat.le_refl _)).addr (by omega)
      have hcell := hc k (.bool la[k]) (by simp [hlt])
      have RB := Lib.hid (hb.below hbel (Nat.le_refl _))
      have RL := Lib.hid (Reads.of_own hown)
      clear hc hl hown hbel ha hb
      by_cases hbk : la[k] = true
      · rw [hbk] at hcell
        have HBK := Lib.hid hbk
        clear hbk
        go_wp2_with fail
        refine (moved_any B lb cb _ (RB.out.more hsz) (by omega) _ (by omega) (by omega)).mono ?_
        rintro e w1 ⟨A2, c2, l2, rfl, hl2, ho2, hb2⟩
        rw [Int.toNat_natCast] at hl2
        have hll2 : l2.length ≤ 400000 + k := by rw [hl2]; simp; omega
        have HL2 := Lib.hid hl2
        clear hl2
        have hsz2 := hb2.size
        go_wp2_with fail
        refine (plus_any A1 A2 l l2 c1 c2 _ ((RL.out.below hb2 (Nat.le_refl _)).more hsz2) (Reads.of_own ho2) (by omega) (by omega)).mono ?_
        rintro e w2 ⟨A3, c3, l3, rfl, hl3, ho3, hb3⟩
        have HL3 := Lib.hid hl3
        have HO3 := Lib.hid (ownsRow_base ho3 (base' := w.heap.size) (by omega))
        have HB3 := Lib.hid (HBE.out.trans ((hb2.mono hsz).trans (hb3.mono (by omega))))
        clear hl3 ho3 hb3 hb2 ho2
        go_wp2
        go_roundw
        case rel => exact ⟨k + 1, by go_num, A3, c3, l3, rfl, hlt, prod_step hlt HBK.out HL.out (HL2.out ▸ HL3.out), HO3.out, HB3.out⟩
        case measure => simp [intOf] <;> omega
      · have hbk' : la[k] = false := by simpa using hbk
        rw [hbk'] at hcell
        have HBK := Lib.hid hbk'
        clear hbk hbk'
        go_wp2
        go_roundw
        case rel => exact ⟨k + 1, by go_num, A1, c1, l, rfl, hlt, prod_keep hlt HBK.out HL.out, HO.out, HBE.out⟩
        case measure => simp [intOf] <;> omega
    · clear hl hown hbel
      go_wp2
      go_ret
      obtain rfl : k = la.length := by omega
      exact ⟨A1, c1, l, rfl, HL.out, HO.out, HBE.out⟩

end Go.Proofs.YtcikljcjhijjdabGreat
