/- What the walks of this seat import; the two words of a number. (with what it needs) -/
import Derived.Test.YtkgekhabafjpiabM03
import Derived.Test.YtkgekhabafjpiabM01
import Derived.RegionTactic
import Derived.ChangeAlike
import Derived.BigQuiet
import Derived.Deep.QuietTactic
import Derived.WalkSpells
import Derived.WalkLawsBesides
import Derived.Outline
import Derived.LoopTactic
import Derived.Deep.RegionHeld3
namespace Go.Proofs.Ytkgekhabafjpiab
open Go.RowKit
set_option linter.unusedSimpArgs false
set_option linter.unusedVariables false

/-- the slots of a Wide of the number n -/
def hiN (n : Nat) : Int := ((n / 18446744073709551616 : Nat) : Int)
def loN (n : Nat) : Int := ((n % 18446744073709551616 : Nat) : Int)

theorem hiN_half (m : Nat) : hiN m / 2 = hiN (m / 2) := by unfold hiN; omega
theorem loN_half (m : Nat) : loN m / 2 + hiN m % 2 * 9223372036854775808 = loN (m / 2) := by unfold hiN loN; omega
theorem loN_odd (m : Nat) : (loN m % 2 == 1) = (m % 2 == 1) := by
  rw [Bool.eq_iff_iff, beq_iff_eq, beq_iff_eq]; unfold loN; omega
theorem zero_of_words {m : Nat} (h : hiN m = 0) (h' : loN m = 0) : m = 0 := by unfold hiN at h; unfold loN at h'; omega
theorem hiN_bd (m : Nat) (h : m < 2 ^ 128) : 0 ≤ hiN m ∧ hiN m ≤ 18446744073709551615 := by unfold hiN; omega
theorem loN_bd (m : Nat) : 0 ≤ loN m ∧ loN m ≤ 18446744073709551615 := by unfold loN; omega

end Go.Proofs.Ytkgekhabafjpiab

namespace Go.Proofs.Ytkgekhabafjpiab
open Go.RowKit
set_option linter.unusedSimpArgs false
set_option linter.unusedVariables false

def cellsI (l : List Int) : List Value := l.map fun x => .int .i64 x
theorem cellsI_at (l : List Int) (k : Nat) (h : k < l.length) : (cellsI l)[k]? = some (.int .i64 (l.getD k 0)) := by
  simp [cellsI, List.getD, List.getElem?_eq_getElem h]

theorem anyI_take {p : Int → Bool} {xs : List Int} {j : Nat} (h : (xs.take j).any p = true) : xs.any p = true := by
  rw [List.any_eq_true] at h ⊢
  obtain ⟨x, hx, hp⟩ := h
  exact ⟨x, List.mem_of_mem_take hx, hp⟩
theorem anyI_step {p : Int → Bool} {xs : List Int} {k : Nat} (hk : k < xs.length) (h : (xs.take k).any p = false) : (xs.take (k + 1)).any p = p (xs.getD k 0) := by
  rw [List.take_add_one, List.any_append, h, List.getElem?_eq_getElem hk]
  simp [List.getD_eq_getElem?_getD, hk]

def SomeIdxI (b : Bool) (w : World) (e : Ending) (w' : World) : Prop := ∃ k : Int, (decide (0 ≤ k) = b) ∧ e = .returned (.int .i64 k) ∧ w = w'

end Go.Proofs.Ytkgekhabafjpiab

namespace Go.Proofs.Ytkgekhabafjpiab
open Go.RowKit
set_option linter.unusedSimpArgs false
set_option linter.unusedVariables false

def cmpN (a b : Nat) : Int := if a < b then -1 else if b < a then 1 else 0

theorem cmpN_neg {a b : Nat} (h : a < b) : cmpN a b < 0 := by unfold cmpN; rw [if_pos h]; decide
theorem cmpN_nonneg {a b : Nat} (h : b ≤ a) : 0 ≤ cmpN a b := by unfold cmpN; rw [if_neg (by omega)]; split <;> decide

end Go.Proofs.Ytkgekhabafjpiab

namespace Go.Proofs.Ytkgekhabafjpiab
open Go.RowKit
set_option linter.unusedSimpArgs false
set_option linter.unusedVariables false
theorem step_appN {P : Program} {w : World} {ops : Array Oper} {o : Oper} {a : Act} {K : Act → World → Prop} {Q : Exit → Act → World → Prop} {E : Prop} (hgd : o.guard = none) (s x : Operand) (t : TypeId)
    (ho : o.op = .call { callee := .builtin .append, args := #[s, x], argTypes := #[t, t] })
    (base : Nat) (e : TypeId) (i : TypeInfo) (z : Value) (size bytes : Nat) (ht : P.underlying t = some (.slice e)) (hi : P.info? e = some i) (hz : i.zero = some z)
    (hsize : i.size = size) (hby : i.bytes = bytes) (hzs : z.cells.size = size) (hsz : 0 < size)
    (v : Value) (n : Nat) (xs : List Value) (hs : a.eval s = v) (hown : w.ownsRow base e size v n xs)
    (B : Nat) (A : Option Addr) (m c : Nat) (news : List Value) (hx : a.eval x = .slice A m c) (hr : Reads w B size A m news) (h1 : ∀ u ∈ news, u.oneCell' = true)
    (h63 : n + m ≤ maxLen) (hbytes : (n + m) * bytes ≤ 140737488355328) (hbase : base ≤ w.heap.size)
    (h : ∀ v' w', w'.ownsRow base e size v' (n + m) (xs ++ news) → Below base w w' → K (a.put o.dst v') w') :
    if Region.wanted o (yielded ops a.tmps) = true then Oper.wp P o a w K Q else E := by
  have hw : Region.wanted o (yielded ops a.tmps) = true := by simp [Region.wanted, hgd]
  rw [if_pos hw]
  refine wp_append_any w s x t ho base e i z size bytes ht hi hz hsize hby hzs hsz v n xs hs hown B A m c news hx hr h1 h63 hbytes hbase fun v' w' h2 h3 h4 => h v' w' h2 ?_
  have hlt := hown.lt
  exact ⟨h3.os, h3.tape, h3.output, h3.size, fun k hk => h3.block k (by omega) (fun e => by have := hlt k e.symm; omega)⟩
theorem Env.belowB {w0 W W' : World} {l : List (Nat × TypeId × Array Value)} {B : Nat} (h : Env w0 W l) (hb : Below B W W') (h0 : w0.heap.size ≤ B) (hl : ∀ x ∈ l, x.1 < B) : Env w0 W' l :=
  ⟨h.1.trans (hb.mono h0), fun x hx => ⟨(h.2 x hx).1, (h.2 x hx).2.below hb (hl x hx)⟩⟩
theorem ownsRow_at {w : World} {base : Nat} {e : TypeId} {size n : Nat} {v : Value} {xs : List Value} (h : w.ownsRow base e size v n xs) (hn : 0 < n) :
    ∃ g c, v = .slice (some ⟨g, 0, none⟩) n c ∧ base ≤ g ∧ g < w.heap.size ∧ n ≤ c ∧ c ≤ maxLen ∧ ∀ k u, xs[k]? = some u → w.cell? ⟨g, k, none⟩ = some u := by
  have hc := fun (g : Nat) (cap : Nat) (hv : v = .slice (some ⟨g, 0, none⟩) n cap) => h.cells (g := g) (by rw [hv]; rfl)
  rcases h.2 with ⟨_, h0⟩ | ⟨g, cap, cur, hv, hb, hg, hnc, hm, hs, hx⟩
  · omega
  · exact ⟨g, cap, hv, hb, (Array.getElem?_eq_some_iff.1 hg).1, hnc, hm, fun k u hu => by
      have := hc g cap hv k u hu
      by_cases hk : k = 0
      · subst hk; simpa [Addr.add] using this
      · simpa [Addr.add, hk] using this⟩
end Go.Proofs.Ytkgekhabafjpiab

namespace Go.Proofs.Ytkgekhabafjpiab
open Go.RowKit
set_option linter.unusedSimpArgs false
set_option linter.unusedVariables false

/-- The words h, l are those of the number n. -/
def WN (h l : Int) (n : Nat) : Prop := h = hiN n ∧ l = loN n ∧ n < 2 ^ 128

def s64 (x y c : Int) : Int := (x + y + c) % 18446744073709551616
def k64 (x y c : Int) : Int := (x + y + c) / 18446744073709551616
def d64 (x y b : Int) : Int := (x - y - b) % 18446744073709551616
def b64 (x y b : Int) : Int := if x < y + b then 1 else 0

theorem k64_bd (x y c : Int) (hx : 0 ≤ x ∧ x ≤ 18446744073709551615) (hy : 0 ≤ y ∧ y ≤ 18446744073709551615) (hc : 0 ≤ c ∧ c ≤ 1) : 0 ≤ k64 x y c ∧ k64 x y c ≤ 1 := by unfold k64; omega
theorem b64_bd (x y b : Int) : 0 ≤ b64 x y b ∧ b64 x y b ≤ 1 := by unfold b64; split <;> omega

/-- What is answered of a number: it, or the error, if it is too large. -/
def fitN (n : Nat) : Nat := if n < 2 ^ 128 then n else 0
def fitE (n : Nat) : Int := if n < 2 ^ 128 then 0 else 2
def subE (a b : Nat) : Int := if b ≤ a then 0 else 7

theorem fitN_lt (n : Nat) : fitN n < 2 ^ 128 := by unfold fitN; split <;> omega

theorem WN.mk' (n : Nat) (h : n < 2 ^ 128) : WN (hiN n) (loN n) n := ⟨rfl, rfl, h⟩
theorem WN.one : WN 1 0 18446744073709551616 := ⟨by unfold hiN; omega, by unfold loN; omega, by omega⟩

end Go.Proofs.Ytkgekhabafjpiab

namespace Go.Proofs.Ytkgekhabafjpiab
open Go.RowKit
set_option linter.unusedSimpArgs false
set_option linter.unusedVariables false

theorem add64 (x y c : Int) (hx : 0 ≤ x) (hy : 0 ≤ y) (hc0 : 0 ≤ c) (hc : c ≤ 1) (w : World) :
    (callFunc 29 #[.int .u64 x, .int .u64 y, .int .u64 c]).run Try.prog w = .ok (.value (.tuple #[.int .u64 (s64 x y c), .int .u64 (k64 x y c)])) w := by
  rw [run_callFunc_extern Try.func29 (by kernel_rfl) (by kernel_rfl) (by kernel_rfl) (e := add64Entry) (by kernel_rfl), run_add64 x y c hx hy hc0 hc]
  rfl

theorem add_words (a b : Nat) : s64 (loN a) (loN b) 0 = loN (a + b) ∧ s64 (hiN a) (hiN b) (k64 (loN a) (loN b) 0) = hiN ((a + b) % 2 ^ 128) ∧
    (k64 (hiN a) (hiN b) (k64 (loN a) (loN b) 0) = ((a + b) / 2 ^ 128 : Nat)) := by
  unfold s64 k64 hiN loN; omega

set_option maxRecDepth 100000 in
set_option maxHeartbeats 400000 in
theorem wide_add_ok (ah al bh bl : Int) (a b : Nat) (ha : WN ah al a) (hb : WN bh bl b) (h : a + b < 2 ^ 128) (w : World) :
    Calls Try.prog 15 #[.agg #[.int .u64 ah, .int .u64 al], .agg #[.int .u64 bh, .int .u64 bl]] w fun e w' =>
      e = .returned (.tuple #[.agg #[.int .u64 (hiN (a + b)), .int .u64 (loN (a + b))], .int .i64 0]) ∧ Below w.heap.size w w' := by
  obtain ⟨rfl, rfl, ha⟩ := ha
  obtain ⟨rfl, rfl, hb⟩ := hb
  obtain ⟨e1, e2, e3⟩ := add_words a b
  rw [Nat.mod_eq_of_lt h] at e2
  rw [Nat.div_eq_of_lt h] at e3
  obtain ⟨a1, a2⟩ := hiN_bd a ha
  obtain ⟨a3, a4⟩ := loN_bd a
  obtain ⟨b1, b2⟩ := hiN_bd b hb
  obtain ⟨b3, b4⟩ := loN_bd b
  obtain ⟨k0, k1⟩ := k64_bd (loN a) (loN b) 0 ⟨a3, a4⟩ ⟨b3, b4⟩ (by omega)
  have E1 := Lib.hid e1
  have E2 := Lib.hid e2
  have hk : k64 (hiN a) (hiN b) (k64 (loN a) (loN b) 0) ≤ 0 := by omega
  clear e1 e2 e3 ha hb h
  go_enter Try.func15, Try.ntmps15
  go_wp2_with (first | simp only [add64 (loN a) (loN b) 0 a3 b3 (Int.le_refl 0) (by decide)] | simp only [add64 (hiN a) (hiN b) _ a1 b1 k0 k1])
  rw [E1.out, E2.out]
  refine bodyPost_ret (v := .tuple #[.agg #[.int .u64 (hiN (a + b)), .int .u64 (loN (a + b))], .int .i64 0]) (by simp [results, Try.results15, go_sem]) rfl ⟨rfl, ?_⟩
  exact (((Below.refl _ _).alloc (Nat.le_refl _) _).alloc (by simp) _).alloc (by simp; omega) _

set_option maxRecDepth 100000 in
set_option maxHeartbeats 400000 in
theorem wide_add_large (ah al bh bl : Int) (a b : Nat) (ha : WN ah al a) (hb : WN bh bl b) (h : 2 ^ 128 ≤ a + b) (w : World) :
    Calls Try.prog 15 #[.agg #[.int .u64 ah, .int .u64 al], .agg #[.int .u64 bh, .int .u64 bl]] w fun e w' =>
      e = .returned (.tuple #[.agg #[.int .u64 0, .int .u64 0], .int .i64 2]) ∧ Below w.heap.size w w' := by
  obtain ⟨rfl, rfl, ha⟩ := ha
  obtain ⟨rfl, rfl, hb⟩ := hb
  obtain ⟨e1, e2, e3⟩ := add_words a b
  obtain ⟨a1, a2⟩ := hiN_bd a ha
  obtain ⟨a3, a4⟩ := loN_bd a
  obtain ⟨b1, b2⟩ := hiN_bd b hb
  obtain ⟨b3, b4⟩ := loN_bd b
  obtain ⟨k0, k1⟩ := k64_bd (loN a) (loN b) 0 ⟨a3, a4⟩ ⟨b3, b4⟩ (by omega)
  have hk : 0 < k64 (hiN a) (hiN b) (k64 (loN a) (loN b) 0) := by
    rw [e3]
    have : 1 ≤ (a + b) / 2 ^ 128 := by rw [Nat.le_div_iff_mul_le (by decide)]; omega
    omega
  clear e1 e2 e3 ha hb h
  go_enter Try.func15, Try.ntmps15
  go_wp2_with (first | simp only [add64 (loN a) (loN b) 0 a3 b3 (Int.le_refl 0) (by decide)] | simp only [add64 (hiN a) (hiN b) _ a1 b1 k0 k1])
  refine bodyPost_ret (v := .tuple #[.agg #[.int .u64 0, .int .u64 0], .int .i64 2]) (by simp [results, Try.results15, go_sem]) rfl ⟨rfl, ?_⟩
  exact (((Below.refl _ _).alloc (Nat.le_refl _) _).alloc (by simp) _).alloc (by simp; omega) _

theorem wide_add_any (ah al bh bl : Int) (a b : Nat) (ha : WN ah al a) (hb : WN bh bl b) (w : World) :
    Calls Try.prog 15 #[.agg #[.int .u64 ah, .int .u64 al], .agg #[.int .u64 bh, .int .u64 bl]] w fun e w' =>
      e = .returned (.tuple #[.agg #[.int .u64 (hiN (fitN (a + b))), .int .u64 (loN (fitN (a + b)))], .int .i64 (fitE (a + b))]) ∧ Below w.heap.size w w' := by
  unfold fitN fitE
  by_cases h : a + b < 2 ^ 128
  · rw [if_pos h, if_pos h]; exact wide_add_ok ah al bh bl a b ha hb h w
  · rw [if_neg h, if_neg h]; exact wide_add_large ah al bh bl a b ha hb (by omega) w

end Go.Proofs.Ytkgekhabafjpiab

namespace Go.Proofs.Ytkgekhabafjpiab
open Go.RowKit Go.Lib
set_option linter.unusedSimpArgs false
set_option linter.unusedVariables false

/-- a number from 0 to n-1 -/
def wthn (k n : Int) : Int := k % 18446744073709551616 % n
theorem wthn_bd (k : Int) {n : Int} (h : 1 ≤ n) : 0 ≤ wthn k n ∧ wthn k n < n := ⟨Int.emod_nonneg _ (by omega), Int.emod_lt_of_pos _ (by omega)⟩
set_option maxRecDepth 100000 in
theorem kwithin_any (k n : Int) (hn : 1 ≤ n) (hm : n ≤ 9223372036854775807) (w : World) :
    Calls Try.prog 8 #[.int .i64 k, .int .i64 n] w fun e w' => e = .returned (.int .i64 (wthn k n)) ∧ w = w' := by
  go_enter Try.func8, Try.ntmps8
  have hb := wthn_bd k hn
  have hq : wrap64 ((IntKind.u64.wrap k).tmod n) = wthn k n := by
    have e : (IntKind.u64.wrap k).tmod n = wthn k n := by
      rw [IntKind.wrap_u64, Int.tmod_eq_emod_of_nonneg (by omega)]
      rfl
    rw [e]
    unfold wrap64
    omega
  clear hb
  go_wp2
  go_ret
  exact ⟨ret_int hq, rfl⟩

set_option maxRecDepth 100000 in
theorem begun_true (w : World) : Calls Try.prog 4 #[] w fun e w' => e = .returned (.bool true) ∧ Below w.heap.size w w' := by
  have HA := Lib.hid (wide_add_ok 0 2 0 3 2 3 ⟨by decide, by decide, by decide⟩ ⟨by decide, by decide, by decide⟩ (by decide))
  go_enter Try.func4, Try.ntmps4
  go_wp2_with fail
  refine (HA.out _).mono ?_
  rintro e' w1 ⟨rfl, hb1⟩
  have E1 := Lib.hid (((Env.start w).below hb1).lay #[.int .u64 (hiN (2 + 3)), .int .u64 (loN (2 + 3))] 57)
  have e1 : hiN (2 + 3) = 0 := by decide
  have e2 : loN (2 + 3) = 5 := by decide
  rw [e1, e2] at E1
  go_wp2
  go_ret
  exact ⟨rfl, E1.out.bel⟩
end Go.Proofs.Ytkgekhabafjpiab

namespace Go.Proofs.Ytkgekhabafjpiab
open Go.RowKit
set_option linter.unusedSimpArgs false
set_option linter.unusedVariables false

theorem hilo_lt (a b : Nat) : a < b ↔ (hiN a < hiN b ∨ (hiN a = hiN b ∧ loN a < loN b)) := by unfold hiN loN; omega
theorem hilo_eq (a b : Nat) : a = b ↔ (hiN a = hiN b ∧ loN a = loN b) := by unfold hiN loN; omega

set_option maxRecDepth 100000 in
set_option maxHeartbeats 1000000 in
theorem wide_cmp (ah al bh bl : Int) (a b : Nat) (ha : WN ah al a) (hb : WN bh bl b) (w : World) :
    Calls Try.prog 63 #[.agg #[.int .u64 ah, .int .u64 al], .agg #[.int .u64 bh, .int .u64 bl]] w fun e w' => e = .returned (.int .i64 (cmpN a b)) ∧ Below w.heap.size w w' := by
  obtain ⟨rfl, rfl, ha⟩ := ha
  obtain ⟨rfl, rfl, hb⟩ := hb
  have hl := hilo_lt a b
  have he := hilo_eq a b
  have hbel : ∀ o1 o2, Below w.heap.size w ((w.alloc o1).alloc o2) := fun o1 o2 => ((Below.refl _ _).alloc (Nat.le_refl _) _).alloc (by simp) _
  have HBE := Lib.hid hbel
  clear ha hb hbel
  by_cases h1 : hiN a = hiN b
  · by_cases h2 : loN a = loN b
    · have h3 : a = b := he.2 ⟨h1, h2⟩
      subst h3
      clear hl he h1 h2
      go_enter Try.func63, Try.ntmps63
      go_wp2
      go_ret
      exact ⟨ret_int (by simp [cmpN]), HBE.out _ _⟩
    · have h2b : (loN a == loN b) = false := by simpa using h2
      rw [h1]
      have HL := Lib.hid hl
      have HE := Lib.hid he
      have H1 := Lib.hid h1
      have H2 := Lib.hid h2
      rcases Int.lt_or_gt_of_ne h2 with h3 | h3
      · clear hl he h1 h2
        go_enter Try.func63, Try.ntmps63
        go_wp2
        go_ret
        have : a < b := HL.out.2 (.inr ⟨H1.out, h3⟩)
        exact ⟨ret_int (by simp [cmpN, this]), HBE.out _ _⟩
      · clear hl he h1 h2
        go_enter Try.func63, Try.ntmps63
        go_wp2
        go_ret
        have h4 : ¬ a < b := fun h => by
          have := HL.out.1 h
          have := H1.out
          omega
        have h5 : a ≠ b := fun h => H2.out (HE.out.1 h).2
        have h6 : b < a := by omega
        exact ⟨ret_int (by simp [cmpN, h4, h6]), HBE.out _ _⟩
  · have h2b : (hiN a == hiN b) = false := by simpa using h1
    have HL := Lib.hid hl
    have HE := Lib.hid he
    have H1 := Lib.hid h1
    rcases Int.lt_or_gt_of_ne h1 with h3 | h3
    · clear hl he h1
      go_enter Try.func63, Try.ntmps63
      go_wp2
      go_ret
      have : a < b := HL.out.2 (.inl h3)
      exact ⟨ret_int (by simp [cmpN, this]), HBE.out _ _⟩
    · clear hl he h1
      go_enter Try.func63, Try.ntmps63
      go_wp2
      go_ret
      have h4 : ¬ a < b := fun h => by
        have := HL.out.1 h
        omega
      have h5 : a ≠ b := fun h => H1.out (HE.out.1 h).1
      have h6 : b < a := by omega
      exact ⟨ret_int (by simp [cmpN, h4, h6]), HBE.out _ _⟩

end Go.Proofs.Ytkgekhabafjpiab

namespace Go.Proofs.Ytkgekhabafjpiab
open Go.RowKit
set_option linter.unusedSimpArgs false
set_option linter.unusedVariables false









end Go.Proofs.Ytkgekhabafjpiab
