/- The reference's Wide. (with what it needs) -/
import Derived.Test.YtcikljcjhijjdaaGreatM05
namespace Go.Proofs.YtcikljcjhijjdaaGreat
open Go.RowKit
set_option linter.unusedSimpArgs false
set_option linter.unusedVariables false

set_option maxRecDepth 100000 in
theorem wide_any (n : Int) (h0 : 0 ≤ n) (h1 : n ≤ 9223372036854775807) (w : World) :
    Calls Tryz.prog 99 #[.int .i64 n] w fun e w' => e = .returned (.agg #[.int .u64 (hiN n.toNat), .int .u64 (loN n.toNat)]) ∧ Below w.heap.size w w' := by
  have e1 : hiN n.toNat = 0 := by unfold hiN; omega
  have e2 : loN n.toNat = n := by unfold loN; omega
  rw [e1, e2]
  clear e1 e2
  go_enter Tryz.func99, Tryz.ntmps99
  go_wp2
  refine bodyPost_ret (v := .agg #[.int .u64 0, .int .u64 n]) (by simp [results, Tryz.results99, go_sem]) rfl ⟨rfl, ?_⟩
  exact (Below.refl _ _).alloc (Nat.le_refl _) _

end Go.Proofs.YtcikljcjhijjdaaGreat

namespace Go.Proofs.YtcikljcjhijjdaaGreat
open Go.RowKit
set_option linter.unusedSimpArgs false
set_option linter.unusedVariables false
theorem step_appN {P : Program} {w : World} {ops : Array Oper} {o : Oper} {a : Act} {K : Act → World → Prop} {Q : Exit → Act → World → Prop} {E : Prop} (hgd : o.guard = none) (s x : Operand) (t : TypeId)
    (ho : o.op = .call { callee := .builtin .append, args := #[s, x], argTypes := #[t, t] })
    (base : Nat) (e : TypeId) (i : TypeInfo) (z : Value) (size bytes : Nat) (ht : P.underlying t = some (.slice e)) (hi : P.info? e = some i) (hz : i.zero = some z)
    (hsize : i.size = size) (hby : i.bytes = bytes) (hzs : z.cells.size = size) (hsz : 0 < size)
    (v : Value) (n : Nat) (xs : List Value) (hs : a.eval s = v) (hown : w.ownsRow base e size v n xs)
    (B : Nat) (A : Option Addr) (m c : Nat) (news : List Value) (hx : a.eval x = .slice A m c) (hr : Reads w B size A m news) (h1 : ∀ u ∈ news, u.oneCell' = true)
    (h63 : n + m ≤ maxLen) (hbytes : (n + m) * bytes ≤ 140737488355328) (hbase : base ≤ w.heap.size)
    (h : ∀ v' w', w'.ownsRow base e size v' (n + m) (xs ++ news) → Below base w w' → K (a.put o.dst v') w') :
    if Region.wanted o (yielded ops a.tmps) = true then Oper.wp P o a w K Q else E := by
  have hw : Region.wanted o (yielded ops a.tmps) = true := by simp [Region.wanted, hgd]
  rw [if_pos hw]
  refine wp_append_any w s x t ho base e i z size bytes ht hi hz hsize hby hzs hsz v n xs hs hown B A m c news hx hr h1 h63 hbytes hbase fun v' w' h2 h3 h4 => h v' w' h2 ?_
  have hlt := hown.lt
  exact ⟨h3.os, h3.tape, h3.output, h3.size, fun k hk => h3.block k (by omega) (fun e => by have := hlt k e.symm; omega)⟩
theorem Env.belowB {w0 W W' : World} {l : List (Nat × TypeId × Array Value)} {B : Nat} (h : Env w0 W l) (hb : Below B W W') (h0 : w0.heap.size ≤ B) (hl : ∀ x ∈ l, x.1 < B) : Env w0 W' l :=
  ⟨h.1.trans (hb.mono h0), fun x hx => ⟨(h.2 x hx).1, (h.2 x hx).2.below hb (hl x hx)⟩⟩
theorem ownsRow_at {w : World} {base : Nat} {e : TypeId} {size n : Nat} {v : Value} {xs : List Value} (h : w.ownsRow base e size v n xs) (hn : 0 < n) :
    ∃ g c, v = .slice (some ⟨g, 0, none⟩) n c ∧ base ≤ g ∧ g < w.heap.size ∧ n ≤ c ∧ c ≤ maxLen ∧ ∀ k u, xs[k]? = some u → w.cell? ⟨g, k, none⟩ = some u := by
  have hc := fun (g : Nat) (cap : Nat) (hv : v = .slice (some ⟨g, 0, none⟩) n cap) => h.cells (g := g) (by rw [hv]; rfl)
  rcases h.2 with ⟨_, h0⟩ | ⟨g, cap, cur, hv, hb, hg, hnc, hm, hs, hx⟩
  · omega
  · exact ⟨g, cap, hv, hb, (Array.getElem?_eq_some_iff.1 hg).1, hnc, hm, fun k u hu => by
      have := hc g cap hv k u hu
      by_cases hk : k = 0
      · subst hk; simpa [Addr.add] using this
      · simpa [Addr.add, hk] using this⟩
end Go.Proofs.YtcikljcjhijjdaaGreat

namespace Go.Proofs.YtcikljcjhijjdaaGreat
open Go.RowKit
set_option linter.unusedSimpArgs false
set_option linter.unusedVariables false

/-- The words h, l are those of the number n. -/
def WN (h l : Int) (n : Nat) : Prop := h = hiN n ∧ l = loN n ∧ n < 2 ^ 128

def s64 (x y c : Int) : Int := (x + y + c) % 18446744073709551616
def k64 (x y c : Int) : Int := (x + y + c) / 18446744073709551616
def d64 (x y b : Int) : Int := (x - y - b) % 18446744073709551616
def b64 (x y b : Int) : Int := if x < y + b then 1 else 0

theorem k64_bd (x y c : Int) (hx : 0 ≤ x ∧ x ≤ 18446744073709551615) (hy : 0 ≤ y ∧ y ≤ 18446744073709551615) (hc : 0 ≤ c ∧ c ≤ 1) : 0 ≤ k64 x y c ∧ k64 x y c ≤ 1 := by unfold k64; omega
theorem b64_bd (x y b : Int) : 0 ≤ b64 x y b ∧ b64 x y b ≤ 1 := by unfold b64; split <;> omega

/-- What is answered of a number: it, or the error, if it is too large. -/
def fitN (n : Nat) : Nat := if n < 2 ^ 128 then n else 0
def fitE (n : Nat) : Int := if n < 2 ^ 128 then 0 else 2
def subE (a b : Nat) : Int := if b ≤ a then 0 else 7

theorem fitN_lt (n : Nat) : fitN n < 2 ^ 128 := by unfold fitN; split <;> omega

theorem WN.mk' (n : Nat) (h : n < 2 ^ 128) : WN (hiN n) (loN n) n := ⟨rfl, rfl, h⟩
theorem WN.one : WN 1 0 18446744073709551616 := ⟨by unfold hiN; omega, by unfold loN; omega, by omega⟩

end Go.Proofs.YtcikljcjhijjdaaGreat

namespace Go.Proofs.YtcikljcjhijjdaaGreat
open Go.RowKit
set_option linter.unusedSimpArgs false
set_option linter.unusedVariables false

theorem add64 (x y c : Int) (hx : 0 ≤ x) (hy : 0 ≤ y) (hc0 : 0 ≤ c) (hc : c ≤ 1) (w : World) :
    (callFunc 117 #[.int .u64 x, .int .u64 y, .int .u64 c]).run Tryz.prog w = .ok (.value (.tuple #[.int .u64 (s64 x y c), .int .u64 (k64 x y c)])) w := by
  rw [run_callFunc_extern Tryz.func117 (by kernel_rfl) (by kernel_rfl) (by kernel_rfl) (e := add64Entry) (by kernel_rfl), run_add64 x y c hx hy hc0 hc]
  rfl

theorem add_words (a b : Nat) : s64 (loN a) (loN b) 0 = loN (a + b) ∧ s64 (hiN a) (hiN b) (k64 (loN a) (loN b) 0) = hiN ((a + b) % 2 ^ 128) ∧
    (k64 (hiN a) (hiN b) (k64 (loN a) (loN b) 0) = ((a + b) / 2 ^ 128 : Nat)) := by
  unfold s64 k64 hiN loN; omega

set_option maxRecDepth 100000 in
set_option maxHeartbeats 400000 in
theorem wide_add_ok (ah al bh bl : Int) (a b : Nat) (ha : WN ah al a) (hb : WN bh bl b) (h : a + b < 2 ^ 128) (w : World) :
    Calls Tryz.prog 93 #[.agg #[.int .u64 ah, .int .u64 al], .agg #[.int .u64 bh, .int .u64 bl]] w fun e w' =>
      e = .returned (.tuple #[.agg #[.int .u64 (hiN (a + b)), .int .u64 (loN (a + b))], .int .i64 0]) ∧ Below w.heap.size w w' := by
  obtain ⟨rfl, rfl, ha⟩ := ha
  obtain ⟨rfl, rfl, hb⟩ := hb
  obtain ⟨e1, e2, e3⟩ := add_words a b
  rw [Nat.mod_eq_of_lt h] at e2
  rw [Nat.div_eq_of_lt h] at e3
  obtain ⟨a1, a2⟩ := hiN_bd a ha
  obtain ⟨a3, a4⟩ := loN_bd a
  obtain ⟨b1, b2⟩ := hiN_bd b hb
  obtain ⟨b3, b4⟩ := loN_bd b
  obtain ⟨k0, k1⟩ := k64_bd (loN a) (loN b) 0 ⟨a3, a4⟩ ⟨b3, b4⟩ (by omega)
  have E1 := Lib.hid e1
  have E2 := Lib.hid e2
  have hk : k64 (hiN a) (hiN b) (k64 (loN a) (loN b) 0) ≤ 0 := by omega
  clear e1 e2 e3 ha hb h
  go_enter Tryz.func93, Tryz.ntmps93
  go_wp2_with (first | simp only [add64 (loN a) (loN b) 0 a3 b3 (Int.le_refl 0) (by decide)] | simp only [add64 (hiN a) (hiN b) _ a1 b1 k0 k1])
  rw [E1.out, E2.out]
  refine bodyPost_ret (v := .tuple #[.agg #[.int .u64 (hiN (a + b)), .int .u64 (loN (a + b))], .int .i64 0]) (by simp [results, Tryz.results93, go_sem]) rfl ⟨rfl, ?_⟩
  exact (((Below.refl _ _).alloc (Nat.le_refl _) _).alloc (by simp) _).alloc (by simp; omega) _

set_option maxRecDepth 100000 in
set_option maxHeartbeats 400000 in
theorem wide_add_large (ah al bh bl : Int) (a b : Nat) (ha : WN ah al a) (hb : WN bh bl b) (h : 2 ^ 128 ≤ a + b) (w : World) :
    Calls Tryz.prog 93 #[.agg #[.int .u64 ah, .int .u64 al], .agg #[.int .u64 bh, .int .u64 bl]] w fun e w' =>
      e = .returned (.tuple #[.agg #[.int .u64 0, .int .u64 0], .int .i64 2]) ∧ Below w.heap.size w w' := by
  obtain ⟨rfl, rfl, ha⟩ := ha
  obtain ⟨rfl, rfl, hb⟩ := hb
  obtain ⟨e1, e2, e3⟩ := add_words a b
  obtain ⟨a1, a2⟩ := hiN_bd a ha
  obtain ⟨a3, a4⟩ := loN_bd a
  obtain ⟨b1, b2⟩ := hiN_bd b hb
  obtain ⟨b3, b4⟩ := loN_bd b
  obtain ⟨k0, k1⟩ := k64_bd (loN a) (loN b) 0 ⟨a3, a4⟩ ⟨b3, b4⟩ (by omega)
  have hk : 0 < k64 (hiN a) (hiN b) (k64 (loN a) (loN b) 0) := by
    rw [e3]
    have : 1 ≤ (a + b) / 2 ^ 128 := by rw [Nat.le_div_iff_mul_le (by decide)]; omega
    omega
  clear e1 e2 e3 ha hb h
  go_enter Tryz.func93, Tryz.ntmps93
  go_wp2_with (first | simp only [add64 (loN a) (loN b) 0 a3 b3 (Int.le_refl 0) (by decide)] | simp only [add64 (hiN a) (hiN b) _ a1 b1 k0 k1])
  refine bodyPost_ret (v := .tuple #[.agg #[.int .u64 0, .int .u64 0], .int .i64 2]) (by simp [results, Tryz.results93, go_sem]) rfl ⟨rfl, ?_⟩
  exact (((Below.refl _ _).alloc (Nat.le_refl _) _).alloc (by simp) _).alloc (by simp; omega) _

theorem wide_add_any (ah al bh bl : Int) (a b : Nat) (ha : WN ah al a) (hb : WN bh bl b) (w : World) :
    Calls Tryz.prog 93 #[.agg #[.int .u64 ah, .int .u64 al], .agg #[.int .u64 bh, .int .u64 bl]] w fun e w' =>
      e = .returned (.tuple #[.agg #[.int .u64 (hiN (fitN (a + b))), .int .u64 (loN (fitN (a + b)))], .int .i64 (fitE (a + b))]) ∧ Below w.heap.size w w' := by
  unfold fitN fitE
  by_cases h : a + b < 2 ^ 128
  · rw [if_pos h, if_pos h]; exact wide_add_ok ah al bh bl a b ha hb h w
  · rw [if_neg h, if_neg h]; exact wide_add_large ah al bh bl a b ha hb (by omega) w

end Go.Proofs.YtcikljcjhijjdaaGreat

namespace Go.Proofs.YtcikljcjhijjdaaGreat
open Go.RowKit
set_option linter.unusedSimpArgs false
set_option linter.unusedVariables false

theorem hilo_lt (a b : Nat) : a < b ↔ (hiN a < hiN b ∨ (hiN a = hiN b ∧ loN a < loN b)) := by unfold hiN loN; omega
theorem hilo_eq (a b : Nat) : a = b ↔ (hiN a = hiN b ∧ loN a = loN b) := by unfold hiN loN; omega

set_option maxRecDepth 100000 in
set_option maxHeartbeats 1000000 in
theorem wide_cmp (ah al bh bl : Int) (a b : Nat) (ha : WN ah al a) (hb : WN bh bl b) (w : World) :
    Calls Tryz.prog 120 #[.agg #[.int .u64 ah, .int .u64 al], .agg #[.int .u64 bh, .int .u64 bl]] w fun e w' => e = .returned (.int .i64 (cmpN a b)) ∧ Below w.heap.size w w' := by
  obtain ⟨rfl, rfl, ha⟩ := ha
  obtain ⟨rfl, rfl, hb⟩ := hb
  have hl := hilo_lt a b
  have he := hilo_eq a b
  have hbel : ∀ o1 o2, Below w.heap.size w ((w.alloc o1).alloc o2) := fun o1 o2 => ((Below.refl _ _).alloc (Nat.le_refl _) _).alloc (by simp) _
  have HBE := Lib.hid hbel
  clear ha hb hbel
  by_cases h1 : hiN a = hiN b
  · by_cases h2 : loN a = loN b
    · have h3 : a = b := he.2 ⟨h1, h2⟩
      subst h3
      clear hl he h1 h2
      go_enter Tryz.func120, Tryz.ntmps120
      go_wp2
      go_ret
      exact ⟨ret_int (by simp [cmpN]), HBE.out _ _⟩
    · have h2b : (loN a == loN b) = false := by simpa using h2
      rw [h1]
      have HL := Lib.hid hl
      have HE := Lib.hid he
      have H1 := Lib.hid h1
      have H2 := Lib.hid h2
      rcases Int.lt_or_gt_of_ne h2 with h3 | h3
      · clear hl he h1 h2
        go_enter Tryz.func120, Tryz.ntmps120
        go_wp2
        go_ret
        have : a < b := HL.out.2 (.inr ⟨H1.out, h3⟩)
        exact ⟨ret_int (by simp [cmpN, this]), HBE.out _ _⟩
      · clear hl he h1 h2
        go_enter Tryz.func120, Tryz.ntmps120
        go_wp2
        go_ret
        have h4 : ¬ a < b := fun h => by
          have := HL.out.1 h
          have := H1.out
          omega
        have h5 : a ≠ b := fun h => H2.out (HE.out.1 h).2
        have h6 : b < a := by omega
        exact ⟨ret_int (by simp [cmpN, h4, h6]), HBE.out _ _⟩
  · have h2b : (hiN a == hiN b) = false := by simpa using h1
    have HL := Lib.hid hl
    have HE := Lib.hid he
    have H1 := Lib.hid h1
    rcases Int.lt_or_gt_of_ne h1 with h3 | h3
    · clear hl he h1
      go_enter Tryz.func120, Tryz.ntmps120
      go_wp2
      go_ret
      have : a < b := HL.out.2 (.inl h3)
      exact ⟨ret_int (by simp [cmpN, this]), HBE.out _ _⟩
    · clear hl he h1
      go_enter Tryz.func120, Tryz.ntmps120
      go_wp2
      go_ret
      have h4 : ¬ a < b := fun h => by
        have := HL.out.1 h
        omega
      have h5 : a ≠ b := fun h => H1.out (HE.out.1 h).1
      have h6 : b < a := by omega
      exact ⟨ret_int (by simp [cmpN, h4, h6]), HBE.out _ _⟩

end Go.Proofs.YtcikljcjhijjdaaGreat

namespace Go.Proofs.YtcikljcjhijjdaaGreat
open Go.RowKit
set_option linter.unusedSimpArgs false
set_option linter.unusedVariables false

set_option maxRecDepth 100000 in
theorem within_any (x a b : Int) (w : World) :
    Calls Tryz.prog 35 #[.int .i64 x, .int .i64 a, .int .i64 b] w fun e w' => e = .returned (.bool (wi x a b)) ∧ w = w' := by
  unfold wi
  go_enter Tryz.func35, Tryz.ntmps35
  go_wp2
  all_goals (go_ret; simp [*] <;> omega)

end Go.Proofs.YtcikljcjhijjdaaGreat

namespace Go.Proofs.YtcikljcjhijjdaaGreat
open Go.RowKit
set_option linter.unusedSimpArgs false
set_option linter.unusedVariables false

def GateOk (i s d : Int) : Prop := 0 ≤ i ∧ i ≤ 2147483647 ∧ 0 ≤ s ∧ s ≤ 2147483647 ∧ 0 ≤ d ∧ d ≤ 1073741824 ∧ (s = 0 → i = 0)
def BeatNo (inc seq : Int) : Prop := 0 ≤ inc ∧ inc ≤ 2147483647 ∧ 1 ≤ seq ∧ seq ≤ 2147483647
def Newer (i s inc seq : Int) : Prop := i < inc ∨ (inc = i ∧ s < seq)
instance (i s d : Int) : Decidable (GateOk i s d) := by unfold GateOk; infer_instance
instance (i s : Int) : Decidable (BeatNo i s) := by unfold BeatNo; infer_instance
instance (i s a b : Int) : Decidable (Newer i s a b) := by unfold Newer; infer_instance
def gateE (i s d : Int) : Int := if GateOk i s d then 0 else 1

set_option maxRecDepth 100000 in
theorem gate_check (i s d : Int) (w : World) :
    Calls Tryz.prog 105 #[.agg #[.int .i64 i, .int .i64 s, .int .i64 d]] w fun e w' => e = .returned (.int .i64 (gateE i s d)) ∧ Below w.heap.size w w' := by
  go_enter Tryz.func105, Tryz.ntmps105
  go_wp2
  all_goals (go_ret; refine ⟨ret_int ?_, (Below.refl _ _).alloc (Nat.le_refl _) _⟩; simp_all [gateE, GateOk] <;> omega)










theorem check_ok (i s d : Int) (h : GateOk i s d) (w : World) :
    Calls Tryz.prog 105 #[.agg #[.int .i64 i, .int .i64 s, .int .i64 d]] w fun e w' => e = .returned (.int .i64 0) ∧ Below w.heap.size w w' := by
  have := gate_check i s d w
  rwa [gateE, if_pos h] at this
theorem check_bad (i s d : Int) (h : ¬ GateOk i s d) (w : World) :
    Calls Tryz.prog 105 #[.agg #[.int .i64 i, .int .i64 s, .int .i64 d]] w fun e w' => e = .returned (.int .i64 1) ∧ Below w.heap.size w w' := by
  have := gate_check i s d w
  rwa [gateE, if_neg h] at this









set_option maxRecDepth 100000 in
set_option maxHeartbeats 1000000 in
theorem take_badgate (i s d inc seq : Int) (h : ¬ GateOk i s d) (w : World) :
    Calls Tryz.prog 80 #[.agg #[.int .i64 i, .int .i64 s, .int .i64 d], .int .i64 inc, .int .i64 seq] w fun e w' =>
      e = .returned (.tuple #[.agg #[.int .i64 0, .int .i64 0, .int .i64 0], .bool false, .int .i64 1]) ∧ Below w.heap.size w w' := by
  have H := Lib.hid h
  have E := Lib.hid (((Env.start w).lay #[.int .i64 i, .int .i64 s, .int .i64 d] 90).lay #[.int .i64 0, .int .i64 0, .int .i64 0] 90)
  clear h
  go_enter Tryz.func80, Tryz.ntmps80
  go_wp2_with fail
  refine (check_bad _ _ _ H.out _).mono ?_
  rintro e w1 ⟨rfl, hb1⟩
  have E1 := Lib.hid (E.out.below hb1)
  clear hb1
  have p0 := E1.out.hd.lt
  have p1 := E1.out.tl.hd.lt
  have b0 := E1.out.hd.cell 0
  have b1 := E1.out.hd.cell 1
  have b2 := E1.out.hd.cell 2
  have a0 := E1.out.tl.hd.cell 0
  have a1 := E1.out.tl.hd.cell 1
  have a2 := E1.out.tl.hd.cell 2
  have f0 := E1.out.hd.frozen 0
  have f1 := E1.out.hd.frozen 1
  have f2 := E1.out.hd.frozen 2
  have f3 := E1.out.tl.hd.frozen 2
  simp at a0 a1 a2 b0 b1 b2 f0 f1 f2 f3 p0 p1
  go_wp2
  refine bodyPost_ret (v := .tuple #[.agg #[.int .i64 0, .int .i64 0, .int .i64 0], .bool false, .int .i64 1]) (by simp [results, Tryz.results80, go_sem, b0, b1, b2, a0, a1, a2] <;> omega) rfl ⟨rfl, ?_⟩
  exact ((E1.out.bel.setCell (by simp) _).setCell (by simp) _).setCell (by simp) _

set_option maxRecDepth 100000 in
set_option maxHeartbeats 1000000 in
theorem take_badarg (i s d inc seq : Int) (h : GateOk i s d) (hn : ¬ BeatNo inc seq) (w : World) :
    Calls Tryz.prog 80 #[.agg #[.int .i64 i, .int .i64 s, .int .i64 d], .int .i64 inc, .int .i64 seq] w fun e w' =>
      e = .returned (.tuple #[.agg #[.int .i64 0, .int .i64 0, .int .i64 0], .bool false, .int .i64 1]) ∧ Below w.heap.size w w' := by
  have H := Lib.hid h
  have hn' : inc < 0 ∨ 2147483648 ≤ inc ∨ seq < 1 ∨ 2147483648 ≤ seq := by unfold BeatNo at hn; omega
  have E := Lib.hid (((Env.start w).lay #[.int .i64 i, .int .i64 s, .int .i64 d] 90).lay #[.int .i64 0, .int .i64 0, .int .i64 0] 90)
  clear h hn
  go_enter Tryz.func80, Tryz.ntmps80
  go_wp2_with fail
  refine (check_ok _ _ _ H.out _).mono ?_
  rintro e w1 ⟨rfl, hb1⟩
  have E1 := Lib.hid (E.out.below hb1)
  clear hb1
  have p0 := E1.out.hd.lt
  have p1 := E1.out.tl.hd.lt
  have b0 := E1.out.hd.cell 0
  have b1 := E1.out.hd.cell 1
  have b2 := E1.out.hd.cell 2
  have a0 := E1.out.tl.hd.cell 0
  have a1 := E1.out.tl.hd.cell 1
  have a2 := E1.out.tl.hd.cell 2
  have f0 := E1.out.hd.frozen 0
  have f1 := E1.out.hd.frozen 1
  have f2 := E1.out.hd.frozen 2
  have f3 := E1.out.tl.hd.frozen 2
  simp at a0 a1 a2 b0 b1 b2 f0 f1 f2 f3 p0 p1
  go_wp2
  all_goals first
    | (exfalso; omega)
    | (refine bodyPost_ret (v := .tuple #[.agg #[.int .i64 0, .int .i64 0, .int .i64 0], .bool false, .int .i64 1]) (by simp [results, Tryz.results80, go_sem, b0, b1, b2, a0, a1, a2] <;> omega) rfl ⟨rfl, ?_⟩
       exact ((E1.out.bel.setCell (by simp) _).setCell (by simp) _).setCell (by simp) _)

set_option maxRecDepth 100000 in
set_option maxHeartbeats 1000000 in
theorem take_new (i s d inc seq : Int) (h : GateOk i s d) (hn : BeatNo inc seq) (hg : Newer i s inc seq) (w : World) :
    Calls Tryz.prog 80 #[.agg #[.int .i64 i, .int .i64 s, .int .i64 d], .int .i64 inc, .int .i64 seq] w fun e w' =>
      e = .returned (.tuple #[.agg #[.int .i64 inc, .int .i64 seq, .int .i64 d], .bool true, .int .i64 0]) ∧ Below w.heap.size w w' := by
  have H := Lib.hid h
  obtain ⟨n0, n1, n2, n3⟩ := hn
  unfold Newer at hg
  have E := Lib.hid (((Env.start w).lay #[.int .i64 i, .int .i64 s, .int .i64 d] 90).lay #[.int .i64 0, .int .i64 0, .int .i64 0] 90)
  clear h
  go_enter Tryz.func80, Tryz.ntmps80
  go_wp2_with fail
  refine (check_ok _ _ _ H.out _).mono ?_
  rintro e w1 ⟨rfl, hb1⟩
  have E1 := Lib.hid (E.out.below hb1)
  clear hb1
  have p0 := E1.out.hd.lt
  have p1 := E1.out.tl.hd.lt
  have b0 := E1.out.hd.cell 0
  have b1 := E1.out.hd.cell 1
  have b2 := E1.out.hd.cell 2
  have a0 := E1.out.tl.hd.cell 0
  have a1 := E1.out.tl.hd.cell 1
  have a2 := E1.out.tl.hd.cell 2
  have f0 := E1.out.hd.frozen 0
  have f1 := E1.out.hd.frozen 1
  have f2 := E1.out.hd.frozen 2
  have f3 := E1.out.tl.hd.frozen 2
  simp at a0 a1 a2 b0 b1 b2 f0 f1 f2 f3 p0 p1
  go_wp2
  all_goals first
    | (exfalso; omega)
    | (exfalso; simp_all; omega)
    | (refine bodyPost_ret (v := .tuple #[.agg #[.int .i64 inc, .int .i64 seq, .int .i64 d], .bool true, .int .i64 0]) (by simp [results, Tryz.results80, go_sem, b0, b1, b2, a0, a1, a2] <;> omega) rfl ⟨rfl, ?_⟩
       exact ((E1.out.bel.setCell (by simp) _).setCell (by simp) _).setCell (by simp) _)

set_option maxRecDepth 100000 in
set_option maxHeartbeats 1000000 in
theorem take_old (i s d inc seq : Int) (h : GateOk i s d) (hn : BeatNo inc seq) (hg : ¬ Newer i s inc seq) (m : Int) (hm : min (d + 1) 1073741824 = m) (w : World) :
    Calls Tryz.prog 80 #[.agg #[.int .i64 i, .int .i64 s, .int .i64 d], .int .i64 inc, .int .i64 seq] w fun e w' =>
      e = .returned (.tuple #[.agg #[.int .i64 i, .int .i64 s, .int .i64 m], .bool false, .int .i64 0]) ∧ Below w.heap.size w w' := by
  have H := Lib.hid h
  obtain ⟨n0, n1, n2, n3⟩ := hn
  have hg1 : inc ≤ i := by unfold Newer at hg; omega
  have hg2 : inc < i ∨ seq ≤ s := by unfold Newer at hg; omega
  have hd0 : 0 ≤ d := h.2.2.2.2.1
  have hd1 : d ≤ 1073741824 := h.2.2.2.2.2.1
  have E := Lib.hid (((Env.start w).lay #[.int .i64 i, .int .i64 s, .int .i64 d] 90).lay #[.int .i64 0, .int .i64 0, .int .i64 0] 90)
  clear h hg
  go_enter Tryz.func80, Tryz.ntmps80
  go_wp2_with fail
  refine (check_ok _ _ _ H.out _).mono ?_
  rintro e w1 ⟨rfl, hb1⟩
  have E1 := Lib.hid (E.out.below hb1)
  clear hb1
  have p0 := E1.out.hd.lt
  have p1 := E1.out.tl.hd.lt
  have b0 := E1.out.hd.cell 0
  have b1 := E1.out.hd.cell 1
  have b2 := E1.out.hd.cell 2
  have a0 := E1.out.tl.hd.cell 0
  have a1 := E1.out.tl.hd.cell 1
  have a2 := E1.out.tl.hd.cell 2
  have f0 := E1.out.hd.frozen 0
  have f1 := E1.out.hd.frozen 1
  have f2 := E1.out.hd.frozen 2
  have f3 := E1.out.tl.hd.frozen 2
  simp at a0 a1 a2 b0 b1 b2 f0 f1 f2 f3 p0 p1
  go_wp2
  all_goals first
    | (exfalso; omega)
    | (exfalso; simp_all; omega)
    | (refine bodyPost_ret (v := .tuple #[.agg #[.int .i64 i, .int .i64 s, .int .i64 m], .bool false, .int .i64 0]) (by simp [results, Tryz.results80, go_sem, b0, b1, b2, a0, a1, a2] <;> omega) rfl ⟨rfl, ?_⟩
       exact (((E1.out.bel.setCell (by simp) _).setCell (by simp) _).setCell (by simp) _).setCell (by simp) _)

theorem packed (i s inc seq : Int) (hs0 : 0 ≤ s) (hs1 : s ≤ 2147483647) (h2 : 1 ≤ seq) (h3 : seq ≤ 2147483647) : i * 2147483648 + s < inc * 2147483648 + seq ↔ Newer i s inc seq := by
  unfold Newer; omega

set_option maxRecDepth 100000 in
set_option maxHeartbeats 1000000 in
theorem rtake_new (i s d inc seq : Int) (h : GateOk i s d) (hn : BeatNo inc seq) (hg : Newer i s inc seq) (w : World) :
    Calls Tryz.prog 84 #[.agg #[.int .i64 i, .int .i64 s, .int .i64 d], .int .i64 inc, .int .i64 seq] w fun e w' =>
      e = .returned (.tuple #[.agg #[.int .i64 inc, .int .i64 seq, .int .i64 d], .bool true]) ∧ Below w.heap.size w w' := by
  have hp := (packed i s inc seq h.2.2.1 h.2.2.2.1 hn.2.2.1 hn.2.2.2).2 hg
  obtain ⟨n0, n1, n2, n3⟩ := hn
  obtain ⟨g0, g1, g2, g3, g4, g5, -⟩ := h
  clear hg
  go_enter Tryz.func84, Tryz.ntmps84
  go_wp2
  all_goals first
    | (exfalso; omega)
    | (refine bodyPost_ret (v := .tuple #[.agg #[.int .i64 inc, .int .i64 seq, .int .i64 d], .bool true]) (by simp [results, Tryz.results84, go_sem]) rfl ⟨rfl, ?_⟩
       exact (((Below.refl _ _).alloc (Nat.le_refl _) _).alloc (by simp) _))

set_option maxRecDepth 100000 in
set_option maxHeartbeats 1000000 in
theorem rtake_old (i s d inc seq : Int) (h : GateOk i s d) (hn : BeatNo inc seq) (hg : ¬ Newer i s inc seq) (m : Int) (hm : min (d + 1) 1073741824 = m) (w : World) :
    Calls Tryz.prog 84 #[.agg #[.int .i64 i, .int .i64 s, .int .i64 d], .int .i64 inc, .int .i64 seq] w fun e w' =>
      e = .returned (.tuple #[.agg #[.int .i64 i, .int .i64 s, .int .i64 m], .bool false]) ∧ Below w.heap.size w w' := by
  have hp : ¬ _ := fun x => hg ((packed i s inc seq h.2.2.1 h.2.2.2.1 hn.2.2.1 hn.2.2.2).1 x)
  obtain ⟨n0, n1, n2, n3⟩ := hn
  obtain ⟨g0, g1, g2, g3, g4, g5, -⟩ := h
  have HM := Lib.hid hm
  clear hg hm
  go_enter Tryz.func84, Tryz.ntmps84
  go_wp2
  all_goals first
    | (exfalso; omega)
    | (have hm' : m = d + 1 := by have := HM.out; omega
       subst hm'
       refine bodyPost_ret (v := .tuple #[.agg #[.int .i64 i, .int .i64 s, .int .i64 (d + 1)], .bool false]) (by simp [results, Tryz.results84, go_sem]) rfl ⟨rfl, ?_⟩
       exact (((Below.refl _ _).alloc (Nat.le_refl _) _).alloc (by simp) _))
    | (have hm' : m = d := by have := HM.out; omega
       subst hm'
       refine bodyPost_ret (v := .tuple #[.agg #[.int .i64 i, .int .i64 s, .int .i64 m], .bool false]) (by simp [results, Tryz.results84, go_sem]) rfl ⟨rfl, ?_⟩
       exact (((Below.refl _ _).alloc (Nat.le_refl _) _).alloc (by simp) _))
end Go.Proofs.YtcikljcjhijjdaaGreat
