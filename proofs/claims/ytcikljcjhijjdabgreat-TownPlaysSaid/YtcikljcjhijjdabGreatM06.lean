/- The reference's Wide. (with what it needs) -/
import Derived.Test.YtcikljcjhijjdabGreatM05
namespace Go.Proofs.YtcikljcjhijjdabGreat
open Go.RowKit
set_option linter.unusedSimpArgs false
set_option linter.unusedVariables false

set_option maxRecDepth 100000 in
theorem wide_any (n : Int) (h0 : 0 ≤ n) (h1 : n ≤ 9223372036854775807) (w : World) :
    Calls Tryz.prog 64 #[.int .i64 n] w fun e w' => e = .returned (.agg #[.int .u64 (hiN n.toNat), .int .u64 (loN n.toNat)]) ∧ Below w.heap.size w w' := by
  have e1 : hiN n.toNat = 0 := by unfold hiN; omega
  have e2 : loN n.toNat = n := by unfold loN; omega
  rw [e1, e2]
  clear e1 e2
  go_enter Tryz.func64, Tryz.ntmps64
  go_wp2
  refine bodyPost_ret (v := .agg #[.int .u64 0, .int .u64 n]) (by simp [results, Tryz.results64, go_sem]) rfl ⟨rfl, ?_⟩
  exact (Below.refl _ _).alloc (Nat.le_refl _) _

end Go.Proofs.YtcikljcjhijjdabGreat

namespace Go.Proofs.YtcikljcjhijjdabGreat
open Go.RowKit
set_option linter.unusedSimpArgs false
set_option linter.unusedVariables false
theorem step_appN {P : Program} {w : World} {ops : Array Oper} {o : Oper} {a : Act} {K : Act → World → Prop} {Q : Exit → Act → World → Prop} {E : Prop} (hgd : o.guard = none) (s x : Operand) (t : TypeId)
    (ho : o.op = .call { callee := .builtin .append, args := #[s, x], argTypes := #[t, t] })
    (base : Nat) (e : TypeId) (i : TypeInfo) (z : Value) (size bytes : Nat) (ht : P.underlying t = some (.slice e)) (hi : P.info? e = some i) (hz : i.zero = some z)
    (hsize : i.size = size) (hby : i.bytes = bytes) (hzs : z.cells.size = size) (hsz : 0 < size)
    (v : Value) (n : Nat) (xs : List Value) (hs : a.eval s = v) (hown : w.ownsRow base e size v n xs)
    (B : Nat) (A : Option Addr) (m c : Nat) (news : List Value) (hx : a.eval x = .slice A m c) (hr : Reads w B size A m news) (h1 : ∀ u ∈ news, u.oneCell' = true)
    (h63 : n + m ≤ maxLen) (hbytes : (n + m) * bytes ≤ 140737488355328) (hbase : base ≤ w.heap.size)
    (h : ∀ v' w', w'.ownsRow base e size v' (n + m) (xs ++ news) → Below base w w' → K (a.put o.dst v') w') :
    if Region.wanted o (yielded ops a.tmps) = true then Oper.wp P o a w K Q else E := by
  have hw : Region.wanted o (yielded ops a.tmps) = true := by simp [Region.wanted, hgd]
  rw [if_pos hw]
  refine wp_append_any w s x t ho base e i z size bytes ht hi hz hsize hby hzs hsz v n xs hs hown B A m c news hx hr h1 h63 hbytes hbase fun v' w' h2 h3 h4 => h v' w' h2 ?_
  have hlt := hown.lt
  exact ⟨h3.os, h3.tape, h3.output, h3.size, fun k hk => h3.block k (by omega) (fun e => by have := hlt k e.symm; omega)⟩
theorem Env.belowB {w0 W W' : World} {l : List (Nat × TypeId × Array Value)} {B : Nat} (h : Env w0 W l) (hb : Below B W W') (h0 : w0.heap.size ≤ B) (hl : ∀ x ∈ l, x.1 < B) : Env w0 W' l :=
  ⟨h.1.trans (hb.mono h0), fun x hx => ⟨(h.2 x hx).1, (h.2 x hx).2.below hb (hl x hx)⟩⟩
theorem ownsRow_at {w : World} {base : Nat} {e : TypeId} {size n : Nat} {v : Value} {xs : List Value} (h : w.ownsRow base e size v n xs) (hn : 0 < n) :
    ∃ g c, v = .slice (some ⟨g, 0, none⟩) n c ∧ base ≤ g ∧ g < w.heap.size ∧ n ≤ c ∧ c ≤ maxLen ∧ ∀ k u, xs[k]? = some u → w.cell? ⟨g, k, none⟩ = some u := by
  have hc := fun (g : Nat) (cap : Nat) (hv : v = .slice (some ⟨g, 0, none⟩) n cap) => h.cells (g := g) (by rw [hv]; rfl)
  rcases h.2 with ⟨_, h0⟩ | ⟨g, cap, cur, hv, hb, hg, hnc, hm, hs, hx⟩
  · omega
  · exact ⟨g, cap, hv, hb, (Array.getElem?_eq_some_iff.1 hg).1, hnc, hm, fun k u hu => by
      have := hc g cap hv k u hu
      by_cases hk : k = 0
      · subst hk; simpa [Addr.add] using this
      · simpa [Addr.add, hk] using this⟩
end Go.Proofs.YtcikljcjhijjdabGreat

namespace Go.Proofs.YtcikljcjhijjdabGreat
open Go.RowKit
set_option linter.unusedSimpArgs false
set_option linter.unusedVariables false

/-- The words h, l are those of the number n. -/
def WN (h l : Int) (n : Nat) : Prop := h = hiN n ∧ l = loN n ∧ n < 2 ^ 128

def s64 (x y c : Int) : Int := (x + y + c) % 18446744073709551616
def k64 (x y c : Int) : Int := (x + y + c) / 18446744073709551616
def d64 (x y b : Int) : Int := (x - y - b) % 18446744073709551616
def b64 (x y b : Int) : Int := if x < y + b then 1 else 0

theorem k64_bd (x y c : Int) (hx : 0 ≤ x ∧ x ≤ 18446744073709551615) (hy : 0 ≤ y ∧ y ≤ 18446744073709551615) (hc : 0 ≤ c ∧ c ≤ 1) : 0 ≤ k64 x y c ∧ k64 x y c ≤ 1 := by unfold k64; omega
theorem b64_bd (x y b : Int) : 0 ≤ b64 x y b ∧ b64 x y b ≤ 1 := by unfold b64; split <;> omega

/-- What is answered of a number: it, or the error, if it is too large. -/
def fitN (n : Nat) : Nat := if n < 2 ^ 128 then n else 0
def fitE (n : Nat) : Int := if n < 2 ^ 128 then 0 else 2
def subE (a b : Nat) : Int := if b ≤ a then 0 else 7

theorem fitN_lt (n : Nat) : fitN n < 2 ^ 128 := by unfold fitN; split <;> omega

theorem WN.mk' (n : Nat) (h : n < 2 ^ 128) : WN (hiN n) (loN n) n := ⟨rfl, rfl, h⟩
theorem WN.one : WN 1 0 18446744073709551616 := ⟨by unfold hiN; omega, by unfold loN; omega, by omega⟩

end Go.Proofs.YtcikljcjhijjdabGreat

namespace Go.Proofs.YtcikljcjhijjdabGreat
open Go.RowKit
set_option linter.unusedSimpArgs false
set_option linter.unusedVariables false

theorem add64 (x y c : Int) (hx : 0 ≤ x) (hy : 0 ≤ y) (hc0 : 0 ≤ c) (hc : c ≤ 1) (w : World) :
    (callFunc 116 #[.int .u64 x, .int .u64 y, .int .u64 c]).run Tryz.prog w = .ok (.value (.tuple #[.int .u64 (s64 x y c), .int .u64 (k64 x y c)])) w := by
  rw [run_callFunc_extern Tryz.func116 (by kernel_rfl) (by kernel_rfl) (by kernel_rfl) (e := add64Entry) (by kernel_rfl), run_add64 x y c hx hy hc0 hc]
  rfl

theorem add_words (a b : Nat) : s64 (loN a) (loN b) 0 = loN (a + b) ∧ s64 (hiN a) (hiN b) (k64 (loN a) (loN b) 0) = hiN ((a + b) % 2 ^ 128) ∧
    (k64 (hiN a) (hiN b) (k64 (loN a) (loN b) 0) = ((a + b) / 2 ^ 128 : Nat)) := by
  unfold s64 k64 hiN loN; omega

set_option maxRecDepth 100000 in
set_option maxHeartbeats 400000 in
theorem wide_add_ok (ah al bh bl : Int) (a b : Nat) (ha : WN ah al a) (hb : WN bh bl b) (h : a + b < 2 ^ 128) (w : World) :
    Calls Tryz.prog 97 #[.agg #[.int .u64 ah, .int .u64 al], .agg #[.int .u64 bh, .int .u64 bl]] w fun e w' =>
      e = .returned (.tuple #[.agg #[.int .u64 (hiN (a + b)), .int .u64 (loN (a + b))], .int .i64 0]) ∧ Below w.heap.size w w' := by
  obtain ⟨rfl, rfl, ha⟩ := ha
  obtain ⟨rfl, rfl, hb⟩ := hb
  obtain ⟨e1, e2, e3⟩ := add_words a b
  rw [Nat.mod_eq_of_lt h] at e2
  rw [Nat.div_eq_of_lt h] at e3
  obtain ⟨a1, a2⟩ := hiN_bd a ha
  obtain ⟨a3, a4⟩ := loN_bd a
  obtain ⟨b1, b2⟩ := hiN_bd b hb
  obtain ⟨b3, b4⟩ := loN_bd b
  obtain ⟨k0, k1⟩ := k64_bd (loN a) (loN b) 0 ⟨a3, a4⟩ ⟨b3, b4⟩ (by omega)
  have E1 := Lib.hid e1
  have E2 := Lib.hid e2
  have hk : k64 (hiN a) (hiN b) (k64 (loN a) (loN b) 0) ≤ 0 := by omega
  clear e1 e2 e3 ha hb h
  go_enter Tryz.func97, Tryz.ntmps97
  go_wp2_with (first | simp only [add64 (loN a) (loN b) 0 a3 b3 (Int.le_refl 0) (by decide)] | simp only [add64 (hiN a) (hiN b) _ a1 b1 k0 k1])
  rw [E1.out, E2.out]
  refine bodyPost_ret (v := .tuple #[.agg #[.int .u64 (hiN (a + b)), .int .u64 (loN (a + b))], .int .i64 0]) (by simp [results, Tryz.results97, go_sem]) rfl ⟨rfl, ?_⟩
  exact (((Below.refl _ _).alloc (Nat.le_refl _) _).alloc (by simp) _).alloc (by simp; omega) _

set_option maxRecDepth 100000 in
set_option maxHeartbeats 400000 in
theorem wide_add_large (ah al bh bl : Int) (a b : Nat) (ha : WN ah al a) (hb : WN bh bl b) (h : 2 ^ 128 ≤ a + b) (w : World) :
    Calls Tryz.prog 97 #[.agg #[.int .u64 ah, .int .u64 al], .agg #[.int .u64 bh, .int .u64 bl]] w fun e w' =>
      e = .returned (.tuple #[.agg #[.int .u64 0, .int .u64 0], .int .i64 2]) ∧ Below w.heap.size w w' := by
  obtain ⟨rfl, rfl, ha⟩ := ha
  obtain ⟨rfl, rfl, hb⟩ := hb
  obtain ⟨e1, e2, e3⟩ := add_words a b
  obtain ⟨a1, a2⟩ := hiN_bd a ha
  obtain ⟨a3, a4⟩ := loN_bd a
  obtain ⟨b1, b2⟩ := hiN_bd b hb
  obtain ⟨b3, b4⟩ := loN_bd b
  obtain ⟨k0, k1⟩ := k64_bd (loN a) (loN b) 0 ⟨a3, a4⟩ ⟨b3, b4⟩ (by omega)
  have hk : 0 < k64 (hiN a) (hiN b) (k64 (loN a) (loN b) 0) := by
    rw [e3]
    have : 1 ≤ (a + b) / 2 ^ 128 := by rw [Nat.le_div_iff_mul_le (by decide)]; omega
    omega
  clear e1 e2 e3 ha hb h
  go_enter Tryz.func97, Tryz.ntmps97
  go_wp2_with (first | simp only [add64 (loN a) (loN b) 0 a3 b3 (Int.le_refl 0) (by decide)] | simp only [add64 (hiN a) (hiN b) _ a1 b1 k0 k1])
  refine bodyPost_ret (v := .tuple #[.agg #[.int .u64 0, .int .u64 0], .int .i64 2]) (by simp [results, Tryz.results97, go_sem]) rfl ⟨rfl, ?_⟩
  exact (((Below.refl _ _).alloc (Nat.le_refl _) _).alloc (by simp) _).alloc (by simp; omega) _

theorem wide_add_any (ah al bh bl : Int) (a b : Nat) (ha : WN ah al a) (hb : WN bh bl b) (w : World) :
    Calls Tryz.prog 97 #[.agg #[.int .u64 ah, .int .u64 al], .agg #[.int .u64 bh, .int .u64 bl]] w fun e w' =>
      e = .returned (.tuple #[.agg #[.int .u64 (hiN (fitN (a + b))), .int .u64 (loN (fitN (a + b)))], .int .i64 (fitE (a + b))]) ∧ Below w.heap.size w w' := by
  unfold fitN fitE
  by_cases h : a + b < 2 ^ 128
  · rw [if_pos h, if_pos h]; exact wide_add_ok ah al bh bl a b ha hb h w
  · rw [if_neg h, if_neg h]; exact wide_add_large ah al bh bl a b ha hb (by omega) w

end Go.Proofs.YtcikljcjhijjdabGreat

namespace Go.Proofs.YtcikljcjhijjdabGreat
open Go.RowKit
set_option linter.unusedSimpArgs false
set_option linter.unusedVariables false

theorem hilo_lt (a b : Nat) : a < b ↔ (hiN a < hiN b ∨ (hiN a = hiN b ∧ loN a < loN b)) := by unfold hiN loN; omega
theorem hilo_eq (a b : Nat) : a = b ↔ (hiN a = hiN b ∧ loN a = loN b) := by unfold hiN loN; omega

set_option maxRecDepth 100000 in
set_option maxHeartbeats 1000000 in
theorem wide_cmp (ah al bh bl : Int) (a b : Nat) (ha : WN ah al a) (hb : WN bh bl b) (w : World) :
    Calls Tryz.prog 119 #[.agg #[.int .u64 ah, .int .u64 al], .agg #[.int .u64 bh, .int .u64 bl]] w fun e w' => e = .returned (.int .i64 (cmpN a b)) ∧ Below w.heap.size w w' := by
  obtain ⟨rfl, rfl, ha⟩ := ha
  obtain ⟨rfl, rfl, hb⟩ := hb
  have hl := hilo_lt a b
  have he := hilo_eq a b
  have hbel : ∀ o1 o2, Below w.heap.size w ((w.alloc o1).alloc o2) := fun o1 o2 => ((Below.refl _ _).alloc (Nat.le_refl _) _).alloc (by simp) _
  have HBE := Lib.hid hbel
  clear ha hb hbel
  by_cases h1 : hiN a = hiN b
  · by_cases h2 : loN a = loN b
    · have h3 : a = b := he.2 ⟨h1, h2⟩
      subst h3
      clear hl he h1 h2
      go_enter Tryz.func119, Tryz.ntmps119
      go_wp2
      go_ret
      exact ⟨ret_int (by simp [cmpN]), HBE.out _ _⟩
    · have h2b : (loN a == loN b) = false := by simpa using h2
      rw [h1]
      have HL := Lib.hid hl
      have HE := Lib.hid he
      have H1 := Lib.hid h1
      have H2 := Lib.hid h2
      rcases Int.lt_or_gt_of_ne h2 with h3 | h3
      · clear hl he h1 h2
        go_enter Tryz.func119, Tryz.ntmps119
        go_wp2
        go_ret
        have : a < b := HL.out.2 (.inr ⟨H1.out, h3⟩)
        exact ⟨ret_int (by simp [cmpN, this]), HBE.out _ _⟩
      · clear hl he h1 h2
        go_enter Tryz.func119, Tryz.ntmps119
        go_wp2
        go_ret
        have h4 : ¬ a < b := fun h => by
          have := HL.out.1 h
          have := H1.out
          omega
        have h5 : a ≠ b := fun h => H2.out (HE.out.1 h).2
        have h6 : b < a := by omega
        exact ⟨ret_int (by simp [cmpN, h4, h6]), HBE.out _ _⟩
  · have h2b : (hiN a == hiN b) = false := by simpa using h1
    have HL := Lib.hid hl
    have HE := Lib.hid he
    have H1 := Lib.hid h1
    rcases Int.lt_or_gt_of_ne h1 with h3 | h3
    · clear hl he h1
      go_enter Tryz.func119, Tryz.ntmps119
      go_wp2
      go_ret
      have : a < b := HL.out.2 (.inl h3)
      exact ⟨ret_int (by simp [cmpN, this]), HBE.out _ _⟩
    · clear hl he h1
      go_enter Tryz.func119, Tryz.ntmps119
      go_wp2
      go_ret
      have h4 : ¬ a < b := fun h => by
        have := HL.out.1 h
        omega
      have h5 : a ≠ b := fun h => H1.out (HE.out.1 h).1
      have h6 : b < a := by omega
      exact ⟨ret_int (by simp [cmpN, h4, h6]), HBE.out _ _⟩

end Go.Proofs.YtcikljcjhijjdabGreat

namespace Go.Proofs.YtcikljcjhijjdabGreat
open Go.RowKit
set_option linter.unusedSimpArgs false
set_option linter.unusedVariables false

set_option maxRecDepth 100000 in
theorem within_any (x a b : Int) (w : World) :
    Calls Tryz.prog 31 #[.int .i64 x, .int .i64 a, .int .i64 b] w fun e w' => e = .returned (.bool (wi x a b)) ∧ w = w' := by
  unfold wi
  go_enter Tryz.func31, Tryz.ntmps31
  go_wp2
  all_goals (go_ret; simp [*] <;> omega)

end Go.Proofs.YtcikljcjhijjdabGreat

namespace Go.Proofs.YtcikljcjhijjdabGreat
open Go.RowKit
set_option linter.unusedSimpArgs false
set_option linter.unusedVariables false

def GateOk (i s d : Int) : Prop := 0 ≤ i ∧ i ≤ 2147483647 ∧ 0 ≤ s ∧ s ≤ 2147483647 ∧ 0 ≤ d ∧ d ≤ 1073741824 ∧ (s = 0 → i = 0)
def BeatNo (inc seq : Int) : Prop := 0 ≤ inc ∧ inc ≤ 2147483647 ∧ 1 ≤ seq ∧ seq ≤ 2147483647
def Newer (i s inc seq : Int) : Prop := i < inc ∨ (inc = i ∧ s < seq)
instance (i s d : Int) : Decidable (GateOk i s d) := by unfold GateOk; infer_instance
instance (i s : Int) : Decidable (BeatNo i s) := by unfold BeatNo; infer_instance
instance (i s a b : Int) : Decidable (Newer i s a b) := by unfold Newer; infer_instance
def gateE (i s d : Int) : Int := if GateOk i s d then 0 else 1

set_option maxRecDepth 100000 in
theorem gate_check (i s d : Int) (w : World) :
    Calls Tryz.prog 104 #[.agg #[.int .i64 i, .int .i64 s, .int .i64 d]] w fun e w' => e = .returned (.int .i64 (gateE i s d)) ∧ Below w.heap.size w w' := by
  go_enter Tryz.func104, Tryz.ntmps104
  go_wp2
  all_goals (go_ret; refine ⟨ret_int ?_, (Below.refl _ _).alloc (Nat.le_refl _) _⟩; simp_all [gateE, GateOk] <;> omega)










theorem check_ok (i s d : Int) (h : GateOk i s d) (w : World) :
    Calls Tryz.prog 104 #[.agg #[.int .i64 i, .int .i64 s, .int .i64 d]] w fun e w' => e = .returned (.int .i64 0) ∧ Below w.heap.size w w' := by
  have := gate_check i s d w
  rwa [gateE, if_pos h] at this
theorem check_bad (i s d : Int) (h : ¬ GateOk i s d) (w : World) :
    Calls Tryz.prog 104 #[.agg #[.int .i64 i, .int .i64 s, .int .i64 d]] w fun e w' => e = .returned (.int .i64 1) ∧ Below w.heap.size w w' := by
  have := gate_check i s d w
  rwa [gateE, if_neg h] at this









set_option maxRecDepth 100000 in
set_option maxHeartbeats 1000000 in
theorem take_badgate (i s d inc seq : Int) (h : ¬ GateOk i s d) (w : World) :
    Calls Tryz.prog 88 #[.agg #[.int .i64 i, .int .i64 s, .int .i64 d], .int .i64 inc, .int .i64 seq] w fun e w' =>
      e = .returned (.tuple #[.agg #[.int .i64 0, .int .i64 0, .int .i64 0], .bool false, .int .i64 1]) ∧ Below w.heap.size w w' := by
  have H := Lib.hid h
  have E := Lib.hid (((Env.start w).lay #[.int .i64 i, .int .i64 s, .int .i64 d] 87).lay #[.int .i64 0, .int .i64 0, .int .i64 0] 87)
  clear h
  go_enter Tryz.func88, Tryz.ntmps88
  go_wp2_with fail
  refine (check_bad _ _ _ H.out _).mono ?_
  rintro e w1 ⟨rfl, hb1⟩
  have E1 := Lib.hid (E.out.below hb1)
  clear hb1
  have p0 := E1.out.hd.lt
  have p1 := E1.out.tl.hd.lt
  have b0 := E1.out.hd.cell 0
  have b1 := E1.out.hd.cell 1
  have b2 := E1.out.hd.cell 2
  have a0 := E1.out.tl.hd.cell 0
  have a1 := E1.out.tl.hd.cell 1
  have a2 := E1.out.tl.hd.cell 2
  have f0 := E1.out.hd.frozen 0
  have f1 := E1.out.hd.frozen 1
  have f2 := E1.out.hd.frozen 2
  have f3 := E1.out.tl.hd.frozen 2
  simp at a0 a1 a2 b0 b1 b2 f0 f1 f2 f3 p0 p1
  go_wp2
  refine bodyPost_ret (v := .tuple #[.agg #[.int .i64 0, .int .i64 0, .int .i64 0], .bool false, .int .i64 1]) (by simp [results, Tryz.results88, go_sem, b0, b1, b2, a0, a1, a2] <;> omega) rfl ⟨rfl, ?_⟩
  exact ((E1.out.bel.setCell (by simp) _).setCell (by simp) _).setCell (by simp) _

set_option maxRecDepth 100000 in
set_option maxHeartbeats 1000000 in
theorem take_badarg (i s d inc seq : Int) (h : GateOk i s d) (hn : ¬ BeatNo inc seq) (w : World) :
    Calls Tryz.prog 88 #[.agg #[.int .i64 i, .int .i64 s, .int .i64 d], .int .i64 inc, .int .i64 seq] w fun e w' =>
      e = .returned (.tuple #[.agg #[.int .i64 0, .int .i64 0, .int .i64 0], .bool false, .int .i64 1]) ∧ Below w.heap.size w w' := by
  have H := Lib.hid h
  have hn' : inc < 0 ∨ 2147483648 ≤ inc ∨ seq < 1 ∨ 2147483648 ≤ seq := by unfold BeatNo at hn; omega
  have E := Lib.hid (((Env.start w).lay #[.int .i64 i, .int .i64 s, .int .i64 d] 87).lay #[.int .i64 0, .int .i64 0, .int .i64 0] 87)
  clear h hn
  go_enter Tryz.func88, Tryz.ntmps88
  go_wp2_with fail
  refine (check_ok _ _ _ H.out _).mono ?_
  rintro e w1 ⟨rfl, hb1⟩
  have E1 := Lib.hid (E.out.below hb1)
  clear hb1
  have p0 := E1.out.hd.lt
  have p1 := E1.out.tl.hd.lt
  have b0 := E1.out.hd.cell 0
  have b1 := E1.out.hd.cell 1
  have b2 := E1.out.hd.cell 2
  have a0 := E1.out.tl.hd.cell 0
  have a1 := E1.out.tl.hd.cell 1
  have a2 := E1.out.tl.hd.cell 2
  have f0 := E1.out.hd.frozen 0
  have f1 := E1.out.hd.frozen 1
  have f2 := E1.out.hd.frozen 2
  have f3 := E1.out.tl.hd.frozen 2
  simp at a0 a1 a2 b0 b1 b2 f0 f1 f2 f3 p0 p1
  go_wp2
  all_goals first
    | (exfalso; omega)
    | (refine bodyPost_ret (v := .tuple #[.agg #[.int .i64 0, .int .i64 0, .int .i64 0], .bool false, .int .i64 1]) (by simp [results, Tryz.results88, go_sem, b0, b1, b2, a0, a1, a2] <;> omega) rfl ⟨rfl, ?_⟩
       exact ((E1.out.bel.setCell (by simp) _).setCell (by simp) _).setCell (by simp) _)

set_option maxRecDepth 100000 in
set_option maxHeartbeats 1000000 in
theorem take_new (i s d inc seq : Int) (h : GateOk i s d) (hn : BeatNo inc seq) (hg : Newer i s inc seq) (w : World) :
    Calls Tryz.prog 88 #[.agg #[.int .i64 i, .int .i64 s, .int .i64 d], .int .i64 inc, .int .i64 seq] w fun e w' =>
      e = .returned (.tuple #[.agg #[.int .i64 inc, .int .i64 seq, .int .i64 d], .bool true, .int .i64 0]) ∧ Below w.heap.size w w' := by
  have H := Lib.hid h
  obtain ⟨n0, n1, n2, n3⟩ := hn
  unfold Newer at hg
  have E := Lib.hid (((Env.start w).lay #[.int .i64 i, .int .i64 s, .int .i64 d] 87).lay #[.int .i64 0, .int .i64 0, .int .i64 0] 87)
  clear h
  go_enter Tryz.func88, Tryz.ntmps88
  go_wp2_with fail
  refine (check_ok _ _ _ H.out _).mono ?_
  rintro e w1 ⟨rfl, hb1⟩
  have E1 := Lib.hid (E.out.below hb1)
  clear hb1
  have p0 := E1.out.hd.lt
  have p1 := E1.out.tl.hd.lt
  have b0 := E1.out.hd.cell 0
  have b1 := E1.out.hd.cell 1
  have b2 := E1.out.hd.cell 2
  have a0 := E1.out.tl.hd.cell 0
  have a1 := E1.out.tl.hd.cell 1
  have a2 := E1.out.tl.hd.cell 2
  have f0 := E1.out.hd.frozen 0
  have f1 := E1.out.hd.frozen 1
  have f2 := E1.out.hd.frozen 2
  have f3 := E1.out.tl.hd.frozen 2
  simp at a0 a1 a2 b0 b1 b2 f0 f1 f2 f3 p0 p1
  go_wp2
  all_goals first
    | (exfalso; omega)
    | (exfalso; simp_all; omega)
    | (refine bodyPost_ret (v := .tuple #[.agg #[.int .i64 inc, .int .i64 seq, .int .i64 d], .bool true, .int .i64 0]) (by simp [results, Tryz.results88, go_sem, b0, b1, b2, a0, a1, a2] <;> omega) rfl ⟨rfl, ?_⟩
       exact ((E1.out.bel.setCell (by simp) _).setCell (by simp) _).setCell (by simp) _)

set_option maxRecDepth 100000 in
set_option maxHeartbeats 1000000 in
theorem take_old (i s d inc seq : Int) (h : GateOk i s d) (hn : BeatNo inc seq) (hg : ¬ Newer i s inc seq) (m : Int) (hm : min (d + 1) 1073741824 = m) (w : World) :
    Calls Tryz.prog 88 #[.agg #[.int .i64 i, .int .i64 s, .int .i64 d], .int .i64 inc, .int .i64 seq] w fun e w' =>
      e = .returned (.tuple #[.agg #[.int .i64 i, .int .i64 s, .int .i64 m], .bool false, .int .i64 0]) ∧ Below w.heap.size w w' := by
  have H := Lib.hid h
  obtain ⟨n0, n1, n2, n3⟩ := hn
  have hg1 : inc ≤ i := by unfold Newer at hg; omega
  have hg2 : inc < i ∨ seq ≤ s := by unfold Newer at hg; omega
  have hd0 : 0 ≤ d := h.2.2.2.2.1
  have hd1 : d ≤ 1073741824 := h.2.2.2.2.2.1
  have E := Lib.hid (((Env.start w).lay #[.int .i64 i, .int .i64 s, .int .i64 d] 87).lay #[.int .i64 0, .int .i64 0, .int .i64 0] 87)
  clear h hg
  go_enter Tryz.func88, Tryz.ntmps88
  go_wp2_with fail
  refine (check_ok _ _ _ H.out _).mono ?_
  rintro e w1 ⟨rfl, hb1⟩
  have E1 := Lib.hid (E.out.below hb1)
  clear hb1
  have p0 := E1.out.hd.lt
  have p1 := E1.out.tl.hd.lt
  have b0 := E1.out.hd.cell 0
  have b1 := E1.out.hd.cell 1
  have b2 := E1.out.hd.cell 2
  have a0 := E1.out.tl.hd.cell 0
  have a1 := E1.out.tl.hd.cell 1
  have a2 := E1.out.tl.hd.cell 2
  have f0 := E1.out.hd.frozen 0
  have f1 := E1.out.hd.frozen 1
  have f2 := E1.out.hd.frozen 2
  have f3 := E1.out.tl.hd.frozen 2
  simp at a0 a1 a2 b0 b1 b2 f0 f1 f2 f3 p0 p1
  go_wp2
  all_goals first
    | (exfalso; omega)
    | (exfalso; simp_all; omega)
    | (refine bodyPost_ret (v := .tuple #[.agg #[.int .i64 i, .int .i64 s, .int .i64 m], .bool false, .int .i64 0]) (by simp [results, Tryz.results88, go_sem, b0, b1, b2, a0, a1, a2] <;> omega) rfl ⟨rfl, ?_⟩
       exact (((E1.out.bel.setCell (by simp) _).setCell (by simp) _).setCell (by simp) _).setCell (by simp) _)

theorem packed (i s inc seq : Int) (hs0 : 0 ≤ s) (hs1 : s ≤ 2147483647) (h2 : 1 ≤ seq) (h3 : seq ≤ 2147483647) : i * 2147483648 + s < inc * 2147483648 + seq ↔ Newer i s inc seq := by
  unfold Newer; omega

set_option maxRecDepth 100000 in
set_option maxHeartbeats 1000000 in
theorem rtake_new (i s d inc seq : Int) (h : GateOk i s d) (hn : BeatNo inc seq) (hg : Newer i s inc seq) (w : World) :
    Calls Tryz.prog 92 #[.agg #[.int .i64 i, .int .i64 s, .int .i64 d], .int .i64 inc, .int .i64 seq] w fun e w' =>
      e = .returned (.tuple #[.agg #[.int .i64 inc, .int .i64 seq, .int .i64 d], .bool true]) ∧ Below w.heap.size w w' := by
  have hp := (packed i s inc seq h.2.2.1 h.2.2.2.1 hn.2.2.1 hn.2.2.2).2 hg
  obtain ⟨n0, n1, n2, n3⟩ := hn
  obtain ⟨g0, g1, g2, g3, g4, g5, -⟩ := h
  clear hg
  go_enter Tryz.func92, Tryz.ntmps92
  go_wp2
  all_goals first
    | (exfalso; omega)
    | (refine bodyPost_ret (v := .tuple #[.agg #[.int .i64 inc, .int .i64 seq, .int .i64 d], .bool true]) (by simp [results, Tryz.results92, go_sem]) rfl ⟨rfl, ?_⟩
       exact (((Below.refl _ _).alloc (Nat.le_refl _) _).alloc (by simp) _))

set_option maxRecDepth 100000 in
set_option maxHeartbeats 1000000 in
theorem rtake_old (i s d inc seq : Int) (h : GateOk i s d) (hn : BeatNo inc seq) (hg : ¬ Newer i s inc seq) (m : Int) (hm : min (d + 1) 1073741824 = m) (w : World) :
    Calls Tryz.prog 92 #[.agg #[.int .i64 i, .int .i64 s, .int .i64 d], .int .i64 inc, .int .i64 seq] w fun e w' =>
      e = .returned (.tuple #[.agg #[.int .i64 i, .int .i64 s, .int .i64 m], .bool false]) ∧ Below w.heap.size w w' := by
  have hp : ¬ _ := fun x => hg ((packed i s inc seq h.2.2.1 h.2.2.2.1 hn.2.2.1 hn.2.2.2).1 x)
  obtain ⟨n0, n1, n2, n3⟩ := hn
  obtain ⟨g0, g1, g2, g3, g4, g5, -⟩ := h
  have HM := Lib.hid hm
  clear hg hm
  go_enter Tryz.func92, Tryz.ntmps92
  go_wp2
  all_goals first
    | (exfalso; omega)
    | (have hm' : m = d + 1 := by have := HM.out; omega
       subst hm'
       refine bodyPost_ret (v := .tuple #[.agg #[.int .i64 i, .int .i64 s, .int .i64 (d + 1)], .bool false]) (by simp [results, Tryz.results92, go_sem]) rfl ⟨rfl, ?_⟩
       exact (((Below.refl _ _).alloc (Nat.le_refl _) _).alloc (by simp) _))
    | (have hm' : m = d := by have := HM.out; omega
       subst hm'
       refine bodyPost_ret (v := .tuple #[.agg #[.int .i64 i, .int .i64 s, .int .i64 m], .bool false]) (by simp [results, Tryz.results92, go_sem]) rfl ⟨rfl, ?_⟩
       exact (((Below.refl _ _).alloc (Nat.le_refl _) _).alloc (by simp) _))
end Go.Proofs.YtcikljcjhijjdabGreat

namespace Go.Proofs.YtcikljcjhijjdabGreat
open Go.RowKit
set_option linter.unusedSimpArgs false
set_option linter.unusedVariables false

def offI (c : Int) : Bool := !wi c 0 16777216
def listE (l : List Int) : Int := if 64 < l.length then 2 else if l.any offI then 1 else 0

set_option maxRecDepth 100000 in
theorem lval_any (x : Int) (w : World) :
    Calls Tryz.prog 72 #[.int .i64 x] w fun e w' => e = .returned (.bool (wi x 0 16777216)) ∧ w = w' := by
  unfold wi
  go_enter Tryz.func72, Tryz.ntmps72
  go_wp2
  all_goals (go_ret; simp [*] <;> omega)
set_option maxRecDepth 100000 in
theorem lrval_any (x : Int) (w : World) :
    Calls Tryz.prog 79 #[.int .i64 x] w fun e w' => e = .returned (.bool (wi x 0 16777216)) ∧ w = w' := by
  go_enter Tryz.func79, Tryz.ntmps79
  go_wp2_with (go_at_call 31; refine (within_any _ _ _ _).mono ?_; rintro e w' ⟨rfl, rfl⟩)
  all_goals (go_ret; simp [*])
set_option maxRecDepth 100000 in
theorem list1_any (c : Int) (w : World) :
    Calls Tryz.prog 127 #[.int .i64 c] w fun e w' => e = .returned (.bool (offI c)) ∧ w = w' := by
  unfold offI
  go_enter Tryz.func127, Tryz.ntmps127
  go_wp2_with (go_at_call 72; refine (lval_any _ _).mono ?_; rintro e w' ⟨rfl, rfl⟩)
  go_ret
  exact ⟨rfl, rfl⟩

set_option maxRecDepth 100000 in
set_option maxHeartbeats 400000 in
theorem idx_ints (A : Option Addr) (c B : Nat) (l : List Int) (hm : l.length ≤ 100000) (w : World) (hr : Reads w B 1 A l.length (cellsI l)) :
    Calls Tryz.prog 130 #[.slice A l.length c, .func (.func 127) #[] #[]] w (SomeIdxI (l.any offI) w) := by
  generalize hn : l.length = n at *
  have HN := Lib.hid hn
  have HC := Lib.hid hr
  clear hn hr
  by_cases hz : n = 0
  · have HZ := Lib.hid hz
    have hz' : n < 1 := by omega
    clear hz
    go_enter Tryz.func130, Tryz.ntmps130
    go_wp2
    go_loop [8] (fun i => i = .int .i64 0) (fun i => 0)
    case atStart => exact rfl
    case round =>
      subst hrel
      go_wp2
      go_ret
      refine ⟨-1, ?_, rfl, rfl⟩
      have : l = [] := List.eq_nil_of_length_eq_zero (by rw [HN.out, HZ.out])
      rw [this]; rfl
  · obtain ⟨b, off, rfl, hb, hcells⟩ := HC.out.addr (by omega)
    have HCC := Lib.hid hcells
    clear hcells hz
    go_enter Tryz.func130, Tryz.ntmps130
    go_wp2
    go_loop [5, 8] (fun _ i => ∃ k : Nat, k ≤ n ∧ i = .int .i64 k ∧ (l.take k).any offI = false) (fun _ i => n - (intOf i).toNat)
    case atStart => exact ⟨0, Nat.zero_le _, rfl, rfl⟩
    case round =>
      obtain ⟨k, hk, rfl, hrel⟩ := hrel
      have HR := Lib.hid hrel
      clear hrel
      by_cases hlt : k < n
      · have hcell := HCC.out k _ (cellsI_at l k (by rw [HN.out]; exact hlt))
        have HX := Lib.hid (anyI_step (by rw [HN.out]; exact hlt) HR.out)
        generalize hx : l.getD k 0 = x at *
        clear hx
        go_wp2_with (go_at_call 127; refine (list1_any _ _).mono ?_; rintro e w' ⟨rfl, rfl⟩)
        go_ways
        · rename_i ho
          go_ret
          exact ⟨k, by rw [anyI_take (HX.out.trans ho)]; simp, rfl, rfl⟩
        · rename_i ho
          refine ⟨⟨k + 1, hlt, by simp, HX.out.trans ho⟩, ?_⟩
          simp [intOf]
          omega
      · go_wp2
        go_ret
        refine ⟨-1, ?_, rfl, rfl⟩
        have : l.take k = l := by rw [List.take_of_length_le]; have := HN.out; omega
        have h2 := HR.out
        rw [this] at h2
        rw [h2]
        rfl

set_option maxRecDepth 100000 in
theorem contains_ints (A : Option Addr) (c B : Nat) (l : List Int) (hm : l.length ≤ 100000) (w : World) (hr : Reads w B 1 A l.length (cellsI l)) :
    Calls Tryz.prog 126 #[.slice A l.length c, .func (.func 127) #[] #[]] w fun e w' => e = .returned (.bool (l.any offI)) ∧ w = w' := by
  have HC := Lib.hid hr
  clear hr
  go_enter Tryz.func126, Tryz.ntmps126
  go_wp2_with fail
  refine (idx_ints _ _ _ _ hm _ HC.out).mono ?_
  rintro e w' ⟨k, hk, rfl, rfl⟩
  go_wp2
  go_ret
  first | exact ⟨rfl, rfl⟩ | exact ⟨ret_bool hk, rfl⟩

set_option maxRecDepth 100000 in
theorem wlist_any (A : Option Addr) (c B : Nat) (l : List Int) (hm : l.length ≤ maxLen) (w : World) (hr : Reads w B 1 A l.length (cellsI l)) :
    Calls Tryz.prog 121 #[.slice A l.length c] w fun e w' => e = .returned (.int .i64 (listE l)) ∧ w = w' := by
  have HC := Lib.hid hr
  clear hr
  unfold listE
  by_cases h : 64 < l.length
  · rw [if_pos h]
    go_enter Tryz.func121, Tryz.ntmps121
    go_wp2
    go_ret
    exact ⟨rfl, rfl⟩
  · rw [if_neg h]
    go_enter Tryz.func121, Tryz.ntmps121
    go_wp2_with fail
    refine (contains_ints _ _ _ _ (by omega) _ HC.out).mono ?_
    rintro e w' ⟨rfl, rfl⟩
    go_wp2
    all_goals (go_ret; exact ⟨ret_int (by simp [*]), rfl⟩)











































































end Go.Proofs.YtcikljcjhijjdabGreat

namespace Go.Proofs.YtcikljcjhijjdabGreat
open Go.RowKit
set_option linter.unusedSimpArgs false
set_option linter.unusedVariables false

theorem vals_of {l : List Int} (h : l.any offI = false) (j : Nat) (hj : j < l.length) : 0 ≤ l.getD j 0 ∧ l.getD j 0 ≤ 16777216 := by
  have h1 : offI (l.getD j 0) = false := by
    rw [List.any_eq_false] at h
    have := h (l.getD j 0) (by simp [List.getD, List.getElem?_eq_getElem hj])
    simpa using this
  unfold offI at h1
  exact wi_true.1 (by simpa using h1)
theorem listE_zero {l : List Int} (h : listE l = 0) : l.length ≤ 64 ∧ l.any offI = false := by
  unfold listE at h
  split at h
  · simp at h
  · split at h
    · simp at h
    · rename_i h1 h2; exact ⟨by omega, by simpa using h2⟩
theorem wlist_is (A : Option Addr) (c B : Nat) (l : List Int) (n : Nat) (hn : l.length = n) (e : Int) (h : listE l = e) (hm : n ≤ maxLen) (w : World) (hr : Reads w B 1 A n (cellsI l)) :
    Calls Tryz.prog 121 #[.slice A n c] w fun e' w' => e' = .returned (.int .i64 e) ∧ w = w' := by
  subst hn h; exact wlist_any A c B l hm w hr

end Go.Proofs.YtcikljcjhijjdabGreat

namespace Go.Proofs.YtcikljcjhijjdabGreat
open Go.RowKit
set_option linter.unusedSimpArgs false
set_option linter.unusedVariables false

def SumsArg (n s q : Int) : Prop := 0 ≤ n ∧ n ≤ 64 ∧ 0 ≤ s ∧ s ≤ n * 16777216 ∧ s ≤ q ∧ q ≤ s * 16777216
instance (n s q : Int) : Decidable (SumsArg n s q) := by unfold SumsArg; infer_instance
def sumsE (n s q : Int) : Int := if SumsArg n s q then (if n * q < s * s then 9 else 0) else 1

theorem SumsArg.bounds {n s q : Int} (h : SumsArg n s q) : s ≤ 1073741824 ∧ q ≤ 18014398509481984 ∧ 0 ≤ n * q ∧ n * q ≤ 1152921504606846976 ∧ 0 ≤ s * s ∧ s * s ≤ 1152921504606846976 := by
  obtain ⟨h0, h1, h2, h3, h4, h5⟩ := h
  have hs : s ≤ 1073741824 := by omega
  have hq : q ≤ 18014398509481984 := by omega
  have hq0 : 0 ≤ q := by omega
  refine ⟨hs, hq, Int.mul_nonneg h0 hq0, ?_, Int.mul_nonneg h2 h2, ?_⟩
  · have := Int.mul_le_mul h1 hq hq0 (by omega : (0 : Int) ≤ 64)
    omega
  · have := Int.mul_le_mul hs hs h2 (by omega : (0 : Int) ≤ 1073741824)
    omega

set_option maxRecDepth 100000 in
theorem wval_any (x : Int) (w : World) :
    Calls Tryz.prog 72 #[.int .i64 x] w fun e w' => e = .returned (.bool (wi x 0 16777216)) ∧ w = w' := by
  unfold wi
  go_enter Tryz.func72, Tryz.ntmps72
  go_wp2
  all_goals (go_ret; simp [*] <;> omega)
set_option maxRecDepth 100000 in
theorem rval_any (x : Int) (w : World) :
    Calls Tryz.prog 79 #[.int .i64 x] w fun e w' => e = .returned (.bool (wi x 0 16777216)) ∧ w = w' := by
  go_enter Tryz.func79, Tryz.ntmps79
  go_wp2_with (go_at_call 31; refine (within_any _ _ _ _).mono ?_; rintro e w' ⟨rfl, rfl⟩)
  all_goals (go_ret; simp [*])

set_option maxRecDepth 100000 in
set_option maxHeartbeats 1000000 in
theorem stat_check_bad (n s q : Int) (h : ¬ SumsArg n s q) (w : World) :
    Calls Tryz.prog 124 #[.agg #[.int .i64 n, .int .i64 s, .int .i64 q]] w fun e w' => e = .returned (.int .i64 1) ∧ Below w.heap.size w w' := by
  have h' : n < 0 ∨ 64 < n ∨ s < 0 ∨ q < 0 ∨ n * 16777216 < s ∨ s * 16777216 < q ∨ q < s := by unfold SumsArg at h; omega
  clear h
  go_enter Tryz.func124, Tryz.ntmps124
  go_wp2
  all_goals first
    | (exfalso; omega)
    | (go_ret; exact ⟨rfl, (Below.refl _ _).alloc (Nat.le_refl _) _⟩)

set_option maxRecDepth 100000 in
set_option maxHeartbeats 1000000 in
theorem stat_check_good (n s q : Int) (h : SumsArg n s q) (w : World) :
    Calls Tryz.prog 124 #[.agg #[.int .i64 n, .int .i64 s, .int .i64 q]] w fun e w' => e = .returned (.int .i64 (if n * q < s * s then 9 else 0)) ∧ Below w.heap.size w w' := by
  obtain ⟨b1, b2, b3, b4, b5, b6⟩ := h.bounds
  obtain ⟨h0, h1, h2, h3, h4, h5⟩ := h
  go_enter Tryz.func124, Tryz.ntmps124
  go_wp2
  all_goals first
    | (exfalso; omega)
    | (go_ret; exact ⟨ret_int (by simp [*] <;> omega), (Below.refl _ _).alloc (Nat.le_refl _) _⟩)

theorem stat_check (n s q : Int) (w : World) :
    Calls Tryz.prog 124 #[.agg #[.int .i64 n, .int .i64 s, .int .i64 q]] w fun e w' => e = .returned (.int .i64 (sumsE n s q)) ∧ Below w.heap.size w w' := by
  unfold sumsE
  by_cases h : SumsArg n s q
  · rw [if_pos h]; exact stat_check_good n s q h w
  · rw [if_neg h]; exact stat_check_bad n s q h w

theorem sumsE_zero {n s q : Int} (h : sumsE n s q = 0) : SumsArg n s q ∧ ¬ n * q < s * s := by
  unfold sumsE at h
  split at h
  · split at h
    · simp at h
    · exact ⟨by assumption, by assumption⟩
  · simp at h
theorem check_is (n s q e : Int) (h : sumsE n s q = e) (w : World) :
    Calls Tryz.prog 124 #[.agg #[.int .i64 n, .int .i64 s, .int .i64 q]] w fun e' w' => e' = .returned (.int .i64 e) ∧ Below w.heap.size w w' := by
  subst h; exact stat_check n s q w
theorem wval_d (x : Int) (b : Bool) (h : wi x 0 16777216 = b) (w : World) :
    Calls Tryz.prog 72 #[.int .i64 x] w fun e w' => e = .returned (.bool b) ∧ w = w' := by
  subst h; exact wval_any x w
theorem rval_d (x : Int) (b : Bool) (h : wi x 0 16777216 = b) (w : World) :
    Calls Tryz.prog 79 #[.int .i64 x] w fun e w' => e = .returned (.bool b) ∧ w = w' := by
  subst h; exact rval_any x w
theorem sq_bounds {v : Int} (h : wi v 0 16777216 = true) : 0 ≤ v ∧ v ≤ 16777216 ∧ 0 ≤ v * v ∧ v * v ≤ 281474976710656 := by
  obtain ⟨h0, h1⟩ := wi_true.1 h
  refine ⟨h0, h1, Int.mul_nonneg h0 h0, ?_⟩
  have := Int.mul_le_mul h1 h1 h0 (by omega : (0 : Int) ≤ 16777216)
  omega
end Go.Proofs.YtcikljcjhijjdabGreat

namespace Go.Proofs.YtcikljcjhijjdabGreat
open Go.RowKit
set_option linter.unusedSimpArgs false
set_option linter.unusedVariables false

set_option maxRecDepth 100000 in
set_option maxHeartbeats 1000000 in
theorem spread_err (n s q : Int) (e : Int) (he : sumsE n s q = e) (hn : e ≠ 0) (w : World) :
    Calls Tryz.prog 115 #[.agg #[.int .i64 n, .int .i64 s, .int .i64 q]] w fun e' w' => e' = .returned (.tuple #[.int .i64 (0), .int .i64 e]) ∧ Below w.heap.size w w' := by
  have HE := Lib.hid he
  clear he
  have E := Lib.hid ((Env.start w).lay #[.int .i64 n, .int .i64 s, .int .i64 q] 115)
  go_enter Tryz.func115, Tryz.ntmps115
  go_wp2_with fail
  refine (check_is _ _ _ _ HE.out _).mono ?_
  rintro e' w1 ⟨rfl, hb1⟩
  have E1 := Lib.hid (E.out.below hb1)
  clear hb1
  have p0 := E1.out.hd.lt
  have a0 := E1.out.hd.cell 0
  have a1 := E1.out.hd.cell 1
  have a2 := E1.out.hd.cell 2
  simp at a0 a1 a2 p0
  go_wp2
  refine bodyPost_ret (v := .tuple #[.int .i64 (0), .int .i64 e]) (by simp [results, Tryz.results115, go_sem] <;> omega) rfl ⟨rfl, E1.out.bel⟩

set_option maxRecDepth 100000 in
set_option maxHeartbeats 1000000 in
theorem spread_ok (n s q : Int) (he : sumsE n s q = 0) (w : World) :
    Calls Tryz.prog 115 #[.agg #[.int .i64 n, .int .i64 s, .int .i64 q]] w fun e' w' => e' = .returned (.tuple #[.int .i64 (n * q - s * s), .int .i64 0]) ∧ Below w.heap.size w w' := by
  have HE := Lib.hid he
  clear he
  obtain ⟨b1, b2, b3, b4, b5, b6⟩ := (sumsE_zero HE.out).1.bounds
  obtain ⟨h0, h1, h2, h3, h4, h5⟩ := (sumsE_zero HE.out).1
  have E := Lib.hid ((Env.start w).lay #[.int .i64 n, .int .i64 s, .int .i64 q] 115)
  go_enter Tryz.func115, Tryz.ntmps115
  go_wp2_with fail
  refine (check_is _ _ _ _ HE.out _).mono ?_
  rintro e' w1 ⟨rfl, hb1⟩
  have E1 := Lib.hid (E.out.below hb1)
  clear hb1
  have p0 := E1.out.hd.lt
  have a0 := E1.out.hd.cell 0
  have a1 := E1.out.hd.cell 1
  have a2 := E1.out.hd.cell 2
  simp at a0 a1 a2 p0
  go_wp2
  refine bodyPost_ret (v := .tuple #[.int .i64 (n * q - s * s), .int .i64 0]) (by simp [results, Tryz.results115, go_sem] <;> omega) rfl ⟨rfl, E1.out.bel⟩

set_option maxRecDepth 100000 in
theorem rspread_ok (n s q : Int) (he : sumsE n s q = 0) (w : World) :
    Calls Tryz.prog 62 #[.agg #[.int .i64 n, .int .i64 s, .int .i64 q]] w fun e' w' => e' = .returned (.int .i64 (n * q - s * s)) ∧ Below w.heap.size w w' := by
  have HE := Lib.hid he
  clear he
  obtain ⟨b1, b2, b3, b4, b5, b6⟩ := (sumsE_zero HE.out).1.bounds
  obtain ⟨h0, h1, h2, h3, h4, h5⟩ := (sumsE_zero HE.out).1
  go_enter Tryz.func62, Tryz.ntmps62
  go_wp2
  go_ret
  exact ⟨rfl, (Below.refl _ _).alloc (Nat.le_refl _) _⟩
end Go.Proofs.YtcikljcjhijjdabGreat

namespace Go.Proofs.YtcikljcjhijjdabGreat
open Go.RowKit
set_option linter.unusedSimpArgs false
set_option linter.unusedVariables false

def s1 : List Int → Int | [] => 0 | x :: l => s1 l + x
def s2 : List Int → Int | [] => 0 | x :: l => s2 l + x * x
theorem s1_snoc (l : List Int) (x : Int) : s1 (l ++ [x]) = s1 l + x := by
  induction l with
  | nil => simp [s1]
  | cons y l ih => simp [s1, ih]; omega
theorem s2_snoc (l : List Int) (x : Int) : s2 (l ++ [x]) = s2 l + x * x := by
  induction l with
  | nil => simp [s2]
  | cons y l ih => simp [s2, ih]; omega
theorem s_bd (l : List Int) (h : l.any offI = false) : 0 ≤ s1 l ∧ s1 l ≤ l.length * 16777216 ∧ 0 ≤ s2 l ∧ s2 l ≤ l.length * 281474976710656 := by
  induction l with
  | nil => simp [s1, s2]
  | cons x l ih =>
    simp only [List.any_cons, Bool.or_eq_false_iff] at h
    obtain ⟨i0, i1, i2, i3⟩ := ih h.2
    have hx : wi x 0 16777216 = true := by have := h.1; unfold offI at this; simpa using this
    obtain ⟨x0, x1⟩ := wi_true.1 hx
    have y0 := Int.mul_nonneg x0 x0
    have y1 := Int.mul_le_mul x1 x1 x0 (by omega : (0 : Int) ≤ 16777216)
    simp only [s1, s2, List.length_cons]
    refine ⟨by omega, by omega, by omega, by omega⟩
theorem take_next (l : List Int) (k : Nat) (h : k < l.length) : l.take (k + 1) = l.take k ++ [l.getD k 0] := by
  rw [List.take_add_one, List.getElem?_eq_getElem h]
  simp [List.getD, List.getElem?_eq_getElem h]
theorem off_take {l : List Int} (h : l.any offI = false) (k : Nat) : (l.take k).any offI = false := by
  rw [List.any_eq_false] at h ⊢
  exact fun x hx => h x (List.mem_of_mem_take hx)
def t1 (l : List Int) (k : Nat) : Int := s1 (l.take k)
def t2 (l : List Int) (k : Nat) : Int := s2 (l.take k)
theorem t_succ (l : List Int) (k : Nat) (h : k < l.length) : t1 l (k + 1) = t1 l k + l.getD k 0 ∧ t2 l (k + 1) = t2 l k + l.getD k 0 * l.getD k 0 := by
  unfold t1 t2
  rw [take_next l k h, s1_snoc, s2_snoc]
  exact ⟨rfl, rfl⟩
theorem t_bd (l : List Int) (k : Nat) (h : l.any offI = false) (h64 : l.length ≤ 64) : 0 ≤ t1 l k ∧ t1 l k ≤ 1073741824 ∧ 0 ≤ t2 l k ∧ t2 l k ≤ 18014398509481984 := by
  obtain ⟨a, b, c, d⟩ := s_bd (l.take k) (off_take h k)
  have : (l.take k).length ≤ 64 := by rw [List.length_take]; omega
  unfold t1 t2
  refine ⟨a, by omega, c, by omega⟩
theorem t_all (l : List Int) : t1 l l.length = s1 l ∧ t2 l l.length = s2 l := by unfold t1 t2; rw [List.take_length]; exact ⟨rfl, rfl⟩

theorem Env.set_hd {w0 W : World} {l : List (Nat × TypeId × Array Value)} {g : Nat} {t : TypeId} {cs : Array Value} (h : Env w0 W ((g, t, cs) :: l)) (hd : ∀ x ∈ l, x.1 ≠ g) (i : Nat) (u : Value) :
    Env w0 (W.setCell ⟨g, i, none⟩ u) ((g, t, cs.setIfInBounds i u) :: l) := by
  have hg := (h.2 _ (List.mem_cons_self ..)).1
  refine ⟨h.1.setCell hg _, fun x hx => ?_⟩
  rcases List.mem_cons.1 hx with rfl | hx
  · exact ⟨hg, h.hd.set_ i u⟩
  · have := h.2 x (List.mem_cons_of_mem _ hx)
    exact ⟨this.1, this.2.far (p := ⟨g, i, none⟩) (hd x hx) u⟩

end Go.Proofs.YtcikljcjhijjdabGreat

namespace Go.Proofs.YtcikljcjhijjdabGreat
open Go.RowKit
set_option linter.unusedSimpArgs false
set_option linter.unusedVariables false

def winE (cap : Int) (l : List Int) : Int := if wi cap 1 64 = true then (if cap < (l.length : Int) then 2 else listE l) else 1
theorem winE_zero {cap : Int} {l : List Int} (h : winE cap l = 0) : 1 ≤ cap ∧ cap ≤ 64 ∧ (l.length : Int) ≤ cap ∧ listE l = 0 := by
  unfold winE at h
  split at h
  · rename_i h1
    obtain ⟨a, b⟩ := wi_true.1 h1
    split at h
    · simp at h
    · exact ⟨a, b, by omega, h⟩
  · simp at h




set_option maxRecDepth 100000 in
set_option maxHeartbeats 1000000 in
theorem wchk_is (cap : Int) (A : Option Addr) (c B n : Nat) (l : List Int) (hn : l.length = n) (e : Int) (he : winE cap l = e) (hm : n ≤ maxLen) (w : World) (hr : Reads w B 1 A n (cellsI l)) (hB : B ≤ w.heap.size) :
    Calls Tryz.prog 105 #[.agg #[.int .i64 cap, .slice A n c]] w fun e' w' => e' = .returned (.int .i64 e) ∧ Below w.heap.size w w' := by
  subst he hn
  unfold winE
  have HC := Lib.hid (hr.alloc hB (.cells #[.int .i64 cap, .slice A l.length c] 85))
  clear hr hB
  by_cases h1 : wi cap 1 64 = true
  · rw [if_pos h1]
    obtain ⟨c0, c1⟩ := wi_true.1 h1
    clear h1
    by_cases h2 : cap < (l.length : Int)
    · rw [if_pos h2]
      generalize l.length = n at *
      go_enter Tryz.func105, Tryz.ntmps105
      go_wp2
      go_ret
      exact ⟨rfl, (Below.refl _ _).alloc (Nat.le_refl _) _⟩
    · rw [if_neg h2]
      have h3 : (l.length : Int) ≤ cap := by omega
      clear h2
      generalize hn : l.length = n at *
      have HN := Lib.hid hn
      generalize he : listE l = e
      have HE := Lib.hid he
      clear hn he
      go_enter Tryz.func105, Tryz.ntmps105
      go_wp2_with fail
      refine (wlist_is _ _ _ l n HN.out _ HE.out (by omega) _ HC.out).mono ?_
      rintro e' w' ⟨rfl, rfl⟩
      go_wp2
      go_ret
      exact ⟨rfl, (Below.refl _ _).alloc (Nat.le_refl _) _⟩
  · rw [if_neg h1]
    have h2 : cap < 1 ∨ 64 < cap := by
      have := wi_false.1 (by simpa using h1)
      exact this
    clear h1
    generalize l.length = n at *
    go_enter Tryz.func105, Tryz.ntmps105
    go_wp2
    all_goals first
      | (exfalso; omega)
      | (go_ret; exact ⟨rfl, (Below.refl _ _).alloc (Nat.le_refl _) _⟩)









































end Go.Proofs.YtcikljcjhijjdabGreat
