/- The law TailSays, walked. -/
import Derived.Test.YtignljfeihlanaaTailB
import Derived.Test.YtignljfeihlanaaTailR
import Derived.Test.YtignljfeihlanaaSums
import Derived.Test.YtignljfeihlanaaSorted
import Derived.Deep.DeepCutAuto
namespace Go.Proofs.Ytignljfeihlanaa
open Go.RowKit
set_option linter.unusedSimpArgs false
set_option linter.unusedVariables false

theorem tl_rtime (x : Int) (w : World) :
    Calls Try.prog 11 #[.int .i64 x] w fun e w' => e = .returned (.bool (wi x 0 1073741824)) ∧ w = w' := by
  go_enter Try.func11, Try.ntmps11
  go_wp2_with (go_at_call 22; refine (within_any _ _ _ _).mono ?_; rintro e w' ⟨rfl, rfl⟩)
  all_goals (go_ret; simp [*])
theorem tl_rlist (A : Option Addr) (c B : Nat) (l : List Int) (n : Nat) (hn : l.length = n) (e : Int) (h : listE l = e) (hm : n ≤ maxLen) (w : World) (hr : Reads w B 1 A n (cellsI l)) :
    Calls Try.prog 8 #[.slice A n c] w fun e' w' => e' = .returned (.int .i64 e) ∧ w = w' := by
  subst hn h; exact rlist_any A c B l hm w hr
theorem lt_step (l : List Int) (t : Int) (k : Nat) (h : k < l.length) : (l.take (k + 1)).countP (So.lt t) = (l.take k).countP (So.lt t) + (if l.getD k 0 < t then 1 else 0) := by
  rw [So.take_snoc h, List.countP_append]
  simp [List.countP_cons, So.lt]
theorem count_both (l : List Int) (t : Int) : l.countP (ge t) + l.countP (So.lt t) = l.length := by
  induction l with
  | nil => rfl
  | cons x l ih =>
    by_cases h : t ≤ x
    · rw [List.countP_cons_of_pos (by simp [ge, h]), List.countP_cons_of_neg (by simp [So.lt]; omega), List.length_cons]; omega
    · rw [List.countP_cons_of_neg (by simp [ge]; omega), List.countP_cons_of_pos (by simp [So.lt]; omega), List.length_cons]; omega

abbrev TlC (f : FuncId) (args : Array Value) (v : Value) (w : World) : Prop :=
  ∀ w', Below w.heap.size w w' → Calls Try.prog f args w' fun e' w'' => e' = .returned v ∧ Below w'.heap.size w' w''

set_option maxHeartbeats 4000000 in
set_option maxRecDepth 100000 in
theorem tl_e_err (A : Option Addr) (c ln : Nat) (l : List Int) (n s q : Int) (t : Int) (w : World) (hm : ln ≤ maxLen) (le : Int) (hz : le ≠ 0) (f : Int) (hf : f ≠ 0)
    (hco : TlC 4 #[.slice A ln c, .int .i64 t] (.tuple #[.int .i64 0, .int .i64 le]) w)
    (hma : TlC 5 #[.agg #[.int .i64 n, .int .i64 s, .int .i64 q], .int .i64 t] (.tuple #[.int .i64 0, .int .i64 f]) w)
    (hch : TlC 6 #[.agg #[.int .i64 n, .int .i64 s, .int .i64 q], .int .i64 t] (.tuple #[.int .i64 0, .int .i64 f]) w)
    (hca : TlC 7 #[.agg #[.int .i64 n, .int .i64 s, .int .i64 q], .int .i64 t] (.tuple #[.int .i64 0, .int .i64 f]) w)
    (hrl : TlC 8 #[.slice A ln c] (.int .i64 le) w)
    (hrs : TlC 10 #[.agg #[.int .i64 n, .int .i64 s, .int .i64 q]] (.int .i64 f) w) :
    Calls Try.prog 3 #[.slice A ln c, .agg #[.int .i64 n, .int .i64 s, .int .i64 q], .int .i64 t] w fun e' w' => e' = .returned (.bool true) ∧ Below w.heap.size w w' := by
  have HCO := Lib.hid hco
  have HMA := Lib.hid hma
  have HCH := Lib.hid hch
  have HCA := Lib.hid hca
  have HRL := Lib.hid hrl
  have HRS := Lib.hid hrs
  have E0 := Lib.hid ((Env.start w).lay #[.int .i64 n, .int .i64 s, .int .i64 q] 24)
  clear hco hma hch hca hrl hrs
  have a0 := trivial
  have a1 := trivial
  have a2 := trivial
  have p0 := trivial
  go_enter Try.func3, Try.ntmps3
  go_wp2_with fail
  refine (HCO.out _ E0.out.bel).mono ?_
  rintro e' w1 ⟨rfl, hb1⟩
  have E1 := Lib.hid (E0.out.below hb1)
  clear hb1 E0 a0 a1 a2 p0
  have a0 := E1.out.hd.cell 0
  have a1 := E1.out.hd.cell 1
  have a2 := E1.out.hd.cell 2
  have p0 := E1.out.hd.lt
  simp at a0 a1 a2 p0
  go_wp2_with fail
  refine (HMA.out _ E1.out.bel).mono ?_
  rintro e' w2 ⟨rfl, hb2⟩
  have E2 := Lib.hid (E1.out.below hb2)
  clear hb2 E1 a0 a1 a2 p0
  have a0 := E2.out.hd.cell 0
  have a1 := E2.out.hd.cell 1
  have a2 := E2.out.hd.cell 2
  have p0 := E2.out.hd.lt
  simp at a0 a1 a2 p0
  go_wp2_with fail
  refine (HCH.out _ E2.out.bel).mono ?_
  rintro e' w3 ⟨rfl, hb3⟩
  have E3 := Lib.hid (E2.out.below hb3)
  clear hb3 E2 a0 a1 a2 p0
  have a0 := E3.out.hd.cell 0
  have a1 := E3.out.hd.cell 1
  have a2 := E3.out.hd.cell 2
  have p0 := E3.out.hd.lt
  simp at a0 a1 a2 p0
  go_wp2_with fail
  refine (HCA.out _ E3.out.bel).mono ?_
  rintro e' w4 ⟨rfl, hb4⟩
  have E4 := Lib.hid (E3.out.below hb4)
  clear hb4 E3 a0 a1 a2 p0
  have a0 := E4.out.hd.cell 0
  have a1 := E4.out.hd.cell 1
  have a2 := E4.out.hd.cell 2
  have p0 := E4.out.hd.lt
  simp at a0 a1 a2 p0
  go_wp2_with fail
  refine (HRL.out _ E4.out.bel).mono ?_
  rintro e' w5 ⟨rfl, hb5⟩
  have E5 := Lib.hid (E4.out.below hb5)
  clear hb5 E4 a0 a1 a2 p0
  have a0 := E5.out.hd.cell 0
  have a1 := E5.out.hd.cell 1
  have a2 := E5.out.hd.cell 2
  have p0 := E5.out.hd.lt
  simp at a0 a1 a2 p0
  go_wp2_with fail
  refine (HRS.out _ E5.out.bel).mono ?_
  rintro e' w7 ⟨rfl, hb7⟩
  have E7 := Lib.hid (E5.out.below hb7)
  clear hb7 E5 a0 a1 a2 p0
  have a0 := E7.out.hd.cell 0
  have a1 := E7.out.hd.cell 1
  have a2 := E7.out.hd.cell 2
  have p0 := E7.out.hd.lt
  simp at a0 a1 a2 p0
  go_wp2
  all_goals first
    | (exfalso; omega)
    | (go_ret; exact ⟨rfl, E7.out.bel⟩)

set_option maxHeartbeats 4000000 in
set_option maxRecDepth 100000 in
theorem tl_e_bad (A : Option Addr) (c ln : Nat) (l : List Int) (n s q : Int) (t : Int) (w : World) (hm : ln ≤ maxLen) (le : Int) (hz : le ≠ 0) (hbad : wi t 0 1073741824 = false)
    (hco : TlC 4 #[.slice A ln c, .int .i64 t] (.tuple #[.int .i64 0, .int .i64 le]) w)
    (hma : TlC 5 #[.agg #[.int .i64 n, .int .i64 s, .int .i64 q], .int .i64 t] (.tuple #[.int .i64 0, .int .i64 1]) w)
    (hch : TlC 6 #[.agg #[.int .i64 n, .int .i64 s, .int .i64 q], .int .i64 t] (.tuple #[.int .i64 0, .int .i64 1]) w)
    (hca : TlC 7 #[.agg #[.int .i64 n, .int .i64 s, .int .i64 q], .int .i64 t] (.tuple #[.int .i64 0, .int .i64 1]) w)
    (hrl : TlC 8 #[.slice A ln c] (.int .i64 le) w)
    (hrs : TlC 10 #[.agg #[.int .i64 n, .int .i64 s, .int .i64 q]] (.int .i64 0) w) :
    Calls Try.prog 3 #[.slice A ln c, .agg #[.int .i64 n, .int .i64 s, .int .i64 q], .int .i64 t] w fun e' w' => e' = .returned (.bool true) ∧ Below w.heap.size w w' := by
  have HCO := Lib.hid hco
  have HMA := Lib.hid hma
  have HCH := Lib.hid hch
  have HCA := Lib.hid hca
  have HRL := Lib.hid hrl
  have HRS := Lib.hid hrs
  have E0 := Lib.hid ((Env.start w).lay #[.int .i64 n, .int .i64 s, .int .i64 q] 24)
  clear hco hma hch hca hrl hrs
  have a0 := trivial
  have a1 := trivial
  have a2 := trivial
  have p0 := trivial
  go_enter Try.func3, Try.ntmps3
  go_wp2_with fail
  refine (HCO.out _ E0.out.bel).mono ?_
  rintro e' w1 ⟨rfl, hb1⟩
  have E1 := Lib.hid (E0.out.below hb1)
  clear hb1 E0 a0 a1 a2 p0
  have a0 := E1.out.hd.cell 0
  have a1 := E1.out.hd.cell 1
  have a2 := E1.out.hd.cell 2
  have p0 := E1.out.hd.lt
  simp at a0 a1 a2 p0
  go_wp2_with fail
  refine (HMA.out _ E1.out.bel).mono ?_
  rintro e' w2 ⟨rfl, hb2⟩
  have E2 := Lib.hid (E1.out.below hb2)
  clear hb2 E1 a0 a1 a2 p0
  have a0 := E2.out.hd.cell 0
  have a1 := E2.out.hd.cell 1
  have a2 := E2.out.hd.cell 2
  have p0 := E2.out.hd.lt
  simp at a0 a1 a2 p0
  go_wp2_with fail
  refine (HCH.out _ E2.out.bel).mono ?_
  rintro e' w3 ⟨rfl, hb3⟩
  have E3 := Lib.hid (E2.out.below hb3)
  clear hb3 E2 a0 a1 a2 p0
  have a0 := E3.out.hd.cell 0
  have a1 := E3.out.hd.cell 1
  have a2 := E3.out.hd.cell 2
  have p0 := E3.out.hd.lt
  simp at a0 a1 a2 p0
  go_wp2_with fail
  refine (HCA.out _ E3.out.bel).mono ?_
  rintro e' w4 ⟨rfl, hb4⟩
  have E4 := Lib.hid (E3.out.below hb4)
  clear hb4 E3 a0 a1 a2 p0
  have a0 := E4.out.hd.cell 0
  have a1 := E4.out.hd.cell 1
  have a2 := E4.out.hd.cell 2
  have p0 := E4.out.hd.lt
  simp at a0 a1 a2 p0
  go_wp2_with fail
  refine (HRL.out _ E4.out.bel).mono ?_
  rintro e' w5 ⟨rfl, hb5⟩
  have E5 := Lib.hid (E4.out.below hb5)
  clear hb5 E4 a0 a1 a2 p0
  have a0 := E5.out.hd.cell 0
  have a1 := E5.out.hd.cell 1
  have a2 := E5.out.hd.cell 2
  have p0 := E5.out.hd.lt
  simp at a0 a1 a2 p0
  go_wp2_with fail
  refine (HRS.out _ E5.out.bel).mono ?_
  rintro e' w7 ⟨rfl, hb7⟩
  have E7 := Lib.hid (E5.out.below hb7)
  clear hb7 E5 a0 a1 a2 p0
  have a0 := E7.out.hd.cell 0
  have a1 := E7.out.hd.cell 1
  have a2 := E7.out.hd.cell 2
  have p0 := E7.out.hd.lt
  simp at a0 a1 a2 p0
  go_wp2_with fail
  refine (tl_rtime _ _).mono ?_
  rintro e' w' ⟨rfl, rfl⟩
  go_wp2
  all_goals first
    | (exfalso; omega)
    | (go_ret; exact ⟨rfl, E7.out.bel⟩)

set_option maxHeartbeats 4000000 in
set_option maxRecDepth 100000 in
theorem tl_e_zero (A : Option Addr) (c ln : Nat) (l : List Int) (n s : Nat) (q : Int) (w : World) (hm : ln ≤ maxLen) (le : Int) (hz : le ≠ 0) (hn64 : n ≤ 64) (hs1 : s ≤ 1073741824) (ca : Int)
    (hco : TlC 4 #[.slice A ln c, .int .i64 0] (.tuple #[.int .i64 0, .int .i64 le]) w)
    (hma : TlC 5 #[.agg #[.int .i64 n, .int .i64 s, .int .i64 q], .int .i64 0] (.tuple #[.int .i64 0, .int .i64 1]) w)
    (hch : TlC 6 #[.agg #[.int .i64 n, .int .i64 s, .int .i64 q], .int .i64 0] (.tuple #[.int .i64 0, .int .i64 1]) w)
    (hca : TlC 7 #[.agg #[.int .i64 n, .int .i64 s, .int .i64 q], .int .i64 0] (.tuple #[.int .i64 ca, .int .i64 0]) w)
    (hrl : TlC 8 #[.slice A ln c] (.int .i64 le) w)
    (hrs : TlC 10 #[.agg #[.int .i64 n, .int .i64 s, .int .i64 q]] (.int .i64 0) w)
    (hrc : TlC 12 #[.agg #[.int .i64 n, .int .i64 s, .int .i64 q], .int .i64 0] (.int .i64 ca) w) :
    Calls Try.prog 3 #[.slice A ln c, .agg #[.int .i64 n, .int .i64 s, .int .i64 q], .int .i64 0] w fun e' w' => e' = .returned (.bool true) ∧ Below w.heap.size w w' := by
  have HCO := Lib.hid hco
  have HMA := Lib.hid hma
  have HCH := Lib.hid hch
  have HCA := Lib.hid hca
  have HRL := Lib.hid hrl
  have HRS := Lib.hid hrs
  have HRC := Lib.hid hrc
  have E0 := Lib.hid ((Env.start w).lay #[.int .i64 n, .int .i64 s, .int .i64 q] 24)
  clear hco hma hch hca hrl hrs hrc
  have a0 := trivial
  have a1 := trivial
  have a2 := trivial
  have p0 := trivial
  go_enter Try.func3, Try.ntmps3
  go_wp2_with fail
  refine (HCO.out _ E0.out.bel).mono ?_
  rintro e' w1 ⟨rfl, hb1⟩
  have E1 := Lib.hid (E0.out.below hb1)
  clear hb1 E0 a0 a1 a2 p0
  have a0 := E1.out.hd.cell 0
  have a1 := E1.out.hd.cell 1
  have a2 := E1.out.hd.cell 2
  have p0 := E1.out.hd.lt
  simp at a0 a1 a2 p0
  go_wp2_with fail
  refine (HMA.out _ E1.out.bel).mono ?_
  rintro e' w2 ⟨rfl, hb2⟩
  have E2 := Lib.hid (E1.out.below hb2)
  clear hb2 E1 a0 a1 a2 p0
  have a0 := E2.out.hd.cell 0
  have a1 := E2.out.hd.cell 1
  have a2 := E2.out.hd.cell 2
  have p0 := E2.out.hd.lt
  simp at a0 a1 a2 p0
  go_wp2_with fail
  refine (HCH.out _ E2.out.bel).mono ?_
  rintro e' w3 ⟨rfl, hb3⟩
  have E3 := Lib.hid (E2.out.below hb3)
  clear hb3 E2 a0 a1 a2 p0
  have a0 := E3.out.hd.cell 0
  have a1 := E3.out.hd.cell 1
  have a2 := E3.out.hd.cell 2
  have p0 := E3.out.hd.lt
  simp at a0 a1 a2 p0
  go_wp2_with fail
  refine (HCA.out _ E3.out.bel).mono ?_
  rintro e' w4 ⟨rfl, hb4⟩
  have E4 := Lib.hid (E3.out.below hb4)
  clear hb4 E3 a0 a1 a2 p0
  have a0 := E4.out.hd.cell 0
  have a1 := E4.out.hd.cell 1
  have a2 := E4.out.hd.cell 2
  have p0 := E4.out.hd.lt
  simp at a0 a1 a2 p0
  go_wp2_with fail
  refine (HRL.out _ E4.out.bel).mono ?_
  rintro e' w5 ⟨rfl, hb5⟩
  have E5 := Lib.hid (E4.out.below hb5)
  clear hb5 E4 a0 a1 a2 p0
  have a0 := E5.out.hd.cell 0
  have a1 := E5.out.hd.cell 1
  have a2 := E5.out.hd.cell 2
  have p0 := E5.out.hd.lt
  simp at a0 a1 a2 p0
  go_wp2_with fail
  refine (HRS.out _ E5.out.bel).mono ?_
  rintro e' w7 ⟨rfl, hb7⟩
  have E7 := Lib.hid (E5.out.below hb7)
  clear hb7 E5 a0 a1 a2 p0
  have a0 := E7.out.hd.cell 0
  have a1 := E7.out.hd.cell 1
  have a2 := E7.out.hd.cell 2
  have p0 := E7.out.hd.lt
  simp at a0 a1 a2 p0
  go_wp2_with fail
  refine (tl_rtime _ _).mono ?_
  rintro e' w' ⟨rfl, rfl⟩
  have hwi : wi 0 0 1073741824 = true := by decide
  go_wp2_with fail
  refine (HRC.out _ E7.out.bel).mono ?_
  rintro e' w8 ⟨rfl, hb8⟩
  have E8 := Lib.hid (E7.out.below hb8)
  clear hb8 E7 a0 a1 a2 p0
  have a0 := E8.out.hd.cell 0
  have a1 := E8.out.hd.cell 1
  have a2 := E8.out.hd.cell 2
  have p0 := E8.out.hd.lt
  simp at a0 a1 a2 p0
  go_wp2
  all_goals first
    | (exfalso; omega)
    | (go_ret; exact ⟨rfl, E8.out.bel⟩)

set_option maxHeartbeats 4000000 in
set_option maxRecDepth 100000 in
theorem tl_e_ok (A : Option Addr) (c ln : Nat) (l : List Int) (n s : Nat) (q : Int) (t : Nat) (w : World) (hm : ln ≤ maxLen) (le : Int) (hz : le ≠ 0) (hn64 : n ≤ 64) (hs1 : s ≤ 1073741824) (ht0 : 1 ≤ t) (ht1 : t ≤ 1073741824) (ca cb : Int)
    (hco : TlC 4 #[.slice A ln c, .int .i64 t] (.tuple #[.int .i64 0, .int .i64 le]) w)
    (hma : TlC 5 #[.agg #[.int .i64 n, .int .i64 s, .int .i64 q], .int .i64 t] (.tuple #[.int .i64 (min n (s / t) : Nat), .int .i64 0]) w)
    (hch : TlC 6 #[.agg #[.int .i64 n, .int .i64 s, .int .i64 q], .int .i64 t] (.tuple #[.int .i64 cb, .int .i64 0]) w)
    (hca : TlC 7 #[.agg #[.int .i64 n, .int .i64 s, .int .i64 q], .int .i64 t] (.tuple #[.int .i64 ca, .int .i64 0]) w)
    (hrl : TlC 8 #[.slice A ln c] (.int .i64 le) w)
    (hrs : TlC 10 #[.agg #[.int .i64 n, .int .i64 s, .int .i64 q]] (.int .i64 0) w)
    (hrc : TlC 12 #[.agg #[.int .i64 n, .int .i64 s, .int .i64 q], .int .i64 t] (.int .i64 ca) w)
    (hrb : TlC 13 #[.agg #[.int .i64 n, .int .i64 s, .int .i64 q], .int .i64 t] (.int .i64 cb) w) :
    Calls Try.prog 3 #[.slice A ln c, .agg #[.int .i64 n, .int .i64 s, .int .i64 q], .int .i64 t] w fun e' w' => e' = .returned (.bool true) ∧ Below w.heap.size w w' := by
  have HCO := Lib.hid hco
  have HMA := Lib.hid hma
  have HCH := Lib.hid hch
  have HCA := Lib.hid hca
  have HRL := Lib.hid hrl
  have HRS := Lib.hid hrs
  have HRC := Lib.hid hrc
  have HRB := Lib.hid hrb
  have HMD := Lib.hid (show ∀ k : Nat, k ≤ n → k * t ≤ s → (k = n ∨ s < (k + 1) * t) → min n (s / t) = k from fun k h1 h2 h3 => min_div (by omega) h1 h2 h3)
  have E0 := Lib.hid ((Env.start w).lay #[.int .i64 n, .int .i64 s, .int .i64 q] 24)
  clear hco hma hch hca hrl hrs hrc hrb
  have a0 := trivial
  have a1 := trivial
  have a2 := trivial
  have p0 := trivial
  go_enter Try.func3, Try.ntmps3
  generalize hmn : min n (s / t) = mn at *
  have HMN := Lib.hid hmn
  clear hmn
  go_wp2_with fail
  refine (HCO.out _ E0.out.bel).mono ?_
  rintro e' w1 ⟨rfl, hb1⟩
  have E1 := Lib.hid (E0.out.below hb1)
  clear hb1 E0 a0 a1 a2 p0
  have a0 := E1.out.hd.cell 0
  have a1 := E1.out.hd.cell 1
  have a2 := E1.out.hd.cell 2
  have p0 := E1.out.hd.lt
  simp at a0 a1 a2 p0
  go_wp2_with fail
  refine (HMA.out _ E1.out.bel).mono ?_
  rintro e' w2 ⟨rfl, hb2⟩
  have E2 := Lib.hid (E1.out.below hb2)
  clear hb2 E1 a0 a1 a2 p0
  have a0 := E2.out.hd.cell 0
  have a1 := E2.out.hd.cell 1
  have a2 := E2.out.hd.cell 2
  have p0 := E2.out.hd.lt
  simp at a0 a1 a2 p0
  go_wp2_with fail
  refine (HCH.out _ E2.out.bel).mono ?_
  rintro e' w3 ⟨rfl, hb3⟩
  have E3 := Lib.hid (E2.out.below hb3)
  clear hb3 E2 a0 a1 a2 p0
  have a0 := E3.out.hd.cell 0
  have a1 := E3.out.hd.cell 1
  have a2 := E3.out.hd.cell 2
  have p0 := E3.out.hd.lt
  simp at a0 a1 a2 p0
  go_wp2_with fail
  refine (HCA.out _ E3.out.bel).mono ?_
  rintro e' w4 ⟨rfl, hb4⟩
  have E4 := Lib.hid (E3.out.below hb4)
  clear hb4 E3 a0 a1 a2 p0
  have a0 := E4.out.hd.cell 0
  have a1 := E4.out.hd.cell 1
  have a2 := E4.out.hd.cell 2
  have p0 := E4.out.hd.lt
  simp at a0 a1 a2 p0
  go_wp2_with fail
  refine (HRL.out _ E4.out.bel).mono ?_
  rintro e' w5 ⟨rfl, hb5⟩
  have E5 := Lib.hid (E4.out.below hb5)
  clear hb5 E4 a0 a1 a2 p0
  have a0 := E5.out.hd.cell 0
  have a1 := E5.out.hd.cell 1
  have a2 := E5.out.hd.cell 2
  have p0 := E5.out.hd.lt
  simp at a0 a1 a2 p0
  go_wp2_with fail
  refine (HRS.out _ E5.out.bel).mono ?_
  rintro e' w7 ⟨rfl, hb7⟩
  have E7 := Lib.hid (E5.out.below hb7)
  clear hb7 E5 a0 a1 a2 p0
  have a0 := E7.out.hd.cell 0
  have a1 := E7.out.hd.cell 1
  have a2 := E7.out.hd.cell 2
  have p0 := E7.out.hd.lt
  simp at a0 a1 a2 p0
  go_wp2_with fail
  refine (tl_rtime _ _).mono ?_
  rintro e' w' ⟨rfl, rfl⟩
  have hwi : wi (t : Int) 0 1073741824 = true := wi_true.2 (by omega)
  go_wp2_with fail
  refine (HRC.out _ E7.out.bel).mono ?_
  rintro e' w8 ⟨rfl, hb8⟩
  have E8 := Lib.hid (E7.out.below hb8)
  clear hb8 E7 a0 a1 a2 p0
  have a0 := E8.out.hd.cell 0
  have a1 := E8.out.hd.cell 1
  have a2 := E8.out.hd.cell 2
  have p0 := E8.out.hd.lt
  simp at a0 a1 a2 p0
  go_wp2_with fail
  go_loopw [20] (fun kv wr => ∃ k : Nat, k ≤ n ∧ kv = .int .i64 (k : Int) ∧ (k = n ∨ s < (k + 1) * t) ∧ wr = w8) (fun kv _ => (intOf kv).toNat)
  case atStart => exact ⟨n, by omega, rfl, .inl rfl, rfl⟩
  case round =>
    obtain ⟨k, hk, rfl, hks, rfl⟩ := hrel
    have HKS := Lib.hid hks
    have hkt : k * t ≤ 64 * 1073741824 := Nat.mul_le_mul (by omega) ht1
    have hkc : (k : Int) * (t : Int) = ((k * t : Nat) : Int) := by simp
    obtain ⟨kt, hkt2⟩ : ∃ kt, kt = k * t := ⟨_, rfl⟩
    rw [← hkt2] at hkt hkc
    have HKT := Lib.hid hkt2
    clear hks hkt2
    have hb0 : (0 : Int) ≤ (k : Int) * (t : Int) := by omega
    have hb1 : (k : Int) * (t : Int) ≤ 68719476736 := by omega
    by_cases hgo : 0 < k ∧ s < kt
    · obtain ⟨g1, g2⟩ := hgo
      have g3 : (s : Int) < (k : Int) * (t : Int) := by omega
      go_wp2
      go_roundw
      case rel => exact ⟨k - 1, by omega, by simp; omega, .inr (by rw [show k - 1 + 1 = k by omega, ← HKT.out]; exact g2), by first | rfl | trivial⟩
      case measure => simp [intOf]; omega
    · have HMI := Lib.hid (HMD.out k hk (by
        rw [← HKT.out]
        rcases Nat.eq_zero_or_pos k with h | h
        · have := HKT.out; rw [h, Nat.zero_mul] at this; omega
        · omega) HKS.out)
      have hmk : mn = k := HMI.out
      subst hmk
      have g3 : (mn : Int) ≤ 0 ∨ 0 < (mn : Int) ∧ (mn : Int) * (t : Int) ≤ (s : Int) := by omega
      clear hgo hkc
      rcases g3 with g3 | ⟨g3, g4⟩
      all_goals
        go_wp2_with fail
        refine (HRB.out _ E8.out.bel).mono ?_
        rintro e' w9 ⟨rfl, hb9⟩
        go_wp2
        go_ret
        exact ⟨rfl, (E8.out.below hb9).bel⟩

set_option maxHeartbeats 4000000 in
set_option maxRecDepth 100000 in
theorem tl_o_err (A : Option Addr) (c ln : Nat) (l : List Int) (n s q : Int) (t : Int) (w : World) (hm : ln ≤ maxLen) (T : List Int) (hln : ln ≤ 64) (hTl : T.length = ln) (ct : Nat) (hct : ct + T.countP (So.lt t) = ln) (f : Int) (hf : f ≠ 0)
    (hco : TlC 4 #[.slice A ln c, .int .i64 t] (.tuple #[.int .i64 (ct : Int), .int .i64 0]) w)
    (hma : TlC 5 #[.agg #[.int .i64 n, .int .i64 s, .int .i64 q], .int .i64 t] (.tuple #[.int .i64 0, .int .i64 f]) w)
    (hch : TlC 6 #[.agg #[.int .i64 n, .int .i64 s, .int .i64 q], .int .i64 t] (.tuple #[.int .i64 0, .int .i64 f]) w)
    (hca : TlC 7 #[.agg #[.int .i64 n, .int .i64 s, .int .i64 q], .int .i64 t] (.tuple #[.int .i64 0, .int .i64 f]) w)
    (hrl : TlC 8 #[.slice A ln c] (.int .i64 0) w)
    (hrs : TlC 10 #[.agg #[.int .i64 n, .int .i64 s, .int .i64 q]] (.int .i64 f) w)
    (hso : ∀ w', Below w.heap.size w w' → Calls Try.prog 9 #[.slice A ln c] w' fun e w'' => ∃ A', e = .returned (.slice A' ln ln) ∧ Reads w'' w''.heap.size 1 A' ln (cellsI T) ∧ Below w'.heap.size w' w'') :
    Calls Try.prog 3 #[.slice A ln c, .agg #[.int .i64 n, .int .i64 s, .int .i64 q], .int .i64 t] w fun e' w' => e' = .returned (.bool true) ∧ Below w.heap.size w w' := by
  have HCO := Lib.hid hco
  have HMA := Lib.hid hma
  have HCH := Lib.hid hch
  have HCA := Lib.hid hca
  have HRL := Lib.hid hrl
  have HRS := Lib.hid hrs
  have HSO := Lib.hid hso
  have HCT := Lib.hid hct
  have HTL := Lib.hid hTl
  have E0 := Lib.hid ((Env.start w).lay #[.int .i64 n, .int .i64 s, .int .i64 q] 24)
  clear hco hma hch hca hrl hrs hso hct hTl
  have a0 := trivial
  have a1 := trivial
  have a2 := trivial
  have p0 := trivial
  go_enter Try.func3, Try.ntmps3
  go_wp2_with fail
  refine (HCO.out _ E0.out.bel).mono ?_
  rintro e' w1 ⟨rfl, hb1⟩
  have E1 := Lib.hid (E0.out.below hb1)
  clear hb1 E0 a0 a1 a2 p0
  have a0 := E1.out.hd.cell 0
  have a1 := E1.out.hd.cell 1
  have a2 := E1.out.hd.cell 2
  have p0 := E1.out.hd.lt
  simp at a0 a1 a2 p0
  go_wp2_with fail
  refine (HMA.out _ E1.out.bel).mono ?_
  rintro e' w2 ⟨rfl, hb2⟩
  have E2 := Lib.hid (E1.out.below hb2)
  clear hb2 E1 a0 a1 a2 p0
  have a0 := E2.out.hd.cell 0
  have a1 := E2.out.hd.cell 1
  have a2 := E2.out.hd.cell 2
  have p0 := E2.out.hd.lt
  simp at a0 a1 a2 p0
  go_wp2_with fail
  refine (HCH.out _ E2.out.bel).mono ?_
  rintro e' w3 ⟨rfl, hb3⟩
  have E3 := Lib.hid (E2.out.below hb3)
  clear hb3 E2 a0 a1 a2 p0
  have a0 := E3.out.hd.cell 0
  have a1 := E3.out.hd.cell 1
  have a2 := E3.out.hd.cell 2
  have p0 := E3.out.hd.lt
  simp at a0 a1 a2 p0
  go_wp2_with fail
  refine (HCA.out _ E3.out.bel).mono ?_
  rintro e' w4 ⟨rfl, hb4⟩
  have E4 := Lib.hid (E3.out.below hb4)
  clear hb4 E3 a0 a1 a2 p0
  have a0 := E4.out.hd.cell 0
  have a1 := E4.out.hd.cell 1
  have a2 := E4.out.hd.cell 2
  have p0 := E4.out.hd.lt
  simp at a0 a1 a2 p0
  go_wp2_with fail
  refine (HRL.out _ E4.out.bel).mono ?_
  rintro e' w5 ⟨rfl, hb5⟩
  have E5 := Lib.hid (E4.out.below hb5)
  clear hb5 E4 a0 a1 a2 p0
  have a0 := E5.out.hd.cell 0
  have a1 := E5.out.hd.cell 1
  have a2 := E5.out.hd.cell 2
  have p0 := E5.out.hd.lt
  simp at a0 a1 a2 p0
  go_wp2_with fail
  refine (HSO.out _ E5.out.bel).mono ?_
  rintro e' w6 ⟨A', rfl, hrd, hb6⟩
  have E6 := Lib.hid (E5.out.below hb6)
  have RT := Lib.hid hrd
  clear hb6 hrd E5 a0 a1 a2 p0
  have a0 := E6.out.hd.cell 0
  have a1 := E6.out.hd.cell 1
  have a2 := E6.out.hd.cell 2
  have p0 := E6.out.hd.lt
  simp at a0 a1 a2 p0
  go_wp2_with fail
  go_loopw [16, 59] (fun cv kv wr => ∃ k : Nat, k ≤ ln ∧ cv = .int .i64 ((T.take k).countP (So.lt t) : Nat) ∧ kv = .int .i64 (k : Int) ∧ wr = w6) (fun _ kv _ => ln - (intOf kv).toNat)
  case atStart => exact ⟨0, by omega, by simp, rfl, rfl⟩
  case round =>
    obtain ⟨k, hk, rfl, rfl, rfl⟩ := hrel
    have hle : (T.take k).countP (So.lt t) ≤ k := Nat.le_trans List.countP_le_length (by rw [List.length_take]; omega)
    by_cases hlt : k < ln
    · obtain ⟨b, off, rfl, hb, hcells⟩ := RT.out.addr (by omega)
      have hcell := hcells k _ (cellsI_at T k (by rw [HTL.out]; exact hlt))
      have HST := Lib.hid (lt_step T t k (by rw [HTL.out]; exact hlt))
      have HB := Lib.hid hb
      clear hcells hb
      obtain ⟨c2, hc2⟩ : ∃ c2, c2 = (T.take (k + 1)).countP (So.lt t) := ⟨_, rfl⟩
      rw [← hc2] at HST
      have HC2 := Lib.hid hc2
      generalize T.getD k 0 = x at *
      generalize (T.take k).countP (So.lt t) = c1 at *
      clear hc2
      by_cases h1 : x < t
      · have e := HST.out
        rw [if_pos h1] at e
        subst e
        go_wp2
        go_roundw
        case rel => exact ⟨k + 1, by omega, by rw [← HC2.out]; simp, by simp, by first | rfl | trivial⟩
        case measure => simp [intOf]; omega
      · have e := HST.out
        rw [if_neg h1, Nat.add_zero] at e
        subst e
        go_wp2
        go_roundw
        case rel => exact ⟨k + 1, by omega, by rw [← HC2.out], by simp, by first | rfl | trivial⟩
        case measure => simp [intOf]; omega
    · have hkn : k = ln := by omega
      have hcl : ct + (T.take k).countP (So.lt t) = k := by rw [show T.take k = T by rw [hkn, ← HTL.out, List.take_length]]; rw [hkn]; exact HCT.out
      subst hkn
      generalize (T.take k).countP (So.lt t) = c1 at *
      go_wp2_with fail
      refine (HRS.out _ E6.out.bel).mono ?_
      rintro e' w7 ⟨rfl, hb7⟩
      have E7 := Lib.hid (E6.out.below hb7)
      clear hb7 E6 a0 a1 a2 p0
      have a0 := E7.out.hd.cell 0
      have a1 := E7.out.hd.cell 1
      have a2 := E7.out.hd.cell 2
      have p0 := E7.out.hd.lt
      simp at a0 a1 a2 p0
      go_wp2
      all_goals first
        | (exfalso; omega)
        | (go_ret; exact ⟨rfl, E7.out.bel⟩)

set_option maxHeartbeats 4000000 in
set_option maxRecDepth 100000 in
theorem tl_o_bad (A : Option Addr) (c ln : Nat) (l : List Int) (n s q : Int) (t : Int) (w : World) (hm : ln ≤ maxLen) (T : List Int) (hln : ln ≤ 64) (hTl : T.length = ln) (ct : Nat) (hct : ct + T.countP (So.lt t) = ln) (hbad : wi t 0 1073741824 = false)
    (hco : TlC 4 #[.slice A ln c, .int .i64 t] (.tuple #[.int .i64 (ct : Int), .int .i64 0]) w)
    (hma : TlC 5 #[.agg #[.int .i64 n, .int .i64 s, .int .i64 q], .int .i64 t] (.tuple #[.int .i64 0, .int .i64 1]) w)
    (hch : TlC 6 #[.agg #[.int .i64 n, .int .i64 s, .int .i64 q], .int .i64 t] (.tuple #[.int .i64 0, .int .i64 1]) w)
    (hca : TlC 7 #[.agg #[.int .i64 n, .int .i64 s, .int .i64 q], .int .i64 t] (.tuple #[.int .i64 0, .int .i64 1]) w)
    (hrl : TlC 8 #[.slice A ln c] (.int .i64 0) w)
    (hrs : TlC 10 #[.agg #[.int .i64 n, .int .i64 s, .int .i64 q]] (.int .i64 0) w)
    (hso : ∀ w', Below w.heap.size w w' → Calls Try.prog 9 #[.slice A ln c] w' fun e w'' => ∃ A', e = .returned (.slice A' ln ln) ∧ Reads w'' w''.heap.size 1 A' ln (cellsI T) ∧ Below w'.heap.size w' w'') :
    Calls Try.prog 3 #[.slice A ln c, .agg #[.int .i64 n, .int .i64 s, .int .i64 q], .int .i64 t] w fun e' w' => e' = .returned (.bool true) ∧ Below w.heap.size w w' := by
  have HCO := Lib.hid hco
  have HMA := Lib.hid hma
  have HCH := Lib.hid hch
  have HCA := Lib.hid hca
  have HRL := Lib.hid hrl
  have HRS := Lib.hid hrs
  have HSO := Lib.hid hso
  have HCT := Lib.hid hct
  have HTL := Lib.hid hTl
  have E0 := Lib.hid ((Env.start w).lay #[.int .i64 n, .int .i64 s, .int .i64 q] 24)
  clear hco hma hch hca hrl hrs hso hct hTl
  have a0 := trivial
  have a1 := trivial
  have a2 := trivial
  have p0 := trivial
  go_enter Try.func3, Try.ntmps3
  go_wp2_with fail
  refine (HCO.out _ E0.out.bel).mono ?_
  rintro e' w1 ⟨rfl, hb1⟩
  have E1 := Lib.hid (E0.out.below hb1)
  clear hb1 E0 a0 a1 a2 p0
  have a0 := E1.out.hd.cell 0
  have a1 := E1.out.hd.cell 1
  have a2 := E1.out.hd.cell 2
  have p0 := E1.out.hd.lt
  simp at a0 a1 a2 p0
  go_wp2_with fail
  refine (HMA.out _ E1.out.bel).mono ?_
  rintro e' w2 ⟨rfl, hb2⟩
  have E2 := Lib.hid (E1.out.below hb2)
  clear hb2 E1 a0 a1 a2 p0
  have a0 := E2.out.hd.cell 0
  have a1 := E2.out.hd.cell 1
  have a2 := E2.out.hd.cell 2
  have p0 := E2.out.hd.lt
  simp at a0 a1 a2 p0
  go_wp2_with fail
  refine (HCH.out _ E2.out.bel).mono ?_
  rintro e' w3 ⟨rfl, hb3⟩
  have E3 := Lib.hid (E2.out.below hb3)
  clear hb3 E2 a0 a1 a2 p0
  have a0 := E3.out.hd.cell 0
  have a1 := E3.out.hd.cell 1
  have a2 := E3.out.hd.cell 2
  have p0 := E3.out.hd.lt
  simp at a0 a1 a2 p0
  go_wp2_with fail
  refine (HCA.out _ E3.out.bel).mono ?_
  rintro e' w4 ⟨rfl, hb4⟩
  have E4 := Lib.hid (E3.out.below hb4)
  clear hb4 E3 a0 a1 a2 p0
  have a0 := E4.out.hd.cell 0
  have a1 := E4.out.hd.cell 1
  have a2 := E4.out.hd.cell 2
  have p0 := E4.out.hd.lt
  simp at a0 a1 a2 p0
  go_wp2_with fail
  refine (HRL.out _ E4.out.bel).mono ?_
  rintro e' w5 ⟨rfl, hb5⟩
  have E5 := Lib.hid (E4.out.below hb5)
  clear hb5 E4 a0 a1 a2 p0
  have a0 := E5.out.hd.cell 0
  have a1 := E5.out.hd.cell 1
  have a2 := E5.out.hd.cell 2
  have p0 := E5.out.hd.lt
  simp at a0 a1 a2 p0
  go_wp2_with fail
  refine (HSO.out _ E5.out.bel).mono ?_
  rintro e' w6 ⟨A', rfl, hrd, hb6⟩
  have E6 := Lib.hid (E5.out.below hb6)
  have RT := Lib.hid hrd
  clear hb6 hrd E5 a0 a1 a2 p0
  have a0 := E6.out.hd.cell 0
  have a1 := E6.out.hd.cell 1
  have a2 := E6.out.hd.cell 2
  have p0 := E6.out.hd.lt
  simp at a0 a1 a2 p0
  go_wp2_with fail
  go_loopw [16, 59] (fun cv kv wr => ∃ k : Nat, k ≤ ln ∧ cv = .int .i64 ((T.take k).countP (So.lt t) : Nat) ∧ kv = .int .i64 (k : Int) ∧ wr = w6) (fun _ kv _ => ln - (intOf kv).toNat)
  case atStart => exact ⟨0, by omega, by simp, rfl, rfl⟩
  case round =>
    obtain ⟨k, hk, rfl, rfl, rfl⟩ := hrel
    have hle : (T.take k).countP (So.lt t) ≤ k := Nat.le_trans List.countP_le_length (by rw [List.length_take]; omega)
    by_cases hlt : k < ln
    · obtain ⟨b, off, rfl, hb, hcells⟩ := RT.out.addr (by omega)
      have hcell := hcells k _ (cellsI_at T k (by rw [HTL.out]; exact hlt))
      have HST := Lib.hid (lt_step T t k (by rw [HTL.out]; exact hlt))
      have HB := Lib.hid hb
      clear hcells hb
      obtain ⟨c2, hc2⟩ : ∃ c2, c2 = (T.take (k + 1)).countP (So.lt t) := ⟨_, rfl⟩
      rw [← hc2] at HST
      have HC2 := Lib.hid hc2
      generalize T.getD k 0 = x at *
      generalize (T.take k).countP (So.lt t) = c1 at *
      clear hc2
      by_cases h1 : x < t
      · have e := HST.out
        rw [if_pos h1] at e
        subst e
        go_wp2
        go_roundw
        case rel => exact ⟨k + 1, by omega, by rw [← HC2.out]; simp, by simp, by first | rfl | trivial⟩
        case measure => simp [intOf]; omega
      · have e := HST.out
        rw [if_neg h1, Nat.add_zero] at e
        subst e
        go_wp2
        go_roundw
        case rel => exact ⟨k + 1, by omega, by rw [← HC2.out], by simp, by first | rfl | trivial⟩
        case measure => simp [intOf]; omega
    · have hkn : k = ln := by omega
      have hcl : ct + (T.take k).countP (So.lt t) = k := by rw [show T.take k = T by rw [hkn, ← HTL.out, List.take_length]]; rw [hkn]; exact HCT.out
      subst hkn
      generalize (T.take k).countP (So.lt t) = c1 at *
      go_wp2_with fail
      refine (HRS.out _ E6.out.bel).mono ?_
      rintro e' w7 ⟨rfl, hb7⟩
      have E7 := Lib.hid (E6.out.below hb7)
      clear hb7 E6 a0 a1 a2 p0
      have a0 := E7.out.hd.cell 0
      have a1 := E7.out.hd.cell 1
      have a2 := E7.out.hd.cell 2
      have p0 := E7.out.hd.lt
      simp at a0 a1 a2 p0
      go_wp2_with fail
      refine (tl_rtime _ _).mono ?_
      rintro e' w' ⟨rfl, rfl⟩
      go_wp2
      all_goals first
        | (exfalso; omega)
        | (go_ret; exact ⟨rfl, E7.out.bel⟩)

set_option maxHeartbeats 4000000 in
set_option maxRecDepth 100000 in
theorem tl_o_zero (A : Option Addr) (c ln : Nat) (l : List Int) (n s : Nat) (q : Int) (w : World) (hm : ln ≤ maxLen) (T : List Int) (hln : ln ≤ 64) (hTl : T.length = ln) (ct : Nat) (hct : ct + T.countP (So.lt 0) = ln) (hn64 : n ≤ 64) (hs1 : s ≤ 1073741824) (ca : Int)
    (hco : TlC 4 #[.slice A ln c, .int .i64 0] (.tuple #[.int .i64 (ct : Int), .int .i64 0]) w)
    (hma : TlC 5 #[.agg #[.int .i64 n, .int .i64 s, .int .i64 q], .int .i64 0] (.tuple #[.int .i64 0, .int .i64 1]) w)
    (hch : TlC 6 #[.agg #[.int .i64 n, .int .i64 s, .int .i64 q], .int .i64 0] (.tuple #[.int .i64 0, .int .i64 1]) w)
    (hca : TlC 7 #[.agg #[.int .i64 n, .int .i64 s, .int .i64 q], .int .i64 0] (.tuple #[.int .i64 ca, .int .i64 0]) w)
    (hrl : TlC 8 #[.slice A ln c] (.int .i64 0) w)
    (hrs : TlC 10 #[.agg #[.int .i64 n, .int .i64 s, .int .i64 q]] (.int .i64 0) w)
    (hso : ∀ w', Below w.heap.size w w' → Calls Try.prog 9 #[.slice A ln c] w' fun e w'' => ∃ A', e = .returned (.slice A' ln ln) ∧ Reads w'' w''.heap.size 1 A' ln (cellsI T) ∧ Below w'.heap.size w' w'')
    (hrc : TlC 12 #[.agg #[.int .i64 n, .int .i64 s, .int .i64 q], .int .i64 0] (.int .i64 ca) w) :
    Calls Try.prog 3 #[.slice A ln c, .agg #[.int .i64 n, .int .i64 s, .int .i64 q], .int .i64 0] w fun e' w' => e' = .returned (.bool true) ∧ Below w.heap.size w w' := by
  have HCO := Lib.hid hco
  have HMA := Lib.hid hma
  have HCH := Lib.hid hch
  have HCA := Lib.hid hca
  have HRL := Lib.hid hrl
  have HRS := Lib.hid hrs
  have HSO := Lib.hid hso
  have HRC := Lib.hid hrc
  have HCT := Lib.hid hct
  have HTL := Lib.hid hTl
  have E0 := Lib.hid ((Env.start w).lay #[.int .i64 n, .int .i64 s, .int .i64 q] 24)
  clear hco hma hch hca hrl hrs hso hrc hct hTl
  have a0 := trivial
  have a1 := trivial
  have a2 := trivial
  have p0 := trivial
  go_enter Try.func3, Try.ntmps3
  go_wp2_with fail
  refine (HCO.out _ E0.out.bel).mono ?_
  rintro e' w1 ⟨rfl, hb1⟩
  have E1 := Lib.hid (E0.out.below hb1)
  clear hb1 E0 a0 a1 a2 p0
  have a0 := E1.out.hd.cell 0
  have a1 := E1.out.hd.cell 1
  have a2 := E1.out.hd.cell 2
  have p0 := E1.out.hd.lt
  simp at a0 a1 a2 p0
  go_wp2_with fail
  refine (HMA.out _ E1.out.bel).mono ?_
  rintro e' w2 ⟨rfl, hb2⟩
  have E2 := Lib.hid (E1.out.below hb2)
  clear hb2 E1 a0 a1 a2 p0
  have a0 := E2.out.hd.cell 0
  have a1 := E2.out.hd.cell 1
  have a2 := E2.out.hd.cell 2
  have p0 := E2.out.hd.lt
  simp at a0 a1 a2 p0
  go_wp2_with fail
  refine (HCH.out _ E2.out.bel).mono ?_
  rintro e' w3 ⟨rfl, hb3⟩
  have E3 := Lib.hid (E2.out.below hb3)
  clear hb3 E2 a0 a1 a2 p0
  have a0 := E3.out.hd.cell 0
  have a1 := E3.out.hd.cell 1
  have a2 := E3.out.hd.cell 2
  have p0 := E3.out.hd.lt
  simp at a0 a1 a2 p0
  go_wp2_with fail
  refine (HCA.out _ E3.out.bel).mono ?_
  rintro e' w4 ⟨rfl, hb4⟩
  have E4 := Lib.hid (E3.out.below hb4)
  clear hb4 E3 a0 a1 a2 p0
  have a0 := E4.out.hd.cell 0
  have a1 := E4.out.hd.cell 1
  have a2 := E4.out.hd.cell 2
  have p0 := E4.out.hd.lt
  simp at a0 a1 a2 p0
  go_wp2_with fail
  refine (HRL.out _ E4.out.bel).mono ?_
  rintro e' w5 ⟨rfl, hb5⟩
  have E5 := Lib.hid (E4.out.below hb5)
  clear hb5 E4 a0 a1 a2 p0
  have a0 := E5.out.hd.cell 0
  have a1 := E5.out.hd.cell 1
  have a2 := E5.out.hd.cell 2
  have p0 := E5.out.hd.lt
  simp at a0 a1 a2 p0
  go_wp2_with fail
  refine (HSO.out _ E5.out.bel).mono ?_
  rintro e' w6 ⟨A', rfl, hrd, hb6⟩
  have E6 := Lib.hid (E5.out.below hb6)
  have RT := Lib.hid hrd
  clear hb6 hrd E5 a0 a1 a2 p0
  have a0 := E6.out.hd.cell 0
  have a1 := E6.out.hd.cell 1
  have a2 := E6.out.hd.cell 2
  have p0 := E6.out.hd.lt
  simp at a0 a1 a2 p0
  go_wp2_with fail
  go_loopw [16, 59] (fun cv kv wr => ∃ k : Nat, k ≤ ln ∧ cv = .int .i64 ((T.take k).countP (So.lt 0) : Nat) ∧ kv = .int .i64 (k : Int) ∧ wr = w6) (fun _ kv _ => ln - (intOf kv).toNat)
  case atStart => exact ⟨0, by omega, by simp, rfl, rfl⟩
  case round =>
    obtain ⟨k, hk, rfl, rfl, rfl⟩ := hrel
    have hle : (T.take k).countP (So.lt 0) ≤ k := Nat.le_trans List.countP_le_length (by rw [List.length_take]; omega)
    by_cases hlt : k < ln
    · obtain ⟨b, off, rfl, hb, hcells⟩ := RT.out.addr (by omega)
      have hcell := hcells k _ (cellsI_at T k (by rw [HTL.out]; exact hlt))
      have HST := Lib.hid (lt_step T 0 k (by rw [HTL.out]; exact hlt))
      have HB := Lib.hid hb
      clear hcells hb
      obtain ⟨c2, hc2⟩ : ∃ c2, c2 = (T.take (k + 1)).countP (So.lt 0) := ⟨_, rfl⟩
      rw [← hc2] at HST
      have HC2 := Lib.hid hc2
      generalize T.getD k 0 = x at *
      generalize (T.take k).countP (So.lt 0) = c1 at *
      clear hc2
      by_cases h1 : x < 0
      · have e := HST.out
        rw [if_pos h1] at e
        subst e
        go_wp2
        go_roundw
        case rel => exact ⟨k + 1, by omega, by rw [← HC2.out]; simp, by simp, by first | rfl | trivial⟩
        case measure => simp [intOf]; omega
      · have e := HST.out
        rw [if_neg h1, Nat.add_zero] at e
        subst e
        go_wp2
        go_roundw
        case rel => exact ⟨k + 1, by omega, by rw [← HC2.out], by simp, by first | rfl | trivial⟩
        case measure => simp [intOf]; omega
    · have hkn : k = ln := by omega
      have hcl : ct + (T.take k).countP (So.lt 0) = k := by rw [show T.take k = T by rw [hkn, ← HTL.out, List.take_length]]; rw [hkn]; exact HCT.out
      subst hkn
      generalize (T.take k).countP (So.lt 0) = c1 at *
      go_wp2_with fail
      refine (HRS.out _ E6.out.bel).mono ?_
      rintro e' w7 ⟨rfl, hb7⟩
      have E7 := Lib.hid (E6.out.below hb7)
      clear hb7 E6 a0 a1 a2 p0
      have a0 := E7.out.hd.cell 0
      have a1 := E7.out.hd.cell 1
      have a2 := E7.out.hd.cell 2
      have p0 := E7.out.hd.lt
      simp at a0 a1 a2 p0
      go_wp2_with fail
      refine (tl_rtime _ _).mono ?_
      rintro e' w' ⟨rfl, rfl⟩
      have hwi : wi 0 0 1073741824 = true := by decide
      go_wp2_with fail
      refine (HRC.out _ E7.out.bel).mono ?_
      rintro e' w8 ⟨rfl, hb8⟩
      have E8 := Lib.hid (E7.out.below hb8)
      clear hb8 E7 a0 a1 a2 p0
      have a0 := E8.out.hd.cell 0
      have a1 := E8.out.hd.cell 1
      have a2 := E8.out.hd.cell 2
      have p0 := E8.out.hd.lt
      simp at a0 a1 a2 p0
      go_wp2
      all_goals first
        | (exfalso; omega)
        | (go_ret; exact ⟨rfl, E8.out.bel⟩)

set_option maxHeartbeats 4000000 in
set_option maxRecDepth 100000 in
theorem tl_o_ok (A : Option Addr) (c ln : Nat) (l : List Int) (n s : Nat) (q : Int) (t : Nat) (w : World) (hm : ln ≤ maxLen) (T : List Int) (hln : ln ≤ 64) (hTl : T.length = ln) (ct : Nat) (hct : ct + T.countP (So.lt t) = ln) (hn64 : n ≤ 64) (hs1 : s ≤ 1073741824) (ht0 : 1 ≤ t) (ht1 : t ≤ 1073741824) (ca cb : Int)
    (hco : TlC 4 #[.slice A ln c, .int .i64 t] (.tuple #[.int .i64 (ct : Int), .int .i64 0]) w)
    (hma : TlC 5 #[.agg #[.int .i64 n, .int .i64 s, .int .i64 q], .int .i64 t] (.tuple #[.int .i64 (min n (s / t) : Nat), .int .i64 0]) w)
    (hch : TlC 6 #[.agg #[.int .i64 n, .int .i64 s, .int .i64 q], .int .i64 t] (.tuple #[.int .i64 cb, .int .i64 0]) w)
    (hca : TlC 7 #[.agg #[.int .i64 n, .int .i64 s, .int .i64 q], .int .i64 t] (.tuple #[.int .i64 ca, .int .i64 0]) w)
    (hrl : TlC 8 #[.slice A ln c] (.int .i64 0) w)
    (hrs : TlC 10 #[.agg #[.int .i64 n, .int .i64 s, .int .i64 q]] (.int .i64 0) w)
    (hso : ∀ w', Below w.heap.size w w' → Calls Try.prog 9 #[.slice A ln c] w' fun e w'' => ∃ A', e = .returned (.slice A' ln ln) ∧ Reads w'' w''.heap.size 1 A' ln (cellsI T) ∧ Below w'.heap.size w' w'')
    (hrc : TlC 12 #[.agg #[.int .i64 n, .int .i64 s, .int .i64 q], .int .i64 t] (.int .i64 ca) w)
    (hrb : TlC 13 #[.agg #[.int .i64 n, .int .i64 s, .int .i64 q], .int .i64 t] (.int .i64 cb) w) :
    Calls Try.prog 3 #[.slice A ln c, .agg #[.int .i64 n, .int .i64 s, .int .i64 q], .int .i64 t] w fun e' w' => e' = .returned (.bool true) ∧ Below w.heap.size w w' := by
  have HCO := Lib.hid hco
  have HMA := Lib.hid hma
  have HCH := Lib.hid hch
  have HCA := Lib.hid hca
  have HRL := Lib.hid hrl
  have HRS := Lib.hid hrs
  have HSO := Lib.hid hso
  have HRC := Lib.hid hrc
  have HRB := Lib.hid hrb
  have HCT := Lib.hid hct
  have HTL := Lib.hid hTl
  have HMD := Lib.hid (show ∀ k : Nat, k ≤ n → k * t ≤ s → (k = n ∨ s < (k + 1) * t) → min n (s / t) = k from fun k h1 h2 h3 => min_div (by omega) h1 h2 h3)
  have E0 := Lib.hid ((Env.start w).lay #[.int .i64 n, .int .i64 s, .int .i64 q] 24)
  clear hco hma hch hca hrl hrs hso hrc hrb hct hTl
  have a0 := trivial
  have a1 := trivial
  have a2 := trivial
  have p0 := trivial
  go_enter Try.func3, Try.ntmps3
  generalize hmn : min n (s / t) = mn at *
  have HMN := Lib.hid hmn
  clear hmn
  go_wp2_with fail
  refine (HCO.out _ E0.out.bel).mono ?_
  rintro e' w1 ⟨rfl, hb1⟩
  have E1 := Lib.hid (E0.out.below hb1)
  clear hb1 E0 a0 a1 a2 p0
  have a0 := E1.out.hd.cell 0
  have a1 := E1.out.hd.cell 1
  have a2 := E1.out.hd.cell 2
  have p0 := E1.out.hd.lt
  simp at a0 a1 a2 p0
  go_wp2_with fail
  refine (HMA.out _ E1.out.bel).mono ?_
  rintro e' w2 ⟨rfl, hb2⟩
  have E2 := Lib.hid (E1.out.below hb2)
  clear hb2 E1 a0 a1 a2 p0
  have a0 := E2.out.hd.cell 0
  have a1 := E2.out.hd.cell 1
  have a2 := E2.out.hd.cell 2
  have p0 := E2.out.hd.lt
  simp at a0 a1 a2 p0
  go_wp2_with fail
  refine (HCH.out _ E2.out.bel).mono ?_
  rintro e' w3 ⟨rfl, hb3⟩
  have E3 := Lib.hid (E2.out.below hb3)
  clear hb3 E2 a0 a1 a2 p0
  have a0 := E3.out.hd.cell 0
  have a1 := E3.out.hd.cell 1
  have a2 := E3.out.hd.cell 2
  have p0 := E3.out.hd.lt
  simp at a0 a1 a2 p0
  go_wp2_with fail
  refine (HCA.out _ E3.out.bel).mono ?_
  rintro e' w4 ⟨rfl, hb4⟩
  have E4 := Lib.hid (E3.out.below hb4)
  clear hb4 E3 a0 a1 a2 p0
  have a0 := E4.out.hd.cell 0
  have a1 := E4.out.hd.cell 1
  have a2 := E4.out.hd.cell 2
  have p0 := E4.out.hd.lt
  simp at a0 a1 a2 p0
  go_wp2_with fail
  refine (HRL.out _ E4.out.bel).mono ?_
  rintro e' w5 ⟨rfl, hb5⟩
  have E5 := Lib.hid (E4.out.below hb5)
  clear hb5 E4 a0 a1 a2 p0
  have a0 := E5.out.hd.cell 0
  have a1 := E5.out.hd.cell 1
  have a2 := E5.out.hd.cell 2
  have p0 := E5.out.hd.lt
  simp at a0 a1 a2 p0
  go_wp2_with fail
  refine (HSO.out _ E5.out.bel).mono ?_
  rintro e' w6 ⟨A', rfl, hrd, hb6⟩
  have E6 := Lib.hid (E5.out.below hb6)
  have RT := Lib.hid hrd
  clear hb6 hrd E5 a0 a1 a2 p0
  have a0 := E6.out.hd.cell 0
  have a1 := E6.out.hd.cell 1
  have a2 := E6.out.hd.cell 2
  have p0 := E6.out.hd.lt
  simp at a0 a1 a2 p0
  go_wp2_with fail
  go_loopw [16, 59] (fun cv kv wr => ∃ k : Nat, k ≤ ln ∧ cv = .int .i64 ((T.take k).countP (So.lt (t : Int)) : Nat) ∧ kv = .int .i64 (k : Int) ∧ wr = w6) (fun _ kv _ => ln - (intOf kv).toNat)
  case atStart => exact ⟨0, by omega, by simp, rfl, rfl⟩
  case round =>
    obtain ⟨k, hk, rfl, rfl, rfl⟩ := hrel
    have hle : (T.take k).countP (So.lt (t : Int)) ≤ k := Nat.le_trans List.countP_le_length (by rw [List.length_take]; omega)
    by_cases hlt : k < ln
    · obtain ⟨b, off, rfl, hb, hcells⟩ := RT.out.addr (by omega)
      have hcell := hcells k _ (cellsI_at T k (by rw [HTL.out]; exact hlt))
      have HST := Lib.hid (lt_step T (t : Int) k (by rw [HTL.out]; exact hlt))
      have HB := Lib.hid hb
      clear hcells hb
      obtain ⟨c2, hc2⟩ : ∃ c2, c2 = (T.take (k + 1)).countP (So.lt (t : Int)) := ⟨_, rfl⟩
      rw [← hc2] at HST
      have HC2 := Lib.hid hc2
      generalize T.getD k 0 = x at *
      generalize (T.take k).countP (So.lt (t : Int)) = c1 at *
      clear hc2
      by_cases h1 : x < (t : Int)
      · have e := HST.out
        rw [if_pos h1] at e
        subst e
        go_wp2
        go_roundw
        case rel => exact ⟨k + 1, by omega, by rw [← HC2.out]; simp, by simp, by first | rfl | trivial⟩
        case measure => simp [intOf]; omega
      · have e := HST.out
        rw [if_neg h1, Nat.add_zero] at e
        subst e
        go_wp2
        go_roundw
        case rel => exact ⟨k + 1, by omega, by rw [← HC2.out], by simp, by first | rfl | trivial⟩
        case measure => simp [intOf]; omega
    · have hkn : k = ln := by omega
      have hcl : ct + (T.take k).countP (So.lt (t : Int)) = k := by rw [show T.take k = T by rw [hkn, ← HTL.out, List.take_length]]; rw [hkn]; exact HCT.out
      subst hkn
      generalize (T.take k).countP (So.lt (t : Int)) = c1 at *
      go_wp2_with fail
      refine (HRS.out _ E6.out.bel).mono ?_
      rintro e' w7 ⟨rfl, hb7⟩
      have E7 := Lib.hid (E6.out.below hb7)
      clear hb7 E6 a0 a1 a2 p0
      have a0 := E7.out.hd.cell 0
      have a1 := E7.out.hd.cell 1
      have a2 := E7.out.hd.cell 2
      have p0 := E7.out.hd.lt
      simp at a0 a1 a2 p0
      go_wp2_with fail
      refine (tl_rtime _ _).mono ?_
      rintro e' w' ⟨rfl, rfl⟩
      have hwi : wi (t : Int) 0 1073741824 = true := wi_true.2 (by omega)
      go_wp2_with fail
      refine (HRC.out _ E7.out.bel).mono ?_
      rintro e' w8 ⟨rfl, hb8⟩
      have E8 := Lib.hid (E7.out.below hb8)
      clear hb8 E7 a0 a1 a2 p0
      have a0 := E8.out.hd.cell 0
      have a1 := E8.out.hd.cell 1
      have a2 := E8.out.hd.cell 2
      have p0 := E8.out.hd.lt
      simp at a0 a1 a2 p0
      go_wp2_with fail
      go_loopw [20] (fun kv wr => ∃ k : Nat, k ≤ n ∧ kv = .int .i64 (k : Int) ∧ (k = n ∨ s < (k + 1) * t) ∧ wr = w8) (fun kv _ => (intOf kv).toNat)
      case atStart => exact ⟨n, by omega, rfl, .inl rfl, rfl⟩
      case round =>
        obtain ⟨k, hk, rfl, hks, rfl⟩ := hrel
        have HKS := Lib.hid hks
        have hkt : k * t ≤ 64 * 1073741824 := Nat.mul_le_mul (by omega) ht1
        have hkc : (k : Int) * (t : Int) = ((k * t : Nat) : Int) := by simp
        obtain ⟨kt, hkt2⟩ : ∃ kt, kt = k * t := ⟨_, rfl⟩
        rw [← hkt2] at hkt hkc
        have HKT := Lib.hid hkt2
        clear hks hkt2
        have hb0 : (0 : Int) ≤ (k : Int) * (t : Int) := by omega
        have hb1 : (k : Int) * (t : Int) ≤ 68719476736 := by omega
        by_cases hgo : 0 < k ∧ s < kt
        · obtain ⟨g1, g2⟩ := hgo
          have g3 : (s : Int) < (k : Int) * (t : Int) := by omega
          go_wp2
          go_roundw
          case rel => exact ⟨k - 1, by omega, by simp; omega, .inr (by rw [show k - 1 + 1 = k by omega, ← HKT.out]; exact g2), by first | rfl | trivial⟩
          case measure => simp [intOf]; omega
        · have HMI := Lib.hid (HMD.out k hk (by
            rw [← HKT.out]
            rcases Nat.eq_zero_or_pos k with h | h
            · have := HKT.out; rw [h, Nat.zero_mul] at this; omega
            · omega) HKS.out)
          have hmk : mn = k := HMI.out
          subst hmk
          have g3 : (mn : Int) ≤ 0 ∨ 0 < (mn : Int) ∧ (mn : Int) * (t : Int) ≤ (s : Int) := by omega
          clear hgo hkc
          rcases g3 with g3 | ⟨g3, g4⟩
          all_goals
            go_wp2_with fail
            refine (HRB.out _ E8.out.bel).mono ?_
            rintro e' w9 ⟨rfl, hb9⟩
            go_wp2
            go_ret
            exact ⟨rfl, (E8.out.below hb9).bel⟩


theorem tailSays_walk (A : Option Addr) (c : Nat) (l : List Int) (n s q t : Int)
    (w : World) (hr : Reads w w.heap.size 1 A l.length (cellsI l)) (hb : l.length ≤ c ∧ c ≤ maxLen) (_s : ∀ x ∈ l, -9223372036854775808 ≤ x ∧ x ≤ 9223372036854775807)
    (_b : -9223372036854775808 ≤ n ∧ n ≤ 9223372036854775807 ∧ -9223372036854775808 ≤ s ∧ s ≤ 9223372036854775807 ∧ -9223372036854775808 ≤ q ∧ q ≤ 9223372036854775807)
    (_l : -9223372036854775808 ≤ t) (_h : t ≤ 9223372036854775807) :
    Calls Try.prog 3 #[.slice A l.length c, .agg #[.int .i64 n, .int .i64 s, .int .i64 q], .int .i64 t] w fun e' w' => e' = .returned (.bool true) ∧ Below w.heap.size w w' := by
  have hnm : l.length ≤ maxLen := by omega
  have HR : ∀ w', Below w.heap.size w w' → Reads w' w.heap.size 1 A l.length (cellsI l) := fun w' h => hr.below h (Nat.le_refl _)
  have pure : ∀ {f : FuncId} {args : Array Value} {v : Value}, (∀ w', Below w.heap.size w w' → Calls Try.prog f args w' fun e' w'' => e' = .returned v ∧ w' = w'') → TlC f args v w :=
    fun h w' hb => (h w' hb).mono fun e' w'' ⟨a, b⟩ => ⟨a, b ▸ Below.refl _ _⟩
  have hrl : ∀ e, listE l = e → TlC 8 #[.slice A l.length c] (.int .i64 e) w := fun e he => pure fun w' h => tl_rlist A c _ l _ rfl e he hnm w' (HR w' h)
  have hrs : ∀ e, sumsE n s q = e → TlC 10 #[.agg #[.int .i64 n, .int .i64 s, .int .i64 q]] (.int .i64 e) w := fun e he w' _ => rsums_is n s q e he w'
  have hso : listE l = 0 → ∀ w', Below w.heap.size w w' → Calls Try.prog 9 #[.slice A l.length c] w' fun e w'' => ∃ A', e = .returned (.slice A' l.length l.length) ∧ Reads w'' w''.heap.size 1 A' l.length (cellsI (So.srt l)) ∧ Below w'.heap.size w' w'' :=
    fun he w' h => rsorted_any A c _ l (So.srt l) (So.srt_is l) rfl (by have := (listE_zero he).1; omega) w' ((HR w' h).more h.size)
  have hTl : (So.srt l).length = l.length := (So.srt_is l).2.length_eq
  have hct : ∀ t, l.countP (ge t) + (So.srt l).countP (So.lt t) = l.length := fun t => by rw [(So.srt_is l).2.countP_eq]; exact count_both l t
  have hco0 : ∀ t, listE l ≠ 0 → TlC 4 #[.slice A l.length c, .int .i64 t] (.tuple #[.int .i64 0, .int .i64 (listE l)]) w := fun t he => pure fun w' h => count_err A c _ _ l t rfl _ rfl he hnm w' (HR w' h)
  have hco1 : ∀ t, listE l = 0 → TlC 4 #[.slice A l.length c, .int .i64 t] (.tuple #[.int .i64 (l.countP (ge t) : Nat), .int .i64 0]) w := fun t he => pure fun w' h => count_ok A c _ _ l t rfl he hnm w' (HR w' h)
  by_cases hse : sumsE n s q = 0
  · obtain ⟨hn64, hs0, hs1, hq0, hq1⟩ := sums_nat hse
    have hn0 : 0 ≤ n := (sumsE_zero hse).1.1
    obtain ⟨N, rfl⟩ := Int.eq_ofNat_of_zero_le hn0
    obtain ⟨S, rfl⟩ := Int.eq_ofNat_of_zero_le hs0
    obtain ⟨sp, hsp⟩ := Int.eq_ofNat_of_zero_le hq0
    have hN : N ≤ 64 := by omega
    have hS : S ≤ 1073741824 := by omega
    by_cases ht : wi t 0 1073741824 = true
    · obtain ⟨t0, t1⟩ := wi_true.1 ht
      have hca : ∃ ca : Int, TlC 7 #[.agg #[.int .i64 N, .int .i64 S, .int .i64 q], .int .i64 t] (.tuple #[.int .i64 ca, .int .i64 0]) w ∧ TlC 12 #[.agg #[.int .i64 N, .int .i64 S, .int .i64 q], .int .i64 t] (.int .i64 ca) w := by
        by_cases hd : (N : Int) * t - S ≤ 0
        · exact ⟨_, fun w' _ => cant_low _ _ _ _ hse t0 t1 hd w', fun w' _ => rcant_low _ _ _ _ hse t0 t1 hd w'⟩
        · obtain ⟨d, hd2⟩ := Int.eq_ofNat_of_zero_le (show 0 ≤ (N : Int) * t - S by omega)
          exact ⟨_, fun w' _ => cant_ok N d sp _ _ _ hse hsp t0 t1 hd2 (by omega) w', fun w' _ => rcant_ok N d sp _ _ _ hse hsp t0 t1 hd2 (by omega) w'⟩
      obtain ⟨ca, hca, hrc⟩ := hca
      by_cases ht0 : t = 0
      · subst ht0
        have hma : TlC 5 #[.agg #[.int .i64 N, .int .i64 S, .int .i64 q], .int .i64 0] (.tuple #[.int .i64 0, .int .i64 1]) w := fun w' _ => markov_arg _ _ _ _ hse (by omega) w'
        have hch : TlC 6 #[.agg #[.int .i64 N, .int .i64 S, .int .i64 q], .int .i64 0] (.tuple #[.int .i64 0, .int .i64 1]) w := fun w' _ => cheb_arg _ _ _ _ hse (by omega) w'
        by_cases he : listE l = 0
        · exact tl_o_zero A c _ l N S q w hnm (So.srt l) (listE_zero he).1 hTl _ (hct 0) hN hS ca (hco1 0 he) hma hch hca (hrl 0 he) (hrs 0 hse) (hso he) hrc
        · exact tl_e_zero A c _ l N S q w hnm _ he hN hS ca (hco0 0 he) hma hch hca (hrl _ rfl) (hrs 0 hse) hrc
      · obtain ⟨T, rfl⟩ := Int.eq_ofNat_of_zero_le t0
        have hma : TlC 5 #[.agg #[.int .i64 N, .int .i64 S, .int .i64 q], .int .i64 T] (.tuple #[.int .i64 (min N (S / T) : Nat), .int .i64 0]) w := fun w' _ => markov_ok N S T q hse (by omega) (by omega) w'
        have hch : TlC 6 #[.agg #[.int .i64 N, .int .i64 S, .int .i64 q], .int .i64 T] (.tuple #[.int .i64 (min N (sp / (N * (T * T))) : Nat), .int .i64 0]) w := by
          intro w' _
          rcases Nat.eq_zero_or_pos N with h | h
          · subst h
            have := cheb_none _ _ T hse (by omega) (by omega) w'
            simpa using this
          · exact cheb_ok N T sp _ _ hse hsp h (by omega) (by omega) w'
        have hrb : TlC 13 #[.agg #[.int .i64 N, .int .i64 S, .int .i64 q], .int .i64 T] (.int .i64 (min N (sp / (N * (T * T))) : Nat)) w := fun w' _ => rcheb_ok N T sp _ _ hse hsp (by omega) (by omega) w'
        by_cases he : listE l = 0
        · exact tl_o_ok A c _ l N S q T w hnm (So.srt l) (listE_zero he).1 hTl _ (hct T) hN hS (by omega) (by omega) ca _ (hco1 T he) hma hch hca (hrl 0 he) (hrs 0 hse) (hso he) hrc hrb
        · exact tl_e_ok A c _ l N S q T w hnm _ he hN hS (by omega) (by omega) ca _ (hco0 T he) hma hch hca (hrl _ rfl) (hrs 0 hse) hrc hrb
    · have ht : wi t 0 1073741824 = false := by simpa using ht
      have ht2 := wi_false.1 ht
      have hma : TlC 5 #[.agg #[.int .i64 N, .int .i64 S, .int .i64 q], .int .i64 t] (.tuple #[.int .i64 0, .int .i64 1]) w := fun w' _ => markov_arg _ _ _ _ hse (by omega) w'
      have hch : TlC 6 #[.agg #[.int .i64 N, .int .i64 S, .int .i64 q], .int .i64 t] (.tuple #[.int .i64 0, .int .i64 1]) w := fun w' _ => cheb_arg _ _ _ _ hse (by omega) w'
      have hca : TlC 7 #[.agg #[.int .i64 N, .int .i64 S, .int .i64 q], .int .i64 t] (.tuple #[.int .i64 0, .int .i64 1]) w := fun w' _ => cant_arg _ _ _ _ hse (by omega) w'
      by_cases he : listE l = 0
      · exact tl_o_bad A c _ l N S q t w hnm (So.srt l) (listE_zero he).1 hTl _ (hct t) ht (hco1 t he) hma hch hca (hrl 0 he) (hrs 0 hse) (hso he)
      · exact tl_e_bad A c _ l N S q t w hnm _ he ht (hco0 t he) hma hch hca (hrl _ rfl) (hrs 0 hse)
  · have hma : TlC 5 #[.agg #[.int .i64 n, .int .i64 s, .int .i64 q], .int .i64 t] (.tuple #[.int .i64 0, .int .i64 (sumsE n s q)]) w := fun w' _ => markov_err _ _ _ _ _ rfl hse w'
    have hch : TlC 6 #[.agg #[.int .i64 n, .int .i64 s, .int .i64 q], .int .i64 t] (.tuple #[.int .i64 0, .int .i64 (sumsE n s q)]) w := fun w' _ => cheb_err _ _ _ _ _ rfl hse w'
    have hca : TlC 7 #[.agg #[.int .i64 n, .int .i64 s, .int .i64 q], .int .i64 t] (.tuple #[.int .i64 0, .int .i64 (sumsE n s q)]) w := fun w' _ => cant_err _ _ _ _ _ rfl hse w'
    by_cases he : listE l = 0
    · exact tl_o_err A c _ l n s q t w hnm (So.srt l) (listE_zero he).1 hTl _ (hct t) _ hse (hco1 t he) hma hch hca (hrl 0 he) (hrs _ rfl) (hso he)
    · exact tl_e_err A c _ l n s q t w hnm _ he _ hse (hco0 t he) hma hch hca (hrl _ rfl) (hrs _ rfl)
end Go.Proofs.Ytignljfeihlanaa
