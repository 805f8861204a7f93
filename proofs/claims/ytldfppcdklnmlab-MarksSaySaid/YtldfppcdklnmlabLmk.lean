/- The law MarksSay, walked: one walk for each case of the answers. -/
import Derived.Test.YtldfppcdklnmlabMarksOf
import Derived.Test.YtldfppcdklnmlabMarksR
namespace Go.Proofs.Ytldfppcdklnmlab
open Go.RowKit
set_option linter.unusedSimpArgs false
set_option linter.unusedVariables false

set_option maxHeartbeats 1000000 in
theorem rmarks_nil (A : Option Addr) (c : Nat) (l : List Trn) (hn : l.length = 0) (fin : Int) (f0 : 0 ≤ fin) (f1 : fin ≤ 1073741824) (w : World) :
    Calls Try.prog 8 #[.slice A 0 c, .int .i64 fin] w fun e' w' => e' = .returned (.agg #[.int .i64 0, .int .i64 0, .int .i64 fin]) ∧ Below w.heap.size w w' := by
  have E := Lib.hid (((Env.start w).lay #[.int .i64 0, .int .i64 0, .int .i64 0] 24).lay #[.int .i64 0, .int .i64 0, .int .i64 0] 24)
  clear hn
  go_enter Try.func8, Try.ntmps8
  go_wp2
  go_loopw [6, 7] (fun i _ wr => i = .int .i64 0 ∧ wr = (w.alloc (.cells #[.int .i64 0, .int .i64 0, .int .i64 0] 24)).alloc (.cells #[.int .i64 0, .int .i64 0, .int .i64 0] 24)) (fun _ _ _ => 0)
  case atStart => exact ⟨rfl, rfl⟩
  case round =>
    obtain ⟨rfl, rfl⟩ := hrel
    go_wp2
    refine bodyPost_ret (v := .agg #[.int .i64 0, .int .i64 0, .int .i64 fin]) (by simp [results, Try.results8, go_sem]) rfl ⟨rfl, ?_⟩
    have := (((E.out.bel.setCell (p := ⟨w.heap.size + 1, 2, none⟩) (by simp) (.int .i64 fin)).setCell (p := ⟨w.heap.size, 0, none⟩) (by simp) (.int .i64 0)).setCell (p := ⟨w.heap.size, 1, none⟩) (by simp) (.int .i64 0)).setCell (p := ⟨w.heap.size, 2, none⟩) (by simp) (.int .i64 fin)
    first | exact this | (simpa using this) | exact (Below.refl _ _).alloc (Nat.le_refl _) _ | exact ((Below.refl _ _).alloc (Nat.le_refl _) _).alloc (by simp) _
theorem rmarks_is (A : Option Addr) (c B n : Nat) (l : List Trn) (hn : l.length = n) (fin : Int) (he : turnsE l fin = 0) (hc : n ≤ c) (hm : c ≤ maxLen) (a b d : Int) (ha : times n (n + 1) = a) (hb : badT (withEnd l fin) (n + 1) = b) (hd : goodT (withEnd l fin) (n + 1) = d) (w : World) (hr : Reads w B 2 A n (cellsT l)) (hB : B ≤ w.heap.size) :
    Calls Try.prog 8 #[.slice A n c, .int .i64 fin] w fun e' w' => e' = .returned (.agg #[.int .i64 a, .int .i64 b, .int .i64 d]) ∧ Below w.heap.size w w' := by
  have hg := good_end l fin
  rw [hn] at hg
  subst ha hb hd
  rcases Nat.eq_zero_or_pos n with h | h
  · subst h
    have hf := turnsE_zero he
    have e1 : times 0 (0 + 1) = 0 := by simp [times]
    have e2 : badT (withEnd l fin) (0 + 1) = 0 := by simp [badT]
    rw [hg, e1, e2, Int.sub_zero]
    exact rmarks_nil A c l hn fin hf.1 hf.2.1 w
  · have e1 : times n (n + 1) = (((n + 1) / 2 : Nat) : Int) := by unfold times; rw [Nat.min_eq_right (by omega)]
    rw [hg, e1]
    exact rmarks_ok A c B n l hn fin he h hc hm w hr hB
theorem mof_is (A : Option Addr) (c B n : Nat) (l : List Trn) (hn : l.length = n) (fin : Int) (he : turnsE l fin = 0) (hc : n ≤ c) (hm : c ≤ maxLen) (a b d : Int) (ha : times n (n + 1) = a) (hb : badT (withEnd l fin) (n + 1) = b) (hd : goodT (withEnd l fin) (n + 1) = d) (w : World) (hr : Reads w B 2 A n (cellsT l)) (hB : B ≤ w.heap.size) :
    Calls Try.prog 4 #[.slice A n c, .int .i64 fin] w fun e' w' => e' = .returned (.tuple #[.agg #[.int .i64 a, .int .i64 b, .int .i64 d], .int .i64 0]) ∧ Below w.heap.size w w' := by
  subst ha hb hd; exact mof_ok A c B n l hn fin he hc hm w hr hB

set_option maxHeartbeats 4000000 in
set_option maxRecDepth 100000 in
theorem mk_err (A : Option Addr) (c B n : Nat) (l : List Trn) (hn : l.length = n) (fin t : Int) (e : Int) (he : turnsE l fin = e) (hz : e ≠ 0) (hc : n ≤ c) (hm : c ≤ maxLen) (w : World) (hr : Reads w B 2 A n (cellsT l)) (hB : B ≤ w.heap.size) :
    Calls Try.prog 3 #[.slice A n c, .int .i64 fin, .int .i64 t] w fun e' w' => e' = .returned (.bool true) ∧ Below w.heap.size w w' := by
  have HN := Lib.hid hn
  have HE := Lib.hid he
  have HR := Lib.hid hr
  have HB := Lib.hid hB
  have E := Lib.hid (Env.start w)
  clear hn he hr hB
  go_enter Try.func3, Try.ntmps3
  go_wp2_with fail
  refine (mof_err A c B n l HN.out fin _ HE.out hz _ HR.out HB.out).mono ?_
  rintro e' w1 ⟨rfl, hb1⟩
  have E1 := Lib.hid ((E.out.below hb1).lay #[.int .i64 0, .int .i64 0, .int .i64 0] 24)
  clear hb1
  go_wp2_with fail
  refine (mat_err A c B n l HN.out fin t _ HE.out hz _ (HR.out.below E1.out.bel HB.out) (Nat.le_trans HB.out E1.out.bel.size)).mono ?_
  rintro e' w2 ⟨rfl, hb2⟩
  have E2 := Lib.hid (E1.out.below hb2)
  clear hb2
  go_wp2_with fail
  refine (trns_is A c B n l HN.out fin _ HE.out _ (HR.out.below E2.out.bel HB.out) (Nat.le_trans HB.out E2.out.bel.size)).mono ?_
  rintro e' w3 ⟨rfl, hb3⟩
  have E3 := Lib.hid (E2.out.below hb3)
  clear hb3
  go_wp2_with fail
  refine (tchk_is A c B n l HN.out fin _ HE.out _ (HR.out.below E3.out.bel HB.out) (Nat.le_trans HB.out E3.out.bel.size)).mono ?_
  rintro e' w4 ⟨rfl, hb4⟩
  have E4 := Lib.hid (E3.out.below hb4)
  clear hb4
  go_wp2_with fail
  refine (tchk_is none 0 0 0 [] rfl (-1) 1 (by decide) _ Reads.none_ (Nat.zero_le _)).mono ?_
  rintro e' w5 ⟨rfl, hb5⟩
  have E5 := Lib.hid (E4.out.below hb5)
  clear hb5
  have p0 := E5.out.hd.lt
  have x0 := E5.out.hd.cell 0
  have x1 := E5.out.hd.cell 1
  have x2 := E5.out.hd.cell 2
  simp at x0 x1 x2
  go_wp2
  go_ret
  exact ⟨rfl, E5.out.bel⟩

set_option maxHeartbeats 4000000 in
set_option maxRecDepth 100000 in
theorem mk_arg (A : Option Addr) (c B n : Nat) (l : List Trn) (hn : l.length = n) (fin t : Int) (he : turnsE l fin = 0) (ht : t < 0 ∨ fin < t) (hc : n ≤ c) (hm : c ≤ maxLen) (w : World) (hr : Reads w B 2 A n (cellsT l)) (hB : B ≤ w.heap.size) :
    Calls Try.prog 3 #[.slice A n c, .int .i64 fin, .int .i64 t] w fun e' w' => e' = .returned (.bool true) ∧ Below w.heap.size w w' := by
  have HN := Lib.hid hn
  have HE := Lib.hid he
  have hfit := turnsE_zero he
  have f0 := hfit.1
  have f1 := hfit.2.1
  have h64 : n ≤ 64 := by have := hfit.2.2.1; omega
  generalize ha : times n (n + 1) = a
  generalize hb : badT (withEnd l fin) (n + 1) = b
  generalize hd : goodT (withEnd l fin) (n + 1) = d
  have HA := Lib.hid ha
  have HBD := Lib.hid hb
  have HD := Lib.hid hd
  clear ha hb hd hfit
  have HR := Lib.hid hr
  have HB := Lib.hid hB
  have E := Lib.hid (Env.start w)
  clear hn he hr hB
  go_enter Try.func3, Try.ntmps3
  go_wp2_with fail
  refine (mof_is A c B n l HN.out fin HE.out hc hm _ _ _ HA.out HBD.out HD.out _ HR.out HB.out).mono ?_
  rintro e' w1 ⟨rfl, hb1⟩
  have E1 := Lib.hid ((E.out.below hb1).lay #[.int .i64 a, .int .i64 b, .int .i64 d] 24)
  clear hb1
  go_wp2_with fail
  refine (mat_arg A c B n l HN.out fin t HE.out ht _ (HR.out.below E1.out.bel HB.out) (Nat.le_trans HB.out E1.out.bel.size)).mono ?_
  rintro e' w2 ⟨rfl, hb2⟩
  have E2 := Lib.hid (E1.out.below hb2)
  clear hb2
  go_wp2_with fail
  refine (trns_is A c B n l HN.out fin _ HE.out _ (HR.out.below E2.out.bel HB.out) (Nat.le_trans HB.out E2.out.bel.size)).mono ?_
  rintro e' w3 ⟨rfl, hb3⟩
  have E3 := Lib.hid (E2.out.below hb3)
  clear hb3
  go_wp2_with fail
  refine (tchk_is A c B n l HN.out fin _ HE.out _ (HR.out.below E3.out.bel HB.out) (Nat.le_trans HB.out E3.out.bel.size)).mono ?_
  rintro e' w4 ⟨rfl, hb4⟩
  have E4 := Lib.hid (E3.out.below hb4)
  clear hb4
  go_wp2_with fail
  refine (tchk_is none 0 0 0 [] rfl (-1) 1 (by decide) _ Reads.none_ (Nat.zero_le _)).mono ?_
  rintro e' w5 ⟨rfl, hb5⟩
  have E5 := Lib.hid (E4.out.below hb5)
  clear hb5
  have p0 := E5.out.hd.lt
  have x0 := E5.out.hd.cell 0
  have x1 := E5.out.hd.cell 1
  have x2 := E5.out.hd.cell 2
  simp at x0 x1 x2
  go_wp2_with fail
  have HO := Lib.hid (show ∀ w', Below w5.heap.size w5 w' → Calls Try.prog 8 #[.slice A n c, .int .i64 fin] w' fun e' w'' => e' = .returned (.agg #[.int .i64 a, .int .i64 b, .int .i64 d]) ∧ Below w'.heap.size w' w''
    from fun w' hb => rmarks_is A c B n l HN.out fin HE.out hc hm _ _ _ HA.out HBD.out HD.out w' (HR.out.below (E5.out.below hb).bel HB.out) (Nat.le_trans HB.out (E5.out.below hb).bel.size))
  have HX := Lib.hid (show ∀ w', Below w5.heap.size w5 w' → (Below w5.heap.size w5 w' ∧ w'.cell? ⟨w1.heap.size, 0, none⟩ = some (.int .i64 a) ∧ w'.cell? ⟨w1.heap.size, 1, none⟩ = some (.int .i64 b) ∧ w'.cell? ⟨w1.heap.size, 2, none⟩ = some (.int .i64 d))
    from fun w' e8 => ⟨e8, (E5.out.below e8).hd.cell 0, (E5.out.below e8).hd.cell 1, (E5.out.below e8).hd.cell 2⟩)
  go_region_held3 (fun w' => Below w5.heap.size w5 w' ∧ w'.cell? ⟨w1.heap.size, 0, none⟩ = some (.int .i64 a) ∧ w'.cell? ⟨w1.heap.size, 1, none⟩ = some (.int .i64 b) ∧ w'.cell? ⟨w1.heap.size, 2, none⟩ = some (.int .i64 d))
    ((refine HX.out _ ?_; first | exact (Below.refl _ _).drew | exact And.left (by assumption) | exact Below.trans (And.left (by assumption)) (Below.mono hb6 (Below.size (And.left (by assumption))))))
    ((go_at_call 8; refine (HO.out _ (by first | exact (Below.refl _ _).drew | exact And.left (by assumption))).mono ?_; rintro e' w6 ⟨rfl, hb6⟩))
  rename_i hheld
  have E6 := Lib.hid (E5.out.below hheld.1)
  clear hheld HO HX x0 x1 x2 p0
  have p0 := E6.out.hd.lt
  have x0 := E6.out.hd.cell 0
  have x1 := E6.out.hd.cell 1
  have x2 := E6.out.hd.cell 2
  simp at x0 x1 x2
  go_wp2
  all_goals first
    | (exfalso; omega)
    | (go_ret; exact ⟨rfl, E6.out.bel⟩)

set_option maxHeartbeats 4000000 in
set_option maxRecDepth 100000 in
theorem mk_nil (A : Option Addr) (c B : Nat) (l : List Trn) (hn : l.length = 0) (fin t : Int) (he : turnsE l fin = 0) (ht0 : 0 ≤ t) (ht1 : t ≤ fin) (hc : 0 ≤ c) (hm : c ≤ maxLen) (w : World) (hr : Reads w B 2 A 0 (cellsT l)) (hB : B ≤ w.heap.size) :
    Calls Try.prog 3 #[.slice A 0 c, .int .i64 fin, .int .i64 t] w fun e' w' => e' = .returned (.bool true) ∧ Below w.heap.size w w' := by
  have HN := Lib.hid hn
  have HE := Lib.hid he
  have hfit := turnsE_zero he
  have f0 := hfit.1
  have f1 := hfit.2.1
  generalize ha : times 0 (0 + 1) = a
  generalize hb : badT (withEnd l fin) (0 + 1) = b
  generalize hd : goodT (withEnd l fin) (0 + 1) = d
  have HA := Lib.hid ha
  have HBD := Lib.hid hb
  have HD := Lib.hid hd
  clear ha hb hd hfit
  have HR := Lib.hid hr
  have HB := Lib.hid hB
  have E := Lib.hid (Env.start w)
  clear hn he hr hB
  go_enter Try.func3, Try.ntmps3
  go_wp2_with fail
  refine (mof_is A c B 0 l HN.out fin HE.out hc hm _ _ _ HA.out HBD.out HD.out _ HR.out HB.out).mono ?_
  rintro e' w1 ⟨rfl, hb1⟩
  have E1 := Lib.hid ((E.out.below hb1).lay #[.int .i64 a, .int .i64 b, .int .i64 d] 24)
  clear hb1
  go_wp2_with fail
  refine (mat_nil A c B l HN.out fin t HE.out ht0 ht1 _ (HR.out.below E1.out.bel HB.out) (Nat.le_trans HB.out E1.out.bel.size)).mono ?_
  rintro e' w2 ⟨rfl, hb2⟩
  have E2 := Lib.hid (E1.out.below hb2)
  clear hb2
  go_wp2_with fail
  refine (trns_is A c B 0 l HN.out fin _ HE.out _ (HR.out.below E2.out.bel HB.out) (Nat.le_trans HB.out E2.out.bel.size)).mono ?_
  rintro e' w3 ⟨rfl, hb3⟩
  have E3 := Lib.hid (E2.out.below hb3)
  clear hb3
  go_wp2_with fail
  refine (tchk_is A c B 0 l HN.out fin _ HE.out _ (HR.out.below E3.out.bel HB.out) (Nat.le_trans HB.out E3.out.bel.size)).mono ?_
  rintro e' w4 ⟨rfl, hb4⟩
  have E4 := Lib.hid (E3.out.below hb4)
  clear hb4
  go_wp2_with fail
  refine (tchk_is none 0 0 0 [] rfl (-1) 1 (by decide) _ Reads.none_ (Nat.zero_le _)).mono ?_
  rintro e' w5 ⟨rfl, hb5⟩
  have E5 := Lib.hid (E4.out.below hb5)
  clear hb5
  have p0 := E5.out.hd.lt
  have x0 := E5.out.hd.cell 0
  have x1 := E5.out.hd.cell 1
  have x2 := E5.out.hd.cell 2
  simp at x0 x1 x2
  go_wp2_with fail
  have HO := Lib.hid (show ∀ w', Below w5.heap.size w5 w' → Calls Try.prog 8 #[.slice A 0 c, .int .i64 fin] w' fun e' w'' => e' = .returned (.agg #[.int .i64 a, .int .i64 b, .int .i64 d]) ∧ Below w'.heap.size w' w''
    from fun w' hb => rmarks_is A c B 0 l HN.out fin HE.out hc hm _ _ _ HA.out HBD.out HD.out w' (HR.out.below (E5.out.below hb).bel HB.out) (Nat.le_trans HB.out (E5.out.below hb).bel.size))
  have HX := Lib.hid (show ∀ w', Below w5.heap.size w5 w' → (Below w5.heap.size w5 w' ∧ w'.cell? ⟨w1.heap.size, 0, none⟩ = some (.int .i64 a) ∧ w'.cell? ⟨w1.heap.size, 1, none⟩ = some (.int .i64 b) ∧ w'.cell? ⟨w1.heap.size, 2, none⟩ = some (.int .i64 d))
    from fun w' e8 => ⟨e8, (E5.out.below e8).hd.cell 0, (E5.out.below e8).hd.cell 1, (E5.out.below e8).hd.cell 2⟩)
  go_region_held3 (fun w' => Below w5.heap.size w5 w' ∧ w'.cell? ⟨w1.heap.size, 0, none⟩ = some (.int .i64 a) ∧ w'.cell? ⟨w1.heap.size, 1, none⟩ = some (.int .i64 b) ∧ w'.cell? ⟨w1.heap.size, 2, none⟩ = some (.int .i64 d))
    ((refine HX.out _ ?_; first | exact (Below.refl _ _).drew | exact And.left (by assumption) | exact Below.trans (And.left (by assumption)) (Below.mono hb6 (Below.size (And.left (by assumption))))))
    ((go_at_call 8; refine (HO.out _ (by first | exact (Below.refl _ _).drew | exact And.left (by assumption))).mono ?_; rintro e' w6 ⟨rfl, hb6⟩))
  rename_i hheld
  have E6 := Lib.hid (E5.out.below hheld.1)
  clear hheld HO HX x0 x1 x2 p0
  have p0 := E6.out.hd.lt
  have x0 := E6.out.hd.cell 0
  have x1 := E6.out.hd.cell 1
  have x2 := E6.out.hd.cell 2
  simp at x0 x1 x2
  go_wp2
  go_loop [12] (fun i => i = .int .i64 0) (fun _ => 0)
  case atStart => exact rfl
  case round =>
    subst hrel
    go_wp2
    go_ret
    exact ⟨rfl, E6.out.bel⟩

set_option maxHeartbeats 4000000 in
set_option maxRecDepth 100000 in
theorem mk_run (A : Option Addr) (c B n : Nat) (l : List Trn) (hn : l.length = n) (fin t : Int) (he : turnsE l fin = 0) (ht0 : 0 ≤ t) (ht1 : t ≤ fin) (hz : 1 ≤ n) (hc : n ≤ c) (hm : c ≤ maxLen) (w : World) (hr : Reads w B 2 A n (cellsT l)) (hB : B ≤ w.heap.size) :
    Calls Try.prog 3 #[.slice A n c, .int .i64 fin, .int .i64 t] w fun e' w' => e' = .returned (.bool true) ∧ Below w.heap.size w w' := by
  have HN := Lib.hid hn
  have HE := Lib.hid he
  have hfit := turnsE_zero he
  have f0 := hfit.1
  have f1 := hfit.2.1
  have h64 : n ≤ 64 := by have := hfit.2.2.1; omega
  generalize ha : times n (n + 1) = a
  generalize hb : badT (withEnd l fin) (n + 1) = b
  generalize hd : goodT (withEnd l fin) (n + 1) = d
  have HA := Lib.hid ha
  have HBD := Lib.hid hb
  have HD := Lib.hid hd
  clear ha hb hd hfit
  obtain ⟨g, off, rfl, hg, hat⟩ := hr.turns hn (by omega)
  have hgw : g < w.heap.size := by omega
  have HAT := Lib.hid hat
  generalize hct : (cntT l t % 2 == 1) = cb
  have HCT := Lib.hid hct
  clear hat hg hct
  have HR := Lib.hid hr
  have HB := Lib.hid hB
  have E := Lib.hid (Env.start w)
  clear hn he hr hB
  go_enter Try.func3, Try.ntmps3
  go_wp2_with fail
  refine (mof_is _ c B n l HN.out fin HE.out hc hm _ _ _ HA.out HBD.out HD.out _ HR.out HB.out).mono ?_
  rintro e' w1 ⟨rfl, hb1⟩
  have E1 := Lib.hid ((E.out.below hb1).lay #[.int .i64 a, .int .i64 b, .int .i64 d] 24)
  clear hb1
  go_wp2_with fail
  refine (mat_run _ c B n l HN.out fin t HE.out ht0 ht1 hz _ HCT.out _ (HR.out.below E1.out.bel HB.out) (Nat.le_trans HB.out E1.out.bel.size)).mono ?_
  rintro e' w2 ⟨rfl, hb2⟩
  have E2 := Lib.hid (E1.out.below hb2)
  clear hb2
  go_wp2_with fail
  refine (trns_is _ c B n l HN.out fin _ HE.out _ (HR.out.below E2.out.bel HB.out) (Nat.le_trans HB.out E2.out.bel.size)).mono ?_
  rintro e' w3 ⟨rfl, hb3⟩
  have E3 := Lib.hid (E2.out.below hb3)
  clear hb3
  go_wp2_with fail
  refine (tchk_is _ c B n l HN.out fin _ HE.out _ (HR.out.below E3.out.bel HB.out) (Nat.le_trans HB.out E3.out.bel.size)).mono ?_
  rintro e' w4 ⟨rfl, hb4⟩
  have E4 := Lib.hid (E3.out.below hb4)
  clear hb4
  go_wp2_with fail
  refine (tchk_is none 0 0 0 [] rfl (-1) 1 (by decide) _ Reads.none_ (Nat.zero_le _)).mono ?_
  rintro e' w5 ⟨rfl, hb5⟩
  have E5 := Lib.hid (E4.out.below hb5)
  clear hb5
  have p0 := E5.out.hd.lt
  have x0 := E5.out.hd.cell 0
  have x1 := E5.out.hd.cell 1
  have x2 := E5.out.hd.cell 2
  simp at x0 x1 x2
  go_wp2_with fail
  have HO := Lib.hid (show ∀ w', Below w5.heap.size w5 w' → Calls Try.prog 8 #[.slice (some ⟨g, off, none⟩) n c, .int .i64 fin] w' fun e' w'' => e' = .returned (.agg #[.int .i64 a, .int .i64 b, .int .i64 d]) ∧ Below w'.heap.size w' w''
    from fun w' hb => rmarks_is _ c B n l HN.out fin HE.out hc hm _ _ _ HA.out HBD.out HD.out w' (HR.out.below (E5.out.below hb).bel HB.out) (Nat.le_trans HB.out (E5.out.below hb).bel.size))
  have HX := Lib.hid (show ∀ w', Below w5.heap.size w5 w' → (Below w5.heap.size w5 w' ∧ w'.cell? ⟨w1.heap.size, 0, none⟩ = some (.int .i64 a) ∧ w'.cell? ⟨w1.heap.size, 1, none⟩ = some (.int .i64 b) ∧ w'.cell? ⟨w1.heap.size, 2, none⟩ = some (.int .i64 d))
    from fun w' e8 => ⟨e8, (E5.out.below e8).hd.cell 0, (E5.out.below e8).hd.cell 1, (E5.out.below e8).hd.cell 2⟩)
  go_region_held3 (fun w' => Below w5.heap.size w5 w' ∧ w'.cell? ⟨w1.heap.size, 0, none⟩ = some (.int .i64 a) ∧ w'.cell? ⟨w1.heap.size, 1, none⟩ = some (.int .i64 b) ∧ w'.cell? ⟨w1.heap.size, 2, none⟩ = some (.int .i64 d))
    ((refine HX.out _ ?_; first | exact (Below.refl _ _).drew | exact And.left (by assumption) | exact Below.trans (And.left (by assumption)) (Below.mono hb6 (Below.size (And.left (by assumption))))))
    ((go_at_call 8; refine (HO.out _ (by first | exact (Below.refl _ _).drew | exact And.left (by assumption))).mono ?_; rintro e' w6 ⟨rfl, hb6⟩))
  rename_i hheld
  have E6 := Lib.hid (E5.out.below hheld.1)
  clear hheld HO HX x0 x1 x2 p0
  have p0 := E6.out.hd.lt
  have x0 := E6.out.hd.cell 0
  have x1 := E6.out.hd.cell 1
  have x2 := E6.out.hd.cell 2
  simp at x0 x1 x2
  go_wp2
  go_loop [12] (fun i => ∃ k : Nat, k ≤ n ∧ i = .int .i64 k ∧ ∀ j, j < k → Tm l j ≤ t) (fun i => n - (intOf i).toNat)
  case atStart => exact ⟨0, Nat.zero_le _, rfl, fun j hj => by omega⟩
  case round =>
    obtain ⟨k, hk, rfl, hrel⟩ := hrel
    have HG := Lib.hid hrel
    clear hrel
    by_cases hlt : k < n
    · obtain ⟨y0, -⟩ := HAT.out.below E6.out.bel hgw k hlt
      by_cases hle : Tm l k ≤ t
      · have HLE := Lib.hid hle
        generalize hx : Tm l k = x at *
        have HX := Lib.hid hx
        clear hx
        go_wp2
        go_round
        case rel =>
          refine ⟨k + 1, hlt, by simp, fun j hj => ?_⟩
          by_cases e : j = k
          · subst e; rw [HX.out]; exact HLE.out
          · exact HG.out j (by omega)
        case measure => simp [intOf]; omega
      · have hgt : t < Tm l k := by omega
        have HC := Lib.hid (show (k % 2 == 1) = cb by rw [← HCT.out, cntT_at l t k (by rw [HN.out]; exact hlt) HG.out hgt])
        have HC2 := Lib.hid (show ((k : Int) % 2 == 1) = cb by rw [← HC.out, Bool.eq_iff_iff, beq_iff_eq, beq_iff_eq]; omega)
        clear hle
        generalize Tm l k = x at *
        go_wp2
        go_ret
        exact ⟨ret_bool (by simp [HC2.out]), E6.out.bel⟩
    · have hkn : k = n := by omega
      have HC := Lib.hid (show (k % 2 == 1) = cb by rw [← HCT.out, cntT_all l t (fun j hj => HG.out j (by rw [HN.out] at hj; omega)), HN.out, hkn])
      have HC2 := Lib.hid (show ((k : Int) % 2 == 1) = cb by rw [← HC.out, Bool.eq_iff_iff, beq_iff_eq, beq_iff_eq]; omega)
      have hkn' : n ≤ k := by omega
      clear hkn
      go_wp2
      go_ret
      exact ⟨ret_bool (by simp [HC2.out]), E6.out.bel⟩

theorem marksSay_walk (A : Option Addr) (c : Nat) (l : List Trn) (fin t : Int) (w : World) (hr : Reads w w.heap.size 2 A l.length (cellsT l)) (hb : l.length ≤ c ∧ c ≤ maxLen)
    (_a : -9223372036854775808 ≤ fin) (_b : fin ≤ 9223372036854775807) (_c : -9223372036854775808 ≤ t) (_d : t ≤ 9223372036854775807) :
    Calls Try.prog 3 #[.slice A l.length c, .int .i64 fin, .int .i64 t] w fun e' w' => e' = .returned (.bool true) ∧ Below w.heap.size w w' := by
  generalize hn : l.length = n at *
  by_cases he : turnsE l fin = 0
  · by_cases ht : t < 0 ∨ fin < t
    · exact mk_arg A c _ n l hn fin t he ht hb.1 hb.2 w hr (Nat.le_refl _)
    · rcases Nat.eq_zero_or_pos n with hz | hz
      · subst hz; exact mk_nil A c _ l hn fin t he (by omega) (by omega) hb.1 hb.2 w hr (Nat.le_refl _)
      · exact mk_run A c _ n l hn fin t he (by omega) (by omega) hz hb.1 hb.2 w hr (Nat.le_refl _)
  · exact mk_err A c _ n l hn fin t _ rfl he hb.1 hb.2 w hr (Nat.le_refl _)
end Go.Proofs.Ytldfppcdklnmlab
