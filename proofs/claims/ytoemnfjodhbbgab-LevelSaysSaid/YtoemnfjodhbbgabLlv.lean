/- The law LevelSays, walked. -/
import Derived.Test.YtoemnfjodhbbgabLvW
import Derived.Test.YtoemnfjodhbbgabLvR
import Derived.Deep.DeepCutAuto
namespace Go.Proofs.Ytoemnfjodhbbgab
open Go.RowKit
set_option linter.unusedSimpArgs false
set_option linter.unusedVariables false

theorem lv_rtime (x : Int) (w : World) :
    Calls Try.prog 7 #[.int .i64 x] w fun e w' => e = .returned (.bool (wi x 0 1073741824)) ∧ w = w' := by
  go_enter Try.func7, Try.ntmps7
  go_wp2_with (go_at_call 16; refine (within_any _ _ _ _).mono ?_; rintro e w' ⟨rfl, rfl⟩)
  all_goals (go_ret; simp [*])
theorem lv_two (w w' : World) (h : Reads w' w'.heap.size 1 (some ⟨w.heap.size, 0, none⟩) 1 (cellsI [2])) :
    Calls Try.prog 4 #[.agg #[.int .i64 1, .slice (some ⟨w.heap.size, 0, none⟩) 1 1], .int .i64 1, .int .i64 5] w' fun e' w'' => e' = .returned (.tuple #[.int .i64 3, .int .i64 0]) ∧ Below w'.heap.size w' w'' := by
  have := lof_ok 1 1 5 (some ⟨w.heap.size, 0, none⟩) 1 w'.heap.size 1 [2] rfl (by decide) 2 4 rfl rfl 1 (by decide) (by omega) (by omega) (Nat.le_refl _) (by decide) w' h (Nat.le_refl _)
  rw [show Lv.lvF 1 (1 : Nat) 2 5 = 3 by decide] at this
  exact this

abbrev LvC (f : FuncId) (args : Array Value) (v : Value) (w : World) : Prop :=
  ∀ w', Below w.heap.size w w' → Calls Try.prog f args w' fun e' w'' => e' = .returned v ∧ Below w'.heap.size w' w''

set_option maxHeartbeats 4000000 in
set_option maxRecDepth 100000 in
theorem lv_err (cap least since th : Int) (A : Option Addr) (c n : Nat) (w : World) (hm : n ≤ maxLen) (hc : n ≤ c) (hm2 : c ≤ maxLen) (e : Int) (hz : e ≠ 0)
    (hof : LvC 4 #[.agg #[.int .i64 cap, .slice A n c], .int .i64 least, .int .i64 since] (.tuple #[.int .i64 0, .int .i64 e]) w)
    (hwh : LvC 5 #[.agg #[.int .i64 cap, .slice A n c], .int .i64 least, .int .i64 th] (.tuple #[.int .i64 0, .int .i64 e]) w)
    (hlk : LvC 6 #[.agg #[.int .i64 cap, .slice A n c], .int .i64 least] (.int .i64 e) w) :
    Calls Try.prog 3 #[.agg #[.int .i64 cap, .slice A n c], .int .i64 least, .int .i64 since, .int .i64 th] w fun e' w' => e' = .returned (.bool true) ∧ Below w.heap.size w w' := by
  have HOF := Lib.hid hof
  have HWH := Lib.hid hwh
  have HLK := Lib.hid hlk
  have E := Lib.hid ((Env.start w).lay #[.int .i64 cap, .slice A n c] 24)
  clear hof hwh hlk
  go_enter Try.func3, Try.ntmps3
  go_wp2_with fail
  refine (HOF.out _ E.out.bel).mono ?_
  rintro e' w1 ⟨rfl, hb1⟩
  have E1 := Lib.hid (E.out.below hb1)
  have a0 := E1.out.hd.cell 0
  have a1 := E1.out.hd.cell 1
  have p0 := E1.out.hd.lt
  simp at a0 a1 p0
  clear hb1
  go_wp2_with fail
  refine (HWH.out _ E1.out.bel).mono ?_
  rintro e' w2 ⟨rfl, hb2⟩
  have E2 := Lib.hid ((E1.out.below hb2).lay #[.int .i64 2] 3)
  have R2 := Lib.hid (show Reads (w2.alloc (.cells #[.int .i64 2] 3)) (w2.alloc (.cells #[.int .i64 2] 3)).heap.size 1 (some ⟨w2.heap.size, 0, none⟩) 1 (cellsI [2]) from ⟨rfl, fun _ => ⟨_, rfl, by simp, fun j u hu => by
    match j, hu with
    | 0, hu => simp [cellsI] at hu; subst hu; exact (Blk.new w2 _ _).cell 0⟩⟩)
  clear hb2 E1 E a0 a1 p0
  go_wp2_with fail
  refine (lv_two w2 _ R2.out).mono ?_
  rintro e' w3 ⟨rfl, hb3⟩
  have E3 := Lib.hid (E2.out.below hb3)
  clear hb3 E2 R2
  have a0 := E3.out.tl.hd.cell 0
  have a1 := E3.out.tl.hd.cell 1
  have p0 := E3.out.tl.hd.lt
  simp at a0 a1 p0
  go_wp2_with fail
  refine (HLK.out _ E3.out.bel).mono ?_
  rintro e' w4 ⟨rfl, hb4⟩
  have E4 := Lib.hid (E3.out.below hb4)
  clear hb4 E3 a0 a1 p0
  have a0 := E4.out.tl.hd.cell 0
  have a1 := E4.out.tl.hd.cell 1
  have p0 := E4.out.tl.hd.lt
  simp at a0 a1 p0
  go_wp2
  all_goals first
    | (exfalso; omega)
    | (go_ret; exact ⟨rfl, E4.out.bel⟩)
set_option maxHeartbeats 4000000 in
set_option maxRecDepth 100000 in
theorem lv_bb (cap least since th : Int) (A : Option Addr) (c n : Nat) (w : World) (hm : n ≤ maxLen) (hc : n ≤ c) (hm2 : c ≤ maxLen) (hs : wi since 0 1073741824 = false) (hth : th < 1 ∨ 60 < th)
    (hof : LvC 4 #[.agg #[.int .i64 cap, .slice A n c], .int .i64 least, .int .i64 since] (.tuple #[.int .i64 0, .int .i64 1]) w)
    (hwh : LvC 5 #[.agg #[.int .i64 cap, .slice A n c], .int .i64 least, .int .i64 th] (.tuple #[.int .i64 0, .int .i64 1]) w)
    (hlk : LvC 6 #[.agg #[.int .i64 cap, .slice A n c], .int .i64 least] (.int .i64 0) w) :
    Calls Try.prog 3 #[.agg #[.int .i64 cap, .slice A n c], .int .i64 least, .int .i64 since, .int .i64 th] w fun e' w' => e' = .returned (.bool true) ∧ Below w.heap.size w w' := by
  have HOF := Lib.hid hof
  have HWH := Lib.hid hwh
  have HLK := Lib.hid hlk
  have E := Lib.hid ((Env.start w).lay #[.int .i64 cap, .slice A n c] 24)
  clear hof hwh hlk
  go_enter Try.func3, Try.ntmps3
  go_wp2_with fail
  refine (HOF.out _ E.out.bel).mono ?_
  rintro e' w1 ⟨rfl, hb1⟩
  have E1 := Lib.hid (E.out.below hb1)
  have a0 := E1.out.hd.cell 0
  have a1 := E1.out.hd.cell 1
  have p0 := E1.out.hd.lt
  simp at a0 a1 p0
  clear hb1
  go_wp2_with fail
  refine (HWH.out _ E1.out.bel).mono ?_
  rintro e' w2 ⟨rfl, hb2⟩
  have E2 := Lib.hid ((E1.out.below hb2).lay #[.int .i64 2] 3)
  have R2 := Lib.hid (show Reads (w2.alloc (.cells #[.int .i64 2] 3)) (w2.alloc (.cells #[.int .i64 2] 3)).heap.size 1 (some ⟨w2.heap.size, 0, none⟩) 1 (cellsI [2]) from ⟨rfl, fun _ => ⟨_, rfl, by simp, fun j u hu => by
    match j, hu with
    | 0, hu => simp [cellsI] at hu; subst hu; exact (Blk.new w2 _ _).cell 0⟩⟩)
  clear hb2 E1 E a0 a1 p0
  go_wp2_with fail
  refine (lv_two w2 _ R2.out).mono ?_
  rintro e' w3 ⟨rfl, hb3⟩
  have E3 := Lib.hid (E2.out.below hb3)
  clear hb3 E2 R2
  have a0 := E3.out.tl.hd.cell 0
  have a1 := E3.out.tl.hd.cell 1
  have p0 := E3.out.tl.hd.lt
  simp at a0 a1 p0
  go_wp2_with fail
  refine (HLK.out _ E3.out.bel).mono ?_
  rintro e' w4 ⟨rfl, hb4⟩
  have E4 := Lib.hid (E3.out.below hb4)
  clear hb4 E3 a0 a1 p0
  have a0 := E4.out.tl.hd.cell 0
  have a1 := E4.out.tl.hd.cell 1
  have p0 := E4.out.tl.hd.lt
  simp at a0 a1 p0
  go_wp2_with fail
  refine (lv_rtime _ _).mono ?_
  rintro e' w' ⟨rfl, rfl⟩
  go_wp2
  all_goals first
    | (exfalso; omega)
    | (go_ret; exact ⟨rfl, E4.out.bel⟩)
set_option maxHeartbeats 4000000 in
set_option maxRecDepth 100000 in
theorem lv_bn (cap least since th : Int) (A : Option Addr) (c n : Nat) (w : World) (hm : n ≤ maxLen) (hc : n ≤ c) (hm2 : c ≤ maxLen) (hs : wi since 0 1073741824 = false) (ht1 : 1 ≤ th) (ht2 : th ≤ 60)
    (hof : LvC 4 #[.agg #[.int .i64 cap, .slice A n c], .int .i64 least, .int .i64 since] (.tuple #[.int .i64 0, .int .i64 1]) w)
    (hwh : LvC 5 #[.agg #[.int .i64 cap, .slice A n c], .int .i64 least, .int .i64 th] (.tuple #[.int .i64 0, .int .i64 2]) w)
    (hlk : LvC 6 #[.agg #[.int .i64 cap, .slice A n c], .int .i64 least] (.int .i64 0) w)
    (hrw : LvC 9 #[.slice A n c, .int .i64 least, .int .i64 th] (.int .i64 (-1)) w) :
    Calls Try.prog 3 #[.agg #[.int .i64 cap, .slice A n c], .int .i64 least, .int .i64 since, .int .i64 th] w fun e' w' => e' = .returned (.bool true) ∧ Below w.heap.size w w' := by
  have HOF := Lib.hid hof
  have HWH := Lib.hid hwh
  have HLK := Lib.hid hlk
  have HRW := Lib.hid hrw
  have E := Lib.hid ((Env.start w).lay #[.int .i64 cap, .slice A n c] 24)
  clear hof hwh hlk hrw
  go_enter Try.func3, Try.ntmps3
  go_wp2_with fail
  refine (HOF.out _ E.out.bel).mono ?_
  rintro e' w1 ⟨rfl, hb1⟩
  have E1 := Lib.hid (E.out.below hb1)
  have a0 := E1.out.hd.cell 0
  have a1 := E1.out.hd.cell 1
  have p0 := E1.out.hd.lt
  simp at a0 a1 p0
  clear hb1
  go_wp2_with fail
  refine (HWH.out _ E1.out.bel).mono ?_
  rintro e' w2 ⟨rfl, hb2⟩
  have E2 := Lib.hid ((E1.out.below hb2).lay #[.int .i64 2] 3)
  have R2 := Lib.hid (show Reads (w2.alloc (.cells #[.int .i64 2] 3)) (w2.alloc (.cells #[.int .i64 2] 3)).heap.size 1 (some ⟨w2.heap.size, 0, none⟩) 1 (cellsI [2]) from ⟨rfl, fun _ => ⟨_, rfl, by simp, fun j u hu => by
    match j, hu with
    | 0, hu => simp [cellsI] at hu; subst hu; exact (Blk.new w2 _ _).cell 0⟩⟩)
  clear hb2 E1 E a0 a1 p0
  go_wp2_with fail
  refine (lv_two w2 _ R2.out).mono ?_
  rintro e' w3 ⟨rfl, hb3⟩
  have E3 := Lib.hid (E2.out.below hb3)
  clear hb3 E2 R2
  have a0 := E3.out.tl.hd.cell 0
  have a1 := E3.out.tl.hd.cell 1
  have p0 := E3.out.tl.hd.lt
  simp at a0 a1 p0
  go_wp2_with fail
  refine (HLK.out _ E3.out.bel).mono ?_
  rintro e' w4 ⟨rfl, hb4⟩
  have E4 := Lib.hid (E3.out.below hb4)
  clear hb4 E3 a0 a1 p0
  have a0 := E4.out.tl.hd.cell 0
  have a1 := E4.out.tl.hd.cell 1
  have p0 := E4.out.tl.hd.lt
  simp at a0 a1 p0
  go_wp2_with fail
  refine (lv_rtime _ _).mono ?_
  rintro e' w' ⟨rfl, rfl⟩
  go_wp2_with fail
  refine (HRW.out _ E4.out.bel).mono ?_
  rintro e' w6 ⟨rfl, hb6⟩
  have E6 := Lib.hid (E4.out.below hb6)
  clear hb6 E4 a0 a1 p0
  go_wp2
  all_goals first
    | (exfalso; omega)
    | (go_ret; exact ⟨rfl, E6.out.bel⟩)
set_option maxHeartbeats 4000000 in
set_option maxRecDepth 100000 in
theorem lv_bf (cap least since th : Int) (A : Option Addr) (c n : Nat) (w : World) (hm : n ≤ maxLen) (hc : n ≤ c) (hm2 : c ≤ maxLen) (hs : wi since 0 1073741824 = false) (ht1 : 1 ≤ th) (ht2 : th ≤ 60) (t : Int) (ht0 : 0 ≤ t)
    (hof : LvC 4 #[.agg #[.int .i64 cap, .slice A n c], .int .i64 least, .int .i64 since] (.tuple #[.int .i64 0, .int .i64 1]) w)
    (hwh : LvC 5 #[.agg #[.int .i64 cap, .slice A n c], .int .i64 least, .int .i64 th] (.tuple #[.int .i64 t, .int .i64 0]) w)
    (hlk : LvC 6 #[.agg #[.int .i64 cap, .slice A n c], .int .i64 least] (.int .i64 0) w)
    (hrw : LvC 9 #[.slice A n c, .int .i64 least, .int .i64 th] (.int .i64 t) w) :
    Calls Try.prog 3 #[.agg #[.int .i64 cap, .slice A n c], .int .i64 least, .int .i64 since, .int .i64 th] w fun e' w' => e' = .returned (.bool true) ∧ Below w.heap.size w w' := by
  have HOF := Lib.hid hof
  have HWH := Lib.hid hwh
  have HLK := Lib.hid hlk
  have HRW := Lib.hid hrw
  have E := Lib.hid ((Env.start w).lay #[.int .i64 cap, .slice A n c] 24)
  clear hof hwh hlk hrw
  go_enter Try.func3, Try.ntmps3
  go_wp2_with fail
  refine (HOF.out _ E.out.bel).mono ?_
  rintro e' w1 ⟨rfl, hb1⟩
  have E1 := Lib.hid (E.out.below hb1)
  have a0 := E1.out.hd.cell 0
  have a1 := E1.out.hd.cell 1
  have p0 := E1.out.hd.lt
  simp at a0 a1 p0
  clear hb1
  go_wp2_with fail
  refine (HWH.out _ E1.out.bel).mono ?_
  rintro e' w2 ⟨rfl, hb2⟩
  have E2 := Lib.hid ((E1.out.below hb2).lay #[.int .i64 2] 3)
  have R2 := Lib.hid (show Reads (w2.alloc (.cells #[.int .i64 2] 3)) (w2.alloc (.cells #[.int .i64 2] 3)).heap.size 1 (some ⟨w2.heap.size, 0, none⟩) 1 (cellsI [2]) from ⟨rfl, fun _ => ⟨_, rfl, by simp, fun j u hu => by
    match j, hu with
    | 0, hu => simp [cellsI] at hu; subst hu; exact (Blk.new w2 _ _).cell 0⟩⟩)
  clear hb2 E1 E a0 a1 p0
  go_wp2_with fail
  refine (lv_two w2 _ R2.out).mono ?_
  rintro e' w3 ⟨rfl, hb3⟩
  have E3 := Lib.hid (E2.out.below hb3)
  clear hb3 E2 R2
  have a0 := E3.out.tl.hd.cell 0
  have a1 := E3.out.tl.hd.cell 1
  have p0 := E3.out.tl.hd.lt
  simp at a0 a1 p0
  go_wp2_with fail
  refine (HLK.out _ E3.out.bel).mono ?_
  rintro e' w4 ⟨rfl, hb4⟩
  have E4 := Lib.hid (E3.out.below hb4)
  clear hb4 E3 a0 a1 p0
  have a0 := E4.out.tl.hd.cell 0
  have a1 := E4.out.tl.hd.cell 1
  have p0 := E4.out.tl.hd.lt
  simp at a0 a1 p0
  go_wp2_with fail
  refine (lv_rtime _ _).mono ?_
  rintro e' w' ⟨rfl, rfl⟩
  go_wp2_with fail
  refine (HRW.out _ E4.out.bel).mono ?_
  rintro e' w6 ⟨rfl, hb6⟩
  have E6 := Lib.hid (E4.out.below hb6)
  clear hb6 E4 a0 a1 p0
  go_wp2
  all_goals first
    | (exfalso; omega)
    | (go_ret; exact ⟨rfl, E6.out.bel⟩)
set_option maxHeartbeats 4000000 in
set_option maxRecDepth 100000 in
theorem lv_gb (cap least since th : Int) (A : Option Addr) (c n : Nat) (w : World) (hm : n ≤ maxLen) (hc : n ≤ c) (hm2 : c ≤ maxLen) (hs : wi since 0 1073741824 = true) (F : Nat) (hth : th < 1 ∨ 60 < th)
    (hof : LvC 4 #[.agg #[.int .i64 cap, .slice A n c], .int .i64 least, .int .i64 since] (.tuple #[.int .i64 F, .int .i64 0]) w)
    (hwh : LvC 5 #[.agg #[.int .i64 cap, .slice A n c], .int .i64 least, .int .i64 th] (.tuple #[.int .i64 0, .int .i64 1]) w)
    (hlk : LvC 6 #[.agg #[.int .i64 cap, .slice A n c], .int .i64 least] (.int .i64 0) w)
    (hrl : LvC 8 #[.slice A n c, .int .i64 least, .int .i64 since] (.int .i64 F) w) :
    Calls Try.prog 3 #[.agg #[.int .i64 cap, .slice A n c], .int .i64 least, .int .i64 since, .int .i64 th] w fun e' w' => e' = .returned (.bool true) ∧ Below w.heap.size w w' := by
  have HOF := Lib.hid hof
  have HWH := Lib.hid hwh
  have HLK := Lib.hid hlk
  have HRL := Lib.hid hrl
  have E := Lib.hid ((Env.start w).lay #[.int .i64 cap, .slice A n c] 24)
  clear hof hwh hlk hrl
  go_enter Try.func3, Try.ntmps3
  go_wp2_with fail
  refine (HOF.out _ E.out.bel).mono ?_
  rintro e' w1 ⟨rfl, hb1⟩
  have E1 := Lib.hid (E.out.below hb1)
  have a0 := E1.out.hd.cell 0
  have a1 := E1.out.hd.cell 1
  have p0 := E1.out.hd.lt
  simp at a0 a1 p0
  clear hb1
  go_wp2_with fail
  refine (HWH.out _ E1.out.bel).mono ?_
  rintro e' w2 ⟨rfl, hb2⟩
  have E2 := Lib.hid ((E1.out.below hb2).lay #[.int .i64 2] 3)
  have R2 := Lib.hid (show Reads (w2.alloc (.cells #[.int .i64 2] 3)) (w2.alloc (.cells #[.int .i64 2] 3)).heap.size 1 (some ⟨w2.heap.size, 0, none⟩) 1 (cellsI [2]) from ⟨rfl, fun _ => ⟨_, rfl, by simp, fun j u hu => by
    match j, hu with
    | 0, hu => simp [cellsI] at hu; subst hu; exact (Blk.new w2 _ _).cell 0⟩⟩)
  clear hb2 E1 E a0 a1 p0
  go_wp2_with fail
  refine (lv_two w2 _ R2.out).mono ?_
  rintro e' w3 ⟨rfl, hb3⟩
  have E3 := Lib.hid (E2.out.below hb3)
  clear hb3 E2 R2
  have a0 := E3.out.tl.hd.cell 0
  have a1 := E3.out.tl.hd.cell 1
  have p0 := E3.out.tl.hd.lt
  simp at a0 a1 p0
  go_wp2_with fail
  refine (HLK.out _ E3.out.bel).mono ?_
  rintro e' w4 ⟨rfl, hb4⟩
  have E4 := Lib.hid (E3.out.below hb4)
  clear hb4 E3 a0 a1 p0
  have a0 := E4.out.tl.hd.cell 0
  have a1 := E4.out.tl.hd.cell 1
  have p0 := E4.out.tl.hd.lt
  simp at a0 a1 p0
  go_wp2_with fail
  refine (lv_rtime _ _).mono ?_
  rintro e' w' ⟨rfl, rfl⟩
  go_wp2_with fail
  refine (HRL.out _ E4.out.bel).mono ?_
  rintro e' w5 ⟨rfl, hb5⟩
  have E5 := Lib.hid (E4.out.below hb5)
  clear hb5 E4 a0 a1 p0
  have a0 := E5.out.tl.hd.cell 0
  have a1 := E5.out.tl.hd.cell 1
  have p0 := E5.out.tl.hd.lt
  simp at a0 a1 p0
  go_wp2
  all_goals first
    | (exfalso; omega)
    | (go_ret; exact ⟨rfl, E5.out.bel⟩)
set_option maxHeartbeats 4000000 in
set_option maxRecDepth 100000 in
theorem lv_gn (cap least since th : Int) (A : Option Addr) (c n : Nat) (w : World) (hm : n ≤ maxLen) (hc : n ≤ c) (hm2 : c ≤ maxLen) (hs : wi since 0 1073741824 = true) (F : Nat) (ht1 : 1 ≤ th) (ht2 : th ≤ 60)
    (hof : LvC 4 #[.agg #[.int .i64 cap, .slice A n c], .int .i64 least, .int .i64 since] (.tuple #[.int .i64 F, .int .i64 0]) w)
    (hwh : LvC 5 #[.agg #[.int .i64 cap, .slice A n c], .int .i64 least, .int .i64 th] (.tuple #[.int .i64 0, .int .i64 2]) w)
    (hlk : LvC 6 #[.agg #[.int .i64 cap, .slice A n c], .int .i64 least] (.int .i64 0) w)
    (hrl : LvC 8 #[.slice A n c, .int .i64 least, .int .i64 since] (.int .i64 F) w)
    (hrw : LvC 9 #[.slice A n c, .int .i64 least, .int .i64 th] (.int .i64 (-1)) w) :
    Calls Try.prog 3 #[.agg #[.int .i64 cap, .slice A n c], .int .i64 least, .int .i64 since, .int .i64 th] w fun e' w' => e' = .returned (.bool true) ∧ Below w.heap.size w w' := by
  have HOF := Lib.hid hof
  have HWH := Lib.hid hwh
  have HLK := Lib.hid hlk
  have HRL := Lib.hid hrl
  have HRW := Lib.hid hrw
  have E := Lib.hid ((Env.start w).lay #[.int .i64 cap, .slice A n c] 24)
  clear hof hwh hlk hrl hrw
  go_enter Try.func3, Try.ntmps3
  go_wp2_with fail
  refine (HOF.out _ E.out.bel).mono ?_
  rintro e' w1 ⟨rfl, hb1⟩
  have E1 := Lib.hid (E.out.below hb1)
  have a0 := E1.out.hd.cell 0
  have a1 := E1.out.hd.cell 1
  have p0 := E1.out.hd.lt
  simp at a0 a1 p0
  clear hb1
  go_wp2_with fail
  refine (HWH.out _ E1.out.bel).mono ?_
  rintro e' w2 ⟨rfl, hb2⟩
  have E2 := Lib.hid ((E1.out.below hb2).lay #[.int .i64 2] 3)
  have R2 := Lib.hid (show Reads (w2.alloc (.cells #[.int .i64 2] 3)) (w2.alloc (.cells #[.int .i64 2] 3)).heap.size 1 (some ⟨w2.heap.size, 0, none⟩) 1 (cellsI [2]) from ⟨rfl, fun _ => ⟨_, rfl, by simp, fun j u hu => by
    match j, hu with
    | 0, hu => simp [cellsI] at hu; subst hu; exact (Blk.new w2 _ _).cell 0⟩⟩)
  clear hb2 E1 E a0 a1 p0
  go_wp2_with fail
  refine (lv_two w2 _ R2.out).mono ?_
  rintro e' w3 ⟨rfl, hb3⟩
  have E3 := Lib.hid (E2.out.below hb3)
  clear hb3 E2 R2
  have a0 := E3.out.tl.hd.cell 0
  have a1 := E3.out.tl.hd.cell 1
  have p0 := E3.out.tl.hd.lt
  simp at a0 a1 p0
  go_wp2_with fail
  refine (HLK.out _ E3.out.bel).mono ?_
  rintro e' w4 ⟨rfl, hb4⟩
  have E4 := Lib.hid (E3.out.below hb4)
  clear hb4 E3 a0 a1 p0
  have a0 := E4.out.tl.hd.cell 0
  have a1 := E4.out.tl.hd.cell 1
  have p0 := E4.out.tl.hd.lt
  simp at a0 a1 p0
  go_wp2_with fail
  refine (lv_rtime _ _).mono ?_
  rintro e' w' ⟨rfl, rfl⟩
  go_wp2_with fail
  refine (HRL.out _ E4.out.bel).mono ?_
  rintro e' w5 ⟨rfl, hb5⟩
  have E5 := Lib.hid (E4.out.below hb5)
  clear hb5 E4 a0 a1 p0
  have a0 := E5.out.tl.hd.cell 0
  have a1 := E5.out.tl.hd.cell 1
  have p0 := E5.out.tl.hd.lt
  simp at a0 a1 p0
  go_wp2_with fail
  refine (HRW.out _ E5.out.bel).mono ?_
  rintro e' w6 ⟨rfl, hb6⟩
  have E6 := Lib.hid (E5.out.below hb6)
  clear hb6 E5 a0 a1 p0
  go_wp2
  all_goals first
    | (exfalso; omega)
    | (go_ret; exact ⟨rfl, E6.out.bel⟩)
set_option maxHeartbeats 4000000 in
set_option maxRecDepth 100000 in
theorem lv_gf (cap least since th : Int) (A : Option Addr) (c n : Nat) (w : World) (hm : n ≤ maxLen) (hc : n ≤ c) (hm2 : c ≤ maxLen) (hs : wi since 0 1073741824 = true) (F : Nat) (ht1 : 1 ≤ th) (ht2 : th ≤ 60) (t : Int) (ht0 : 0 ≤ t)
    (hof : LvC 4 #[.agg #[.int .i64 cap, .slice A n c], .int .i64 least, .int .i64 since] (.tuple #[.int .i64 F, .int .i64 0]) w)
    (hwh : LvC 5 #[.agg #[.int .i64 cap, .slice A n c], .int .i64 least, .int .i64 th] (.tuple #[.int .i64 t, .int .i64 0]) w)
    (hlk : LvC 6 #[.agg #[.int .i64 cap, .slice A n c], .int .i64 least] (.int .i64 0) w)
    (hrl : LvC 8 #[.slice A n c, .int .i64 least, .int .i64 since] (.int .i64 F) w)
    (hrw : LvC 9 #[.slice A n c, .int .i64 least, .int .i64 th] (.int .i64 t) w) :
    Calls Try.prog 3 #[.agg #[.int .i64 cap, .slice A n c], .int .i64 least, .int .i64 since, .int .i64 th] w fun e' w' => e' = .returned (.bool true) ∧ Below w.heap.size w w' := by
  have HOF := Lib.hid hof
  have HWH := Lib.hid hwh
  have HLK := Lib.hid hlk
  have HRL := Lib.hid hrl
  have HRW := Lib.hid hrw
  have E := Lib.hid ((Env.start w).lay #[.int .i64 cap, .slice A n c] 24)
  clear hof hwh hlk hrl hrw
  go_enter Try.func3, Try.ntmps3
  go_wp2_with fail
  refine (HOF.out _ E.out.bel).mono ?_
  rintro e' w1 ⟨rfl, hb1⟩
  have E1 := Lib.hid (E.out.below hb1)
  have a0 := E1.out.hd.cell 0
  have a1 := E1.out.hd.cell 1
  have p0 := E1.out.hd.lt
  simp at a0 a1 p0
  clear hb1
  go_wp2_with fail
  refine (HWH.out _ E1.out.bel).mono ?_
  rintro e' w2 ⟨rfl, hb2⟩
  have E2 := Lib.hid ((E1.out.below hb2).lay #[.int .i64 2] 3)
  have R2 := Lib.hid (show Reads (w2.alloc (.cells #[.int .i64 2] 3)) (w2.alloc (.cells #[.int .i64 2] 3)).heap.size 1 (some ⟨w2.heap.size, 0, none⟩) 1 (cellsI [2]) from ⟨rfl, fun _ => ⟨_, rfl, by simp, fun j u hu => by
    match j, hu with
    | 0, hu => simp [cellsI] at hu; subst hu; exact (Blk.new w2 _ _).cell 0⟩⟩)
  clear hb2 E1 E a0 a1 p0
  go_wp2_with fail
  refine (lv_two w2 _ R2.out).mono ?_
  rintro e' w3 ⟨rfl, hb3⟩
  have E3 := Lib.hid (E2.out.below hb3)
  clear hb3 E2 R2
  have a0 := E3.out.tl.hd.cell 0
  have a1 := E3.out.tl.hd.cell 1
  have p0 := E3.out.tl.hd.lt
  simp at a0 a1 p0
  go_wp2_with fail
  refine (HLK.out _ E3.out.bel).mono ?_
  rintro e' w4 ⟨rfl, hb4⟩
  have E4 := Lib.hid (E3.out.below hb4)
  clear hb4 E3 a0 a1 p0
  have a0 := E4.out.tl.hd.cell 0
  have a1 := E4.out.tl.hd.cell 1
  have p0 := E4.out.tl.hd.lt
  simp at a0 a1 p0
  go_wp2_with fail
  refine (lv_rtime _ _).mono ?_
  rintro e' w' ⟨rfl, rfl⟩
  go_wp2_with fail
  refine (HRL.out _ E4.out.bel).mono ?_
  rintro e' w5 ⟨rfl, hb5⟩
  have E5 := Lib.hid (E4.out.below hb5)
  clear hb5 E4 a0 a1 p0
  have a0 := E5.out.tl.hd.cell 0
  have a1 := E5.out.tl.hd.cell 1
  have p0 := E5.out.tl.hd.lt
  simp at a0 a1 p0
  go_wp2_with fail
  refine (HRW.out _ E5.out.bel).mono ?_
  rintro e' w6 ⟨rfl, hb6⟩
  have E6 := Lib.hid (E5.out.below hb6)
  clear hb6 E5 a0 a1 p0
  go_wp2
  all_goals first
    | (exfalso; omega)
    | (go_ret; exact ⟨rfl, E6.out.bel⟩)

theorem levelSays_walk (cap : Int) (A : Option Addr) (c n : Nat) (l : List Int) (least since th : Int) (w : World) (hn : l.length = n) (hr : Reads w w.heap.size 1 A n (cellsI l)) (hc : n ≤ c) (hm : c ≤ maxLen) :
    Calls Try.prog 3 #[.agg #[.int .i64 cap, .slice A n c], .int .i64 least, .int .i64 since, .int .i64 th] w fun e' w' => e' = .returned (.bool true) ∧ Below w.heap.size w w' := by
  have hnm : n ≤ maxLen := by omega
  have HR : ∀ w', Below w.heap.size w w' → Reads w' w.heap.size 1 A n (cellsI l) := fun w' h => hr.below h (Nat.le_refl _)
  by_cases he : lookE cap least l = 0
  · obtain ⟨hwz, hl0, hl1, hn1⟩ := lookE_zero he
    have hle := (winE_zero hwz).2.2.2
    have hlk : LvC 6 #[.agg #[.int .i64 cap, .slice A n c], .int .i64 least] (.int .i64 0) w := fun w' h => rlook_is cap least A c _ n l hn 0 he hnm w' (HR w' h) h.size
    have hsum : sumsE n (s1 l) (s2 l) = 0 := by have := sums_ok l hle; rw [hn] at this; exact this
    obtain ⟨g1, g2, g3, g4, g5, g6, g7, g8, g9, -⟩ := lv_bd hsum (by omega) hl0 hl1
    obtain ⟨v, hv⟩ := Int.eq_ofNat_of_zero_le (show 0 ≤ lvV n (s1 l) (s2 l) least by omega)
    have hof : OfIs cap least A n c (Lv.lvF v n (s1 l)) w := fun s w' h0 h1 h => lof_ok cap least s A c _ n l hn he _ _ rfl rfl v hv h0 h1 hc hm w' (HR w' h) h.size
    have hrof : ROfIs least A n c (Lv.lvF v n (s1 l)) w := fun s w' h0 h1 h => rlevel_ok least s A c _ n l hn hle (by omega) hl0 hl1 _ _ rfl rfl v hv h0 h1 hc hm w' (HR w' h) h.size
    have tr : ∀ {w' : World}, Below w.heap.size w w' → ROfIs least A n c (Lv.lvF v n (s1 l)) w' := fun h s w'' h0 h1 h2 => hrof s w'' h0 h1 (h.trans (h2.mono h.size))
    have tr2 : ∀ {w' : World}, Below w.heap.size w w' → OfIs cap least A n c (Lv.lvF v n (s1 l)) w' := fun h s w'' h0 h1 h2 => hof s w'' h0 h1 (h.trans (h2.mono h.size))
    have hmo : ∀ s t : Int, s ≤ t → Lv.lvF v n (s1 l) s ≤ Lv.lvF v n (s1 l) t := fun s t h => Lv.lvF_mono v _ (by omega) h
    have hsc : wi since 0 1073741824 = true ∨ wi since 0 1073741824 = false := by cases wi since 0 1073741824 <;> simp
    have htc : (th < 1 ∨ 60 < th) ∨ (1 ≤ th ∧ th ≤ 60 ∧ (Lv.lvF v n (s1 l) 1073741824 : Int) < th) ∨ (1 ≤ th ∧ th ≤ 60 ∧ th ≤ (Lv.lvF v n (s1 l) 1073741824 : Int)) := by omega
    rcases hsc with hs | hs
    · obtain ⟨q0, q1⟩ := wi_true.1 hs
      have ho : LvC 4 #[.agg #[.int .i64 cap, .slice A n c], .int .i64 least, .int .i64 since] (.tuple #[.int .i64 (Lv.lvF v n (s1 l) since : Nat), .int .i64 0]) w := fun w' h => hof since w' q0 q1 h
      have hrl : LvC 8 #[.slice A n c, .int .i64 least, .int .i64 since] (.int .i64 (Lv.lvF v n (s1 l) since : Nat)) w := fun w' h => hrof since w' q0 (by omega) h
      rcases htc with ht | ⟨h1, h2, h3⟩ | ⟨h1, h2, h3⟩
      · exact lv_gb cap least since th A c n w hnm hc hm hs _ ht ho (fun w' h => lwhen_arg cap least th A c _ n l hn he ht hnm w' (HR w' h) h.size) hlk hrl
      · exact lv_gn cap least since th A c n w hnm hc hm hs _ h1 h2 ho (fun w' h => lwhen_never cap least th A c _ n l hn he _ h1 h2 h3 hnm w' (HR w' h) h.size (tr2 h)) hlk hrl (fun w' h => rwhen_never least th A c n _ h3 w' (tr h))
      · obtain ⟨t, ht, -⟩ := Lv.first_exists 1073741824 h3
        exact lv_gf cap least since th A c n w hnm hc hm hs _ h1 h2 t ht.1 ho (fun w' h => lwhen_ok cap least th A c _ n l hn he _ hmo h1 h2 t ht h3 hnm w' (HR w' h) h.size (tr2 h)) hlk hrl (fun w' h => rwhen_ok least th A c n _ hmo t ht h3 w' (tr h))
    · have q := wi_false.1 hs
      have ho : LvC 4 #[.agg #[.int .i64 cap, .slice A n c], .int .i64 least, .int .i64 since] (.tuple #[.int .i64 0, .int .i64 1]) w := fun w' h => lof_time cap least since A c _ n l hn he q hnm w' (HR w' h) h.size
      rcases htc with ht | ⟨h1, h2, h3⟩ | ⟨h1, h2, h3⟩
      · exact lv_bb cap least since th A c n w hnm hc hm hs ht ho (fun w' h => lwhen_arg cap least th A c _ n l hn he ht hnm w' (HR w' h) h.size) hlk
      · exact lv_bn cap least since th A c n w hnm hc hm hs h1 h2 ho (fun w' h => lwhen_never cap least th A c _ n l hn he _ h1 h2 h3 hnm w' (HR w' h) h.size (tr2 h)) hlk (fun w' h => rwhen_never least th A c n _ h3 w' (tr h))
      · obtain ⟨t, ht, -⟩ := Lv.first_exists 1073741824 h3
        exact lv_bf cap least since th A c n w hnm hc hm hs h1 h2 t ht.1 ho (fun w' h => lwhen_ok cap least th A c _ n l hn he _ hmo h1 h2 t ht h3 hnm w' (HR w' h) h.size (tr2 h)) hlk (fun w' h => rwhen_ok least th A c n _ hmo t ht h3 w' (tr h))
  · exact lv_err cap least since th A c n w hnm hc hm _ he (fun w' h => lof_err cap least since A c _ n l hn _ rfl he hnm w' (HR w' h) h.size) (fun w' h => lwhen_err cap least th A c _ n l hn _ rfl he hnm w' (HR w' h) h.size) (fun w' h => rlook_is cap least A c _ n l hn _ rfl hnm w' (HR w' h) h.size)
end Go.Proofs.Ytoemnfjodhbbgab
