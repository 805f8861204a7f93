/- The law WinSays, walked: one walk for each case of the answers. -/
import Derived.Test.YtldfppcdklnmladPush
import Derived.IntWalk
namespace Go.Proofs.Ytldfppcdklnmlad
open Go.RowKit
set_option linter.unusedSimpArgs false
set_option linter.unusedVariables false

set_option maxHeartbeats 1000000 in
theorem push_err (cap x : Int) (A : Option Addr) (c B n : Nat) (l : List Int) (hn : l.length = n) (hc : n ≤ c) (hm : c ≤ maxLen) (e : Int) (hcap : winE cap l = e) (hz : e ≠ 0) (w : World) (hr : Reads w B 1 A n (cellsI l)) (hB : B ≤ w.heap.size) :
    Calls Try.prog 4 #[.agg #[.int .i64 cap, .slice A n c], .int .i64 x] w fun e' w' => e' = .returned (.tuple #[.agg #[.int .i64 0, .slice none 0 0], .int .i64 e]) ∧ Below w.heap.size w w' := by
  have HN := Lib.hid hn
  have HE := Lib.hid hcap
  have HR := Lib.hid hr
  have HB := Lib.hid hB
  have E := Lib.hid (((Env.start w).lay #[.int .i64 cap, .slice A n c] 24).lay #[.int .i64 0, .slice none 0 0] 24)
  clear hn hr hB hcap 
  go_enter Try.func4, Try.ntmps4
  go_wp2_with fail
  refine (wchk_is cap A c B n l HN.out _ HE.out (by omega) _ (HR.out.below E.out.bel HB.out) (Nat.le_trans HB.out E.out.bel.size)).mono ?_
  rintro e' w1 ⟨rfl, hb1⟩
  have E1 := Lib.hid (E.out.below hb1)
  clear hb1
  have p0 := E1.out.hd.lt
  have b0 := E1.out.hd.cell 0
  have b1 := E1.out.hd.cell 1
  have f0 := E1.out.hd.frozen 0
  have f1 := E1.out.hd.frozen 1
  simp at b0 b1 p0 f0 f1
  go_wp2
  refine bodyPost_ret (v := .tuple #[.agg #[.int .i64 0, .slice none 0 0], .int .i64 e]) (by simp [results, Try.results4, go_sem, *]) rfl ⟨rfl, ?_⟩
  exact (E1.out.bel.setCell (by simp) _).setCell (by simp) _

set_option maxHeartbeats 1000000 in
theorem push_val (cap x : Int) (A : Option Addr) (c B n : Nat) (l : List Int) (hn : l.length = n) (hc : n ≤ c) (hm : c ≤ maxLen) (hcap : winE cap l = 0) (hx : wi x 0 16777216 = false) (w : World) (hr : Reads w B 1 A n (cellsI l)) (hB : B ≤ w.heap.size) :
    Calls Try.prog 4 #[.agg #[.int .i64 cap, .slice A n c], .int .i64 x] w fun e' w' => e' = .returned (.tuple #[.agg #[.int .i64 0, .slice none 0 0], .int .i64 1]) ∧ Below w.heap.size w w' := by
  have HN := Lib.hid hn
  have HE := Lib.hid hcap
  have HR := Lib.hid hr
  have HB := Lib.hid hB
  have HX := Lib.hid hx
  have E := Lib.hid (((Env.start w).lay #[.int .i64 cap, .slice A n c] 24).lay #[.int .i64 0, .slice none 0 0] 24)
  clear hn hr hB hcap hx
  go_enter Try.func4, Try.ntmps4
  go_wp2_with fail
  refine (wchk_is cap A c B n l HN.out _ HE.out (by omega) _ (HR.out.below E.out.bel HB.out) (Nat.le_trans HB.out E.out.bel.size)).mono ?_
  rintro e' w1 ⟨rfl, hb1⟩
  have E1 := Lib.hid (E.out.below hb1)
  clear hb1
  have p0 := E1.out.hd.lt
  have b0 := E1.out.hd.cell 0
  have b1 := E1.out.hd.cell 1
  have f0 := E1.out.hd.frozen 0
  have f1 := E1.out.hd.frozen 1
  simp at b0 b1 p0 f0 f1
  go_wp2_with (go_at_call 12; refine (wval_is _ false HX.out _).mono ?_; rintro e' w' ⟨rfl, rfl⟩)
  refine bodyPost_ret (v := .tuple #[.agg #[.int .i64 0, .slice none 0 0], .int .i64 1]) (by simp [results, Try.results4, go_sem, *]) rfl ⟨rfl, ?_⟩
  exact (E1.out.bel.setCell (by simp) _).setCell (by simp) _
theorem rval_is (x : Int) (b : Bool) (h : wi x 0 16777216 = b) (w : World) :
    Calls Try.prog 9 #[.int .i64 x] w fun e w' => e = .returned (.bool b) ∧ w = w' := by
  subst h; exact lrval_any x w
def NewIntsN (l : List Int) (n : Nat) (w : World) (e : Ending) (w' : World) : Prop := ∃ A c, e = .returned (.slice A n c) ∧ w'.ownsRow w.heap.size 3 1 (.slice A n c) n (cellsI l) ∧ Below w.heap.size w w'
theorem clone_n (A : Option Addr) (c B n : Nat) (l : List Int) (hn : l.length = n) (h64 : n ≤ 100000) (w : World) (hr : Reads w B 1 A n (cellsI l)) (hB : B ≤ w.heap.size) :
    Calls Try.prog 11 #[.slice A n c] w (NewIntsN l n w) :=
  (clone_any A c B n l hn h64 w hr hB).mono fun e w' h => by
    obtain ⟨A2, c2, h1, h2, h3⟩ := h
    rw [hn] at h1 h2
    exact ⟨A2, c2, h1, h2, h3⟩

set_option maxHeartbeats 4000000 in
set_option maxRecDepth 100000 in
theorem ws_e (x : Int) (cap : Int) (A : Option Addr) (c B n : Nat) (l : List Int) (hn : l.length = n) (hc : n ≤ c) (hm : c ≤ maxLen) (e : Int) (hcap : winE cap l = e) (hz : e ≠ 0) (w : World) (hr : Reads w B 1 A n (cellsI l)) (hB : B ≤ w.heap.size) :
    Calls Try.prog 3 #[.agg #[.int .i64 cap, .slice A n c], .int .i64 x] w fun e' w' => e' = .returned (.bool true) ∧ Below w.heap.size w w' := by
  have HN := Lib.hid hn
  have HE := Lib.hid hcap
  have HR := Lib.hid hr
  have HB := Lib.hid hB
  have HLEN := Lib.hid (show l.length = n by simp [hn])
  generalize hL : listE l = Lz
  have HL := Lib.hid hL
  have E := Lib.hid ((Env.start w).lay #[.int .i64 cap, .slice A n c] 24)
  clear hn hr hB hcap hL 
  go_enter Try.func3, Try.ntmps3
  go_wp2_with fail
  refine (push_err cap x A c B n l HN.out hc hm _ HE.out hz _ (HR.out.below E.out.bel HB.out) (Nat.le_trans HB.out E.out.bel.size)).mono ?_
  rintro e' w1 ⟨rfl, hb1⟩
  have E1 := Lib.hid ((E.out.below hb1).lay #[.int .i64 0, .slice none 0 0] 24)
  clear hb1
  have p0 := E1.out.tl.hd.lt
  have a0 := E1.out.tl.hd.cell 0
  have a1 := E1.out.tl.hd.cell 1
  simp at a0 a1 p0
  go_wp2_with fail
  refine (rwin_is cap A c B n l HLEN.out _ HE.out (by unfold maxLen at *; omega) _ (HR.out.below E1.out.bel HB.out) (Nat.le_trans HB.out E1.out.bel.size)).mono ?_
  rintro e' w2 ⟨rfl, hb2⟩
  have E2 := Lib.hid (E1.out.below hb2)
  clear hb2 p0 a0 a1
  go_wp2_with fail
  have HWL := Lib.hid (show ∀ w', Below w2.heap.size w2 w' → Calls Try.prog 6 #[.slice A n c] w' fun e' w'' => e' = .returned (.int .i64 Lz) ∧ w' = w''
    from fun w' hb => wlist_is A c B l n HLEN.out _ HL.out (by unfold maxLen at *; omega) w' (HR.out.below (E2.out.below hb).bel HB.out))
  have HRL := Lib.hid (show ∀ w', Below w2.heap.size w2 w' → Calls Try.prog 7 #[.slice A n c] w' fun e' w'' => e' = .returned (.int .i64 Lz) ∧ w' = w''
    from fun w' hb => rlist_is A c B l n HLEN.out _ HL.out (by unfold maxLen at *; omega) w' (HR.out.below (E2.out.below hb).bel HB.out))
  have HCK := Lib.hid (show ∀ w', Below w2.heap.size w2 w' → Calls Try.prog 8 #[.agg #[.int .i64 cap, .slice A n c]] w' fun e' w'' => e' = .returned (.int .i64 e) ∧ Below w'.heap.size w' w''
    from fun w' hb => wchk_is cap A c B n l HLEN.out _ HE.out (by unfold maxLen at *; omega) w' (HR.out.below (E2.out.below hb).bel HB.out) (Nat.le_trans HB.out (E2.out.below hb).bel.size))
  have HMI := Lib.hid (show ∀ w', Calls Try.prog 6 #[.slice (some ⟨World.heap w' |>.size, 0, none⟩) 1 1] (w'.alloc (.cells #[.int .i64 (-1)] 3)) fun e' w'' => e' = .returned (.int .i64 1) ∧ w'.alloc (.cells #[.int .i64 (-1)] 3) = w''
    from fun w' => wlist_is _ 1 _ [-1] 1 rfl 1 (by decide) (by unfold maxLen; omega) _ (reads_new w' 3 (-1)))
  have HS := Lib.hid (show ∀ w', Below w2.heap.size w2 w' → (Below w2.heap.size w2 w' ∧ w'.cell? ⟨w.heap.size, 0, none⟩ = some (.int .i64 cap) ∧ w'.cell? ⟨w.heap.size, 1, none⟩ = some (.slice A n c))
    from fun w' e8 => ⟨e8, (E2.out.below e8).tl.hd.cell 0, (E2.out.below e8).tl.hd.cell 1⟩)
  go_region_held3 (fun w' => Below w2.heap.size w2 w' ∧ w'.cell? ⟨w.heap.size, 0, none⟩ = some (.int .i64 cap) ∧ w'.cell? ⟨w.heap.size, 1, none⟩ = some (.slice A n c))
    ((refine HS.out _ ?_; first | exact (Below.refl _ _).drew | exact And.left (by assumption) | exact Below.trans (And.left (by assumption)) (Below.mono hb3 (Below.size (And.left (by assumption)))) | exact Below.alloc (And.left (by assumption)) (Below.size (And.left (by assumption))) _))
    (first
      | (go_at_call 6; (with_reducible refine (HMI.out _).mono ?_); rintro e' w' ⟨rfl, rfl⟩)
      | (go_at_call 6; (with_reducible refine (HWL.out _ (by exact And.left (by assumption))).mono ?_); rintro e' w' ⟨rfl, rfl⟩)
      | (go_at_call 7; refine (HRL.out _ (by exact And.left (by assumption))).mono ?_; rintro e' w' ⟨rfl, rfl⟩)
      | (go_at_call 8; refine (HCK.out _ (by exact And.left (by assumption))).mono ?_; rintro e' w3 ⟨rfl, hb3⟩))
  all_goals
    rename_i hheld
    have E3 := Lib.hid (E2.out.below hheld.1)
    clear hheld HWL HRL HCK HMI HS
    have p0 := E3.out.hd.lt
    have x0 := E3.out.hd.cell 0
    have x1 := E3.out.hd.cell 1
    have a0 := E3.out.tl.hd.cell 0
    have a1 := E3.out.tl.hd.cell 1
    simp at x0 x1 a0 a1 p0
    go_wp2_with fail
    refine (swin_yes 0 none none 0 0 0 0 0 [] rfl rfl (by omega) _ Reads.none_ Reads.none_ (Nat.zero_le _)).mono ?_
    rintro e' w9 ⟨rfl, hb9⟩
    have E9 := Lib.hid (E3.out.below hb9)
    clear hb9
    go_wp2
    go_ret
    exact ⟨rfl, E9.out.bel⟩

set_option maxHeartbeats 4000000 in
set_option maxRecDepth 100000 in
theorem ws_v (x : Int) (cap : Int) (A : Option Addr) (c B n : Nat) (l : List Int) (hn : l.length = n) (hc : n ≤ c) (hm : c ≤ maxLen) (hcap : winE cap l = 0) (hx : wi x 0 16777216 = false) (w : World) (hr : Reads w B 1 A n (cellsI l)) (hB : B ≤ w.heap.size) :
    Calls Try.prog 3 #[.agg #[.int .i64 cap, .slice A n c], .int .i64 x] w fun e' w' => e' = .returned (.bool true) ∧ Below w.heap.size w w' := by
  have HN := Lib.hid hn
  have HE := Lib.hid hcap
  have HR := Lib.hid hr
  have HB := Lib.hid hB
  have HLEN := Lib.hid (show l.length = n by simp [hn])
  have HX := Lib.hid hx
  generalize hL : listE l = Lz
  have HL := Lib.hid hL
  have E := Lib.hid ((Env.start w).lay #[.int .i64 cap, .slice A n c] 24)
  clear hn hr hB hcap hL hx
  go_enter Try.func3, Try.ntmps3
  go_wp2_with fail
  refine (push_val cap x A c B n l HN.out hc hm HE.out HX.out _ (HR.out.below E.out.bel HB.out) (Nat.le_trans HB.out E.out.bel.size)).mono ?_
  rintro e' w1 ⟨rfl, hb1⟩
  have E1 := Lib.hid ((E.out.below hb1).lay #[.int .i64 0, .slice none 0 0] 24)
  clear hb1
  have p0 := E1.out.tl.hd.lt
  have a0 := E1.out.tl.hd.cell 0
  have a1 := E1.out.tl.hd.cell 1
  simp at a0 a1 p0
  go_wp2_with fail
  refine (rwin_is cap A c B n l HLEN.out 0 HE.out (by unfold maxLen at *; omega) _ (HR.out.below E1.out.bel HB.out) (Nat.le_trans HB.out E1.out.bel.size)).mono ?_
  rintro e' w2 ⟨rfl, hb2⟩
  have E2 := Lib.hid (E1.out.below hb2)
  clear hb2 p0 a0 a1
  go_wp2_with fail
  have HWL := Lib.hid (show ∀ w', Below w2.heap.size w2 w' → Calls Try.prog 6 #[.slice A n c] w' fun e' w'' => e' = .returned (.int .i64 Lz) ∧ w' = w''
    from fun w' hb => wlist_is A c B l n HLEN.out _ HL.out (by unfold maxLen at *; omega) w' (HR.out.below (E2.out.below hb).bel HB.out))
  have HRL := Lib.hid (show ∀ w', Below w2.heap.size w2 w' → Calls Try.prog 7 #[.slice A n c] w' fun e' w'' => e' = .returned (.int .i64 Lz) ∧ w' = w''
    from fun w' hb => rlist_is A c B l n HLEN.out _ HL.out (by unfold maxLen at *; omega) w' (HR.out.below (E2.out.below hb).bel HB.out))
  have HCK := Lib.hid (show ∀ w', Below w2.heap.size w2 w' → Calls Try.prog 8 #[.agg #[.int .i64 cap, .slice A n c]] w' fun e' w'' => e' = .returned (.int .i64 0) ∧ Below w'.heap.size w' w''
    from fun w' hb => wchk_is cap A c B n l HLEN.out 0 HE.out (by unfold maxLen at *; omega) w' (HR.out.below (E2.out.below hb).bel HB.out) (Nat.le_trans HB.out (E2.out.below hb).bel.size))
  have HMI := Lib.hid (show ∀ w', Calls Try.prog 6 #[.slice (some ⟨World.heap w' |>.size, 0, none⟩) 1 1] (w'.alloc (.cells #[.int .i64 (-1)] 3)) fun e' w'' => e' = .returned (.int .i64 1) ∧ w'.alloc (.cells #[.int .i64 (-1)] 3) = w''
    from fun w' => wlist_is _ 1 _ [-1] 1 rfl 1 (by decide) (by unfold maxLen; omega) _ (reads_new w' 3 (-1)))
  have HS := Lib.hid (show ∀ w', Below w2.heap.size w2 w' → (Below w2.heap.size w2 w' ∧ w'.cell? ⟨w.heap.size, 0, none⟩ = some (.int .i64 cap) ∧ w'.cell? ⟨w.heap.size, 1, none⟩ = some (.slice A n c))
    from fun w' e8 => ⟨e8, (E2.out.below e8).tl.hd.cell 0, (E2.out.below e8).tl.hd.cell 1⟩)
  go_region_held3 (fun w' => Below w2.heap.size w2 w' ∧ w'.cell? ⟨w.heap.size, 0, none⟩ = some (.int .i64 cap) ∧ w'.cell? ⟨w.heap.size, 1, none⟩ = some (.slice A n c))
    ((refine HS.out _ ?_; first | exact (Below.refl _ _).drew | exact And.left (by assumption) | exact Below.trans (And.left (by assumption)) (Below.mono hb3 (Below.size (And.left (by assumption)))) | exact Below.alloc (And.left (by assumption)) (Below.size (And.left (by assumption))) _))
    (first
      | (go_at_call 6; (with_reducible refine (HMI.out _).mono ?_); rintro e' w' ⟨rfl, rfl⟩)
      | (go_at_call 6; (with_reducible refine (HWL.out _ (by exact And.left (by assumption))).mono ?_); rintro e' w' ⟨rfl, rfl⟩)
      | (go_at_call 7; refine (HRL.out _ (by exact And.left (by assumption))).mono ?_; rintro e' w' ⟨rfl, rfl⟩)
      | (go_at_call 8; refine (HCK.out _ (by exact And.left (by assumption))).mono ?_; rintro e' w3 ⟨rfl, hb3⟩))
  all_goals
    rename_i hheld
    have E3 := Lib.hid (E2.out.below hheld.1)
    clear hheld HWL HRL HCK HMI HS
    have p0 := E3.out.hd.lt
    have x0 := E3.out.hd.cell 0
    have x1 := E3.out.hd.cell 1
    have a0 := E3.out.tl.hd.cell 0
    have a1 := E3.out.tl.hd.cell 1
    simp at x0 x1 a0 a1 p0
    go_wp2_with (go_at_call 9; refine (rval_is _ false HX.out _).mono ?_; rintro e' w' ⟨rfl, rfl⟩)
    refine (swin_yes 0 none none 0 0 0 0 0 [] rfl rfl (by omega) _ Reads.none_ Reads.none_ (Nat.zero_le _)).mono ?_
    rintro e' w9 ⟨rfl, hb9⟩
    have E9 := Lib.hid (E3.out.below hb9)
    clear hb9
    go_wp2
    go_ret
    exact ⟨rfl, E9.out.bel⟩

set_option maxHeartbeats 4000000 in
set_option maxRecDepth 100000 in
theorem ws_t (x : Int) (cap : Int) (A : Option Addr) (c B n : Nat) (l : List Int) (hn : l.length = n) (hc : n ≤ c) (hm : c ≤ maxLen) (hcap : winE cap l = 0) (hlt : (n : Int) < cap) (hx : wi x 0 16777216 = true) (w : World) (hr : Reads w B 1 A n (cellsI l)) (hB : B ≤ w.heap.size) :
    Calls Try.prog 3 #[.agg #[.int .i64 cap, .slice A n c], .int .i64 x] w fun e' w' => e' = .returned (.bool true) ∧ Below w.heap.size w w' := by
  have HN := Lib.hid hn
  have HE := Lib.hid hcap
  have HR := Lib.hid hr
  have HB := Lib.hid hB
  have HLEN := Lib.hid (show l.length = n by simp [hn])
  have HX := Lib.hid hx
  obtain ⟨i0, hi, hz0, hz1, hz2⟩ := info_parts int_info
  obtain ⟨c0, c1, c2, -⟩ := winE_zero hcap
  have h64 : n ≤ 64 := by have := HLEN.out; omega
  generalize hL : listE l = Lz
  have HL := Lib.hid hL
  have E := Lib.hid ((Env.start w).lay #[.int .i64 cap, .slice A n c] 24)
  clear hn hr hB hcap hL hx
  go_enter Try.func3, Try.ntmps3
  go_wp2_with fail
  refine (push_tail cap x A c B n l HN.out hc hm HE.out hlt HX.out _ (HR.out.below E.out.bel HB.out) (Nat.le_trans HB.out E.out.bel.size)).mono ?_
  rintro e' w1 ⟨A5, c5, rfl, hown5, hb1⟩
  have E1 := Lib.hid ((E.out.below hb1).lay #[.int .i64 cap, .slice A5 (n + 1) c5] 24)
  have HR5 := Lib.hid ((Reads.of_own hown5).alloc (Nat.le_refl _) (.cells #[.int .i64 cap, .slice A5 (n + 1) c5] 24))
  clear hb1 hown5
  have p0 := E1.out.tl.hd.lt
  have a0 := E1.out.tl.hd.cell 0
  have a1 := E1.out.tl.hd.cell 1
  simp at a0 a1 p0
  go_wp2_with fail
  refine (rwin_is cap A c B n l HLEN.out 0 HE.out (by unfold maxLen at *; omega) _ (HR.out.below E1.out.bel HB.out) (Nat.le_trans HB.out E1.out.bel.size)).mono ?_
  rintro e' w2 ⟨rfl, hb2⟩
  have E2 := Lib.hid (E1.out.below hb2)
  have HR5a := Lib.hid (HR5.out.below hb2 (by simp))
  have HZ2 := Lib.hid (show w1.heap.size ≤ w2.heap.size by have := hb2.size; simp at this; omega)
  clear hb2 p0 a0 a1
  go_wp2_with fail
  have HWL := Lib.hid (show ∀ w', Below w2.heap.size w2 w' → Calls Try.prog 6 #[.slice A n c] w' fun e' w'' => e' = .returned (.int .i64 Lz) ∧ w' = w''
    from fun w' hb => wlist_is A c B l n HLEN.out _ HL.out (by unfold maxLen at *; omega) w' (HR.out.below (E2.out.below hb).bel HB.out))
  have HRL := Lib.hid (show ∀ w', Below w2.heap.size w2 w' → Calls Try.prog 7 #[.slice A n c] w' fun e' w'' => e' = .returned (.int .i64 Lz) ∧ w' = w''
    from fun w' hb => rlist_is A c B l n HLEN.out _ HL.out (by unfold maxLen at *; omega) w' (HR.out.below (E2.out.below hb).bel HB.out))
  have HCK := Lib.hid (show ∀ w', Below w2.heap.size w2 w' → Calls Try.prog 8 #[.agg #[.int .i64 cap, .slice A n c]] w' fun e' w'' => e' = .returned (.int .i64 0) ∧ Below w'.heap.size w' w''
    from fun w' hb => wchk_is cap A c B n l HLEN.out 0 HE.out (by unfold maxLen at *; omega) w' (HR.out.below (E2.out.below hb).bel HB.out) (Nat.le_trans HB.out (E2.out.below hb).bel.size))
  have HMI := Lib.hid (show ∀ w', Calls Try.prog 6 #[.slice (some ⟨World.heap w' |>.size, 0, none⟩) 1 1] (w'.alloc (.cells #[.int .i64 (-1)] 3)) fun e' w'' => e' = .returned (.int .i64 1) ∧ w'.alloc (.cells #[.int .i64 (-1)] 3) = w''
    from fun w' => wlist_is _ 1 _ [-1] 1 rfl 1 (by decide) (by unfold maxLen; omega) _ (reads_new w' 3 (-1)))
  have HS := Lib.hid (show ∀ w', Below w2.heap.size w2 w' → (Below w2.heap.size w2 w' ∧ w'.cell? ⟨w.heap.size, 0, none⟩ = some (.int .i64 cap) ∧ w'.cell? ⟨w.heap.size, 1, none⟩ = some (.slice A n c))
    from fun w' e8 => ⟨e8, (E2.out.below e8).tl.hd.cell 0, (E2.out.below e8).tl.hd.cell 1⟩)
  go_region_held3 (fun w' => Below w2.heap.size w2 w' ∧ w'.cell? ⟨w.heap.size, 0, none⟩ = some (.int .i64 cap) ∧ w'.cell? ⟨w.heap.size, 1, none⟩ = some (.slice A n c))
    ((refine HS.out _ ?_; first | exact (Below.refl _ _).drew | exact And.left (by assumption) | exact Below.trans (And.left (by assumption)) (Below.mono hb3 (Below.size (And.left (by assumption)))) | exact Below.alloc (And.left (by assumption)) (Below.size (And.left (by assumption))) _))
    (first
      | (go_at_call 6; (with_reducible refine (HMI.out _).mono ?_); rintro e' w' ⟨rfl, rfl⟩)
      | (go_at_call 6; (with_reducible refine (HWL.out _ (by exact And.left (by assumption))).mono ?_); rintro e' w' ⟨rfl, rfl⟩)
      | (go_at_call 7; refine (HRL.out _ (by exact And.left (by assumption))).mono ?_; rintro e' w' ⟨rfl, rfl⟩)
      | (go_at_call 8; refine (HCK.out _ (by exact And.left (by assumption))).mono ?_; rintro e' w3 ⟨rfl, hb3⟩))
  all_goals
    rename_i hheld
    have E3 := Lib.hid (E2.out.below hheld.1)
    have HR5b := Lib.hid (HR5a.out.below hheld.1 HZ2.out)
    have HZ3 := Lib.hid (Nat.le_trans HZ2.out hheld.1.size)
    clear hheld HWL HRL HCK HMI HS
    have p0 := E3.out.hd.lt
    have x0 := E3.out.hd.cell 0
    have x1 := E3.out.hd.cell 1
    have a0 := E3.out.tl.hd.cell 0
    have a1 := E3.out.tl.hd.cell 1
    simp at x0 x1 a0 a1 p0
    go_wp2_with (go_at_call 9; refine (rval_is _ true HX.out _).mono ?_; rintro e' w' ⟨rfl, rfl⟩)
    refine (clone_n A c B n l HLEN.out (by omega) _ (HR.out.below E3.out.bel HB.out) (Nat.le_trans HB.out E3.out.bel.size)).mono ?_
    rintro e' w4 ⟨A6, c6, rfl, hown6, hb4⟩
    have E4 := Lib.hid ((E3.out.below hb4).alloc (.cells #[.int .i64 x] 3))
    have HO6 := Lib.hid hown6
    have HR5c := Lib.hid ((HR5b.out.below hb4 HZ3.out).alloc (Nat.le_trans HZ3.out hb4.size) (.cells #[.int .i64 x] 3))
    have HS4 := Lib.hid hb4.size
    clear hown6 hb4 p0 x0 x1 a0 a1
    go_wp2_with (at_builtin; refine wpList_appN _ rfl _ _ 22 rfl _ 3 i0 (.int .i64 0) 1 8 Try.underlying22 hi hz0 hz1 hz2 rfl (by decide) _ _ _ rfl (HO6.out.alloc _) _ _ _ _ _ rfl (reads_new w4 3 x) (oneCell_ints [x]) ?c1 ?c2 ?c3 ?_)
    case c1 => unfold maxLen; have := HLEN.out; omega
    case c2 => have := HLEN.out; omega
    case c3 => have := HS4.out; simp at this ⊢; omega
    intro v7 w7 hown7 hb7
    obtain ⟨g7, c7, rfl, hg7, hgw7, hc7, hm7, hcell7⟩ := ownsRow_at hown7 (by omega)
    have E7 := Lib.hid (E4.out.belowB hb7 (by have := E3.out.bel.size; simp at this ⊢; omega) (by have := E3.out.hd.lt; have := E3.out.tl.hd.lt; simp at *; omega))
    have HC7 := Lib.hid hcell7
    have HR5d := Lib.hid (HR5c.out.below hb7 (by have := HZ3.out; simpa using this))
    have HZ7 := Lib.hid E7.out.hd.lt
    clear hown7 hb7 hcell7 HO6 HS4 E4 E3
    have p0 := E7.out.hd.lt
    have x0 := E7.out.hd.cell 0
    have x1 := E7.out.hd.cell 1
    have a0 := E7.out.tl.hd.cell 0
    have a1 := E7.out.tl.hd.cell 1
    simp at x0 x1 a0 a1 p0
    go_wp2
    have hneg : ((n : Int) + 1 - cap ≤ 0) := by omega
    have hwr : IntKind.i64.wrap ((n : Int) + 1 - cap) = (n : Int) + 1 - cap := IntWalk.i64_in _ (by omega)
    have hnl : ¬ (0 < (n : Int) + 1 - cap) := by omega
    have hc70 : ¬ (c7 = 0) := by omega
    have hnl2 : ¬ (cap < (n : Int) + 1) := by omega
    have hq1 : (0 : Int) ≤ (n : Int) + 1 := by omega
    have hq2 : (n : Int) + 1 ≤ cap := by omega
    have hq3 : (n : Int) + 1 ≤ (c7 : Int) := by omega
    have hq4 : (0 : Int) ≤ (c7 : Int) := by omega
    have HRX := Lib.hid (show ∀ w', Below w7.heap.size w7 w' → (Reads w' w7.heap.size 1 A5 (n + 1) (cellsI (l ++ [x])) ∧ Reads w' w7.heap.size 1 (some ⟨g7, 0, none⟩) (n + 1) (cellsI (l ++ [x]))) from fun w' hb => by
      refine ⟨(HR5d.out.below hb (Nat.le_of_lt HZ7.out)).more (Nat.le_of_lt HZ7.out), ⟨by have := HLEN.out; simp [cellsI] at this ⊢; omega, fun _ => ⟨_, rfl, hgw7, fun j u hu => (hb.cell (by rw [block_of_add]; exact hgw7)).trans ?_⟩⟩⟩
      have := HC7.out j u (by simpa [cellsI] using hu)
      by_cases hj : j = 0
      · subst hj; simpa [Addr.add] using this
      · simpa [Addr.add, hj, Nat.add_comm 1] using this)
    have HSW := Lib.hid (show ∀ w', Below w7.heap.size w7 w' → Calls Try.prog 10 #[.agg #[.int .i64 cap, .slice A5 (n + 1) c5], .agg #[.int .i64 cap, .slice (some ⟨g7, 0, none⟩) (n + 1) c7]] w' fun e' w'' => e' = .returned (.bool true) ∧ Below w'.heap.size w' w''
      from fun w' hb => swin_yes cap _ _ _ _ w7.heap.size _ _ (l ++ [x]) (by have := HLEN.out; simp at this ⊢; omega) (by have := HLEN.out; simp at this ⊢; omega) (by omega) w' (HRX.out w' hb).1 (HRX.out w' hb).2 hb.size)
    have HS := Lib.hid (show ∀ w', Below w7.heap.size w7 w' → (Below w7.heap.size w7 w' ∧ w'.cell? ⟨w1.heap.size, 0, none⟩ = some (.int .i64 cap) ∧ w'.cell? ⟨w1.heap.size, 1, none⟩ = some (.slice A5 (n + 1) c5) ∧ w'.cell? ⟨w.heap.size, 0, none⟩ = some (.int .i64 cap))
      from fun w' e8 => ⟨e8, (E7.out.below e8).hd.cell 0, (E7.out.below e8).hd.cell 1, (E7.out.below e8).tl.hd.cell 0⟩)
    clear x0 x1 a0 a1 p0
    go_region_held3 (fun w' => Below w7.heap.size w7 w' ∧ w'.cell? ⟨w1.heap.size, 0, none⟩ = some (.int .i64 cap) ∧ w'.cell? ⟨w1.heap.size, 1, none⟩ = some (.slice A5 (n + 1) c5) ∧ w'.cell? ⟨w.heap.size, 0, none⟩ = some (.int .i64 cap))
      ((refine HS.out _ ?_; first | exact (Below.refl _ _).drew | exact And.left (by assumption) | exact Below.trans (And.left (by assumption)) (Below.mono hb8 (Below.size (And.left (by assumption))))))
      ((go_at_call 10; (with_reducible refine (HSW.out _ (by exact And.left (by assumption))).mono ?_); rintro e' w8 ⟨rfl, hb8⟩))
    all_goals
      rename_i hheld
      have E8 := Lib.hid (E7.out.below hheld.1)
      clear hheld
      go_wp2
      go_ret
      exact ⟨rfl, E8.out.bel⟩

set_option maxHeartbeats 4000000 in
set_option maxRecDepth 100000 in
theorem ws_f (x : Int) (y : Int) (A : Option Addr) (B m d : Nat) (l : List Int) (hn : l.length = m) (hd : 1 ≤ d) (hc : m ≤ d) (hm : d + 1 ≤ maxLen) (hcap : winE ((m : Int) + 1) (y :: l) = 0) (hx : wi x 0 16777216 = true) (w : World) (hr : Reads w B 1 A (m + 1) (cellsI (y :: l))) (hB : B ≤ w.heap.size) :
    Calls Try.prog 3 #[.agg #[.int .i64 ((m : Int) + 1), .slice A (m + 1) (d + 1)], .int .i64 x] w fun e' w' => e' = .returned (.bool true) ∧ Below w.heap.size w w' := by
  have HN := Lib.hid hn
  have HE := Lib.hid hcap
  have HR := Lib.hid hr
  have HB := Lib.hid hB
  have HLEN := Lib.hid (show (y :: l).length = m + 1 by simp [hn])
  have HX := Lib.hid hx
  obtain ⟨i0, hi, hz0, hz1, hz2⟩ := info_parts int_info
  obtain ⟨c0, c1, c2, -⟩ := winE_zero hcap
  have h64 : m + 1 ≤ 64 := by have := HLEN.out; omega
  have hd2 : ¬ ((d : Int) + 1 = 1) := by omega
  generalize hL : listE (y :: l) = Lz
  have HL := Lib.hid hL
  have E := Lib.hid ((Env.start w).lay #[.int .i64 ((m : Int) + 1), .slice A (m + 1) (d + 1)] 24)
  clear hn hr hB hcap hL hx
  go_enter Try.func3, Try.ntmps3
  go_wp2_with fail
  refine (push_full x y A B m d l HN.out hd hc hm HE.out HX.out _ (HR.out.below E.out.bel HB.out) (Nat.le_trans HB.out E.out.bel.size)).mono ?_
  rintro e' w1 ⟨A5, c5, rfl, hown5, hb1⟩
  have E1 := Lib.hid ((E.out.below hb1).lay #[.int .i64 ((m : Int) + 1), .slice A5 (m + 1) c5] 24)
  have HR5 := Lib.hid ((Reads.of_own hown5).alloc (Nat.le_refl _) (.cells #[.int .i64 ((m : Int) + 1), .slice A5 (m + 1) c5] 24))
  clear hb1 hown5
  have p0 := E1.out.tl.hd.lt
  have a0 := E1.out.tl.hd.cell 0
  have a1 := E1.out.tl.hd.cell 1
  simp at a0 a1 p0
  go_wp2_with fail
  refine (rwin_is ((m : Int) + 1) A (d + 1) B (m + 1) (y :: l) HLEN.out 0 HE.out (by unfold maxLen at *; omega) _ (HR.out.below E1.out.bel HB.out) (Nat.le_trans HB.out E1.out.bel.size)).mono ?_
  rintro e' w2 ⟨rfl, hb2⟩
  have E2 := Lib.hid (E1.out.below hb2)
  have HR5a := Lib.hid (HR5.out.below hb2 (by simp))
  have HZ2 := Lib.hid (show w1.heap.size ≤ w2.heap.size by have := hb2.size; simp at this; omega)
  clear hb2 p0 a0 a1
  go_wp2_with fail
  have HWL := Lib.hid (show ∀ w', Below w2.heap.size w2 w' → Calls Try.prog 6 #[.slice A (m + 1) (d + 1)] w' fun e' w'' => e' = .returned (.int .i64 Lz) ∧ w' = w''
    from fun w' hb => wlist_is A (d + 1) B (y :: l) (m + 1) HLEN.out _ HL.out (by unfold maxLen at *; omega) w' (HR.out.below (E2.out.below hb).bel HB.out))
  have HRL := Lib.hid (show ∀ w', Below w2.heap.size w2 w' → Calls Try.prog 7 #[.slice A (m + 1) (d + 1)] w' fun e' w'' => e' = .returned (.int .i64 Lz) ∧ w' = w''
    from fun w' hb => rlist_is A (d + 1) B (y :: l) (m + 1) HLEN.out _ HL.out (by unfold maxLen at *; omega) w' (HR.out.below (E2.out.below hb).bel HB.out))
  have HCK := Lib.hid (show ∀ w', Below w2.heap.size w2 w' → Calls Try.prog 8 #[.agg #[.int .i64 ((m : Int) + 1), .slice A (m + 1) (d + 1)]] w' fun e' w'' => e' = .returned (.int .i64 0) ∧ Below w'.heap.size w' w''
    from fun w' hb => wchk_is ((m : Int) + 1) A (d + 1) B (m + 1) (y :: l) HLEN.out 0 HE.out (by unfold maxLen at *; omega) w' (HR.out.below (E2.out.below hb).bel HB.out) (Nat.le_trans HB.out (E2.out.below hb).bel.size))
  have HMI := Lib.hid (show ∀ w', Calls Try.prog 6 #[.slice (some ⟨World.heap w' |>.size, 0, none⟩) 1 1] (w'.alloc (.cells #[.int .i64 (-1)] 3)) fun e' w'' => e' = .returned (.int .i64 1) ∧ w'.alloc (.cells #[.int .i64 (-1)] 3) = w''
    from fun w' => wlist_is _ 1 _ [-1] 1 rfl 1 (by decide) (by unfold maxLen; omega) _ (reads_new w' 3 (-1)))
  have HS := Lib.hid (show ∀ w', Below w2.heap.size w2 w' → (Below w2.heap.size w2 w' ∧ w'.cell? ⟨w.heap.size, 0, none⟩ = some (.int .i64 ((m : Int) + 1)) ∧ w'.cell? ⟨w.heap.size, 1, none⟩ = some (.slice A (m + 1) (d + 1)))
    from fun w' e8 => ⟨e8, (E2.out.below e8).tl.hd.cell 0, (E2.out.below e8).tl.hd.cell 1⟩)
  go_region_held3 (fun w' => Below w2.heap.size w2 w' ∧ w'.cell? ⟨w.heap.size, 0, none⟩ = some (.int .i64 ((m : Int) + 1)) ∧ w'.cell? ⟨w.heap.size, 1, none⟩ = some (.slice A (m + 1) (d + 1)))
    ((refine HS.out _ ?_; first | exact (Below.refl _ _).drew | exact And.left (by assumption) | exact Below.trans (And.left (by assumption)) (Below.mono hb3 (Below.size (And.left (by assumption)))) | exact Below.alloc (And.left (by assumption)) (Below.size (And.left (by assumption))) _))
    (first
      | (go_at_call 6; (with_reducible refine (HMI.out _).mono ?_); rintro e' w' ⟨rfl, rfl⟩)
      | (go_at_call 6; (with_reducible refine (HWL.out _ (by exact And.left (by assumption))).mono ?_); rintro e' w' ⟨rfl, rfl⟩)
      | (go_at_call 7; refine (HRL.out _ (by exact And.left (by assumption))).mono ?_; rintro e' w' ⟨rfl, rfl⟩)
      | (go_at_call 8; refine (HCK.out _ (by exact And.left (by assumption))).mono ?_; rintro e' w3 ⟨rfl, hb3⟩))
  all_goals
    rename_i hheld
    have E3 := Lib.hid (E2.out.below hheld.1)
    have HR5b := Lib.hid (HR5a.out.below hheld.1 HZ2.out)
    have HZ3 := Lib.hid (Nat.le_trans HZ2.out hheld.1.size)
    clear hheld HWL HRL HCK HMI HS
    have p0 := E3.out.hd.lt
    have x0 := E3.out.hd.cell 0
    have x1 := E3.out.hd.cell 1
    have a0 := E3.out.tl.hd.cell 0
    have a1 := E3.out.tl.hd.cell 1
    simp at x0 x1 a0 a1 p0
    go_wp2_with (go_at_call 9; refine (rval_is _ true HX.out _).mono ?_; rintro e' w' ⟨rfl, rfl⟩)
    refine (clone_n A (d + 1) B (m + 1) (y :: l) HLEN.out (by omega) _ (HR.out.below E3.out.bel HB.out) (Nat.le_trans HB.out E3.out.bel.size)).mono ?_
    rintro e' w4 ⟨A6, c6, rfl, hown6, hb4⟩
    have E4 := Lib.hid ((E3.out.below hb4).alloc (.cells #[.int .i64 x] 3))
    have HO6 := Lib.hid hown6
    have HR5c := Lib.hid ((HR5b.out.below hb4 HZ3.out).alloc (Nat.le_trans HZ3.out hb4.size) (.cells #[.int .i64 x] 3))
    have HS4 := Lib.hid hb4.size
    clear hown6 hb4 p0 x0 x1 a0 a1
    go_wp2_with (at_builtin; refine wpList_appN _ rfl _ _ 22 rfl _ 3 i0 (.int .i64 0) 1 8 Try.underlying22 hi hz0 hz1 hz2 rfl (by decide) _ _ _ rfl (HO6.out.alloc _) _ _ _ _ _ rfl (reads_new w4 3 x) (oneCell_ints [x]) ?c1 ?c2 ?c3 ?_)
    case c1 => unfold maxLen; have := HLEN.out; omega
    case c2 => have := HLEN.out; omega
    case c3 => have := HS4.out; simp at this ⊢; omega
    intro v7 w7 hown7 hb7
    obtain ⟨g7, c7, rfl, hg7, hgw7, hc7, hm7, hcell7⟩ := ownsRow_at hown7 (by omega)
    have E7 := Lib.hid (E4.out.belowB hb7 (by have := E3.out.bel.size; simp at this ⊢; omega) (by have := E3.out.hd.lt; have := E3.out.tl.hd.lt; simp at *; omega))
    have HC7 := Lib.hid hcell7
    have HR5d := Lib.hid (HR5c.out.below hb7 (by have := HZ3.out; simpa using this))
    have HZ7 := Lib.hid E7.out.hd.lt
    clear hown7 hb7 hcell7 HO6 HS4 E4 E3
    have p0 := E7.out.hd.lt
    have x0 := E7.out.hd.cell 0
    have x1 := E7.out.hd.cell 1
    have a0 := E7.out.tl.hd.cell 0
    have a1 := E7.out.tl.hd.cell 1
    simp at x0 x1 a0 a1 p0
    go_wp2
    have hneg : True := trivial
    have hc71 : ¬ ((c7 : Int) = 1) := by omega
    have hc72 : ¬ (c7 = 1) := by omega
    have hc73 : (1 : Int) ≤ (c7 : Int) := by omega
    have hc74 : (1 : Int) ≤ (m : Int) + 1 + 1 := by omega
    have hwr1 : IntKind.i64.wrap ((m : Int) + 1 + 1 - ((m : Int) + 1)) = 1 := by rw [show (m : Int) + 1 + 1 - ((m : Int) + 1) = 1 by omega]; decide
    have HRX := Lib.hid (show ∀ w', Below w7.heap.size w7 w' → (Reads w' w7.heap.size 1 A5 (m + 1) (cellsI (l ++ [x])) ∧ Reads w' w7.heap.size 1 (some ⟨g7, 1, none⟩) (m + 1) (cellsI (l ++ [x]))) from fun w' hb => by
      refine ⟨(HR5d.out.below hb (Nat.le_of_lt HZ7.out)).more (Nat.le_of_lt HZ7.out), ⟨by have := HLEN.out; simp [cellsI] at this ⊢; omega, fun _ => ⟨_, rfl, hgw7, fun j u hu => (hb.cell (by rw [block_of_add]; exact hgw7)).trans ?_⟩⟩⟩
      have := HC7.out (j + 1) u (by simpa [cellsI] using hu)
      by_cases hj : j = 0
      · subst hj; simpa [Addr.add] using this
      · simpa [Addr.add, hj, Nat.add_comm 1] using this)
    have HSW := Lib.hid (show ∀ w', Below w7.heap.size w7 w' → Calls Try.prog 10 #[.agg #[.int .i64 ((m : Int) + 1), .slice A5 (m + 1) c5], .agg #[.int .i64 ((m : Int) + 1), .slice (some ⟨g7, 1, none⟩) (m + 1) (c7 - 1)]] w' fun e' w'' => e' = .returned (.bool true) ∧ Below w'.heap.size w' w''
      from fun w' hb => swin_yes ((m : Int) + 1) _ _ _ _ w7.heap.size _ _ (l ++ [x]) (by have := HLEN.out; simp at this ⊢; omega) (by have := HLEN.out; simp at this ⊢; omega) (by omega) w' (HRX.out w' hb).1 (HRX.out w' hb).2 hb.size)
    have HS := Lib.hid (show ∀ w', Below w7.heap.size w7 w' → (Below w7.heap.size w7 w' ∧ w'.cell? ⟨w1.heap.size, 0, none⟩ = some (.int .i64 ((m : Int) + 1)) ∧ w'.cell? ⟨w1.heap.size, 1, none⟩ = some (.slice A5 (m + 1) c5) ∧ w'.cell? ⟨w.heap.size, 0, none⟩ = some (.int .i64 ((m : Int) + 1)))
      from fun w' e8 => ⟨e8, (E7.out.below e8).hd.cell 0, (E7.out.below e8).hd.cell 1, (E7.out.below e8).tl.hd.cell 0⟩)
    clear x0 x1 a0 a1 p0
    go_region_held3 (fun w' => Below w7.heap.size w7 w' ∧ w'.cell? ⟨w1.heap.size, 0, none⟩ = some (.int .i64 ((m : Int) + 1)) ∧ w'.cell? ⟨w1.heap.size, 1, none⟩ = some (.slice A5 (m + 1) c5) ∧ w'.cell? ⟨w.heap.size, 0, none⟩ = some (.int .i64 ((m : Int) + 1)))
      ((refine HS.out _ ?_; first | exact (Below.refl _ _).drew | exact And.left (by assumption) | exact Below.trans (And.left (by assumption)) (Below.mono hb8 (Below.size (And.left (by assumption))))))
      ((go_at_call 10; (with_reducible refine (HSW.out _ (by exact And.left (by assumption))).mono ?_); rintro e' w8 ⟨rfl, hb8⟩))
    all_goals
      rename_i hheld
      have E8 := Lib.hid (E7.out.below hheld.1)
      clear hheld
      go_wp2
      go_ret
      exact ⟨rfl, E8.out.bel⟩

set_option maxHeartbeats 4000000 in
set_option maxRecDepth 100000 in
theorem ws_g (x : Int) (y : Int) (A : Option Addr) (B : Nat) (l : List Int) (hn : l.length = 0) (hcap : winE 1 (y :: l) = 0) (hx : wi x 0 16777216 = true) (w : World) (hr : Reads w B 1 A 1 (cellsI (y :: l))) (hB : B ≤ w.heap.size) :
    Calls Try.prog 3 #[.agg #[.int .i64 1, .slice A 1 1], .int .i64 x] w fun e' w' => e' = .returned (.bool true) ∧ Below w.heap.size w w' := by
  have HN := Lib.hid hn
  have HE := Lib.hid hcap
  have HR := Lib.hid hr
  have HB := Lib.hid hB
  have HLEN := Lib.hid (show (y :: l).length = 1 by simp [hn])
  have HX := Lib.hid hx
  obtain ⟨i0, hi, hz0, hz1, hz2⟩ := info_parts int_info
  obtain ⟨c0, c1, c2, -⟩ := winE_zero hcap
  have h64 : 1 ≤ 64 := by have := HLEN.out; omega
  generalize hL : listE (y :: l) = Lz
  have HL := Lib.hid hL
  have E := Lib.hid ((Env.start w).lay #[.int .i64 1, .slice A 1 1] 24)
  clear hn hr hB hcap hL hx
  go_enter Try.func3, Try.ntmps3
  go_wp2_with fail
  refine (push_full1 x y A B l HN.out HE.out HX.out _ (HR.out.below E.out.bel HB.out) (Nat.le_trans HB.out E.out.bel.size)).mono ?_
  rintro e' w1 ⟨A5, c5, rfl, hown5, hb1⟩
  have E1 := Lib.hid ((E.out.below hb1).lay #[.int .i64 1, .slice A5 (1) c5] 24)
  have HR5 := Lib.hid ((Reads.of_own hown5).alloc (Nat.le_refl _) (.cells #[.int .i64 1, .slice A5 (1) c5] 24))
  clear hb1 hown5
  have p0 := E1.out.tl.hd.lt
  have a0 := E1.out.tl.hd.cell 0
  have a1 := E1.out.tl.hd.cell 1
  simp at a0 a1 p0
  go_wp2_with fail
  refine (rwin_is 1 A 1 B 1 (y :: l) HLEN.out 0 HE.out (by unfold maxLen at *; omega) _ (HR.out.below E1.out.bel HB.out) (Nat.le_trans HB.out E1.out.bel.size)).mono ?_
  rintro e' w2 ⟨rfl, hb2⟩
  have E2 := Lib.hid (E1.out.below hb2)
  have HR5a := Lib.hid (HR5.out.below hb2 (by simp))
  have HZ2 := Lib.hid (show w1.heap.size ≤ w2.heap.size by have := hb2.size; simp at this; omega)
  clear hb2 p0 a0 a1
  go_wp2_with fail
  have HWL := Lib.hid (show ∀ w', Below w2.heap.size w2 w' → Calls Try.prog 6 #[.slice A 1 1] w' fun e' w'' => e' = .returned (.int .i64 Lz) ∧ w' = w''
    from fun w' hb => wlist_is A 1 B (y :: l) 1 HLEN.out _ HL.out (by unfold maxLen at *; omega) w' (HR.out.below (E2.out.below hb).bel HB.out))
  have HRL := Lib.hid (show ∀ w', Below w2.heap.size w2 w' → Calls Try.prog 7 #[.slice A 1 1] w' fun e' w'' => e' = .returned (.int .i64 Lz) ∧ w' = w''
    from fun w' hb => rlist_is A 1 B (y :: l) 1 HLEN.out _ HL.out (by unfold maxLen at *; omega) w' (HR.out.below (E2.out.below hb).bel HB.out))
  have HCK := Lib.hid (show ∀ w', Below w2.heap.size w2 w' → Calls Try.prog 8 #[.agg #[.int .i64 1, .slice A 1 1]] w' fun e' w'' => e' = .returned (.int .i64 0) ∧ Below w'.heap.size w' w''
    from fun w' hb => wchk_is 1 A 1 B 1 (y :: l) HLEN.out 0 HE.out (by unfold maxLen at *; omega) w' (HR.out.below (E2.out.below hb).bel HB.out) (Nat.le_trans HB.out (E2.out.below hb).bel.size))
  have HMI := Lib.hid (show ∀ w', Calls Try.prog 6 #[.slice (some ⟨World.heap w' |>.size, 0, none⟩) 1 1] (w'.alloc (.cells #[.int .i64 (-1)] 3)) fun e' w'' => e' = .returned (.int .i64 1) ∧ w'.alloc (.cells #[.int .i64 (-1)] 3) = w''
    from fun w' => wlist_is _ 1 _ [-1] 1 rfl 1 (by decide) (by unfold maxLen; omega) _ (reads_new w' 3 (-1)))
  have HS := Lib.hid (show ∀ w', Below w2.heap.size w2 w' → (Below w2.heap.size w2 w' ∧ w'.cell? ⟨w.heap.size, 0, none⟩ = some (.int .i64 1) ∧ w'.cell? ⟨w.heap.size, 1, none⟩ = some (.slice A 1 1))
    from fun w' e8 => ⟨e8, (E2.out.below e8).tl.hd.cell 0, (E2.out.below e8).tl.hd.cell 1⟩)
  go_region_held3 (fun w' => Below w2.heap.size w2 w' ∧ w'.cell? ⟨w.heap.size, 0, none⟩ = some (.int .i64 1) ∧ w'.cell? ⟨w.heap.size, 1, none⟩ = some (.slice A 1 1))
    ((refine HS.out _ ?_; first | exact (Below.refl _ _).drew | exact And.left (by assumption) | exact Below.trans (And.left (by assumption)) (Below.mono hb3 (Below.size (And.left (by assumption)))) | exact Below.alloc (And.left (by assumption)) (Below.size (And.left (by assumption))) _))
    (first
      | (go_at_call 6; (with_reducible refine (HMI.out _).mono ?_); rintro e' w' ⟨rfl, rfl⟩)
      | (go_at_call 6; (with_reducible refine (HWL.out _ (by exact And.left (by assumption))).mono ?_); rintro e' w' ⟨rfl, rfl⟩)
      | (go_at_call 7; refine (HRL.out _ (by exact And.left (by assumption))).mono ?_; rintro e' w' ⟨rfl, rfl⟩)
      | (go_at_call 8; refine (HCK.out _ (by exact And.left (by assumption))).mono ?_; rintro e' w3 ⟨rfl, hb3⟩))
  all_goals
    rename_i hheld
    have E3 := Lib.hid (E2.out.below hheld.1)
    have HR5b := Lib.hid (HR5a.out.below hheld.1 HZ2.out)
    have HZ3 := Lib.hid (Nat.le_trans HZ2.out hheld.1.size)
    clear hheld HWL HRL HCK HMI HS
    have p0 := E3.out.hd.lt
    have x0 := E3.out.hd.cell 0
    have x1 := E3.out.hd.cell 1
    have a0 := E3.out.tl.hd.cell 0
    have a1 := E3.out.tl.hd.cell 1
    simp at x0 x1 a0 a1 p0
    go_wp2_with (go_at_call 9; refine (rval_is _ true HX.out _).mono ?_; rintro e' w' ⟨rfl, rfl⟩)
    refine (clone_n A 1 B 1 (y :: l) HLEN.out (by omega) _ (HR.out.below E3.out.bel HB.out) (Nat.le_trans HB.out E3.out.bel.size)).mono ?_
    rintro e' w4 ⟨A6, c6, rfl, hown6, hb4⟩
    have E4 := Lib.hid ((E3.out.below hb4).alloc (.cells #[.int .i64 x] 3))
    have HO6 := Lib.hid hown6
    have HR5c := Lib.hid ((HR5b.out.below hb4 HZ3.out).alloc (Nat.le_trans HZ3.out hb4.size) (.cells #[.int .i64 x] 3))
    have HS4 := Lib.hid hb4.size
    clear hown6 hb4 p0 x0 x1 a0 a1
    go_wp2_with (at_builtin; refine wpList_appN _ rfl _ _ 22 rfl _ 3 i0 (.int .i64 0) 1 8 Try.underlying22 hi hz0 hz1 hz2 rfl (by decide) _ _ _ rfl (HO6.out.alloc _) _ _ _ _ _ rfl (reads_new w4 3 x) (oneCell_ints [x]) ?c1 ?c2 ?c3 ?_)
    case c1 => unfold maxLen; have := HLEN.out; omega
    case c2 => have := HLEN.out; omega
    case c3 => have := HS4.out; simp at this ⊢; omega
    intro v7 w7 hown7 hb7
    obtain ⟨g7, c7, rfl, hg7, hgw7, hc7, hm7, hcell7⟩ := ownsRow_at hown7 (by omega)
    have E7 := Lib.hid (E4.out.belowB hb7 (by have := E3.out.bel.size; simp at this ⊢; omega) (by have := E3.out.hd.lt; have := E3.out.tl.hd.lt; simp at *; omega))
    have HC7 := Lib.hid hcell7
    have HR5d := Lib.hid (HR5c.out.below hb7 (by have := HZ3.out; simpa using this))
    have HZ7 := Lib.hid E7.out.hd.lt
    clear hown7 hb7 hcell7 HO6 HS4 E4 E3
    have p0 := E7.out.hd.lt
    have x0 := E7.out.hd.cell 0
    have x1 := E7.out.hd.cell 1
    have a0 := E7.out.tl.hd.cell 0
    have a1 := E7.out.tl.hd.cell 1
    simp at x0 x1 a0 a1 p0
    go_wp2
    have hneg : True := trivial
    have hc71 : ¬ ((c7 : Int) = 1) := by omega
    have hc72 : ¬ (c7 = 1) := by omega
    have hc73 : (1 : Int) ≤ (c7 : Int) := by omega
    have hwr1 : IntKind.i64.wrap 1 = 1 := by decide
    have HRX := Lib.hid (show ∀ w', Below w7.heap.size w7 w' → (Reads w' w7.heap.size 1 A5 1 (cellsI (l ++ [x])) ∧ Reads w' w7.heap.size 1 (some ⟨g7, 1, none⟩) 1 (cellsI (l ++ [x]))) from fun w' hb => by
      refine ⟨(HR5d.out.below hb (Nat.le_of_lt HZ7.out)).more (Nat.le_of_lt HZ7.out), ⟨by have := HLEN.out; simp [cellsI] at this ⊢; omega, fun _ => ⟨_, rfl, hgw7, fun j u hu => (hb.cell (by rw [block_of_add]; exact hgw7)).trans ?_⟩⟩⟩
      have := HC7.out (j + 1) u (by simpa [cellsI] using hu)
      by_cases hj : j = 0
      · subst hj; simpa [Addr.add] using this
      · simpa [Addr.add, hj, Nat.add_comm 1] using this)
    have HSW := Lib.hid (show ∀ w', Below w7.heap.size w7 w' → Calls Try.prog 10 #[.agg #[.int .i64 1, .slice A5 1 c5], .agg #[.int .i64 1, .slice (some ⟨g7, 1, none⟩) 1 (c7 - 1)]] w' fun e' w'' => e' = .returned (.bool true) ∧ Below w'.heap.size w' w''
      from fun w' hb => swin_yes 1 _ _ _ _ w7.heap.size _ _ (l ++ [x]) (by have := HLEN.out; simp at this ⊢; omega) (by have := HLEN.out; simp at this ⊢; omega) (by omega) w' (HRX.out w' hb).1 (HRX.out w' hb).2 hb.size)
    have HS := Lib.hid (show ∀ w', Below w7.heap.size w7 w' → (Below w7.heap.size w7 w' ∧ w'.cell? ⟨w1.heap.size, 0, none⟩ = some (.int .i64 1) ∧ w'.cell? ⟨w1.heap.size, 1, none⟩ = some (.slice A5 1 c5) ∧ w'.cell? ⟨w.heap.size, 0, none⟩ = some (.int .i64 1))
      from fun w' e8 => ⟨e8, (E7.out.below e8).hd.cell 0, (E7.out.below e8).hd.cell 1, (E7.out.below e8).tl.hd.cell 0⟩)
    clear x0 x1 a0 a1 p0
    go_region_held3 (fun w' => Below w7.heap.size w7 w' ∧ w'.cell? ⟨w1.heap.size, 0, none⟩ = some (.int .i64 1) ∧ w'.cell? ⟨w1.heap.size, 1, none⟩ = some (.slice A5 1 c5) ∧ w'.cell? ⟨w.heap.size, 0, none⟩ = some (.int .i64 1))
      ((refine HS.out _ ?_; first | exact (Below.refl _ _).drew | exact And.left (by assumption) | exact Below.trans (And.left (by assumption)) (Below.mono hb8 (Below.size (And.left (by assumption))))))
      ((go_at_call 10; (with_reducible refine (HSW.out _ (by exact And.left (by assumption))).mono ?_); rintro e' w8 ⟨rfl, hb8⟩))
    all_goals
      rename_i hheld
      have E8 := Lib.hid (E7.out.below hheld.1)
      clear hheld
      go_wp2
      go_ret
      exact ⟨rfl, E8.out.bel⟩

theorem winSays_walk (cap : Int) (A : Option Addr) (c : Nat) (l : List Int) (x : Int) (w : World) (_c : -9223372036854775808 ≤ cap ∧ cap ≤ 9223372036854775807) (hr : Reads w w.heap.size 1 A l.length (cellsI l)) (hb : l.length ≤ c ∧ c ≤ maxLen)
    (_s : ∀ x ∈ l, -9223372036854775808 ≤ x ∧ x ≤ 9223372036854775807) (_a : -9223372036854775808 ≤ x) (_b : x ≤ 9223372036854775807) :
    Calls Try.prog 3 #[.agg #[.int .i64 cap, .slice A l.length c], .int .i64 x] w fun e' w' => e' = .returned (.bool true) ∧ Below w.heap.size w w' := by
  obtain ⟨hc, hm⟩ := hb
  by_cases he : winE cap l = 0
  · cases hx : wi x 0 16777216
    · exact ws_v x cap A c _ _ l rfl hc hm he hx w hr (Nat.le_refl _)
    · obtain ⟨c0, c1, c2, c3⟩ := winE_zero he
      by_cases hlt : (l.length : Int) < cap
      · exact ws_t x cap A c _ _ l rfl hc hm he hlt hx w hr (Nat.le_refl _)
      · have hcap : cap = (l.length : Int) := by omega
        subst hcap
        match l, hr, hc, he, c0 with
        | [], _, _, _, c0 => simp at c0
        | y :: l', hr, hc, he, _ =>
          have e1 : ((y :: l').length : Int) = (l'.length : Int) + 1 := by simp
          rw [e1] at he ⊢
          obtain ⟨d, rfl⟩ : ∃ d, c = d + 1 := ⟨c - 1, by simp at hc; omega⟩
          have hcd : l'.length ≤ d := by simpa using hc
          by_cases hd : d = 0
          · subst hd
            have h0 : l'.length = 0 := by omega
            have e2 : (l'.length : Int) + 1 = 1 := by omega
            rw [e2] at he ⊢
            have e3 : (y :: l').length = 1 := by simp [h0]
            rw [e3] at hr ⊢
            exact ws_g x y A _ l' h0 he hx w hr (Nat.le_refl _)
          · exact ws_f x y A _ l'.length d l' rfl (by omega) hcd hm he hx w hr (Nat.le_refl _)
  · exact ws_e x cap A c _ _ l rfl hc hm _ rfl he w hr (Nat.le_refl _)
end Go.Proofs.Ytldfppcdklnmlad
