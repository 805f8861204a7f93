/- rank.Put and rank.Cut, walked. -/
import Derived.Test.YtignljfeihlanadRpA
import Derived.Test.YtignljfeihlanadFadeVals
import Derived.Deep.DeepCutAuto
namespace Go.Proofs.Ytignljfeihlanad
open Go.RowKit
set_option linter.unusedSimpArgs false
set_option linter.unusedVariables false

abbrev Asc (l : List Int) : Prop := l.Pairwise (· ≤ ·)
theorem clone_n (A : Option Addr) (c B n : Nat) (l : List Int) (hn : l.length = n) (h64 : n ≤ 100000) (w : World) (hr : Reads w B 1 A n (cellsI l)) (hB : B ≤ w.heap.size) :
    Calls Try.prog 10 #[.slice A n c] w fun e w' => ∃ A' c', e = .returned (.slice A' n c') ∧ w'.ownsRow w.heap.size 3 1 (.slice A' n c') n (cellsI l) ∧ Below w.heap.size w w' := by
  subst hn
  exact clone_any A c B _ l rfl h64 w hr hB

set_option maxHeartbeats 1000000 in
theorem rput_list (A : Option Addr) (c B n : Nat) (l : List Int) (x : Int) (hn : l.length = n) (hm : n ≤ maxLen) (w : World) (hr : Reads w B 1 A n (cellsI l)) (e : Int) (he : listE l = e) (hz : e ≠ 0) :
    Calls Try.prog 4 #[.slice A n c, .int .i64 x] w fun e' w' => e' = .returned (.tuple #[.slice none 0 0, .int .i64 e]) ∧ Below w.heap.size w w' := by
  have HN := Lib.hid hn
  have HE := Lib.hid he
  have HR := Lib.hid hr
  clear hn he hr
  go_enter Try.func4, Try.ntmps4
  go_wp2_with fail
  refine (wlist_is _ _ _ l n HN.out _ HE.out hm _ HR.out).mono ?_
  rintro e' w' ⟨rfl, rfl⟩
  go_wp2
  refine bodyPost_ret (v := .tuple #[.slice none 0 0, .int .i64 e]) (by simp [results, Try.results4, go_sem]) rfl ⟨rfl, Below.refl _ _⟩

set_option maxHeartbeats 1000000 in
theorem rput_form (A : Option Addr) (c B n : Nat) (l : List Int) (x : Int) (hn : l.length = n) (hm : n ≤ maxLen) (w : World) (hr : Reads w B 1 A n (cellsI l)) (hB : B ≤ w.heap.size) (he : listE l = 0) (hs : ¬ Asc l) :
    Calls Try.prog 4 #[.slice A n c, .int .i64 x] w fun e' w' => e' = .returned (.tuple #[.slice none 0 0, .int .i64 3]) ∧ Below w.heap.size w w' := by
  have h64 : n ≤ 64 := by rw [← hn]; exact (listE_zero he).1
  have HN := Lib.hid hn
  have HE := Lib.hid he
  have HR := Lib.hid hr
  have HS := Lib.hid (show decide (l.Pairwise (· ≤ ·)) = false from decide_eq_false hs)
  clear hn he hr hs
  go_enter Try.func4, Try.ntmps4
  go_wp2_with fail
  refine (wlist_is _ _ _ l n HN.out _ HE.out hm _ HR.out).mono ?_
  rintro e' w' ⟨rfl, rfl⟩
  go_wp2_with fail
  refine (issorted_any _ _ _ _ _ _ HN.out HS.out (by omega) _ HR.out).mono ?_
  rintro e' w1 ⟨rfl, hb1⟩
  have B1 := Lib.hid hb1
  have R1 := Lib.hid (HR.out.below hb1 hB)
  clear hb1
  go_wp2
  refine bodyPost_ret (v := .tuple #[.slice none 0 0, .int .i64 3]) (by simp [results, Try.results4, go_sem]) rfl ⟨rfl, B1.out⟩

set_option maxHeartbeats 1000000 in
theorem rcut_list (A : Option Addr) (c B n : Nat) (l : List Int) (x : Int) (hn : l.length = n) (hm : n ≤ maxLen) (w : World) (hr : Reads w B 1 A n (cellsI l)) (e : Int) (he : listE l = e) (hz : e ≠ 0) :
    Calls Try.prog 5 #[.slice A n c, .int .i64 x] w fun e' w' => e' = .returned (.tuple #[.slice none 0 0, .int .i64 e]) ∧ Below w.heap.size w w' := by
  have HN := Lib.hid hn
  have HE := Lib.hid he
  have HR := Lib.hid hr
  clear hn he hr
  go_enter Try.func5, Try.ntmps5
  go_wp2_with fail
  refine (wlist_is _ _ _ l n HN.out _ HE.out hm _ HR.out).mono ?_
  rintro e' w' ⟨rfl, rfl⟩
  go_wp2
  refine bodyPost_ret (v := .tuple #[.slice none 0 0, .int .i64 e]) (by simp [results, Try.results5, go_sem]) rfl ⟨rfl, Below.refl _ _⟩

set_option maxHeartbeats 1000000 in
theorem rcut_form (A : Option Addr) (c B n : Nat) (l : List Int) (x : Int) (hn : l.length = n) (hm : n ≤ maxLen) (w : World) (hr : Reads w B 1 A n (cellsI l)) (hB : B ≤ w.heap.size) (he : listE l = 0) (hs : ¬ Asc l) :
    Calls Try.prog 5 #[.slice A n c, .int .i64 x] w fun e' w' => e' = .returned (.tuple #[.slice none 0 0, .int .i64 3]) ∧ Below w.heap.size w w' := by
  have h64 : n ≤ 64 := by rw [← hn]; exact (listE_zero he).1
  have HN := Lib.hid hn
  have HE := Lib.hid he
  have HR := Lib.hid hr
  have HS := Lib.hid (show decide (l.Pairwise (· ≤ ·)) = false from decide_eq_false hs)
  clear hn he hr hs
  go_enter Try.func5, Try.ntmps5
  go_wp2_with fail
  refine (wlist_is _ _ _ l n HN.out _ HE.out hm _ HR.out).mono ?_
  rintro e' w' ⟨rfl, rfl⟩
  go_wp2_with fail
  refine (issorted_any _ _ _ _ _ _ HN.out HS.out (by omega) _ HR.out).mono ?_
  rintro e' w1 ⟨rfl, hb1⟩
  have B1 := Lib.hid hb1
  have R1 := Lib.hid (HR.out.below hb1 hB)
  clear hb1
  go_wp2
  refine bodyPost_ret (v := .tuple #[.slice none 0 0, .int .i64 3]) (by simp [results, Try.results5, go_sem]) rfl ⟨rfl, B1.out⟩

set_option maxHeartbeats 1000000 in
theorem rput_arg (A : Option Addr) (c B n : Nat) (l : List Int) (x : Int) (hn : l.length = n) (hm : n ≤ maxLen) (w : World) (hr : Reads w B 1 A n (cellsI l)) (hB : B ≤ w.heap.size) (he : listE l = 0) (hs : Asc l) (hv : wi x 0 16777216 = false) :
    Calls Try.prog 4 #[.slice A n c, .int .i64 x] w fun e' w' => e' = .returned (.tuple #[.slice none 0 0, .int .i64 1]) ∧ Below w.heap.size w w' := by
  have h64 : n ≤ 64 := by rw [← hn]; exact (listE_zero he).1
  have HN := Lib.hid hn
  have HE := Lib.hid he
  have HR := Lib.hid hr
  have HS := Lib.hid (show decide (l.Pairwise (· ≤ ·)) = true from decide_eq_true hs)
  have HSP := Lib.hid hs
  have HV := Lib.hid hv
  clear hn he hr hs hv
  go_enter Try.func4, Try.ntmps4
  go_wp2_with fail
  refine (wlist_is _ _ _ l n HN.out _ HE.out hm _ HR.out).mono ?_
  rintro e' w' ⟨rfl, rfl⟩
  go_wp2_with fail
  refine (issorted_any _ _ _ _ _ _ HN.out HS.out (by omega) _ HR.out).mono ?_
  rintro e' w1 ⟨rfl, hb1⟩
  have B1 := Lib.hid hb1
  have R1 := Lib.hid (HR.out.below hb1 hB)
  clear hb1
  go_wp2_with fail
  refine (lval_any _ _).mono ?_
  rintro e' w' ⟨rfl, rfl⟩
  rw [HV.out]
  go_wp2
  refine bodyPost_ret (v := .tuple #[.slice none 0 0, .int .i64 1]) (by simp [results, Try.results4, go_sem]) rfl ⟨rfl, B1.out⟩

set_option maxHeartbeats 1000000 in
theorem rput_full (A : Option Addr) (c B n : Nat) (l : List Int) (x : Int) (hn : l.length = n) (hm : n ≤ maxLen) (w : World) (hr : Reads w B 1 A n (cellsI l)) (hB : B ≤ w.heap.size) (he : listE l = 0) (hs : Asc l) (hv : wi x 0 16777216 = true) (h : n = 64) :
    Calls Try.prog 4 #[.slice A n c, .int .i64 x] w fun e' w' => e' = .returned (.tuple #[.slice none 0 0, .int .i64 2]) ∧ Below w.heap.size w w' := by
  have h64 : n ≤ 64 := by rw [← hn]; exact (listE_zero he).1
  have HN := Lib.hid hn
  have HE := Lib.hid he
  have HR := Lib.hid hr
  have HS := Lib.hid (show decide (l.Pairwise (· ≤ ·)) = true from decide_eq_true hs)
  have HSP := Lib.hid hs
  have HV := Lib.hid hv
  have hq : ((n : Int) == 64) = true := by rw [h]; rfl
  clear hn he hr hs hv h
  go_enter Try.func4, Try.ntmps4
  go_wp2_with fail
  refine (wlist_is _ _ _ l n HN.out _ HE.out hm _ HR.out).mono ?_
  rintro e' w' ⟨rfl, rfl⟩
  go_wp2_with fail
  refine (issorted_any _ _ _ _ _ _ HN.out HS.out (by omega) _ HR.out).mono ?_
  rintro e' w1 ⟨rfl, hb1⟩
  have B1 := Lib.hid hb1
  have R1 := Lib.hid (HR.out.below hb1 hB)
  clear hb1
  go_wp2_with fail
  refine (lval_any _ _).mono ?_
  rintro e' w' ⟨rfl, rfl⟩
  rw [HV.out]
  go_wp2
  refine bodyPost_ret (v := .tuple #[.slice none 0 0, .int .i64 2]) (by simp [results, Try.results4, go_sem]) rfl ⟨rfl, B1.out⟩

/-- a new list among the results -/
def PutIs (T : List Int) (n : Nat) (w : World) (e : Ending) (w' : World) : Prop := ∃ A' c', e = .returned (.tuple #[.slice A' n c', .int .i64 0]) ∧ Reads w' w'.heap.size 1 A' n (cellsI T) ∧ Below w.heap.size w w'

set_option maxHeartbeats 2000000 in
set_option maxRecDepth 100000 in
theorem rput_ok (A : Option Addr) (c B n : Nat) (l : List Int) (x : Int) (hn : l.length = n) (hm : n ≤ maxLen) (w : World) (hr : Reads w B 1 A n (cellsI l)) (hB : B ≤ w.heap.size) (he : listE l = 0) (hs : Asc l) (hv : wi x 0 16777216 = true) (hlt : n < 64) (i : Nat) (hi : l.countP (· < x) = i) :
    Calls Try.prog 4 #[.slice A n c, .int .i64 x] w (PutIs (l.take i ++ x :: l.drop i) (n + 1) w) := by
  have hin : i ≤ n := by rw [← hi, ← hn]; exact List.countP_le_length
  have HI := Lib.hid hi
  have h64 : n ≤ 64 := by rw [← hn]; exact (listE_zero he).1
  have HN := Lib.hid hn
  have HE := Lib.hid he
  have HR := Lib.hid hr
  have HS := Lib.hid (show decide (l.Pairwise (· ≤ ·)) = true from decide_eq_true hs)
  have HSP := Lib.hid hs
  have HV := Lib.hid hv
  clear hn he hr hs hv hi
  go_enter Try.func4, Try.ntmps4
  go_wp2_with fail
  refine (wlist_is _ _ _ l n HN.out _ HE.out hm _ HR.out).mono ?_
  rintro e' w' ⟨rfl, rfl⟩
  go_wp2_with fail
  refine (issorted_any _ _ _ _ _ _ HN.out HS.out (by omega) _ HR.out).mono ?_
  rintro e' w1 ⟨rfl, hb1⟩
  have B1 := Lib.hid hb1
  have R1 := Lib.hid (HR.out.below hb1 hB)
  clear hb1
  go_wp2_with fail
  refine (lval_any _ _).mono ?_
  rintro e' w' ⟨rfl, rfl⟩
  rw [HV.out]
  go_wp2_with fail
  refine (bsearch_any _ _ _ _ _ _ HN.out HSP.out (by omega) _ R1.out).mono ?_
  rintro e' w2 ⟨rfl, hb2⟩
  have B2 := Lib.hid (B1.out.trans (hb2.mono B1.out.size))
  have R2 := Lib.hid (HR.out.below B2.out hB)
  clear hb2
  rw [HI.out]
  go_wp2_with fail
  refine (clone_n _ _ _ _ _ HN.out (by omega) _ R2.out (Nat.le_trans hB B2.out.size)).mono ?_
  rintro e' w3 ⟨A3, c3, rfl, ho, hb3⟩
  have B3 := Lib.hid (B2.out.trans (hb3.mono B2.out.size))
  have HO := Lib.hid ho
  have L3 := Lib.hid hb3
  clear hb3 ho
  go_wp2_with fail
  refine (insert_any A3 c3 n i w2.heap.size w3.heap.size l x HN.out hin (by omega) _ (ownsRow_below HO.out ((Below.refl w3.heap.size w3).alloc (Nat.le_refl _) _)) (by simp; have := L3.out.size; omega) (Blk.new w3 _ _) (fun a ha hb => by
    have := HO.out.lt a.block (by rw [ha]; rfl)
    omega)).mono ?_
  rintro e' w4 ⟨A4, c4, rfl, hrd, hb4⟩
  have R4 := Lib.hid hrd
  have B4 := Lib.hid ((B3.out.alloc B3.out.size _).trans (hb4.mono B2.out.size))
  clear hrd hb4
  go_wp2
  refine bodyPost_ret (v := .tuple #[.slice A4 (n + 1) c4, .int .i64 0]) (by simp [results, Try.results4, go_sem]) rfl ?_
  exact ⟨A4, c4, rfl, R4.out, B4.out⟩

set_option maxHeartbeats 1000000 in
theorem rcut_none (A : Option Addr) (c B n : Nat) (l : List Int) (x : Int) (hn : l.length = n) (hm : n ≤ maxLen) (w : World) (hr : Reads w B 1 A n (cellsI l)) (hB : B ≤ w.heap.size) (he : listE l = 0) (hs : Asc l) (hx : l.contains x = false) :
    Calls Try.prog 5 #[.slice A n c, .int .i64 x] w fun e' w' => e' = .returned (.tuple #[.slice none 0 0, .int .i64 4]) ∧ Below w.heap.size w w' := by
  have h64 : n ≤ 64 := by rw [← hn]; exact (listE_zero he).1
  have HN := Lib.hid hn
  have HE := Lib.hid he
  have HR := Lib.hid hr
  have HS := Lib.hid (show decide (l.Pairwise (· ≤ ·)) = true from decide_eq_true hs)
  have HSP := Lib.hid hs
  have HX := Lib.hid hx
  clear hn he hr hs hx
  go_enter Try.func5, Try.ntmps5
  go_wp2_with fail
  refine (wlist_is _ _ _ l n HN.out _ HE.out hm _ HR.out).mono ?_
  rintro e' w' ⟨rfl, rfl⟩
  go_wp2_with fail
  refine (issorted_any _ _ _ _ _ _ HN.out HS.out (by omega) _ HR.out).mono ?_
  rintro e' w1 ⟨rfl, hb1⟩
  have B1 := Lib.hid hb1
  have R1 := Lib.hid (HR.out.below hb1 hB)
  clear hb1
  go_wp2_with fail
  refine (bsearch_any _ _ _ _ _ _ HN.out HSP.out (by omega) _ R1.out).mono ?_
  rintro e' w2 ⟨rfl, hb2⟩
  have B2 := Lib.hid (B1.out.trans (hb2.mono B1.out.size))
  have R2 := Lib.hid (HR.out.below B2.out hB)
  clear hb2
  rw [HX.out]
  go_wp2
  refine bodyPost_ret (v := .tuple #[.slice none 0 0, .int .i64 4]) (by simp [results, Try.results5, go_sem]) rfl ⟨rfl, B2.out⟩

set_option maxHeartbeats 2000000 in
set_option maxRecDepth 100000 in
theorem rcut_ok (A : Option Addr) (c B n : Nat) (l : List Int) (x : Int) (hn : l.length = n) (hm : n ≤ maxLen) (w : World) (hr : Reads w B 1 A n (cellsI l)) (hB : B ≤ w.heap.size) (he : listE l = 0) (hs : Asc l) (hx : l.contains x = true) (i : Nat) (hi : l.countP (· < x) = i) (hin : i < n) :
    Calls Try.prog 5 #[.slice A n c, .int .i64 x] w (PutIs (l.take i ++ l.drop (i + 1)) (n - 1) w) := by
  have HI := Lib.hid hi
  have h64 : n ≤ 64 := by rw [← hn]; exact (listE_zero he).1
  have HN := Lib.hid hn
  have HE := Lib.hid he
  have HR := Lib.hid hr
  have HS := Lib.hid (show decide (l.Pairwise (· ≤ ·)) = true from decide_eq_true hs)
  have HSP := Lib.hid hs
  have HX := Lib.hid hx
  have HCA := Lib.hid (show (i : Int) + 1 = ((i + 1 : Nat) : Int) by omega)
  clear hn he hr hs hx hi
  go_enter Try.func5, Try.ntmps5
  go_wp2_with fail
  refine (wlist_is _ _ _ l n HN.out _ HE.out hm _ HR.out).mono ?_
  rintro e' w' ⟨rfl, rfl⟩
  go_wp2_with fail
  refine (issorted_any _ _ _ _ _ _ HN.out HS.out (by omega) _ HR.out).mono ?_
  rintro e' w1 ⟨rfl, hb1⟩
  have B1 := Lib.hid hb1
  have R1 := Lib.hid (HR.out.below hb1 hB)
  clear hb1
  go_wp2_with fail
  refine (bsearch_any _ _ _ _ _ _ HN.out HSP.out (by omega) _ R1.out).mono ?_
  rintro e' w2 ⟨rfl, hb2⟩
  have B2 := Lib.hid (B1.out.trans (hb2.mono B1.out.size))
  have R2 := Lib.hid (HR.out.below B2.out hB)
  clear hb2
  rw [HX.out, HI.out]
  go_wp2_with fail
  refine (clone_n _ _ _ _ _ HN.out (by omega) _ R2.out (Nat.le_trans hB B2.out.size)).mono ?_
  rintro e' w3 ⟨A3, c3, rfl, ho, hb3⟩
  have B3 := Lib.hid (B2.out.trans (hb3.mono B2.out.size))
  have HO := Lib.hid ho
  have L3 := Lib.hid hb3
  clear hb3 ho
  go_wp2_with fail
  rw [HCA.out]
  refine (delete_any A3 c3 n i w2.heap.size l HN.out hin (by omega) _ HO.out L3.out.size).mono ?_
  rintro e' w4 ⟨A4, c4, rfl, hrd, hb4⟩
  have R4 := Lib.hid hrd
  have B4 := Lib.hid (B3.out.trans (hb4.mono B2.out.size))
  clear hrd hb4
  go_wp2
  refine bodyPost_ret (v := .tuple #[.slice A4 (n - 1) c4, .int .i64 0]) (by simp [results, Try.results5, go_sem]) rfl ?_
  exact ⟨A4, c4, rfl, R4.out, B4.out⟩
end Go.Proofs.Ytignljfeihlanad
