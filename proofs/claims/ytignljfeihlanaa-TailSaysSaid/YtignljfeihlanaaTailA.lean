/- tail.Count and tail.Markov, walked. -/
import Derived.Test.YtignljfeihlanaaSortP
import Derived.Test.YtignljfeihlanaaFadeVals
import Derived.Test.YtignljfeihlanaaSumOf
import Derived.Deep.DeepCutAuto
namespace Go.Proofs.Ytignljfeihlanaa
open Go.RowKit
set_option linter.unusedSimpArgs false
set_option linter.unusedVariables false

def ge (t x : Int) : Bool := decide (t ≤ x)
theorem ge_step (l : List Int) (t : Int) (k : Nat) (h : k < l.length) : (l.take (k + 1)).countP (ge t) = (l.take k).countP (ge t) + (if t ≤ l.getD k 0 then 1 else 0) := by
  rw [So.take_snoc h, List.countP_append]
  simp [List.countP_cons, ge]

theorem count_err (A : Option Addr) (c B n : Nat) (l : List Int) (t : Int) (hn : l.length = n) (e : Int) (he : listE l = e) (hz : e ≠ 0) (hm : n ≤ maxLen) (w : World) (hr : Reads w B 1 A n (cellsI l)) :
    Calls Try.prog 4 #[.slice A n c, .int .i64 t] w fun e' w' => e' = .returned (.tuple #[.int .i64 0, .int .i64 e]) ∧ w = w' := by
  have HN := Lib.hid hn
  have HE := Lib.hid he
  have HR := Lib.hid hr
  clear hn he hr
  go_enter Try.func4, Try.ntmps4
  go_wp2_with fail
  refine (wlist_is _ _ _ l n HN.out _ HE.out hm _ HR.out).mono ?_
  rintro e' w' ⟨rfl, rfl⟩
  go_wp2
  refine bodyPost_ret (v := .tuple #[.int .i64 0, .int .i64 e]) (by simp [results, Try.results4, go_sem]) rfl ⟨rfl, rfl⟩

set_option maxHeartbeats 1000000 in
theorem count_ok (A : Option Addr) (c B n : Nat) (l : List Int) (t : Int) (hn : l.length = n) (he : listE l = 0) (hm : n ≤ maxLen) (w : World) (hr : Reads w B 1 A n (cellsI l)) :
    Calls Try.prog 4 #[.slice A n c, .int .i64 t] w fun e' w' => e' = .returned (.tuple #[.int .i64 (l.countP (ge t) : Nat), .int .i64 0]) ∧ w = w' := by
  have h64 : n ≤ 64 := by rw [← hn]; exact (listE_zero he).1
  have HN := Lib.hid hn
  have HE := Lib.hid he
  have HR := Lib.hid hr
  clear hn he hr
  go_enter Try.func4, Try.ntmps4
  go_wp2_with fail
  refine (wlist_is _ _ _ l n HN.out _ HE.out hm _ HR.out).mono ?_
  rintro e' w' ⟨rfl, rfl⟩
  go_wp2_with fail
  go_loopw [7, 17] (fun cv kv wr => ∃ k : Nat, k ≤ n ∧ cv = .int .i64 ((l.take k).countP (ge t) : Nat) ∧ kv = .int .i64 (k : Int) ∧ wr = w) (fun _ kv _ => n - (intOf kv).toNat)
  case atStart => exact ⟨0, by omega, by simp, rfl, rfl⟩
  case round =>
    obtain ⟨k, hk, rfl, rfl, rfl⟩ := hrel
    have hle : (l.take k).countP (ge t) ≤ k := Nat.le_trans List.countP_le_length (by rw [List.length_take]; omega)
    by_cases hlt : k < n
    · obtain ⟨b, off, rfl, hb, hcells⟩ := HR.out.addr (by omega)
      have hcell := hcells k _ (cellsI_at l k (by rw [HN.out]; exact hlt))
      have HST := Lib.hid (ge_step l t k (by rw [HN.out]; exact hlt))
      have HB := Lib.hid hb
      clear hcells hb
      obtain ⟨c2, hc2⟩ : ∃ c2, c2 = (l.take (k + 1)).countP (ge t) := ⟨_, rfl⟩
      rw [← hc2] at HST
      have HC2 := Lib.hid hc2
      generalize l.getD k 0 = x at *
      generalize (l.take k).countP (ge t) = c1 at *
      clear hc2
      by_cases h1 : t ≤ x
      · have e := HST.out
        rw [if_pos h1] at e
        subst e
        go_wp2
        go_roundw
        case rel => exact ⟨k + 1, by omega, by rw [← HC2.out]; simp, by simp, by first | rfl | trivial⟩
        case measure => simp [intOf]; omega
      · have e := HST.out
        rw [if_neg h1, Nat.add_zero] at e
        subst e
        go_wp2
        go_roundw
        case rel => exact ⟨k + 1, by omega, by rw [← HC2.out], by simp, by first | rfl | trivial⟩
        case measure => simp [intOf]; omega
    · have hkn : k = n := by omega
      have HL := Lib.hid (show l.take k = l by rw [hkn, ← HN.out, List.take_length])
      subst hkn
      generalize hc1 : (l.take k).countP (ge t) = c1 at *
      have HC1 := Lib.hid hc1
      clear hc1
      go_wp2
      refine bodyPost_ret (v := .tuple #[.int .i64 c1, .int .i64 0]) (by simp [results, Try.results4, go_sem]) rfl ⟨by rw [← HC1.out, HL.out], by first | rfl | trivial⟩

set_option maxHeartbeats 1000000 in
theorem markov_err (n s q t : Int) (e : Int) (he : sumsE n s q = e) (hn : e ≠ 0) (w : World) :
    Calls Try.prog 5 #[.agg #[.int .i64 n, .int .i64 s, .int .i64 q], .int .i64 t] w fun e' w' => e' = .returned (.tuple #[.int .i64 (0), .int .i64 e]) ∧ Below w.heap.size w w' := by
  have HE := Lib.hid he
  clear he
  have E := Lib.hid ((Env.start w).lay #[.int .i64 n, .int .i64 s, .int .i64 q] 24)
  go_enter Try.func5, Try.ntmps5
  go_wp2_with fail
  refine (check_is _ _ _ _ HE.out _).mono ?_
  rintro e' w1 ⟨rfl, hb1⟩
  have E1 := Lib.hid (E.out.below hb1)
  clear hb1
  go_wp2
  refine bodyPost_ret (v := .tuple #[.int .i64 (0), .int .i64 e]) (by simp [results, Try.results5, go_sem] <;> omega) rfl ⟨rfl, E1.out.bel⟩
set_option maxHeartbeats 1000000 in
theorem markov_arg (n s q t : Int) (he : sumsE n s q = 0) (ht : t < 1 ∨ 1073741824 < t) (w : World) :
    Calls Try.prog 5 #[.agg #[.int .i64 n, .int .i64 s, .int .i64 q], .int .i64 t] w fun e' w' => e' = .returned (.tuple #[.int .i64 (0), .int .i64 1]) ∧ Below w.heap.size w w' := by
  have HE := Lib.hid he
  clear he
  have E := Lib.hid ((Env.start w).lay #[.int .i64 n, .int .i64 s, .int .i64 q] 24)
  go_enter Try.func5, Try.ntmps5
  go_wp2_with fail
  refine (check_is _ _ _ _ HE.out _).mono ?_
  rintro e' w1 ⟨rfl, hb1⟩
  have E1 := Lib.hid (E.out.below hb1)
  clear hb1
  go_wp2
  all_goals first
    | (exfalso; omega)
    | exact bodyPost_ret (v := .tuple #[.int .i64 (0), .int .i64 1]) (by simp [results, Try.results5, go_sem] <;> omega) rfl ⟨rfl, E1.out.bel⟩
set_option maxHeartbeats 1000000 in
theorem markov_ok (n s t : Nat) (q : Int) (he : sumsE n s q = 0) (ht0 : 1 ≤ t) (ht1 : t ≤ 1073741824) (w : World) :
    Calls Try.prog 5 #[.agg #[.int .i64 n, .int .i64 s, .int .i64 q], .int .i64 t] w fun e' w' => e' = .returned (.tuple #[.int .i64 (min n (s / t) : Nat), .int .i64 0]) ∧ Below w.heap.size w w' := by
  obtain ⟨h0, h1, h2, h3, h4, h5⟩ := (sumsE_zero he).1
  have HE := Lib.hid he
  have hs1 : (s : Int) ≤ 1073741824 := by omega
  have hd0 : (s : Int) / t = ((s / t : Nat) : Int) := by simp
  have hd1 : s / t ≤ s := Nat.div_le_self _ _
  obtain ⟨x, hx⟩ : ∃ x, x = s / t := ⟨_, rfl⟩
  rw [← hx] at hd0 hd1
  have HX := Lib.hid hx
  have HD := Lib.hid hd0
  clear he hd0 hx
  have E := Lib.hid ((Env.start w).lay #[.int .i64 n, .int .i64 s, .int .i64 q] 24)
  go_enter Try.func5, Try.ntmps5
  go_wp2_with fail
  refine (check_is _ _ _ _ HE.out _).mono ?_
  rintro e' w1 ⟨rfl, hb1⟩
  have E1 := Lib.hid (E.out.below hb1)
  clear hb1
  have a0 := E1.out.hd.cell 0
  have a1 := E1.out.hd.cell 1
  have a2 := E1.out.hd.cell 2
  have p0 := E1.out.hd.lt
  simp at a0 a1 a2 p0
  go_wp2_with fail
  go_region
  have hw64 : wrap64 ((s : Int) / (t : Int)) = (x : Int) := by
    rw [HD.out]; unfold wrap64; omega
  rw [hw64]
  have hnn : n ≤ 64 := by omega
  go_wp2
  all_goals first
    | (have hmin : min n x = x := by omega
       exact bodyPost_ret (v := .tuple #[.int .i64 x, .int .i64 0]) (by simp [results, Try.results5, go_sem]) rfl ⟨by rw [← HX.out, hmin], E1.out.bel.drew⟩)
    | (have hmin : min n x = n := by omega
       exact bodyPost_ret (v := .tuple #[.int .i64 n, .int .i64 0]) (by simp [results, Try.results5, go_sem]) rfl ⟨by rw [← HX.out, hmin], E1.out.bel.drew⟩)
end Go.Proofs.Ytignljfeihlanaa
