/- vote.look, Some, Level; the reference's Levels: walked. -/
import Derived.Test.YtmgkkbmcdnhdeaeWithin
import Derived.Test.YtmgkkbmcdnhdeaeSortSeq
import Derived.Deep.DeepCutAuto
namespace Go.Proofs.Ytmgkkbmcdnhdeae
open Go.RowKit
set_option linter.unusedSimpArgs false
set_option linter.unusedVariables false

def offV (c : Int) : Bool := !wi c 0 127
def voteE (l : List Int) : Int := if 64 < l.length then 2 else if l.any offV then 1 else 0
def levelsE (l : List Int) (k : Int) : Int := if 64 < l.length then 2 else if l.any offV then 1 else if wi k 1 64 then 0 else 1
theorem look1_any (c : Int) (w : World) :
    Calls Try.prog 26 #[.int .i64 c] w fun e w' => e = .returned (.bool (offV c)) ∧ w = w' := by
  have H1 := Lib.hid (show c < 0 → offV c = true from fun h => by unfold offV; rw [wi_false.2 (.inl h)]; rfl)
  have H2 := Lib.hid (show 127 < c → offV c = true from fun h => by unfold offV; rw [wi_false.2 (.inr h)]; rfl)
  have H3 := Lib.hid (show ¬ c < 0 → ¬ 127 < c → offV c = false from fun h h' => by unfold offV; rw [wi_true.2 ⟨by omega, by omega⟩]; rfl)
  by_cases h1 : c < 0
  · go_enter Try.func26, Try.ntmps26
    go_wp2
    go_ret
    exact ⟨by rw [H1.out h1]; rfl, rfl⟩
  · by_cases h2 : 127 < c
    · go_enter Try.func26, Try.ntmps26
      go_wp2
      go_ret
      exact ⟨by rw [H2.out h2]; rfl, rfl⟩
    · go_enter Try.func26, Try.ntmps26
      go_wp2
      go_ret
      exact ⟨by rw [H3.out h1 h2]; rfl, rfl⟩







set_option maxHeartbeats 400000 in
theorem idx_look (A : Option Addr) (c B n : Nat) (l : List Int) (hn : l.length = n) (hm : n ≤ 100000) (w : World) (hr : Reads w B 1 A n (cellsI l)) :
    Calls Try.prog 33 #[.slice A n c, .func (.func 26) #[] #[]] w (SomeIdxI (l.any offV) w) := by
  have HN := Lib.hid hn
  have HC := Lib.hid hr
  clear hn hr
  by_cases hz : n = 0
  · have HZ := Lib.hid hz
    have hz' : n < 1 := by omega
    clear hz
    go_enter Try.func33, Try.ntmps33
    go_wp2
    go_loop [8] (fun i => i = .int .i64 0) (fun i => 0)
    case atStart => exact rfl
    case round =>
      subst hrel
      go_wp2
      go_ret
      refine ⟨-1, ?_, rfl, rfl⟩
      have : l = [] := List.eq_nil_of_length_eq_zero (by rw [HN.out, HZ.out])
      rw [this]; rfl
  · obtain ⟨b, off, rfl, hb, hcells⟩ := HC.out.addr (by omega)
    have HCC := Lib.hid hcells
    clear hcells hz
    go_enter Try.func33, Try.ntmps33
    go_wp2
    go_loop [5, 8] (fun _ i => ∃ k : Nat, k ≤ n ∧ i = .int .i64 k ∧ (l.take k).any offV = false) (fun _ i => n - (intOf i).toNat)
    case atStart => exact ⟨0, Nat.zero_le _, rfl, rfl⟩
    case round =>
      obtain ⟨k, hk, rfl, hrel⟩ := hrel
      have HR := Lib.hid hrel
      clear hrel
      by_cases hlt : k < n
      · have hcell := HCC.out k _ (cellsI_at l k (by rw [HN.out]; exact hlt))
        have HX := Lib.hid (anyI_step (by rw [HN.out]; exact hlt) HR.out)
        generalize hx : l.getD k 0 = x at *
        clear hx
        go_wp2_with (go_at_call 26; refine (look1_any _ _).mono ?_; rintro e w' ⟨rfl, rfl⟩)
        go_ways
        · rename_i ho
          go_ret
          exact ⟨k, by rw [anyI_take (HX.out.trans ho)]; simp, rfl, rfl⟩
        · rename_i ho
          refine ⟨⟨k + 1, hlt, by simp, HX.out.trans ho⟩, ?_⟩
          simp [intOf]
          omega
      · go_wp2
        go_ret
        refine ⟨-1, ?_, rfl, rfl⟩
        have : l.take k = l := by rw [List.take_of_length_le]; have := HN.out; omega
        have h2 := HR.out
        rw [this] at h2
        rw [h2]
        rfl
theorem contains_look (A : Option Addr) (c B n : Nat) (l : List Int) (hn : l.length = n) (hm : n ≤ 100000) (w : World) (hr : Reads w B 1 A n (cellsI l)) (b : Bool) (hb : l.any offV = b) :
    Calls Try.prog 25 #[.slice A n c, .func (.func 26) #[] #[]] w fun e w' => e = .returned (.bool b) ∧ w = w' := by
  subst hb
  have HC := Lib.hid hr
  have HN := Lib.hid hn
  clear hr hn
  go_enter Try.func25, Try.ntmps25
  go_wp2_with fail
  refine (idx_look _ _ _ _ _ HN.out hm _ HC.out).mono ?_
  rintro e w' ⟨k, hk, rfl, rfl⟩
  go_wp2
  go_ret
  first | exact ⟨rfl, rfl⟩ | exact ⟨ret_bool hk, rfl⟩





































































theorem vlook_is (A : Option Addr) (c B n : Nat) (l : List Int) (hn : l.length = n) (e : Int) (he : voteE l = e) (hm : n ≤ maxLen) (w : World) (hr : Reads w B 1 A n (cellsI l)) :
    Calls Try.prog 14 #[.slice A n c] w fun e' w' => e' = .returned (.int .i64 e) ∧ w = w' := by
  subst he
  have HC := Lib.hid hr
  have HN := Lib.hid hn
  clear hr
  unfold voteE
  rw [hn]
  clear hn
  by_cases h : 64 < n
  · rw [if_pos h]
    go_enter Try.func14, Try.ntmps14
    go_wp2
    go_ret
    exact ⟨rfl, rfl⟩
  · rw [if_neg h]
    generalize hb : l.any offV = b at *
    have HB := Lib.hid hb
    clear hb
    cases b
    all_goals
      go_enter Try.func14, Try.ntmps14
      go_wp2_with fail
      refine (contains_look _ _ _ _ _ HN.out (by omega) _ HC.out _ HB.out).mono ?_
      rintro e w' ⟨rfl, rfl⟩
      go_wp2
      go_ret
      exact ⟨rfl, rfl⟩

































def geV (t x : Int) : Bool := decide (t ≤ x)
theorem geV_step (l : List Int) (t : Int) (k : Nat) (h : k < l.length) : (l.take (k + 1)).countP (geV t) = (l.take k).countP (geV t) + (if t ≤ l.getD k 0 then 1 else 0) := by
  rw [So.take_snoc h, List.countP_append]
  simp [List.countP_cons, geV]
theorem some_err (A : Option Addr) (c B n : Nat) (l : List Int) (k t : Int) (hn : l.length = n) (e : Int) (he : voteE l = e) (hz : e ≠ 0) (hm : n ≤ maxLen) (w : World) (hr : Reads w B 1 A n (cellsI l)) :
    Calls Try.prog 7 #[.slice A n c, .int .i64 k, .int .i64 t] w fun e' w' => e' = .returned (.tuple #[.bool false, .int .i64 e]) ∧ w = w' := by
  have HN := Lib.hid hn
  have HE := Lib.hid he
  have HR := Lib.hid hr
  clear hn he hr
  go_enter Try.func7, Try.ntmps7
  go_wp2_with fail
  refine (vlook_is _ _ _ _ _ HN.out _ HE.out hm _ HR.out).mono ?_
  rintro e' w' ⟨rfl, rfl⟩
  go_wp2
  refine bodyPost_ret (v := .tuple #[.bool false, .int .i64 e]) (by simp [results, Try.results7, go_sem]) rfl ⟨rfl, rfl⟩
theorem some_arg (A : Option Addr) (c B n : Nat) (l : List Int) (k t : Int) (hn : l.length = n) (he : voteE l = 0) (hbad : k < 1 ∨ 64 < k ∨ t < 1 ∨ 60 < t) (hm : n ≤ maxLen) (w : World) (hr : Reads w B 1 A n (cellsI l)) :
    Calls Try.prog 7 #[.slice A n c, .int .i64 k, .int .i64 t] w fun e' w' => e' = .returned (.tuple #[.bool false, .int .i64 1]) ∧ w = w' := by
  have HN := Lib.hid hn
  have HE := Lib.hid he
  have HR := Lib.hid hr
  clear hn he hr
  go_enter Try.func7, Try.ntmps7
  go_wp2_with fail
  refine (vlook_is _ _ _ _ _ HN.out _ HE.out hm _ HR.out).mono ?_
  rintro e' w' ⟨rfl, rfl⟩
  go_wp2
  all_goals first
    | (exfalso; omega)
    | exact bodyPost_ret (v := .tuple #[.bool false, .int .i64 1]) (by simp [results, Try.results7, go_sem]) rfl ⟨rfl, rfl⟩

set_option maxHeartbeats 1000000 in
theorem some_ok (A : Option Addr) (c B n : Nat) (l : List Int) (k t : Int) (hn : l.length = n) (he : voteE l = 0) (hk0 : 1 ≤ k) (hk1 : k ≤ 64) (ht0 : 1 ≤ t) (ht1 : t ≤ 60) (hm : n ≤ maxLen) (w : World) (hr : Reads w B 1 A n (cellsI l)) :
    Calls Try.prog 7 #[.slice A n c, .int .i64 k, .int .i64 t] w fun e' w' => e' = .returned (.tuple #[.bool (decide (k ≤ (l.countP (geV t) : Nat))), .int .i64 0]) ∧ w = w' := by
  have h64 : n ≤ 64 := by unfold voteE at he; split at he <;> omega
  have HN := Lib.hid hn
  have HE := Lib.hid he
  have HR := Lib.hid hr
  clear hn he hr
  go_enter Try.func7, Try.ntmps7
  go_wp2_with fail
  refine (vlook_is _ _ _ _ _ HN.out _ HE.out hm _ HR.out).mono ?_
  rintro e' w' ⟨rfl, rfl⟩
  go_wp2_with fail
  go_loopw [9, 33] (fun cv kv wr => ∃ j : Nat, j ≤ n ∧ cv = .int .i64 ((l.take j).countP (geV t) : Nat) ∧ kv = .int .i64 (j : Int) ∧ wr = w) (fun _ kv _ => n - (intOf kv).toNat)
  case atStart => exact ⟨0, by omega, by simp, rfl, rfl⟩
  case round =>
    obtain ⟨j, hj, rfl, rfl, rfl⟩ := hrel
    have hle : (l.take j).countP (geV t) ≤ j := Nat.le_trans List.countP_le_length (by rw [List.length_take]; omega)
    by_cases hlt : j < n
    · obtain ⟨b, off, rfl, hb, hcells⟩ := HR.out.addr (by omega)
      have hcell := hcells j _ (cellsI_at l j (by rw [HN.out]; exact hlt))
      have HST := Lib.hid (geV_step l t j (by rw [HN.out]; exact hlt))
      have HB := Lib.hid hb
      clear hcells hb
      obtain ⟨c2, hc2⟩ : ∃ c2, c2 = (l.take (j + 1)).countP (geV t) := ⟨_, rfl⟩
      rw [← hc2] at HST
      have HC2 := Lib.hid hc2
      generalize l.getD j 0 = x at *
      generalize (l.take j).countP (geV t) = c1 at *
      clear hc2
      by_cases h1 : t ≤ x
      · have e := HST.out
        rw [if_pos h1] at e
        subst e
        go_wp2
        go_roundw
        case rel => exact ⟨j + 1, by omega, by rw [← HC2.out]; simp, by simp, by first | rfl | trivial⟩
        case measure => simp [intOf]; omega
      · have e := HST.out
        rw [if_neg h1, Nat.add_zero] at e
        subst e
        go_wp2
        go_roundw
        case rel => exact ⟨j + 1, by omega, by rw [← HC2.out], by simp, by first | rfl | trivial⟩
        case measure => simp [intOf]; omega
    · have hkn : j = n := by omega
      have HL := Lib.hid (show l.take j = l by rw [hkn, ← HN.out, List.take_length])
      subst hkn
      generalize hc1 : (l.take j).countP (geV t) = c1 at *
      have HC1 := Lib.hid hc1
      clear hc1
      go_wp2
      refine bodyPost_ret (v := .tuple #[.bool (decide (k ≤ (c1 : Int))), .int .i64 0]) (by simp [results, Try.results7, go_sem]) rfl ⟨by rw [← HC1.out, HL.out], by first | rfl | trivial⟩

theorem vlevel_err (A : Option Addr) (c B n : Nat) (l : List Int) (k : Int) (hn : l.length = n) (e : Int) (he : voteE l = e) (hz : e ≠ 0) (hm : n ≤ maxLen) (w : World) (hr : Reads w B 1 A n (cellsI l)) :
    Calls Try.prog 8 #[.slice A n c, .int .i64 k] w fun e' w' => e' = .returned (.tuple #[.int .i64 0, .int .i64 e]) ∧ w = w' := by
  have HN := Lib.hid hn
  have HE := Lib.hid he
  have HR := Lib.hid hr
  clear hn he hr
  go_enter Try.func8, Try.ntmps8
  go_wp2_with fail
  refine (vlook_is _ _ _ _ _ HN.out _ HE.out hm _ HR.out).mono ?_
  rintro e' w' ⟨rfl, rfl⟩
  go_wp2
  refine bodyPost_ret (v := .tuple #[.int .i64 0, .int .i64 e]) (by simp [results, Try.results8, go_sem]) rfl ⟨rfl, rfl⟩
theorem vlevel_arg (A : Option Addr) (c B n : Nat) (l : List Int) (k : Int) (hn : l.length = n) (he : voteE l = 0) (hbad : k < 1 ∨ 64 < k) (hm : n ≤ maxLen) (w : World) (hr : Reads w B 1 A n (cellsI l)) :
    Calls Try.prog 8 #[.slice A n c, .int .i64 k] w fun e' w' => e' = .returned (.tuple #[.int .i64 0, .int .i64 1]) ∧ w = w' := by
  have HN := Lib.hid hn
  have HE := Lib.hid he
  have HR := Lib.hid hr
  clear hn he hr
  go_enter Try.func8, Try.ntmps8
  go_wp2_with fail
  refine (vlook_is _ _ _ _ _ HN.out _ HE.out hm _ HR.out).mono ?_
  rintro e' w' ⟨rfl, rfl⟩
  go_wp2
  all_goals first
    | (exfalso; omega)
    | exact bodyPost_ret (v := .tuple #[.int .i64 0, .int .i64 1]) (by simp [results, Try.results8, go_sem]) rfl ⟨rfl, rfl⟩
theorem vlevel_none (A : Option Addr) (c B n : Nat) (l : List Int) (k : Int) (hn : l.length = n) (he : voteE l = 0) (hk0 : 1 ≤ k) (hk1 : k ≤ 64) (hk : (n : Int) < k) (hm : n ≤ maxLen) (w : World) (hr : Reads w B 1 A n (cellsI l)) :
    Calls Try.prog 8 #[.slice A n c, .int .i64 k] w fun e' w' => e' = .returned (.tuple #[.int .i64 0, .int .i64 4]) ∧ w = w' := by
  have HN := Lib.hid hn
  have HE := Lib.hid he
  have HR := Lib.hid hr
  clear hn he hr
  go_enter Try.func8, Try.ntmps8
  go_wp2_with fail
  refine (vlook_is _ _ _ _ _ HN.out _ HE.out hm _ HR.out).mono ?_
  rintro e' w' ⟨rfl, rfl⟩
  go_wp2
  refine bodyPost_ret (v := .tuple #[.int .i64 0, .int .i64 4]) (by simp [results, Try.results8, go_sem]) rfl ⟨rfl, rfl⟩

set_option maxHeartbeats 1000000 in
theorem vlevel_ok (A : Option Addr) (c B n k : Nat) (l T : List Int) (hT : So.IsSort l T) (hn : l.length = n) (he : voteE l = 0) (hk0 : 1 ≤ k) (hk : k ≤ n) (hm : n ≤ maxLen) (w : World) (hr : Reads w B 1 A n (cellsI l)) (hB : B ≤ w.heap.size) :
    Calls Try.prog 8 #[.slice A n c, .int .i64 (k : Int)] w fun e' w' => e' = .returned (.tuple #[.int .i64 (T.getD (n - k) 0), .int .i64 0]) ∧ Below w.heap.size w w' := by
  have h64 : n ≤ 64 := by unfold voteE at he; split at he <;> omega
  have HN := Lib.hid hn
  have HE := Lib.hid he
  have HR := Lib.hid hr
  have HTL := Lib.hid (show T.length = n by rw [hT.2.length_eq, hn])
  have HS := Lib.hid (sorted_vals w.heap.size B n c A l T hT hn (by omega) (w.alloc (.cells #[.slice A n c] 25)) (by simp) (by simp; omega) (by simp [go_sem]) (hr.alloc hB _))
  have HS2 := Lib.hid (show Below w.heap.size w (w.alloc (.cells #[.slice A n c] 25)) from (Below.refl _ w).alloc (Nat.le_refl _) _)
  clear hn he hr hT hB
  go_enter Try.func8, Try.ntmps8
  go_wp2_with fail
  refine (vlook_is _ _ _ _ _ HN.out _ HE.out hm _ HR.out).mono ?_
  rintro e' w' ⟨rfl, rfl⟩
  go_wp2_with fail
  refine (values_any _ _ _ _).mono ?_
  rintro e' w1 ⟨rfl, rfl⟩
  go_wp2_with fail
  refine HS.out.mono ?_
  rintro e' w2 ⟨A', c', rfl, hrow, hb⟩
  have HO := Lib.hid (Reads.of_own hrow)
  have HBL := Lib.hid (HS2.out.trans (hb.mono (by simp)))
  clear hrow hb
  obtain ⟨b', off', rfl, hb', hcells⟩ := HO.out.addr (by omega)
  have hcell := hcells (n - k) _ (cellsI_at T (n - k) (by rw [HTL.out]; omega))
  have hi : (n : Int) - (k : Int) = ((n - k : Nat) : Int) := by omega
  clear hcells
  generalize hx : T.getD (n - k) 0 = x at *
  have HX := Lib.hid hx
  clear hx
  go_wp2
  refine bodyPost_ret (v := .tuple #[.int .i64 x, .int .i64 0]) (by simp [results, Try.results8, go_sem]) rfl ⟨by rw [HX.out], HBL.out⟩
end Go.Proofs.Ytmgkkbmcdnhdeae
