/- level.When and the reference's When. -/
import Derived.Test.YtoemnfjodhbbgabLvB
import Derived.Deep.DeepCutAuto
namespace Go.Proofs.Ytoemnfjodhbbgab
open Go.RowKit
set_option linter.unusedSimpArgs false
set_option linter.unusedVariables false

set_option maxHeartbeats 1000000 in
theorem lwhen_err (cap least th : Int) (A : Option Addr) (c B n : Nat) (l : List Int) (hn : l.length = n) (e : Int) (he : lookE cap least l = e) (hz : e ≠ 0) (hm : n ≤ maxLen) (w : World) (hr : Reads w B 1 A n (cellsI l)) (hB : B ≤ w.heap.size) :
    Calls Try.prog 5 #[.agg #[.int .i64 cap, .slice A n c], .int .i64 least, .int .i64 th] w fun e' w' => e' = .returned (.tuple #[.int .i64 0, .int .i64 e]) ∧ Below w.heap.size w w' := by
  have HN := Lib.hid hn
  have HE := Lib.hid he
  have HC := Lib.hid (hr.alloc hB (.cells #[.int .i64 cap, .slice A n c] 24))
  have E := Lib.hid ((Env.start w).lay #[.int .i64 cap, .slice A n c] 24)
  have hB2 : B ≤ (w.alloc (.cells #[.int .i64 cap, .slice A n c] 24)).heap.size := by simp; omega
  clear hr hB he hn
  go_enter Try.func5, Try.ntmps5
  go_wp2_with fail
  refine (look_is _ _ _ _ _ n l HN.out _ HE.out hm _ HC.out hB2).mono ?_
  rintro e' w1 ⟨rfl, hb1⟩
  have E1 := Lib.hid (E.out.below hb1)
  clear hb1
  go_wp2
  refine bodyPost_ret (v := .tuple #[.int .i64 0, .int .i64 e]) (by simp [results, Try.results5, go_sem]) rfl ⟨rfl, E1.out.bel⟩

set_option maxHeartbeats 1000000 in
theorem lwhen_arg (cap least th : Int) (A : Option Addr) (c B n : Nat) (l : List Int) (hn : l.length = n) (he : lookE cap least l = 0) (ht : th < 1 ∨ 60 < th) (hm : n ≤ maxLen) (w : World) (hr : Reads w B 1 A n (cellsI l)) (hB : B ≤ w.heap.size) :
    Calls Try.prog 5 #[.agg #[.int .i64 cap, .slice A n c], .int .i64 least, .int .i64 th] w fun e' w' => e' = .returned (.tuple #[.int .i64 0, .int .i64 1]) ∧ Below w.heap.size w w' := by
  have HN := Lib.hid hn
  have HE := Lib.hid he
  have HC := Lib.hid (hr.alloc hB (.cells #[.int .i64 cap, .slice A n c] 24))
  have E := Lib.hid ((Env.start w).lay #[.int .i64 cap, .slice A n c] 24)
  have hB2 : B ≤ (w.alloc (.cells #[.int .i64 cap, .slice A n c] 24)).heap.size := by simp; omega
  clear hr hB he hn
  go_enter Try.func5, Try.ntmps5
  go_wp2_with fail
  refine (look_is _ _ _ _ _ n l HN.out _ HE.out hm _ HC.out hB2).mono ?_
  rintro e' w1 ⟨rfl, hb1⟩
  have E1 := Lib.hid (E.out.below hb1)
  clear hb1
  go_wp2
  all_goals first
    | (exfalso; omega)
    | exact bodyPost_ret (v := .tuple #[.int .i64 0, .int .i64 1]) (by simp [results, Try.results5, go_sem]) rfl ⟨rfl, E1.out.bel⟩

def OfIs (cap least : Int) (A : Option Addr) (n c : Nat) (f : Int → Nat) (w : World) : Prop :=
  ∀ s w', 0 ≤ s → s ≤ 1073741824 → Below w.heap.size w w' → Calls Try.prog 4 #[.agg #[.int .i64 cap, .slice A n c], .int .i64 least, .int .i64 s] w' fun e' w'' => e' = .returned (.tuple #[.int .i64 (f s : Nat), .int .i64 0]) ∧ Below w'.heap.size w' w''

set_option maxHeartbeats 4000000 in
theorem lwhen_never (cap least th : Int) (A : Option Addr) (c B n : Nat) (l : List Int) (hn : l.length = n) (he : lookE cap least l = 0) (f : Int → Nat) (h1 : 1 ≤ th) (h2 : th ≤ 60) (hf : (f 1073741824 : Int) < th) (hm : n ≤ maxLen) (w : World) (hr : Reads w B 1 A n (cellsI l)) (hB : B ≤ w.heap.size) (ho : OfIs cap least A n c f w) :
    Calls Try.prog 5 #[.agg #[.int .i64 cap, .slice A n c], .int .i64 least, .int .i64 th] w fun e' w' => e' = .returned (.tuple #[.int .i64 0, .int .i64 2]) ∧ Below w.heap.size w w' := by
  have HN := Lib.hid hn
  have HE := Lib.hid he
  have HC := Lib.hid (hr.alloc hB (.cells #[.int .i64 cap, .slice A n c] 24))
  have E := Lib.hid ((Env.start w).lay #[.int .i64 cap, .slice A n c] 24)
  have hB2 : B ≤ (w.alloc (.cells #[.int .i64 cap, .slice A n c] 24)).heap.size := by simp; omega
  have HO := Lib.hid ho
  clear hr hB he hn ho
  go_enter Try.func5, Try.ntmps5
  go_wp2_with fail
  refine (look_is _ _ _ _ _ n l HN.out _ HE.out hm _ HC.out hB2).mono ?_
  rintro e' w1 ⟨rfl, hb1⟩
  have E1 := Lib.hid (E.out.below hb1)
  clear hb1
  have a0 := E1.out.hd.cell 0
  have a1 := E1.out.hd.cell 1
  have p0 := E1.out.hd.lt
  simp at a0 a1 p0
  go_wp2_with fail
  refine (HO.out _ _ (by omega) (by omega) E1.out.bel).mono ?_
  rintro e' w2 ⟨rfl, hb2⟩
  have E2 := Lib.hid (E1.out.below hb2)
  clear hb2
  go_wp2
  refine bodyPost_ret (v := .tuple #[.int .i64 0, .int .i64 2]) (by simp [results, Try.results5, go_sem]) rfl ⟨rfl, E2.out.bel⟩

set_option maxHeartbeats 4000000 in
theorem lwhen_ok (cap least th : Int) (A : Option Addr) (c B n : Nat) (l : List Int) (hn : l.length = n) (he : lookE cap least l = 0) (f : Int → Nat) (hmo : ∀ s t, s ≤ t → f s ≤ f t) (h1 : 1 ≤ th) (h2 : th ≤ 60) (t : Int) (ht : Lv.FirstAt f th t) (hf : th ≤ (f 1073741824 : Int)) (hm : n ≤ maxLen) (w : World) (hr : Reads w B 1 A n (cellsI l)) (hB : B ≤ w.heap.size) (ho : OfIs cap least A n c f w) :
    Calls Try.prog 5 #[.agg #[.int .i64 cap, .slice A n c], .int .i64 least, .int .i64 th] w fun e' w' => e' = .returned (.tuple #[.int .i64 t, .int .i64 0]) ∧ Below w.heap.size w w' := by
  have HN := Lib.hid hn
  have HE := Lib.hid he
  have HC := Lib.hid (hr.alloc hB (.cells #[.int .i64 cap, .slice A n c] 24))
  have E := Lib.hid ((Env.start w).lay #[.int .i64 cap, .slice A n c] 24)
  have hB2 : B ≤ (w.alloc (.cells #[.int .i64 cap, .slice A n c] 24)).heap.size := by simp; omega
  have HO := Lib.hid ho
  have HT := Lib.hid ht
  have HMO := Lib.hid hmo
  have HF := Lib.hid hf
  clear hr hB he hn ho ht hmo
  go_enter Try.func5, Try.ntmps5
  go_wp2_with fail
  refine (look_is _ _ _ _ _ n l HN.out _ HE.out hm _ HC.out hB2).mono ?_
  rintro e' w1 ⟨rfl, hb1⟩
  have E1 := Lib.hid (E.out.below hb1)
  clear hb1
  have a0 := E1.out.hd.cell 0
  have a1 := E1.out.hd.cell 1
  have p0 := E1.out.hd.lt
  simp at a0 a1 p0
  go_wp2_with fail
  refine (HO.out _ _ (by omega) (by omega) E1.out.bel).mono ?_
  rintro e' w2 ⟨rfl, hb2⟩
  have E2 := Lib.hid (E1.out.below hb2)
  clear hb2 a0 a1 p0 E1 E HC hB2
  go_wp2_with fail
  clear hf
  go_loopw [9, 10] (fun lv hv wr => ∃ lo hi : Int, lv = .int .i64 lo ∧ hv = .int .i64 hi ∧ -1 ≤ lo ∧ lo < hi ∧ hi ≤ 1073741824 ∧ (lo = -1 ∨ (f lo : Int) < th) ∧ th ≤ (f hi : Int) ∧
      Env w wr [(w.heap.size, 24, #[.int .i64 cap, .slice A n c])]) (fun lv hv _ => (intOf hv - intOf lv).toNat)
  case atStart => exact ⟨-1, 1073741824, rfl, rfl, by omega, by omega, by omega, .inl rfl, HF.out, E2.out⟩
  case round =>
    obtain ⟨lo, hi, rfl, rfl, b0, b1, b2, hlo, hhi, hE⟩ := hrel
    have F := Lib.hid hE
    have HLO := Lib.hid hlo
    have HHI := Lib.hid hhi
    clear hE E2 hlo hhi
    have a0 := F.out.hd.cell 0
    have a1 := F.out.hd.cell 1
    have p0 := F.out.hd.lt
    simp at a0 a1 p0
    by_cases hg : 1 < hi - lo
    · obtain ⟨mid, hmid⟩ : ∃ mid, mid = (lo + hi).tdiv 2 := ⟨_, rfl⟩
      have hm0 : lo < mid ∧ mid < hi ∧ 0 ≤ mid := by
        rw [Int.tdiv_eq_ediv_of_nonneg (by omega)] at hmid
        omega
      obtain ⟨m0, m1, m2⟩ := hm0
      go_wp2_with fail
      rw [← hmid]
      have HMI := Lib.hid hmid
      clear hmid
      refine (HO.out _ _ (by omega) (by omega) F.out.bel).mono ?_
      rintro e' w3 ⟨rfl, hb3⟩
      have F2 := Lib.hid (F.out.below hb3)
      clear hb3 a0 a1 p0 F
      by_cases hq : th ≤ (f mid : Int)
      · have HQ := Lib.hid hq
        go_wp2_with fail
        go_roundw
        case rel => exact ⟨lo, mid, rfl, rfl, by omega, by omega, by omega, HLO.out, HQ.out, F2.out⟩
        case measure => simp [intOf]; omega
      · have hq3 : (f mid : Int) < th := by omega
        have HQ := Lib.hid hq3
        go_wp2_with fail
        go_roundw
        case rel => exact ⟨mid, hi, rfl, rfl, by omega, by omega, by omega, .inr HQ.out, HHI.out, F2.out⟩
        case measure => simp [intOf]; omega
    · have : hi = lo + 1 := by omega
      subst this
      have HTT := Lib.hid (Lv.first_uniq HMO.out HT.out ⟨by omega, HHI.out, by
        rcases HLO.out with h | h
        · left; omega
        · right; rw [show lo + 1 - 1 = lo by omega]; exact h⟩)
      go_wp2
      refine bodyPost_ret (v := .tuple #[.int .i64 (lo + 1), .int .i64 0]) (by simp [results, Try.results5, go_sem]) rfl ⟨by rw [HTT.out], F.out.bel⟩

def ROfIs (least : Int) (A : Option Addr) (n c : Nat) (f : Int → Nat) (w : World) : Prop :=
  ∀ s w', 0 ≤ s → s ≤ 4294967296 → Below w.heap.size w w' → Calls Try.prog 8 #[.slice A n c, .int .i64 least, .int .i64 s] w' fun e' w'' => e' = .returned (.int .i64 (f s : Nat)) ∧ Below w'.heap.size w' w''

set_option maxHeartbeats 4000000 in
theorem rwhen_never (least th : Int) (A : Option Addr) (c n : Nat) (f : Int → Nat) (hf : (f 1073741824 : Int) < th) (w : World) (ho : ROfIs least A n c f w) :
    Calls Try.prog 9 #[.slice A n c, .int .i64 least, .int .i64 th] w fun e' w' => e' = .returned (.int .i64 (-1)) ∧ Below w.heap.size w w' := by
  have HO := Lib.hid ho
  clear ho
  go_enter Try.func9, Try.ntmps9
  go_wp2_with fail
  refine (HO.out _ _ (by omega) (by omega) (Below.refl _ _)).mono ?_
  rintro e' w1 ⟨rfl, hb1⟩
  go_wp2
  refine bodyPost_ret (v := .int .i64 (-1)) (by simp [results, Try.results9, go_sem]) rfl ⟨rfl, hb1⟩

set_option maxHeartbeats 4000000 in
theorem rwhen_ok (least th : Int) (A : Option Addr) (c n : Nat) (f : Int → Nat) (hmo : ∀ s t, s ≤ t → f s ≤ f t) (t : Int) (ht : Lv.FirstAt f th t) (hf : th ≤ (f 1073741824 : Int)) (w : World) (ho : ROfIs least A n c f w) :
    Calls Try.prog 9 #[.slice A n c, .int .i64 least, .int .i64 th] w fun e' w' => e' = .returned (.int .i64 t) ∧ Below w.heap.size w w' := by
  have HO := Lib.hid ho
  have HT := Lib.hid ht
  have HMO := Lib.hid hmo
  have HF := Lib.hid hf
  clear ho hmo ht
  go_enter Try.func9, Try.ntmps9
  go_wp2_with fail
  refine (HO.out _ _ (by omega) (by omega) (Below.refl _ _)).mono ?_
  rintro e' w1 ⟨rfl, hb1⟩
  have F0 := Lib.hid hb1
  clear hb1
  go_wp2_with fail
  clear hf
  go_loopw [7, 8] (fun tv sv wr => ∃ (x : Int) (st : Nat), tv = .int .i64 x ∧ sv = .int .i64 st ∧ 0 ≤ x ∧ x + 2 * st ≤ 2147483648 ∧ st ≤ 1073741824 ∧ (x = 0 ∨ (f (x - 1) : Int) < th) ∧ (th ≤ (f (x + 2 * st - 1) : Int) ∧ 0 < st ∨ th ≤ (f x : Int) ∧ st = 0) ∧ (st = 0 ∨ ∃ k, st = 2 ^ k) ∧ Below w.heap.size w wr) (fun _ sv _ => (intOf sv).toNat)
  case atStart =>
    refine ⟨0, 1073741824, rfl, rfl, by omega, by omega, by omega, .inl rfl, .inl ⟨?_, by omega⟩, .inr ⟨30, by decide⟩, F0.out⟩
    have h1 := HMO.out 1073741824 (0 + 2 * ((1073741824 : Nat) : Int) - 1) (by omega)
    have h2 := HF.out
    omega
  case round =>
    obtain ⟨x, st, rfl, rfl, b0, b1, b2, hx, hy, hk, hb⟩ := hrel
    have F := Lib.hid hb
    have HX := Lib.hid hx
    have HY := Lib.hid hy
    have HK := Lib.hid hk
    clear hb F0 hx hy hk
    by_cases hg : 0 < st
    · have ha : 0 ≤ x + st - 1 := by omega
      have hY : th ≤ (f (x + 2 * st - 1) : Int) := by
        rcases HY.out with h | h
        · exact h.1
        · omega
      have HYY := Lib.hid hY
      obtain ⟨h, hh⟩ : ∃ h : Nat, h = st / 2 := ⟨_, rfl⟩
      have HST := Lib.hid (show h = 0 ∧ st = 1 ∨ st = 2 * h ∧ 0 < h ∧ ∃ k, h = 2 ^ k by
        rcases HK.out with h0 | ⟨k, h0⟩
        · omega
        · cases k with
          | zero => left; simp at h0; omega
          | succ k => right; rw [Nat.pow_succ] at h0; have : h = 2 ^ k := by omega
                      exact ⟨by omega, by rw [this]; exact Nat.two_pow_pos k, k, this⟩)
      have hdiv : (st : Int) / 2 = (h : Int) := by omega
      have HD := Lib.hid hdiv
      clear hY HY hdiv hh
      go_wp2_with fail
      refine (HO.out _ _ (by omega) (by omega) F.out).mono ?_
      rintro e' w3 ⟨rfl, hb3⟩
      have F2 := Lib.hid (F.out.trans (hb3.mono F.out.size))
      clear hb3 F
      by_cases hq : (f (x + st - 1) : Int) < th
      · have HQ := Lib.hid hq
        go_wp2_with fail
        rw [HD.out]
        go_roundw
        case rel =>
          refine ⟨x + st, h, rfl, rfl, by omega, ?_, ?_, .inr HQ.out, ?_, ?_, F2.out⟩
          · rcases HST.out with h1 | h1 <;> omega
          · rcases HST.out with h1 | h1 <;> omega
          · rcases HST.out with ⟨h1, h2⟩ | ⟨h1, h2, _⟩
            · right; exact ⟨by have := HYY.out; rw [show x + 2 * (st : Int) - 1 = x + st by omega] at this; exact this, h1⟩
            · left; exact ⟨by have := HYY.out; rw [show x + 2 * (st : Int) - 1 = x + st + 2 * h - 1 by omega] at this; exact this, h2⟩
          · rcases HST.out with ⟨h1, h2⟩ | ⟨h1, h2, h3⟩
            · exact .inl h1
            · exact .inr h3
        case measure => simp [intOf]; rcases HST.out with h1 | h1 <;> omega
      · have hq2 : th ≤ (f (x + st - 1) : Int) := by omega
        have HQ := Lib.hid hq2
        clear hq
        go_wp2_with fail
        rw [HD.out]
        go_roundw
        case rel =>
          refine ⟨x, h, rfl, rfl, by omega, ?_, ?_, HX.out, ?_, ?_, F2.out⟩
          · rcases HST.out with h1 | h1 <;> omega
          · rcases HST.out with h1 | h1 <;> omega
          · rcases HST.out with ⟨h1, h2⟩ | ⟨h1, h2, _⟩
            · right; exact ⟨by have := HQ.out; rw [show x + (st : Int) - 1 = x by omega] at this; exact this, h1⟩
            · left; exact ⟨by have := HQ.out; rw [show x + (st : Int) - 1 = x + 2 * h - 1 by omega] at this; exact this, h2⟩
          · rcases HST.out with ⟨h1, h2⟩ | ⟨h1, h2, h3⟩
            · exact .inl h1
            · exact .inr h3
        case measure => simp [intOf]; rcases HST.out with h1 | h1 <;> omega
    · have hst : st = 0 := by omega
      subst hst
      have HTT := Lib.hid (Lv.first_uniq HMO.out HT.out ⟨b0, by
        rcases HY.out with h | h
        · omega
        · exact h.1, HX.out⟩)
      go_wp2
      refine bodyPost_ret (v := .int .i64 x) (by simp [results, Try.results9, go_sem]) rfl ⟨by rw [HTT.out], F.out⟩
end Go.Proofs.Ytoemnfjodhbbgab
