/- The law ChenSays, walked. -/
import Derived.Test.YtldfppcdklnmlaeChenR
namespace Go.Proofs.Ytldfppcdklnmlae
open Go.RowKit
set_option linter.unusedSimpArgs false
set_option linter.unusedVariables false

def ExpGives (V E : Int) (w : World) (e : Ending) (w' : World) : Prop := e = .returned (.tuple #[.int .i64 V, .int .i64 E]) ∧ Below w.heap.size w w'
theorem exp_gives {S T : List Int} {ev V E : Int} (hV : expV S T ev = V) (hE : expE S T ev = E) {w w' : World} {e : Ending} (h : ExpIs S T ev w e w') : ExpGives V E w e w' := by
  unfold ExpIs at h; rw [hV, hE] at h; exact h
theorem exp_of {S T : List Int} {ev V E v e' : Int} (hV : expV S T ev = V) (hE : expE S T ev = E) (h : expE S T ev = e' ∧ expV S T ev = v) {w w' : World} {e : Ending} (hh : e = .returned (.tuple #[.int .i64 v, .int .i64 e']) ∧ Below w.heap.size w w') : ExpGives V E w e w' := by
  rw [← hV, ← hE, h.1, h.2]; exact hh

theorem cexp_is (A A' : Option Addr) (c c' B n m : Nat) (S T : List Int) (hn : S.length = n) (hm : T.length = m) (ev V E : Int) (hV : expV S T ev = V) (hE : expE S T ev = E) (hc : n ≤ c) (hcm : c ≤ maxLen) (hc' : m ≤ c') (hcm' : c' ≤ maxLen) (w : World) (hr : Reads w B 1 A n (cellsI S)) (hr' : Reads w B 1 A' m (cellsI T)) :
    Calls Try.prog 4 #[.slice A n c, .slice A' m c', .int .i64 ev] w (ExpGives V E w) := by
  by_cases h1 : 64 < n ∨ 64 < m
  · exact (cexp_large A A' c c' B n m S T hn hm ev h1 hc hcm hc' hcm' w hr hr').mono fun e w' hh => exp_of hV hE (exp_large (by rw [hn, hm]; exact h1)) hh
  · have h1' : ¬ (64 < S.length ∨ 64 < T.length) := by rw [hn, hm]; exact h1
    cases h2 : wi ev 1 16777216
    · exact (cexp_ev A A' c c' B n m S T hn hm ev (by omega) (by omega) (wi_false.1 h2) hc hcm hc' hcm' w hr hr').mono fun e w' hh => exp_of hV hE (exp_ev h1' h2) hh
    · obtain ⟨e0, e1⟩ := wi_true.1 h2
      by_cases h3 : n = m
      · subst h3
        rcases Nat.eq_zero_or_pos n with h4 | h4
        · subst h4
          exact (cexp_none A A' c c' ev e0 e1 w).mono fun e w' hh => exp_of hV hE (exp_none h2 hm hn) hh
        · exact (cexp_run A A' c c' B n S T hn hm ev (by omega) h4 e0 e1 hc hcm hc' hcm' w hr hr').mono fun e w' hh => exp_gives hV hE hh
      · exact (cexp_len A A' c c' B n m S T hn hm ev (by omega) (by omega) e0 e1 h3 hc hcm hc' hcm' w hr hr').mono fun e w' hh => exp_of hV hE (exp_len h1' h2 (by rw [hn, hm]; exact h3)) hh

theorem rexp_is (A A' : Option Addr) (c c' B n m : Nat) (S T : List Int) (hn : S.length = n) (hm : T.length = m) (ev V E : Int) (hV : expV S T ev = V) (hE : expE S T ev = E) (hc : n ≤ c) (hcm : c ≤ maxLen) (hc' : m ≤ c') (hcm' : c' ≤ maxLen) (w : World) (hr : Reads w B 1 A n (cellsI S)) (hr' : Reads w B 1 A' m (cellsI T)) :
    Calls Try.prog 6 #[.slice A n c, .slice A' m c', .int .i64 ev] w (ExpGives V E w) := by
  by_cases h1 : 64 < n ∨ 64 < m
  · exact (rexp_large A A' c c' B n m S T hn hm ev h1 hc hcm hc' hcm' w hr hr').mono fun e w' hh => exp_of hV hE (exp_large (by rw [hn, hm]; exact h1)) hh
  · have h1' : ¬ (64 < S.length ∨ 64 < T.length) := by rw [hn, hm]; exact h1
    cases h2 : wi ev 1 16777216
    · exact (rexp_ev A A' c c' B n m S T hn hm ev (by omega) (by omega) (wi_false.1 h2) hc hcm hc' hcm' w hr hr').mono fun e w' hh => exp_of hV hE (exp_ev h1' h2) hh
    · obtain ⟨e0, e1⟩ := wi_true.1 h2
      by_cases h3 : n = m
      · subst h3
        rcases Nat.eq_zero_or_pos n with h4 | h4
        · subst h4
          exact (rexp_none A A' c c' ev e0 e1 w).mono fun e w' hh => exp_of hV hE (exp_none h2 hm hn) hh
        · exact (rexp_run A A' c c' B n S T hn hm ev (by omega) h4 e0 e1 hc hcm hc' hcm' w hr hr').mono fun e w' hh => exp_gives hV hE hh
      · exact (rexp_len A A' c c' B n m S T hn hm ev (by omega) (by omega) e0 e1 h3 hc hcm hc' hcm' w hr hr').mono fun e w' hh => exp_of hV hE (exp_len h1' h2 (by rw [hn, hm]; exact h3)) hh

def LateGives (b : Bool) (E : Int) (w : World) (e : Ending) (w' : World) : Prop := e = .returned (.tuple #[.bool b, .int .i64 E]) ∧ Below w.heap.size w w'
theorem late_of {cap : Int} {l : List Int} {si sl E e' : Int} {b v : Bool} (hV : lateB cap l si sl = b) (hE : lateE cap l si sl = E) (h : lateE cap l si sl = e' ∧ lateB cap l si sl = v) {w w' : World} {e : Ending} (hh : e = .returned (.tuple #[.bool v, .int .i64 e']) ∧ Below w.heap.size w w') : LateGives b E w e w' := by
  rw [← hV, ← hE, h.1, h.2]; exact hh

theorem clate_is (cap : Int) (A : Option Addr) (c B n : Nat) (l : List Int) (hn : l.length = n) (si sl E : Int) (b : Bool) (hV : lateB cap l si sl = b) (hE : lateE cap l si sl = E) (hc : n ≤ c) (hm : c ≤ maxLen) (w : World) (hr : Reads w B 1 A n (cellsI l)) (hB : B ≤ w.heap.size) :
    Calls Try.prog 5 #[.agg #[.int .i64 cap, .slice A n c], .int .i64 si, .int .i64 sl] w (LateGives b E w) := by
  by_cases h0 : winE cap l = 0
  · by_cases h1 : wi si 0 1073741824 = false ∨ wi sl 0 16777216 = false
    · exact (clate_arg cap A c B n l hn si sl h0 (by rcases h1 with h1 | h1 <;> (have := wi_false.1 h1; omega)) hc hm w hr hB).mono fun e w' hh => late_of hV hE (late_arg h0 h1) hh
    · have h2 : wi si 0 1073741824 = true := by cases h : wi si 0 1073741824 <;> simp_all
      have h3 : wi sl 0 16777216 = true := by cases h : wi sl 0 16777216 <;> simp_all
      rcases Nat.eq_zero_or_pos n with h4 | h4
      · subst h4
        exact (clate_none cap A c B l hn si sl h0 h2 h3 hm w hr hB).mono fun e w' hh => late_of hV hE (late_none h0 h2 h3 hn) hh
      · exact (clate_run cap A c B n l hn si sl h0 h2 h3 h4 hc hm w hr hB).mono fun e w' hh => late_of hV hE ⟨rfl, rfl⟩ hh
  · exact (clate_win cap A c B n l hn si sl _ rfl h0 hc hm w hr hB).mono fun e w' hh => late_of hV hE (late_win rfl h0) hh

theorem rlate_is (cap : Int) (A : Option Addr) (c B n : Nat) (l : List Int) (hn : l.length = n) (si sl E : Int) (b : Bool) (hV : lateB cap l si sl = b) (hE : lateE cap l si sl = E) (hc : n ≤ c) (hm : c ≤ maxLen) (w : World) (hr : Reads w B 1 A n (cellsI l)) (hB : B ≤ w.heap.size) :
    Calls Try.prog 7 #[.agg #[.int .i64 cap, .slice A n c], .int .i64 si, .int .i64 sl] w (LateGives b E w) := by
  by_cases h0 : winE cap l = 0
  · by_cases h1 : wi si 0 1073741824 = false ∨ wi sl 0 16777216 = false
    · exact (rlate_arg cap A c B n l hn si sl h0 (by cases hq : wi si 0 1073741824 <;> simp_all) hc hm w hr hB).mono fun e w' hh => late_of hV hE (late_arg h0 h1) hh
    · have h2 : wi si 0 1073741824 = true := by cases h : wi si 0 1073741824 <;> simp_all
      have h3 : wi sl 0 16777216 = true := by cases h : wi sl 0 16777216 <;> simp_all
      rcases Nat.eq_zero_or_pos n with h4 | h4
      · subst h4
        exact (rlate_none cap A c B l hn si sl h0 h2 h3 hm w hr hB).mono fun e w' hh => late_of hV hE (late_none h0 h2 h3 hn) hh
      · exact (rlate_run cap A c B n l hn si sl h0 h2 h3 h4 hc hm w hr hB).mono fun e w' hh => late_of hV hE ⟨rfl, rfl⟩ hh
  · exact (rlate_win cap A c B n l hn si sl _ rfl h0 hc hm w hr hB).mono fun e w' hh => late_of hV hE (late_win rfl h0) hh

theorem one_seven : expV [1] [7] 10 = 17 ∧ expE [1] [7] 10 = 0 := by decide
theorem reads_new (w : World) (t : TypeId) (x : Int) : Reads (w.alloc (.cells #[.int .i64 x] t)) (w.heap.size + 1) 1 (some ⟨w.heap.size, 0, none⟩) 1 (cellsI [x]) :=
  ⟨rfl, fun _ => ⟨_, rfl, by simp, fun j u hj => by
    match j, hj with
    | 0, hj => simp [cellsI] at hj; subst hj; exact (Blk.new w t #[.int .i64 x]).cell 0⟩⟩

set_option maxHeartbeats 2000000 in
set_option maxRecDepth 100000 in
theorem chenSays_walk (A : Option Addr) (c : Nat) (S : List Int) (A' : Option Addr) (c' : Nat) (T : List Int) (ev cap : Int) (A2 : Option Addr) (c2 : Nat) (l : List Int) (si sl : Int) (w : World)
    (hr : Reads w w.heap.size 1 A S.length (cellsI S)) (hc : S.length ≤ c ∧ c ≤ maxLen) (_s : ∀ x ∈ S, -9223372036854775808 ≤ x ∧ x ≤ 9223372036854775807)
    (hr' : Reads w w.heap.size 1 A' T.length (cellsI T)) (hc' : T.length ≤ c' ∧ c' ≤ maxLen) (_s' : ∀ x ∈ T, -9223372036854775808 ≤ x ∧ x ≤ 9223372036854775807)
    (_e : -9223372036854775808 ≤ ev) (_e' : ev ≤ 9223372036854775807) (_c : -9223372036854775808 ≤ cap ∧ cap ≤ 9223372036854775807)
    (hr2 : Reads w w.heap.size 1 A2 l.length (cellsI l)) (hc2 : l.length ≤ c2 ∧ c2 ≤ maxLen) (_s2 : ∀ x ∈ l, -9223372036854775808 ≤ x ∧ x ≤ 9223372036854775807)
    (_f : -9223372036854775808 ≤ si) (_f' : si ≤ 9223372036854775807) (_g : -9223372036854775808 ≤ sl) (_g' : sl ≤ 9223372036854775807) :
    Calls Try.prog 3 #[.slice A S.length c, .slice A' T.length c', .int .i64 ev, .agg #[.int .i64 cap, .slice A2 l.length c2], .int .i64 si, .int .i64 sl] w fun e' w' => e' = .returned (.bool true) ∧ Below w.heap.size w w' := by
  obtain ⟨hc, hcm⟩ := hc
  obtain ⟨hc', hcm'⟩ := hc'
  obtain ⟨hc2, hcm2⟩ := hc2
  have HR := Lib.hid hr
  have HR' := Lib.hid hr'
  have HR2 := Lib.hid hr2
  clear hr hr' hr2 _s _s' _s2
  generalize hn : S.length = n at *
  generalize hm : T.length = m at *
  generalize hk : l.length = k at *
  have HN := Lib.hid hn
  have HM := Lib.hid hm
  have HK := Lib.hid hk
  generalize hV : expV S T ev = V
  generalize hE : expE S T ev = X
  generalize hb : lateB cap l si sl = b
  generalize hL : lateE cap l si sl = Y
  have HV := Lib.hid hV
  have HE := Lib.hid hE
  have HBB := Lib.hid hb
  have HL := Lib.hid hL
  clear hn hm hk hV hE hb hL
  have E := Lib.hid ((Env.start w).lay #[.int .i64 cap, .slice A2 k c2] 24)
  go_enter Try.func3, Try.ntmps3
  go_wp2_with fail
  refine (cexp_is A A' c c' w.heap.size n m S T HN.out HM.out ev V X HV.out HE.out hc hcm hc' hcm' _ (HR.out.below E.out.bel (Nat.le_refl _)) (HR'.out.below E.out.bel (Nat.le_refl _))).mono ?_
  rintro e' w1 ⟨rfl, hb1⟩
  have E1 := Lib.hid (E.out.below hb1)
  clear hb1
  have p0 := E1.out.hd.lt
  have a0 := E1.out.hd.cell 0
  have a1 := E1.out.hd.cell 1
  simp at a0 a1 p0
  go_wp2_with fail
  refine (clate_is cap A2 c2 w.heap.size k l HK.out si sl Y b HBB.out HL.out hc2 hcm2 _ (HR2.out.below E1.out.bel (Nat.le_refl _)) E1.out.bel.size).mono ?_
  rintro e' w2 ⟨rfl, hb2⟩
  have E2 := Lib.hid (E1.out.below hb2)
  clear hb2 p0 a0 a1
  go_wp2_with fail
  refine (rexp_is A A' c c' w.heap.size n m S T HN.out HM.out ev V X HV.out HE.out hc hcm hc' hcm' _ (HR.out.below E2.out.bel (Nat.le_refl _)) (HR'.out.below E2.out.bel (Nat.le_refl _))).mono ?_
  rintro e' w3 ⟨rfl, hb3⟩
  have E3 := Lib.hid (E2.out.below hb3)
  clear hb3
  have p0 := E3.out.hd.lt
  have a0 := E3.out.hd.cell 0
  have a1 := E3.out.hd.cell 1
  simp at a0 a1 p0
  go_wp2_with fail
  refine (rlate_is cap A2 c2 w.heap.size k l HK.out si sl Y b HBB.out HL.out hc2 hcm2 _ (HR2.out.below E3.out.bel (Nat.le_refl _)) E3.out.bel.size).mono ?_
  rintro e' w4 ⟨rfl, hb4⟩
  have E4 := Lib.hid (((E3.out.below hb4).alloc (.cells #[.int .i64 1] 3)).alloc (.cells #[.int .i64 7] 3))
  clear hb4 p0 a0 a1
  go_wp2_with fail
  refine (cexp_is _ _ 1 1 (w4.heap.size + 2) 1 1 [1] [7] rfl rfl 10 17 0 one_seven.1 one_seven.2 (by omega) (by unfold maxLen; omega) (by omega) (by unfold maxLen; omega) _ (((reads_new w4 3 1).alloc (by simp) _).more (by omega)) ?_).mono ?_
  · simpa using reads_new (w4.alloc (.cells #[.int .i64 1] 3)) 3 7
  rintro e' w5 ⟨rfl, hb5⟩
  have E5 := Lib.hid (E4.out.below hb5)
  clear hb5
  go_wp2
  go_ret
  exact ⟨rfl, E5.out.bel⟩
end Go.Proofs.Ytldfppcdklnmlae
