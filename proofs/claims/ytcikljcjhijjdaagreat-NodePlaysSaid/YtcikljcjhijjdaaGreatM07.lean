/- win.List and the reference's List; slices.ContainsFunc over ints. (with what it needs) -/
import Derived.Test.YtcikljcjhijjdaaGreatM06
import Derived.Test.YtcikljcjhijjdaaGreatM05
namespace Go.Proofs.YtcikljcjhijjdaaGreat
open Go.RowKit
set_option linter.unusedSimpArgs false
set_option linter.unusedVariables false

def offI (c : Int) : Bool := !wi c 0 16777216
def listE (l : List Int) : Int := if 64 < l.length then 2 else if l.any offI then 1 else 0

set_option maxRecDepth 100000 in
theorem lval_any (x : Int) (w : World) :
    Calls Tryz.prog 37 #[.int .i64 x] w fun e w' => e = .returned (.bool (wi x 0 16777216)) ∧ w = w' := by
  unfold wi
  go_enter Tryz.func37, Tryz.ntmps37
  go_wp2
  all_goals (go_ret; simp [*] <;> omega)
set_option maxRecDepth 100000 in
theorem lrval_any (x : Int) (w : World) :
    Calls Tryz.prog 87 #[.int .i64 x] w fun e w' => e = .returned (.bool (wi x 0 16777216)) ∧ w = w' := by
  go_enter Tryz.func87, Tryz.ntmps87
  go_wp2_with (go_at_call 35; refine (within_any _ _ _ _).mono ?_; rintro e w' ⟨rfl, rfl⟩)
  all_goals (go_ret; simp [*])
set_option maxRecDepth 100000 in
theorem list1_any (c : Int) (w : World) :
    Calls Tryz.prog 132 #[.int .i64 c] w fun e w' => e = .returned (.bool (offI c)) ∧ w = w' := by
  unfold offI
  go_enter Tryz.func132, Tryz.ntmps132
  go_wp2_with (go_at_call 37; refine (lval_any _ _).mono ?_; rintro e w' ⟨rfl, rfl⟩)
  go_ret
  exact ⟨rfl, rfl⟩

set_option maxRecDepth 100000 in
set_option maxHeartbeats 400000 in
theorem idx_ints (A : Option Addr) (c B : Nat) (l : List Int) (hm : l.length ≤ 100000) (w : World) (hr : Reads w B 1 A l.length (cellsI l)) :
    Calls Tryz.prog 135 #[.slice A l.length c, .func (.func 132) #[] #[]] w (SomeIdxI (l.any offI) w) := by
  generalize hn : l.length = n at *
  have HN := Lib.hid hn
  have HC := Lib.hid hr
  clear hn hr
  by_cases hz : n = 0
  · have HZ := Lib.hid hz
    have hz' : n < 1 := by omega
    clear hz
    go_enter Tryz.func135, Tryz.ntmps135
    go_wp2
    go_loop [8] (fun i => i = .int .i64 0) (fun i => 0)
    case atStart => exact rfl
    case round =>
      subst hrel
      go_wp2
      go_ret
      refine ⟨-1, ?_, rfl, rfl⟩
      have : l = [] := List.eq_nil_of_length_eq_zero (by rw [HN.out, HZ.out])
      rw [this]; rfl
  · obtain ⟨b, off, rfl, hb, hcells⟩ := HC.out.addr (by omega)
    have HCC := Lib.hid hcells
    clear hcells hz
    go_enter Tryz.func135, Tryz.ntmps135
    go_wp2
    go_loop [5, 8] (fun _ i => ∃ k : Nat, k ≤ n ∧ i = .int .i64 k ∧ (l.take k).any offI = false) (fun _ i => n - (intOf i).toNat)
    case atStart => exact ⟨0, Nat.zero_le _, rfl, rfl⟩
    case round =>
      obtain ⟨k, hk, rfl, hrel⟩ := hrel
      have HR := Lib.hid hrel
      clear hrel
      by_cases hlt : k < n
      · have hcell := HCC.out k _ (cellsI_at l k (by rw [HN.out]; exact hlt))
        have HX := Lib.hid (anyI_step (by rw [HN.out]; exact hlt) HR.out)
        generalize hx : l.getD k 0 = x at *
        clear hx
        go_wp2_with (go_at_call 132; refine (list1_any _ _).mono ?_; rintro e w' ⟨rfl, rfl⟩)
        go_ways
        · rename_i ho
          go_ret
          exact ⟨k, by rw [anyI_take (HX.out.trans ho)]; simp, rfl, rfl⟩
        · rename_i ho
          refine ⟨⟨k + 1, hlt, by simp, HX.out.trans ho⟩, ?_⟩
          simp [intOf]
          omega
      · go_wp2
        go_ret
        refine ⟨-1, ?_, rfl, rfl⟩
        have : l.take k = l := by rw [List.take_of_length_le]; have := HN.out; omega
        have h2 := HR.out
        rw [this] at h2
        rw [h2]
        rfl

set_option maxRecDepth 100000 in
theorem contains_ints (A : Option Addr) (c B : Nat) (l : List Int) (hm : l.length ≤ 100000) (w : World) (hr : Reads w B 1 A l.length (cellsI l)) :
    Calls Tryz.prog 131 #[.slice A l.length c, .func (.func 132) #[] #[]] w fun e w' => e = .returned (.bool (l.any offI)) ∧ w = w' := by
  have HC := Lib.hid hr
  clear hr
  go_enter Tryz.func131, Tryz.ntmps131
  go_wp2_with fail
  refine (idx_ints _ _ _ _ hm _ HC.out).mono ?_
  rintro e w' ⟨k, hk, rfl, rfl⟩
  go_wp2
  go_ret
  first | exact ⟨rfl, rfl⟩ | exact ⟨ret_bool hk, rfl⟩

set_option maxRecDepth 100000 in
theorem wlist_any (A : Option Addr) (c B : Nat) (l : List Int) (hm : l.length ≤ maxLen) (w : World) (hr : Reads w B 1 A l.length (cellsI l)) :
    Calls Tryz.prog 126 #[.slice A l.length c] w fun e w' => e = .returned (.int .i64 (listE l)) ∧ w = w' := by
  have HC := Lib.hid hr
  clear hr
  unfold listE
  by_cases h : 64 < l.length
  · rw [if_pos h]
    go_enter Tryz.func126, Tryz.ntmps126
    go_wp2
    go_ret
    exact ⟨rfl, rfl⟩
  · rw [if_neg h]
    go_enter Tryz.func126, Tryz.ntmps126
    go_wp2_with fail
    refine (contains_ints _ _ _ _ (by omega) _ HC.out).mono ?_
    rintro e w' ⟨rfl, rfl⟩
    go_wp2
    all_goals (go_ret; exact ⟨ret_int (by simp [*]), rfl⟩)











































































end Go.Proofs.YtcikljcjhijjdaaGreat

namespace Go.Proofs.YtcikljcjhijjdaaGreat
open Go.RowKit
set_option linter.unusedSimpArgs false
set_option linter.unusedVariables false

theorem vals_of {l : List Int} (h : l.any offI = false) (j : Nat) (hj : j < l.length) : 0 ≤ l.getD j 0 ∧ l.getD j 0 ≤ 16777216 := by
  have h1 : offI (l.getD j 0) = false := by
    rw [List.any_eq_false] at h
    have := h (l.getD j 0) (by simp [List.getD, List.getElem?_eq_getElem hj])
    simpa using this
  unfold offI at h1
  exact wi_true.1 (by simpa using h1)
theorem listE_zero {l : List Int} (h : listE l = 0) : l.length ≤ 64 ∧ l.any offI = false := by
  unfold listE at h
  split at h
  · simp at h
  · split at h
    · simp at h
    · rename_i h1 h2; exact ⟨by omega, by simpa using h2⟩
theorem wlist_is (A : Option Addr) (c B : Nat) (l : List Int) (n : Nat) (hn : l.length = n) (e : Int) (h : listE l = e) (hm : n ≤ maxLen) (w : World) (hr : Reads w B 1 A n (cellsI l)) :
    Calls Tryz.prog 126 #[.slice A n c] w fun e' w' => e' = .returned (.int .i64 e) ∧ w = w' := by
  subst hn h; exact wlist_any A c B l hm w hr

end Go.Proofs.YtcikljcjhijjdaaGreat

namespace Go.Proofs.YtcikljcjhijjdaaGreat
open Go.RowKit
set_option linter.unusedSimpArgs false
set_option linter.unusedVariables false

def SumsArg (n s q : Int) : Prop := 0 ≤ n ∧ n ≤ 64 ∧ 0 ≤ s ∧ s ≤ n * 16777216 ∧ s ≤ q ∧ q ≤ s * 16777216
instance (n s q : Int) : Decidable (SumsArg n s q) := by unfold SumsArg; infer_instance
def sumsE (n s q : Int) : Int := if SumsArg n s q then (if n * q < s * s then 9 else 0) else 1

theorem SumsArg.bounds {n s q : Int} (h : SumsArg n s q) : s ≤ 1073741824 ∧ q ≤ 18014398509481984 ∧ 0 ≤ n * q ∧ n * q ≤ 1152921504606846976 ∧ 0 ≤ s * s ∧ s * s ≤ 1152921504606846976 := by
  obtain ⟨h0, h1, h2, h3, h4, h5⟩ := h
  have hs : s ≤ 1073741824 := by omega
  have hq : q ≤ 18014398509481984 := by omega
  have hq0 : 0 ≤ q := by omega
  refine ⟨hs, hq, Int.mul_nonneg h0 hq0, ?_, Int.mul_nonneg h2 h2, ?_⟩
  · have := Int.mul_le_mul h1 hq hq0 (by omega : (0 : Int) ≤ 64)
    omega
  · have := Int.mul_le_mul hs hs h2 (by omega : (0 : Int) ≤ 1073741824)
    omega

set_option maxRecDepth 100000 in
theorem wval_any (x : Int) (w : World) :
    Calls Tryz.prog 37 #[.int .i64 x] w fun e w' => e = .returned (.bool (wi x 0 16777216)) ∧ w = w' := by
  unfold wi
  go_enter Tryz.func37, Tryz.ntmps37
  go_wp2
  all_goals (go_ret; simp [*] <;> omega)
set_option maxRecDepth 100000 in
theorem rval_any (x : Int) (w : World) :
    Calls Tryz.prog 87 #[.int .i64 x] w fun e w' => e = .returned (.bool (wi x 0 16777216)) ∧ w = w' := by
  go_enter Tryz.func87, Tryz.ntmps87
  go_wp2_with (go_at_call 35; refine (within_any _ _ _ _).mono ?_; rintro e w' ⟨rfl, rfl⟩)
  all_goals (go_ret; simp [*])

set_option maxRecDepth 100000 in
set_option maxHeartbeats 1000000 in
theorem stat_check_bad (n s q : Int) (h : ¬ SumsArg n s q) (w : World) :
    Calls Tryz.prog 129 #[.agg #[.int .i64 n, .int .i64 s, .int .i64 q]] w fun e w' => e = .returned (.int .i64 1) ∧ Below w.heap.size w w' := by
  have h' : n < 0 ∨ 64 < n ∨ s < 0 ∨ q < 0 ∨ n * 16777216 < s ∨ s * 16777216 < q ∨ q < s := by unfold SumsArg at h; omega
  clear h
  go_enter Tryz.func129, Tryz.ntmps129
  go_wp2
  all_goals first
    | (exfalso; omega)
    | (go_ret; exact ⟨rfl, (Below.refl _ _).alloc (Nat.le_refl _) _⟩)

set_option maxRecDepth 100000 in
set_option maxHeartbeats 1000000 in
theorem stat_check_good (n s q : Int) (h : SumsArg n s q) (w : World) :
    Calls Tryz.prog 129 #[.agg #[.int .i64 n, .int .i64 s, .int .i64 q]] w fun e w' => e = .returned (.int .i64 (if n * q < s * s then 9 else 0)) ∧ Below w.heap.size w w' := by
  obtain ⟨b1, b2, b3, b4, b5, b6⟩ := h.bounds
  obtain ⟨h0, h1, h2, h3, h4, h5⟩ := h
  go_enter Tryz.func129, Tryz.ntmps129
  go_wp2
  all_goals first
    | (exfalso; omega)
    | (go_ret; exact ⟨ret_int (by simp [*] <;> omega), (Below.refl _ _).alloc (Nat.le_refl _) _⟩)

theorem stat_check (n s q : Int) (w : World) :
    Calls Tryz.prog 129 #[.agg #[.int .i64 n, .int .i64 s, .int .i64 q]] w fun e w' => e = .returned (.int .i64 (sumsE n s q)) ∧ Below w.heap.size w w' := by
  unfold sumsE
  by_cases h : SumsArg n s q
  · rw [if_pos h]; exact stat_check_good n s q h w
  · rw [if_neg h]; exact stat_check_bad n s q h w

theorem sumsE_zero {n s q : Int} (h : sumsE n s q = 0) : SumsArg n s q ∧ ¬ n * q < s * s := by
  unfold sumsE at h
  split at h
  · split at h
    · simp at h
    · exact ⟨by assumption, by assumption⟩
  · simp at h
theorem check_is (n s q e : Int) (h : sumsE n s q = e) (w : World) :
    Calls Tryz.prog 129 #[.agg #[.int .i64 n, .int .i64 s, .int .i64 q]] w fun e' w' => e' = .returned (.int .i64 e) ∧ Below w.heap.size w w' := by
  subst h; exact stat_check n s q w
theorem wval_d (x : Int) (b : Bool) (h : wi x 0 16777216 = b) (w : World) :
    Calls Tryz.prog 37 #[.int .i64 x] w fun e w' => e = .returned (.bool b) ∧ w = w' := by
  subst h; exact wval_any x w
theorem rval_d (x : Int) (b : Bool) (h : wi x 0 16777216 = b) (w : World) :
    Calls Tryz.prog 87 #[.int .i64 x] w fun e w' => e = .returned (.bool b) ∧ w = w' := by
  subst h; exact rval_any x w
theorem sq_bounds {v : Int} (h : wi v 0 16777216 = true) : 0 ≤ v ∧ v ≤ 16777216 ∧ 0 ≤ v * v ∧ v * v ≤ 281474976710656 := by
  obtain ⟨h0, h1⟩ := wi_true.1 h
  refine ⟨h0, h1, Int.mul_nonneg h0 h0, ?_⟩
  have := Int.mul_le_mul h1 h1 h0 (by omega : (0 : Int) ≤ 16777216)
  omega
end Go.Proofs.YtcikljcjhijjdaaGreat

namespace Go.Proofs.YtcikljcjhijjdaaGreat
open Go.RowKit
set_option linter.unusedSimpArgs false
set_option linter.unusedVariables false

set_option maxRecDepth 100000 in
set_option maxHeartbeats 1000000 in
theorem spread_err (n s q : Int) (e : Int) (he : sumsE n s q = e) (hn : e ≠ 0) (w : World) :
    Calls Tryz.prog 116 #[.agg #[.int .i64 n, .int .i64 s, .int .i64 q]] w fun e' w' => e' = .returned (.tuple #[.int .i64 (0), .int .i64 e]) ∧ Below w.heap.size w w' := by
  have HE := Lib.hid he
  clear he
  have E := Lib.hid ((Env.start w).lay #[.int .i64 n, .int .i64 s, .int .i64 q] 128)
  go_enter Tryz.func116, Tryz.ntmps116
  go_wp2_with fail
  refine (check_is _ _ _ _ HE.out _).mono ?_
  rintro e' w1 ⟨rfl, hb1⟩
  have E1 := Lib.hid (E.out.below hb1)
  clear hb1
  have p0 := E1.out.hd.lt
  have a0 := E1.out.hd.cell 0
  have a1 := E1.out.hd.cell 1
  have a2 := E1.out.hd.cell 2
  simp at a0 a1 a2 p0
  go_wp2
  refine bodyPost_ret (v := .tuple #[.int .i64 (0), .int .i64 e]) (by simp [results, Tryz.results116, go_sem] <;> omega) rfl ⟨rfl, E1.out.bel⟩

set_option maxRecDepth 100000 in
set_option maxHeartbeats 1000000 in
theorem spread_ok (n s q : Int) (he : sumsE n s q = 0) (w : World) :
    Calls Tryz.prog 116 #[.agg #[.int .i64 n, .int .i64 s, .int .i64 q]] w fun e' w' => e' = .returned (.tuple #[.int .i64 (n * q - s * s), .int .i64 0]) ∧ Below w.heap.size w w' := by
  have HE := Lib.hid he
  clear he
  obtain ⟨b1, b2, b3, b4, b5, b6⟩ := (sumsE_zero HE.out).1.bounds
  obtain ⟨h0, h1, h2, h3, h4, h5⟩ := (sumsE_zero HE.out).1
  have E := Lib.hid ((Env.start w).lay #[.int .i64 n, .int .i64 s, .int .i64 q] 128)
  go_enter Tryz.func116, Tryz.ntmps116
  go_wp2_with fail
  refine (check_is _ _ _ _ HE.out _).mono ?_
  rintro e' w1 ⟨rfl, hb1⟩
  have E1 := Lib.hid (E.out.below hb1)
  clear hb1
  have p0 := E1.out.hd.lt
  have a0 := E1.out.hd.cell 0
  have a1 := E1.out.hd.cell 1
  have a2 := E1.out.hd.cell 2
  simp at a0 a1 a2 p0
  go_wp2
  refine bodyPost_ret (v := .tuple #[.int .i64 (n * q - s * s), .int .i64 0]) (by simp [results, Tryz.results116, go_sem] <;> omega) rfl ⟨rfl, E1.out.bel⟩

set_option maxRecDepth 100000 in
theorem rspread_ok (n s q : Int) (he : sumsE n s q = 0) (w : World) :
    Calls Tryz.prog 97 #[.agg #[.int .i64 n, .int .i64 s, .int .i64 q]] w fun e' w' => e' = .returned (.int .i64 (n * q - s * s)) ∧ Below w.heap.size w w' := by
  have HE := Lib.hid he
  clear he
  obtain ⟨b1, b2, b3, b4, b5, b6⟩ := (sumsE_zero HE.out).1.bounds
  obtain ⟨h0, h1, h2, h3, h4, h5⟩ := (sumsE_zero HE.out).1
  go_enter Tryz.func97, Tryz.ntmps97
  go_wp2
  go_ret
  exact ⟨rfl, (Below.refl _ _).alloc (Nat.le_refl _) _⟩
end Go.Proofs.YtcikljcjhijjdaaGreat

namespace Go.Proofs.YtcikljcjhijjdaaGreat
open Go.RowKit
set_option linter.unusedSimpArgs false
set_option linter.unusedVariables false

def s1 : List Int → Int | [] => 0 | x :: l => s1 l + x
def s2 : List Int → Int | [] => 0 | x :: l => s2 l + x * x
theorem s1_snoc (l : List Int) (x : Int) : s1 (l ++ [x]) = s1 l + x := by
  induction l with
  | nil => simp [s1]
  | cons y l ih => simp [s1, ih]; omega
theorem s2_snoc (l : List Int) (x : Int) : s2 (l ++ [x]) = s2 l + x * x := by
  induction l with
  | nil => simp [s2]
  | cons y l ih => simp [s2, ih]; omega
theorem s_bd (l : List Int) (h : l.any offI = false) : 0 ≤ s1 l ∧ s1 l ≤ l.length * 16777216 ∧ 0 ≤ s2 l ∧ s2 l ≤ l.length * 281474976710656 := by
  induction l with
  | nil => simp [s1, s2]
  | cons x l ih =>
    simp only [List.any_cons, Bool.or_eq_false_iff] at h
    obtain ⟨i0, i1, i2, i3⟩ := ih h.2
    have hx : wi x 0 16777216 = true := by have := h.1; unfold offI at this; simpa using this
    obtain ⟨x0, x1⟩ := wi_true.1 hx
    have y0 := Int.mul_nonneg x0 x0
    have y1 := Int.mul_le_mul x1 x1 x0 (by omega : (0 : Int) ≤ 16777216)
    simp only [s1, s2, List.length_cons]
    refine ⟨by omega, by omega, by omega, by omega⟩
theorem take_next (l : List Int) (k : Nat) (h : k < l.length) : l.take (k + 1) = l.take k ++ [l.getD k 0] := by
  rw [List.take_add_one, List.getElem?_eq_getElem h]
  simp [List.getD, List.getElem?_eq_getElem h]
theorem off_take {l : List Int} (h : l.any offI = false) (k : Nat) : (l.take k).any offI = false := by
  rw [List.any_eq_false] at h ⊢
  exact fun x hx => h x (List.mem_of_mem_take hx)
def t1 (l : List Int) (k : Nat) : Int := s1 (l.take k)
def t2 (l : List Int) (k : Nat) : Int := s2 (l.take k)
theorem t_succ (l : List Int) (k : Nat) (h : k < l.length) : t1 l (k + 1) = t1 l k + l.getD k 0 ∧ t2 l (k + 1) = t2 l k + l.getD k 0 * l.getD k 0 := by
  unfold t1 t2
  rw [take_next l k h, s1_snoc, s2_snoc]
  exact ⟨rfl, rfl⟩
theorem t_bd (l : List Int) (k : Nat) (h : l.any offI = false) (h64 : l.length ≤ 64) : 0 ≤ t1 l k ∧ t1 l k ≤ 1073741824 ∧ 0 ≤ t2 l k ∧ t2 l k ≤ 18014398509481984 := by
  obtain ⟨a, b, c, d⟩ := s_bd (l.take k) (off_take h k)
  have : (l.take k).length ≤ 64 := by rw [List.length_take]; omega
  unfold t1 t2
  refine ⟨a, by omega, c, by omega⟩
theorem t_all (l : List Int) : t1 l l.length = s1 l ∧ t2 l l.length = s2 l := by unfold t1 t2; rw [List.take_length]; exact ⟨rfl, rfl⟩

theorem Env.set_hd {w0 W : World} {l : List (Nat × TypeId × Array Value)} {g : Nat} {t : TypeId} {cs : Array Value} (h : Env w0 W ((g, t, cs) :: l)) (hd : ∀ x ∈ l, x.1 ≠ g) (i : Nat) (u : Value) :
    Env w0 (W.setCell ⟨g, i, none⟩ u) ((g, t, cs.setIfInBounds i u) :: l) := by
  have hg := (h.2 _ (List.mem_cons_self ..)).1
  refine ⟨h.1.setCell hg _, fun x hx => ?_⟩
  rcases List.mem_cons.1 hx with rfl | hx
  · exact ⟨hg, h.hd.set_ i u⟩
  · have := h.2 x (List.mem_cons_of_mem _ hx)
    exact ⟨this.1, this.2.far (p := ⟨g, i, none⟩) (hd x hx) u⟩

end Go.Proofs.YtcikljcjhijjdaaGreat

namespace Go.Proofs.YtcikljcjhijjdaaGreat
open Go.RowKit
set_option linter.unusedSimpArgs false
set_option linter.unusedVariables false

def winE (cap : Int) (l : List Int) : Int := if wi cap 1 64 = true then (if cap < (l.length : Int) then 2 else listE l) else 1
theorem winE_zero {cap : Int} {l : List Int} (h : winE cap l = 0) : 1 ≤ cap ∧ cap ≤ 64 ∧ (l.length : Int) ≤ cap ∧ listE l = 0 := by
  unfold winE at h
  split at h
  · rename_i h1
    obtain ⟨a, b⟩ := wi_true.1 h1
    split at h
    · simp at h
    · exact ⟨a, b, by omega, h⟩
  · simp at h




set_option maxRecDepth 100000 in
set_option maxHeartbeats 1000000 in
theorem wchk_is (cap : Int) (A : Option Addr) (c B n : Nat) (l : List Int) (hn : l.length = n) (e : Int) (he : winE cap l = e) (hm : n ≤ maxLen) (w : World) (hr : Reads w B 1 A n (cellsI l)) (hB : B ≤ w.heap.size) :
    Calls Tryz.prog 106 #[.agg #[.int .i64 cap, .slice A n c]] w fun e' w' => e' = .returned (.int .i64 e) ∧ Below w.heap.size w w' := by
  subst he hn
  unfold winE
  have HC := Lib.hid (hr.alloc hB (.cells #[.int .i64 cap, .slice A l.length c] 92))
  clear hr hB
  by_cases h1 : wi cap 1 64 = true
  · rw [if_pos h1]
    obtain ⟨c0, c1⟩ := wi_true.1 h1
    clear h1
    by_cases h2 : cap < (l.length : Int)
    · rw [if_pos h2]
      generalize l.length = n at *
      go_enter Tryz.func106, Tryz.ntmps106
      go_wp2
      go_ret
      exact ⟨rfl, (Below.refl _ _).alloc (Nat.le_refl _) _⟩
    · rw [if_neg h2]
      have h3 : (l.length : Int) ≤ cap := by omega
      clear h2
      generalize hn : l.length = n at *
      have HN := Lib.hid hn
      generalize he : listE l = e
      have HE := Lib.hid he
      clear hn he
      go_enter Tryz.func106, Tryz.ntmps106
      go_wp2_with fail
      refine (wlist_is _ _ _ l n HN.out _ HE.out (by omega) _ HC.out).mono ?_
      rintro e' w' ⟨rfl, rfl⟩
      go_wp2
      go_ret
      exact ⟨rfl, (Below.refl _ _).alloc (Nat.le_refl _) _⟩
  · rw [if_neg h1]
    have h2 : cap < 1 ∨ 64 < cap := by
      have := wi_false.1 (by simpa using h1)
      exact this
    clear h1
    generalize l.length = n at *
    go_enter Tryz.func106, Tryz.ntmps106
    go_wp2
    all_goals first
      | (exfalso; omega)
      | (go_ret; exact ⟨rfl, (Below.refl _ _).alloc (Nat.le_refl _) _⟩)









































end Go.Proofs.YtcikljcjhijjdaaGreat
