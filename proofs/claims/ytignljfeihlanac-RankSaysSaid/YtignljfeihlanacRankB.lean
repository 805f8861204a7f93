/- rank.Rank, rank.Far; the reference's Part, Place: walked. -/
import Derived.Test.YtignljfeihlanacRankA
namespace Go.Proofs.Ytignljfeihlanac
open Go.RowKit
set_option linter.unusedSimpArgs false
set_option linter.unusedVariables false

def partB (num den : Int) : Bool := wi den 1 1000 && wi num 0 den
def placeN (p den : Nat) : Nat := max 1 ((p + den - 1) / den)
theorem place_done (p den k : Nat) (hd : 1 ≤ den) (hk : 1 ≤ k) (h1 : p ≤ k * den) (h2 : k = 1 ∨ (k - 1) * den < p) : placeN p den = k := by
  unfold placeN
  rcases Nat.eq_zero_or_pos p with h0 | h0
  · subst h0
    have : (0 + den - 1) / den = 0 := Nat.div_eq_of_lt (by omega)
    rw [this]
    rcases h2 with h2 | h2 <;> omega
  · have e : (p + den - 1) / den = k := by
      have hs : (k + 1) * den = k * den + den := Nat.succ_mul _ _
      have hs2 : k * den = (k - 1) * den + den := by rw [← Nat.succ_mul]; congr 1; omega
      refine Nat.div_eq_of_lt_le ?_ ?_
      · rcases h2 with h2 | h2
        · subst h2; omega
        · omega
      · show p + den - 1 < (k + 1) * den
        omega
    rw [e]; omega
theorem place_bd (n num den : Nat) (hd : 1 ≤ den) (hn : 1 ≤ n) (hm : num ≤ den) : 1 ≤ placeN (n * num) den ∧ placeN (n * num) den ≤ n := by
  unfold placeN
  have h1 : n * num ≤ n * den := Nat.mul_le_mul_left _ hm
  have h2 : (n * num + den - 1) / den ≤ n := by
    rw [Nat.div_le_iff_le_mul_add_pred (by omega)]
    rw [Nat.mul_comm den n]; omega
  omega

theorem rkpart_any (num den : Int) (w : World) :
    Calls Try.prog 10 #[.int .i64 num, .int .i64 den] w fun e w' => e = .returned (.bool (partB num den)) ∧ w = w' := by
  unfold partB
  cases h1 : wi den 1 1000
  · go_enter Try.func10, Try.ntmps10
    go_wp2_with (go_at_call 17; refine (within_any _ _ _ _).mono ?_; rintro e w' ⟨rfl, rfl⟩; (try rw [h1]))
    go_ret
    exact ⟨rfl, rfl⟩
  · cases h2 : wi num 0 den
    all_goals
      go_enter Try.func10, Try.ntmps10
      go_wp2_with (go_at_call 17; refine (within_any _ _ _ _).mono ?_; rintro e w' ⟨rfl, rfl⟩; (first | rw [h1] | rw [h2]))
      go_ret
      exact ⟨rfl, rfl⟩

set_option maxHeartbeats 1000000 in
theorem rplace_any (n num den : Nat) (hn : n ≤ 64) (hm : num ≤ den) (hd : 1 ≤ den) (hd1 : den ≤ 1000) (w : World) :
    Calls Try.prog 11 #[.int .i64 n, .int .i64 num, .int .i64 den] w fun e w' => e = .returned (.int .i64 (placeN (n * num) den : Nat)) ∧ w = w' := by
  have hp : n * num ≤ 64 * 1000 := Nat.mul_le_mul hn (by omega)
  have hpc : (n : Int) * (num : Int) = ((n * num : Nat) : Int) := by simp
  have HD := Lib.hid (fun k => place_done (n * num) den k hd)
  generalize n * num = p at *
  go_enter Try.func11, Try.ntmps11
  go_wp2
  go_loop [7] (fun kv => ∃ k : Nat, kv = .int .i64 (k : Int) ∧ 1 ≤ k ∧ (k = 1 ∨ (k - 1) * den < p)) (fun kv => p + 1 - (intOf kv).toNat)
  case atStart => exact ⟨1, rfl, by omega, .inl rfl⟩
  case round =>
    obtain ⟨k, rfl, hk, h2⟩ := hrel
    have hs2 : k * den = (k - 1) * den + den := by rw [← Nat.succ_mul]; congr 1; omega
    have hkd : k * den ≤ 65000 := by
      rcases h2 with h2 | h2
      · subst h2; omega
      · omega
    have hkp : k ≤ p + 1 := by
      rcases h2 with h2 | h2
      · omega
      · have h3 : k - 1 ≤ (k - 1) * den := Nat.le_mul_of_pos_right _ hd
        generalize (k - 1) * den = z at *
        omega
    have hc2 : (k : Int) * (den : Int) = ((k * den : Nat) : Int) := by simp
    have hk3 : k ≤ k * den := Nat.le_mul_of_pos_right _ hd
    have HE := Lib.hid (HD.out k hk)
    have HN := Lib.hid (show k + 1 - 1 = k by omega)
    generalize hkd2 : k * den = kd at *
    have HK := Lib.hid hkd2
    have HH := Lib.hid h2
    clear hkd2 hs2 h2
    by_cases hlt : kd < p
    · have hl : (kd : Int) < (p : Int) := by omega
      go_wp2
      exact ⟨⟨k + 1, by simp, by omega, .inr (by rw [HN.out, HK.out]; exact hlt)⟩, by simp [intOf]; omega⟩
    · have hl : (p : Int) ≤ (kd : Int) := by omega
      have HR := Lib.hid (HE.out (by omega) HH.out)
      go_wp2
      go_ret
      refine ⟨?_, rfl⟩
      rw [HR.out]
      rfl

theorem rrank_err (A : Option Addr) (c B n : Nat) (l : List Int) (num den : Int) (hn : l.length = n) (e : Int) (he : listE l = e) (hz : e ≠ 0) (hm : n ≤ maxLen) (w : World) (hr : Reads w B 1 A n (cellsI l)) :
    Calls Try.prog 5 #[.slice A n c, .int .i64 num, .int .i64 den] w fun e' w' => e' = .returned (.tuple #[.int .i64 0, .int .i64 e]) ∧ w = w' := by
  have HN := Lib.hid hn
  have HE := Lib.hid he
  have HR := Lib.hid hr
  clear hn he hr
  go_enter Try.func5, Try.ntmps5
  go_wp2_with fail
  refine (wlist_is _ _ _ l n HN.out _ HE.out hm _ HR.out).mono ?_
  rintro e' w' ⟨rfl, rfl⟩
  go_wp2
  refine bodyPost_ret (v := .tuple #[.int .i64 0, .int .i64 e]) (by simp [results, Try.results5, go_sem]) rfl ⟨rfl, rfl⟩

theorem rrank_arg (A : Option Addr) (c B n : Nat) (l : List Int) (num den : Int) (hbad : den < 1 ∨ 1000 < den ∨ num < 0 ∨ den < num) (hn : l.length = n) (he : listE l = 0) (hm : n ≤ maxLen) (w : World) (hr : Reads w B 1 A n (cellsI l)) :
    Calls Try.prog 5 #[.slice A n c, .int .i64 num, .int .i64 den] w fun e' w' => e' = .returned (.tuple #[.int .i64 0, .int .i64 1]) ∧ w = w' := by
  have HN := Lib.hid hn
  have HE := Lib.hid he
  have HR := Lib.hid hr
  clear hn he hr
  go_enter Try.func5, Try.ntmps5
  go_wp2_with fail
  refine (wlist_is _ _ _ l n HN.out _ HE.out hm _ HR.out).mono ?_
  rintro e' w' ⟨rfl, rfl⟩
  go_wp2
  all_goals first
    | (exfalso; omega)
    | exact bodyPost_ret (v := .tuple #[.int .i64 0, .int .i64 1]) (by simp [results, Try.results5, go_sem]) rfl ⟨rfl, rfl⟩

theorem rrank_none (A : Option Addr) (c : Nat) (num den : Int) (hd0 : 1 ≤ den) (hd1 : den ≤ 1000) (hm0 : 0 ≤ num) (hm1 : num ≤ den) (w : World) :
    Calls Try.prog 5 #[.slice A 0 c, .int .i64 num, .int .i64 den] w fun e' w' => e' = .returned (.tuple #[.int .i64 0, .int .i64 4]) ∧ w = w' := by
  go_enter Try.func5, Try.ntmps5
  go_wp2_with fail
  refine (wlist_is _ _ w.heap.size [] 0 rfl _ rfl (by unfold maxLen; omega) _ ⟨rfl, fun h => absurd h (by omega)⟩).mono ?_
  rintro e' w' ⟨rfl, rfl⟩
  go_wp2
  refine bodyPost_ret (v := .tuple #[.int .i64 0, .int .i64 4]) (by simp [results, Try.results5, go_sem]) rfl ⟨rfl, rfl⟩

set_option maxHeartbeats 1000000 in
theorem rrank_ok (A : Option Addr) (c B n num den k : Nat) (l T : List Int) (hT : So.IsSort l T) (hn : l.length = n) (he : listE l = 0) (hn1 : 1 ≤ n) (hd0 : 1 ≤ den) (hd1 : den ≤ 1000) (hm1 : num ≤ den) (hk : placeN (n * num) den = k) (w : World) (hr : Reads w B 1 A n (cellsI l)) (hB : B ≤ w.heap.size) :
    Calls Try.prog 5 #[.slice A n c, .int .i64 num, .int .i64 den] w fun e' w' => e' = .returned (.tuple #[.int .i64 (T.getD (k - 1) 0), .int .i64 0]) ∧ Below w.heap.size w w' := by
  have h64 : n ≤ 64 := by rw [← hn]; exact (listE_zero he).1
  obtain ⟨hk0, hk1⟩ := place_bd n num den hd0 hn1 hm1
  rw [hk] at hk0 hk1
  have hp : n * num ≤ 64 * 1000 := Nat.mul_le_mul h64 (by omega)
  have hpc : (n : Int) * (num : Int) = ((n * num : Nat) : Int) := by simp
  have HN := Lib.hid hn
  have HE := Lib.hid he
  have HR := Lib.hid hr
  have HTL := Lib.hid (show T.length = n by rw [hT.2.length_eq, hn])
  have HS := Lib.hid (sorted_vals w.heap.size B n c A l T hT hn (by omega) (w.alloc (.cells #[.slice A n c] 22)) (by simp) (by simp; omega) (by simp [go_sem]) (hr.alloc hB _))
  have HS2 := Lib.hid (show Below w.heap.size w (w.alloc (.cells #[.slice A n c] 22)) from (Below.refl _ w).alloc (Nat.le_refl _) _)
  generalize n * num = p at *
  have hdiv : ((p : Int) + (den : Int) - 1) / (den : Int) = (((p + den - 1) / den : Nat) : Int) := by
    rw [show (p : Int) + (den : Int) - 1 = ((p + den - 1 : Nat) : Int) by omega]; simp
  have hdle : (p + den - 1) / den ≤ p + den - 1 := Nat.div_le_self _ _
  unfold placeN at hk
  generalize (p + den - 1) / den = q at *
  have HK := Lib.hid hk
  have HDIV := Lib.hid hdiv
  clear hn he hr hT hB hk hdiv
  go_enter Try.func5, Try.ntmps5
  go_wp2_with fail
  refine (wlist_is _ _ _ l n HN.out _ HE.out (by unfold maxLen; omega) _ HR.out).mono ?_
  rintro e' w' ⟨rfl, rfl⟩
  go_wp2_with fail
  refine (values_any _ _ _ _).mono ?_
  rintro e' w1 ⟨rfl, rfl⟩
  go_wp2_with fail
  refine HS.out.mono ?_
  rintro e' w2 ⟨A', c', rfl, hrow, hb⟩
  have HO := Lib.hid (Reads.of_own hrow)
  have HBL := Lib.hid (HS2.out.trans (hb.mono (by simp)))
  clear hrow hb
  obtain ⟨b', off', rfl, hb', hcells⟩ := HO.out.addr (by omega)
  have hcell := hcells (k - 1) _ (cellsI_at T (k - 1) (by rw [HTL.out]; omega))
  clear hcells
  generalize hx : T.getD (k - 1) 0 = x at *
  have HX := Lib.hid hx
  clear hx
  have hmx : max (1 : Int) (((p : Int) + (den : Int) - 1) / (den : Int)) = (k : Int) := by rw [HDIV.out]; have := HK.out; omega
  have hi : (k : Int) - 1 = ((k - 1 : Nat) : Int) := by omega
  rw [hmx]
  go_wp2
  refine bodyPost_ret (v := .tuple #[.int .i64 x, .int .i64 0]) (by simp [results, Try.results5, go_sem]) rfl ⟨by rw [HX.out], HBL.out⟩

def farL (x : Int) : List Int → Int | [] => 0 | v :: l => farL x l + (if x < v then v - x else x - v)
theorem farL_snoc (x : Int) (l : List Int) (v : Int) : farL x (l ++ [v]) = farL x l + (if x < v then v - x else x - v) := by
  induction l with
  | nil => simp [farL]
  | cons y l ih => simp only [List.cons_append, farL, ih]; omega
theorem farL_bd (x : Int) (hx0 : 0 ≤ x) (hx1 : x ≤ 16777216) (l : List Int) (h : l.any offI = false) : 0 ≤ farL x l ∧ farL x l ≤ l.length * 16777216 := by
  induction l with
  | nil => simp [farL]
  | cons y l ih =>
    simp only [List.any_cons, Bool.or_eq_false_iff] at h
    obtain ⟨i0, i1⟩ := ih h.2
    have hy : wi y 0 16777216 = true := by have := h.1; unfold offI at this; simpa using this
    obtain ⟨y0, y1⟩ := wi_true.1 hy
    simp only [farL, List.length_cons]
    split <;> omega
theorem any_take {l : List Int} (h : l.any offI = false) (k : Nat) : (l.take k).any offI = false := by
  rw [List.any_eq_false] at h ⊢
  exact fun x hx => h x (List.mem_of_mem_take hx)
def farT (x : Int) (l : List Int) (k : Nat) : Int := farL x (l.take k)
theorem farT_all (x : Int) (l : List Int) (k : Nat) (h : l.length = k) : farT x l k = farL x l := by unfold farT; rw [← h, List.take_length]
theorem farT_step (x : Int) (hx0 : 0 ≤ x) (hx1 : x ≤ 16777216) (l : List Int) (h : l.any offI = false) (k : Nat) (hk : k < l.length) :
    farT x l (k + 1) = farT x l k + (if x < l.getD k 0 then l.getD k 0 - x else x - l.getD k 0) ∧ 0 ≤ l.getD k 0 ∧ l.getD k 0 ≤ 16777216 := by
  unfold farT
  rw [So.take_snoc hk, farL_snoc]
  exact ⟨rfl, vals_of h k hk⟩
theorem farT_bd (x : Int) (hx0 : 0 ≤ x) (hx1 : x ≤ 16777216) (l : List Int) (h : l.any offI = false) (k : Nat) (hk : k ≤ 64) : 0 ≤ farT x l k ∧ farT x l k ≤ 1073741824 := by
  have := farL_bd x hx0 hx1 (l.take k) (any_take h k)
  have hl : (l.take k).length ≤ 64 := by rw [List.length_take]; omega
  unfold farT
  omega

theorem rfar_err (A : Option Addr) (c B n : Nat) (l : List Int) (x : Int) (hn : l.length = n) (e : Int) (he : listE l = e) (hz : e ≠ 0) (hm : n ≤ maxLen) (w : World) (hr : Reads w B 1 A n (cellsI l)) :
    Calls Try.prog 6 #[.slice A n c, .int .i64 x] w fun e' w' => e' = .returned (.tuple #[.int .i64 0, .int .i64 e]) ∧ w = w' := by
  have HN := Lib.hid hn
  have HE := Lib.hid he
  have HR := Lib.hid hr
  clear hn he hr
  go_enter Try.func6, Try.ntmps6
  go_wp2_with fail
  refine (wlist_is _ _ _ l n HN.out _ HE.out hm _ HR.out).mono ?_
  rintro e' w' ⟨rfl, rfl⟩
  go_wp2
  refine bodyPost_ret (v := .tuple #[.int .i64 0, .int .i64 e]) (by simp [results, Try.results6, go_sem]) rfl ⟨rfl, rfl⟩
theorem rfar_arg (A : Option Addr) (c B n : Nat) (l : List Int) (x : Int) (hbad : wi x 0 16777216 = false) (hn : l.length = n) (he : listE l = 0) (hm : n ≤ maxLen) (w : World) (hr : Reads w B 1 A n (cellsI l)) :
    Calls Try.prog 6 #[.slice A n c, .int .i64 x] w fun e' w' => e' = .returned (.tuple #[.int .i64 0, .int .i64 1]) ∧ w = w' := by
  have HN := Lib.hid hn
  have HE := Lib.hid he
  have HR := Lib.hid hr
  have HX := Lib.hid hbad
  clear hn he hr hbad
  go_enter Try.func6, Try.ntmps6
  go_wp2_with fail
  refine (wlist_is _ _ _ l n HN.out _ HE.out hm _ HR.out).mono ?_
  rintro e' w' ⟨rfl, rfl⟩
  go_wp2_with fail
  refine (lval_any _ _).mono ?_
  rw [HX.out]
  rintro e' w' ⟨rfl, rfl⟩
  go_wp2
  refine bodyPost_ret (v := .tuple #[.int .i64 0, .int .i64 1]) (by simp [results, Try.results6, go_sem]) rfl ⟨rfl, rfl⟩

set_option maxHeartbeats 1000000 in
theorem rfar_ok (A : Option Addr) (c B n : Nat) (l : List Int) (x : Int) (hx : wi x 0 16777216 = true) (hn : l.length = n) (he : listE l = 0) (w : World) (hr : Reads w B 1 A n (cellsI l)) :
    Calls Try.prog 6 #[.slice A n c, .int .i64 x] w fun e' w' => e' = .returned (.tuple #[.int .i64 (farL x l), .int .i64 0]) ∧ w = w' := by
  obtain ⟨h64, hoff⟩ := listE_zero he
  rw [hn] at h64
  obtain ⟨hx0, hx1⟩ := wi_true.1 hx
  have HN := Lib.hid hn
  have HE := Lib.hid he
  have HR := Lib.hid hr
  have HX := Lib.hid hx
  have HO := Lib.hid hoff
  clear hn he hr hoff hx
  go_enter Try.func6, Try.ntmps6
  go_wp2_with fail
  refine (wlist_is _ _ _ l n HN.out _ HE.out (by unfold maxLen; omega) _ HR.out).mono ?_
  rintro e' w' ⟨rfl, rfl⟩
  go_wp2_with fail
  refine (lval_any _ _).mono ?_
  rw [HX.out]
  rintro e' w' ⟨rfl, rfl⟩
  go_wp2_with fail
  go_loopw [7, 20] (fun cv kv wr => ∃ k : Nat, k ≤ n ∧ cv = .int .i64 (farT x l k) ∧ kv = .int .i64 (k : Int) ∧ wr = w) (fun _ kv _ => n - (intOf kv).toNat)
  case atStart => exact ⟨0, by omega, by simp [farT, farL], rfl, rfl⟩
  case round =>
    obtain ⟨k, hk, rfl, rfl, rfl⟩ := hrel
    obtain ⟨d0, d1⟩ := farT_bd x hx0 hx1 l HO.out k (by omega)
    by_cases hlt : k < n
    · obtain ⟨b, off, rfl, hb, hcells⟩ := HR.out.addr (by omega)
      have hcell := hcells k _ (cellsI_at l k (by rw [HN.out]; exact hlt))
      obtain ⟨hst, v0, v1⟩ := farT_step x hx0 hx1 l HO.out k (by rw [HN.out]; exact hlt)
      have HB := Lib.hid hb
      obtain ⟨c2, hc2⟩ : ∃ c2, c2 = farT x l (k + 1) := ⟨_, rfl⟩
      rw [← hc2] at hst
      have HC2 := Lib.hid hc2
      have HST := Lib.hid hst
      clear hcells hb hst hc2
      generalize l.getD k 0 = v at *
      generalize farT x l k = c1 at *
      by_cases h1 : x < v
      · have e := HST.out
        rw [if_pos h1] at e
        subst e
        have hmax : max (v - x) (x - v) = v - x := by omega
        go_wp2
        go_roundw
        case rel => exact ⟨k + 1, by omega, by rw [← HC2.out], by simp, by first | rfl | trivial⟩
        case measure => simp [intOf]; omega
      · have e := HST.out
        rw [if_neg h1] at e
        subst e
        have hmax : max (v - x) (x - v) = x - v := by omega
        go_wp2
        go_roundw
        case rel => exact ⟨k + 1, by omega, by rw [← HC2.out], by simp, by first | rfl | trivial⟩
        case measure => simp [intOf]; omega
    · have hkn : k = n := by omega
      subst hkn
      have HL := Lib.hid (farT_all x l k HN.out)
      generalize farT x l k = c1 at *
      go_wp2
      refine bodyPost_ret (v := .tuple #[.int .i64 c1, .int .i64 0]) (by simp [results, Try.results6, go_sem]) rfl ⟨by rw [HL.out], by first | rfl | trivial⟩
end Go.Proofs.Ytignljfeihlanac
