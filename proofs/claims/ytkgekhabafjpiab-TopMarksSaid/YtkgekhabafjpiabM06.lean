/- gate.Check, gate.Take and the reference's Gate and Take. (with what it needs) -/
import Derived.Test.YtkgekhabafjpiabM05
namespace Go.Proofs.Ytkgekhabafjpiab
open Go.RowKit
set_option linter.unusedSimpArgs false
set_option linter.unusedVariables false

def GateOk (i s d : Int) : Prop := 0 ≤ i ∧ i ≤ 2147483647 ∧ 0 ≤ s ∧ s ≤ 2147483647 ∧ 0 ≤ d ∧ d ≤ 1073741824 ∧ (s = 0 → i = 0)
def BeatNo (inc seq : Int) : Prop := 0 ≤ inc ∧ inc ≤ 2147483647 ∧ 1 ≤ seq ∧ seq ≤ 2147483647
def Newer (i s inc seq : Int) : Prop := i < inc ∨ (inc = i ∧ s < seq)
instance (i s d : Int) : Decidable (GateOk i s d) := by unfold GateOk; infer_instance
instance (i s : Int) : Decidable (BeatNo i s) := by unfold BeatNo; infer_instance
instance (i s a b : Int) : Decidable (Newer i s a b) := by unfold Newer; infer_instance
def gateE (i s d : Int) : Int := if GateOk i s d then 0 else 1

set_option maxRecDepth 100000 in
theorem gate_check (i s d : Int) (w : World) :
    Calls Try.prog 44 #[.agg #[.int .i64 i, .int .i64 s, .int .i64 d]] w fun e w' => e = .returned (.int .i64 (gateE i s d)) ∧ Below w.heap.size w w' := by
  go_enter Try.func44, Try.ntmps44
  go_wp2
  all_goals (go_ret; refine ⟨ret_int ?_, (Below.refl _ _).alloc (Nat.le_refl _) _⟩; simp_all [gateE, GateOk] <;> omega)










theorem check_ok (i s d : Int) (h : GateOk i s d) (w : World) :
    Calls Try.prog 44 #[.agg #[.int .i64 i, .int .i64 s, .int .i64 d]] w fun e w' => e = .returned (.int .i64 0) ∧ Below w.heap.size w w' := by
  have := gate_check i s d w
  rwa [gateE, if_pos h] at this
theorem check_bad (i s d : Int) (h : ¬ GateOk i s d) (w : World) :
    Calls Try.prog 44 #[.agg #[.int .i64 i, .int .i64 s, .int .i64 d]] w fun e w' => e = .returned (.int .i64 1) ∧ Below w.heap.size w w' := by
  have := gate_check i s d w
  rwa [gateE, if_neg h] at this









set_option maxRecDepth 100000 in
set_option maxHeartbeats 1000000 in
theorem take_badgate (i s d inc seq : Int) (h : ¬ GateOk i s d) (w : World) :
    Calls Try.prog 42 #[.agg #[.int .i64 i, .int .i64 s, .int .i64 d], .int .i64 inc, .int .i64 seq] w fun e w' =>
      e = .returned (.tuple #[.agg #[.int .i64 0, .int .i64 0, .int .i64 0], .bool false, .int .i64 1]) ∧ Below w.heap.size w w' := by
  have H := Lib.hid h
  have E := Lib.hid (((Env.start w).lay #[.int .i64 i, .int .i64 s, .int .i64 d] 92).lay #[.int .i64 0, .int .i64 0, .int .i64 0] 92)
  clear h
  go_enter Try.func42, Try.ntmps42
  go_wp2_with fail
  refine (check_bad _ _ _ H.out _).mono ?_
  rintro e w1 ⟨rfl, hb1⟩
  have E1 := Lib.hid (E.out.below hb1)
  clear hb1
  have p0 := E1.out.hd.lt
  have p1 := E1.out.tl.hd.lt
  have b0 := E1.out.hd.cell 0
  have b1 := E1.out.hd.cell 1
  have b2 := E1.out.hd.cell 2
  have a0 := E1.out.tl.hd.cell 0
  have a1 := E1.out.tl.hd.cell 1
  have a2 := E1.out.tl.hd.cell 2
  have f0 := E1.out.hd.frozen 0
  have f1 := E1.out.hd.frozen 1
  have f2 := E1.out.hd.frozen 2
  have f3 := E1.out.tl.hd.frozen 2
  simp at a0 a1 a2 b0 b1 b2 f0 f1 f2 f3 p0 p1
  go_wp2
  refine bodyPost_ret (v := .tuple #[.agg #[.int .i64 0, .int .i64 0, .int .i64 0], .bool false, .int .i64 1]) (by simp [results, Try.results42, go_sem, b0, b1, b2, a0, a1, a2] <;> omega) rfl ⟨rfl, ?_⟩
  exact ((E1.out.bel.setCell (by simp) _).setCell (by simp) _).setCell (by simp) _

set_option maxRecDepth 100000 in
set_option maxHeartbeats 1000000 in
theorem take_badarg (i s d inc seq : Int) (h : GateOk i s d) (hn : ¬ BeatNo inc seq) (w : World) :
    Calls Try.prog 42 #[.agg #[.int .i64 i, .int .i64 s, .int .i64 d], .int .i64 inc, .int .i64 seq] w fun e w' =>
      e = .returned (.tuple #[.agg #[.int .i64 0, .int .i64 0, .int .i64 0], .bool false, .int .i64 1]) ∧ Below w.heap.size w w' := by
  have H := Lib.hid h
  have hn' : inc < 0 ∨ 2147483648 ≤ inc ∨ seq < 1 ∨ 2147483648 ≤ seq := by unfold BeatNo at hn; omega
  have E := Lib.hid (((Env.start w).lay #[.int .i64 i, .int .i64 s, .int .i64 d] 92).lay #[.int .i64 0, .int .i64 0, .int .i64 0] 92)
  clear h hn
  go_enter Try.func42, Try.ntmps42
  go_wp2_with fail
  refine (check_ok _ _ _ H.out _).mono ?_
  rintro e w1 ⟨rfl, hb1⟩
  have E1 := Lib.hid (E.out.below hb1)
  clear hb1
  have p0 := E1.out.hd.lt
  have p1 := E1.out.tl.hd.lt
  have b0 := E1.out.hd.cell 0
  have b1 := E1.out.hd.cell 1
  have b2 := E1.out.hd.cell 2
  have a0 := E1.out.tl.hd.cell 0
  have a1 := E1.out.tl.hd.cell 1
  have a2 := E1.out.tl.hd.cell 2
  have f0 := E1.out.hd.frozen 0
  have f1 := E1.out.hd.frozen 1
  have f2 := E1.out.hd.frozen 2
  have f3 := E1.out.tl.hd.frozen 2
  simp at a0 a1 a2 b0 b1 b2 f0 f1 f2 f3 p0 p1
  go_wp2
  all_goals first
    | (exfalso; omega)
    | (refine bodyPost_ret (v := .tuple #[.agg #[.int .i64 0, .int .i64 0, .int .i64 0], .bool false, .int .i64 1]) (by simp [results, Try.results42, go_sem, b0, b1, b2, a0, a1, a2] <;> omega) rfl ⟨rfl, ?_⟩
       exact ((E1.out.bel.setCell (by simp) _).setCell (by simp) _).setCell (by simp) _)

set_option maxRecDepth 100000 in
set_option maxHeartbeats 1000000 in
theorem take_new (i s d inc seq : Int) (h : GateOk i s d) (hn : BeatNo inc seq) (hg : Newer i s inc seq) (w : World) :
    Calls Try.prog 42 #[.agg #[.int .i64 i, .int .i64 s, .int .i64 d], .int .i64 inc, .int .i64 seq] w fun e w' =>
      e = .returned (.tuple #[.agg #[.int .i64 inc, .int .i64 seq, .int .i64 d], .bool true, .int .i64 0]) ∧ Below w.heap.size w w' := by
  have H := Lib.hid h
  obtain ⟨n0, n1, n2, n3⟩ := hn
  unfold Newer at hg
  have E := Lib.hid (((Env.start w).lay #[.int .i64 i, .int .i64 s, .int .i64 d] 92).lay #[.int .i64 0, .int .i64 0, .int .i64 0] 92)
  clear h
  go_enter Try.func42, Try.ntmps42
  go_wp2_with fail
  refine (check_ok _ _ _ H.out _).mono ?_
  rintro e w1 ⟨rfl, hb1⟩
  have E1 := Lib.hid (E.out.below hb1)
  clear hb1
  have p0 := E1.out.hd.lt
  have p1 := E1.out.tl.hd.lt
  have b0 := E1.out.hd.cell 0
  have b1 := E1.out.hd.cell 1
  have b2 := E1.out.hd.cell 2
  have a0 := E1.out.tl.hd.cell 0
  have a1 := E1.out.tl.hd.cell 1
  have a2 := E1.out.tl.hd.cell 2
  have f0 := E1.out.hd.frozen 0
  have f1 := E1.out.hd.frozen 1
  have f2 := E1.out.hd.frozen 2
  have f3 := E1.out.tl.hd.frozen 2
  simp at a0 a1 a2 b0 b1 b2 f0 f1 f2 f3 p0 p1
  go_wp2
  all_goals first
    | (exfalso; omega)
    | (exfalso; simp_all; omega)
    | (refine bodyPost_ret (v := .tuple #[.agg #[.int .i64 inc, .int .i64 seq, .int .i64 d], .bool true, .int .i64 0]) (by simp [results, Try.results42, go_sem, b0, b1, b2, a0, a1, a2] <;> omega) rfl ⟨rfl, ?_⟩
       exact ((E1.out.bel.setCell (by simp) _).setCell (by simp) _).setCell (by simp) _)

set_option maxRecDepth 100000 in
set_option maxHeartbeats 1000000 in
theorem take_old (i s d inc seq : Int) (h : GateOk i s d) (hn : BeatNo inc seq) (hg : ¬ Newer i s inc seq) (m : Int) (hm : min (d + 1) 1073741824 = m) (w : World) :
    Calls Try.prog 42 #[.agg #[.int .i64 i, .int .i64 s, .int .i64 d], .int .i64 inc, .int .i64 seq] w fun e w' =>
      e = .returned (.tuple #[.agg #[.int .i64 i, .int .i64 s, .int .i64 m], .bool false, .int .i64 0]) ∧ Below w.heap.size w w' := by
  have H := Lib.hid h
  obtain ⟨n0, n1, n2, n3⟩ := hn
  have hg1 : inc ≤ i := by unfold Newer at hg; omega
  have hg2 : inc < i ∨ seq ≤ s := by unfold Newer at hg; omega
  have hd0 : 0 ≤ d := h.2.2.2.2.1
  have hd1 : d ≤ 1073741824 := h.2.2.2.2.2.1
  have E := Lib.hid (((Env.start w).lay #[.int .i64 i, .int .i64 s, .int .i64 d] 92).lay #[.int .i64 0, .int .i64 0, .int .i64 0] 92)
  clear h hg
  go_enter Try.func42, Try.ntmps42
  go_wp2_with fail
  refine (check_ok _ _ _ H.out _).mono ?_
  rintro e w1 ⟨rfl, hb1⟩
  have E1 := Lib.hid (E.out.below hb1)
  clear hb1
  have p0 := E1.out.hd.lt
  have p1 := E1.out.tl.hd.lt
  have b0 := E1.out.hd.cell 0
  have b1 := E1.out.hd.cell 1
  have b2 := E1.out.hd.cell 2
  have a0 := E1.out.tl.hd.cell 0
  have a1 := E1.out.tl.hd.cell 1
  have a2 := E1.out.tl.hd.cell 2
  have f0 := E1.out.hd.frozen 0
  have f1 := E1.out.hd.frozen 1
  have f2 := E1.out.hd.frozen 2
  have f3 := E1.out.tl.hd.frozen 2
  simp at a0 a1 a2 b0 b1 b2 f0 f1 f2 f3 p0 p1
  go_wp2
  all_goals first
    | (exfalso; omega)
    | (exfalso; simp_all; omega)
    | (refine bodyPost_ret (v := .tuple #[.agg #[.int .i64 i, .int .i64 s, .int .i64 m], .bool false, .int .i64 0]) (by simp [results, Try.results42, go_sem, b0, b1, b2, a0, a1, a2] <;> omega) rfl ⟨rfl, ?_⟩
       exact (((E1.out.bel.setCell (by simp) _).setCell (by simp) _).setCell (by simp) _).setCell (by simp) _)

theorem packed (i s inc seq : Int) (hs0 : 0 ≤ s) (hs1 : s ≤ 2147483647) (h2 : 1 ≤ seq) (h3 : seq ≤ 2147483647) : i * 2147483648 + s < inc * 2147483648 + seq ↔ Newer i s inc seq := by
  unfold Newer; omega







































end Go.Proofs.Ytkgekhabafjpiab

namespace Go.Proofs.Ytkgekhabafjpiab
open Go.RowKit
set_option linter.unusedSimpArgs false
set_option linter.unusedVariables false

def offI (c : Int) : Bool := !wi c 0 16777216
def listE (l : List Int) : Int := if 64 < l.length then 2 else if l.any offI then 1 else 0

set_option maxRecDepth 100000 in
theorem lval_any (x : Int) (w : World) :
    Calls Try.prog 31 #[.int .i64 x] w fun e w' => e = .returned (.bool (wi x 0 16777216)) ∧ w = w' := by
  unfold wi
  go_enter Try.func31, Try.ntmps31
  go_wp2
  all_goals (go_ret; simp [*] <;> omega)






set_option maxRecDepth 100000 in
theorem list1_any (c : Int) (w : World) :
    Calls Try.prog 66 #[.int .i64 c] w fun e w' => e = .returned (.bool (offI c)) ∧ w = w' := by
  unfold offI
  go_enter Try.func66, Try.ntmps66
  go_wp2_with (go_at_call 31; refine (lval_any _ _).mono ?_; rintro e w' ⟨rfl, rfl⟩)
  go_ret
  exact ⟨rfl, rfl⟩

set_option maxRecDepth 100000 in
set_option maxHeartbeats 400000 in
theorem idx_ints (A : Option Addr) (c B : Nat) (l : List Int) (hm : l.length ≤ 100000) (w : World) (hr : Reads w B 1 A l.length (cellsI l)) :
    Calls Try.prog 71 #[.slice A l.length c, .func (.func 66) #[] #[]] w (SomeIdxI (l.any offI) w) := by
  generalize hn : l.length = n at *
  have HN := Lib.hid hn
  have HC := Lib.hid hr
  clear hn hr
  by_cases hz : n = 0
  · have HZ := Lib.hid hz
    have hz' : n < 1 := by omega
    clear hz
    go_enter Try.func71, Try.ntmps71
    go_wp2
    go_loop [8] (fun i => i = .int .i64 0) (fun i => 0)
    case atStart => exact rfl
    case round =>
      subst hrel
      go_wp2
      go_ret
      refine ⟨-1, ?_, rfl, rfl⟩
      have : l = [] := List.eq_nil_of_length_eq_zero (by rw [HN.out, HZ.out])
      rw [this]; rfl
  · obtain ⟨b, off, rfl, hb, hcells⟩ := HC.out.addr (by omega)
    have HCC := Lib.hid hcells
    clear hcells hz
    go_enter Try.func71, Try.ntmps71
    go_wp2
    go_loop [5, 8] (fun _ i => ∃ k : Nat, k ≤ n ∧ i = .int .i64 k ∧ (l.take k).any offI = false) (fun _ i => n - (intOf i).toNat)
    case atStart => exact ⟨0, Nat.zero_le _, rfl, rfl⟩
    case round =>
      obtain ⟨k, hk, rfl, hrel⟩ := hrel
      have HR := Lib.hid hrel
      clear hrel
      by_cases hlt : k < n
      · have hcell := HCC.out k _ (cellsI_at l k (by rw [HN.out]; exact hlt))
        have HX := Lib.hid (anyI_step (by rw [HN.out]; exact hlt) HR.out)
        generalize hx : l.getD k 0 = x at *
        clear hx
        go_wp2_with (go_at_call 66; refine (list1_any _ _).mono ?_; rintro e w' ⟨rfl, rfl⟩)
        go_ways
        · rename_i ho
          go_ret
          exact ⟨k, by rw [anyI_take (HX.out.trans ho)]; simp, rfl, rfl⟩
        · rename_i ho
          refine ⟨⟨k + 1, hlt, by simp, HX.out.trans ho⟩, ?_⟩
          simp [intOf]
          omega
      · go_wp2
        go_ret
        refine ⟨-1, ?_, rfl, rfl⟩
        have : l.take k = l := by rw [List.take_of_length_le]; have := HN.out; omega
        have h2 := HR.out
        rw [this] at h2
        rw [h2]
        rfl

set_option maxRecDepth 100000 in
theorem contains_ints (A : Option Addr) (c B : Nat) (l : List Int) (hm : l.length ≤ 100000) (w : World) (hr : Reads w B 1 A l.length (cellsI l)) :
    Calls Try.prog 65 #[.slice A l.length c, .func (.func 66) #[] #[]] w fun e w' => e = .returned (.bool (l.any offI)) ∧ w = w' := by
  have HC := Lib.hid hr
  clear hr
  go_enter Try.func65, Try.ntmps65
  go_wp2_with fail
  refine (idx_ints _ _ _ _ hm _ HC.out).mono ?_
  rintro e w' ⟨k, hk, rfl, rfl⟩
  go_wp2
  go_ret
  first | exact ⟨rfl, rfl⟩ | exact ⟨ret_bool hk, rfl⟩

set_option maxRecDepth 100000 in
theorem wlist_any (A : Option Addr) (c B : Nat) (l : List Int) (hm : l.length ≤ maxLen) (w : World) (hr : Reads w B 1 A l.length (cellsI l)) :
    Calls Try.prog 56 #[.slice A l.length c] w fun e w' => e = .returned (.int .i64 (listE l)) ∧ w = w' := by
  have HC := Lib.hid hr
  clear hr
  unfold listE
  by_cases h : 64 < l.length
  · rw [if_pos h]
    go_enter Try.func56, Try.ntmps56
    go_wp2
    go_ret
    exact ⟨rfl, rfl⟩
  · rw [if_neg h]
    go_enter Try.func56, Try.ntmps56
    go_wp2_with fail
    refine (contains_ints _ _ _ _ (by omega) _ HC.out).mono ?_
    rintro e w' ⟨rfl, rfl⟩
    go_wp2
    all_goals (go_ret; exact ⟨ret_int (by simp [*]), rfl⟩)











































































end Go.Proofs.Ytkgekhabafjpiab

namespace Go.Proofs.Ytkgekhabafjpiab
open Go.RowKit
set_option linter.unusedSimpArgs false
set_option linter.unusedVariables false

theorem vals_of {l : List Int} (h : l.any offI = false) (j : Nat) (hj : j < l.length) : 0 ≤ l.getD j 0 ∧ l.getD j 0 ≤ 16777216 := by
  have h1 : offI (l.getD j 0) = false := by
    rw [List.any_eq_false] at h
    have := h (l.getD j 0) (by simp [List.getD, List.getElem?_eq_getElem hj])
    simpa using this
  unfold offI at h1
  exact wi_true.1 (by simpa using h1)
theorem listE_zero {l : List Int} (h : listE l = 0) : l.length ≤ 64 ∧ l.any offI = false := by
  unfold listE at h
  split at h
  · simp at h
  · split at h
    · simp at h
    · rename_i h1 h2; exact ⟨by omega, by simpa using h2⟩
theorem wlist_is (A : Option Addr) (c B : Nat) (l : List Int) (n : Nat) (hn : l.length = n) (e : Int) (h : listE l = e) (hm : n ≤ maxLen) (w : World) (hr : Reads w B 1 A n (cellsI l)) :
    Calls Try.prog 56 #[.slice A n c] w fun e' w' => e' = .returned (.int .i64 e) ∧ w = w' := by
  subst hn h; exact wlist_any A c B l hm w hr

end Go.Proofs.Ytkgekhabafjpiab

namespace Go.Proofs.Ytkgekhabafjpiab
open Go.RowKit
set_option linter.unusedSimpArgs false
set_option linter.unusedVariables false

def SumsArg (n s q : Int) : Prop := 0 ≤ n ∧ n ≤ 64 ∧ 0 ≤ s ∧ s ≤ n * 16777216 ∧ s ≤ q ∧ q ≤ s * 16777216
instance (n s q : Int) : Decidable (SumsArg n s q) := by unfold SumsArg; infer_instance
def sumsE (n s q : Int) : Int := if SumsArg n s q then (if n * q < s * s then 9 else 0) else 1

theorem SumsArg.bounds {n s q : Int} (h : SumsArg n s q) : s ≤ 1073741824 ∧ q ≤ 18014398509481984 ∧ 0 ≤ n * q ∧ n * q ≤ 1152921504606846976 ∧ 0 ≤ s * s ∧ s * s ≤ 1152921504606846976 := by
  obtain ⟨h0, h1, h2, h3, h4, h5⟩ := h
  have hs : s ≤ 1073741824 := by omega
  have hq : q ≤ 18014398509481984 := by omega
  have hq0 : 0 ≤ q := by omega
  refine ⟨hs, hq, Int.mul_nonneg h0 hq0, ?_, Int.mul_nonneg h2 h2, ?_⟩
  · have := Int.mul_le_mul h1 hq hq0 (by omega : (0 : Int) ≤ 64)
    omega
  · have := Int.mul_le_mul hs hs h2 (by omega : (0 : Int) ≤ 1073741824)
    omega

set_option maxRecDepth 100000 in
theorem wval_any (x : Int) (w : World) :
    Calls Try.prog 31 #[.int .i64 x] w fun e w' => e = .returned (.bool (wi x 0 16777216)) ∧ w = w' := by
  unfold wi
  go_enter Try.func31, Try.ntmps31
  go_wp2
  all_goals (go_ret; simp [*] <;> omega)







set_option maxRecDepth 100000 in
set_option maxHeartbeats 1000000 in
theorem stat_check_bad (n s q : Int) (h : ¬ SumsArg n s q) (w : World) :
    Calls Try.prog 69 #[.agg #[.int .i64 n, .int .i64 s, .int .i64 q]] w fun e w' => e = .returned (.int .i64 1) ∧ Below w.heap.size w w' := by
  have h' : n < 0 ∨ 64 < n ∨ s < 0 ∨ q < 0 ∨ n * 16777216 < s ∨ s * 16777216 < q ∨ q < s := by unfold SumsArg at h; omega
  clear h
  go_enter Try.func69, Try.ntmps69
  go_wp2
  all_goals first
    | (exfalso; omega)
    | (go_ret; exact ⟨rfl, (Below.refl _ _).alloc (Nat.le_refl _) _⟩)

set_option maxRecDepth 100000 in
set_option maxHeartbeats 1000000 in
theorem stat_check_good (n s q : Int) (h : SumsArg n s q) (w : World) :
    Calls Try.prog 69 #[.agg #[.int .i64 n, .int .i64 s, .int .i64 q]] w fun e w' => e = .returned (.int .i64 (if n * q < s * s then 9 else 0)) ∧ Below w.heap.size w w' := by
  obtain ⟨b1, b2, b3, b4, b5, b6⟩ := h.bounds
  obtain ⟨h0, h1, h2, h3, h4, h5⟩ := h
  go_enter Try.func69, Try.ntmps69
  go_wp2
  all_goals first
    | (exfalso; omega)
    | (go_ret; exact ⟨ret_int (by simp [*] <;> omega), (Below.refl _ _).alloc (Nat.le_refl _) _⟩)

theorem stat_check (n s q : Int) (w : World) :
    Calls Try.prog 69 #[.agg #[.int .i64 n, .int .i64 s, .int .i64 q]] w fun e w' => e = .returned (.int .i64 (sumsE n s q)) ∧ Below w.heap.size w w' := by
  unfold sumsE
  by_cases h : SumsArg n s q
  · rw [if_pos h]; exact stat_check_good n s q h w
  · rw [if_neg h]; exact stat_check_bad n s q h w

theorem sumsE_zero {n s q : Int} (h : sumsE n s q = 0) : SumsArg n s q ∧ ¬ n * q < s * s := by
  unfold sumsE at h
  split at h
  · split at h
    · simp at h
    · exact ⟨by assumption, by assumption⟩
  · simp at h
theorem check_is (n s q e : Int) (h : sumsE n s q = e) (w : World) :
    Calls Try.prog 69 #[.agg #[.int .i64 n, .int .i64 s, .int .i64 q]] w fun e' w' => e' = .returned (.int .i64 e) ∧ Below w.heap.size w w' := by
  subst h; exact stat_check n s q w
theorem wval_d (x : Int) (b : Bool) (h : wi x 0 16777216 = b) (w : World) :
    Calls Try.prog 31 #[.int .i64 x] w fun e w' => e = .returned (.bool b) ∧ w = w' := by
  subst h; exact wval_any x w



theorem sq_bounds {v : Int} (h : wi v 0 16777216 = true) : 0 ≤ v ∧ v ≤ 16777216 ∧ 0 ≤ v * v ∧ v * v ≤ 281474976710656 := by
  obtain ⟨h0, h1⟩ := wi_true.1 h
  refine ⟨h0, h1, Int.mul_nonneg h0 h0, ?_⟩
  have := Int.mul_le_mul h1 h1 h0 (by omega : (0 : Int) ≤ 16777216)
  omega
end Go.Proofs.Ytkgekhabafjpiab
