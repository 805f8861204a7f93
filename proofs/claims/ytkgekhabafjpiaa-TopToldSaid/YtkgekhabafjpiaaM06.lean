/- gate.Check, gate.Take and the reference's Gate and Take. -/
import Derived.Test.YtkgekhabafjpiaaM05
namespace Go.Proofs.Ytkgekhabafjpiaa
open Go.RowKit
set_option linter.unusedSimpArgs false
set_option linter.unusedVariables false

def GateOk (i s d : Int) : Prop := 0 ≤ i ∧ i ≤ 2147483647 ∧ 0 ≤ s ∧ s ≤ 2147483647 ∧ 0 ≤ d ∧ d ≤ 1073741824 ∧ (s = 0 → i = 0)
def BeatNo (inc seq : Int) : Prop := 0 ≤ inc ∧ inc ≤ 2147483647 ∧ 1 ≤ seq ∧ seq ≤ 2147483647
def Newer (i s inc seq : Int) : Prop := i < inc ∨ (inc = i ∧ s < seq)
instance (i s d : Int) : Decidable (GateOk i s d) := by unfold GateOk; infer_instance
instance (i s : Int) : Decidable (BeatNo i s) := by unfold BeatNo; infer_instance
instance (i s a b : Int) : Decidable (Newer i s a b) := by unfold Newer; infer_instance
def gateE (i s d : Int) : Int := if GateOk i s d then 0 else 1

theorem gate_check (i s d : Int) (w : World) :
    Calls Try.prog 51 #[.agg #[.int .i64 i, .int .i64 s, .int .i64 d]] w fun e w' => e = .returned (.int .i64 (gateE i s d)) ∧ Below w.heap.size w w' := by
  go_enter Try.func51, Try.ntmps51
  go_wp2
  all_goals (go_ret; refine ⟨ret_int ?_, (Below.refl _ _).alloc (Nat.le_refl _) _⟩; simp_all [gateE, GateOk] <;> omega)









theorem check_ok (i s d : Int) (h : GateOk i s d) (w : World) :
    Calls Try.prog 51 #[.agg #[.int .i64 i, .int .i64 s, .int .i64 d]] w fun e w' => e = .returned (.int .i64 0) ∧ Below w.heap.size w w' := by
  have := gate_check i s d w
  rwa [gateE, if_pos h] at this
theorem check_bad (i s d : Int) (h : ¬ GateOk i s d) (w : World) :
    Calls Try.prog 51 #[.agg #[.int .i64 i, .int .i64 s, .int .i64 d]] w fun e w' => e = .returned (.int .i64 1) ∧ Below w.heap.size w w' := by
  have := gate_check i s d w
  rwa [gateE, if_neg h] at this









set_option maxHeartbeats 1000000 in
theorem take_badgate (i s d inc seq : Int) (h : ¬ GateOk i s d) (w : World) :
    Calls Try.prog 44 #[.agg #[.int .i64 i, .int .i64 s, .int .i64 d], .int .i64 inc, .int .i64 seq] w fun e w' =>
      e = .returned (.tuple #[.agg #[.int .i64 0, .int .i64 0, .int .i64 0], .bool false, .int .i64 1]) ∧ Below w.heap.size w w' := by
  have H := Lib.hid h
  have E := Lib.hid (((Env.start w).lay #[.int .i64 i, .int .i64 s, .int .i64 d] 49).lay #[.int .i64 0, .int .i64 0, .int .i64 0] 49)
  clear h
  go_enter Try.func44, Try.ntmps44
  go_wp2_with fail
  refine (check_bad _ _ _ H.out _).mono ?_
  rintro e w1 ⟨rfl, hb1⟩
  have E1 := Lib.hid (E.out.below hb1)
  clear hb1
  have p0 := E1.out.hd.lt
  have p1 := E1.out.tl.hd.lt
  have b0 := E1.out.hd.cell 0
  have b1 := E1.out.hd.cell 1
  have b2 := E1.out.hd.cell 2
  have a0 := E1.out.tl.hd.cell 0
  have a1 := E1.out.tl.hd.cell 1
  have a2 := E1.out.tl.hd.cell 2
  have f0 := E1.out.hd.frozen 0
  have f1 := E1.out.hd.frozen 1
  have f2 := E1.out.hd.frozen 2
  have f3 := E1.out.tl.hd.frozen 2
  simp at a0 a1 a2 b0 b1 b2 f0 f1 f2 f3 p0 p1
  go_wp2
  refine bodyPost_ret (v := .tuple #[.agg #[.int .i64 0, .int .i64 0, .int .i64 0], .bool false, .int .i64 1]) (by simp [results, Try.results44, go_sem, b0, b1, b2, a0, a1, a2] <;> omega) rfl ⟨rfl, ?_⟩
  exact ((E1.out.bel.setCell (by simp) _).setCell (by simp) _).setCell (by simp) _

set_option maxHeartbeats 1000000 in
theorem take_badarg (i s d inc seq : Int) (h : GateOk i s d) (hn : ¬ BeatNo inc seq) (w : World) :
    Calls Try.prog 44 #[.agg #[.int .i64 i, .int .i64 s, .int .i64 d], .int .i64 inc, .int .i64 seq] w fun e w' =>
      e = .returned (.tuple #[.agg #[.int .i64 0, .int .i64 0, .int .i64 0], .bool false, .int .i64 1]) ∧ Below w.heap.size w w' := by
  have H := Lib.hid h
  have hn' : inc < 0 ∨ 2147483648 ≤ inc ∨ seq < 1 ∨ 2147483648 ≤ seq := by unfold BeatNo at hn; omega
  have E := Lib.hid (((Env.start w).lay #[.int .i64 i, .int .i64 s, .int .i64 d] 49).lay #[.int .i64 0, .int .i64 0, .int .i64 0] 49)
  clear h hn
  go_enter Try.func44, Try.ntmps44
  go_wp2_with fail
  refine (check_ok _ _ _ H.out _).mono ?_
  rintro e w1 ⟨rfl, hb1⟩
  have E1 := Lib.hid (E.out.below hb1)
  clear hb1
  have p0 := E1.out.hd.lt
  have p1 := E1.out.tl.hd.lt
  have b0 := E1.out.hd.cell 0
  have b1 := E1.out.hd.cell 1
  have b2 := E1.out.hd.cell 2
  have a0 := E1.out.tl.hd.cell 0
  have a1 := E1.out.tl.hd.cell 1
  have a2 := E1.out.tl.hd.cell 2
  have f0 := E1.out.hd.frozen 0
  have f1 := E1.out.hd.frozen 1
  have f2 := E1.out.hd.frozen 2
  have f3 := E1.out.tl.hd.frozen 2
  simp at a0 a1 a2 b0 b1 b2 f0 f1 f2 f3 p0 p1
  go_wp2
  all_goals first
    | (exfalso; omega)
    | (refine bodyPost_ret (v := .tuple #[.agg #[.int .i64 0, .int .i64 0, .int .i64 0], .bool false, .int .i64 1]) (by simp [results, Try.results44, go_sem, b0, b1, b2, a0, a1, a2] <;> omega) rfl ⟨rfl, ?_⟩
       exact ((E1.out.bel.setCell (by simp) _).setCell (by simp) _).setCell (by simp) _)

set_option maxHeartbeats 1000000 in
theorem take_new (i s d inc seq : Int) (h : GateOk i s d) (hn : BeatNo inc seq) (hg : Newer i s inc seq) (w : World) :
    Calls Try.prog 44 #[.agg #[.int .i64 i, .int .i64 s, .int .i64 d], .int .i64 inc, .int .i64 seq] w fun e w' =>
      e = .returned (.tuple #[.agg #[.int .i64 inc, .int .i64 seq, .int .i64 d], .bool true, .int .i64 0]) ∧ Below w.heap.size w w' := by
  have H := Lib.hid h
  obtain ⟨n0, n1, n2, n3⟩ := hn
  unfold Newer at hg
  have E := Lib.hid (((Env.start w).lay #[.int .i64 i, .int .i64 s, .int .i64 d] 49).lay #[.int .i64 0, .int .i64 0, .int .i64 0] 49)
  clear h
  go_enter Try.func44, Try.ntmps44
  go_wp2_with fail
  refine (check_ok _ _ _ H.out _).mono ?_
  rintro e w1 ⟨rfl, hb1⟩
  have E1 := Lib.hid (E.out.below hb1)
  clear hb1
  have p0 := E1.out.hd.lt
  have p1 := E1.out.tl.hd.lt
  have b0 := E1.out.hd.cell 0
  have b1 := E1.out.hd.cell 1
  have b2 := E1.out.hd.cell 2
  have a0 := E1.out.tl.hd.cell 0
  have a1 := E1.out.tl.hd.cell 1
  have a2 := E1.out.tl.hd.cell 2
  have f0 := E1.out.hd.frozen 0
  have f1 := E1.out.hd.frozen 1
  have f2 := E1.out.hd.frozen 2
  have f3 := E1.out.tl.hd.frozen 2
  simp at a0 a1 a2 b0 b1 b2 f0 f1 f2 f3 p0 p1
  go_wp2
  all_goals first
    | (exfalso; omega)
    | (exfalso; simp_all; omega)
    | (refine bodyPost_ret (v := .tuple #[.agg #[.int .i64 inc, .int .i64 seq, .int .i64 d], .bool true, .int .i64 0]) (by simp [results, Try.results44, go_sem, b0, b1, b2, a0, a1, a2] <;> omega) rfl ⟨rfl, ?_⟩
       exact ((E1.out.bel.setCell (by simp) _).setCell (by simp) _).setCell (by simp) _)

set_option maxHeartbeats 1000000 in
theorem take_old (i s d inc seq : Int) (h : GateOk i s d) (hn : BeatNo inc seq) (hg : ¬ Newer i s inc seq) (m : Int) (hm : min (d + 1) 1073741824 = m) (w : World) :
    Calls Try.prog 44 #[.agg #[.int .i64 i, .int .i64 s, .int .i64 d], .int .i64 inc, .int .i64 seq] w fun e w' =>
      e = .returned (.tuple #[.agg #[.int .i64 i, .int .i64 s, .int .i64 m], .bool false, .int .i64 0]) ∧ Below w.heap.size w w' := by
  have H := Lib.hid h
  obtain ⟨n0, n1, n2, n3⟩ := hn
  have hg1 : inc ≤ i := by unfold Newer at hg; omega
  have hg2 : inc < i ∨ seq ≤ s := by unfold Newer at hg; omega
  have hd0 : 0 ≤ d := h.2.2.2.2.1
  have hd1 : d ≤ 1073741824 := h.2.2.2.2.2.1
  have E := Lib.hid (((Env.start w).lay #[.int .i64 i, .int .i64 s, .int .i64 d] 49).lay #[.int .i64 0, .int .i64 0, .int .i64 0] 49)
  clear h hg
  go_enter Try.func44, Try.ntmps44
  go_wp2_with fail
  refine (check_ok _ _ _ H.out _).mono ?_
  rintro e w1 ⟨rfl, hb1⟩
  have E1 := Lib.hid (E.out.below hb1)
  clear hb1
  have p0 := E1.out.hd.lt
  have p1 := E1.out.tl.hd.lt
  have b0 := E1.out.hd.cell 0
  have b1 := E1.out.hd.cell 1
  have b2 := E1.out.hd.cell 2
  have a0 := E1.out.tl.hd.cell 0
  have a1 := E1.out.tl.hd.cell 1
  have a2 := E1.out.tl.hd.cell 2
  have f0 := E1.out.hd.frozen 0
  have f1 := E1.out.hd.frozen 1
  have f2 := E1.out.hd.frozen 2
  have f3 := E1.out.tl.hd.frozen 2
  simp at a0 a1 a2 b0 b1 b2 f0 f1 f2 f3 p0 p1
  go_wp2
  all_goals first
    | (exfalso; omega)
    | (exfalso; simp_all; omega)
    | (refine bodyPost_ret (v := .tuple #[.agg #[.int .i64 i, .int .i64 s, .int .i64 m], .bool false, .int .i64 0]) (by simp [results, Try.results44, go_sem, b0, b1, b2, a0, a1, a2] <;> omega) rfl ⟨rfl, ?_⟩
       exact (((E1.out.bel.setCell (by simp) _).setCell (by simp) _).setCell (by simp) _).setCell (by simp) _)

theorem packed (i s inc seq : Int) (hs0 : 0 ≤ s) (hs1 : s ≤ 2147483647) (h2 : 1 ≤ seq) (h3 : seq ≤ 2147483647) : i * 2147483648 + s < inc * 2147483648 + seq ↔ Newer i s inc seq := by
  unfold Newer; omega





































end Go.Proofs.Ytkgekhabafjpiaa
