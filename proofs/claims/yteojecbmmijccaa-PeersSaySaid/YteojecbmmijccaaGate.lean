/- gate.Check, gate.Take and the reference's Gate and Take. -/
import Derived.Test.YteojecbmmijccaaWithin
namespace Go.Proofs.Yteojecbmmijccaa
open Go.RowKit
set_option linter.unusedSimpArgs false
set_option linter.unusedVariables false

def GateOk (i s d : Int) : Prop := 0 ≤ i ∧ i ≤ 2147483647 ∧ 0 ≤ s ∧ s ≤ 2147483647 ∧ 0 ≤ d ∧ d ≤ 1073741824 ∧ (s = 0 → i = 0)
def BeatNo (inc seq : Int) : Prop := 0 ≤ inc ∧ inc ≤ 2147483647 ∧ 1 ≤ seq ∧ seq ≤ 2147483647
def Newer (i s inc seq : Int) : Prop := i < inc ∨ (inc = i ∧ s < seq)
instance (i s d : Int) : Decidable (GateOk i s d) := by unfold GateOk; infer_instance
instance (i s : Int) : Decidable (BeatNo i s) := by unfold BeatNo; infer_instance
instance (i s a b : Int) : Decidable (Newer i s a b) := by unfold Newer; infer_instance
def gateE (i s d : Int) : Int := if GateOk i s d then 0 else 1

theorem gate_check (i s d : Int) (w : World) :
    Calls Try.prog 21 #[.agg #[.int .i64 i, .int .i64 s, .int .i64 d]] w fun e w' => e = .returned (.int .i64 (gateE i s d)) ∧ Below w.heap.size w w' := by
  go_enter Try.func21, Try.ntmps21
  go_wp2
  all_goals (go_ret; refine ⟨ret_int ?_, (Below.refl _ _).alloc (Nat.le_refl _) _⟩; simp_all [gateE, GateOk] <;> omega)

set_option maxHeartbeats 400000 in
theorem rgate_any (i s d : Int) (w : World) :
    Calls Try.prog 18 #[.agg #[.int .i64 i, .int .i64 s, .int .i64 d]] w fun e w' => e = .returned (.int .i64 (gateE i s d)) ∧ Below w.heap.size w w' := by
  go_enter Try.func18, Try.ntmps18
  go_wp2_with (go_at_call 23; refine (within_any _ _ _ _).mono ?_; rintro e w' ⟨rfl, rfl⟩)
  go_ways
  all_goals (go_ret; refine ⟨ret_int ?_, (Below.refl _ _).alloc (Nat.le_refl _) _⟩; simp_all [gateE, GateOk, wi_true, wi_false] <;> omega)

theorem check_ok (i s d : Int) (h : GateOk i s d) (w : World) :
    Calls Try.prog 21 #[.agg #[.int .i64 i, .int .i64 s, .int .i64 d]] w fun e w' => e = .returned (.int .i64 0) ∧ Below w.heap.size w w' := by
  have := gate_check i s d w
  rwa [gateE, if_pos h] at this
theorem check_bad (i s d : Int) (h : ¬ GateOk i s d) (w : World) :
    Calls Try.prog 21 #[.agg #[.int .i64 i, .int .i64 s, .int .i64 d]] w fun e w' => e = .returned (.int .i64 1) ∧ Below w.heap.size w w' := by
  have := gate_check i s d w
  rwa [gateE, if_neg h] at this
theorem rgate_ok (i s d : Int) (h : GateOk i s d) (w : World) :
    Calls Try.prog 18 #[.agg #[.int .i64 i, .int .i64 s, .int .i64 d]] w fun e w' => e = .returned (.int .i64 0) ∧ Below w.heap.size w w' := by
  have := rgate_any i s d w
  rwa [gateE, if_pos h] at this
theorem rgate_bad (i s d : Int) (h : ¬ GateOk i s d) (w : World) :
    Calls Try.prog 18 #[.agg #[.int .i64 i, .int .i64 s, .int .i64 d]] w fun e w' => e = .returned (.int .i64 1) ∧ Below w.heap.size w w' := by
  have := rgate_any i s d w
  rwa [gateE, if_neg h] at this









































































































































theorem packed (i s inc seq : Int) (hs0 : 0 ≤ s) (hs1 : s ≤ 2147483647) (h2 : 1 ≤ seq) (h3 : seq ≤ 2147483647) : i * 2147483648 + s < inc * 2147483648 + seq ↔ Newer i s inc seq := by
  unfold Newer; omega





































end Go.Proofs.Yteojecbmmijccaa
