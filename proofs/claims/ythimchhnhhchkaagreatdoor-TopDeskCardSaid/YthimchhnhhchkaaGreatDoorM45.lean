/- The desk: what recovers a fault. -/
import Derived.Test.YthimchhnhhchkaaGreatDoorM41
import Derived.Defers
import Derived.Recover
import Derived.Laws.Pointers
namespace Go.Proofs.YthimchhnhhchkaaGreatDoor
open Go.RowKit Go.Lib
set_option linter.unusedSimpArgs false
set_option linter.unusedVariables false

set_option maxRecDepth 100000 in
theorem catch_idle (p : Addr) (w : World) :
    CallsD Tryz.prog 17 #[.pointer (some p)] .returning w fun e u' w' => e = .returned (.tuple #[]) ∧ u' = .returning ∧ w' = w := by
  refine callsD_of_wpS Tryz.func17 rfl fun c₀ cs hu => ?_
  apply wpS_seq
  apply wpS_region
  simp [wpOpsS, go_sem, recoverD, hu, Tryz.ntmps17, Exit.thenS]
  apply wpS_seq
  apply wpS_region
  simp [wpOpsS, go_sem, recoverD, hu, Exit.thenS]
  refine wpS_cond (t := false) (by simp [Act.eval, Array.replicate]) ?_
  simp only [Bool.false_eq_true, if_false]
  refine wpS_of_wp (wp_skip ?_)
  cases c₀
  simp_all [bodyPostS, results, Tryz.results17]
theorem run_assert_fault (v : Value) (xT : TypeId) (w : World) : (Instr.typeAssert (.iface 55 v) xT 55 true).run Tryz.prog w = .ok (.tuple #[v, .bool true]) w := by
  have h := Tryz.underlying55
  simp [Instr.typeAssert, run_underlying h, go_sem, Result.andThen]
/-- what is said of a fault -/
def errT (k : Nat) : ByteArray := ⟨#[101, 114, 114, 111, 114, 32]⟩ ++ numT k
set_option maxRecDepth 100000 in
theorem catch_panicking (b : Nat) (x : ByteArray) (k : Nat) (hk : k < 100) (w : World) (hb : Blk w b 9 #[.string x]) :
    CallsD Tryz.prog 17 #[.pointer (some ⟨b, 0, none⟩)] (.panicking [{ v := .iface 55 (.agg #[.int .i64 (k : Int)]), recovered := false }]) w fun e u' w' =>
      e = .returned (.tuple #[]) ∧ u' = .panicking [{ v := .iface 55 (.agg #[.int .i64 (k : Int)]), recovered := true }] ∧ Kept (fun i => i = b) w w' ∧ Blk w' b 9 #[.string (errT k)] := by
  refine callsD_of_wpS Tryz.func17 rfl fun c₀ cs hu => ?_
  apply wpS_seq
  apply wpS_region
  simp [wpOpsS, go_sem, recoverD, hu, Tryz.ntmps17, Exit.thenS]
  apply wpS_seq
  apply wpS_region
  simp [wpOpsS, go_sem, recoverD, hu, Exit.thenS]
  refine wpS_cond (t := true) (by simp [Act.eval, Array.replicate]) ?_
  simp only [if_true]
  refine wpS_of_wp ?_
  have hta := fun v w => run_assert_fault v 20 w
  have hlt := hb.lt
  have c0 := hb.cell 0
  have z0 := hb.frozen 0
  simp at c0
  rw [show (Array.replicate 18 undef : Array Value) = #[undef, undef, undef, undef, undef, undef, undef, undef, undef, undef, undef, undef, undef, undef, undef, undef, undef, undef] from rfl]
  have hA := sadd_ok (P := Tryz.prog) ⟨#[101, 114, 114, 111, 114, 32]⟩ (numT k) (by have := numT_size hk; have h6 : (⟨#[101, 114, 114, 111, 114, 32]⟩ : ByteArray).size = 6 := rfl; omega)
  have HW := Lib.hid (fun (W : World) (hW : Below w.heap.size w W) => show Kept (fun i => i = b) w (W.setCell ⟨b, 0, none⟩ (.string (errT k))) ∧ Blk (W.setCell ⟨b, 0, none⟩ (.string (errT k))) b 9 #[.string (errT k)] from
    ⟨Kept.setCell (X := fun i => i = b) (a := ⟨b, 0, none⟩) ((Kept.refl _ w).step hW) (.inl rfl) _, by have := (hb.below hW hb.lt).set_ 0 (.string (errT k)); simpa using this⟩)
  have HB1 := Lib.hid ((Below.refl w.heap.size w).alloc (Nat.le_refl _) (.cells #[.int .i64 (k : Int)] 55))
  have HBk := Lib.hid hb
  clear hb
  go_wp2_with fail
  refine (itoa_small k hk _).mono ?_
  rintro e' w1 ⟨rfl, hw1⟩
  have HB2 := Lib.hid (hw1 ▸ HB1.out)
  have lt1 : b < w1.heap.size := Nat.lt_of_lt_of_le hlt HB2.out.size
  have c1 : w1.cell? ⟨b, 0, none⟩ = some (.string x) := (HB2.out.cell (p := ⟨b, 0, none⟩) hlt).trans c0
  clear hw1 HB1 c0 z0
  have hz1 : w1.frozen? ⟨b, 0, none⟩ = false := (HBk.out.below HB2.out HBk.out.lt).frozen 0
  go_wp2
  simp [bodyPostS, results, Tryz.results17]
  exact HW.out _ HB2.out
end Go.Proofs.YthimchhnhhchkaaGreatDoor
