/- hist.Check and the reference's Hist, walked. -/
import Derived.Test.YtfenbjffjeidmabHistP
import Derived.Test.YtfenbjffjeidmabWithin
import Derived.Test.YtfenbjffjeidmabRow
namespace Go.Proofs.Ytfenbjffjeidmab
open Go.RowKit
set_option linter.unusedSimpArgs false
set_option linter.unusedVariables false

def histA (l : List Int) : Array Value := (l.map fun n => Value.int .i64 n).toArray
theorem histA_size (l : List Int) : (histA l).size = l.length := by simp [histA]
theorem histA_at (l : List Int) (k : Nat) (h : k < l.length) : (histA l)[k]? = some (.int .i64 (l.getD k 0)) := by simp [histA, List.getD, h]
theorem histA_one (l : List Int) : (histA l).all (·.oneCell') = true := by
  rw [Array.all_eq_true_iff_forall_mem]
  intro v hv
  simp [histA] at hv
  obtain ⟨x, _, rfl⟩ := hv
  rfl
theorem histA_set (l : List Int) (k : Nat) (x : Int) : (histA l).setIfInBounds k (.int .i64 x) = histA (l.set k x) := by
  unfold histA
  rw [List.map_set]
  simp
theorem histA_inj {l m : List Int} (h : histA l = histA m) : l = m := by
  have := congrArg Array.toList h
  simp [histA] at this
  exact (List.map_inj_right (fun a b e => by injection e)).1 this
theorem hist_info : (Try.prog.info? 24).map (fun i => (i.zero, i.size)) = some (some (.agg (histA (List.replicate 26 0))), 26) := by kernel_rfl
theorem hist_arr : (Try.prog.info? 22).map (fun i => (i.zero, i.size)) = some (some (.agg (histA (List.replicate 26 0))), 26) := by kernel_rfl
theorem index26 (cs : Array Value) (k : Nat) (h : k < 26) (x : Int) (hx : cs[k]? = some (.int .i64 x)) (w : World) :
    (Instr.index 22 (.agg cs) (.int .i64 (k : Int))).run Try.prog w = .ok (.int .i64 x) w := by
  have e1 : ∀ w, (sizeOf 3).run Try.prog w = .ok 1 w := fun w => by kernel_rfl
  have e2 : ∀ w, (isAgg 3).run Try.prog w = .ok false w := fun w => by kernel_rfl
  have h' : (k : Int) < 26 := by omega
  simp [Instr.index, asIntOf, Sem.run_bind, run_underlying Try.underlying22, Result.andThen, e1, e2, part, hx, h']
  intro h2; omega
theorem build26 (w : World) : (Instr.build 24 #[]).run Try.prog w = .ok (.agg (histA (List.replicate 26 0))) w := by kernel_rfl
def histE (l : List Int) : Int := if Hi.Ok l then 0 else 1

set_option maxHeartbeats 1000000 in
set_option maxRecDepth 100000 in
theorem hcheck_is (l : List Int) (h26 : l.length = 26) (e : Int) (he : histE l = e) (w : World) :
    Calls Try.prog 8 #[.agg (histA l)] w fun e' w' => e' = .returned (.int .i64 e) ∧ Below w.heap.size w w' := by
  obtain ⟨hz, hi⟩ := zero_of_info hist_info
  obtain ⟨hz2, hi2⟩ := zero_of_info hist_arr
  have HA := Lib.hid (fun k (h : k < 26) => histA_at l k (by omega))
  have hsz : (histA l).size = 26 := by rw [histA_size, h26]
  have HI := Lib.hid (show (Try.prog.info? 24).map (·.size) = some (histA l).size by rw [hsz]; exact hi)
  have HI2 := Lib.hid (show (Try.prog.info? 22).map (·.size) = some (histA l).size by rw [hsz]; exact hi2)
  have HE := Lib.hid he
  have H26 := Lib.hid h26
  have HSZ := Lib.hid hsz
  generalize histA l = cs at *
  have E := Lib.hid ((Env.start w).lay cs 24)
  clear he h26 hi hi2 hz hz2 hsz
  go_enter Try.func8, Try.ntmps8
  go_wp2_with (refine wpList_load_row rfl 22 _ rfl w.heap.size rfl 24 cs (0, 0) _ E.out.hd Try.underlying22 rfl HI2.out ?_)
  go_loop [7] (fun i => ∃ k : Nat, k ≤ 26 ∧ i = .int .i64 k ∧ ∀ j, j < k → 0 ≤ l.getD j 0 ∧ l.getD j 0 ≤ 1073741824) (fun i => 26 - (intOf i).toNat)
  case atStart => exact ⟨0, by omega, rfl, fun j h => by omega⟩
  case round =>
    obtain ⟨k, hk, rfl, hok⟩ := hrel
    have HOK := Lib.hid hok
    clear hok
    by_cases hlt : k < 26
    · have x0 := HA.out k hlt
      have x1 := index26 cs k hlt _ x0
      have HB := Lib.hid (show ¬ (0 ≤ l.getD k 0 ∧ l.getD k 0 ≤ 1073741824) → e = 1 from fun hn => by
        rw [← HE.out, histE, if_neg fun h => hn (h k (by rw [H26.out]; exact hlt))])
      have HN := Lib.hid (show (0 ≤ l.getD k 0 ∧ l.getD k 0 ≤ 1073741824) → ∀ j, j < k + 1 → 0 ≤ l.getD j 0 ∧ l.getD j 0 ≤ 1073741824 from fun hn j hj => by
        rcases Nat.lt_or_ge j k with h | h
        · exact HOK.out j h
        · have : j = k := by omega
          subst this; exact hn)
      generalize l.getD k 0 = x at *
      by_cases hx0 : 0 ≤ x
      · by_cases hx1 : x ≤ 1073741824
        · have HN2 := Lib.hid (HN.out ⟨hx0, hx1⟩)
          go_wp2
          exact ⟨⟨k + 1, hlt, by simp, HN2.out⟩, by simp [intOf]; omega⟩
        · have HR := Lib.hid (HB.out fun h => hx1 h.2)
          go_wp2
          go_ret
          exact ⟨ret_int HR.out.symm, E.out.bel⟩
      · have HR := Lib.hid (HB.out fun h => hx0 h.1)
        go_wp2
        go_ret
        exact ⟨ret_int HR.out.symm, E.out.bel⟩
    · have HR := Lib.hid (show e = 0 by
        rw [← HE.out, histE]; exact if_pos fun j hj => HOK.out j (by have := H26.out; omega))
      go_wp2
      go_ret
      exact ⟨ret_int HR.out.symm, E.out.bel⟩
end Go.Proofs.Ytfenbjffjeidmab
