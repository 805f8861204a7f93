/- slices.Sort over ints by the shelf; slices.Sorted of slices.Values, walked. -/
import Derived.Test.YtmgkkbmcdnhdeaeSeq
import Derived.Test.YtmgkkbmcdnhdeaeShelf
import Derived.Lib.SlKeysI
namespace Go.Proofs.Ytmgkkbmcdnhdeae
open Go.RowKit Go.Shelf Go.Sort
set_option linter.unusedSimpArgs false
set_option linter.unusedVariables false

theorem mergeSort_is (l : List Int) : So.IsSort l (l.mergeSort fun x y => decide (x ≤ y)) := by
  refine ⟨?_, List.mergeSort_perm _ _⟩
  have := List.pairwise_mergeSort (le := fun x y : Int => decide (x ≤ y)) (fun a b c => by simp; omega) (fun a b => by simp; omega) l
  exact this.imp (by simp)

theorem ssort_some (blk off cap n : Nat) (zs T : List Int) (hT : So.IsSort zs T) (hn : zs.length = n) (w : World) (hH : Holds encZ w blk off zs.toArray) (hblk : blk < w.heap.size) (hsz : n ≤ 1000000) :
    Calls Try.prog 28 #[.slice (some ⟨blk, off, none⟩) n cap] w fun e w' =>
      e = .returned (.tuple #[]) ∧ ∃ k os, w' = grow (putRow encZ (Sort.ahead w k) blk off T.toArray) os := by
  subst hn
  have e := So.uniq (mergeSort_is zs) hT
  rw [← e]
  exact Go.Proofs.Try.slices_Sort_int blk off cap zs w hH hblk (by omega)
theorem ssort_none (p : Option Addr) (cap : Nat) (w : World) :
    Calls Try.prog 28 #[.slice p 0 cap] w fun e w' => e = .returned (.tuple #[]) ∧ w' = w :=
  Go.Proofs.Try.slices_Sort_int_none p cap w

def SortedIs (T : List Int) (n : Nat) (w : World) (e : Ending) (w' : World) : Prop := ∃ A' c', e = .returned (.slice A' n c') ∧ w'.ownsRow w.heap.size 3 1 (.slice A' n c') n (cellsI T) ∧ Below w.heap.size w w'

set_option maxRecDepth 100000 in
set_option maxHeartbeats 2000000 in
theorem sorted_vals (Bs n₀ len cap : Nat) (A : Option Addr) (zs T : List Int) (hT : So.IsSort zs T) (hz : zs.length = len) (hm : len ≤ 1000000) (w : World) (hBs : Bs < w.heap.size) (hn₀ : n₀ ≤ w.heap.size)
    (hc : w.cell? ⟨Bs, 0, none⟩ = some (.slice A len cap)) (hI : Reads w n₀ 1 A len (cellsI zs)) :
    Calls Try.prog 15 #[.func (.func 29) #[] #[.pointer (some ⟨Bs, 0, none⟩)]] w (SortedIs T len w) := by
  refine (callsIn_wide (n := 6)).1 ?_
  have h1 : 1 ≤ 6 := by omega
  have hro : Fence.wide.round = none := rfl
  have HT := Lib.hid hT
  have CO := Lib.hid (collect_vals Fence.wide 5 trivial trivial trivial rfl (by omega) Bs n₀ len cap A zs hz hm _ hBs hn₀ hc hI)
  clear hT hI hc
  refine callsIn_of_wp Try.func15 rfl trivial ?_ hro
  simp only [Try.ntmps15, List.size_toArray, List.length_cons, List.length_nil, Nat.reduceAdd, Nat.reduceSub, Array.replicate_succ, Array.replicate_zero, List.push_toArray, List.append_toArray, List.nil_append, List.cons_append]
  have hf1 : Fence.wide.fn 27 := trivial
  have hf2 : Fence.wide.fn 28 := trivial
  gi_wp2_with (gi_at_call 27; refine CO.out.mono ?_; rintro e W ⟨v, rfl, hrow, hb⟩)
  rcases hrow.2 with ⟨rfl, h0⟩ | ⟨gb, gcap, cur, rfl, hbase, hgb, r1, r2, r3, r4⟩
  · have hz0 : len = 0 := by omega
    subst hz0
    have hzs : zs = [] := List.eq_nil_of_length_eq_zero hz
    subst hzs
    have hT0 : T = [] := List.eq_nil_of_length_eq_zero (by rw [HT.out.2.length_eq]; rfl)
    subst hT0
    gi_wp2_with (gi_at_call 28; refine ((callsIn_wide (n := 5)).2 (ssort_none none 0 W)).mono ?_; rintro e w' ⟨rfl, rfl⟩)
    go_ret
    exact ⟨none, 0, rfl, by simpa using hrow, hb⟩
  · have hH : Holds encZ W gb 0 zs.toArray := holds_of_block_i hgb (by simpa [cellsI] using r4)
    have hgl : gb < W.heap.size := (Array.getElem?_eq_some_iff.1 hgb).1
    have HS := Lib.hid (ssort_some gb 0 gcap len zs T HT.out hz W hH hgl hm)
    have HO := Lib.hid (show ∀ k os, (grow (putRow encZ (Sort.ahead W k) gb 0 T.toArray) os).ownsRow w.heap.size 3 1 (.slice (some ⟨gb, 0, none⟩) len gcap) len (cellsI T) from fun k os => by
      have := ownsRow_sorted_i (n := k) (os := os) (ss := zs) (ts := T) (by rw [HT.out.2.length_eq]) hbase hgb r1 r2 r3
      rw [hz] at this
      exact this)
    have HB := Lib.hid (show ∀ k os, Below w.heap.size w (grow (putRow encZ (Sort.ahead W k) gb 0 T.toArray) os) from fun k os => hb.grown (grownBy_sorted_i _) hb.size (fun j hj => by cases hj; exact hbase))
    subst hz
    clear hrow r1 r2 r3 r4 hgb hH
    gi_wp2_with (gi_at_call 28; refine ((callsIn_wide (n := 5)).2 HS.out).mono ?_; rintro e w' ⟨rfl, nn, os, rfl⟩)
    go_ret
    exact ⟨_, _, rfl, HO.out _ _, HB.out _ _⟩
end Go.Proofs.Ytmgkkbmcdnhdeae
