/- The reference's Sorted, walked. -/
import Derived.Test.YtmgkkbmcdnhdeaeSortP
import Derived.Test.YtmgkkbmcdnhdeaeRow
import Derived.OwnWalk
import Derived.Deep.DeepCutAuto
namespace Go.Proofs.Ytmgkkbmcdnhdeae
open Go.RowKit
set_option linter.unusedSimpArgs false
set_option linter.unusedVariables false

theorem int_info_s : (Try.prog.info? 3).map (fun i => (i.zero, i.size, i.bytes)) = some (some (.int .i64 0), 1, 8) := by kernel_rfl
theorem madeInts (n : Nat) : (madeCells #[Value.int .i64 0] n).toList = cellsI (List.replicate n 0) := by
  simp only [madeCells, cellsI, List.map_replicate]
  apply List.ext_getElem <;> simp [Nat.mod_one]
theorem blk_of_own {w : World} {base : Nat} {e : TypeId} {g n : Nat} {xs : List Value} (h : w.ownsRow base e 1 (.slice (some ⟨g, 0, none⟩) n n) n xs) : Blk w g e xs.toArray ∧ base ≤ g := by
  rcases h.2 with ⟨h1, _⟩ | ⟨g', cap, cur, hv, hb, hg, hnc, hm, hs, hx⟩
  · cases h1
  · injection hv with h1 h2 h3
    injection h1 with h1
    injection h1 with h1
    subst h1 h3
    have : cur.toList.length = n * 1 := by rw [Array.length_toList]; exact hs
    rw [List.take_of_length_le (by omega)] at hx
    subst hx
    exact ⟨hg, hb⟩
theorem cells_set (os : List Int) (r : Nat) (x : Int) : (cellsI os).toArray.setIfInBounds r (.int .i64 x) = (cellsI (os.set r x)).toArray := by
  simp [cellsI, List.map_set]
theorem Blk.cell_at {W : World} {g o : Nat} {t : TypeId} {cs : Array Value} {v : Value} (h : Blk W g t cs) (h2 : cs[o]? = some v) : W.cell? ⟨g, o, none⟩ = some v := (h.cell o).trans h2
theorem reads_blk {w : World} {g n : Nat} {e : TypeId} {T : List Int} (h : Blk w g e (cellsI T).toArray) (hn : T.length = n) : Reads w w.heap.size 1 (some ⟨g, 0, none⟩) n (cellsI T) :=
  ⟨by simp [cellsI, hn], fun _ => ⟨_, rfl, h.lt, fun j u hu => by
    have := h.cell_at (v := u) (o := j) (by simpa using hu)
    show w.cell? (Addr.add ⟨g, 0, none⟩ j) = some u
    unfold Addr.add
    split
    · rename_i h0; rw [h0] at this; exact this
    · simpa using this⟩⟩































































































































end Go.Proofs.Ytmgkkbmcdnhdeae
