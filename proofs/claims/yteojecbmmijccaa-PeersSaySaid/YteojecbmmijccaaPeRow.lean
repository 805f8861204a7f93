/- Peers in a row of the call's own, changed cell by cell. -/
import Derived.Test.YteojecbmmijccaaPeSame
import Derived.Test.YteojecbmmijccaaPush
namespace Go.Proofs.Yteojecbmmijccaa
open Go.RowKit Go.Lib
set_option linter.unusedSimpArgs false
set_option linter.unusedVariables false

theorem cellsP_set : ∀ (l : List PeerT) (k j : Nat) (v : Value) (p' : PeerT) (h : k < l.length), j < 7 → (pcells (l[k]'h)).set j v = pcells p' → (cellsP l).set (k * 7 + j) v = cellsP (l.set k p')
  | [], k, j, v, p', h, _, _ => by simp at h
  | p :: l, 0, j, v, p', _, hj, hp => by
    simp only [cellsP, List.set_cons_zero]
    rw [Nat.zero_mul, Nat.zero_add, List.set_append_left _ _ (by rw [pcells_len]; exact hj)]
    rw [← hp]
    rfl
  | p :: l, k + 1, j, v, p', h, hj, hp => by
    simp only [cellsP, List.set_cons_succ]
    rw [List.set_append_right _ _ (by rw [pcells_len]; omega), pcells_len, show (k + 1) * 7 + j - 7 = k * 7 + j by omega, cellsP_set l k j v p' (by simpa using h) hj (by simpa using hp)]
def RowP (w : World) (g cap n : Nat) (l : List PeerT) : Prop := l.length = n ∧ n ≤ cap ∧ cap ≤ maxLen ∧ ∃ cur, Blk w g 34 cur ∧ cur.size = cap * 7 ∧ cur.toList.take (n * 7) = cellsP l
section
variable {w w' : World} {g cap n H : Nat} {l : List PeerT}
theorem RowP.of_own {A : Option Addr} {c : Nat} (h : w.ownsRow H 34 7 (.slice A n c) n (cellsP l)) (hn : 0 < n) (hl : l.length = n) : ∃ g, A = some ⟨g, 0, none⟩ ∧ H ≤ g ∧ g < w.heap.size ∧ RowP w g c n l := by
  rcases h.2 with ⟨_, h0⟩ | ⟨g, cap, cur, hv, hbg, hg, hnc, hmc, hsz, hx⟩
  · omega
  · injection hv with h1 h2 h3
    subst h1 h3
    exact ⟨g, rfl, hbg, (Array.getElem?_eq_some_iff.1 hg).1, hl, hnc, hmc, cur, hg, hsz, hx⟩
theorem RowP.blk (h : RowP w g cap n l) : ∃ cur, Blk w g 34 cur := by
  obtain ⟨h0, h1, h2, cur, h3, h4, h5⟩ := h
  exact ⟨cur, h3⟩
theorem RowP.lt (h : RowP w g cap n l) : g < w.heap.size := by
  obtain ⟨cur, hc⟩ := h.blk
  exact hc.lt
theorem RowP.frozen (h : RowP w g cap n l) (j : Nat) : w.frozen? ⟨g, j, none⟩ = false := by
  obtain ⟨cur, hc⟩ := h.blk
  exact hc.frozen j
theorem RowP.cells (h : RowP w g cap n l) (k : Nat) (hk : k < l.length) : PeerC w g (k * 7) (l[k]'hk) := by
  obtain ⟨h0, h1, h2, cur, h3, h4, h5⟩ := h
  have at' : ∀ j v, j < 7 → (pcells (l[k]'hk))[j]? = some v → w.cell? ⟨g, k * 7 + j, none⟩ = some v := fun j v hj hv => by
    rw [h3.cell, ← hv, ← cellsP_at l k j hk hj, ← h5, List.getElem?_take, if_pos (by omega)]
    simp
  exact ⟨at' 0 _ (by decide) rfl, at' 1 _ (by decide) rfl, at' 2 _ (by decide) rfl, at' 3 _ (by decide) rfl, at' 4 _ (by decide) rfl, at' 5 _ (by decide) rfl, at' 6 _ (by decide) rfl⟩
theorem RowP.set_ (h : RowP w g cap n l) (k j : Nat) (v : Value) (p' : PeerT) (hk : k < l.length) (hj : j < 7) (hp : (pcells (l[k]'hk)).set j v = pcells p') : RowP (w.setCell ⟨g, k * 7 + j, none⟩ v) g cap n (l.set k p') := by
  obtain ⟨h0, h1, h2, cur, h3, h4, h5⟩ := h
  exact ⟨by simpa using h0, h1, h2, _, h3.set_ (k * 7 + j) v, by simpa using h4, by rw [← cellsP_set l k j v p' hk hj hp, ← h5, Array.toList_setIfInBounds, List.take_set]⟩
theorem RowP.below (h : RowP w g cap n l) {B : Nat} (hb : Below B w w') (hg : g < B) : RowP w' g cap n l := by
  obtain ⟨h0, h1, h2, cur, h3, h4, h5⟩ := h
  exact ⟨h0, h1, h2, cur, h3.below hb hg, h4, h5⟩
theorem RowP.reads (h : RowP w g cap n l) : Reads w w.heap.size 7 (some ⟨g, 0, none⟩) n (cellsP l) := by
  have hlt := h.lt
  obtain ⟨h0, h1, h2, cur, h3, h4, h5⟩ := h
  refine ⟨by rw [cellsP_len, h0], fun hn => ⟨_, rfl, hlt, fun j u hu => ?_⟩⟩
  have hadd : (⟨g, 0, none⟩ : Addr).add j = ⟨g, j, none⟩ := by unfold Addr.add; split <;> simp_all
  have hj : j < n * 7 := by
    have := (List.getElem?_eq_some_iff.1 hu).1
    rw [cellsP_len, h0] at this
    exact this
  rw [hadd, h3.cell, ← hu, ← h5, List.getElem?_take, if_pos hj]
  simp
theorem ValsOwn.ok (h : ValsOwn H w l) (hid : ∀ p ∈ l, (pid p).size ≤ maxLen) : ∀ p ∈ l, PeerOk w w.heap.size p := fun p hp => by
  have hr := h p hp
  have hc := ownsRow_cap hr
  exact ⟨Reads.of_own hr, hc.1, hc.2, hid p hp⟩
theorem ValsOwn.upd (h : ValsOwn H w l) {k : Nat} {p' : PeerT} (hp : w.ownsRow H 3 1 (psl p') (pvals p').length (cellsI (pvals p'))) : ValsOwn H w (l.set k p') := fun q hq => by
  rcases List.mem_or_eq_of_mem_set hq with hq | rfl
  · exact h q hq
  · exact hp
end
theorem Below.al5 {w W : World} {o : Obj} (h : Below w.heap.size w W) : Below w.heap.size w (W.alloc o) := h.alloc h.size _
theorem Below.thru5 {w X W : World} (h : Below w.heap.size w X) (h2 : Below X.heap.size X W) : Below w.heap.size w W := h.trans (h2.mono h.size)
/-- the blocks in which peers lie -/
def PBlk (A : Option Addr) (l : List PeerT) (P : Nat → Prop) : Prop := (0 < l.length → ∀ a, A = some a → P a.block) ∧ ∀ p ∈ l, 0 < (pvals p).length → ∀ a, p.2.1 = some a → P a.block
/-- peers that are new, or lie where others lay -/
def KeepsP (w : World) (A0 : Option Addr) (l0 : List PeerT) (A : Option Addr) (l : List PeerT) : Prop := ∀ P : Nat → Prop, (∀ k, w.heap.size ≤ k → P k) → PBlk A0 l0 P → PBlk A l P
theorem keeps_own {w w' : World} {g : Nat} {l l0 : List PeerT} {A0 : Option Addr} (hg : w.heap.size ≤ g) (hv : ValsOwn w.heap.size w' l) : KeepsP w A0 l0 (some ⟨g, 0, none⟩) l := fun P hP _ =>
  ⟨fun _ a ha => by cases ha; exact hP _ hg, fun p hp _ a ha => hP _ ((hv p hp).lt a.block (by simp only [psl, ha, Value.ownBlock])).1⟩
theorem keeps_set {w : World} {g k : Nat} {l : List PeerT} {A0 : Option Addr} {p' : PeerT} (hg : w.heap.size ≤ g) (hp : 0 < (pvals p').length → ∀ a, p'.2.1 = some a → w.heap.size ≤ a.block ∨ ∃ q ∈ l, 0 < (pvals q).length ∧ q.2.1 = some a) : KeepsP w A0 l (some ⟨g, 0, none⟩) (l.set k p') := fun P hP h0 =>
  ⟨fun _ a ha => by cases ha; exact hP _ hg, fun p hpm hl a ha => by
    rcases List.mem_or_eq_of_mem_set hpm with h | rfl
    · exact h0.2 p h hl a ha
    · rcases hp hl a ha with h | ⟨q, hq, hql, hqa⟩
      · exact hP _ h
      · exact h0.2 q hq hql a hqa⟩
/-- a value pushed into a window -/
def pushV (cap : Int) (l : List Int) (x : Int) : List Int := if (l.length : Int) < cap then l ++ [x] else l.tail ++ [x]
def PushedIs (cap : Int) (l : List Int) (w : World) (e : Ending) (w' : World) : Prop :=
  ∃ A c, e = .returned (.tuple #[.agg #[.int .i64 cap, .slice A l.length c], .int .i64 0]) ∧ w'.ownsRow w.heap.size 3 1 (.slice A l.length c) l.length (cellsI l) ∧ Below w.heap.size w w'




























end Go.Proofs.Yteojecbmmijccaa
