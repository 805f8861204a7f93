/- What a call leaves as it was, but for some blocks; triples in a row of the call's own. -/
import Derived.Test.YtkgekhabafjpiabM35
namespace Go.Proofs.Ytkgekhabafjpiab
open Go.RowKit Go.Lib
set_option linter.unusedSimpArgs false
set_option linter.unusedVariables false

/-- but for the blocks X the world is as it was -/
structure Kept (X : Nat → Prop) (w w' : World) : Prop where
  os : w'.os = w.os
  tape : w'.tape = w.tape
  output : w'.output = w.output
  size : w.heap.size ≤ w'.heap.size
  block : ∀ k, k < w.heap.size → ¬ X k → w'.heap[k]? = w.heap[k]?
section
variable {X Y : Nat → Prop} {w w1 w2 : World}
theorem Kept.refl (X : Nat → Prop) (w : World) : Kept X w w := ⟨rfl, rfl, rfl, Nat.le_refl _, fun _ _ _ => rfl⟩
theorem Kept.trans (h : Kept X w w1) (k : Kept X w1 w2) : Kept X w w2 :=
  ⟨k.os.trans h.os, k.tape.trans h.tape, k.output.trans h.output, Nat.le_trans h.size k.size, fun i hi hx => (k.block i (Nat.lt_of_lt_of_le hi h.size) hx).trans (h.block i hi hx)⟩
/-- what the second changes is the first's, or new -/
theorem Kept.then (h : Kept X w w1) (k : Kept Y w1 w2) (hy : ∀ i, Y i → X i ∨ w.heap.size ≤ i) : Kept X w w2 :=
  ⟨k.os.trans h.os, k.tape.trans h.tape, k.output.trans h.output, Nat.le_trans h.size k.size, fun i hi hx => (k.block i (Nat.lt_of_lt_of_le hi h.size) (fun hyi => (hy i hyi).elim hx (fun hge => by omega))).trans (h.block i hi hx)⟩
theorem Kept.mono (h : Kept X w w1) (hx : ∀ i, X i → Y i ∨ w.heap.size ≤ i) : Kept Y w w1 :=
  ⟨h.os, h.tape, h.output, h.size, fun i hi hy => h.block i hi (fun hxi => (hx i hxi).elim hy (fun hge => by omega))⟩
theorem Kept.of_below (h : Below w.heap.size w w1) : Kept X w w1 := ⟨h.os, h.tape, h.output, h.size, fun i hi _ => h.block i hi⟩
theorem Kept.step (h : Kept X w w1) (k : Below w1.heap.size w1 w2) : Kept X w w2 := h.trans (.of_below k)
theorem Kept.drew (h : Kept X w w1) : Kept X w w1.drew := ⟨h.os, h.tape, h.output, h.size, h.block⟩
theorem Kept.alloc (h : Kept X w w1) (o : Obj) : Kept X w (w1.alloc o) := h.step ((Below.refl _ _).alloc (Nat.le_refl _) o)
theorem Kept.setCell (h : Kept X w w1) {a : Addr} (ha : X a.block ∨ w.heap.size ≤ a.block) (u : Value) : Kept X w (w1.setCell a u) :=
  ⟨h.os, h.tape, h.output, Nat.le_trans h.size (by simp [World.setCell]), fun i hi hx => (Below.heap_setCell w1 a u i (fun e => by rcases ha with ha | ha; exact hx (e ▸ ha); omega)).trans (h.block i hi hx)⟩
theorem Kept.grown {r : Option Nat} (h : Kept X w w1) (hg : w1.grownBy w2 r) (hr : ∀ k, r = some k → X k ∨ w.heap.size ≤ k) : Kept X w w2 :=
  ⟨hg.os.trans h.os, hg.tape.trans h.tape, hg.output.trans h.output, Nat.le_trans h.size hg.size, fun i hi hx => (hg.block i (Nat.lt_of_lt_of_le hi h.size) (fun e => (hr i e.symm).elim hx (fun hge => by omega))).trans (h.block i hi hx)⟩
theorem Kept.blk {g : Nat} {t : TypeId} {cs : Array Value} (h : Kept X w w1) (hb : Blk w g t cs) (hx : ¬ X g) : Blk w1 g t cs := (h.block g hb.lt hx).trans hb
theorem Kept.below {B : Nat} (h : Kept X w w1) (hx : ∀ k, X k → B ≤ k) (hB : B ≤ w.heap.size) : Below B w w1 :=
  ⟨h.os, h.tape, h.output, h.size, fun k hk => h.block k (by omega) (fun hxk => by have := hx k hxk; omega)⟩
theorem Kept.cell {a : Addr} {u : Value} (h : Kept X w w1) (hc : w.cell? a = some u) (hx : ¬ X a.block) : w1.cell? a = some u := by
  have hb := World.block_lt_of_cell? w a hc
  rw [World.cell?_of_block (w := w) (h.block a.block hb hx)]
  exact hc
theorem Kept.reads {B size n : Nat} {A : Option Addr} {xs : List Value} (h : Kept X w w1) (hr : Reads w B size A n xs) (hx : 0 < n → ∀ a, A = some a → ¬ X a.block) : Reads w1 B size A n xs :=
  ⟨hr.1, fun hn => by
    obtain ⟨ad, e, hb, hc⟩ := hr.2 hn
    exact ⟨ad, e, hb, fun j u hu => h.cell (hc j u hu) (by rw [block_of_add]; exact hx hn ad e)⟩⟩
theorem Kept.own {base : Nat} {e : TypeId} {size n : Nat} {v : Value} {xs : List Value} (h : Kept X w w1) (ho : w.ownsRow base e size v n xs) (hx : ∀ k, v.ownBlock = some k → ¬ X k) : w1.ownsRow base e size v n xs := by
  refine ⟨ho.1, ?_⟩
  rcases ho.2 with hn | ⟨g, cap, cur, rfl, hb, hg, rest⟩
  · exact .inl hn
  · exact .inr ⟨g, cap, cur, rfl, hb, (h.block g (Array.getElem?_eq_some_iff.1 hg).1 (hx g rfl)).trans hg, rest⟩
theorem Kept.peers {A : Option Addr} {n B : Nat} {l : List PeerT} (h : Kept X w w1) (hp : Peers w B A n l) (hx : PBlk A l (fun k => ¬ X k)) : Peers w1 B A n l :=
  ⟨hp.1, h.reads hp.2.1 (fun hn => hx.1 (by rw [hp.1]; exact hn)), fun p hm => by
    obtain ⟨h1, h2⟩ := hp.2.2 p hm
    exact ⟨h.reads h1 (hx.2 p hm), h2⟩⟩
end
theorem PBlk.mono {A : Option Addr} {l : List PeerT} {P Q : Nat → Prop} (h : PBlk A l P) (hpq : ∀ k, P k → Q k) : PBlk A l Q :=
  ⟨fun hl a ha => hpq _ (h.1 hl a ha), fun p hp hl a ha => hpq _ (h.2 p hp hl a ha)⟩
theorem PBlk.and {A : Option Addr} {l : List PeerT} {P Q : Nat → Prop} (h : PBlk A l P) (h' : PBlk A l Q) : PBlk A l (fun k => P k ∧ Q k) :=
  ⟨fun hl a ha => ⟨h.1 hl a ha, h'.1 hl a ha⟩, fun p hp hl a ha => ⟨h.2 p hp hl a ha, h'.2 p hp hl a ha⟩⟩
theorem Peers.blk {w : World} {A : Option Addr} {n B : Nat} {l : List PeerT} (hp : Peers w B A n l) : PBlk A l (fun k => k < B) :=
  ⟨fun hl a ha => by
    obtain ⟨ad, e, hb, _⟩ := hp.2.1.2 (by rw [← hp.1]; exact hl)
    rw [ha] at e
    injection e with e
    rw [e]
    exact hb, fun p hm hl a ha => by
    obtain ⟨ad, e, hb, _⟩ := (hp.2.2 p hm).1.2 hl
    rw [ha] at e
    injection e with e
    rw [e]
    exact hb⟩

/-! ### rows of triples: a name, a number, a mark -/
abbrev TriD := ByteArray × Int × Bool
def tcells (s : TriD) : List Value := [.string s.1, .int .i64 s.2.1, .bool s.2.2]
def cells3 : List TriD → List Value
  | [] => []
  | p :: l => tcells p ++ cells3 l
theorem tcells_len (p : TriD) : (tcells p).length = 3 := rfl
theorem cells3_len : ∀ l : List TriD, (cells3 l).length = l.length * 3
  | [] => rfl
  | p :: l => by simp only [cells3, List.length_append, tcells_len, List.length_cons, cells3_len l]; omega
theorem cells3_app (l m : List TriD) : cells3 (l ++ m) = cells3 l ++ cells3 m := by
  induction l with
  | nil => rfl
  | cons x l ih => simp [cells3, ih]
theorem cells3_at : ∀ (l : List TriD) (k j : Nat) (h : k < l.length), j < 3 → (cells3 l)[k * 3 + j]? = (tcells (l[k]'h))[j]?
  | [], k, j, h, _ => by simp at h
  | p :: l, 0, j, _, hj => by
    rw [Nat.zero_mul, Nat.zero_add]
    simp only [cells3]
    rw [List.getElem?_append_left (by rw [tcells_len]; exact hj)]
    rfl
  | p :: l, k + 1, j, h, hj => by
    simp only [cells3]
    rw [List.getElem?_append_right (by rw [tcells_len]; omega), tcells_len, show (k + 1) * 3 + j - 3 = k * 3 + j by omega, cells3_at l k j (by simpa using h) hj]
    rfl
theorem oneCell_t (p : TriD) : ∀ u ∈ tcells p, u.oneCell' = true := by
  intro u hu
  simp only [tcells, List.mem_cons, List.not_mem_nil, or_false] at hu
  rcases hu with rfl | rfl | rfl <;> rfl
theorem oneCell_3 (l : List TriD) : ∀ u ∈ cells3 l, u.oneCell' = true := by
  induction l with
  | nil => intro u hu; cases hu
  | cons p l ih =>
    intro u hu
    rcases List.mem_append.1 hu with hu | hu
    · exact oneCell_t p u hu
    · exact ih u hu
theorem cells3_take : ∀ (l : List TriD) (i : Nat), (cells3 l).take (i * 3) = cells3 (l.take i)
  | [], i => by simp [cells3]
  | p :: l, 0 => by simp [cells3]
  | p :: l, i + 1 => by
    simp only [cells3, List.take_succ_cons]
    rw [List.take_append, tcells_len, List.take_of_length_le (by rw [tcells_len]; omega), show (i + 1) * 3 - 3 = i * 3 by omega, cells3_take l i]
theorem cells3_drop : ∀ (l : List TriD) (i : Nat), (cells3 l).drop (i * 3) = cells3 (l.drop i)
  | [], i => by simp [cells3]
  | p :: l, 0 => by simp [cells3]
  | p :: l, i + 1 => by
    simp only [cells3, List.drop_succ_cons]
    rw [List.drop_append, tcells_len, List.drop_of_length_le (by rw [tcells_len]; omega), show (i + 1) * 3 - 3 = i * 3 by omega, cells3_drop l i]
    rfl
theorem cells3_set : ∀ (l : List TriD) (k j : Nat) (v : Value) (p' : TriD) (h : k < l.length), j < 3 → (tcells (l[k]'h)).set j v = tcells p' → (cells3 l).set (k * 3 + j) v = cells3 (l.set k p')
  | [], k, j, v, p', h, _, _ => by simp at h
  | p :: l, 0, j, v, p', _, hj, hp => by
    simp only [cells3, List.set_cons_zero]
    rw [Nat.zero_mul, Nat.zero_add, List.set_append_left _ _ (by rw [tcells_len]; exact hj)]
    rw [← hp]
    rfl
  | p :: l, k + 1, j, v, p', h, hj, hp => by
    simp only [cells3, List.set_cons_succ]
    rw [List.set_append_right _ _ (by rw [tcells_len]; omega), tcells_len, show (k + 1) * 3 + j - 3 = k * 3 + j by omega, cells3_set l k j v p' (by simpa using h) hj (by simpa using hp)]
/-- the three cells of one -/
def TriC (w : World) (b off : Nat) (p : TriD) : Prop :=
  w.cell? ⟨b, off, none⟩ = some (.string p.1) ∧ w.cell? ⟨b, off + 1, none⟩ = some (.int .i64 p.2.1) ∧ w.cell? ⟨b, off + 2, none⟩ = some (.bool p.2.2)
/-- a row of triples known whole -/
def Row3 (t : TypeId) (w : World) (g cap n : Nat) (l : List TriD) : Prop := l.length = n ∧ n ≤ cap ∧ cap ≤ maxLen ∧ ∃ cur, Blk w g t cur ∧ cur.size = cap * 3 ∧ cur.toList.take (n * 3) = cells3 l
section
variable {t : TypeId} {w w' : World} {g cap n base : Nat} {l : List TriD}
theorem Row3.of_own {v : Value} (h : w.ownsRow base t 3 v n (cells3 l)) (hn : 0 < n) : ∃ g cap, v = .slice (some ⟨g, 0, none⟩) n cap ∧ base ≤ g ∧ Row3 t w g cap n l := by
  have hl : l.length = n := by have := h.1; rw [cells3_len] at this; omega
  rcases h.2 with ⟨_, h0⟩ | ⟨g, cap, cur, hv, hbg, hg, hnc, hmc, hsz, hx⟩
  · omega
  · exact ⟨g, cap, hv, hbg, hl, hnc, hmc, cur, hg, hsz, hx⟩
theorem Row3.own (h : Row3 t w g cap n l) (hb : base ≤ g) : w.ownsRow base t 3 (.slice (some ⟨g, 0, none⟩) n cap) n (cells3 l) := by
  obtain ⟨h0, h1, h2, cur, h3, h4, h5⟩ := h
  exact ⟨by rw [cells3_len, h0], .inr ⟨g, cap, cur, rfl, hb, h3, h1, h2, h4, h5⟩⟩
theorem Row3.blk (h : Row3 t w g cap n l) : ∃ cur, Blk w g t cur := by
  obtain ⟨h0, h1, h2, cur, h3, h4, h5⟩ := h
  exact ⟨cur, h3⟩
theorem Row3.lt (h : Row3 t w g cap n l) : g < w.heap.size := by
  obtain ⟨cur, hc⟩ := h.blk
  exact hc.lt
theorem Row3.frozen (h : Row3 t w g cap n l) (j : Nat) : w.frozen? ⟨g, j, none⟩ = false := by
  obtain ⟨cur, hc⟩ := h.blk
  exact hc.frozen j
theorem Row3.cells (h : Row3 t w g cap n l) (k : Nat) (hk : k < l.length) : TriC w g (k * 3) (l[k]'hk) := by
  obtain ⟨h0, h1, h2, cur, h3, h4, h5⟩ := h
  have at' : ∀ j v, j < 3 → (tcells (l[k]'hk))[j]? = some v → w.cell? ⟨g, k * 3 + j, none⟩ = some v := fun j v hj hv => by
    rw [h3.cell, ← hv, ← cells3_at l k j hk hj, ← h5, List.getElem?_take, if_pos (by omega)]
    simp
  exact ⟨at' 0 _ (by decide) rfl, at' 1 _ (by decide) rfl, at' 2 _ (by decide) rfl⟩
theorem Row3.set2 (h : Row3 t w g cap n l) (k : Nat) (b : Bool) (hk : k < l.length) : Row3 t (w.setCell ⟨g, k * 3 + 2, none⟩ (.bool b)) g cap n (l.set k ((l[k]'hk).1, (l[k]'hk).2.1, b)) := by
  obtain ⟨h0, h1, h2, cur, h3, h4, h5⟩ := h
  exact ⟨by simpa using h0, h1, h2, _, h3.set_ (k * 3 + 2) (.bool b), by simpa using h4, by rw [← cells3_set l k 2 (.bool b) _ hk (by decide) rfl, ← h5, Array.toList_setIfInBounds, List.take_set]⟩
theorem Row3.kept {X : Nat → Prop} (h : Row3 t w g cap n l) (hk : Kept X w w') (hx : ¬ X g) : Row3 t w' g cap n l := by
  obtain ⟨h0, h1, h2, cur, h3, h4, h5⟩ := h
  exact ⟨h0, h1, h2, cur, hk.blk h3 hx, h4, h5⟩
theorem Row3.below (h : Row3 t w g cap n l) {B : Nat} (hb : Below B w w') (hg : g < B) : Row3 t w' g cap n l := by
  obtain ⟨h0, h1, h2, cur, h3, h4, h5⟩ := h
  exact ⟨h0, h1, h2, cur, h3.below hb hg, h4, h5⟩
end
end Go.Proofs.Ytkgekhabafjpiab
