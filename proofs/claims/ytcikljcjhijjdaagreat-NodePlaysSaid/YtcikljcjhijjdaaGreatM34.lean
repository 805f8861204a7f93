/- What a call leaves as it was, but for some blocks; triples in a row of the call's own. (with what it needs) -/
import Derived.Test.YtcikljcjhijjdaaGreatM33
import Derived.Test.YtcikljcjhijjdaaGreatM08
namespace Go.Proofs.YtcikljcjhijjdaaGreat
open Go.RowKit Go.Lib
set_option linter.unusedSimpArgs false
set_option linter.unusedVariables false

/-- but for the blocks X the world is as it was -/
structure Kept (X : Nat → Prop) (w w' : World) : Prop where
  os : w'.os = w.os
  tape : w'.tape = w.tape
  output : w'.output = w.output
  size : w.heap.size ≤ w'.heap.size
  block : ∀ k, k < w.heap.size → ¬ X k → w'.heap[k]? = w.heap[k]?
section
variable {X Y : Nat → Prop} {w w1 w2 : World}
theorem Kept.refl (X : Nat → Prop) (w : World) : Kept X w w := ⟨rfl, rfl, rfl, Nat.le_refl _, fun _ _ _ => rfl⟩
theorem Kept.trans (h : Kept X w w1) (k : Kept X w1 w2) : Kept X w w2 :=
  ⟨k.os.trans h.os, k.tape.trans h.tape, k.output.trans h.output, Nat.le_trans h.size k.size, fun i hi hx => (k.block i (Nat.lt_of_lt_of_le hi h.size) hx).trans (h.block i hi hx)⟩
/-- what the second changes is the first's, or new -/
theorem Kept.then (h : Kept X w w1) (k : Kept Y w1 w2) (hy : ∀ i, Y i → X i ∨ w.heap.size ≤ i) : Kept X w w2 :=
  ⟨k.os.trans h.os, k.tape.trans h.tape, k.output.trans h.output, Nat.le_trans h.size k.size, fun i hi hx => (k.block i (Nat.lt_of_lt_of_le hi h.size) (fun hyi => (hy i hyi).elim hx (fun hge => by omega))).trans (h.block i hi hx)⟩
theorem Kept.mono (h : Kept X w w1) (hx : ∀ i, X i → Y i ∨ w.heap.size ≤ i) : Kept Y w w1 :=
  ⟨h.os, h.tape, h.output, h.size, fun i hi hy => h.block i hi (fun hxi => (hx i hxi).elim hy (fun hge => by omega))⟩
theorem Kept.of_below (h : Below w.heap.size w w1) : Kept X w w1 := ⟨h.os, h.tape, h.output, h.size, fun i hi _ => h.block i hi⟩
theorem Kept.step (h : Kept X w w1) (k : Below w1.heap.size w1 w2) : Kept X w w2 := h.trans (.of_below k)
theorem Kept.drew (h : Kept X w w1) : Kept X w w1.drew := ⟨h.os, h.tape, h.output, h.size, h.block⟩
theorem Kept.alloc (h : Kept X w w1) (o : Obj) : Kept X w (w1.alloc o) := h.step ((Below.refl _ _).alloc (Nat.le_refl _) o)
theorem Kept.setCell (h : Kept X w w1) {a : Addr} (ha : X a.block ∨ w.heap.size ≤ a.block) (u : Value) : Kept X w (w1.setCell a u) :=
  ⟨h.os, h.tape, h.output, Nat.le_trans h.size (by simp [World.setCell]), fun i hi hx => (Below.heap_setCell w1 a u i (fun e => by rcases ha with ha | ha; exact hx (e ▸ ha); omega)).trans (h.block i hi hx)⟩
theorem Kept.grown {r : Option Nat} (h : Kept X w w1) (hg : w1.grownBy w2 r) (hr : ∀ k, r = some k → X k ∨ w.heap.size ≤ k) : Kept X w w2 :=
  ⟨hg.os.trans h.os, hg.tape.trans h.tape, hg.output.trans h.output, Nat.le_trans h.size hg.size, fun i hi hx => (hg.block i (Nat.lt_of_lt_of_le hi h.size) (fun e => (hr i e.symm).elim hx (fun hge => by omega))).trans (h.block i hi hx)⟩
theorem Kept.blk {g : Nat} {t : TypeId} {cs : Array Value} (h : Kept X w w1) (hb : Blk w g t cs) (hx : ¬ X g) : Blk w1 g t cs := (h.block g hb.lt hx).trans hb
theorem Kept.below {B : Nat} (h : Kept X w w1) (hx : ∀ k, X k → B ≤ k) (hB : B ≤ w.heap.size) : Below B w w1 :=
  ⟨h.os, h.tape, h.output, h.size, fun k hk => h.block k (by omega) (fun hxk => by have := hx k hxk; omega)⟩
theorem Kept.cell {a : Addr} {u : Value} (h : Kept X w w1) (hc : w.cell? a = some u) (hx : ¬ X a.block) : w1.cell? a = some u := by
  have hb := World.block_lt_of_cell? w a hc
  rw [World.cell?_of_block (w := w) (h.block a.block hb hx)]
  exact hc
theorem Kept.reads {B size n : Nat} {A : Option Addr} {xs : List Value} (h : Kept X w w1) (hr : Reads w B size A n xs) (hx : 0 < n → ∀ a, A = some a → ¬ X a.block) : Reads w1 B size A n xs :=
  ⟨hr.1, fun hn => by
    obtain ⟨ad, e, hb, hc⟩ := hr.2 hn
    exact ⟨ad, e, hb, fun j u hu => h.cell (hc j u hu) (by rw [block_of_add]; exact hx hn ad e)⟩⟩
theorem Kept.own {base : Nat} {e : TypeId} {size n : Nat} {v : Value} {xs : List Value} (h : Kept X w w1) (ho : w.ownsRow base e size v n xs) (hx : ∀ k, v.ownBlock = some k → ¬ X k) : w1.ownsRow base e size v n xs := by
  refine ⟨ho.1, ?_⟩
  rcases ho.2 with hn | ⟨g, cap, cur, rfl, hb, hg, rest⟩
  · exact .inl hn
  · exact .inr ⟨g, cap, cur, rfl, hb, (h.block g (Array.getElem?_eq_some_iff.1 hg).1 (hx g rfl)).trans hg, rest⟩
theorem Kept.peers {A : Option Addr} {n B : Nat} {l : List PeerT} (h : Kept X w w1) (hp : Peers w B A n l) (hx : PBlk A l (fun k => ¬ X k)) : Peers w1 B A n l :=
  ⟨hp.1, h.reads hp.2.1 (fun hn => hx.1 (by rw [hp.1]; exact hn)), fun p hm => by
    obtain ⟨h1, h2⟩ := hp.2.2 p hm
    exact ⟨h.reads h1 (hx.2 p hm), h2⟩⟩
end
theorem PBlk.mono {A : Option Addr} {l : List PeerT} {P Q : Nat → Prop} (h : PBlk A l P) (hpq : ∀ k, P k → Q k) : PBlk A l Q :=
  ⟨fun hl a ha => hpq _ (h.1 hl a ha), fun p hp hl a ha => hpq _ (h.2 p hp hl a ha)⟩
theorem PBlk.and {A : Option Addr} {l : List PeerT} {P Q : Nat → Prop} (h : PBlk A l P) (h' : PBlk A l Q) : PBlk A l (fun k => P k ∧ Q k) :=
  ⟨fun hl a ha => ⟨h.1 hl a ha, h'.1 hl a ha⟩, fun p hp hl a ha => ⟨h.2 p hp hl a ha, h'.2 p hp hl a ha⟩⟩
theorem Peers.blk {w : World} {A : Option Addr} {n B : Nat} {l : List PeerT} (hp : Peers w B A n l) : PBlk A l (fun k => k < B) :=
  ⟨fun hl a ha => by
    obtain ⟨ad, e, hb, _⟩ := hp.2.1.2 (by rw [← hp.1]; exact hl)
    rw [ha] at e
    injection e with e
    rw [e]
    exact hb, fun p hm hl a ha => by
    obtain ⟨ad, e, hb, _⟩ := (hp.2.2 p hm).1.2 hl
    rw [ha] at e
    injection e with e
    rw [e]
    exact hb⟩

/-! ### rows of triples: a name, a number, a mark -/
abbrev TriD := ByteArray × Int × Bool
def tcells (s : TriD) : List Value := [.string s.1, .int .i64 s.2.1, .bool s.2.2]
def cells3 : List TriD → List Value
  | [] => []
  | p :: l => tcells p ++ cells3 l
theorem tcells_len (p : TriD) : (tcells p).length = 3 := rfl
theorem cells3_len : ∀ l : List TriD, (cells3 l).length = l.length * 3
  | [] => rfl
  | p :: l => by simp only [cells3, List.length_append, tcells_len, List.length_cons, cells3_len l]; omega
theorem cells3_app (l m : List TriD) : cells3 (l ++ m) = cells3 l ++ cells3 m := by
  induction l with
  | nil => rfl
  | cons x l ih => simp [cells3, ih]
theorem cells3_at : ∀ (l : List TriD) (k j : Nat) (h : k < l.length), j < 3 → (cells3 l)[k * 3 + j]? = (tcells (l[k]'h))[j]?
  | [], k, j, h, _ => by simp at h
  | p :: l, 0, j, _, hj => by
    rw [Nat.zero_mul, Nat.zero_add]
    simp only [cells3]
    rw [List.getElem?_append_left (by rw [tcells_len]; exact hj)]
    rfl
  | p :: l, k + 1, j, h, hj => by
    simp only [cells3]
    rw [List.getElem?_append_right (by rw [tcells_len]; omega), tcells_len, show (k + 1) * 3 + j - 3 = k * 3 + j by omega, cells3_at l k j (by simpa using h) hj]
    rfl
theorem oneCell_t (p : TriD) : ∀ u ∈ tcells p, u.oneCell' = true := by
  intro u hu
  simp only [tcells, List.mem_cons, List.not_mem_nil, or_false] at hu
  rcases hu with rfl | rfl | rfl <;> rfl
theorem oneCell_3 (l : List TriD) : ∀ u ∈ cells3 l, u.oneCell' = true := by
  induction l with
  | nil => intro u hu; cases hu
  | cons p l ih =>
    intro u hu
    rcases List.mem_append.1 hu with hu | hu
    · exact oneCell_t p u hu
    · exact ih u hu
theorem cells3_take : ∀ (l : List TriD) (i : Nat), (cells3 l).take (i * 3) = cells3 (l.take i)
  | [], i => by simp [cells3]
  | p :: l, 0 => by simp [cells3]
  | p :: l, i + 1 => by
    simp only [cells3, List.take_succ_cons]
    rw [List.take_append, tcells_len, List.take_of_length_le (by rw [tcells_len]; omega), show (i + 1) * 3 - 3 = i * 3 by omega, cells3_take l i]
theorem cells3_drop : ∀ (l : List TriD) (i : Nat), (cells3 l).drop (i * 3) = cells3 (l.drop i)
  | [], i => by simp [cells3]
  | p :: l, 0 => by simp [cells3]
  | p :: l, i + 1 => by
    simp only [cells3, List.drop_succ_cons]
    rw [List.drop_append, tcells_len, List.drop_of_length_le (by rw [tcells_len]; omega), show (i + 1) * 3 - 3 = i * 3 by omega, cells3_drop l i]
    rfl
theorem cells3_set : ∀ (l : List TriD) (k j : Nat) (v : Value) (p' : TriD) (h : k < l.length), j < 3 → (tcells (l[k]'h)).set j v = tcells p' → (cells3 l).set (k * 3 + j) v = cells3 (l.set k p')
  | [], k, j, v, p', h, _, _ => by simp at h
  | p :: l, 0, j, v, p', _, hj, hp => by
    simp only [cells3, List.set_cons_zero]
    rw [Nat.zero_mul, Nat.zero_add, List.set_append_left _ _ (by rw [tcells_len]; exact hj)]
    rw [← hp]
    rfl
  | p :: l, k + 1, j, v, p', h, hj, hp => by
    simp only [cells3, List.set_cons_succ]
    rw [List.set_append_right _ _ (by rw [tcells_len]; omega), tcells_len, show (k + 1) * 3 + j - 3 = k * 3 + j by omega, cells3_set l k j v p' (by simpa using h) hj (by simpa using hp)]
/-- the three cells of one -/
def TriC (w : World) (b off : Nat) (p : TriD) : Prop :=
  w.cell? ⟨b, off, none⟩ = some (.string p.1) ∧ w.cell? ⟨b, off + 1, none⟩ = some (.int .i64 p.2.1) ∧ w.cell? ⟨b, off + 2, none⟩ = some (.bool p.2.2)
/-- a row of triples known whole -/
def Row3 (t : TypeId) (w : World) (g cap n : Nat) (l : List TriD) : Prop := l.length = n ∧ n ≤ cap ∧ cap ≤ maxLen ∧ ∃ cur, Blk w g t cur ∧ cur.size = cap * 3 ∧ cur.toList.take (n * 3) = cells3 l
section
variable {t : TypeId} {w w' : World} {g cap n base : Nat} {l : List TriD}
theorem Row3.of_own {v : Value} (h : w.ownsRow base t 3 v n (cells3 l)) (hn : 0 < n) : ∃ g cap, v = .slice (some ⟨g, 0, none⟩) n cap ∧ base ≤ g ∧ Row3 t w g cap n l := by
  have hl : l.length = n := by have := h.1; rw [cells3_len] at this; omega
  rcases h.2 with ⟨_, h0⟩ | ⟨g, cap, cur, hv, hbg, hg, hnc, hmc, hsz, hx⟩
  · omega
  · exact ⟨g, cap, hv, hbg, hl, hnc, hmc, cur, hg, hsz, hx⟩
theorem Row3.own (h : Row3 t w g cap n l) (hb : base ≤ g) : w.ownsRow base t 3 (.slice (some ⟨g, 0, none⟩) n cap) n (cells3 l) := by
  obtain ⟨h0, h1, h2, cur, h3, h4, h5⟩ := h
  exact ⟨by rw [cells3_len, h0], .inr ⟨g, cap, cur, rfl, hb, h3, h1, h2, h4, h5⟩⟩
theorem Row3.blk (h : Row3 t w g cap n l) : ∃ cur, Blk w g t cur := by
  obtain ⟨h0, h1, h2, cur, h3, h4, h5⟩ := h
  exact ⟨cur, h3⟩
theorem Row3.lt (h : Row3 t w g cap n l) : g < w.heap.size := by
  obtain ⟨cur, hc⟩ := h.blk
  exact hc.lt
theorem Row3.frozen (h : Row3 t w g cap n l) (j : Nat) : w.frozen? ⟨g, j, none⟩ = false := by
  obtain ⟨cur, hc⟩ := h.blk
  exact hc.frozen j
theorem Row3.cells (h : Row3 t w g cap n l) (k : Nat) (hk : k < l.length) : TriC w g (k * 3) (l[k]'hk) := by
  obtain ⟨h0, h1, h2, cur, h3, h4, h5⟩ := h
  have at' : ∀ j v, j < 3 → (tcells (l[k]'hk))[j]? = some v → w.cell? ⟨g, k * 3 + j, none⟩ = some v := fun j v hj hv => by
    rw [h3.cell, ← hv, ← cells3_at l k j hk hj, ← h5, List.getElem?_take, if_pos (by omega)]
    simp
  exact ⟨at' 0 _ (by decide) rfl, at' 1 _ (by decide) rfl, at' 2 _ (by decide) rfl⟩
theorem Row3.set2 (h : Row3 t w g cap n l) (k : Nat) (b : Bool) (hk : k < l.length) : Row3 t (w.setCell ⟨g, k * 3 + 2, none⟩ (.bool b)) g cap n (l.set k ((l[k]'hk).1, (l[k]'hk).2.1, b)) := by
  obtain ⟨h0, h1, h2, cur, h3, h4, h5⟩ := h
  exact ⟨by simpa using h0, h1, h2, _, h3.set_ (k * 3 + 2) (.bool b), by simpa using h4, by rw [← cells3_set l k 2 (.bool b) _ hk (by decide) rfl, ← h5, Array.toList_setIfInBounds, List.take_set]⟩
theorem Row3.kept {X : Nat → Prop} (h : Row3 t w g cap n l) (hk : Kept X w w') (hx : ¬ X g) : Row3 t w' g cap n l := by
  obtain ⟨h0, h1, h2, cur, h3, h4, h5⟩ := h
  exact ⟨h0, h1, h2, cur, hk.blk h3 hx, h4, h5⟩
theorem Row3.below (h : Row3 t w g cap n l) {B : Nat} (hb : Below B w w') (hg : g < B) : Row3 t w' g cap n l := by
  obtain ⟨h0, h1, h2, cur, h3, h4, h5⟩ := h
  exact ⟨h0, h1, h2, cur, h3.below hb hg, h4, h5⟩
end
end Go.Proofs.YtcikljcjhijjdaaGreat

namespace Go.Proofs.YtcikljcjhijjdaaGreat
open Go.RowKit Go.Lib
set_option linter.unusedSimpArgs false
set_option linter.unusedVariables false

theorem bless_irr : ∀ a : List UInt8, Op.bytesLess a a = false
  | [] => rfl
  | a :: x => by
    have h : ¬ a < a := fun h => by have := UInt8.lt_iff_toNat_lt.1 h; omega
    simp [Op.bytesLess, h, bless_irr x]
theorem bless_trans : ∀ a b c : List UInt8, Op.bytesLess a b = true → Op.bytesLess b c = true → Op.bytesLess a c = true
  | _, [], _, h, _ => by simp [Op.bytesLess] at h
  | _, _ :: _, [], _, h => by simp [Op.bytesLess] at h
  | [], _ :: _, _ :: _, _, _ => rfl
  | a :: x, b :: y, c :: z, h1, h2 => by
    simp only [Op.bytesLess, Bool.or_eq_true, Bool.and_eq_true, decide_eq_true_eq, beq_iff_eq] at h1 h2 ⊢
    rcases h1 with h1 | ⟨rfl, h1⟩
    · rcases h2 with h2 | ⟨rfl, h2⟩
      · left
        have := UInt8.lt_iff_toNat_lt.1 h1
        have := UInt8.lt_iff_toNat_lt.1 h2
        exact UInt8.lt_iff_toNat_lt.2 (by omega)
      · exact .inl h1
    · rcases h2 with h2 | ⟨rfl, h2⟩
      · exact .inl h2
      · exact .inr ⟨rfl, bless_trans x y z h1 h2⟩
theorem lessB_irr (a : ByteArray) : lessB a a = false := bless_irr _
theorem lessB_trans {a b c : ByteArray} (h1 : lessB a b = true) (h2 : lessB b c = true) : lessB a c = true := bless_trans _ _ _ h1 h2
/-- a peer that may be -/
def PeerGood (p : PeerT) : Prop := idB (pid p) = true ∧ GateOk (pgi p) (pgs p) (pgd p) ∧ winE (pcap p) (pvals p) = 0 ∧ 0 ≤ plast p ∧ plast p ≤ 1073741824
theorem peerE_zero {p : PeerT} (h : peerE p = 0) : PeerGood p := by
  unfold peerE at h
  split at h
  · rename_i h1
    split at h
    · rename_i h2
      split at h
      · rename_i h3
        split at h
        · rename_i h4
          exact ⟨h1, h2, h3, (wi_true.1 h4).1, (wi_true.1 h4).2⟩
        · simp at h
      · contradiction
    · simp at h
  · simp at h
theorem peerE_of {p : PeerT} (h : PeerGood p) : peerE p = 0 := by
  obtain ⟨h1, h2, h3, h4, h5⟩ := h
  unfold peerE
  rw [if_pos h1, if_pos h2, if_pos h3, if_pos (wi_true.2 ⟨h4, h5⟩)]
theorem chkE_zero : ∀ (l : List PeerT) (a : ByteArray), chkE a l = 0 → (∀ p ∈ l, PeerGood p ∧ lessB a (pid p) = true) ∧ ∀ i j, (hi : i < l.length) → (hj : j < l.length) → i < j → lessB (pid (l[i]'hi)) (pid (l[j]'hj)) = true
  | [], a, _ => ⟨fun p hp => (by cases hp), fun i j hi => by simp at hi⟩
  | p :: l, a, h => by
    unfold chkE at h
    by_cases h1 : peerE p = 0
    · rw [if_pos h1] at h
      by_cases h2 : lessB a (pid p) = true
      · rw [if_pos h2] at h
        obtain ⟨i1, i2⟩ := chkE_zero l (pid p) h
        refine ⟨fun q hq => ?_, fun i j hi hj hij => ?_⟩
        · rcases List.mem_cons.1 hq with rfl | hq
          · exact ⟨peerE_zero h1, h2⟩
          · exact ⟨(i1 q hq).1, lessB_trans h2 (i1 q hq).2⟩
        · obtain ⟨j, rfl⟩ : ∃ j', j = j' + 1 := ⟨j - 1, by omega⟩
          cases i with
          | zero => exact (i1 _ (List.getElem_mem (by simpa using hj))).2
          | succ i => exact i2 i j (by simpa using hi) (by simpa using hj) (by omega)
      · rw [if_neg h2] at h; simp at h
    · rw [if_neg h1] at h; contradiction
def Asc6 (l : List PeerT) : Prop := ∀ i j, (hi : i < l.length) → (hj : j < l.length) → i < j → lessB (pid (l[i]'hi)) (pid (l[j]'hj)) = true
theorem peersE_zero {l : List PeerT} (h : peersE l = 0) : l.length ≤ 6 ∧ (∀ p ∈ l, PeerGood p) ∧ Asc6 l := by
  unfold peersE at h
  split at h
  · simp at h
  · obtain ⟨h1, h2⟩ := chkE_zero l _ h
    exact ⟨by omega, fun p hp => (h1 p hp).1, h2⟩
theorem good64 {p : PeerT} (h : PeerGood p) : (pvals p).length ≤ 64 := by have := winE_zero h.2.2.1; omega
theorem asc_ne {l : List PeerT} (h : Asc6 l) {i j : Nat} (hi : i < l.length) (hj : j < l.length) (hij : i < j) : pid (l[i]'hi) ≠ pid (l[j]'hj) := fun e => by
  have := h i j hi hj hij
  rw [e, lessB_irr] at this
  cases this
section
variable (A : Option Addr) (c B n : Nat) (l : List PeerT)
theorem find_some (ha : Asc6 l) (k : Nat) (hk : k < l.length) (hm : n ≤ 1000) (w : World) (hp : Peers w B A n l) (hB : B ≤ w.heap.size) :
    Calls Tryz.prog 69 #[.slice A n c, .string (pid (l[k]'hk))] w fun e w' => e = .returned (.tuple #[.int .i64 (k : Int), .bool true]) ∧ Below w.heap.size w w' := by
  refine find_is A c B n l _ k true (by have := hp.len; omega) hm (fun j hj hjk => ha j k hj hk hjk) (fun j hj hjk => ?_) ⟨fun _ => ⟨hk, rfl⟩, fun _ => rfl⟩ w hp hB
  rcases Nat.lt_or_ge k j with h | h
  · cases hq : lessB (pid (l[j]'hj)) (pid (l[k]'hk))
    · rfl
    · have := lessB_trans hq (ha k j hk hj h)
      rw [lessB_irr] at this
      cases this
  · have : j = k := by omega
    subst this
    exact lessB_irr _
theorem first_not (p : Nat → Bool) : ∀ m, ∃ i0, i0 ≤ m ∧ (∀ j, j < i0 → p j = true) ∧ (i0 = m ∨ p i0 = false)
  | 0 => ⟨0, Nat.le_refl _, fun j h => absurd h (by omega), .inl rfl⟩
  | m + 1 => by
    obtain ⟨i0, h1, h2, h3⟩ := first_not p m
    rcases h3 with rfl | h3
    · cases hq : p i0
      · exact ⟨i0, by omega, h2, .inr hq⟩
      · exact ⟨i0 + 1, Nat.le_refl _, fun j hj => by
          by_cases h : j = i0
          · subst h; exact hq
          · exact h2 j (by omega), .inl rfl⟩
    · exact ⟨i0, by omega, h2, .inr h3⟩
theorem find_none (ha : Asc6 l) (id : ByteArray) (hno : ∀ j, (hj : j < l.length) → pid (l[j]'hj) ≠ id) (hln : l.length = n) (hm : n ≤ 1000) :
    ∃ i0, i0 ≤ n ∧ (∀ j, (hj : j < l.length) → j < i0 → lessB (pid (l[j]'hj)) id = true) ∧ (∀ j, (hj : j < l.length) → i0 ≤ j → lessB (pid (l[j]'hj)) id = false) ∧ ∀ (w : World) (hp : Peers w B A n l) (hB : B ≤ w.heap.size),
      Calls Tryz.prog 69 #[.slice A n c, .string id] w fun e w' => e = .returned (.tuple #[.int .i64 (i0 : Int), .bool false]) ∧ Below w.heap.size w w' := by
  obtain ⟨i0, h1, h2, h3⟩ := first_not (fun j => if hj : j < l.length then lessB (pid (l[j]'hj)) id else true) n
  have hlo : ∀ j, (hj : j < l.length) → j < i0 → lessB (pid (l[j]'hj)) id = true := fun j hj hji => by
    have := h2 j hji
    rwa [dif_pos hj] at this
  have hhi : ∀ j, (hj : j < l.length) → i0 ≤ j → lessB (pid (l[j]'hj)) id = false := fun j hj hij => by
    rcases h3 with rfl | h3
    · omega
    · have hi : i0 < l.length := by omega
      simp only [dif_pos hi] at h3
      rcases Nat.lt_or_ge i0 j with h | h
      · cases hq : lessB (pid (l[j]'hj)) id
        · rfl
        · have := lessB_trans (ha i0 j hi hj h) hq
          rw [h3] at this
          cases this
      · have : j = i0 := by omega
        subst this
        exact h3
  refine ⟨i0, h1, hlo, hhi, fun w hp hB => find_is A c B n l id i0 false h1 hm hlo hhi ⟨fun h => (by cases h), fun ⟨hj, h⟩ => absurd h (hno i0 hj)⟩ w hp hB⟩
end
theorem find_cases (l : List PeerT) (id : ByteArray) : (∃ k, ∃ hk : k < l.length, pid (l[k]'hk) = id) ∨ ∀ j, (hj : j < l.length) → pid (l[j]'hj) ≠ id := by
  by_cases h : ∃ k, ∃ hk : k < l.length, pid (l[k]'hk) = id
  · exact .inl h
  · exact .inr fun j hj e => h ⟨j, hj, e⟩
end Go.Proofs.YtcikljcjhijjdaaGreat

namespace Go.Proofs.YtcikljcjhijjdaaGreat
open Go.RowKit Go.Lib
set_option linter.unusedSimpArgs false
set_option linter.unusedVariables false

/-- a node's settings: its name, its incarnation, ticks between two beats, values of a window, the least spread -/
abbrev CfgD := ByteArray × Int × Int × Int × Int
abbrev cfi (c : CfgD) : Int := c.2.1
abbrev cfe (c : CfgD) : Int := c.2.2.1
abbrev cfc (c : CfgD) : Int := c.2.2.2.1
abbrev cfl (c : CfgD) : Int := c.2.2.2.2
def CfgIn (c : CfgD) : Prop := 0 ≤ cfi c ∧ cfi c ≤ 2147483647 ∧ 1 ≤ cfe c ∧ cfe c ≤ 16777216 ∧ 1 ≤ cfc c ∧ cfc c ≤ 64 ∧ 1 ≤ cfl c ∧ cfl c ≤ 16777216
/-- its level of a peer -/
def plv (least now : Int) (d : PeerD) : Int := ((Lv.lvF (lvV d.2.2.2.1.length (s1 d.2.2.2.1) (s2 d.2.2.2.1) least).toNat d.2.2.2.1.length (s1 d.2.2.2.1) (now - d.2.2.2.2) : Nat) : Int)
/-- may the level of a peer be asked? -/
def PlOk (least now : Int) (d : PeerD) : Prop := lookE d.2.2.1 least d.2.2.2.1 = 0 ∧ 0 ≤ now - d.2.2.2.2 ∧ now - d.2.2.2.2 ≤ 1073741824
def fnd (D : List PeerD) (id : ByteArray) : Option PeerD := D.find? (fun d => decide (d.1 = id))
def lvOf (least now : Int) (D : List PeerD) (id : ByteArray) : Int := match fnd D id with | some d => plv least now d | none => 0
def lvEr (D : List PeerD) (id : ByteArray) : Int := match fnd D id with | some _ => 0 | none => 4
theorem lvV_nat {N S Q least : Int} (hs : sumsE N S Q = 0) (hN : 1 ≤ N) (h0 : 1 ≤ least) (h1 : least ≤ 16777216) : ((lvV N S Q least).toNat : Int) = lvV N S Q least := by
  have h2 : 1 ≤ N * least := by have := Int.mul_le_mul hN h0 (by omega) (by omega); omega
  have h3 : 0 ≤ lvM N least := by unfold lvM; exact Int.mul_nonneg (by omega) (by omega)
  unfold lvV
  split <;> omega
/-- the first peer of a name -/
theorem fnd_some {D : List PeerD} {id : ByteArray} {d : PeerD} (h : fnd D id = some d) : ∃ k, ∃ hk : k < D.length, D[k]'hk = d ∧ (D[k]'hk).1 = id ∧ ∀ j, (hj : j < D.length) → j < k → (D[j]'hj).1 ≠ id := by
  unfold fnd at h
  rw [List.find?_eq_some_iff_getElem] at h
  obtain ⟨h1, k, hk, h2, h3⟩ := h
  exact ⟨k, hk, h2, by rw [h2]; simpa using h1, fun j hj hjk => by have := h3 j hjk; simpa using this⟩
theorem fnd_none {D : List PeerD} {id : ByteArray} (h : fnd D id = none) : ∀ j, (hj : j < D.length) → (D[j]'hj).1 ≠ id := by
  unfold fnd at h
  rw [List.find?_eq_none] at h
  intro j hj e
  exact h _ (List.getElem_mem hj) (by simpa using e)
/-- what subs are told: those whose mark turns -/
def markOf (f : ByteArray → Int) (s : TriD) : Bool := decide (s.2.1 ≤ f s.1)
def subsTo (f : ByteArray → Int) (S : List TriD) : List TriD := S.map fun s => (s.1, s.2.1, markOf f s)
def notesOf (f : ByteArray → Int) (S : List TriD) : List TriD := S.filterMap fun s => if markOf f s = s.2.2 then none else some (s.1, s.2.1, markOf f s)
theorem notesOf_snoc (f : ByteArray → Int) (S : List TriD) (k : Nat) (h : k < S.length) : notesOf f (S.take (k + 1)) = notesOf f (S.take k) ++ (if markOf f (S[k]'h) = (S[k]'h).2.2 then [] else [((S[k]'h).1, (S[k]'h).2.1, markOf f (S[k]'h))]) := by
  unfold notesOf
  rw [List.take_succ_eq_append_getElem h, List.filterMap_append]
  congr 1
  by_cases he : markOf f (S[k]'h) = (S[k]'h).2.2
  · simp [he]
  · simp [he]
theorem notesOf_le (f : ByteArray → Int) (S : List TriD) : (notesOf f S).length ≤ S.length := List.length_filterMap_le _ _
/-- subs of which the first k were told -/
def subsMid (f : ByteArray → Int) (S : List TriD) (k : Nat) : List TriD := subsTo f (S.take k) ++ S.drop k
theorem subsMid_zero (f : ByteArray → Int) (S : List TriD) : subsMid f S 0 = S := rfl
theorem subsMid_len (f : ByteArray → Int) (S : List TriD) (k : Nat) : (subsMid f S k).length = S.length := by unfold subsMid subsTo; simp; omega
theorem subsMid_all (f : ByteArray → Int) (S : List TriD) (k : Nat) (h : S.length ≤ k) : subsMid f S k = subsTo f S := by unfold subsMid; rw [List.take_of_length_le h, List.drop_of_length_le h, List.append_nil]
theorem subsMid_get (f : ByteArray → Int) (S : List TriD) (k : Nat) (h : k < S.length) : (subsMid f S k)[k]? = some (S[k]'h) := by
  have hl : (subsTo f (S.take k)).length = k := by unfold subsTo; simp; omega
  unfold subsMid
  rw [List.getElem?_append_right (by omega), hl, Nat.sub_self, List.getElem?_drop, Nat.add_zero, List.getElem?_eq_getElem h]
theorem subsMid_at (f : ByteArray → Int) (S : List TriD) (k : Nat) (h : k < S.length) (h' : k < (subsMid f S k).length) : (subsMid f S k)[k]'h' = S[k]'h := by
  have := subsMid_get f S k h
  rw [List.getElem?_eq_getElem h'] at this
  injection this
theorem subsMid_succ (f : ByteArray → Int) (S : List TriD) (k : Nat) (h : k < S.length) : subsMid f S (k + 1) = (subsMid f S k).set k ((S[k]'h).1, (S[k]'h).2.1, markOf f (S[k]'h)) := by
  have hl : (subsTo f (S.take k)).length = k := by unfold subsTo; simp; omega
  have e1 : subsTo f (S.take (k + 1)) = subsTo f (S.take k) ++ [((S[k]'h).1, (S[k]'h).2.1, markOf f (S[k]'h))] := by
    unfold subsTo
    rw [List.take_succ_eq_append_getElem h, List.map_append]
    rfl
  unfold subsMid
  rw [List.set_append_right _ _ (by omega), hl, Nat.sub_self, List.drop_eq_getElem_cons h, e1, List.append_assoc]
  rfl
/-- one whose mark does not turn stays -/
theorem subsMid_stay (f : ByteArray → Int) (S : List TriD) (k : Nat) (h : k < S.length) (he : markOf f (S[k]'h) = (S[k]'h).2.2) : subsMid f S (k + 1) = subsMid f S k := by
  rw [subsMid_succ f S k h, he]
  have h' : k < (subsMid f S k).length := by rw [subsMid_len]; exact h
  have := subsMid_at f S k h h'
  rw [← this]
  exact List.set_getElem_self h'
end Go.Proofs.YtcikljcjhijjdaaGreat

namespace Go.Proofs.YtcikljcjhijjdaaGreat
open Go.RowKit Go.Lib
set_option linter.unusedSimpArgs false
set_option linter.unusedVariables false

set_option maxHeartbeats 1000000 in
set_option maxRecDepth 100000 in
theorem clone_peers (b off c B n : Nat) (l : List PeerT) (hm : n ≤ 1000) (hn : 0 < n) (w : World) (hp : Peers w B (some ⟨b, off, none⟩) n l) (hB : B ≤ w.heap.size) :
    Calls Tryz.prog 86 #[.slice (some ⟨b, off, none⟩) n c] w fun e w' => ∃ A' c', e = .returned (.slice A' n c') ∧ w'.ownsRow w.heap.size 94 7 (.slice A' n c') n (cellsP l) ∧ Below w.heap.size w w' := by
  obtain ⟨i0, hi, hz0, hz1, hz2⟩ := info_parts peer_info
  have hnil := fun w => Lib.run_eql_slice_nil (P := Tryz.prog) w 33 94 (some ⟨b, off, none⟩) n c 0 0 Tryz.underlying33
  have hown : (w.alloc (.cells #[] 94)).ownsRow w.heap.size 94 7 (.slice (some ⟨w.heap.size, 0, none⟩) 0 0) 0 [] :=
    ⟨rfl, .inr ⟨w.heap.size, 0, #[], rfl, Nat.le_refl _, heap_alloc_new w _, Nat.le_refl _, by unfold maxLen; omega, rfl, rfl⟩⟩
  have HO := Lib.hid hown
  have HRA := Lib.hid (hp.row.alloc hB (.cells #[] 94))
  clear hp hB hown
  go_enter Tryz.func86, Tryz.ntmps86
  go_wp2_with (at_builtin; refine wpList_appN _ rfl _ _ 33 rfl w.heap.size 94 i0 _ 7 80 Tryz.underlying33 hi hz0 hz1 hz2 rfl (by decide) _ _ _ rfl HO.out _ _ _ _ _ rfl HRA.out (oneCell_peers l) ?c1 ?c2 ?c3 ?_)
  case c1 => unfold maxLen; omega
  case c2 => omega
  case c3 => simp
  intro v' w2 hown2 hb2
  obtain ⟨A2, c2, rfl⟩ := ownsRow_len hown2
  go_wp2
  go_ret
  exact ⟨A2, c2, rfl, hown2, ((Below.refl _ _).alloc (Nat.le_refl _) _).trans hb2⟩
end Go.Proofs.YtcikljcjhijjdaaGreat
