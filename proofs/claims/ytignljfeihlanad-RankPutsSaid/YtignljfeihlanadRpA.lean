/- slices.IsSorted, BinarySearch, Insert, Delete over ints, by the shelf's contracts. -/
import Derived.Test.YtignljfeihlanadShelf
import Derived.Test.YtignljfeihlanadEqInts
import Derived.Test.YtignljfeihlanadSortP
import Derived.Lib.SlKeysI
namespace Go.Proofs.Ytignljfeihlanad
open Go.RowKit Go.Shelf Go.Sort
set_option linter.unusedSimpArgs false
set_option linter.unusedVariables false

theorem asc_down (l : List Int) : Lib.downOK (fun x y => decide (x < y)) l.toArray (l.toArray.size - 1) = decide (l.Pairwise (· ≤ ·)) := by
  rw [Bool.eq_iff_iff, Lib.downOK_iff, decide_eq_true_eq]
  constructor
  · intro h
    have step : ∀ i, i + 1 < l.length → l.getD i 0 ≤ l.getD (i + 1) 0 := fun i hi => by
      have := h i (by simp; omega)
      simp [hi, show i < l.length by omega] at this
      simp [List.getD, List.getElem?_eq_getElem hi, List.getElem?_eq_getElem (show i < l.length by omega)]
      exact this
    have up : ∀ d i, i + d < l.length → l.getD i 0 ≤ l.getD (i + d) 0 := by
      intro d
      induction d with
      | zero => intro i _; exact Int.le_refl _
      | succ d ih => intro i hi; exact Int.le_trans (ih i (by omega)) (step (i + d) (by omega))
    rw [List.pairwise_iff_getElem]
    intro i j hi hj hij
    have := up (j - i) i (by omega)
    rw [show i + (j - i) = j by omega] at this
    simpa [List.getD, hi, hj] using this
  · intro h i hi
    have h' := List.pairwise_iff_getElem.1 h i (i + 1) (by simp at hi; omega) (by simp at hi; omega) (by omega)
    have h1 : i + 1 < l.length := by simp at hi; omega
    have h2 : i < l.length := by omega
    simp [h1, h2]
    exact h'

theorem toArray_at (l : List Int) (i : Nat) (hi : i < l.length) : (Value.int .i64) l.toArray[i]! = .int .i64 (l.getD i 0) := by
  simp [hi, List.getD]

theorem issorted_any (A : Option Addr) (c B n : Nat) (l : List Int) (b : Bool) (hn : l.length = n) (hb : decide (l.Pairwise (· ≤ ·)) = b) (hm : n ≤ 1000000) (w : World) (hr : Reads w B 1 A n (cellsI l)) :
    Calls Try.prog 13 #[.slice A n c] w fun e w' => e = .returned (.bool b) ∧ Below w.heap.size w w' := by
  subst hn hb
  rcases Nat.eq_zero_or_pos l.length with h | h
  · obtain rfl := List.eq_nil_of_length_eq_zero h
    exact (AnyO.slices_IsSorted_int_none Try.laysSortedI A c w).mono fun e w' ⟨h1, h2⟩ => ⟨by simpa using h1, h2 ▸ Below.refl _ _⟩
  · obtain ⟨b, off, rfl, hb, hcell⟩ := hr.addr h
    have := AnyO.slices_IsSorted_int Try.laysSortedI b off c l.toArray w (fun i hi => by
      rw [toArray_at l i (by simpa using hi)]
      exact hcell i _ (cellsI_at l i (by simpa using hi))) (by simp; omega)
    rw [asc_down] at this
    exact this.mono fun e w' ⟨h1, q, h2⟩ => ⟨h1, h2 ▸ below_drewN (Below.refl _ _) q⟩

theorem bsearch_none (A : Option Addr) (c : Nat) (x : Int) (w : World) :
    Calls Try.prog 15 #[.slice A 0 c, .int .i64 x] w fun e w' => e = .returned (.tuple #[.int .i64 0, .bool false]) ∧ Below w.heap.size w w' := by
  go_enter Try.func15, Try.ntmps15
  go_wp2_with fail
  go_loop [7, 8] (fun i j => i = .int .i64 0 ∧ j = .int .i64 0) (fun i j => 0)
  case atStart => exact ⟨rfl, rfl⟩
  case round =>
    obtain ⟨rfl, rfl⟩ := hrel
    go_wp2
    go_ret2
    exact ⟨rfl, Below.refl _ _⟩

theorem bsearch_any (A : Option Addr) (c B n : Nat) (l : List Int) (x : Int) (hn : l.length = n) (hs : l.Pairwise (· ≤ ·)) (hm : n ≤ 1000000) (w : World) (hr : Reads w B 1 A n (cellsI l)) :
    Calls Try.prog 15 #[.slice A n c, .int .i64 x] w fun e w' => e = .returned (.tuple #[.int .i64 (l.countP (· < x) : Nat), .bool (l.contains x)]) ∧ Below w.heap.size w w' := by
  subst hn
  rcases Nat.eq_zero_or_pos l.length with h | h
  · obtain rfl := List.eq_nil_of_length_eq_zero h
    exact bsearch_none A c x w
  · obtain ⟨b, off, rfl, hb, hcell⟩ := hr.addr h
    have := Try.slices_BinarySearch_int b off l.length c l x w (Nat.le_refl _) (by omega) (fun j hj => hcell j _ (cellsI_at l j hj)) (by simpa using hs)
    rw [List.take_length] at this
    exact this.mono fun e w' ⟨h1, q, h2⟩ => ⟨h1, h2 ▸ below_drewN (Below.refl _ _) q⟩

/-- a slice of n numbers, new to the call -/
def RowIs (T : List Int) (n base : Nat) (w : World) (e : Ending) (w' : World) : Prop := ∃ A c, e = .returned (.slice A n c) ∧ Reads w' w'.heap.size 1 A n (cellsI T) ∧ Below base w w'

theorem oneCellI (l : List Int) : ∀ v ∈ cellsI l, v.oneCell' = true := by
  intro u hu
  obtain ⟨x, _, rfl⟩ := List.mem_map.1 hu
  rfl
theorem reads_of {w : World} {g n : Nat} {T : List Int} (hT : T.length = n) (hg : g < w.heap.size) (h : ∀ k, k < n → w.cell? ⟨g, k, none⟩ = some (.int .i64 (T.getD k 0))) : Reads w w.heap.size 1 (some ⟨g, 0, none⟩) n (cellsI T) := by
  refine ⟨by simp [cellsI, hT], fun _ => ⟨_, rfl, hg, fun j u hu => ?_⟩⟩
  have hj : j < T.length := by have := (List.getElem?_eq_some_iff.1 hu).1; simpa [cellsI] using this
  rw [cellsI_at T j hj] at hu
  injection hu with hu
  subst hu
  have := h j (by omega)
  unfold Addr.add
  split
  · rename_i h0; rw [h0] at this ⊢; exact this
  · simpa using this
theorem ins_length (l : List Int) (i : Nat) (x : Int) (hi : i ≤ l.length) : (l.take i ++ x :: l.drop i).length = l.length + 1 := by simp; omega
theorem ins_at (l : List Int) (i : Nat) (x : Int) (hi : i ≤ l.length) (k : Nat) (hk : k ≤ l.length) :
    (l.take i ++ x :: l.drop i).getD k 0 = if k < i then l.getD k 0 else if k = i then x else l.getD (k - 1) 0 := by
  simp only [List.getD_eq_getElem?_getD, List.getElem?_append, List.length_take]
  rw [show min i l.length = i by omega]
  split
  · rw [List.getElem?_take, if_pos (by assumption)]
  · split
    · rename_i h1 h2; subst h2; simp
    · rename_i h1 h2
      obtain ⟨d, hd⟩ : ∃ d, k - i = d + 1 := ⟨k - i - 1, by omega⟩
      rw [hd, List.getElem?_cons_succ, List.getElem?_drop, show i + d = k - 1 by omega]

theorem set_size (b : Nat) : ∀ (vs : List Value) (o : Nat) (w : World), (w.setCells b o vs).heap.size = w.heap.size
  | [], _, _ => rfl
  | v :: r, o, w => (set_size b r (o + 1) _).trans (by simp [World.setCell])
theorem set_below {B : Nat} {a : World} (b : Nat) (hb : B ≤ b) : ∀ (vs : List Value) (o : Nat) {w : World}, Below B a w → Below B a (w.setCells b o vs)
  | [], _, _, h => h
  | v :: r, o, _, h => set_below b hb r (o + 1) (h.setCell (p := ⟨b, o, none⟩) hb v)
/-- the cells after slices.Insert's two copies -/
theorem cells_ins {w : World} {g n i : Nat} {l : List Int} {x : Int} (hn : l.length = n) (hi : i ≤ n) (hc : ∀ k, k < i → w.cell? ⟨g, k, none⟩ = some (.int .i64 (l.getD k 0)))
    (hs : ∀ k, i ≤ k → k < n + 1 → (w.cell? ⟨g, k, none⟩).isSome = true) :
    ∀ k, k < n + 1 → ((w.setCells g (i + 1) (cellsI (l.drop i))).setCells g i [.int .i64 x]).cell? ⟨g, k, none⟩ = some (.int .i64 ((l.take i ++ x :: l.drop i).getD k 0)) := by
  intro k hk
  rw [ins_at l i x (by omega) k (by omega)]
  have hs' : ∀ j, j < [Value.int .i64 x].length → ((w.setCells g (i + 1) (cellsI (l.drop i))).cell? ⟨g, i + j, none⟩).isSome = true := fun j hj => by
    have : j = 0 := by simpa using hj
    subst this
    rw [World.cell?_setCells_out _ _ _ _ _ (fun _ _ => .inl (by simp))]
    exact hs i (by omega) (by omega)
  have hs2 : ∀ j, j < (cellsI (l.drop i)).length → (w.cell? ⟨g, i + 1 + j, none⟩).isSome = true := fun j hj => by
    simp [cellsI] at hj
    exact hs _ (by omega) (by omega)
  split
  · rename_i h
    rw [World.cell?_setCells_out _ _ _ _ _ (fun _ _ => .inl h), World.cell?_setCells_out _ _ _ _ _ (fun _ _ => .inl (by simp; omega))]
    exact hc k h
  · split
    · rename_i h1 h2
      subst h2
      have := World.cell?_setCells_in g [.int .i64 x] k _ hs' 0 (by simp)
      simpa using this
    · rename_i h1 h2
      rw [World.cell?_setCells_out _ _ _ _ _ (fun _ _ => .inr (by simp; omega))]
      have hl : k - (i + 1) < (cellsI (l.drop i)).length := by simp [cellsI]; omega
      have := World.cell?_setCells_in g (cellsI (l.drop i)) (i + 1) w hs2 (k - (i + 1)) hl
      rw [show i + 1 + (k - (i + 1)) = k by omega] at this
      rw [this]
      simp [cellsI, List.getD_eq_getElem?_getD, show i + (k - (i + 1)) = k - 1 by omega, show k - 1 < l.length by omega]
theorem cells_ins2 {w : World} {g n i : Nat} {l : List Int} {x : Int} (hn : l.length = n) (hi : i ≤ n) (hc : ∀ k, k < i → w.cell? ⟨g, k, none⟩ = some (.int .i64 (l.getD k 0)))
    (hs : ∀ k, i ≤ k → k < n + 1 → (w.cell? ⟨g, k, none⟩).isSome = true) :
    ∀ k, k < n + 1 → ((w.setCells g i [.int .i64 x]).setCells g (i + 1) (cellsI (l.drop i))).cell? ⟨g, k, none⟩ = some (.int .i64 ((l.take i ++ x :: l.drop i).getD k 0)) := by
  intro k hk
  rw [ins_at l i x (by omega) k (by omega)]
  have hs' : ∀ j, j < [Value.int .i64 x].length → (w.cell? ⟨g, i + j, none⟩).isSome = true := fun j hj => by
    have : j = 0 := by simpa using hj
    subst this
    exact hs i (by omega) (by omega)
  have hs2 : ∀ j, j < (cellsI (l.drop i)).length → ((w.setCells g i [.int .i64 x]).cell? ⟨g, i + 1 + j, none⟩).isSome = true := fun j hj => by
    simp [cellsI] at hj
    rw [World.cell?_setCells_out _ _ _ _ _ (fun _ _ => .inr (by simp))]
    exact hs _ (by omega) (by omega)
  split
  · rename_i h
    rw [World.cell?_setCells_out _ _ _ _ _ (fun _ _ => .inl (by simp; omega)), World.cell?_setCells_out _ _ _ _ _ (fun _ _ => .inl h)]
    exact hc k h
  · split
    · rename_i h1 h2
      subst h2
      rw [World.cell?_setCells_out _ _ _ _ _ (fun _ _ => .inl (by simp))]
      have := World.cell?_setCells_in g [.int .i64 x] k w hs' 0 (by simp)
      simpa using this
    · rename_i h1 h2
      have hl : k - (i + 1) < (cellsI (l.drop i)).length := by simp [cellsI]; omega
      have := World.cell?_setCells_in g (cellsI (l.drop i)) (i + 1) _ hs2 (k - (i + 1)) hl
      rw [show i + 1 + (k - (i + 1)) = k by omega] at this
      rw [this]
      simp [cellsI, List.getD_eq_getElem?_getD, show i + (k - (i + 1)) = k - 1 by omega, show k - 1 < l.length by omega]

theorem blk_some {w : World} {g : Nat} {t : TypeId} {cs : Array Value} (h : Blk w g t cs) (k : Nat) (hk : k < cs.size) : (w.cell? ⟨g, k, none⟩).isSome = true := by
  rw [h.cell k]; simp [hk]

set_option maxHeartbeats 1000000 in
theorem insert_any (A : Option Addr) (c n i base vb : Nat) (l : List Int) (x : Int) (hn : l.length = n) (hi : i ≤ n) (hm : n ≤ 1000000) (w : World) (ho : w.ownsRow base 3 1 (.slice A n c) n (cellsI l)) (hbase : base ≤ w.heap.size)
    (hv : Blk w vb 3 #[.int .i64 x]) (hne : ∀ a, A = some a → vb ≠ a.block) :
    Calls Try.prog 16 #[.slice A n c, .int .i64 i, .slice (some ⟨vb, 0, none⟩) 1 1] w (RowIs (l.take i ++ x :: l.drop i) (n + 1) base w) := by
  have hvs : ∀ j v, [Value.int .i64 x][j]? = some v → w.cell? ⟨vb, 0 + j, none⟩ = some v := fun j v h => by
    rw [Nat.zero_add, hv.cell]
    simpa using h
  have h1v : ∀ v ∈ [Value.int .i64 x], v.oneCell' = true := fun v h => by simp at h; subst h; rfl
  have h1c := oneCellI l
  have hcl : (cellsI l).length = n := by simp [cellsI, hn]
  have hT := ins_length l i x (by omega)
  rw [hn] at hT
  -- a new row in a block of its own
  have grown : ∀ (cs : Array Value) (W : World), Below w.heap.size w W → Blk W w.heap.size 3 cs → True := fun _ _ _ _ => trivial
  have atEnd : ∀ (a : Option Addr), (a = none → n = 0) → (∀ ad, a = some ad → ∀ j v, (cellsI l)[j]? = some v → w.cell? (ad.add j) = some v) → n ≤ c → c < n + 1 → i = n →
      Calls Try.prog 16 #[.slice a n c, .int .i64 i, .slice (some ⟨vb, 0, none⟩) 1 1] w (RowIs (l.take i ++ x :: l.drop i) (n + 1) base w) := by
    intro a ha hcs hnc hroom hin
    subst hin
    refine (Any2.slices_Insert_int_end_grow Try.laysInsert a i c vb 0 1 1 (cellsI l) [.int .i64 x] w (by omega) hnc hroom (by omega) hcl rfl ha hcs hvs h1v).mono ?_
    rintro e w' ⟨rfl, rfl⟩
    have hb := Blk.new w.drew 3 (((cellsI l) ++ [Value.int .i64 x]).toArray ++ Builtin.zeroCells (Value.int .i64 0).cells (grownCap w (i + 1) c 3 - (i + 1)))
    refine ⟨_, _, rfl, reads_of (g := w.heap.size) hT hb.lt fun k hk => ?_, (Below.refl base w).drew.alloc hbase _⟩
    refine (hb.cell k).trans ?_
    rw [ins_at l i x (by omega) k (by omega)]
    have hsz : (((cellsI l) ++ [Value.int .i64 x]).toArray).size = i + 1 := by simp [hcl]
    rw [Array.getElem?_append_left (by omega)]
    simp only [List.getElem?_toArray]
    split
    · rw [List.getElem?_append_left (by omega)]
      exact cellsI_at l k (by omega)
    · rw [if_pos (by omega), List.getElem?_append_right (by omega), hcl, show k - i = 0 by omega]
      rfl
  rcases ho.2 with ⟨hA, h0⟩ | ⟨g, cap, cur, hA, hbg, hg, hnc, hmx, hsz, hxs⟩
  · injection hA with hA h1 h2
    subst hA h2
    exact atEnd none (fun _ => h0) (fun ad h => by cases h) (by omega) (by omega) (by omega)
  · injection hA with hA h1 h2
    subst hA h2
    have HB : Blk w g 3 cur := hg
    have hcur : ∀ k, k < n → w.cell? ⟨g, k, none⟩ = some (.int .i64 (l.getD k 0)) := fun k hk => by
      rw [HB.cell]
      have := cellsI_at l k (by omega)
      rw [← hxs] at this
      rw [List.getElem?_take, if_pos (by omega)] at this
      simpa using this
    have hcs : ∀ j v, (cellsI l)[j]? = some v → w.cell? ⟨g, 0 + j, none⟩ = some v := fun j v h => by
      have hj : j < l.length := by have := (List.getElem?_eq_some_iff.1 h).1; simpa [cellsI] using this
      rw [cellsI_at l j hj] at h
      injection h with h
      subst h
      rw [Nat.zero_add]
      exact hcur j (by omega)
    have hcs' : ∀ ad, some (⟨g, 0, none⟩ : Addr) = some ad → ∀ j v, (cellsI l)[j]? = some v → w.cell? (ad.add j) = some v := fun ad h j v hv => by
      injection h with h
      subst h
      rw [Addr.add_lit]
      exact hcs j v hv
    by_cases hin : i = n
    · by_cases hr : n + 1 ≤ c
      · have := Any2.slices_Insert_int_end_room Try.laysInsert g 0 n c vb 0 1 1 [.int .i64 x] w (by omega) hr (by unfold maxLen at hmx; omega) rfl
          (fun j hj => blk_some HB _ (by omega)) (fun j hj => HB.frozen _) hvs h1v
        subst hin
        refine this.mono ?_
        rintro e w' ⟨rfl, rfl⟩
        have hc := cells_ins (x := x) (g := g) (w := w) hn hi (fun k hk => hcur k hk) (fun k _ hk => blk_some HB _ (by omega))
        have hd : l.drop i = [] := by rw [List.drop_eq_nil_iff]; omega
        have hc2 : ∀ k, k < i + 1 → (w.setCells g (0 + i) [Value.int .i64 x]).cell? ⟨g, k, none⟩ = some (.int .i64 ((l.take i ++ x :: l.drop i).getD k 0)) := fun k hk => by
          have := hc k hk
          rw [hd] at this
          rw [hd, Nat.zero_add]
          exact this
        exact ⟨_, _, rfl, reads_of hT (by rw [set_size]; exact HB.lt) hc2, set_below g hbg _ _ (Below.refl _ _)⟩
      · exact atEnd _ (fun h => by cases h) hcs' (by omega) (by omega) hin
    · by_cases hr : n + 1 ≤ c
      · have := Any2.slices_Insert_int_shift Try.laysInsert g 0 n c i vb 0 1 1 (cellsI l) [.int .i64 x] w (by omega) (by omega) hr (by unfold maxLen at hmx; omega) (hne _ rfl) hcl rfl hcs
          (fun j hj => blk_some HB _ (by omega)) (fun j hj => HB.frozen _) hvs h1c h1v 3 3 1 cur.size (by unfold World.shape?; rw [hv]; rfl) (by unfold World.shape?; rw [hg]) (by omega) (hv.frozen _) (hv.frozen _)
        refine this.mono ?_
        rintro e w' ⟨rfl, rfl⟩
        have hc := cells_ins (x := x) (g := g) (w := w.drew) hn hi (fun k hk => hcur k (by omega)) (fun k _ hk => blk_some HB _ (by omega))
        have hdr : (cellsI l).drop i = cellsI (l.drop i) := by simp [cellsI]
        rw [hdr, Nat.zero_add, Nat.zero_add]
        exact ⟨_, _, rfl, reads_of hT (by rw [set_size, set_size]; exact HB.lt) hc, set_below g hbg _ _ (set_below g hbg _ _ (Below.refl _ _).drew)⟩
      · have := Any2.slices_Insert_int_grow Try.laysInsert g 0 n c i vb 0 1 1 (cellsI l) [.int .i64 x] w (by omega) (by omega) hnc (by omega) (by omega) hcl rfl hcs hvs h1c h1v
        refine this.mono ?_
        rintro e w' ⟨rfl, rfl⟩
        have hdr : (cellsI l).drop i = cellsI (l.drop i) := by simp [cellsI]
        obtain ⟨cs, hcs2⟩ : ∃ cs : Array Value, cs = ((cellsI l).take i).toArray ++ Builtin.zeroCells (Value.int .i64 0).cells (n + 1 - i) ++ Builtin.zeroCells (Value.int .i64 0).cells (grownCap w (n + 1) c (Try.laysInsert_ren.t 3) - (n + 1)) := ⟨_, rfl⟩
        have hz : ((cellsI l).take i).toArray.size = i := by simp [hcl]; omega
        have hz1 : (Value.int .i64 0).cells.size = 1 := rfl
        have hsz2 : n + 1 ≤ cs.size := by rw [hcs2, Array.size_append, Array.size_append, size_zeroCells, size_zeroCells, hz, hz1]; omega
        have hb : Blk (w.alloc (.cells cs 3)).drew.drew w.heap.size 3 cs := Blk.new w _ cs
        have hc := cells_ins2 (x := x) (g := w.heap.size) (w := (w.alloc (.cells cs 3)).drew.drew) hn hi (fun k hk => by
          rw [hb.cell, hcs2, Array.append_assoc, Array.getElem?_append_left (by omega), List.getElem?_toArray, List.getElem?_take, if_pos hk]
          exact cellsI_at l k (by omega)) (fun k _ hk => blk_some hb _ (by omega))
        rw [hdr, drew_setCells]
        change RowIs _ _ _ _ _ (((w.alloc (.cells _ 3)).drew.drew.setCells w.heap.size i _).setCells w.heap.size (i + 1) _)
        show ∃ A c, _
        rw [← hcs2]
        exact ⟨_, _, rfl, reads_of hT (by rw [set_size, set_size]; exact hb.lt) hc, set_below _ hbase _ _ (set_below _ hbase _ _ ((Below.refl base w).alloc hbase _).drew.drew)⟩

theorem del_length (l : List Int) (i : Nat) (hi : i < l.length) : (l.take i ++ l.drop (i + 1)).length = l.length - 1 := by simp; omega

theorem delete_any (A : Option Addr) (c n i base : Nat) (l : List Int) (hn : l.length = n) (hi : i < n) (hm : n ≤ 1000000) (w : World) (ho : w.ownsRow base 3 1 (.slice A n c) n (cellsI l)) (hbase : base ≤ w.heap.size) :
    Calls Try.prog 17 #[.slice A n c, .int .i64 i, .int .i64 ((i + 1 : Nat) : Int)] w (RowIs (l.take i ++ l.drop (i + 1)) (n - 1) base w) := by
  rcases ho.2 with ⟨hA, h0⟩ | ⟨g, cap, cur, hA, hbg, hg, hnc, hmx, hsz, hxs⟩
  · omega
  · injection hA with hA h1 h2
    subst hA h2
    have hH : Holds (Value.int .i64) w g 0 l.toArray := holds_of_block_i hg (by rw [hn]; simpa [cellsI] using hxs)
    have := Try.slices_Delete_int g 0 c i (i + 1) l w hH (by omega) (by unfold maxLen at hmx; omega) (by omega) (by omega)
    rw [hn, show n - (i + 1 - i) = n - 1 by omega, show i + 1 - i = 1 by omega] at this
    refine this.mono ?_
    rintro e w' ⟨rfl, q, rfl⟩
    have hl : (l.take i ++ l.drop (i + 1) ++ List.replicate 1 0).length = l.length := by simp; omega
    have hro := ownsRow_sorted_i (n := q) (os := #[]) (ss := l) (ts := l.take i ++ l.drop (i + 1) ++ List.replicate 1 0) hl hbg hg (by omega) hmx hsz
    have hgr : ∀ W : World, grow W #[] = W := fun W => by simp [grow]
    rw [hgr] at hro
    have hb := (Below.refl w.heap.size w)
    have hB : Below base w (grow (putRow encZ (Sort.ahead w q) g 0 (l.take i ++ l.drop (i + 1) ++ List.replicate 1 0).toArray) #[]) := (Below.refl base w).grown (grownBy_sorted_i _) hbase (fun k hk => by cases hk; exact hbg)
    rw [hgr] at hB
    have hr := Reads.of_own hro
    refine ⟨_, _, rfl, ⟨by simp [cellsI]; omega, fun hn0 => ?_⟩, hB⟩
    obtain ⟨ad, h1, h2, h3⟩ := hr.2 (by omega)
    refine ⟨ad, h1, h2, fun j u hu => h3 j u ?_⟩
    have : (l.take i ++ l.drop (i + 1) ++ List.replicate 1 0).map encZ = cellsI (l.take i ++ l.drop (i + 1)) ++ [.int .i64 0] := by simp [cellsI, encZ]
    rw [this]
    rw [List.getElem?_append_left (List.getElem?_eq_some_iff.1 hu).1]
    exact hu
end Go.Proofs.Ytignljfeihlanad
