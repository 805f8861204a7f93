/- A node of the caller's own: each call by what it makes of the state. (with what it needs) -/
import Derived.Test.YtkgekhabafjpiabM50
namespace Go.Proofs.Ytkgekhabafjpiab
open Go.RowKit Go.Lib
set_option linter.unusedSimpArgs false
set_option linter.unusedVariables false

/-- a node in blocks that are new since the world w; nothing older was changed -/
def Own (w W : World) (b : Nat) (s : NSt) : Prop := ∃ X, NodeAt X W b s ∧ (∀ k, X k → w.heap.size ≤ k) ∧ Below w.heap.size w W
section
variable {w W W' : World} {b : Nat} {s : NSt}
theorem Own.bel (h : Own w W b s) : Below w.heap.size w W := by
  obtain ⟨_, _, _, h⟩ := h
  exact h
theorem Own.below (h : Own w W b s) (hb : Below W.heap.size W W') : Own w W' b s := by
  obtain ⟨X, h1, h2, h3⟩ := h
  exact ⟨X, h1.below hb, h2, h3.trans (hb.mono h3.size)⟩
theorem Own.drewN (h : Own w W b s) (n : Nat) : Own w (W.drewN n) b s := h.below (below_drewN (Below.refl _ _) n)
theorem Own.alloc (h : Own w W b s) (o : Obj) : Own w (W.alloc o) b s := h.below ((Below.refl _ _).alloc (Nat.le_refl _) o)
theorem Own.of {X : Nat → Prop} {s' : NSt} (hX : ∀ k, X k → w.heap.size ≤ k) (hw : Below w.heap.size w W) (hn : NodeAt (grow X W W') W' b s') (hk : Kept X W W') : Own w W' b s' :=
  ⟨_, hn, fun k hk => hk.1.elim (hX k) (fun h => Nat.le_trans hw.size h), hw.trans (hk.below hX hw.size)⟩
theorem Own.new {c : CfgD} {e : Ending} (hw : Below w.heap.size w W) (h : NewIs c W e W') : ∃ b, e = .returned (.tuple #[.pointer (some ⟨b, 0, none⟩), .int .i64 0]) ∧ Own w W' b (NSt.start c) ∧ Below W.heap.size W W' := by
  obtain ⟨b, h1, h2, h3, h4⟩ := h
  exact ⟨b, h1, ⟨_, h3, fun k hk => by have := hw.size; show w.heap.size ≤ k; rw [hk]; omega, hw.trans (h4.mono hw.size)⟩, h4⟩
def OwE (w : World) (b : Nat) (s : NSt) (er : Int) (e : Ending) (W' : World) : Prop := e = .returned (.int .i64 er) ∧ Own w W' b s
theorem Own.watch (h : Own w W b s) (hg : NGood s) (id : ByteArray) (hid : id.size ≤ maxLen) (ev : Int) :
    Calls Try.prog 7 #[.pointer (some ⟨b, 0, none⟩), .string id, .int .i64 ev] W (OwE w b (s.watched id ev) (s.watchE id ev)) := by
  obtain ⟨X, h1, h2, h3⟩ := h
  obtain ⟨_, _, _, _, _, h1⟩ := h1
  exact (watch_any h1 hg id hid ev).mono fun e W' ⟨k1, k2, k3⟩ => ⟨k1, Own.of h2 h3 k2 k3⟩
/-- notes and an error -/
def OwN (w W : World) (b : Nat) (s : NSt) (N : List TriD) (er : Int) (e : Ending) (W' : World) : Prop :=
  ∃ A c, e = .returned (.tuple #[.slice A N.length c, .int .i64 er]) ∧ Reads W' W'.heap.size 3 A N.length (cells3 N) ∧ Own w W' b s
theorem Own.join (h : Own w W b s) (hg : NGood s) (id : ByteArray) (th : Int) :
    Calls Try.prog 9 #[.pointer (some ⟨b, 0, none⟩), .string id, .int .i64 th] W (OwN w W b (s.joined id th) (s.joinN id th) (s.joinE id th)) := by
  obtain ⟨X, h1, h2, h3⟩ := h
  obtain ⟨_, _, _, _, _, h1⟩ := h1
  exact (join_any h1 hg id th).mono fun e W' ⟨A, c, k1, k2, k3, k4⟩ => ⟨A, c, k1, Reads.of_own k2, Own.of h2 h3 k3 k4⟩
theorem Own.hear (h : Own w W b s) (hg : NGood s) (x : ByteArray) :
    Calls Try.prog 13 #[.pointer (some ⟨b, 0, none⟩), .string x] W (OwN w W b (s.heard x) (s.hearN x) (s.hearE x)) := by
  obtain ⟨X, h1, h2, h3⟩ := h
  obtain ⟨_, _, _, _, _, h1⟩ := h1
  exact (hear_any h1 hg x).mono fun e W' ⟨A, c, k1, k2, k3, k4⟩ => ⟨A, c, k1, Reads.of_own k2, Own.of h2 h3 k3 k4⟩
/-- texts, notes and no error -/
def OwT (w W : World) (b : Nat) (s : NSt) (T : List ByteArray) (m : Nat) (N : List TriD) (e : Ending) (W' : World) : Prop :=
  ∃ A1 c1 A2 c2, e = .returned (.tuple #[.slice A1 m c1, .slice A2 N.length c2, .int .i64 0]) ∧ Reads W' W'.heap.size 1 A1 m (cellsTx T) ∧ Reads W' W'.heap.size 3 A2 N.length (cells3 N) ∧ Own w W' b s
theorem Own.tick (h : Own w W b s) (hg : NGood s) (g : Int) (he : s.tickE g = 0) :
    Calls Try.prog 10 #[.pointer (some ⟨b, 0, none⟩), .int .i64 g] W (OwT w W b (s.ticked g).tell (beatsOf s.c s.seq (s.many g)) (s.many g) (s.ticked g).notes) := by
  obtain ⟨X, h1, h2, h3⟩ := h
  obtain ⟨_, _, _, _, _, h1⟩ := h1
  exact (tick_ok h1 hg g he).mono fun e W' ⟨A1, c1, A2, c2, k1, k2, k3, k4, k5⟩ => ⟨A1, c1, A2, c2, k1, Reads.of_own k2, Reads.of_own k3, Own.of h2 h3 (HoldIs.at_ (HoldIs.grow k4)) k5⟩
theorem Own.now (h : Own w W b s) : Calls Try.prog 11 #[.pointer (some ⟨b, 0, none⟩)] W fun e W' => e = .returned (.int .i64 s.now) ∧ W = W' := by
  obtain ⟨X, h1, h2, h3⟩ := h
  obtain ⟨_, _, _, _, _, h1⟩ := h1
  exact now_any h1
/-- the peers, copied -/
def OwP (W : World) (D : List PeerD) (e : Ending) (W' : World) : Prop := ∃ A c l, e = .returned (.slice A D.length c) ∧ l.map Prod.fst = D ∧ Peers W' W'.heap.size A D.length l ∧ Below W.heap.size W W'














end
end Go.Proofs.Ytkgekhabafjpiab

namespace Go.Proofs.Ytkgekhabafjpiab
open Go.RowKit Go.Lib
set_option linter.unusedSimpArgs false
set_option linter.unusedVariables false

def ida : ByteArray := ⟨#[97]⟩
def idb : ByteArray := ⟨#[98]⟩
def cA : CfgD := (ida, 0, 100000, 5, 2)
theorem cA_ok : cfgE cA = 0 := by decide
theorem s1_nn : ∀ (l : List Int), (∀ x ∈ l, 0 ≤ x) → 0 ≤ s1 l
  | [], _ => Int.le_refl _
  | x :: l, h => by
    have h1 := h x (List.mem_cons_self ..)
    have h2 := s1_nn l fun y hy => h y (List.mem_cons_of_mem _ hy)
    simp only [s1]; omega
theorem s1_le (M : Int) : ∀ (l : List Int), (∀ x ∈ l, x ≤ M) → s1 l ≤ l.length * M
  | [], _ => by simp [s1]
  | x :: l, h => by
    have h1 := h x (List.mem_cons_self ..)
    have h2 := s1_le M l fun y hy => h y (List.mem_cons_of_mem _ hy)
    simp only [s1, List.length_cons]
    rw [show ((l.length + 1 : Nat) : Int) * M = l.length * M + M by rw [Int.natCast_add, Int.add_mul]; simp]
    omega
theorem s2_le (M : Int) : ∀ (l : List Int), (∀ x ∈ l, 0 ≤ x ∧ x ≤ M) → s2 l ≤ l.length * (M * M)
  | [], _ => by simp [s2]
  | x :: l, h => by
    have h1 := h x (List.mem_cons_self ..)
    have h2 := s2_le M l fun y hy => h y (List.mem_cons_of_mem _ hy)
    have h3 : x * x ≤ M * M := Int.mul_le_mul h1.2 h1.2 h1.1 (by omega)
    simp only [s2, List.length_cons]
    rw [show ((l.length + 1 : Nat) : Int) * (M * M) = l.length * (M * M) + M * M by rw [Int.natCast_add, Int.add_mul]; simp]
    omega
/-- one peer, heard of now; a sub that was told nothing -/
structure TInv (M : Int) (th : Int) (i : Nat) (d : PeerD) (s : NSt) : Prop where
  good : NGood s
  c : s.c = cA
  D : s.D = [d]
  id : d.1 = idb
  g0 : d.2.1.1 = 0
  g1 : d.2.1.2.1 = (i : Int)
  cap : d.2.2.1 = 5
  vals : ∀ x ∈ d.2.2.2.1, 0 ≤ x ∧ x ≤ M
  last : d.2.2.2.2 = s.now
  now : s.now ≤ M * i
  S : s.S = [(idb, th, false)]
theorem lv_one {s : NSt} {d : PeerD} (hD : s.D = [d]) (hid : d.1 = idb) : s.lv idb = plv (cfl s.c) s.now d := by
  unfold NSt.lv lvOf fnd
  rw [hD]
  simp [hid]
theorem plv_zero {least now : Int} {d : PeerD} (hv : ∀ x ∈ d.2.2.2.1, 0 ≤ x) (hl : d.2.2.2.2 = now) : plv least now d = 0 := by
  have h := s1_nn _ hv
  unfold plv Lv.lvF
  rw [Lv.sp_zero _ (by rw [hl]; simp; omega)]
  rfl
theorem tinv_start {M th : Int} (h1 : 1 ≤ th) (h2 : th ≤ 60) (e : Int) (he0 : 1 ≤ e) (he1 : e ≤ M) (hM : M ≤ 1000) : (NSt.start cA).watchE idb e = 0 ∧ ((NSt.start cA).watched idb e).joinE idb th = 0 ∧ TInv M th 0 (newP idb 5 e 0) (((NSt.start cA).watched idb e).joined idb th) := by
  have hwe : (NSt.start cA).watchE idb e = 0 := by
    unfold NSt.watchE
    rw [if_neg (by decide)]
    show addE [] idb 5 e 0 = 0
    unfold addE
    rw [if_neg (by decide), if_neg, if_neg (by decide), if_neg (by decide)]
    intro hb
    unfold ArgBad at hb
    have hw : wi e 0 16777216 = true := wi_true.2 ⟨by omega, by omega⟩
    rw [hw] at hb
    simp at hb
  have hw1 : (NSt.start cA).watched idb e = { NSt.start cA with D := [newP idb 5 e 0] } := by unfold NSt.watched; rw [if_pos hwe]; rfl
  have hx : idxOf [newP idb 5 e 0] idb = some 0 := by unfold idxOf; simp [List.findIdx?_cons, newP]
  have hje : ((NSt.start cA).watched idb e).joinE idb th = 0 := by
    rw [hw1]
    unfold NSt.joinE
    rw [if_neg (by omega)]
    show (if (idxOf [newP idb 5 e 0] idb).isSome = false then (4 : Int) else _) = 0
    rw [hx, if_neg (by decide)]
    show (if 0 ≤ ixI (isSub idb th) [] then (5 : Int) else if ([] : List TriD).length = 8 then 10 else 0) = 0
    rw [if_neg (by unfold ixI; simp), if_neg (by decide)]
  have hg0 := (NGood.start cA_ok).watched idb e
  have hg := hg0.joined idb th
  refine ⟨hwe, hje, ⟨hg, ?_, ?_, rfl, rfl, rfl, rfl, ?_, ?_, ?_, ?_⟩⟩
  all_goals
    try (unfold NSt.joined; rw [if_pos hje, hw1])
  · rfl
  · rfl
  · intro x hx
    rw [List.mem_singleton.1 hx]
    omega
  · rfl
  · show (0 : Int) ≤ M * (0 : Nat); simp
  · show subsTo _ [(idb, th, false)] = _
    have hl : NSt.lv (NSt.plus { NSt.start cA with D := [newP idb 5 e 0] } idb th) idb = 0 := by
      rw [lv_one (d := newP idb 5 e 0) rfl rfl]
      exact plv_zero (fun x hx => by rw [List.mem_singleton.1 hx]; omega) rfl
    unfold subsTo markOf
    simp only [List.map_cons, List.map_nil]
    rw [hl, decide_eq_false (by omega)]
theorem tinv_tick {M th : Int} {i : Nat} {d : PeerD} {s : NSt} (h : TInv M th i d s) (hM : 0 ≤ M) (hMi : M * i ≤ 100000) {g : Int} (h1 : 1 ≤ g) (h2 : g ≤ 200000) : s.tickE g = 0 := by
  unfold NSt.tickE
  rw [if_neg (by omega)]
  have hn := h.now
  have hc : cfe s.c = 100000 := by rw [h.c]; rfl
  rw [hc, if_neg]
  intro hh
  rcases hh with hh | hh
  · omega
  · omega
theorem hearE_new {s : NSt} {x : ByteArray} {k : Nat} {i q : Int} (h : s.kind x = .new k i q) : s.hearE x = 0 ∧ s.mid x = { s with D := heardN s.D k i q s.now } ∧ s.heard x = (s.mid x).tell ∧ s.hearN x = (s.mid x).notes := by
  have he : s.hearE x = 0 := by unfold NSt.hearE; rw [h]
  exact ⟨he, by unfold NSt.mid; rw [h], by unfold NSt.heard; rw [if_pos he], by unfold NSt.hearN; rw [if_pos he]⟩
/-- a node whose only peer is d, and which hears its next beat at its time -/
theorem heard_one {s : NSt} {d : PeerD} {i : Nat} (hD : s.D = [d]) (hid : d.1 = idb) (hg0 : d.2.1.1 = 0) (hg1 : d.2.1.2.1 = (i : Int)) (hi : i ≤ 1000) : s.kind (codeS idb 0 ((i : Int) + 1)) = .new 0 0 ((i : Int) + 1) := by
  have hbe : beatE idb 0 ((i : Int) + 1) = 0 := by
    unfold beatE
    rw [if_pos (by decide), if_pos (by omega)]
  have hx : idxOf s.D idb = some 0 := by unfold idxOf; rw [hD]; simp [List.findIdx?_cons, hid]
  have hn : isNew s.D 0 0 ((i : Int) + 1) = true := by
    unfold isNew
    rw [hD]
    show decide (Newer d.2.1.1 d.2.1.2.1 0 ((i : Int) + 1)) = true
    rw [decide_eq_true_iff, hg0, hg1]
    unfold Newer; omega
  unfold NSt.kind
  rw [decR_code idb 0 ((i : Int) + 1) hbe]
  show (if (0 : Int) ≠ 0 then HK.no 0 else match idxOf s.D idb with | none => .no 4 | some k => if isNew s.D k 0 ((i : Int) + 1) = true then .new k 0 ((i : Int) + 1) else .old k) = _
  rw [if_neg (by decide), hx]
  show (if isNew s.D 0 0 ((i : Int) + 1) = true then HK.new 0 0 ((i : Int) + 1) else .old 0) = _
  rw [if_pos hn]
theorem pushV_mem {cap x y : Int} {v : List Int} (h : y ∈ pushV cap v x) : y ∈ v ∨ y = x := by
  unfold pushV at h
  split at h
  · rcases List.mem_append.1 h with h | h
    · exact .inl h
    · exact .inr (List.mem_singleton.1 h)
  · rcases List.mem_append.1 h with h | h
    · exact .inl (List.mem_of_mem_tail h)
    · exact .inr (List.mem_singleton.1 h)
theorem notes1 (f : ByteArray → Int) (th : Int) (m : Bool) {S : List TriD} (hS : S = [(idb, th, m)]) (v : Int) (hv : f idb = v) : notesOf f S = if decide (th ≤ v) = m then [] else [(idb, th, decide (th ≤ v))] := by
  subst hS hv
  unfold notesOf markOf
  simp only [List.filterMap_cons, List.filterMap_nil]
  by_cases h : decide (th ≤ f idb) = m
  · rw [if_pos h, if_pos h]
  · rw [if_neg h, if_neg h]
theorem subs1 (f : ByteArray → Int) (th : Int) (m : Bool) {S : List TriD} (hS : S = [(idb, th, m)]) (v : Int) (hv : f idb = v) : subsTo f S = [(idb, th, decide (th ≤ v))] := by
  subst hS hv
  rfl
/-- a gap, then a beat -/
theorem tinv_next {M th : Int} {i : Nat} {d : PeerD} {s s1 : NSt} (h : TInv M th i d s) (hM : 0 ≤ M) (hM2 : M ≤ 1000) (hi : i ≤ 100) (hth : 1 ≤ th) {g : Int} (h1 : 1 ≤ g) (h2 : g ≤ M) (hg1 : NGood s1) (hc : s1.c = cA) (hD : s1.D = [d]) (hn : s1.now = s.now + g) (m : Bool) (hS : s1.S = [(idb, th, m)]) :
    s1.hearE (codeS idb 0 ((i : Int) + 1)) = 0 ∧ s1.hearN (codeS idb 0 ((i : Int) + 1)) = (if m = true then [(idb, th, false)] else []) ∧ TInv M th (i + 1) (newD d 0 ((i : Int) + 1) g s1.now) (s1.heard (codeS idb 0 ((i : Int) + 1))) := by
  have hk := heard_one hD h.id h.g0 h.g1 (by omega)
  obtain ⟨he, hm, hh, hN⟩ := hearE_new hk
  have hgm := hg1.heard (codeS idb 0 ((i : Int) + 1))
  have hdl : min (s1.now - d.2.2.2.2) 16777216 = g := by rw [h.last, hn]; omega
  have hD2 : heardN s1.D 0 0 ((i : Int) + 1) s1.now = [newD d 0 ((i : Int) + 1) g s1.now] := by
    unfold heardN
    rw [hD]
    show [d].set 0 (newD d 0 ((i : Int) + 1) (min (s1.now - d.2.2.2.2) 16777216) s1.now) = _
    rw [hdl]; rfl
  rw [hD2] at hm
  have hvals : ∀ x ∈ (newD d 0 ((i : Int) + 1) g s1.now).2.2.2.1, 0 ≤ x ∧ x ≤ M := fun x hx => by
    rcases pushV_mem hx with hx | rfl
    · exact h.vals x hx
    · omega
  have hl : NSt.lv { s1 with D := [newD d 0 ((i : Int) + 1) g s1.now] } idb = 0 := by
    rw [lv_one (d := newD d 0 ((i : Int) + 1) g s1.now) rfl h.id]
    exact plv_zero (fun x hx => (hvals x hx).1) rfl
  refine ⟨he, ?_, ⟨hgm, ?_, ?_, h.id, rfl, ?_, h.cap, hvals, ?_, ?_, ?_⟩⟩
  · rw [hN, hm]
    have := notes1 _ th m hS 0 hl
    rw [decide_eq_false (show ¬ th ≤ 0 by omega)] at this
    show notesOf _ s1.S = _
    rw [this]
    cases m <;> rfl
  · rw [hh, hm]; exact hc
  · rw [hh, hm]; rfl
  · show (i : Int) + 1 = ((i + 1 : Nat) : Int); omega
  · rw [hh, hm]; rfl
  · rw [hh, hm]
    show s1.now ≤ M * ((i + 1 : Nat) : Int)
    have := h.now
    rw [show M * ((i + 1 : Nat) : Int) = M * i + M by rw [show ((i + 1 : Nat) : Int) = i + 1 by omega, Int.mul_add]; omega]
    omega
  · rw [hh, hm]
    show subsTo _ s1.S = _
    rw [subs1 _ th m hS 0 hl, decide_eq_false (show ¬ th ≤ 0 by omega)]
end Go.Proofs.Ytkgekhabafjpiab
