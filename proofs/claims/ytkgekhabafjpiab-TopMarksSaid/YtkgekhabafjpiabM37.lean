/- What holds of peers that Check lets pass; finding among them. (with what it needs) -/
import Derived.Test.YtkgekhabafjpiabM35
import Derived.Test.YtkgekhabafjpiabM36
import Derived.Test.YtkgekhabafjpiabM10
namespace Go.Proofs.Ytkgekhabafjpiab
open Go.RowKit Go.Lib
set_option linter.unusedSimpArgs false
set_option linter.unusedVariables false

theorem bless_irr : ∀ a : List UInt8, Op.bytesLess a a = false
  | [] => rfl
  | a :: x => by
    have h : ¬ a < a := fun h => by have := UInt8.lt_iff_toNat_lt.1 h; omega
    simp [Op.bytesLess, h, bless_irr x]
theorem bless_trans : ∀ a b c : List UInt8, Op.bytesLess a b = true → Op.bytesLess b c = true → Op.bytesLess a c = true
  | _, [], _, h, _ => by simp [Op.bytesLess] at h
  | _, _ :: _, [], _, h => by simp [Op.bytesLess] at h
  | [], _ :: _, _ :: _, _, _ => rfl
  | a :: x, b :: y, c :: z, h1, h2 => by
    simp only [Op.bytesLess, Bool.or_eq_true, Bool.and_eq_true, decide_eq_true_eq, beq_iff_eq] at h1 h2 ⊢
    rcases h1 with h1 | ⟨rfl, h1⟩
    · rcases h2 with h2 | ⟨rfl, h2⟩
      · left
        have := UInt8.lt_iff_toNat_lt.1 h1
        have := UInt8.lt_iff_toNat_lt.1 h2
        exact UInt8.lt_iff_toNat_lt.2 (by omega)
      · exact .inl h1
    · rcases h2 with h2 | ⟨rfl, h2⟩
      · exact .inl h2
      · exact .inr ⟨rfl, bless_trans x y z h1 h2⟩
theorem lessB_irr (a : ByteArray) : lessB a a = false := bless_irr _
theorem lessB_trans {a b c : ByteArray} (h1 : lessB a b = true) (h2 : lessB b c = true) : lessB a c = true := bless_trans _ _ _ h1 h2
/-- a peer that may be -/
def PeerGood (p : PeerT) : Prop := idB (pid p) = true ∧ GateOk (pgi p) (pgs p) (pgd p) ∧ winE (pcap p) (pvals p) = 0 ∧ 0 ≤ plast p ∧ plast p ≤ 1073741824
theorem peerE_zero {p : PeerT} (h : peerE p = 0) : PeerGood p := by
  unfold peerE at h
  split at h
  · rename_i h1
    split at h
    · rename_i h2
      split at h
      · rename_i h3
        split at h
        · rename_i h4
          exact ⟨h1, h2, h3, (wi_true.1 h4).1, (wi_true.1 h4).2⟩
        · simp at h
      · contradiction
    · simp at h
  · simp at h
theorem peerE_of {p : PeerT} (h : PeerGood p) : peerE p = 0 := by
  obtain ⟨h1, h2, h3, h4, h5⟩ := h
  unfold peerE
  rw [if_pos h1, if_pos h2, if_pos h3, if_pos (wi_true.2 ⟨h4, h5⟩)]
theorem chkE_zero : ∀ (l : List PeerT) (a : ByteArray), chkE a l = 0 → (∀ p ∈ l, PeerGood p ∧ lessB a (pid p) = true) ∧ ∀ i j, (hi : i < l.length) → (hj : j < l.length) → i < j → lessB (pid (l[i]'hi)) (pid (l[j]'hj)) = true
  | [], a, _ => ⟨fun p hp => (by cases hp), fun i j hi => by simp at hi⟩
  | p :: l, a, h => by
    unfold chkE at h
    by_cases h1 : peerE p = 0
    · rw [if_pos h1] at h
      by_cases h2 : lessB a (pid p) = true
      · rw [if_pos h2] at h
        obtain ⟨i1, i2⟩ := chkE_zero l (pid p) h
        refine ⟨fun q hq => ?_, fun i j hi hj hij => ?_⟩
        · rcases List.mem_cons.1 hq with rfl | hq
          · exact ⟨peerE_zero h1, h2⟩
          · exact ⟨(i1 q hq).1, lessB_trans h2 (i1 q hq).2⟩
        · obtain ⟨j, rfl⟩ : ∃ j', j = j' + 1 := ⟨j - 1, by omega⟩
          cases i with
          | zero => exact (i1 _ (List.getElem_mem (by simpa using hj))).2
          | succ i => exact i2 i j (by simpa using hi) (by simpa using hj) (by omega)
      · rw [if_neg h2] at h; simp at h
    · rw [if_neg h1] at h; contradiction
def Asc6 (l : List PeerT) : Prop := ∀ i j, (hi : i < l.length) → (hj : j < l.length) → i < j → lessB (pid (l[i]'hi)) (pid (l[j]'hj)) = true
theorem peersE_zero {l : List PeerT} (h : peersE l = 0) : l.length ≤ 6 ∧ (∀ p ∈ l, PeerGood p) ∧ Asc6 l := by
  unfold peersE at h
  split at h
  · simp at h
  · obtain ⟨h1, h2⟩ := chkE_zero l _ h
    exact ⟨by omega, fun p hp => (h1 p hp).1, h2⟩
theorem good64 {p : PeerT} (h : PeerGood p) : (pvals p).length ≤ 64 := by have := winE_zero h.2.2.1; omega
theorem asc_ne {l : List PeerT} (h : Asc6 l) {i j : Nat} (hi : i < l.length) (hj : j < l.length) (hij : i < j) : pid (l[i]'hi) ≠ pid (l[j]'hj) := fun e => by
  have := h i j hi hj hij
  rw [e, lessB_irr] at this
  cases this
section
variable (A : Option Addr) (c B n : Nat) (l : List PeerT)
theorem find_some (ha : Asc6 l) (k : Nat) (hk : k < l.length) (hm : n ≤ 1000) (w : World) (hp : Peers w B A n l) (hB : B ≤ w.heap.size) :
    Calls Try.prog 33 #[.slice A n c, .string (pid (l[k]'hk))] w fun e w' => e = .returned (.tuple #[.int .i64 (k : Int), .bool true]) ∧ Below w.heap.size w w' := by
  refine find_is A c B n l _ k true (by have := hp.len; omega) hm (fun j hj hjk => ha j k hj hk hjk) (fun j hj hjk => ?_) ⟨fun _ => ⟨hk, rfl⟩, fun _ => rfl⟩ w hp hB
  rcases Nat.lt_or_ge k j with h | h
  · cases hq : lessB (pid (l[j]'hj)) (pid (l[k]'hk))
    · rfl
    · have := lessB_trans hq (ha k j hk hj h)
      rw [lessB_irr] at this
      cases this
  · have : j = k := by omega
    subst this
    exact lessB_irr _
theorem first_not (p : Nat → Bool) : ∀ m, ∃ i0, i0 ≤ m ∧ (∀ j, j < i0 → p j = true) ∧ (i0 = m ∨ p i0 = false)
  | 0 => ⟨0, Nat.le_refl _, fun j h => absurd h (by omega), .inl rfl⟩
  | m + 1 => by
    obtain ⟨i0, h1, h2, h3⟩ := first_not p m
    rcases h3 with rfl | h3
    · cases hq : p i0
      · exact ⟨i0, by omega, h2, .inr hq⟩
      · exact ⟨i0 + 1, Nat.le_refl _, fun j hj => by
          by_cases h : j = i0
          · subst h; exact hq
          · exact h2 j (by omega), .inl rfl⟩
    · exact ⟨i0, by omega, h2, .inr h3⟩
theorem find_none (ha : Asc6 l) (id : ByteArray) (hno : ∀ j, (hj : j < l.length) → pid (l[j]'hj) ≠ id) (hln : l.length = n) (hm : n ≤ 1000) :
    ∃ i0, i0 ≤ n ∧ (∀ j, (hj : j < l.length) → j < i0 → lessB (pid (l[j]'hj)) id = true) ∧ (∀ j, (hj : j < l.length) → i0 ≤ j → lessB (pid (l[j]'hj)) id = false) ∧ ∀ (w : World) (hp : Peers w B A n l) (hB : B ≤ w.heap.size),
      Calls Try.prog 33 #[.slice A n c, .string id] w fun e w' => e = .returned (.tuple #[.int .i64 (i0 : Int), .bool false]) ∧ Below w.heap.size w w' := by
  obtain ⟨i0, h1, h2, h3⟩ := first_not (fun j => if hj : j < l.length then lessB (pid (l[j]'hj)) id else true) n
  have hlo : ∀ j, (hj : j < l.length) → j < i0 → lessB (pid (l[j]'hj)) id = true := fun j hj hji => by
    have := h2 j hji
    rwa [dif_pos hj] at this
  have hhi : ∀ j, (hj : j < l.length) → i0 ≤ j → lessB (pid (l[j]'hj)) id = false := fun j hj hij => by
    rcases h3 with rfl | h3
    · omega
    · have hi : i0 < l.length := by omega
      simp only [dif_pos hi] at h3
      rcases Nat.lt_or_ge i0 j with h | h
      · cases hq : lessB (pid (l[j]'hj)) id
        · rfl
        · have := lessB_trans (ha i0 j hi hj h) hq
          rw [h3] at this
          cases this
      · have : j = i0 := by omega
        subst this
        exact h3
  refine ⟨i0, h1, hlo, hhi, fun w hp hB => find_is A c B n l id i0 false h1 hm hlo hhi ⟨fun h => (by cases h), fun ⟨hj, h⟩ => absurd h (hno i0 hj)⟩ w hp hB⟩
end
theorem find_cases (l : List PeerT) (id : ByteArray) : (∃ k, ∃ hk : k < l.length, pid (l[k]'hk) = id) ∨ ∀ j, (hj : j < l.length) → pid (l[j]'hj) ≠ id := by
  by_cases h : ∃ k, ∃ hk : k < l.length, pid (l[k]'hk) = id
  · exact .inl h
  · exact .inr fun j hj e => h ⟨j, hj, e⟩
end Go.Proofs.Ytkgekhabafjpiab

namespace Go.Proofs.Ytkgekhabafjpiab
open Go.RowKit Go.Lib
set_option linter.unusedSimpArgs false
set_option linter.unusedVariables false

/-- a node's settings: its name, its incarnation, ticks between two beats, values of a window, the least spread -/
abbrev CfgD := ByteArray × Int × Int × Int × Int
abbrev cfi (c : CfgD) : Int := c.2.1
abbrev cfe (c : CfgD) : Int := c.2.2.1
abbrev cfc (c : CfgD) : Int := c.2.2.2.1
abbrev cfl (c : CfgD) : Int := c.2.2.2.2
def CfgIn (c : CfgD) : Prop := 0 ≤ cfi c ∧ cfi c ≤ 2147483647 ∧ 1 ≤ cfe c ∧ cfe c ≤ 16777216 ∧ 1 ≤ cfc c ∧ cfc c ≤ 64 ∧ 1 ≤ cfl c ∧ cfl c ≤ 16777216
/-- its level of a peer -/
def plv (least now : Int) (d : PeerD) : Int := ((Lv.lvF (lvV d.2.2.2.1.length (s1 d.2.2.2.1) (s2 d.2.2.2.1) least).toNat d.2.2.2.1.length (s1 d.2.2.2.1) (now - d.2.2.2.2) : Nat) : Int)
/-- may the level of a peer be asked? -/
def PlOk (least now : Int) (d : PeerD) : Prop := lookE d.2.2.1 least d.2.2.2.1 = 0 ∧ 0 ≤ now - d.2.2.2.2 ∧ now - d.2.2.2.2 ≤ 1073741824
def fnd (D : List PeerD) (id : ByteArray) : Option PeerD := D.find? (fun d => decide (d.1 = id))
def lvOf (least now : Int) (D : List PeerD) (id : ByteArray) : Int := match fnd D id with | some d => plv least now d | none => 0
def lvEr (D : List PeerD) (id : ByteArray) : Int := match fnd D id with | some _ => 0 | none => 4
theorem lvV_nat {N S Q least : Int} (hs : sumsE N S Q = 0) (hN : 1 ≤ N) (h0 : 1 ≤ least) (h1 : least ≤ 16777216) : ((lvV N S Q least).toNat : Int) = lvV N S Q least := by
  have h2 : 1 ≤ N * least := by have := Int.mul_le_mul hN h0 (by omega) (by omega); omega
  have h3 : 0 ≤ lvM N least := by unfold lvM; exact Int.mul_nonneg (by omega) (by omega)
  unfold lvV
  split <;> omega
/-- the first peer of a name -/
theorem fnd_some {D : List PeerD} {id : ByteArray} {d : PeerD} (h : fnd D id = some d) : ∃ k, ∃ hk : k < D.length, D[k]'hk = d ∧ (D[k]'hk).1 = id ∧ ∀ j, (hj : j < D.length) → j < k → (D[j]'hj).1 ≠ id := by
  unfold fnd at h
  rw [List.find?_eq_some_iff_getElem] at h
  obtain ⟨h1, k, hk, h2, h3⟩ := h
  exact ⟨k, hk, h2, by rw [h2]; simpa using h1, fun j hj hjk => by have := h3 j hjk; simpa using this⟩
theorem fnd_none {D : List PeerD} {id : ByteArray} (h : fnd D id = none) : ∀ j, (hj : j < D.length) → (D[j]'hj).1 ≠ id := by
  unfold fnd at h
  rw [List.find?_eq_none] at h
  intro j hj e
  exact h _ (List.getElem_mem hj) (by simpa using e)
/-- what subs are told: those whose mark turns -/
def markOf (f : ByteArray → Int) (s : TriD) : Bool := decide (s.2.1 ≤ f s.1)
def subsTo (f : ByteArray → Int) (S : List TriD) : List TriD := S.map fun s => (s.1, s.2.1, markOf f s)
def notesOf (f : ByteArray → Int) (S : List TriD) : List TriD := S.filterMap fun s => if markOf f s = s.2.2 then none else some (s.1, s.2.1, markOf f s)
theorem notesOf_snoc (f : ByteArray → Int) (S : List TriD) (k : Nat) (h : k < S.length) : notesOf f (S.take (k + 1)) = notesOf f (S.take k) ++ (if markOf f (S[k]'h) = (S[k]'h).2.2 then [] else [((S[k]'h).1, (S[k]'h).2.1, markOf f (S[k]'h))]) := by
  unfold notesOf
  rw [List.take_succ_eq_append_getElem h, List.filterMap_append]
  congr 1
  by_cases he : markOf f (S[k]'h) = (S[k]'h).2.2
  · simp [he]
  · simp [he]
theorem notesOf_le (f : ByteArray → Int) (S : List TriD) : (notesOf f S).length ≤ S.length := List.length_filterMap_le _ _
/-- subs of which the first k were told -/
def subsMid (f : ByteArray → Int) (S : List TriD) (k : Nat) : List TriD := subsTo f (S.take k) ++ S.drop k
theorem subsMid_zero (f : ByteArray → Int) (S : List TriD) : subsMid f S 0 = S := rfl
theorem subsMid_len (f : ByteArray → Int) (S : List TriD) (k : Nat) : (subsMid f S k).length = S.length := by unfold subsMid subsTo; simp; omega
theorem subsMid_all (f : ByteArray → Int) (S : List TriD) (k : Nat) (h : S.length ≤ k) : subsMid f S k = subsTo f S := by unfold subsMid; rw [List.take_of_length_le h, List.drop_of_length_le h, List.append_nil]
theorem subsMid_get (f : ByteArray → Int) (S : List TriD) (k : Nat) (h : k < S.length) : (subsMid f S k)[k]? = some (S[k]'h) := by
  have hl : (subsTo f (S.take k)).length = k := by unfold subsTo; simp; omega
  unfold subsMid
  rw [List.getElem?_append_right (by omega), hl, Nat.sub_self, List.getElem?_drop, Nat.add_zero, List.getElem?_eq_getElem h]
theorem subsMid_at (f : ByteArray → Int) (S : List TriD) (k : Nat) (h : k < S.length) (h' : k < (subsMid f S k).length) : (subsMid f S k)[k]'h' = S[k]'h := by
  have := subsMid_get f S k h
  rw [List.getElem?_eq_getElem h'] at this
  injection this
theorem subsMid_succ (f : ByteArray → Int) (S : List TriD) (k : Nat) (h : k < S.length) : subsMid f S (k + 1) = (subsMid f S k).set k ((S[k]'h).1, (S[k]'h).2.1, markOf f (S[k]'h)) := by
  have hl : (subsTo f (S.take k)).length = k := by unfold subsTo; simp; omega
  have e1 : subsTo f (S.take (k + 1)) = subsTo f (S.take k) ++ [((S[k]'h).1, (S[k]'h).2.1, markOf f (S[k]'h))] := by
    unfold subsTo
    rw [List.take_succ_eq_append_getElem h, List.map_append]
    rfl
  unfold subsMid
  rw [List.set_append_right _ _ (by omega), hl, Nat.sub_self, List.drop_eq_getElem_cons h, e1, List.append_assoc]
  rfl
/-- one whose mark does not turn stays -/
theorem subsMid_stay (f : ByteArray → Int) (S : List TriD) (k : Nat) (h : k < S.length) (he : markOf f (S[k]'h) = (S[k]'h).2.2) : subsMid f S (k + 1) = subsMid f S k := by
  rw [subsMid_succ f S k h, he]
  have h' : k < (subsMid f S k).length := by rw [subsMid_len]; exact h
  have := subsMid_at f S k h h'
  rw [← this]
  exact List.set_getElem_self h'
end Go.Proofs.Ytkgekhabafjpiab
