/- Peers, plainly: how they stand in memory, what Check says of them. -/
import Derived.Test.YthimchhnhhchkaaGreatDoorM04
import Derived.Test.YthimchhnhhchkaaGreatDoorM13
import Derived.Test.YthimchhnhhchkaaGreatDoorM08
namespace Go.Proofs.YthimchhnhhchkaaGreatDoor
open Go.RowKit Go.Lib
set_option linter.unusedSimpArgs false
set_option linter.unusedVariables false

/-- a peer: its name, its gate, its window, when it was heard of -/
abbrev PeerD := ByteArray × (Int × Int × Int) × Int × List Int × Int
/-- a peer as it stands in memory: where its window's values lie, and their room -/
abbrev PeerT := PeerD × Option Addr × Nat
abbrev pid (p : PeerT) : ByteArray := p.1.1
abbrev pgi (p : PeerT) : Int := p.1.2.1.1
abbrev pgs (p : PeerT) : Int := p.1.2.1.2.1
abbrev pgd (p : PeerT) : Int := p.1.2.1.2.2
abbrev pcap (p : PeerT) : Int := p.1.2.2.1
abbrev pvals (p : PeerT) : List Int := p.1.2.2.2.1
abbrev plast (p : PeerT) : Int := p.1.2.2.2.2
abbrev psl (p : PeerT) : Value := .slice p.2.1 (pvals p).length p.2.2
def pcells (p : PeerT) : List Value := [.string (pid p), .int .i64 (pgi p), .int .i64 (pgs p), .int .i64 (pgd p), .int .i64 (pcap p), psl p, .int .i64 (plast p)]
def pagg (p : PeerT) : Value := .agg (pcells p).toArray
def cellsP : List PeerT → List Value
  | [] => []
  | p :: l => pcells p ++ cellsP l
theorem pcells_len (p : PeerT) : (pcells p).length = 7 := rfl
theorem cellsP_len : ∀ l : List PeerT, (cellsP l).length = l.length * 7
  | [] => rfl
  | p :: l => by simp only [cellsP, List.length_append, pcells_len, List.length_cons, cellsP_len l]; omega
theorem cellsP_app (l m : List PeerT) : cellsP (l ++ m) = cellsP l ++ cellsP m := by
  induction l with
  | nil => rfl
  | cons x l ih => simp [cellsP, ih]
theorem cellsP_at : ∀ (l : List PeerT) (k j : Nat) (h : k < l.length), j < 7 → (cellsP l)[k * 7 + j]? = (pcells (l[k]'h))[j]?
  | [], k, j, h, _ => by simp at h
  | p :: l, 0, j, _, hj => by
    rw [Nat.zero_mul, Nat.zero_add]
    simp only [cellsP]
    rw [List.getElem?_append_left (by rw [pcells_len]; exact hj)]
    rfl
  | p :: l, k + 1, j, h, hj => by
    simp only [cellsP]
    rw [List.getElem?_append_right (by rw [pcells_len]; omega), pcells_len, show (k + 1) * 7 + j - 7 = k * 7 + j by omega, cellsP_at l k j (by simpa using h) hj]
    rfl
theorem oneCell_p (p : PeerT) : ∀ u ∈ pcells p, u.oneCell' = true := by
  intro u hu
  simp only [pcells, List.mem_cons, List.not_mem_nil, or_false] at hu
  rcases hu with rfl | rfl | rfl | rfl | rfl | rfl | rfl <;> rfl
theorem oneCell_peers (l : List PeerT) : ∀ u ∈ cellsP l, u.oneCell' = true := by
  induction l with
  | nil => intro u hu; cases hu
  | cons p l ih =>
    intro u hu
    rcases List.mem_append.1 hu with hu | hu
    · exact oneCell_p p u hu
    · exact ih u hu
/-- its window's values lie there -/
def PeerOk (w : World) (B : Nat) (p : PeerT) : Prop := Reads w B 1 p.2.1 (pvals p).length (cellsI (pvals p)) ∧ (pvals p).length ≤ p.2.2 ∧ p.2.2 ≤ maxLen ∧ (pid p).size ≤ maxLen
theorem PeerOk.below {w w' : World} {B C : Nat} {p : PeerT} (h : PeerOk w B p) (hb : Below C w w') (hC : B ≤ C) : PeerOk w' B p := ⟨h.1.below hb hC, h.2⟩
theorem PeerOk.more {w : World} {B C : Nat} {p : PeerT} (h : PeerOk w B p) (hC : B ≤ C) : PeerOk w C p := ⟨h.1.more hC, h.2⟩
/-- the seven cells of a peer -/
def PeerC (w : World) (b off : Nat) (p : PeerT) : Prop :=
  w.cell? ⟨b, off, none⟩ = some (.string (pid p)) ∧ w.cell? ⟨b, off + 1, none⟩ = some (.int .i64 (pgi p)) ∧ w.cell? ⟨b, off + 2, none⟩ = some (.int .i64 (pgs p)) ∧ w.cell? ⟨b, off + 3, none⟩ = some (.int .i64 (pgd p)) ∧
    w.cell? ⟨b, off + 4, none⟩ = some (.int .i64 (pcap p)) ∧ w.cell? ⟨b, off + 5, none⟩ = some (psl p) ∧ w.cell? ⟨b, off + 6, none⟩ = some (.int .i64 (plast p))
/-- peers in a list -/
def Peers (w : World) (B : Nat) (A : Option Addr) (n : Nat) (l : List PeerT) : Prop := l.length = n ∧ Reads w B 7 A n (cellsP l) ∧ ∀ p ∈ l, PeerOk w B p
theorem Peers.len {w : World} {B n : Nat} {A : Option Addr} {l : List PeerT} (h : Peers w B A n l) : l.length = n := h.1
theorem Peers.row {w : World} {B n : Nat} {A : Option Addr} {l : List PeerT} (h : Peers w B A n l) : Reads w B 7 A n (cellsP l) := h.2.1
theorem Peers.ok {w : World} {B n : Nat} {A : Option Addr} {l : List PeerT} (h : Peers w B A n l) : ∀ p ∈ l, PeerOk w B p := h.2.2
theorem Peers.below {w w' : World} {B C n : Nat} {A : Option Addr} {l : List PeerT} (h : Peers w B A n l) (hb : Below C w w') (hC : B ≤ C) : Peers w' B A n l := ⟨h.1, h.2.1.below hb hC, fun p hp => (h.2.2 p hp).below hb hC⟩
theorem Peers.more {w : World} {B C n : Nat} {A : Option Addr} {l : List PeerT} (h : Peers w B A n l) (hC : B ≤ C) : Peers w C A n l := ⟨h.1, h.2.1.more hC, fun p hp => (h.2.2 p hp).more hC⟩
theorem Reads.addrN {w : World} {B n size : Nat} {A : Option Addr} {xs : List Value} (h : Reads w B size A n xs) (hn : 0 < n) (hs : 0 < size) :
    ∃ b off, A = some ⟨b, off, none⟩ ∧ b < B ∧ ∀ k u, xs[k]? = some u → w.cell? ⟨b, off + k, none⟩ = some u := by
  obtain ⟨ad, e, hb, hc⟩ := h.2 hn
  have hl : 0 < xs.length := by rw [h.1]; exact Nat.mul_pos hn hs
  have h0 := hc 0 _ (List.getElem?_eq_getElem hl)
  obtain ⟨b, off, spot⟩ := ad
  have hsp : spot = none := by simpa [Addr.add] using World.cell?_spot h0
  subst hsp
  refine ⟨b, off, e, hb, fun k u hu => ?_⟩
  have := hc k u hu
  by_cases hk : k = 0
  · subst hk; simpa [Addr.add] using this
  · simpa [Addr.add, hk] using this
theorem Peers.addr {w : World} {B n : Nat} {A : Option Addr} {l : List PeerT} (h : Peers w B A n l) (hn : 0 < n) :
    ∃ b off, A = some ⟨b, off, none⟩ ∧ b < B ∧ ∀ k, (hk : k < l.length) → PeerC w b (off + k * 7) (l[k]'hk) := by
  obtain ⟨b, off, e, hb, hc⟩ := h.row.addrN hn (by decide)
  refine ⟨b, off, e, hb, fun k hk => ?_⟩
  have at' : ∀ j v, j < 7 → (pcells (l[k]'hk))[j]? = some v → w.cell? ⟨b, off + k * 7 + j, none⟩ = some v := fun j v hj hv => by
    rw [Nat.add_assoc]
    exact hc _ _ ((cellsP_at l k j hk hj).trans hv)
  exact ⟨at' 0 _ (by decide) rfl, at' 1 _ (by decide) rfl, at' 2 _ (by decide) rfl, at' 3 _ (by decide) rfl, at' 4 _ (by decide) rfl, at' 5 _ (by decide) rfl, at' 6 _ (by decide) rfl⟩

/-- is a name less than another? -/
def lessB (a b : ByteArray) : Bool := Op.bytesLess a.toList b.toList
theorem less_total : ∀ a b : List UInt8, (!Op.bytesLess a b) = (Op.bytesLess b a || b == a)
  | [], [] => rfl
  | [], b :: y => by simp [Op.bytesLess]
  | a :: x, [] => by simp [Op.bytesLess]
  | a :: x, b :: y => by
    have ih := less_total x y
    rcases Nat.lt_trichotomy a.toNat b.toNat with h | h | h
    · have h1 : a < b := UInt8.lt_iff_toNat_lt.2 h
      have h2 : ¬ b < a := fun h2 => by have := UInt8.lt_iff_toNat_lt.1 h2; omega
      have h3 : ¬ b = a := fun e => by rw [e] at h; omega
      simp [Op.bytesLess, h1, h2, h3]
    · have e := UInt8.toNat_inj.1 h
      subst e
      have h1 : ¬ a < a := fun h1 => by have := UInt8.lt_iff_toNat_lt.1 h1; omega
      have e1 : Op.bytesLess (a :: x) (a :: y) = Op.bytesLess x y := by simp [Op.bytesLess, h1]
      have e2 : Op.bytesLess (a :: y) (a :: x) = Op.bytesLess y x := by simp [Op.bytesLess, h1]
      have e3 : ((a :: y) == (a :: x)) = (y == x) := by simp
      rw [e1, e2, e3, ih]
    · have h1 : ¬ a < b := fun h1 => by have := UInt8.lt_iff_toNat_lt.1 h1; omega
      have h2 : b < a := UInt8.lt_iff_toNat_lt.2 h
      have h3 : ¬ a = b := fun e => by rw [e] at h; omega
      simp [Op.bytesLess, h1, h2, h3]
/-- what one peer by itself is told -/
def peerE (p : PeerT) : Int := if idB (pid p) = true then (if GateOk (pgi p) (pgs p) (pgd p) then (if winE (pcap p) (pvals p) = 0 then (if wi (plast p) 0 1073741824 = true then 0 else 1) else winE (pcap p) (pvals p)) else 1) else 3
/-- peers from one on, behind one of that name -/
def chkE : ByteArray → List PeerT → Int
  | _, [] => 0
  | a, p :: l => if peerE p = 0 then (if lessB a (pid p) = true then chkE (pid p) l else 3) else peerE p
def peersE (l : List PeerT) : Int := if 6 < l.length then 2 else chkE ⟨#[]⟩ l
/-- the name before -/
def prevId (l : List PeerT) (k : Nat) : ByteArray := if k = 0 then ⟨#[]⟩ else pid (l.getD (k - 1) ((⟨#[]⟩, (0, 0, 0), 0, [], 0), none, 0))
theorem prevId_succ (l : List PeerT) (k : Nat) (h : k < l.length) : prevId l (k + 1) = pid (l[k]'h) := by
  unfold prevId
  rw [if_neg (by omega), Nat.add_sub_cancel]
  simp [List.getD, h]
theorem chk_drop (l : List PeerT) (a : ByteArray) (k : Nat) (h : k < l.length) : chkE a (l.drop k) = if peerE (l[k]'h) = 0 then (if lessB a (pid (l[k]'h)) = true then chkE (pid (l[k]'h)) (l.drop (k + 1)) else 3) else peerE (l[k]'h) := by
  rw [List.drop_eq_getElem_cons h]
  rfl
theorem idB_ne {s : ByteArray} (h : idB s = true) : 1 ≤ s.size ∧ s.size ≤ 8 := by
  unfold idB at h
  rw [Bool.and_eq_true] at h
  have := wi_true.1 h.1
  omega
theorem less_empty {s : ByteArray} (h : 1 ≤ s.size) : lessB ⟨#[]⟩ s = true := by
  unfold lessB
  rw [ByteArray.toList_eq, ByteArray.toList_eq]
  cases hq : s.data.toList with
  | nil => exfalso; have := congrArg List.length hq; rw [Array.length_toList] at this; have h2 : s.size = 0 := this; omega
  | cons b l => rfl
end Go.Proofs.YthimchhnhhchkaaGreatDoor
