/- The desk's small words: a fault, the next word, the end of the words, is there a town? (with what it needs) -/
import Derived.Test.YthimchhnhhchkaaGreatDoorM29
import Derived.Test.YthimchhnhhchkaaGreatDoorM40
import Derived.BigQuiet
import Derived.Deep.QuietTactic
import Derived.Recover
import Derived.Test.YthimchhnhhchkaaGreatDoorM23
import Derived.Test.YthimchhnhhchkaaGreatDoorM21
import Derived.Lib.AtoiErrMem
import Derived.Test.YthimchhnhhchkaaGreatDoorM33
namespace Go.Proofs.YthimchhnhhchkaaGreatDoor
open Go.RowKit Go.Lib
set_option linter.unusedSimpArgs false
set_option linter.unusedVariables false

/-- the end with a fault -/
def fltE (e : Int) : Ending := .panicked [{ v := .iface 55 (.agg #[.int .i64 e]), recovered := false }]
set_option maxRecDepth 100000 in
theorem bad_any (e : Int) (w : World) : Calls Tryz.prog 43 #[.int .i64 e] w fun x w' => x = fltE e ∧ w = w' := by
  go_enter Tryz.func43, Tryz.ntmps43
  go_wp2
  exact ⟨rfl, rfl, rfl⟩
set_option maxRecDepth 100000 in
theorem must_ok (w : World) : Calls Tryz.prog 44 #[.int .i64 0] w fun x w' => x = .returned (.tuple #[]) ∧ w = w' := by
  go_enter Tryz.func44, Tryz.ntmps44
  go_wp2
  go_end0
  exact ⟨rfl, rfl⟩
set_option maxRecDepth 100000 in
theorem must_no (e : Int) (h : e ≠ 0) (w : World) : Calls Tryz.prog 44 #[.int .i64 e] w fun x w' => x = fltE e ∧ w = w' := by
  have hb0 : (e == 0) = false := by simpa using h
  have hb1 : (e != 0) = true := by simpa using h
  clear h
  go_enter Tryz.func44, Tryz.ntmps44
  go_wp2_with fail
  refine (bad_any e w).mono ?_
  rintro e' w1 ⟨rfl, rfl⟩
  simp only [fltE]
  go_wp2
  exact ⟨rfl, rfl, rfl⟩
theorem kept_drewN {X : Nat → Prop} {w w1 : World} (h : Kept X w w1) (n : Nat) : Kept X w (w1.drewN n) := ⟨h.os, h.tape, h.output, h.size, h.block⟩
/-- the words of a line, and which is next -/
def Wds (W : World) (wb : Nat) (A : Option Addr) (n c : Nat) (at_ : Nat) : Prop := Blk W wb 59 #[.slice A n c, .int .i64 (at_ : Int)]
set_option maxRecDepth 100000 in
theorem end_ok (wb : Nat) (A : Option Addr) (n c : Nat) (w : World) (h : Wds w wb A n c n) : Calls Tryz.prog 21 #[.pointer (some ⟨wb, 0, none⟩)] w fun x w' => x = .returned (.tuple #[]) ∧ Below w.heap.size w w' := by
  have hlt := h.lt
  have c0 := h.cell 0
  have c1 := h.cell 1
  simp at c0 c1
  clear h
  go_enter Tryz.func21, Tryz.ntmps21
  go_wp2
  go_quiet (fail)
  go_wp2
  go_end0
  exact ⟨rfl, below_drewN (Below.refl _ _) _⟩
set_option maxRecDepth 100000 in
theorem end_no (wb : Nat) (A : Option Addr) (n c i : Nat) (hi : i ≠ n) (w : World) (h : Wds w wb A n c i) : Calls Tryz.prog 21 #[.pointer (some ⟨wb, 0, none⟩)] w fun x w' => x = fltE 11 ∧ Below w.heap.size w w' := by
  have hlt := h.lt
  have c0 := h.cell 0
  have c1 := h.cell 1
  simp at c0 c1
  have hb0 : ((i : Int) == (n : Int)) = false := by simp; omega
  have hb1 : ((i : Int) != (n : Int)) = true := by simp; omega
  clear h
  go_enter Tryz.func21, Tryz.ntmps21
  go_wp2
  go_quiet (fail)
  go_wp2_with fail
  refine (bad_any 11 _).mono ?_
  rintro e' w1 ⟨rfl, rfl⟩
  simp only [fltE]
  go_wp2
  exact ⟨rfl, rfl, below_drewN (Below.refl _ _) _⟩
set_option maxRecDepth 100000 in
/-- no word is left -/
theorem next_no (wb : Nat) (A : Option Addr) (n c : Nat) (w : World) (h : Wds w wb A n c n) : Calls Tryz.prog 42 #[.pointer (some ⟨wb, 0, none⟩)] w fun x w' => x = fltE 11 ∧ Below w.heap.size w w' := by
  have hlt := h.lt
  have c0 := h.cell 0
  have c1 := h.cell 1
  simp at c0 c1
  clear h
  go_enter Tryz.func42, Tryz.ntmps42
  go_wp2
  go_quiet (fail)
  go_wp2_with fail
  refine (bad_any 11 _).mono ?_
  rintro e' w1 ⟨rfl, rfl⟩
  simp only [fltE]
  go_wp2
  exact ⟨rfl, rfl, below_drewN (Below.refl _ _) _⟩
set_option maxRecDepth 100000 in
theorem next_ok (wb : Nat) (A : Option Addr) (n c i : Nat) (l : List ByteArray) (hl : l.length = n) (hc : n ≤ c) (hm : c ≤ maxLen) (hi : i < n) (w : World) (h : Wds w wb A n c i) (hr : Reads w w.heap.size 1 A n (cellsTx l)) (hx : ∀ a, A = some a → a.block ≠ wb) :
    Calls Tryz.prog 42 #[.pointer (some ⟨wb, 0, none⟩)] w fun x w' => x = .returned (.string (l[i]'(by omega))) ∧ Kept (· = wb) w w' ∧ Wds w' wb A n c (i + 1) := by
  have hlt := h.lt
  have c0 := h.cell 0
  have c1 := h.cell 1
  have z1 := h.frozen 1
  simp at c0 c1
  obtain ⟨g, off, rfl, hg, hcs⟩ := hr.addr (by omega)
  have hck := hcs i (.string (l[i]'(by omega))) (by simp [cellsTx, hl, hi])
  have hgw : g ≠ wb := hx _ rfl
  have hb0 : ((i : Int) == (n : Int)) = false := by simp; omega
  have HW := Lib.hid (fun n1 n2 => show Kept (fun x => x = wb) w (((w.drewN n1).setCell ⟨wb, 1, none⟩ (.int .i64 ((i : Int) + 1))).drewN n2) ∧ Wds (((w.drewN n1).setCell ⟨wb, 1, none⟩ (.int .i64 ((i : Int) + 1))).drewN n2) wb (some ⟨g, off, none⟩) n c (i + 1) from
    ⟨kept_drewN (Kept.setCell (X := fun x => x = wb) (a := ⟨wb, 1, none⟩) (kept_drewN (Kept.refl _ w) n1) (.inl rfl) _) n2, by have := ((h.drewN n1).set_ 1 (.int .i64 ((i : Int) + 1))).drewN n2; simpa [Wds] using this⟩)
  unfold maxLen at hm
  generalize l[i]'(by omega) = s at *
  clear h hr hcs hx
  go_enter Tryz.func42, Tryz.ntmps42
  go_wp2
  go_quiet (fail)
  go_wp2
  go_quiet (fail)
  go_wp2
  go_ret
  exact ⟨rfl, HW.out _ _⟩
end Go.Proofs.YthimchhnhhchkaaGreatDoor

namespace Go.Proofs.YthimchhnhhchkaaGreatDoor
open Go.RowKit Go.Lib
set_option linter.unusedSimpArgs false
set_option linter.unusedVariables false

/-- a small number's word -/
def numT (k : Nat) : ByteArray := ⟨(Lib.decDigits k).toArray⟩
theorem numT_atoi : ∀ k : Fin 100, Lib.atoi (Lib.decDigits k.val) = some (k.val : Int) := by decide +kernel
theorem numT_len : ∀ k : Fin 100, (Lib.decDigits k.val).length ≤ 12 := by decide +kernel
theorem numT_size {k : Nat} (hk : k < 100) : (numT k).size ≤ 12 := by
  have := numT_len ⟨k, hk⟩
  simpa [numT, ByteArray.size] using this
set_option maxRecDepth 100000 in
theorem number_lit (k : Nat) (hk : k < 100) (w : World) : Calls Tryz.prog 99 #[.string (numT k)] w fun e w' => e = .returned (.int .i64 (k : Int)) ∧ Below w.heap.size w w' := by
  have hsz := numT_size hk
  have HA := Lib.hid (Tryz.strconv_Atoi (numT k) k (by omega) (by simpa [numT] using numT_atoi ⟨k, hk⟩) w)
  have HI := Lib.hid (fun w' => Tryz.strconv_Itoa_small k hk w')
  have e : (⟨(Lib.decDigits k).toArray⟩ : ByteArray) = numT k := rfl
  rw [e] at HI
  clear e
  have k0 : (0 : Int) ≤ (k : Int) := by omega
  generalize numT k = s at *
  go_enter Tryz.func99, Tryz.ntmps99
  go_wp2_with fail
  refine HA.out.mono ?_
  rintro e' w1 ⟨rfl, t, ht⟩
  have HB := Lib.hid (show Below w.heap.size w w1 from ht ▸ Lib.bytesWorld_below w _ t)
  clear ht
  go_wp2_with fail
  refine (HI.out _).mono ?_
  rintro e' w2 ⟨rfl, rfl⟩
  go_wp2
  go_ret
  exact ⟨rfl, HB.out⟩

























/-- numbers told -/
def toldT (l : List Nat) : ByteArray := l.foldl (fun s n => s ++ (⟨#[32]⟩ ++ numT n)) ⟨#[111, 107]⟩
theorem toldT_snoc (l : List Nat) (j : Nat) (h : j < l.length) : toldT (l.take (j + 1)) = toldT (l.take j) ++ (⟨#[32]⟩ ++ numT (l[j]'h)) := by
  unfold toldT
  rw [List.take_succ_eq_append_getElem h, List.foldl_append]
  rfl
def cellsNt (l : List Nat) : List Value := l.map fun (n : Nat) => Value.int .i64 (n : Int)
theorem toldT_size (l : List Nat) (hs : ∀ k ∈ l, k < 100) : ∀ j, j ≤ l.length → (toldT (l.take j)).size ≤ 2 + 13 * j
  | 0, _ => by simp [toldT]; decide
  | j + 1, h => by
    have h1 := toldT_size l hs j (by omega)
    have h2 := numT_size (hs _ (List.getElem_mem (show j < l.length by omega)))
    have h3 : (⟨#[32]⟩ : ByteArray).size = 1 := rfl
    rw [toldT_snoc l j (by omega)]
    simp only [ByteArray.size_append, h3]
    omega
set_option maxRecDepth 100000 in
theorem dtold_any (A : Option Addr) (c n : Nat) (l : List Nat) (hl : l.length = n) (hn : n ≤ 100) (hs : ∀ k ∈ l, k < 100) (w : World) (hr : Reads w w.heap.size 1 A n (cellsNt l)) :
    Calls Tryz.prog 51 #[.slice A n c] w fun x w' => x = .returned (.string (toldT l)) ∧ Below w.heap.size w w' := by
  have R := Lib.hid hr
  have HL := Lib.hid hl
  have HS := Lib.hid hs
  clear hr hl hs
  go_enter Tryz.func51, Tryz.ntmps51
  go_wp2
  go_loopw [8, 3] (fun iv ov wr => ∃ j : Nat, j ≤ n ∧ iv = .int .i64 (j : Int) ∧ ov = .string (toldT (l.take j)) ∧ Below w.heap.size w wr) (fun iv _ _ => n - (RowKit.intOf iv).toNat)
  case atStart => exact ⟨0, by omega, rfl, rfl, Below.refl _ _⟩
  case round =>
    obtain ⟨j, hj, rfl, rfl, hb⟩ := hrel
    have HB := Lib.hid hb
    clear hb
    by_cases hlt : j < n
    · obtain ⟨g, off, rfl, hg, hcs⟩ := (R.out.below HB.out (Nat.le_refl _)).addr (by omega)
      have hjl : j < l.length := by rw [HL.out]; exact hlt
      have hck := hcs j (.int .i64 ((l[j]'hjl : Nat) : Int)) (by simp [cellsNt, hjl])
      have hg2 : g < wr.heap.size := Nat.lt_of_lt_of_le hg HB.out.size
      have hsn := Lib.hid (toldT_snoc l j hjl)
      have hk := Lib.hid (HS.out _ (List.getElem_mem hjl))
      have ht := toldT_size l HS.out j (by omega)
      generalize l[j]'hjl = k at *
      have hks := numT_size hk.out
      have h3 : (⟨#[32]⟩ : ByteArray).size = 1 := rfl
      have hA1 := sadd_ok (P := Tryz.prog) ⟨#[32]⟩ (numT k) (by omega)
      have hA2 := sadd_ok (P := Tryz.prog) (toldT (l.take j)) (⟨#[32]⟩ ++ numT k) (by simp only [ByteArray.size_append, h3]; omega)
      clear hcs hjl ht hks h3
      go_wp2_with fail
      refine (Tryz.strconv_Itoa_small k hk.out _).mono ?_
      rintro e' w1 ⟨rfl, rfl⟩
      have en : (⟨(Lib.decDigits k).toArray⟩ : ByteArray) = numT k := rfl
      rw [en]
      clear en
      generalize numT k = s at *
      generalize toldT (l.take j) = t at *
      go_wp2
      exact ⟨⟨j + 1, by omega, by simp, by rw [hsn.out], HB.out⟩, by simp [RowKit.intOf]; omega⟩
    · obtain rfl : j = n := by omega
      have e : l.take j = l := List.take_of_length_le (by rw [HL.out]; omega)
      rw [e]
      go_wp2
      go_ret
      exact ⟨rfl, HB.out⟩
end Go.Proofs.YthimchhnhhchkaaGreatDoor

namespace Go.Proofs.YthimchhnhhchkaaGreatDoor
open Go.RowKit Go.Lib
set_option linter.unusedSimpArgs false
set_option linter.unusedVariables false

set_option maxRecDepth 100000 in
theorem one_ok (k : Nat) (hk : k < 100) (w : World) : Calls Tryz.prog 39 #[.int .i64 (k : Int), .int .i64 0] w fun x w' => x = .returned (.string (toldT [k])) ∧ Below w.heap.size w w' := by
  have HT := Lib.hid (show Calls Tryz.prog 51 #[.slice (some ⟨w.heap.size, 0, none⟩) 1 1] (w.alloc (.cells #[.int .i64 (k : Int)] 3)) fun x w' => x = .returned (.string (toldT [k])) ∧ Below (w.alloc (.cells #[.int .i64 (k : Int)] 3)).heap.size (w.alloc (.cells #[.int .i64 (k : Int)] 3)) w' from
    dtold_any _ 1 1 [k] rfl (by decide) (by intro j hj; rcases List.mem_singleton.1 hj with rfl; exact hk) _ ⟨rfl, fun _ => ⟨_, rfl, (Blk.new w 3 #[.int .i64 (k : Int)]).lt, fun j v hj => by
      rcases j with _ | j
      · cases hj; exact (Blk.new w 3 #[.int .i64 (k : Int)]).cell 0
      · simp [cellsNt] at hj⟩⟩)
  clear hk
  go_enter Tryz.func39, Tryz.ntmps39
  go_wp2_with fail
  refine (must_ok w).mono ?_
  rintro e' w1 ⟨rfl, rfl⟩
  go_wp2_with fail
  refine HT.out.mono ?_
  rintro e' w2 ⟨rfl, hb⟩
  have HB := Lib.hid (Below.thru5 ((Below.refl _ w).alloc (Nat.le_refl _) _) hb)
  clear hb
  go_wp2
  go_ret
  exact ⟨rfl, HB.out⟩
set_option maxRecDepth 100000 in
theorem one_no (k e : Int) (he : e ≠ 0) (w : World) : Calls Tryz.prog 39 #[.int .i64 k, .int .i64 e] w fun x w' => x = fltE e ∧ w = w' := by
  have HE := Lib.hid he
  clear he
  go_enter Tryz.func39, Tryz.ntmps39
  go_wp2_with fail
  refine (must_no e HE.out w).mono ?_
  rintro e' w1 ⟨rfl, rfl⟩
  simp only [fltE]
  go_wp2
  exact ⟨rfl, rfl, rfl⟩
/-- the desk: its town (or none), its nodes that are to be -/
def DeskB (W : World) (db : Nat) (tv nv : Value) : Prop := Blk W db 39 #[tv, nv]
set_option maxRecDepth 100000 in
theorem there_ok (db tb : Nat) (nv : Value) (w : World) (h : DeskB w db (.pointer (some ⟨tb, 0, none⟩)) nv) : Calls Tryz.prog 72 #[.pointer (some ⟨db, 0, none⟩)] w fun x w' => x = .returned (.tuple #[]) ∧ w = w' := by
  have hlt := h.lt
  have c0 := h.cell 0
  simp at c0
  clear h
  go_enter Tryz.func72, Tryz.ntmps72
  go_wp2
  go_end0
  exact ⟨rfl, rfl⟩
set_option maxRecDepth 100000 in
theorem there_no (db : Nat) (nv : Value) (w : World) (h : DeskB w db (.pointer none) nv) : Calls Tryz.prog 72 #[.pointer (some ⟨db, 0, none⟩)] w fun x w' => x = fltE 4 ∧ w = w' := by
  have hlt := h.lt
  have c0 := h.cell 0
  simp at c0
  clear h
  go_enter Tryz.func72, Tryz.ntmps72
  go_wp2_with fail
  refine (bad_any 4 _).mono ?_
  rintro e' w1 ⟨rfl, rfl⟩
  simp only [fltE]
  go_wp2
  exact ⟨rfl, rfl, rfl⟩
end Go.Proofs.YthimchhnhhchkaaGreatDoor

namespace Go.Proofs.YthimchhnhhchkaaGreatDoor
open Go.RowKit Go.Lib
set_option linter.unusedSimpArgs false
set_option linter.unusedVariables false

def signT (b : Bool) : ByteArray := if b then ⟨#[43]⟩ else ⟨#[45]⟩
def noteT (p : TriD) : ByteArray := (((⟨#[32]⟩ ++ signT p.2.2) ++ p.1) ++ ⟨#[58]⟩) ++ numT p.2.1.toNat
def notesT (l : List TriD) : ByteArray := l.foldl (fun s p => s ++ noteT p) ⟨#[111, 107]⟩
theorem notesT_snoc (l : List TriD) (j : Nat) (h : j < l.length) : notesT (l.take (j + 1)) = notesT (l.take j) ++ noteT (l[j]'h) := by
  unfold notesT
  rw [List.take_succ_eq_append_getElem h, List.foldl_append]
  rfl
def NoteSm (p : TriD) : Prop := p.1.size ≤ 100 ∧ 0 ≤ p.2.1 ∧ p.2.1 < 100
theorem signT_size (b : Bool) : (signT b).size = 1 := by cases b <;> rfl
theorem noteT_size {p : TriD} (h : NoteSm p) : (noteT p).size ≤ 115 := by
  have h1 : (⟨#[32]⟩ : ByteArray).size = 1 := rfl
  have h2 : (⟨#[58]⟩ : ByteArray).size = 1 := rfl
  obtain ⟨a, b, c⟩ := h
  have h3 := numT_size (k := p.2.1.toNat) (by omega)
  unfold noteT
  simp only [ByteArray.size_append, signT_size, h1, h2]
  omega
theorem notesT_size (l : List TriD) (hs : ∀ p ∈ l, NoteSm p) : ∀ j, j ≤ l.length → (notesT (l.take j)).size ≤ 2 + 115 * j
  | 0, _ => by simp [notesT]; decide
  | j + 1, h => by
    have h1 := notesT_size l hs j (by omega)
    have h2 := noteT_size (hs _ (List.getElem_mem (show j < l.length by omega)))
    rw [notesT_snoc l j (by omega)]
    simp only [ByteArray.size_append]
    omega
theorem itoa_small (k : Nat) (hk : k < 100) (w : World) : Calls Tryz.prog 18 #[.int .i64 (k : Int)] w fun e w' => e = .returned (.string (numT k)) ∧ w = w' :=
  (Tryz.strconv_Itoa_small k hk w).mono fun e w' ⟨h1, h2⟩ => ⟨h1, h2.symm⟩
theorem quiet_eqD {P : Program} {f : FuncId} {args : Array Value} {w : World} {n : Nat} {v : Value}
    (h : Calls P f args (w.drewN n) fun e w' => e = .returned v ∧ w.drewN n = w') : Calls P f args (w.drewN n) fun e w'' => e = .returned v ∧ ∃ m, w'' = w.drewN m :=
  h.mono fun _ _ ⟨he, hm⟩ => ⟨he, n, hm.symm⟩
set_option maxRecDepth 100000 in
theorem notes_no (A : Option Addr) (c n : Nat) (e : Int) (he : e ≠ 0) (w : World) : Calls Tryz.prog 75 #[.slice A n c, .int .i64 e] w fun x w' => x = fltE e ∧ w = w' := by
  have HE := Lib.hid he
  clear he
  go_enter Tryz.func75, Tryz.ntmps75
  go_wp2_with fail
  refine (must_no e HE.out w).mono ?_
  rintro e' w1 ⟨rfl, rfl⟩
  simp only [fltE]
  go_wp2
  exact ⟨rfl, rfl, rfl⟩
set_option maxRecDepth 100000 in
theorem notes_ok (A : Option Addr) (c n : Nat) (l : List TriD) (hl : l.length = n) (hn : n ≤ 100) (hs : ∀ p ∈ l, NoteSm p) (w : World) (hr : Reads w w.heap.size 3 A n (cells3 l)) :
    Calls Tryz.prog 75 #[.slice A n c, .int .i64 0] w fun x w' => x = .returned (.string (notesT l)) ∧ Below w.heap.size w w' := by
  have R := Lib.hid hr
  have HL := Lib.hid hl
  have HS := Lib.hid hs
  clear hr hl hs
  go_enter Tryz.func75, Tryz.ntmps75
  go_wp2_with fail
  refine (must_ok w).mono ?_
  rintro e' w1 ⟨rfl, rfl⟩
  go_wp2_with fail
  go_loopw [13, 5] (fun iv ov wr => ∃ j : Nat, j ≤ n ∧ iv = .int .i64 (j : Int) ∧ ov = .string (notesT (l.take j)) ∧ Below w.heap.size w wr) (fun iv _ _ => n - (RowKit.intOf iv).toNat)
  case atStart => exact ⟨0, by omega, rfl, rfl, Below.refl _ _⟩
  case round =>
    obtain ⟨j, hj, rfl, rfl, hb⟩ := hrel
    obtain ⟨wo, rfl⟩ : ∃ wo, wo = wr := ⟨_, rfl⟩
    have HB := Lib.hid hb
    clear hb
    by_cases hlt : j < n
    · obtain ⟨g, off, rfl, hg, hcs⟩ := tri_addr (R.out.below HB.out (Nat.le_refl _)) HL.out (by omega)
      have hjl : j < l.length := by rw [HL.out]; exact hlt
      obtain ⟨d0, d1, d2⟩ := hcs j hjl
      have hg2 : g < wo.heap.size := Nat.lt_of_lt_of_le hg HB.out.size
      have hsn := Lib.hid (notesT_snoc l j hjl)
      have hk := HS.out _ (List.getElem_mem hjl)
      have ht := notesT_size l HS.out j (by omega)
      generalize l[j]'hjl = p at *
      obtain ⟨id, th, su⟩ := p
      obtain ⟨h1, h2, h3⟩ := hk
      simp only at h1 h2 h3 d0 d1 d2
      obtain ⟨k, rfl⟩ : ∃ k : Nat, th = (k : Int) := ⟨th.toNat, by omega⟩
      have hk := Lib.hid (show k < 100 by omega)
      have hns := numT_size hk.out
      have s1 : (⟨#[32]⟩ : ByteArray).size = 1 := rfl
      have s2 : (⟨#[58]⟩ : ByteArray).size = 1 := rfl
      have s3 : (⟨#[43]⟩ : ByteArray).size = 1 := rfl
      have s4 : (⟨#[45]⟩ : ByteArray).size = 1 := rfl
      have E := Lib.hid (((Env.start w).below HB.out).lay #[.string id, .int .i64 (k : Int), .bool su] 146)
      cases su
      · have hA1 := sadd_ok (P := Tryz.prog) ⟨#[32]⟩ ⟨#[45]⟩ (by omega)
        have hA2 := sadd_ok (P := Tryz.prog) (⟨#[32]⟩ ++ ⟨#[45]⟩) id (by simp only [ByteArray.size_append, s1, s4]; omega)
        have hA3 := sadd_ok (P := Tryz.prog) ((⟨#[32]⟩ ++ ⟨#[45]⟩) ++ id) ⟨#[58]⟩ (by simp only [ByteArray.size_append, s1, s2, s4]; omega)
        have hA4 := sadd_ok (P := Tryz.prog) (((⟨#[32]⟩ ++ ⟨#[45]⟩) ++ id) ++ ⟨#[58]⟩) (numT k) (by simp only [ByteArray.size_append, s1, s2, s4]; omega)
        have hA5 := sadd_ok (P := Tryz.prog) (notesT (l.take j)) ((((⟨#[32]⟩ ++ ⟨#[45]⟩) ++ id) ++ ⟨#[58]⟩) ++ numT k) (by simp only [ByteArray.size_append, s1, s2, s4]; omega)
        clear hcs hjl ht hns s1 s2 s3 s4 h1 h2 h3
        go_wp2_with fail
        go_quiet ((go_at_call 18; exact quiet_eqD (itoa_small k hk.out _)))
        go_wp2
        trace_state
        exact ⟨⟨j + 1, by omega, by simp, by rw [hsn.out]; rfl, below_drewN E.out.bel _⟩, by simp [RowKit.intOf]; omega⟩
      · have hA1 := sadd_ok (P := Tryz.prog) ⟨#[32]⟩ ⟨#[43]⟩ (by omega)
        have hA2 := sadd_ok (P := Tryz.prog) (⟨#[32]⟩ ++ ⟨#[43]⟩) id (by simp only [ByteArray.size_append, s1, s3]; omega)
        have hA3 := sadd_ok (P := Tryz.prog) ((⟨#[32]⟩ ++ ⟨#[43]⟩) ++ id) ⟨#[58]⟩ (by simp only [ByteArray.size_append, s1, s2, s3]; omega)
        have hA4 := sadd_ok (P := Tryz.prog) (((⟨#[32]⟩ ++ ⟨#[43]⟩) ++ id) ++ ⟨#[58]⟩) (numT k) (by simp only [ByteArray.size_append, s1, s2, s3]; omega)
        have hA5 := sadd_ok (P := Tryz.prog) (notesT (l.take j)) ((((⟨#[32]⟩ ++ ⟨#[43]⟩) ++ id) ++ ⟨#[58]⟩) ++ numT k) (by simp only [ByteArray.size_append, s1, s2, s3]; omega)
        clear hcs hjl ht hns s1 s2 s3 s4 h1 h2 h3
        go_wp2_with fail
        go_quiet ((go_at_call 18; exact quiet_eqD (itoa_small k hk.out _)))
        go_wp2
        exact ⟨⟨j + 1, by omega, by simp, by rw [hsn.out]; rfl, below_drewN E.out.bel _⟩, by simp [RowKit.intOf]; omega⟩
    · obtain rfl : j = n := by omega
      have e : l.take j = l := List.take_of_length_le (by rw [HL.out]; omega)
      rw [e]
      go_wp2
      go_ret
      exact ⟨rfl, HB.out⟩
end Go.Proofs.YthimchhnhhchkaaGreatDoor

namespace Go.Proofs.YthimchhnhhchkaaGreatDoor
open Go.RowKit Go.Lib
set_option linter.unusedSimpArgs false
set_option linter.unusedVariables false

set_option maxRecDepth 100000 in
theorem rdec_one (k : Nat) (hk : k < 10) (w : World) : Calls Tryz.prog 5 #[.int .i64 (k : Int)] w fun e w' => e = .returned (.string (numT k)) ∧ w = w' := by
  have e0 : ∀ j : Fin 10, numT j.val = (⟨#[48, 49, 50, 51, 52, 53, 54, 55, 56, 57]⟩ : ByteArray).extract j.val (j.val + 1) := by decide +kernel
  have e1 := e0 ⟨k, hk⟩
  simp only at e1
  have k0 : (0 : Int) ≤ (k : Int) := by omega
  have k1 : (k : Int) < 10 := by omega
  rw [e1]
  clear e0 e1
  go_enter Tryz.func5, Tryz.ntmps5
  go_wp2
  go_ret
  exact ⟨rfl, rfl⟩
set_option maxRecDepth 100000 in
theorem rdec_two (k : Nat) (hk : k < 100) (h10 : 10 ≤ k) (w : World) : Calls Tryz.prog 5 #[.int .i64 (k : Int)] w fun e w' => e = .returned (.string (numT k)) ∧ w = w' := by
  have e0 : ∀ j : Fin 100, 10 ≤ j.val → numT j.val = numT (j.val / 10) ++ numT (j.val % 10) := by decide +kernel
  have e1 := e0 ⟨k, hk⟩ h10
  simp only at e1
  have s1 := numT_size (k := k / 10) (by omega)
  have s2 := numT_size (k := k % 10) (by omega)
  have hA := sadd_ok (P := Tryz.prog) (numT (k / 10)) (numT (k % 10)) (by omega)
  have HQ := Lib.hid (rdec_one (k / 10) (by omega) w)
  have HR := Lib.hid (rdec_one (k % 10) (by omega) w)
  have q1 : wrap64 ((k / 10 : Nat) : Int) = ((k / 10 : Nat) : Int) := by
    unfold wrap64; omega
  have q2 : wrap64 ((k % 10 : Nat) : Int) = ((k % 10 : Nat) : Int) := by
    unfold wrap64; omega
  have q3 : (k : Int).tmod 10 = ((k % 10 : Nat) : Int) := by
    rw [Int.tmod_eq_emod_of_nonneg (by omega)]
    omega
  have q4 : (k : Int).tdiv 10 = ((k / 10 : Nat) : Int) := by
    rw [Int.tdiv_eq_ediv_of_nonneg (by omega)]
    omega
  have k0 : (0 : Int) ≤ (k : Int) := by omega
  have k1 : ¬ (k : Int) < 10 := by omega
  rw [e1]
  clear e0 e1 s1 s2 hk h10
  generalize k / 10 = a at *
  generalize k % 10 = b at *
  go_enter Tryz.func5, Tryz.ntmps5
  go_wp2_with fail
  refine HQ.out.mono ?_
  rintro e' w1 ⟨rfl, rfl⟩
  go_wp2_with fail
  refine HR.out.mono ?_
  rintro e' w1 ⟨rfl, rfl⟩
  go_wp2
  go_ret
  exact ⟨rfl, rfl⟩
end Go.Proofs.YthimchhnhhchkaaGreatDoor
