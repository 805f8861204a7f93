/- The desk: no word of two great numbers. -/
import Derived.Test.YthimchhnhhchkaaGreatDoorM41
import Derived.Test.YthimchhnhhchkaaGreatDoorM32
namespace Go.Proofs.YthimchhnhhchkaaGreatDoor
open Go.RowKit Go.Lib
open Go.Maps (Keyed)
set_option linter.unusedSimpArgs false
set_option linter.unusedVariables false

/-- how a function reads: by its number -/
def fnR (v : Value) : Option (DataW Unit × List MemPlace) := match v with
  | .func (.func i) _ _ => some (.lit (.int .i64 (i : Int)), [])
  | .nilFunc => some (.lit (.int .i64 (-1)), [])
  | _ => none
theorem fnR_nil {v : Value} {ps : List MemPlace} (h : fnR v = some (.lit (.int .i64 (-1)), ps)) : v = .nilFunc := by
  unfold fnR at h
  split at h
  · simp at h
  · rfl
  · cases h
/-- a map of functions that the call made, that lacks a key -/
def FnNo (P : Program) (k : TypeId) (kl : Lit) (w : World) (b n : Nat) : Prop :=
  ∃ D : DataW Unit, w.ownsMap P k fnR b n D ∧ Maps.IsMap D ∧ (∀ d, D.atKey kl d = d)
section
variable {P : Program} {k e t : TypeId} {kl : Lit} {w : World} {b n : Nat}
theorem FnNo.made (w : World) : FnNo P k kl (w.alloc (.map #[] 0)) w.heap.size 0 :=
  ⟨.map [], World.ownsMap_made _ _ _ _, Maps.isMap_empty, fun d => rfl⟩
theorem FnNo.store (h : FnNo P k kl w b n) (K : Keyed P k) (ht : P.underlying t = some (.map k e)) (hn : n < maxLen) {key : Value} {q : Lit} (hkey : keyOf P k key = some q) (hq : kl ≠ q) (i : Nat) :
    ∃ w', (Instr.mapUpdate t (.map (some b)) key (.func (.func i) #[] #[])).run P w = .ok () w' ∧ FnNo P k kl w' b (n + 1) ∧ w.grownBy w' (some b) := by
  obtain ⟨D, h, h2, h3⟩ := h
  obtain ⟨w', hrun, hown, hg⟩ := h.store K ht hn hkey (val := .func (.func i) #[] #[]) (d := .lit (.int .i64 (i : Int))) (ps := []) (by simp [fnR])
  exact ⟨w', hrun, ⟨_, hown, h2.put _ _, fun d => by rw [Maps.atKey_put_other hq, h3 d]⟩, hg.grown⟩
end
section
variable {P : Program} (w : World) {ops : Array Oper} {rest : List Oper} {o : Oper} {a : Act} {Q : Exit → Act → World → Prop}
theorem wpList_insert_fn (hg : o.guard = none) (mm x v : Operand) (t : TypeId) (hop : o.op = Op.insert t mm x v)
    (k e : TypeId) (K : Keyed P k) (ht : P.underlying t = some (.map k e)) (b n : Nat) (kl : Lit) (hm : a.eval mm = .map (some b)) (hown : FnNo P k kl w b n) (hn : n < maxLen) (key : Value) (q : Lit) (i : Nat)
    (hx : a.eval x = key) (hv : a.eval v = .func (.func i) #[] #[]) (hkey : keyOf P k key = some q) (hq : kl ≠ q)
    (hK : ∀ w', FnNo P k kl w' b (n + 1) → w.grownBy w' (some b) → wpList P ops Q rest (a.put o.dst undef) w') :
    wpList P ops Q (o :: rest) a w := by
  refine wpList_plain hg fun K' hK' => ?_
  obtain ⟨w', hrun, r1, r2⟩ := hown.store K ht hn hkey hq i
  unfold Oper.wp
  simp [execOp, hop, hm, hx, hv, hrun, Result.andThen]
  exact hK' _ _ (hK w' r1 r2)
theorem wpList_lookup_fn (hg : o.guard = none) (mm x : Operand) (t : TypeId) (hop : o.op = Op.lookup t mm x true)
    (k e : TypeId) (K : Keyed P k) (ht : P.underlying t = some (.map k e)) (hz : (zeroValue e).run P w = .ok .nilFunc w) (b n : Nat) (kl : Lit) (hm : a.eval mm = .map (some b)) (hown : FnNo P k kl w b n) (key : Value) (hx : a.eval x = key) (hkey : keyOf P k key = some kl)
    (hK : wpList P ops Q rest (a.put o.dst (.tuple #[.nilFunc, .bool false])) w) :
    wpList P ops Q (o :: rest) a w := by
  obtain ⟨D, h, h2, h3⟩ := hown
  refine wpList_lookup_own_ok w hg mm x t hop k e K ht fnR hz (.lit (.int .i64 (-1))) [] rfl b n D hm h key kl hx hkey fun v ps hv => ?_
  rw [h3] at hv
  rw [fnR_nil hv, Maps.has_false_of_atKey h3]
  exact hK
end
set_option maxRecDepth 100000 in
theorem wides_no (s : ByteArray) (hs : s.size ≤ maxLen) (h1 : Lit.string s.data.toList ≠ .string [115, 117, 109]) (h2 : Lit.string s.data.toList ≠ .string [108, 101, 115, 115]) (h3 : Lit.string s.data.toList ≠ .string [116, 105, 109, 101, 115]) (h4 : Lit.string s.data.toList ≠ .string [100, 105, 118]) (h5 : Lit.string s.data.toList ≠ .string [104, 97, 108, 118, 101]) (w : World) :
    Calls Tryz.prog 19 #[.string s] w fun e w' => e = .returned (.tuple #[.nilFunc, .bool false]) ∧ Below w.heap.size w w' := by
  have hmm := @run_makeMap Tryz.prog
  have KS : Keyed Tryz.prog 9 := Go.Maps.string_keyed Tryz.underlying9
  have hm0 : FnNo Tryz.prog 9 (.string s.data.toList) (w.alloc (.map #[] 0)) w.heap.size 0 := FnNo.made w
  have hb0 : Below w.heap.size w (w.alloc (.map #[] 0)) := (Below.refl _ _).alloc (Nat.le_refl _) _
  go_enter Tryz.func19, Tryz.ntmps19
  go_wp2_with (refine wpList_insert_fn _ rfl _ _ _ 77 rfl 9 60 KS Tryz.underlying77 w.heap.size 0 (.string s.data.toList) rfl hm0 (by decide) _ (.string [115, 117, 109]) 31 rfl rfl (Go.WideMaps.keyOf_string_mk Tryz.underlying9 (by decide)) h1 ?_)
  rintro w1 hm1 g1
  go_wp2_with (refine wpList_insert_fn _ rfl _ _ _ 77 rfl 9 60 KS Tryz.underlying77 w.heap.size 1 (.string s.data.toList) rfl hm1 (by decide) _ (.string [108, 101, 115, 115]) 32 rfl rfl (Go.WideMaps.keyOf_string_mk Tryz.underlying9 (by decide)) h2 ?_)
  rintro w2 hm2 g2
  go_wp2_with (refine wpList_insert_fn _ rfl _ _ _ 77 rfl 9 60 KS Tryz.underlying77 w.heap.size 2 (.string s.data.toList) rfl hm2 (by decide) _ (.string [116, 105, 109, 101, 115]) 34 rfl rfl (Go.WideMaps.keyOf_string_mk Tryz.underlying9 (by decide)) h3 ?_)
  rintro w3 hm3 g3
  go_wp2_with (refine wpList_insert_fn _ rfl _ _ _ 77 rfl 9 60 KS Tryz.underlying77 w.heap.size 3 (.string s.data.toList) rfl hm3 (by decide) _ (.string [100, 105, 118]) 36 rfl rfl (Go.WideMaps.keyOf_string_mk Tryz.underlying9 (by decide)) h4 ?_)
  rintro w4 hm4 g4
  go_wp2_with (refine wpList_insert_fn _ rfl _ _ _ 77 rfl 9 60 KS Tryz.underlying77 w.heap.size 4 (.string s.data.toList) rfl hm4 (by decide) _ (.string [104, 97, 108, 118, 101]) 38 rfl rfl (Go.WideMaps.keyOf_string_mk Tryz.underlying9 (by decide)) h5 ?_)
  rintro w5 hm5 g5
  have k0 : Kept (fun _ => False) w (w.alloc (.map #[] 0)) := .of_below hb0
  have k1 := k0.grown g1 (fun k hk => .inr (by cases hk; exact Nat.le_refl _))
  have k2 := k1.grown g2 (fun k hk => .inr (by cases hk; exact Nat.le_refl _))
  have k3 := k2.grown g3 (fun k hk => .inr (by cases hk; exact Nat.le_refl _))
  have k4 := k3.grown g4 (fun k hk => .inr (by cases hk; exact Nat.le_refl _))
  have k5 := k4.grown g5 (fun k hk => .inr (by cases hk; exact Nat.le_refl _))
  have hb5 : Below w.heap.size w w5 := k5.below (fun k h => h.elim) (Nat.le_refl _)
  have hz : (zeroValue 60).run Tryz.prog w5 = .ok .nilFunc w5 := Tryz.zeroValue60 w5
  go_wp2_with (refine wpList_lookup_fn _ rfl _ _ 77 rfl 9 60 KS Tryz.underlying77 hz w.heap.size 5 (.string s.data.toList) rfl hm5 _ rfl (Go.WideMaps.keyOf_string_mk Tryz.underlying9 hs) ?_)
  go_wp2
  go_ret2
  exact ⟨rfl, hb5⟩
end Go.Proofs.YthimchhnhhchkaaGreatDoor
