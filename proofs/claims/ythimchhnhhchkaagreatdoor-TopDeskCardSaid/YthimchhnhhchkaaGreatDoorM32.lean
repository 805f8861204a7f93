/- A map of marks that the call made: which keys are marked; looked up, stored. -/
import Derived.Maps.OwnSet
import Derived.Maps.OwnOps
import Derived.Test.YthimchhnhhchkaaGreatDoorM29
namespace Go.Proofs.YthimchhnhhchkaaGreatDoor
open Go.RowKit Go.Lib
open Go.Maps (Keyed)
set_option linter.unusedSimpArgs false
set_option linter.unusedVariables false

theorem plainElem_bool_inv {P : Program} {e : TypeId} (he : P.underlying e = some .bool) {v : Value} {z : DataW Unit × List MemPlace} (h : plainElem P e v = some z) : ∃ x, v = .bool x ∧ z = (.lit (.bool x), []) := by
  unfold plainElem at h
  rw [he] at h
  cases v <;> simp at h
  exact ⟨_, rfl, h.symm⟩
/-- block b: at most n entries; of which m tells the mark -/
def MarkMap (P : Program) (k e : TypeId) (w : World) (b n : Nat) (m : Lit → Bool) : Prop :=
  ∃ D : DataW Unit, w.ownsMap P k (plainElem P e) b n D ∧ Maps.IsMap D ∧ ∀ kl, D.atKey kl (.lit (.bool false)) = .lit (.bool (m kl))
section
variable {P : Program} {k e t : TypeId} {w w' : World} {b n : Nat} {m : Lit → Bool}
theorem MarkMap.made (w : World) : MarkMap P k e (w.alloc (.map #[] 0)) w.heap.size 0 (fun _ => false) :=
  ⟨.map [], World.ownsMap_made _ _ _ _, Maps.isMap_empty, fun kl => rfl⟩
theorem MarkMap.lt (h : MarkMap P k e w b n m) : b < w.heap.size := by
  obtain ⟨D, h, _⟩ := h
  exact h.lt
theorem MarkMap.mono {n' : Nat} (h : MarkMap P k e w b n m) (hn : n ≤ n') : MarkMap P k e w b n' m := by
  obtain ⟨D, h, h2⟩ := h
  exact ⟨D, h.mono hn, h2⟩
theorem MarkMap.kept {X : Nat → Prop} (h : MarkMap P k e w b n m) (hk : Kept X w w') (hx : ¬ X b) : MarkMap P k e w' b n m := by
  obtain ⟨D, h, h2⟩ := h
  have hl := h.lt
  obtain ⟨es, clock, hb, h3⟩ := h
  exact ⟨D, ⟨es, clock, (hk.block b hl hx).trans hb, h3⟩, h2⟩
theorem MarkMap.below (h : MarkMap P k e w b n m) (hb : Below w.heap.size w w') : MarkMap P k e w' b n m := h.kept (X := fun _ => False) (.of_below hb) (fun h => h)
theorem MarkMap.look (h : MarkMap P k e w b n m) (K : Keyed P k) (ht : P.underlying t = some (.map k e)) (he : P.underlying e = some .bool) (hz : (zeroValue e).run P w = .ok (.bool false) w) {key : Value} {kl : Lit} (hkey : keyOf P k key = some kl) :
    (Instr.lookup t (.map (some b)) key false).run P w = .ok (.bool (m kl)) w := by
  obtain ⟨D, h, _, h3⟩ := h
  obtain ⟨v, ps, hrun, hv⟩ := h.lookup K ht hz (plainElem_bool he false) hkey
  obtain ⟨x, rfl, hx⟩ := plainElem_bool_inv he hv
  simp only [Prod.mk.injEq] at hx
  have h4 := h3 kl
  rw [hx.1] at h4
  have : x = m kl := by simpa using h4
  rw [← this]
  exact hrun
theorem MarkMap.store (h : MarkMap P k e w b n m) (K : Keyed P k) (ht : P.underlying t = some (.map k e)) (he : P.underlying e = some .bool) (hn : n < maxLen) {key : Value} {kl : Lit} (hkey : keyOf P k key = some kl) (x : Bool) {m' : Lit → Bool} (hm1 : m' kl = x) (hm2 : ∀ q, q ≠ kl → m' q = m q) :
    ∃ w', (Instr.mapUpdate t (.map (some b)) key (.bool x)).run P w = .ok () w' ∧ MarkMap P k e w' b (n + 1) m' ∧ w.grownBy w' (some b) := by
  obtain ⟨D, h, h2, h3⟩ := h
  obtain ⟨w', hrun, hown, hg⟩ := h.update K ht hn hkey (plainElem_bool he x)
  refine ⟨w', hrun, ⟨_, hown, h2.put _ _, fun q => ?_⟩, hg⟩
  rcases Classical.em (q = kl) with hq | hq
  · subst hq
    rw [hm1, Maps.atKey_put_same h2 (K.key hkey)]
  · rw [hm2 q hq, Maps.atKey_put_other hq, h3 q]
end
section
variable {P : Program} (w : World) {ops : Array Oper} {rest : List Oper} {o : Oper} {a : Act} {Q : Exit → Act → World → Prop}
/-- 'm[k]' at the operation -/
theorem wpList_lookup_mark (hg : o.guard = none) (mm x : Operand) (t : TypeId) (hop : o.op = Op.lookup t mm x false)
    (k e : TypeId) (K : Keyed P k) (ht : P.underlying t = some (.map k e)) (he : P.underlying e = some .bool) (hz : (zeroValue e).run P w = .ok (.bool false) w) (b n : Nat) (m : Lit → Bool)
    (hm : a.eval mm = .map (some b)) (hown : MarkMap P k e w b n m) (key : Value) (kl : Lit) (hx : a.eval x = key) (hkey : keyOf P k key = some kl)
    (hK : wpList P ops Q rest (a.put o.dst (.bool (m kl))) w) :
    wpList P ops Q (o :: rest) a w := by
  refine wpList_plain hg fun K' hK' => ?_
  have hrun := hown.look K ht he hz hkey
  unfold Oper.wp
  simp [execOp, hop, hm, hx, hrun, Result.andThen]
  exact hK' _ _ hK
/-- 'm[k] = x' at the operation -/
theorem wpList_store_mark (hg : o.guard = none) (mm x v : Operand) (t : TypeId) (hop : o.op = Op.mapUpdate t mm x v)
    (k e : TypeId) (K : Keyed P k) (ht : P.underlying t = some (.map k e)) (he : P.underlying e = some .bool) (b n : Nat) (m : Lit → Bool)
    (hm : a.eval mm = .map (some b)) (hown : MarkMap P k e w b n m) (hn : n < maxLen) (key : Value) (kl : Lit) (xx : Bool) (hx : a.eval x = key) (hv : a.eval v = .bool xx) (hkey : keyOf P k key = some kl) (m' : Lit → Bool) (hm1 : m' kl = xx) (hm2 : ∀ q, q ≠ kl → m' q = m q)
    (hK : ∀ w', MarkMap P k e w' b (n + 1) m' → w.grownBy w' (some b) → wpList P ops Q rest (a.put o.dst undef) w') :
    wpList P ops Q (o :: rest) a w := by
  refine wpList_plain hg fun K' hK' => ?_
  obtain ⟨w', hrun, r1, r2⟩ := hown.store K ht he hn hkey xx hm1 hm2
  unfold Oper.wp
  simp [execOp, hop, hm, hx, hv, hrun, Result.andThen]
  exact hK' _ _ (hK w' r1 r2)
end
end Go.Proofs.YthimchhnhhchkaaGreatDoor
