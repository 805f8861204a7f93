/- What stays while many levels are gathered. -/
import Derived.Test.YtmgkkbmcdnhdeaeTopVP
import Derived.Test.YtmgkkbmcdnhdeaeTop0
import Derived.Test.YtmgkkbmcdnhdeaeOpenRows
import Derived.Test.YtmgkkbmcdnhdeaeStep
import Derived.Test.YtmgkkbmcdnhdeaeEqInts
import Derived.Deep.AppendLies
import Derived.Lib.Builder
namespace Go.Proofs.Ytmgkkbmcdnhdeae
open Go.RowKit Go.Lib
set_option linter.unusedSimpArgs false
set_option linter.unusedVariables false

theorem step_appX {P : Program} {w : World} {ops : Array Oper} {o : Oper} {a : Act} {K : Act → World → Prop} {Q : Exit → Act → World → Prop} {E : Prop} (hgd : o.guard = none) (s x : Operand) (t : TypeId)
    (ho : o.op = .call { callee := .builtin .append, args := #[s, x], argTypes := #[t, t] })
    (base : Nat) (e : TypeId) (i : TypeInfo) (z : Value) (size bytes : Nat) (ht : P.underlying t = some (.slice e)) (hi : P.info? e = some i) (hz : i.zero = some z)
    (hsize : i.size = size) (hby : i.bytes = bytes) (hzs : z.cells.size = size) (hsz : 0 < size)
    (v : Value) (n : Nat) (xs : List Value) (hs : a.eval s = v) (hown : w.ownsRow base e size v n xs)
    (B : Nat) (A : Option Addr) (m c : Nat) (news : List Value) (hx : a.eval x = .slice A m c) (hr : Reads w B size A m news) (h1 : ∀ u ∈ news, u.oneCell' = true)
    (h63 : n + m ≤ maxLen) (hbytes : (n + m) * bytes ≤ 140737488355328) (hbase : base ≤ w.heap.size)
    (h : ∀ v' w', w'.ownsRow base e size v' (n + m) (xs ++ news) → w.grownBy w' v.ownBlock → (v'.ownBlock = v.ownBlock ∨ v'.ownBlock = some w.heap.size) → K (a.put o.dst v') w') :
    if Region.wanted o (yielded ops a.tmps) = true then Oper.wp P o a w K Q else E := by
  have hw : Region.wanted o (yielded ops a.tmps) = true := by simp [Region.wanted, hgd]
  rw [if_pos hw]
  exact wp_append_any w s x t ho base e i z size bytes ht hi hz hsize hby hzs hsz v n xs hs hown B A m c news hx hr h1 h63 hbytes hbase h
theorem Below.thru3 {w X W : World} (h : Below w.heap.size w X) (h2 : Below X.heap.size X W) : Below w.heap.size w W := h.trans (h2.mono h.size)
theorem Blk.grown {w w' : World} {g : Nat} {t : TypeId} {cs : Array Value} {row : Option Nat} (h : Blk w g t cs) (hg : w.grownBy w' row) (hne : row ≠ some g) : Blk w' g t cs := (hg.block g h.lt fun e => hne e.symm).trans h
theorem blk_row {w w' : World} {g B n : Nat} {t e : TypeId} {cs : Array Value} {v : Value} {xs : List Value} {o : Obj} (h : Blk w g t cs) (ho : w.ownsRow B e 1 v n xs) (hte : t ≠ e) (hg : (w.alloc o).drew.grownBy w' v.ownBlock) : Blk w' g t cs :=
  Blk.grown (Blk.drew (h.alloc o)) hg (ownBlock_ne ho h hte)
theorem look83 {V : List Int} (h0 : 1 ≤ V.length) (h8 : V.length ≤ 8) (hb : ∀ x ∈ V, 0 ≤ x ∧ x ≤ 1000) : lookE 8 3 V = 0 := by
  have hl : listE V = 0 := by
    unfold listE
    rw [if_neg (by omega), if_neg]
    rw [List.any_eq_true]
    rintro ⟨x, hx, ho⟩
    have hw : wi x 0 16777216 = true := wi_true.2 (by have := hb x hx; omega)
    unfold offI at ho
    rw [hw] at ho
    cases ho
  have hw : winE 8 V = 0 := by
    unfold winE
    rw [if_pos (by decide), if_neg (by omega), hl]
  unfold lookE
  rw [if_pos hw, if_pos (by decide), if_neg (by omega)]
/-- level.Of of a window of the call's own, at any time: how it grows -/
theorem lof83 {V : List Int} (n : Nat) (hn : V.length = n) (h0 : 1 ≤ n) (h8 : n ≤ 8) (hb : ∀ x ∈ V, 0 ≤ x ∧ x ≤ 1000) : ∃ f : Int → Nat, (∀ s t, s ≤ t → f s ≤ f t) ∧ (∀ s, 0 ≤ s → s ≤ 1073741824 → f s ≤ 127) ∧
    ∀ (s : Int) (A : Option Addr) (c B : Nat) (w : World), 0 ≤ s → s ≤ 1073741824 → n ≤ c → c ≤ maxLen → Reads w B 1 A n (cellsI V) → B ≤ w.heap.size →
      Calls Try.prog 6 #[.agg #[.int .i64 8, .slice A n c], .int .i64 3, .int .i64 s] w fun e' w' => e' = .returned (.tuple #[.int .i64 (f s : Nat), .int .i64 0]) ∧ Below w.heap.size w w' := by
  have he := look83 (by omega) (by omega) hb
  obtain ⟨hwz, hl0, hl1, hn1⟩ := lookE_zero he
  have hle := (winE_zero hwz).2.2.2
  have hsum := sums_ok V hle
  obtain ⟨g1, g2, g3, g4, g5, g6, g7, g8, g9, g10, g11, g12, g13, g14, g15, g16, g17, g18, g19⟩ := lv_bd hsum (by omega) hl0 hl1
  obtain ⟨v, hv⟩ : ∃ v : Nat, lvV V.length (s1 V) (s2 V) 3 = v := ⟨(lvV V.length (s1 V) (s2 V) 3).toNat, by omega⟩
  rw [hn] at hv
  refine ⟨Lv.lvF v n (s1 V), fun s t hst => Lv.lvF_mono v (s1 V) (by omega) hst, fun s h1 h2 => lvF_bd v n (s1 V) s (by rw [hn] at g9; omega) ?_, fun s A c B w h1 h2 hc hm hr hB => lof_ok 8 3 s A c B n V hn he (s1 V) (s2 V) rfl rfl v hv h1 h2 hc hm w hr hB⟩
  have d1 : (n : Int) * s ≤ 68719476736 := by
    have := Int.mul_le_mul (show (n : Int) ≤ 64 by omega) h2 h1 (by omega : (0 : Int) ≤ 64); omega
  omega
/-- two rows of the call's own, apart from each other -/
def TwoRows (H : Nat) (w : World) (t : TypeId) (u v : Value) (n m : Nat) (xs ys : List Value) : Prop :=
  w.ownsRow H t 1 u n xs ∧ w.ownsRow H t 1 v m ys ∧ ∀ b, u.ownBlock = some b → v.ownBlock ≠ some b
section
variable {H n m n' : Nat} {w w' : World} {t : TypeId} {u v u' : Value} {xs ys xs' : List Value}
theorem TwoRows.swap (h : TwoRows H w t u v n m xs ys) : TwoRows H w t v u m n ys xs := ⟨h.2.1, h.1, fun b hb hu => h.2.2 b hu hb⟩
theorem TwoRows.below (h : TwoRows H w t u v n m xs ys) (hb : Below w.heap.size w w') : TwoRows H w' t u v n m xs ys := ⟨ownsRow_below h.1 hb, ownsRow_below h.2.1 hb, h.2.2⟩
theorem TwoRows.app (h : TwoRows H w t u v n m xs ys) (h2 : w'.ownsRow H t 1 u' n' xs') (h3 : w.grownBy w' u.ownBlock) (h4 : u'.ownBlock = u.ownBlock ∨ u'.ownBlock = some w.heap.size) : TwoRows H w' t u' v n' m xs' ys := by
  refine ⟨h2, h.2.1.kept h3 ?_, fun b hb hv => ?_⟩
  · cases hv : v.ownBlock with
    | none => exact .inl rfl
    | some b => exact .inr fun e => h.2.2 b e.symm hv
  · rcases h4 with h4 | h4
    · exact h.2.2 b (h4 ▸ hb) hv
    · have hlt := h.2.1.lt b hv
      rw [h4] at hb
      injection hb with hb
      omega
theorem TwoRows.alloc (h : TwoRows H w t u v n m xs ys) (o : Obj) : TwoRows H (w.alloc o) t u v n m xs ys := ⟨h.1.alloc o, h.2.1.alloc o, h.2.2⟩
theorem TwoRows.nil (H : Nat) (w : World) (t : TypeId) : TwoRows H w t (.slice none 0 0) (.slice none 0 0) 0 0 [] [] := ⟨⟨by simp, .inl ⟨rfl, rfl⟩⟩, ⟨by simp, .inl ⟨rfl, rfl⟩⟩, fun b hb => by cases hb⟩
end
end Go.Proofs.Ytmgkkbmcdnhdeae
