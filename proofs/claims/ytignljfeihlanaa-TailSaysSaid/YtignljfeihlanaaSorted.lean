/- The reference's Sorted, walked. -/
import Derived.Test.YtignljfeihlanaaSortP
import Derived.Test.YtignljfeihlanaaRow
import Derived.OwnWalk
import Derived.Deep.DeepCutAuto
namespace Go.Proofs.Ytignljfeihlanaa
open Go.RowKit
set_option linter.unusedSimpArgs false
set_option linter.unusedVariables false

theorem int_info_s : (Try.prog.info? 3).map (fun i => (i.zero, i.size, i.bytes)) = some (some (.int .i64 0), 1, 8) := by kernel_rfl
theorem madeInts (n : Nat) : (madeCells #[Value.int .i64 0] n).toList = cellsI (List.replicate n 0) := by
  simp only [madeCells, cellsI, List.map_replicate]
  apply List.ext_getElem <;> simp [Nat.mod_one]
theorem blk_of_own {w : World} {base : Nat} {e : TypeId} {g n : Nat} {xs : List Value} (h : w.ownsRow base e 1 (.slice (some ⟨g, 0, none⟩) n n) n xs) : Blk w g e xs.toArray ∧ base ≤ g := by
  rcases h.2 with ⟨h1, _⟩ | ⟨g', cap, cur, hv, hb, hg, hnc, hm, hs, hx⟩
  · cases h1
  · injection hv with h1 h2 h3
    injection h1 with h1
    injection h1 with h1
    subst h1 h3
    have : cur.toList.length = n * 1 := by rw [Array.length_toList]; exact hs
    rw [List.take_of_length_le (by omega)] at hx
    subst hx
    exact ⟨hg, hb⟩
theorem cells_set (os : List Int) (r : Nat) (x : Int) : (cellsI os).toArray.setIfInBounds r (.int .i64 x) = (cellsI (os.set r x)).toArray := by
  simp [cellsI, List.map_set]
theorem Blk.cell_at {W : World} {g o : Nat} {t : TypeId} {cs : Array Value} {v : Value} (h : Blk W g t cs) (h2 : cs[o]? = some v) : W.cell? ⟨g, o, none⟩ = some v := (h.cell o).trans h2
theorem reads_blk {w : World} {g n : Nat} {e : TypeId} {T : List Int} (h : Blk w g e (cellsI T).toArray) (hn : T.length = n) : Reads w w.heap.size 1 (some ⟨g, 0, none⟩) n (cellsI T) :=
  ⟨by simp [cellsI, hn], fun _ => ⟨_, rfl, h.lt, fun j u hu => by
    have := h.cell_at (v := u) (o := j) (by simpa using hu)
    show w.cell? (Addr.add ⟨g, 0, none⟩ j) = some u
    unfold Addr.add
    split
    · rename_i h0; rw [h0] at this; exact this
    · simpa using this⟩⟩

set_option maxHeartbeats 4000000 in
set_option maxRecDepth 100000 in
theorem rsorted_any (A : Option Addr) (c n : Nat) (l T : List Int) (hT : So.IsSort l T) (hn : l.length = n) (hm : n ≤ 1000000) (w : World) (hr : Reads w w.heap.size 1 A n (cellsI l)) :
    Calls Try.prog 9 #[.slice A n c] w fun e w' => ∃ A', e = .returned (.slice A' n n) ∧ Reads w' w'.heap.size 1 A' n (cellsI T) ∧ Below w.heap.size w w' := by
  obtain ⟨i0, hi, hz0, hz1, hz2⟩ := info_parts int_info_s
  have HN := Lib.hid hn
  have HT := Lib.hid hT
  have HR := Lib.hid hr
  clear hr hT hn
  go_enter Try.func9, Try.ntmps9
  go_wp2_with (at_make; refine wpList_make_full w rfl _ _ _ rfl w.heap.size 3 i0 (.int .i64 0) 1 Try.underlying22 hi hz0 hz1 .i64 .i64 _ _ n rfl rfl rfl rfl ?c1 ?c2 ?c3 ?_)
  case c1 => rw [hz2]; omega
  case c2 => unfold maxLen; omega
  case c3 => omega
  intro w1 hown hg
  rw [madeInts] at hown
  have hbel : Below w.heap.size w w1 := ⟨hg.os, hg.tape, hg.output, hg.size, fun k hk => hg.block k hk (by simp)⟩
  have E := Lib.hid (show Env w w1 [(w.heap.size, 3, (cellsI (List.replicate n 0)).toArray)] from ⟨hbel, fun x hx => by
    simp at hx; subst hx; exact ⟨Nat.le_refl _, (blk_of_own hown).1⟩⟩)
  clear hown hbel hg hi
  go_wp2_with fail
  go_loopw [14] (fun iv wr => ∃ (i : Nat) (os : List Int), i ≤ n ∧ iv = .int .i64 (i : Int) ∧ os.length = n ∧ (∀ j, j < i → os[So.rk l j]? = T[So.rk l j]?) ∧ Env w wr [(w.heap.size, 3, (cellsI os).toArray)]) (fun iv _ => n - (intOf iv).toNat)
  case atStart => exact ⟨0, List.replicate n 0, by omega, rfl, by simp, fun j hj => absurd hj (by omega), E.out⟩
  case round =>
    obtain ⟨i, os, hin, rfl, hos, hpl, hE⟩ := hrel
    have F := Lib.hid hE
    have HOS := Lib.hid hos
    have HPL := Lib.hid hpl
    have RL := Lib.hid (HR.out.below hE.bel (Nat.le_refl _))
    clear hE hpl hos E
    by_cases hlt : i < n
    · obtain ⟨b, off, rfl, hb, hcells⟩ := RL.out.addr (by omega)
      have HB := Lib.hid hb
      have HCE := Lib.hid (fun k (hk : k < n) => hcells k _ (cellsI_at l k (by rw [HN.out]; exact hk)))
      have hcell := HCE.out i hlt
      have HIL := Lib.hid (show i < l.length by rw [HN.out]; exact hlt)
      clear hcells hb
      obtain ⟨x, hx⟩ : ∃ x, x = l.getD i 0 := ⟨_, rfl⟩
      rw [← hx] at hcell
      have HX := Lib.hid hx
      clear hx
      go_wp2_with fail
      go_loopw [6, 21] (fun av kv wr' => ∃ k : Nat, k ≤ n ∧ av = .int .i64 (So.cn l i k : Nat) ∧ kv = .int .i64 (k : Int) ∧ wr' = wr) (fun _ kv _ => n - (intOf kv).toNat)
      case atStart => exact ⟨0, by omega, by rw [So.cn_zero]; rfl, rfl, rfl⟩
      case round =>
        obtain ⟨k, hkn, rfl, rfl, rfl⟩ := hrel
        by_cases hk : k < n
        · have kcell := HCE.out k hk
          obtain ⟨y, hy⟩ : ∃ y, y = l.getD k 0 := ⟨_, rfl⟩
          rw [← hy] at kcell
          have HST := Lib.hid (So.cn_step (l := l) (i := i) (k := k) (by rw [HN.out]; exact hk))
          rw [← HX.out, ← hy] at HST
          have hcn : So.cn l i k ≤ 2 * k := So.cn_le (by rw [HN.out]; omega)
          have HY := Lib.hid hy
          clear hy
          obtain ⟨c2, hc2e⟩ : ∃ c2, c2 = So.cn l i (k + 1) := ⟨_, rfl⟩
          rw [← hc2e] at HST
          have HC2 := Lib.hid hc2e
          clear hc2e
          generalize hc1 : So.cn l i k = c1 at *
          clear hc1
          by_cases h1 : y < x
          · have hc2 := HST.out
            rw [if_pos (Or.inl h1)] at hc2
            subst hc2
            go_wp2
            go_roundw
            case rel => exact ⟨k + 1, by omega, by rw [← HC2.out]; simp, by simp, by first | rfl | trivial⟩
            case measure => simp [intOf]; omega
          · by_cases h2 : y = x ∧ k < i
            · have hc2 := HST.out
              rw [if_pos (Or.inr h2)] at hc2
              subst hc2
              obtain ⟨rfl, h3⟩ := h2
              go_wp2
              go_roundw
              case rel => exact ⟨k + 1, by omega, by rw [← HC2.out]; simp, by simp, by first | rfl | trivial⟩
              case measure => simp [intOf]; omega
            · have hc2 := HST.out
              rw [if_neg (fun h => h.elim h1 h2), Nat.add_zero] at hc2
              subst hc2
              have h4 : y ≠ x ∨ ¬ k < i := by
                rcases Classical.em (y = x) with h | h
                · exact .inr fun hk => h2 ⟨h, hk⟩
                · exact .inl h
              clear h2
              rcases h4 with h4 | h4
              · have h5 : (y == x) = false := by simpa using h4
                go_wp2
                go_roundw
                case rel => exact ⟨k + 1, by omega, by rw [← HC2.out], by simp, by first | rfl | trivial⟩
                case measure => simp [intOf]; omega
              · have h5 : i ≤ k := by omega
                clear h4
                go_wp2
                all_goals
                  go_roundw
                  case rel => exact ⟨k + 1, by omega, by rw [← HC2.out], by simp, by first | rfl | trivial⟩
                  case measure => simp [intOf]; omega
        · have hkn2 : k = n := by omega
          subst hkn2
          have HCA := Lib.hid (show So.cn l i k = So.rk l i by rw [← HN.out]; exact So.cn_all HIL.out)
          have hrk : So.rk l i < k := by have := So.rk_lt HT.out HIL.out; rw [HN.out] at this; exact this
          rw [HCA.out]
          generalize hr : So.rk l i = r at *
          have HRK := Lib.hid hr
          clear hr HCA
          have hst := F.out.hd.cell_at (o := r) (v := .int .i64 (os.getD r 0)) (by simp; exact cellsI_at os r (by rw [HOS.out]; exact hrk))
          have hfz := F.out.hd.frozen r
          go_wp2
          go_roundw
          case rel =>
            refine ⟨i + 1, os.set r x, by omega, by simp, by rw [List.length_set]; exact HOS.out, ?_, ?_⟩
            · rw [HX.out, ← HRK.out]
              exact So.put HT.out HIL.out (by rw [HOS.out, HN.out]) HPL.out
            · rw [← cells_set]
              exact F.out.setHd (by simp) r (.int .i64 x)
          case measure => simp [intOf]; omega
    · have hin2 : i = n := by omega
      subst hin2
      have hos2 : os = T := So.done HT.out (by rw [HOS.out, HN.out]) (by rw [HN.out]; exact HPL.out)
      have HTL := Lib.hid (show T.length = i by rw [HT.out.2.length_eq, HN.out])
      subst hos2
      go_wp2
      go_ret
      exact ⟨_, rfl, reads_blk F.out.hd HTL.out, F.out.bel⟩
end Go.Proofs.Ytignljfeihlanaa
