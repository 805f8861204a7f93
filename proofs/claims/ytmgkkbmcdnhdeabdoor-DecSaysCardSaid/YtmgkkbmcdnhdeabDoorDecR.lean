/- slices.Reverse of bytes, walked. -/
import Derived.Test.YtmgkkbmcdnhdeabDoorBase
import Derived.RegionTactic
namespace Go.Proofs.YtmgkkbmcdnhdeabDoor
open Go.RowKit Go.Lib
set_option linter.unusedSimpArgs false
set_option linter.unusedVariables false

/-- after i swaps of the first n cells -/
def RevAt (cs : Array Value) (n i : Nat) (ds : Array Value) : Prop :=
  ds.size = cs.size ∧ ∀ k, k < n → ds[k]? = if k < i ∨ n - 1 - i < k then cs[n - 1 - k]? else cs[k]?
theorem RevAt.start (cs : Array Value) (n : Nat) : RevAt cs n 0 cs := ⟨rfl, fun k hk => by rw [if_neg (by omega)]⟩
theorem RevAt.step {cs ds : Array Value} {n i j : Nat} {u v : Value} (h : RevAt cs n i ds) (hn : n ≤ cs.size) (hij : i < j) (hj : j = n - 1 - i) (hu : ds[j]? = some u) (hv : ds[i]? = some v) : RevAt cs n (i + 1) ((ds.setIfInBounds i u).setIfInBounds j v) := by
  refine ⟨by simp [h.1], fun k hk => ?_⟩
  have hk' := h.2 k hk
  have hi' := h.2 i (by omega)
  have hj' := h.2 j (by omega)
  rw [if_neg (by omega)] at hi' hj'
  rw [Array.getElem?_setIfInBounds, Array.getElem?_setIfInBounds]
  by_cases h1 : j = k
  · subst h1
    rw [if_pos rfl, if_pos (by rw [Array.size_setIfInBounds, h.1]; omega), if_pos (by omega), show n - 1 - j = i by omega, ← hi', hv]
  · rw [if_neg h1]
    by_cases h2 : i = k
    · subst h2
      rw [if_pos rfl, if_pos (by rw [h.1]; omega), if_pos (by omega), ← hj, ← hj', hu]
    · rw [if_neg h2, hk']
      by_cases h3 : k < i ∨ n - 1 - i < k
      · rw [if_pos h3, if_pos (by omega)]
      · rw [if_neg h3, if_neg (by omega)]
theorem RevAt.ints {cs ds : Array Value} {n i : Nat} (h : RevAt cs n i ds) (hx : ∀ k, k < n → ∃ x : Int, cs[k]? = some (.int .u8 x)) : ∀ k, k < n → ∃ x : Int, ds[k]? = some (.int .u8 x) := by
  intro k hk
  rw [h.2 k hk]
  split
  · exact hx _ (by omega)
  · exact hx k hk
theorem RevAt.done {cs ds : Array Value} {n i : Nat} (h : RevAt cs n i ds) (h1 : 2 * i ≤ n) (h2 : n ≤ 2 * i + 1) : ∀ k, k < n → ds[k]? = cs[n - 1 - k]? := by
  intro k hk
  rw [h.2 k hk]
  by_cases h3 : k < i ∨ n - 1 - i < k
  · rw [if_pos h3]
  · rw [if_neg h3, show n - 1 - k = k by omega]

set_option maxHeartbeats 2000000 in
set_option maxRecDepth 100000 in
theorem rev_any (g c n : Nat) (cs : Array Value) (hn : n ≤ cs.size) (hm : n ≤ 1000000) (hc : n ≤ c) (hx : ∀ k, k < n → ∃ x : Int, cs[k]? = some (.int .u8 x)) (w : World) (h : Blk w g 5 cs) :
    Calls Tryd.prog 17 #[.slice (some ⟨g, 0, none⟩) n c] w fun e w' => e = .returned (.tuple #[]) ∧ Below g w w' ∧ ∃ ds, Blk w' g 5 ds ∧ ds.size = cs.size ∧ ∀ k, k < n → ds[k]? = cs[n - 1 - k]? := by
  have HK := Lib.hid h
  have HN := Lib.hid hn
  have HX := Lib.hid hx
  clear h hn hx
  go_enter Tryd.func17, Tryd.ntmps17
  go_wp2
  go_loopw [2, 3] (fun iv jv wr => ∃ (i : Nat) (ds : Array Value), 2 * i ≤ n ∧ iv = .int .i64 (i : Int) ∧ jv = .int .i64 ((n : Int) - 1 - i) ∧ RevAt cs n i ds ∧ Blk wr g 5 ds ∧ Below g w wr) (fun iv _ _ => n - (intOf iv).toNat)
  case atStart => exact ⟨0, cs, by omega, rfl, by simp, RevAt.start cs n, HK.out, Below.refl _ _⟩
  case round =>
    obtain ⟨i, ds, hi, rfl, rfl, hR, hB, hbel⟩ := hrel
    have RR := Lib.hid hR
    have BB := Lib.hid hB
    have BL := Lib.hid hbel
    by_cases hlt : 2 * i + 1 < n
    · obtain ⟨j, hj⟩ : ∃ j, j = n - 1 - i := ⟨_, rfl⟩
      have ej : (n : Int) - 1 - (i : Int) = (j : Int) := by omega
      rw [ej]
      have hij : i < j := by omega
      have hjn : j < n := by omega
      have hin : i < n := by omega
      have HJ := Lib.hid hj
      have hsz := hR.1
      have hn' := HN.out
      obtain ⟨u, hu⟩ := hR.ints HX.out j hjn
      obtain ⟨v, hv⟩ := hR.ints HX.out i hin
      have ci := (hB.cell i).trans hv
      have cj := (hB.cell j).trans hu
      have fi := hB.frozen i
      have fj := hB.frozen j
      have hne : ¬ i = j := by omega
      have hne' : ¬ j = i := by omega
      have HU := Lib.hid hu
      have HV := Lib.hid hv
      clear hR hB hbel hj ej hsz hn' hu hv
      go_wp2_with fail
      go_region
      all_goals
        go_wp2
        exact ⟨⟨i + 1, (ds.setIfInBounds i (.int .u8 u)).setIfInBounds j (.int .u8 v), by omega, by simp, by have := HJ.out; congr 1; omega, RR.out.step HN.out hij HJ.out HU.out HV.out,
          ((BB.out.set_ i _).set_ j _).drew, ((BL.out.setCell (Nat.le_refl _) _).setCell (Nat.le_refl _) _).drew⟩, by simp [intOf]; omega⟩
    · have HD := Lib.hid (hR.done hi (by omega))
      have hd : ¬ (i : Int) < (n : Int) - 1 - i := by omega
      have HS := Lib.hid hR.1
      clear hR hB hbel
      go_wp2
      exact ⟨rfl, .tuple #[], by simp [results, Tryd.results17, go_sem], rfl, BL.out, ds, BB.out, HS.out, HD.out⟩
end Go.Proofs.YtmgkkbmcdnhdeabDoor
