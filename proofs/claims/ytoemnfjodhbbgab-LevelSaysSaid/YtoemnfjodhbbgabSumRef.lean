/- The reference's Of, walked: it calls itself. -/
import Derived.Test.YtoemnfjodhbbgabSumFn
namespace Go.Proofs.Ytoemnfjodhbbgab
open Go.RowKit
set_option linter.unusedSimpArgs false
set_option linter.unusedVariables false

theorem s_small (l : List Int) (h : l.any offI = false) (h64 : l.length ≤ 64) : 0 ≤ s1 l ∧ s1 l ≤ 1073741824 ∧ 0 ≤ s2 l ∧ s2 l ≤ 18014398509481984 := by
  obtain ⟨a, b, c, d⟩ := s_bd l h
  refine ⟨a, by omega, c, by omega⟩

set_option maxHeartbeats 1000000 in
theorem rof_all : ∀ (l : List Int), l.any offI = false → l.length ≤ 64 → ∀ (A : Option Addr) (c B : Nat) (w : World), l.length ≤ c → c ≤ maxLen → Reads w B 1 A l.length (cellsI l) → B ≤ w.heap.size →
    Calls Try.prog 17 #[.slice A l.length c] w fun e' w' => e' = .returned (.agg #[.int .i64 l.length, .int .i64 (s1 l), .int .i64 (s2 l)]) ∧ Below w.heap.size w w'
  | [], hv, h64, A, c, B, w, hc, hm, hr, hB => by
    clear hr
    show Calls _ _ #[.slice A 0 c] _ _
    simp only [List.length_nil, s1, s2]
    go_enter Try.func17, Try.ntmps17
    go_wp2
    refine bodyPost_ret (v := .agg #[.int .i64 0, .int .i64 0, .int .i64 0]) (by simp [results, Try.results17, go_sem]) rfl ⟨rfl, ?_⟩
    exact (Below.refl _ _).alloc (Nat.le_refl _) _
  | x :: l, hv, h64, A, c, B, w, hc, hm, hr, hB => by
    have hv' : l.any offI = false := by simp only [List.any_cons, Bool.or_eq_false_iff] at hv; exact hv.2
    obtain ⟨y0, y1, y2, y3⟩ := s_small l hv' (by simp at h64; omega)
    obtain ⟨x0, x1⟩ := vals_of hv 0 (by simp)
    have ih := rof_all l hv' (by simp at h64; omega)
    obtain ⟨b, off, rfl, hb, hcells⟩ := hr.addr (by simp)
    have hcell := hcells 0 _ (cellsI_at (x :: l) 0 (by simp))
    have hx0 : (x :: l).getD 0 0 = x := rfl
    rw [hx0] at hcell x0 x1
    simp only [Nat.add_zero] at hcell
    have hln : (x :: l).length = l.length + 1 := rfl
    obtain ⟨c', rfl⟩ : ∃ c', c = c' + 1 := ⟨c - 1, by rw [hln] at hc; omega⟩
    have hcl : l.length ≤ c' := by rw [hln] at hc; omega
    have htail : ∀ A', (l.length = 0 ∨ A' = some ⟨b, off + 1, none⟩) → Reads w B 1 A' l.length (cellsI l) := by
      rintro A' h
      refine ⟨by simp [cellsI], fun hn => ?_⟩
      rcases h with h | rfl
      · omega
      · refine ⟨_, rfl, hb, fun j u hu => ?_⟩
        have := hcells (j + 1) u (by simpa [cellsI] using hu)
        by_cases hj : j = 0
        · subst hj; simpa [Addr.add] using this
        · simpa [Addr.add, hj, Nat.add_assoc, Nat.add_comm 1] using this
    have IH := Lib.hid ih
    have HT := Lib.hid htail
    have HBB := Lib.hid hB
    have h64' : l.length ≤ 63 := by rw [hln] at h64; omega
    have hs1 : s1 (x :: l) = s1 l + x := rfl
    have hs2 : s2 (x :: l) = s2 l + x * x := rfl
    rw [hs1, hs2, hln]
    have z0 := Int.mul_nonneg x0 x0
    have z1 := Int.mul_le_mul x1 x1 x0 (by omega : (0 : Int) ≤ 16777216)
    have hblt : b < w.heap.size := by omega
    clear ih hcells hr hv hv' hx0 hln hc h64 hs1 hs2 htail hB hb
    have E := Lib.hid ((Env.start w).lay #[.int .i64 0, .int .i64 0, .int .i64 0] 33)
    generalize hn : l.length = n at *
    have HN := Lib.hid hn
    generalize hs : s1 l = s at *
    generalize hq : s2 l = q at *
    clear hn hs hq
    by_cases hc1 : c' = 0
    · subst hc1
      obtain rfl : n = 0 := Nat.le_zero.1 hcl
      go_enter Try.func17, Try.ntmps17
      go_wp2_with fail
      refine (IH.out _ _ B _ (Nat.le_refl _) (by omega) ((HT.out _ (by simp)).alloc HBB.out _) (by have := HBB.out; simp; omega)).mono ?_
      rintro e' w1 ⟨rfl, hb1⟩
      have E1 := Lib.hid ((E.out.below hb1).lay #[.int .i64 0, .int .i64 s, .int .i64 q] 33)
      have hcell1 := (hb1.cell (p := ⟨b, off, none⟩) (by simp; omega)).trans ((World.cell?_alloc_lt w _ ⟨b, off, none⟩ (by omega)).trans hcell)
      have hlt1 : b < w1.heap.size := by have := hb1.size; simp at this; omega
      clear hb1 hcell
      go_wp2_with fail
      have HCW := Lib.hid ((World.cell?_alloc_lt w1 (.cells #[.int .i64 0, .int .i64 s, .int .i64 q] 33) ⟨b, off, none⟩ hlt1).trans hcell1)
      clear hcell1
      generalize hW : w1.alloc (.cells #[.int .i64 0, .int .i64 s, .int .i64 q] 33) = W2 at *
      clear hW
      have q0 := E1.out.hd.lt
      have a0 := E1.out.hd.cell 0
      have a1 := E1.out.hd.cell 1
      have a2 := E1.out.hd.cell 2
      have b0 := E1.out.tl.hd.cell 0
      have b1 := E1.out.tl.hd.cell 1
      have b2 := E1.out.tl.hd.cell 2
      have f0 := E1.out.tl.hd.frozen 0
      have f1 := E1.out.tl.hd.frozen 1
      have f2 := E1.out.tl.hd.frozen 2
      have q1 := E1.out.tl.hd.lt
      simp at a0 a1 a2 b0 b1 b2
      have hcell2 : W2.cell? ⟨b, off, none⟩ = some (.int .i64 x) := HCW.out
      go_region
      go_wp2
      refine bodyPost_ret (v := .agg #[.int .i64 1, .int .i64 (s + x), .int .i64 (q + x * x)]) (by simp [results, Try.results17, go_sem, *]) rfl ⟨rfl, ?_⟩
      exact (((E1.out.bel.drew).setCell (by simp <;> omega) _).setCell (by simp <;> omega) _).setCell (by simp <;> omega) _
    · have hc2 : ¬ ((c' : Int) + 1 = 1) := by omega
      go_enter Try.func17, Try.ntmps17
      go_wp2_with fail
      refine (IH.out _ _ B _ hcl (by omega) ((HT.out _ (.inr rfl)).alloc HBB.out _) (by have := HBB.out; simp; omega)).mono ?_
      rintro e' w1 ⟨rfl, hb1⟩
      have E1 := Lib.hid ((E.out.below hb1).lay #[.int .i64 n, .int .i64 s, .int .i64 q] 33)
      have hcell1 := (hb1.cell (p := ⟨b, off, none⟩) (by simp; omega)).trans ((World.cell?_alloc_lt w _ ⟨b, off, none⟩ (by omega)).trans hcell)
      have hlt1 : b < w1.heap.size := by have := hb1.size; simp at this; omega
      clear hb1 hcell
      go_wp2_with fail
      have HCW := Lib.hid ((World.cell?_alloc_lt w1 (.cells #[.int .i64 n, .int .i64 s, .int .i64 q] 33) ⟨b, off, none⟩ hlt1).trans hcell1)
      clear hcell1
      generalize hW : w1.alloc (.cells #[.int .i64 n, .int .i64 s, .int .i64 q] 33) = W2 at *
      clear hW

      have q0 := E1.out.hd.lt
      have a0 := E1.out.hd.cell 0
      have a1 := E1.out.hd.cell 1
      have a2 := E1.out.hd.cell 2
      have b0 := E1.out.tl.hd.cell 0
      have b1 := E1.out.tl.hd.cell 1
      have b2 := E1.out.tl.hd.cell 2
      have f0 := E1.out.tl.hd.frozen 0
      have f1 := E1.out.tl.hd.frozen 1
      have f2 := E1.out.tl.hd.frozen 2
      have q1 := E1.out.tl.hd.lt
      simp at a0 a1 a2 b0 b1 b2
      have hcell2 : W2.cell? ⟨b, off, none⟩ = some (.int .i64 x) := HCW.out
      go_region
      go_wp2
      refine bodyPost_ret (v := .agg #[.int .i64 (n + 1), .int .i64 (s + x), .int .i64 (q + x * x)]) (by simp [results, Try.results17, go_sem, *]) rfl ⟨rfl, ?_⟩
      exact (((E1.out.bel.drew).setCell (by simp <;> omega) _).setCell (by simp <;> omega) _).setCell (by simp <;> omega) _
end Go.Proofs.Ytoemnfjodhbbgab
