/- The reference's Marks, walked. -/
import Derived.Test.YtldfppcdklnmlabMarks
namespace Go.Proofs.Ytldfppcdklnmlab
open Go.RowKit
set_option linter.unusedSimpArgs false
set_option linter.unusedVariables false

theorem setHd {w0 W : World} {l : List (Nat × TypeId × Array Value)} {g : Nat} {t : TypeId} {cs : Array Value} (h : Env w0 W ((g, t, cs) :: l)) (hd : ∀ x ∈ l, x.1 ≠ g) (i : Nat) (u : Value) :
    Env w0 (W.setCell ⟨g, i, none⟩ u) ((g, t, cs.setIfInBounds i u) :: l) := by
  have hg := (h.2 _ (List.mem_cons_self ..)).1
  refine ⟨h.1.setCell hg _, fun x hx => ?_⟩
  rcases List.mem_cons.1 hx with rfl | hx
  · exact ⟨hg, h.hd.set_ i u⟩
  · have := h.2 x (List.mem_cons_of_mem _ hx)
    exact ⟨this.1, this.2.far (p := ⟨g, i, none⟩) (hd x hx) u⟩
theorem wlen (l : List Trn) (fin : Int) : (withEnd l fin).length = l.length + 1 := by simp [withEnd]

set_option maxHeartbeats 4000000 in
theorem rmarks_ok (A : Option Addr) (c B n : Nat) (l : List Trn) (hn : l.length = n) (fin : Int) (he : turnsE l fin = 0) (hz : 1 ≤ n) (hc : n ≤ c) (hm : c ≤ maxLen) (w : World) (hr : Reads w B 2 A n (cellsT l)) (hB : B ≤ w.heap.size) :
    Calls Try.prog 8 #[.slice A n c, .int .i64 fin] w fun e' w' => e' = .returned (.agg #[.int .i64 (((n + 1) / 2 : Nat) : Int), .int .i64 (badT (withEnd l fin) (n + 1)), .int .i64 (fin - badT (withEnd l fin) (n + 1))]) ∧ Below w.heap.size w w' := by
  have hfit := turnsE_zero he
  have h64 : n ≤ 64 := by have := hfit.2.2.1; omega
  have f0 := hfit.1
  have f1 := hfit.2.1
  have HFI := Lib.hid hfit
  have HN := Lib.hid hn
  obtain ⟨g, off, rfl, hg, hat⟩ := hr.turns hn (by omega)
  have hgw : g < w.heap.size := by omega
  have HA := Lib.hid hat
  have E := Lib.hid (((Env.start w).lay #[.int .i64 0, .int .i64 0, .int .i64 0] 24).lay #[.int .i64 (((n + 1) / 2 : Nat) : Int), .int .i64 0, .int .i64 0] 24)
  have e1 : ((n : Int) + 1) / 2 = (((n + 1) / 2 : Nat) : Int) := by omega
  have HE1 := Lib.hid e1
  have hti : (n + 1) / 2 ≤ 40 := by omega
  clear hn he hr hB hfit hat hg e1
  generalize ht : (n + 1) / 2 = ti at *
  have HTI := Lib.hid ht
  clear ht
  go_enter Try.func8, Try.ntmps8
  go_wp2
  rw [HE1.out]
  go_loopw [6, 7] (fun i _ wr => ∃ j : Nat, 2 * j ≤ n + 1 ∧ i = .int .i64 (2 * j : Nat) ∧
      Env w wr [(w.heap.size + 1, 24, #[.int .i64 ti, .int .i64 (badT (withEnd l fin) (2 * j)), .int .i64 0]), (w.heap.size, 24, #[.int .i64 0, .int .i64 0, .int .i64 0])]) (fun i _ _ => n + 2 - (intOf i).toNat)
  case atStart =>
    refine ⟨0, by omega, rfl, ?_⟩
    have := E.out
    simpa [badT] using this
  case round =>
    obtain ⟨j, hj, rfl, hE⟩ := hrel
    have F := Lib.hid hE
    have T := Lib.hid (HA.out.below hE.bel hgw)
    have hsz := hE.bel.size
    clear hE
    have q0 := F.out.hd.lt
    have m0 := F.out.hd.cell 0
    have m1 := F.out.hd.cell 1
    have m2 := F.out.hd.cell 2
    have z0 := F.out.tl.hd.cell 0
    have z1 := F.out.tl.hd.cell 1
    have z2 := F.out.tl.hd.cell 2
    have k0 := F.out.hd.frozen 0
    have k1 := F.out.hd.frozen 1
    have k2 := F.out.hd.frozen 2
    have k3 := F.out.tl.hd.frozen 0
    have k4 := F.out.tl.hd.frozen 1
    have k5 := F.out.tl.hd.frozen 2
    simp at m0 m1 m2 z0 z1 z2
    have hlen := HN.out
    have hgr : g < wr.heap.size := by omega
    by_cases hlt : 2 * j < n
    · obtain ⟨x0, -⟩ := T.out (2 * j) hlt
      obtain ⟨s0, s1⟩ := HFI.out.step (2 * j) (by omega)
      obtain ⟨s2, s3⟩ := HFI.out.step (2 * j + 1) (by omega)
      have e2 : lowT (withEnd l fin) (2 * j + 1) = Tm (withEnd l fin) (2 * j) := rfl
      rw [e2] at s2
      obtain ⟨l0, l1⟩ := HFI.out.low (2 * j) (by omega)
      obtain ⟨b0, b1, b2, b3⟩ := HFI.out.bad (2 * j) (by omega)
      have HPR := Lib.hid (bad_pair (withEnd l fin) j)
      rw [← Tm_with (fin := fin) (by omega : 2 * j < l.length)] at x0
      by_cases hlt2 : 2 * j + 1 < n
      · obtain ⟨y0, -⟩ := T.out (2 * j + 1) hlt2
        rw [← Tm_with (fin := fin) (by omega : 2 * j + 1 < l.length)] at y0
        clear hlen e2
        generalize Tm (withEnd l fin) (2 * j) = t at *
        generalize Tm (withEnd l fin) (2 * j + 1) = t' at *
        generalize lowT (withEnd l fin) (2 * j) = lo at *
        generalize badT (withEnd l fin) (2 * j) = ba at *
        generalize h2 : 2 * j = k at *
        have H2 := Lib.hid h2
        clear h2
        go_wp2
        go_region
        go_wp2
        go_roundw
        case rel =>
          refine ⟨j + 1, by have := H2.out; omega, by rw [← H2.out]; simp; omega, ?_⟩
          rw [HPR.out]
          have := (setHd F.out (by simp) 1 (.int .i64 (ba + (t' - t)))).drew
          simpa using this
        case measure => simp [intOf]; omega
      · have hk1 : 2 * j + 1 = l.length := by omega
        have e3 : Tm (withEnd l fin) (2 * j + 1) = fin := by rw [hk1]; exact Tm_end l fin
        rw [e3] at HPR s2
        clear hlen e2 e3 hk1
        generalize Tm (withEnd l fin) (2 * j) = t at *
        generalize lowT (withEnd l fin) (2 * j) = lo at *
        generalize badT (withEnd l fin) (2 * j) = ba at *
        generalize h2 : 2 * j = k at *
        have H2 := Lib.hid h2
        clear h2
        go_wp2
        go_region
        go_wp2
        go_roundw
        case rel =>
          refine ⟨j + 1, by have := H2.out; omega, by rw [← H2.out]; simp; omega, ?_⟩
          rw [HPR.out]
          have := (setHd F.out (by simp) 1 (.int .i64 (ba + (fin - t)))).drew
          simpa using this
        case measure => simp [intOf]; omega
    · have hfin : badT (withEnd l fin) (n + 1) = badT (withEnd l fin) (2 * j) := by
        by_cases e : 2 * j = n
        · rw [← e]; exact bad_even _ _ (by omega)
        · rw [show n + 1 = 2 * j by omega]
      have HFN := Lib.hid hfin
      obtain ⟨b0, b1, b2, b3⟩ := HFI.out.bad (2 * j) (by omega)
      clear hfin hlen
      generalize badT (withEnd l fin) (2 * j) = ba at *
      generalize h2 : 2 * j = k at *
      clear h2
      go_wp2
      refine bodyPost_ret (v := .agg #[.int .i64 ti, .int .i64 ba, .int .i64 (fin - ba)]) (by simp [results, Try.results8, go_sem, *]) rfl ⟨by rw [HFN.out], ?_⟩
      exact (((F.out.bel.setCell (by simp) _).setCell (by simp) _).setCell (by simp) _).setCell (by simp) _
end Go.Proofs.Ytldfppcdklnmlab
