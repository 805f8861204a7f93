/- stat.Of and the reference's Of, walked. -/
import Derived.Test.YtmgkkbmcdnhdeaeSumOf
import Derived.BigRegion
namespace Go.Proofs.Ytmgkkbmcdnhdeae
open Go.RowKit
set_option linter.unusedSimpArgs false
set_option linter.unusedVariables false

set_option maxHeartbeats 1000000 in
theorem sof_err (A : Option Addr) (c B n : Nat) (l : List Int) (hn : l.length = n) (e : Int) (he : listE l = e) (hz : e ≠ 0) (hc : n ≤ c) (hm : c ≤ maxLen) (w : World) (hr : Reads w B 1 A n (cellsI l)) (hB : B ≤ w.heap.size) :
    Calls Try.prog 19 #[.slice A n c] w fun e' w' => e' = .returned (.tuple #[.agg #[.int .i64 0, .int .i64 0, .int .i64 0], .int .i64 e]) ∧ Below w.heap.size w w' := by
  have HN := Lib.hid hn
  have HE := Lib.hid he
  have HC := Lib.hid ((hr.alloc hB (.cells #[.int .i64 0, .int .i64 0, .int .i64 0] 42)))
  have E := Lib.hid ((Env.start w).lay #[.int .i64 0, .int .i64 0, .int .i64 0] 42)
  clear hn he hr
  go_enter Try.func19, Try.ntmps19
  go_wp2_with fail
  refine (wlist_is _ _ _ l n HN.out _ HE.out (by omega) _ HC.out).mono ?_
  rintro e' w' ⟨rfl, rfl⟩
  go_wp2
  refine bodyPost_ret (v := .tuple #[.agg #[.int .i64 0, .int .i64 0, .int .i64 0], .int .i64 e]) (by simp [results, Try.results19, go_sem]) rfl ⟨rfl, ?_⟩
  first | exact E.out.bel | exact ((E.out.bel.setCell (by simp <;> omega) _).setCell (by simp <;> omega) _).setCell (by simp <;> omega) _

set_option maxHeartbeats 1000000 in
theorem sof_ok (A : Option Addr) (c B n : Nat) (l : List Int) (hn : l.length = n) (he : listE l = 0) (hc : n ≤ c) (hm : c ≤ maxLen) (w : World) (hr : Reads w B 1 A n (cellsI l)) (hB : B ≤ w.heap.size) :
    Calls Try.prog 19 #[.slice A n c] w fun e' w' => e' = .returned (.tuple #[.agg #[.int .i64 n, .int .i64 (t1 l n), .int .i64 (t2 l n)], .int .i64 0]) ∧ Below w.heap.size w w' := by
  have HN := Lib.hid hn
  have HE := Lib.hid he
  have h64 : n ≤ 64 := by rw [← hn]; exact (listE_zero he).1
  have HC := Lib.hid ((hr.alloc hB (.cells #[.int .i64 0, .int .i64 0, .int .i64 0] 42)))
  have HR := Lib.hid hr
  have HV := Lib.hid (fun j (hj : j < n) => vals_of (listE_zero he).2 j (by omega))
  have HT := Lib.hid (fun j => t_bd l j (listE_zero he).2 (listE_zero he).1)
  have HS := Lib.hid (fun j (hj : j < n) => t_succ l j (by omega))
  have E := Lib.hid ((Env.start w).lay #[.int .i64 0, .int .i64 0, .int .i64 0] 42)
  have HBB := Lib.hid hB
  clear hn he hr hB
  go_enter Try.func19, Try.ntmps19
  go_wp2_with fail
  refine (wlist_is _ _ _ l n HN.out _ HE.out (by omega) _ HC.out).mono ?_
  rintro e' w' ⟨rfl, rfl⟩
  go_wp2
  go_loopw [7, 19] (fun v i wr => ∃ k : Nat, k ≤ n ∧ i = .int .i64 k ∧ Env w wr [(w.heap.size + 1, 42, #[.int .i64 n, .int .i64 (t1 l k), .int .i64 (t2 l k)]), (w.heap.size, 42, #[.int .i64 0, .int .i64 0, .int .i64 0])]) (fun _ i _ => n - (intOf i).toNat)
  case atStart =>
    have e0 : t1 l 0 = 0 ∧ t2 l 0 = 0 := ⟨rfl, rfl⟩
    refine ⟨0, Nat.zero_le _, rfl, ?_⟩
    rw [e0.1, e0.2]
    have := E.out.lay #[.int .i64 n, .int .i64 0, .int .i64 0] 42
    simpa using this
  case round =>
    obtain ⟨k, hk, rfl, hrel⟩ := hrel
    have F := Lib.hid hrel
    have RL := Lib.hid (HR.out.below hrel.bel HBB.out)
    clear hrel
    obtain ⟨y0, y1, y2, y3⟩ := HT.out k
    have p0 := F.out.hd.lt
    have a0 := F.out.hd.cell 0
    have a1 := F.out.hd.cell 1
    have a2 := F.out.hd.cell 2
    have f1 := F.out.hd.frozen 1
    have f2 := F.out.hd.frozen 2
    have b0 := F.out.tl.hd.cell 0
    have b1 := F.out.tl.hd.cell 1
    have b2 := F.out.tl.hd.cell 2
    have g0 := F.out.tl.hd.frozen 0
    have g1 := F.out.tl.hd.frozen 1
    have g2 := F.out.tl.hd.frozen 2
    simp at a0 a1 a2 b0 b1 b2
    by_cases hlt : k < n
    · obtain ⟨b, off, rfl, hb, hcells⟩ := RL.out.addr (by omega)
      have hcell := hcells k _ (cellsI_at l k (by rw [HN.out]; exact hlt))
      obtain ⟨x0, x1⟩ := HV.out k hlt
      have HSK := Lib.hid (HS.out k hlt)
      have z0 := Int.mul_nonneg x0 x0
      have z1 := Int.mul_le_mul x1 x1 x0 (by omega : (0 : Int) ≤ 16777216)
      clear hcells
      have HB := Lib.hid hb
      clear hb
      generalize hx : l.getD k 0 = x at *
      clear hx
      generalize hs : t1 l k = s at *
      generalize hq : t2 l k = q at *
      clear hs hq
      go_wp2
      go_roundw
      case rel =>
        refine ⟨k + 1, hlt, by simp, ?_⟩
        rw [HSK.out.1, HSK.out.2]
        have := (F.out.set_hd (by simp) 1 (.int .i64 (s + x))).set_hd (by simp) 2 (.int .i64 (q + x * x))
        simpa using this
      case measure => simp [intOf]; omega
    · have hkn : k = n := by omega
      have HK := Lib.hid hkn
      have hnk : n ≤ k := by omega
      clear hkn
      rw [← HK.out]
      generalize hs : t1 l k = s at *
      generalize hq : t2 l k = q at *
      have HS1 := Lib.hid hs
      have HQ1 := Lib.hid hq
      clear hs hq
      go_wp2
      refine bodyPost_ret (v := .tuple #[.agg #[.int .i64 k, .int .i64 s, .int .i64 q], .int .i64 0]) (by simp [results, Try.results19, go_sem, HK.out, *]) rfl ⟨by rw [← HK.out, HS1.out, HQ1.out], ?_⟩
      exact ((F.out.bel.setCell (by simp <;> omega) _).setCell (by simp <;> omega) _).setCell (by simp <;> omega) _
end Go.Proofs.Ytmgkkbmcdnhdeae
