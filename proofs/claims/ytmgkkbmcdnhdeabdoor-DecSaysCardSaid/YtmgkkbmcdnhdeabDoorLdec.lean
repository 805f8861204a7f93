/- The law DecSays, walked. -/
import Derived.Test.YtmgkkbmcdnhdeabDoorDecT
import Derived.Test.YtmgkkbmcdnhdeabDoorDecU
import Derived.Test.YtmgkkbmcdnhdeabDoorDecX
import Derived.Deep.RegionHeld3
namespace Go.Proofs.YtmgkkbmcdnhdeabDoor
open Go.RowKit Go.Lib
set_option linter.unusedSimpArgs false
set_option linter.unusedVariables false

theorem Below.thru4 {w X W : World} (h : Below w.heap.size w X) (h2 : Below X.heap.size X W) : Below w.heap.size w W := h.trans (h2.mono h.size)
theorem rparse_any (s : ByteArray) (hs : s.size ≤ maxLen) (w : World) : Calls Tryd.prog 5 #[.string s] w (ParseIs s w) := by
  by_cases hz : s.size = 0
  · exact rparse_bad s hs (.inl hz) w
  · cases hl : Dc.lead s
    · cases hd : Dc.allD s
      · exact rparse_bad s hs (.inr (.inr hd)) w
      · exact rparse_good s hs hz hl hd w
    · exact rparse_bad s hs (.inr (.inl hl)) w

set_option maxHeartbeats 4000000 in
set_option maxRecDepth 100000 in
theorem decSays_walk (n : Nat) (s : ByteArray) (w : World) (hn : n < 2 ^ 128) (hs : s.size ≤ maxLen) :
    Calls Tryd.prog 3 #[.agg #[.int .u64 (hiN n), .int .u64 (loN n)], .string s] w fun e' w' => e' = .returned (.bool true) ∧ Below w.heap.size w w' := by
  have HP1 := Lib.hid (parse_any s hs)
  have HP2 := Lib.hid (rparse_any s hs)
  have HT1 := Lib.hid (text_any n hn)
  have HT2 := Lib.hid (rtext_any n hn)
  unfold ParseIs at HP1 HP2
  clear hn hs
  generalize Dc.txt n = tx at *
  generalize hiN (Dc.parseV s) = ph at *
  generalize loN (Dc.parseV s) = pl at *
  generalize Dc.parseE s = pe at *
  generalize hiN n = nh at *
  generalize loN n = nl at *
  have E := Lib.hid ((Env.start w).lay #[.int .u64 nh, .int .u64 nl] 24)
  go_enter Tryd.func3, Tryd.ntmps3
  go_wp2_with fail
  refine (HP1.out _).mono ?_
  rintro e' w1 ⟨rfl, hb1⟩
  have E1 := Lib.hid ((E.out.below hb1).lay #[.int .u64 ph, .int .u64 pl] 24)
  clear hb1 E
  go_wp2_with fail
  refine (HP2.out _).mono ?_
  rintro e' w2 ⟨rfl, hb2⟩
  have E2 := Lib.hid ((E1.out.below hb2).lay #[.int .u64 ph, .int .u64 pl] 24)
  clear hb2 E1
  go_upto_region 3 with fail
  generalize hW3 : World.alloc w2 _ = w3 at *
  have q2 : w2.heap.size < w3.heap.size := by rw [← hW3]; simp
  clear hW3
  have q1 := E2.out.tl.hd.lt
  have q0 := E2.out.tl.tl.hd.lt
  have HS := Lib.hid (show ∀ w', Below w3.heap.size w3 w' → (Below w3.heap.size w3 w' ∧ w'.cell? ⟨w.heap.size, 0, none⟩ = some (.int .u64 nh) ∧ w'.cell? ⟨w.heap.size, 1, none⟩ = some (.int .u64 nl) ∧ w'.cell? ⟨w1.heap.size, 0, none⟩ = some (.int .u64 ph) ∧ w'.cell? ⟨w1.heap.size, 1, none⟩ = some (.int .u64 pl) ∧ w'.cell? ⟨w2.heap.size, 0, none⟩ = some (.int .u64 ph) ∧ w'.cell? ⟨w2.heap.size, 1, none⟩ = some (.int .u64 pl))
    from fun w' h => ⟨h, (E2.out.below h).tl.tl.hd.cell 0, (E2.out.below h).tl.tl.hd.cell 1, (E2.out.below h).tl.hd.cell 0, (E2.out.below h).tl.hd.cell 1, (E2.out.below h).hd.cell 0, (E2.out.below h).hd.cell 1⟩)
  go_region_held3 (fun w' => Below w3.heap.size w3 w' ∧ w'.cell? ⟨w.heap.size, 0, none⟩ = some (.int .u64 nh) ∧ w'.cell? ⟨w.heap.size, 1, none⟩ = some (.int .u64 nl) ∧ w'.cell? ⟨w1.heap.size, 0, none⟩ = some (.int .u64 ph) ∧ w'.cell? ⟨w1.heap.size, 1, none⟩ = some (.int .u64 pl) ∧ w'.cell? ⟨w2.heap.size, 0, none⟩ = some (.int .u64 ph) ∧ w'.cell? ⟨w2.heap.size, 1, none⟩ = some (.int .u64 pl))
    ((refine HS.out _ ?_; repeat (first | (with_reducible exact hL5) | (with_reducible exact hL4) | (with_reducible exact Below.refl _ _) | (with_reducible refine Below.drew ?_))))
    (first
      | (go_at_call 6; (with_reducible refine (HT1.out _).mono ?_); rintro e' w4 ⟨rfl, hb4⟩; have hL4 : Below w3.heap.size w3 w4 := Below.thru4 (by repeat (first | (with_reducible exact Below.refl _ _) | (with_reducible refine Below.drew ?_))) hb4)
      | (go_at_call 7; (with_reducible refine (HT2.out _).mono ?_); rintro e' w5 ⟨rfl, hb5⟩; have hL5 : Below w3.heap.size w3 w5 := Below.thru4 (by repeat (first | (with_reducible exact hL4) | (with_reducible exact Below.refl _ _) | (with_reducible refine Below.drew ?_))) hb5))
  all_goals
    rename_i hheld
    have E3 := Lib.hid (E2.out.below hheld.1)
    clear hheld HS
    go_wp2
    all_goals first
      | (exfalso; omega)
      | (go_ret; exact ⟨rfl, E3.out.bel⟩)
end Go.Proofs.YtmgkkbmcdnhdeabDoor
