/- The law WideAdds, walked. -/
import Derived.Test.YtljnmginngodkajRa
import Derived.Test.YtljnmginngodkajRb
import Derived.Test.YtljnmginngodkajRd2
import Derived.Test.YtljnmginngodkajRe
import Derived.Test.YtljnmginngodkajRsame
import Derived.Test.YtljnmginngodkajWAdd
import Derived.Test.YtljnmginngodkajWSub
import Derived.Test.YtljnmginngodkajWLen
import Derived.Test.YtljnmginngodkajWCmp
namespace Go.Proofs.Ytljnmginngodkaj
open Go.RowKit
set_option linter.unusedSimpArgs false
set_option linter.unusedVariables false

set_option maxHeartbeats 400000 in
set_option maxRecDepth 100000 in
theorem wideAdds_walk (a b : Nat) (ha : a < 2 ^ 128) (hb : b < 2 ^ 128) (w : World) :
    Calls Try.prog 3 #[.agg #[.int .u64 (hiN a), .int .u64 (loN a)], .agg #[.int .u64 (hiN b), .int .u64 (loN b)]] w fun e w' => e = .returned (.bool true) ∧ Below w.heap.size w w' := by
  have HA := Lib.hid (WN.mk' a ha)
  have HB := Lib.hid (WN.mk' b hb)
  clear ha hb
  have E := Lib.hid (((Env.start w).lay #[.int .u64 (hiN a), .int .u64 (loN a)] 24).lay #[.int .u64 (hiN b), .int .u64 (loN b)] 24)
  simp only [World.size_alloc] at E
  go_enter Try.func3, Try.ntmps3
  go_wp2_with fail
  refine (wide_add_any _ _ _ _ a b HA.out HB.out _).mono ?_
  rintro e w1 ⟨rfl, hb1⟩
  have E1 := Lib.hid (E.out.below hb1)
  clear hb1 E
  have p0 := E1.out.hd.lt
  have p1 := E1.out.tl.hd.lt
  have a0 := E1.out.tl.hd.cell 0
  have a1 := E1.out.tl.hd.cell 1
  have b0 := E1.out.hd.cell 0
  have b1 := E1.out.hd.cell 1
  simp at a0 a1 b0 b1
  go_wp2_with fail
  refine (wide_sub_any _ _ _ _ a b HA.out HB.out _).mono ?_
  rintro e w2 ⟨rfl, hb2⟩
  have E2 := Lib.hid ((E1.out.lay _ _).below hb2)
  clear hb2 p0 p1 a0 a1 b0 b1 E1
  go_wp2_with fail
  generalize hW : (w2.alloc (.cells #[.int .u64 (hiN (a - b)), .int .u64 (loN (a - b))] 24)) = W2
  have e3 := E2.out.lay #[.int .u64 (hiN (a - b)), .int .u64 (loN (a - b))] 24
  rw [hW] at e3
  have E3 := Lib.hid e3
  clear e3 hW E2
  have HS := Lib.hid (show ∀ w', Below W2.heap.size W2 w' → (Below W2.heap.size W2 w' ∧ w'.cell? ⟨w.heap.size, 0, none⟩ = some (.int .u64 (hiN a)) ∧ w'.cell? ⟨w.heap.size, 1, none⟩ = some (.int .u64 (loN a)) ∧ w'.cell? ⟨w.heap.size + 1, 0, none⟩ = some (.int .u64 (hiN b)) ∧ w'.cell? ⟨w.heap.size + 1, 1, none⟩ = some (.int .u64 (loN b)))
    from fun w' e8 => ⟨e8, (E3.out.below e8).tl.tl.tl.hd.cell 0, (E3.out.below e8).tl.tl.tl.hd.cell 1, (E3.out.below e8).tl.tl.hd.cell 0, (E3.out.below e8).tl.tl.hd.cell 1⟩)
  have tok1 : True := trivial
  go_region_held3 (fun w' => Below W2.heap.size W2 w' ∧ w'.cell? ⟨w.heap.size, 0, none⟩ = some (.int .u64 (hiN a)) ∧ w'.cell? ⟨w.heap.size, 1, none⟩ = some (.int .u64 (loN a)) ∧ w'.cell? ⟨w.heap.size + 1, 0, none⟩ = some (.int .u64 (hiN b)) ∧ w'.cell? ⟨w.heap.size + 1, 1, none⟩ = some (.int .u64 (loN b)))
    ((refine HS.out _ ?_; first | exact (Below.refl _ _).drew | exact Below.trans (And.left (by assumption)) (Below.mono hb4 (Below.size (And.left (by assumption)))) | exact Below.trans (And.left (by assumption)) (Below.mono hb3 (Below.size (And.left (by assumption))))))
    (first
      | (go_at_call 6; have _t := tok1; refine (bits_any a HA.out.2.2 _).mono ?_; rintro e w3 ⟨A3, c3, l3, rfl, hl3, ho3, hb3⟩; have HL3 := Lib.hid hl3; clear tok1 _t hl3)
      | (go_at_call 6; refine (bits_any b HB.out.2.2 _).mono ?_; rintro e w4 ⟨A4, c4, l4, rfl, hl4, ho4, hb4⟩; have HL4 := Lib.hid hl4; clear hl4))
  rename_i hheld
  have e4 : Below W2.heap.size W2 w4 := hheld.1
  clear hheld
  have R4 := Lib.hid (Reads.of_own ho4)
  have R3 := Lib.hid (((Reads.of_own ho3).below hb4 (Nat.le_refl _)).more hb4.size)
  have E4 := Lib.hid (E3.out.below e4)
  have V3 := Lib.hid (show Bt.val l3 = a by rw [HL3.out, Bt.val_bits])
  have V4 := Lib.hid (show Bt.val l4 = b by rw [HL4.out, Bt.val_bits])
  have n3 : l3.length ≤ 128 := by rw [HL3.out, Bt.len_bits]; exact Bt.blen_le HA.out.2.2
  have n4 : l4.length ≤ 128 := by rw [HL4.out, Bt.len_bits]; exact Bt.blen_le HB.out.2.2
  have N3 := Lib.hid (show Bt.blen a = l3.length by rw [HL3.out, Bt.len_bits])
  clear HL3 HL4 ho3 ho4 hb3 hb4 e4 HS E3
  go_wp2_with fail
  refine (order_is A3 A4 l3 l4 c3 c4 w4.heap.size a b w4 R3.out R4.out (by omega) (by omega) V3.out V4.out).mono ?_
  rintro e w' ⟨rfl, rfl⟩
  go_wp2_with fail
  have HS := Lib.hid (show ∀ w', Below w4.heap.size w4 w' → (Below w4.heap.size w4 w' ∧ w'.cell? ⟨w.heap.size, 0, none⟩ = some (.int .u64 (hiN a)) ∧ w'.cell? ⟨w.heap.size, 1, none⟩ = some (.int .u64 (loN a)) ∧ w'.cell? ⟨w.heap.size + 1, 0, none⟩ = some (.int .u64 (hiN b)) ∧ w'.cell? ⟨w.heap.size + 1, 1, none⟩ = some (.int .u64 (loN b)) ∧
      w'.cell? ⟨w1.heap.size, 0, none⟩ = some (.int .u64 (hiN (fitN (a + b)))) ∧ w'.cell? ⟨w1.heap.size, 1, none⟩ = some (.int .u64 (loN (fitN (a + b)))))
    from fun w' e8 => ⟨e8, (E4.out.below e8).tl.tl.tl.hd.cell 0, (E4.out.below e8).tl.tl.tl.hd.cell 1, (E4.out.below e8).tl.tl.hd.cell 0, (E4.out.below e8).tl.tl.hd.cell 1, (E4.out.below e8).tl.hd.cell 0, (E4.out.below e8).tl.hd.cell 1⟩)
  have tok1 : True := trivial
  go_region_held3 (fun w' => Below w4.heap.size w4 w' ∧ w'.cell? ⟨w.heap.size, 0, none⟩ = some (.int .u64 (hiN a)) ∧ w'.cell? ⟨w.heap.size, 1, none⟩ = some (.int .u64 (loN a)) ∧ w'.cell? ⟨w.heap.size + 1, 0, none⟩ = some (.int .u64 (hiN b)) ∧ w'.cell? ⟨w.heap.size + 1, 1, none⟩ = some (.int .u64 (loN b)) ∧
      w'.cell? ⟨w1.heap.size, 0, none⟩ = some (.int .u64 (hiN (fitN (a + b)))) ∧ w'.cell? ⟨w1.heap.size, 1, none⟩ = some (.int .u64 (loN (fitN (a + b)))))
    ((refine HS.out _ ?_; first | exact (Below.refl _ _).drew | exact Below.trans (And.left (by assumption)) (Below.mono hb9 (Below.size (And.left (by assumption)))) | exact Below.trans (And.left (by assumption)) (Below.mono hb8 (Below.size (And.left (by assumption)))) | exact Below.trans (And.left (by assumption)) (Below.mono hb7 (Below.size (And.left (by assumption)))) | exact Below.trans (And.left (by assumption)) (Below.mono hb6 (Below.size (And.left (by assumption)))) | exact Below.trans (And.left (by assumption)) (Below.mono hb5 (Below.size (And.left (by assumption))))))
    (first
      | (go_at_call 9; refine (plus_any A3 A4 l3 l4 c3 c4 _ ((R3.out.below (And.left (by assumption)) (Nat.le_refl _)).more (Below.size (And.left (by assumption)))) ((R4.out.below (And.left (by assumption)) (Nat.le_refl _)).more (Below.size (And.left (by assumption)))) (by omega) (by omega)).mono ?_; rintro e w5 ⟨A5, c5, l5, rfl, hl5, ho5, hb5⟩; have HL5 := Lib.hid hl5; clear hl5)
      | (go_at_call 8; refine (same_fit A5 l5 c5 (a + b) (by rw [HL5.out.1, V3.out, V4.out]) _ (Reads.of_own ho5) (by have := HL5.out.2.2.1; omega)).mono ?_; rintro e w6 ⟨rfl, hb6⟩)
      | (go_at_call 10; have _t := tok1; refine (wide_len_is _ _ a l3.length HA.out N3.out _).mono ?_; rintro e w7 ⟨rfl, hb7⟩; clear tok1 _t)
      | (go_at_call 11; refine (wide_cmp _ _ _ _ a b HA.out HB.out _).mono ?_; rintro e w8 ⟨rfl, hb8⟩)
      | (go_at_call 10; refine (wide_len_is _ _ _ 65 WN.one blen_one _).mono ?_; rintro e w9 ⟨rfl, hb9⟩))
  rename_i hheld
  have e9 : Below w4.heap.size w4 w9 := hheld.1
  clear hheld HL5 ho5 hb5 hb6 hb7 hb8 hb9 HS
  have E9 := Lib.hid (E4.out.below e9)
  have S3 := Lib.hid ((R3.out.below e9 (Nat.le_refl _)).more e9.size)
  have S4 := Lib.hid ((R4.out.below e9 (Nat.le_refl _)).more e9.size)
  have d0 := E9.out.hd.cell 0
  have d1 := E9.out.hd.cell 1
  simp at d0 d1
  clear e9 R3 R4 E4
  by_cases hab : b ≤ a
  · have hc := cmpN_nonneg hab
    have HAB := Lib.hid hab
    clear hab
    go_wp2_with fail
    simp only [show subE a b = 0 from if_pos HAB.out]
    have HS := Lib.hid (show ∀ w', Below w9.heap.size w9 w' → (Below w9.heap.size w9 w' ∧ w'.cell? ⟨w2.heap.size, 0, none⟩ = some (.int .u64 (hiN (a - b))) ∧ w'.cell? ⟨w2.heap.size, 1, none⟩ = some (.int .u64 (loN (a - b))))
      from fun w' e8 => ⟨e8, (E9.out.below e8).hd.cell 0, (E9.out.below e8).hd.cell 1⟩)
    go_region_held3 (fun w' => Below w9.heap.size w9 w' ∧ w'.cell? ⟨w2.heap.size, 0, none⟩ = some (.int .u64 (hiN (a - b))) ∧ w'.cell? ⟨w2.heap.size, 1, none⟩ = some (.int .u64 (loN (a - b))))
      ((refine HS.out _ ?_; first | exact (Below.refl _ _).drew | exact Below.trans (And.left (by assumption)) (Below.mono hb6 (Below.size (And.left (by assumption)))) | exact Below.trans (And.left (by assumption)) (Below.mono hb5 (Below.size (And.left (by assumption))))))
      (first
        | (go_at_call 12; refine (minus_any A3 A4 l3 l4 c3 c4 _ ((S3.out.below (And.left (by assumption)) (Nat.le_refl _)).more (Below.size (And.left (by assumption)))) ((S4.out.below (And.left (by assumption)) (Nat.le_refl _)).more (Below.size (And.left (by assumption)))) (by omega) (by omega) (by rw [V3.out, V4.out]; exact HAB.out)).mono ?_; rintro e w5 ⟨A5, c5, l5, rfl, hl5, ho5, hb5⟩; have HL5 := Lib.hid hl5; clear hl5)
        | (go_at_call 8; refine (same_is A5 l5 c5 (a - b) (by rw [HL5.out.2, V3.out, V4.out]) (by have := HA.out.2.2; omega) _ (Reads.of_own ho5) (by have := HL5.out.1; omega)).mono ?_; rintro e w6 ⟨rfl, hb6⟩))
    rename_i hheld
    go_wp2
    go_ret
    exact ⟨rfl, E9.out.bel.trans (Below.mono hheld.1 E9.out.bel.size)⟩
  · have hc := cmpN_neg (show a < b by omega)
    have h0 : a - b = 0 := by omega
    have t0 : hiN (a - b) = 0 := by rw [h0]; rfl
    have t1 : loN (a - b) = 0 := by rw [h0]; rfl
    have t2 : (subE a b == 7) = true := by unfold subE; rw [if_neg hab]; rfl
    rw [t0] at d0
    rw [t1] at d1
    clear h0 hab t0 t1
    go_wp2
    go_ret
    exact ⟨rfl, E9.out.bel⟩
end Go.Proofs.Ytljnmginngodkaj
