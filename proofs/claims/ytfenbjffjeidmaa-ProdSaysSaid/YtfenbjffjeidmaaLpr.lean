/- The law ProdSays, walked. -/
import Derived.Test.YtfenbjffjeidmaaRp
import Derived.Test.YtfenbjffjeidmaaRf
import Derived.Test.YtfenbjffjeidmaaRa
import Derived.Test.YtfenbjffjeidmaaRsame
import Derived.Test.YtfenbjffjeidmaaTimes
import Derived.Test.YtfenbjffjeidmaaDivC
import Derived.Deep.DeepCutAuto
namespace Go.Proofs.Ytfenbjffjeidmaa
open Go.RowKit
set_option linter.unusedSimpArgs false
set_option linter.unusedVariables false

theorem div_all (a b : Nat) (ha : a < 2 ^ 128) (hb : b < 2 ^ 128) : ∃ q r : Nat, ∃ e : Int, (∀ w, Calls Try.prog 5 #[.agg #[.int .u64 (hiN a), .int .u64 (loN a)], .agg #[.int .u64 (hiN b), .int .u64 (loN b)]] w (DivIs q r e w)) ∧
    (b = 0 → q = 0 ∧ r = 0 ∧ e = 6) ∧ (0 < b → q = a / b ∧ r = a % b ∧ e = 0) := by
  rcases Nat.eq_zero_or_pos b with h | h
  · subst h
    exact ⟨0, 0, 6, fun w => div_zero a ha w, fun _ => ⟨rfl, rfl, rfl⟩, fun h => absurd h (by omega)⟩
  · exact ⟨a / b, a % b, 0, fun w => div_any a b ha hb h w, fun h0 => absurd h0 (by omega), fun _ => ⟨rfl, rfl, rfl⟩⟩
theorem Reads.thru {w W : World} {n : Nat} {A : Option Addr} {xs : List Value} (h : Reads w w.heap.size 1 A n xs) (hb : Below w.heap.size w W) : Reads W W.heap.size 1 A n xs := (h.below hb (Nat.le_refl _)).more hb.size

set_option maxHeartbeats 8000000 in
set_option maxRecDepth 100000 in
theorem prodSays_walk (a b : Nat) (w : World) (ha : a < 2 ^ 128) (hb : b < 2 ^ 128) :
    Calls Try.prog 3 #[.agg #[.int .u64 (hiN a), .int .u64 (loN a)], .agg #[.int .u64 (hiN b), .int .u64 (loN b)]] w fun e w' => e = .returned (.bool true) ∧ Below w.heap.size w w' := by
  obtain ⟨q, r, de, hdiv, hz0, hz1⟩ := div_all a b ha hb
  have HT := Lib.hid (fun w => times_any a b ha hb w)
  have HD := Lib.hid hdiv
  have Z0 := Lib.hid hz0
  have Z1 := Lib.hid hz1
  have HA := Lib.hid ha
  have HB := Lib.hid hb
  have HBA := Lib.hid (fun w => bits_any a ha w)
  have HBB := Lib.hid (fun w => bits_any b hb w)
  have HAL := Lib.hid (show ∀ w, Calls Try.prog 6 #[.agg #[.int .u64 0, .int .u64 (loN a)]] w (NewBits (fun l => l = Bt.bits (a % 18446744073709551616)) w) from fun w => by
    have := bits_any (a % 18446744073709551616) (by omega) w
    rw [show hiN (a % 18446744073709551616) = 0 by unfold hiN; omega, show loN (a % 18446744073709551616) = loN a by unfold loN; omega] at this
    exact this)
  have HBH := Lib.hid (show ∀ w, Calls Try.prog 6 #[.agg #[.int .u64 0, .int .u64 (hiN b)]] w (NewBits (fun l => l = Bt.bits (b / 18446744073709551616)) w) from fun w => by
    have := bits_any (b / 18446744073709551616) (by omega) w
    rw [show hiN (b / 18446744073709551616) = 0 by unfold hiN; omega, show loN (b / 18446744073709551616) = hiN b by unfold loN hiN; omega] at this
    exact this)
  have HM := Lib.hid (fun w => mul_w (loN a) (hiN b) (a % 18446744073709551616) (b / 18446744073709551616) (by unfold loN; rfl) (by unfold hiN; rfl) (Nat.mod_lt _ (by decide)) (by omega) w)
  have HM15 := Lib.hid (show ∀ w, Calls Try.prog 9 #[.int .u64 3, .int .u64 5] w fun e w' => e = .returned (.agg #[.int .u64 0, .int .u64 15]) ∧ Below w.heap.size w w' from fun w => mul_w 3 5 3 5 rfl rfl (by omega) (by omega) w)
  have hmb : a % 18446744073709551616 * (b / 18446744073709551616) < 2 ^ 128 := by
    have := Nat.mul_le_mul (show a % 18446744073709551616 ≤ 18446744073709551615 by omega) (show b / 18446744073709551616 ≤ 18446744073709551615 by omega)
    omega
  have HMB := Lib.hid hmb
  have HLA := Lib.hid (show (Bt.bits (a % 18446744073709551616)).length ≤ 128 by rw [Bt.len_bits]; exact Bt.blen_le (by omega))
  have HLB := Lib.hid (show (Bt.bits (b / 18446744073709551616)).length ≤ 128 by rw [Bt.len_bits]; exact Bt.blen_le (by omega))
  clear hdiv hz0 hz1 ha hb hmb
  generalize hpn : fitN (a * b) = pn at *
  generalize hpe : fitE (a * b) = pe at *
  have HPN := Lib.hid hpn
  have HPE := Lib.hid hpe
  clear hpn hpe
  have E := Lib.hid (((Env.start w).lay #[.int .u64 (hiN a), .int .u64 (loN a)] 24).lay #[.int .u64 (hiN b), .int .u64 (loN b)] 24)
  simp only [World.size_alloc] at E
  go_enter Try.func3, Try.ntmps3
  go_wp2_with fail
  refine (HT.out _).mono ?_
  rintro e w1 ⟨rfl, hb1⟩
  have E1 := Lib.hid ((E.out.below hb1).lay #[.int .u64 (hiN pn), .int .u64 (loN pn)] 24)
  have e1 := E.out.below hb1
  have p0 := e1.hd.lt
  have p1 := e1.tl.hd.lt
  have a0 := e1.tl.hd.cell 0
  have a1 := e1.tl.hd.cell 1
  have b0 := e1.hd.cell 0
  have b1 := e1.hd.cell 1
  simp at a0 a1 b0 b1
  clear hb1 e1
  go_wp2_with fail
  refine (HD.out _).mono ?_
  rintro e w2 ⟨rfl, hb2⟩
  have E2 := Lib.hid (E1.out.below hb2)
  clear hb2 p0 p1 a0 a1 b0 b1 E1 E
  have p0 := E2.out.hd.lt
  have a0 := E2.out.tl.tl.hd.cell 0
  have a1 := E2.out.tl.tl.hd.cell 1
  have b0 := E2.out.tl.hd.cell 0
  have b1 := E2.out.tl.hd.cell 1
  have c0 := E2.out.hd.cell 0
  have c1 := E2.out.hd.cell 1
  simp at a0 a1 b0 b1 c0 c1
  go_upto_region 3 with fail
  generalize hW : (World.alloc (World.alloc w2 _) _) = W3 at *
  have e3 := (E2.out.lay #[.int .u64 (hiN q), .int .u64 (loN q)] 24).lay #[.int .u64 (hiN r), .int .u64 (loN r)] 24
  rw [hW] at e3
  simp only [World.size_alloc] at e3
  have E3 := Lib.hid e3
  clear e3 hW E2 p0 a0 a1 b0 b1 c0 c1
  have HS := Lib.hid (show ∀ w', Below W3.heap.size W3 w' → (Below W3.heap.size W3 w' ∧ w'.cell? ⟨w.heap.size, 0, none⟩ = some (.int .u64 (hiN a)) ∧ w'.cell? ⟨w.heap.size, 1, none⟩ = some (.int .u64 (loN a)) ∧ w'.cell? ⟨w.heap.size + 1, 0, none⟩ = some (.int .u64 (hiN b)) ∧ w'.cell? ⟨w.heap.size + 1, 1, none⟩ = some (.int .u64 (loN b)) ∧ w'.cell? ⟨w1.heap.size, 0, none⟩ = some (.int .u64 (hiN pn)) ∧ w'.cell? ⟨w1.heap.size, 1, none⟩ = some (.int .u64 (loN pn))) from fun w' h => ⟨h, (E3.out.below h).tl.tl.tl.tl.hd.cell 0, (E3.out.below h).tl.tl.tl.tl.hd.cell 1, (E3.out.below h).tl.tl.tl.hd.cell 0, (E3.out.below h).tl.tl.tl.hd.cell 1, (E3.out.below h).tl.tl.hd.cell 0, (E3.out.below h).tl.tl.hd.cell 1⟩)
  have tok1 : True := trivial
  go_region_held3 (fun w' => Below W3.heap.size W3 w' ∧ w'.cell? ⟨w.heap.size, 0, none⟩ = some (.int .u64 (hiN a)) ∧ w'.cell? ⟨w.heap.size, 1, none⟩ = some (.int .u64 (loN a)) ∧ w'.cell? ⟨w.heap.size + 1, 0, none⟩ = some (.int .u64 (hiN b)) ∧ w'.cell? ⟨w.heap.size + 1, 1, none⟩ = some (.int .u64 (loN b)) ∧ w'.cell? ⟨w1.heap.size, 0, none⟩ = some (.int .u64 (hiN pn)) ∧ w'.cell? ⟨w1.heap.size, 1, none⟩ = some (.int .u64 (loN pn)))
    ((refine HS.out _ ?_; (repeat (first | (with_reducible exact hL4) | (with_reducible exact hL3) | (with_reducible exact Below.refl _ _) | (with_reducible refine Below.al' ?_) | (with_reducible refine Below.drew ?_)))))
    (first
      | (go_at_call 6; have _t := tok1; (with_reducible refine (HBA.out _).mono ?_); rintro e w3 ⟨A3, c3, l3, rfl, hl3, ho3, hb3⟩; have HL3 := Lib.hid hl3; have hL3 : Below W3.heap.size W3 w3 := Below.thru' (by (repeat (first  | (with_reducible exact Below.refl _ _) | (with_reducible refine Below.al' ?_) | (with_reducible refine Below.drew ?_)))) hb3; clear tok1 _t hl3)
      | (go_at_call 6; (with_reducible refine (HBB.out _).mono ?_); rintro e w4 ⟨A4, c4, l4, rfl, hl4, ho4, hb4⟩; have HL4 := Lib.hid hl4; have hL4 : Below W3.heap.size W3 w4 := Below.thru' (by (repeat (first | (with_reducible exact hL3) | (with_reducible exact Below.refl _ _) | (with_reducible refine Below.al' ?_) | (with_reducible refine Below.drew ?_)))) hb4; clear hl4))
  rename_i hheld
  have E4 := Lib.hid (E3.out.below hheld.1)
  clear hheld HS
  have R3 := Lib.hid ((Reads.of_own ho3).thru (by have := hb4; first | exact hb4 | exact Below.thru' (by repeat (first | (with_reducible exact Below.refl _ _) | (with_reducible refine Below.drew ?_))) hb4))
  have R4 := Lib.hid (Reads.of_own ho4)
  have V3 := Lib.hid (show Bt.val l3 = a by rw [HL3.out, Bt.val_bits])
  have V4 := Lib.hid (show Bt.val l4 = b by rw [HL4.out, Bt.val_bits])
  have n3 : l3.length ≤ 128 := by rw [HL3.out, Bt.len_bits]; exact Bt.blen_le HA.out
  have n4 : l4.length ≤ 128 := by rw [HL4.out, Bt.len_bits]; exact Bt.blen_le HB.out
  have N4 := Lib.hid (show Bt.blen b = l4.length by rw [HL4.out, Bt.len_bits])
  clear HL3 HL4 ho3 ho4 hb3 hb4 E3 hL3 hL4
  go_upto_region 4 with fail
  have HS := Lib.hid (show ∀ w', Below w4.heap.size w4 w' → (Below w4.heap.size w4 w' ∧ w'.cell? ⟨w.heap.size, 0, none⟩ = some (.int .u64 (hiN a)) ∧ w'.cell? ⟨w.heap.size, 1, none⟩ = some (.int .u64 (loN a)) ∧ w'.cell? ⟨w.heap.size + 1, 0, none⟩ = some (.int .u64 (hiN b)) ∧ w'.cell? ⟨w.heap.size + 1, 1, none⟩ = some (.int .u64 (loN b)) ∧ w'.cell? ⟨w1.heap.size, 0, none⟩ = some (.int .u64 (hiN pn)) ∧ w'.cell? ⟨w1.heap.size, 1, none⟩ = some (.int .u64 (loN pn))) from fun w' h => ⟨h, (E4.out.below h).tl.tl.tl.tl.hd.cell 0, (E4.out.below h).tl.tl.tl.tl.hd.cell 1, (E4.out.below h).tl.tl.tl.hd.cell 0, (E4.out.below h).tl.tl.tl.hd.cell 1, (E4.out.below h).tl.tl.hd.cell 0, (E4.out.below h).tl.tl.hd.cell 1⟩)
  have tokP : True := trivial
  have tokS : True := trivial
  have tokB : True := trivial
  have tokM : True := trivial
  go_region_held3 (fun w' => Below w4.heap.size w4 w' ∧ w'.cell? ⟨w.heap.size, 0, none⟩ = some (.int .u64 (hiN a)) ∧ w'.cell? ⟨w.heap.size, 1, none⟩ = some (.int .u64 (loN a)) ∧ w'.cell? ⟨w.heap.size + 1, 0, none⟩ = some (.int .u64 (hiN b)) ∧ w'.cell? ⟨w.heap.size + 1, 1, none⟩ = some (.int .u64 (loN b)) ∧ w'.cell? ⟨w1.heap.size, 0, none⟩ = some (.int .u64 (hiN pn)) ∧ w'.cell? ⟨w1.heap.size, 1, none⟩ = some (.int .u64 (loN pn)))
    ((refine HS.out _ ?_; (repeat (first | (with_reducible exact hL12) | (with_reducible exact hL11) | (with_reducible exact hL10) | (with_reducible exact hL9) | (with_reducible exact hL8) | (with_reducible exact hL7) | (with_reducible exact hL6) | (with_reducible exact hL5) | (with_reducible exact Below.refl _ _) | (with_reducible refine Below.al' ?_) | (with_reducible refine Below.drew ?_)))))
    (first
      | (go_at_call 8; have _t := tokP; (with_reducible refine (prod_any A3 A4 l3 l4 c3 c4 _ (R3.out.thru (by (repeat (first | (with_reducible exact hL12) | (with_reducible exact hL11) | (with_reducible exact hL10) | (with_reducible exact hL9) | (with_reducible exact hL8) | (with_reducible exact hL7) | (with_reducible exact hL6) | (with_reducible exact hL5) | (with_reducible exact Below.refl _ _) | (with_reducible refine Below.al' ?_) | (with_reducible refine Below.drew ?_))))) (R4.out.thru (by (repeat (first | (with_reducible exact hL12) | (with_reducible exact hL11) | (with_reducible exact hL10) | (with_reducible exact hL9) | (with_reducible exact hL8) | (with_reducible exact hL7) | (with_reducible exact hL6) | (with_reducible exact hL5) | (with_reducible exact Below.refl _ _) | (with_reducible refine Below.al' ?_) | (with_reducible refine Below.drew ?_))))) (by omega) (by omega)).mono ?_); rintro e w5 ⟨A5, c5, l5, rfl, hl5, ho5, hb5⟩; have HL5 := Lib.hid hl5; have hL5 : Below w4.heap.size w4 w5 := Below.thru' (by (repeat (first | (with_reducible exact hL12) | (with_reducible exact hL11) | (with_reducible exact hL10) | (with_reducible exact hL9) | (with_reducible exact hL8) | (with_reducible exact hL7) | (with_reducible exact hL6) | (with_reducible exact hL5) | (with_reducible exact Below.refl _ _) | (with_reducible refine Below.al' ?_) | (with_reducible refine Below.drew ?_)))) hb5; clear hl5 tokP _t)
      | (go_at_call 7; have _t := tokS; have hv5 : Bt.val l5 = a * b := (by rw [HL5.out.1, List.take_length, V3.out, V4.out]); (with_reducible refine (same_told A5 l5 c5 (a * b) pn pe hv5 HPN.out HPE.out _ ?_ ?_).mono ?_); (first | exact Reads.of_own ho5 | exact (Reads.of_own ho5).drew); (have := HL5.out.2.1; omega); rintro e w6 ⟨rfl, hb6⟩; have hL6 : Below w4.heap.size w4 w6 := Below.thru' (by (repeat (first | (with_reducible exact hL5) | (with_reducible exact Below.refl _ _) | (with_reducible refine Below.al' ?_) | (with_reducible refine Below.drew ?_)))) hb6; clear tokS _t)
      | (go_at_call 9; have _t := tokM; (with_reducible refine (HM.out _).mono ?_); rintro e w7 ⟨rfl, hb7⟩; have hL7 : Below w4.heap.size w4 w7 := Below.thru' (by (repeat (first | (with_reducible exact hL6) | (with_reducible exact Below.refl _ _) | (with_reducible refine Below.al' ?_) | (with_reducible refine Below.drew ?_)))) hb7; clear tokM _t)
      | (go_at_call 6; have _t := tokB; (with_reducible refine (HAL.out _).mono ?_); rintro e w8 ⟨A8, c8, l8, rfl, hl8, ho8, hb8⟩; have HL8 := Lib.hid hl8; have hL8 : Below w4.heap.size w4 w8 := Below.thru' (by (repeat (first | (with_reducible exact hL7) | (with_reducible exact Below.refl _ _) | (with_reducible refine Below.al' ?_) | (with_reducible refine Below.drew ?_)))) hb8; clear hl8 tokB _t)
      | (go_at_call 6; (with_reducible refine (HBH.out _).mono ?_); rintro e w9 ⟨A9, c9, l9, rfl, hl9, ho9, hb9⟩; have HL9 := Lib.hid hl9; have hL9 : Below w4.heap.size w4 w9 := Below.thru' (by (repeat (first | (with_reducible exact hL8) | (with_reducible exact Below.refl _ _) | (with_reducible refine Below.al' ?_) | (with_reducible refine Below.drew ?_)))) hb9; clear hl9)
      | (go_at_call 8; have hn8 : l8.length ≤ 128 := (by rw [HL8.out]; exact HLA.out); have hn9 : l9.length ≤ 128 := (by rw [HL9.out]; exact HLB.out); (with_reducible refine (prod_any A8 A9 l8 l9 c8 c9 _ ((Reads.of_own ho8).thru (by first | exact hb9 | exact Below.thru' (by (repeat (first  | (with_reducible exact Below.refl _ _) | (with_reducible refine Below.al' ?_) | (with_reducible refine Below.drew ?_)))) hb9)) (Reads.of_own ho9) (by omega) (by omega)).mono ?_); rintro e w10 ⟨A10, c10, l10, rfl, hl10, ho10, hb10⟩; have HL10 := Lib.hid hl10; have hL10 : Below w4.heap.size w4 w10 := Below.thru' (by (repeat (first | (with_reducible exact hL9) | (with_reducible exact Below.refl _ _) | (with_reducible refine Below.al' ?_) | (with_reducible refine Below.drew ?_)))) hb10; clear hl10)
      | (go_at_call 7; have hv10 : Bt.val l10 = a % 18446744073709551616 * (b / 18446744073709551616) := (by rw [HL10.out.1, List.take_length, HL8.out, HL9.out, Bt.val_bits, Bt.val_bits]); have hn10 : l10.length ≤ 1000000 := (by have := HL10.out.2.1; omega); (with_reducible refine (same_is A10 l10 c10 _ hv10 HMB.out _ ?_ hn10).mono ?_); (first | exact Reads.of_own ho10 | exact (Reads.of_own ho10).drew); rintro e w11 ⟨rfl, hb11⟩; have hL11 : Below w4.heap.size w4 w11 := Below.thru' (by (repeat (first | (with_reducible exact hL10) | (with_reducible exact Below.refl _ _) | (with_reducible refine Below.al' ?_) | (with_reducible refine Below.drew ?_)))) hb11)
      | (go_at_call 9; (with_reducible refine (HM15.out _).mono ?_); rintro e w12 ⟨rfl, hb12⟩; have hL12 : Below w4.heap.size w4 w12 := Below.thru' (by (repeat (first | (with_reducible exact hL11) | (with_reducible exact Below.refl _ _) | (with_reducible refine Below.al' ?_) | (with_reducible refine Below.drew ?_)))) hb12))
  rename_i hheld
  have E5 := Lib.hid (E4.out.below hheld.1)
  have R3' := Lib.hid (R3.out.thru hheld.1)
  have R4' := Lib.hid (R4.out.thru hheld.1)
  clear hheld HS hL5 hL6 hL7 hL8 hL9 hL10 hL11 hL12 hb5 hb6 hb7 hb8 hb9 hb10 hb11 hb12 HL5 HL8 HL9 HL10 ho5 ho8 ho9 ho10 R3 R4 E4 hn8 hn9 hn10 hv5 hv10
  have q0 := E5.out.tl.hd.cell 0
  have q1 := E5.out.tl.hd.cell 1
  have r0 := E5.out.hd.cell 0
  have r1 := E5.out.hd.cell 1
  simp at q0 q1 r0 r1
  rcases Nat.eq_zero_or_pos b with hb0 | hb0
  · obtain ⟨rfl, rfl, rfl⟩ := Z0.out hb0
    have hl0 : l4.length = 0 := by rw [← N4.out, hb0, Bt.blen_zero]
    have t0 : hiN 0 = 0 := rfl
    have t1 : loN 0 = 0 := rfl
    rw [t0] at q0 r0
    rw [t1] at q1 r1
    clear hb0
    go_wp2
    go_ret
    exact ⟨rfl, E5.out.bel⟩
  · obtain ⟨h1, h2, rfl⟩ := Z1.out hb0
    have hl0 : 0 < l4.length := by rw [← N4.out, Bt.blen_pos _ hb0]; omega
    have hlb : ((l4.length : Int) == 0) = false := by rw [beq_eq_false_iff_ne]; omega
    have H1 := Lib.hid h1
    have H2 := Lib.hid h2
    clear h1 h2
    have HQ := Lib.hid (fun w h3 h4 => quot_any A3 A4 l3 l4 c3 c4 w h3 h4 (by omega) (by omega) (by rw [V4.out]; exact hb0))
    go_wp2_with fail
    refine (HQ.out _ R3'.out R4'.out).mono ?_
    rintro e w13 ⟨AQ, cO, cL, O, L, rfl, hvO, hvL, hlO, hlL, RO, RL, hb13⟩
    have E6 := Lib.hid (E5.out.below hb13)
    have HVO := Lib.hid (show Bt.val O = q by rw [hvO, V3.out, V4.out, H1.out])
    have HVL := Lib.hid (show Bt.val L = r by rw [hvL, V3.out, V4.out, H2.out])
    have RO' := Lib.hid RO
    have RL' := Lib.hid RL
    have HQB := Lib.hid (show q < 2 ^ 128 by rw [H1.out]; exact Nat.lt_of_le_of_lt (Nat.div_le_self _ _) HA.out)
    have HRB := Lib.hid (show r < 2 ^ 128 by rw [H2.out]; exact Nat.lt_of_le_of_lt (Nat.mod_le _ _) HA.out)
    have hOb : O.length ≤ 1000000 := by omega
    have hLb : L.length ≤ 1000000 := by omega
    clear hvO hvL hlO hlL RO RL hb13 q0 q1 r0 r1 hl0 hlb E5
    have q0 := E6.out.tl.hd.cell 0
    have q1 := E6.out.tl.hd.cell 1
    have r0 := E6.out.hd.cell 0
    have r1 := E6.out.hd.cell 1
    simp at q0 q1 r0 r1
    go_wp2_with fail
    refine (same_is _ O cO q HVO.out HQB.out _ RO'.out hOb).mono ?_
    rintro e w14 ⟨rfl, hb14⟩
    have E7 := Lib.hid (E6.out.below hb14)
    have RL2 := Lib.hid (RL'.out.thru hb14)
    clear hb14 q0 q1 r0 r1 E6
    have r0 := E7.out.hd.cell 0
    have r1 := E7.out.hd.cell 1
    simp at r0 r1
    go_wp2_with fail
    refine (same_is _ L cL r HVL.out HRB.out _ RL2.out hLb).mono ?_
    rintro e w15 ⟨rfl, hb15⟩
    go_wp2
    go_ret
    exact ⟨rfl, (E7.out.below hb15).bel⟩
end Go.Proofs.Ytfenbjffjeidmaa
