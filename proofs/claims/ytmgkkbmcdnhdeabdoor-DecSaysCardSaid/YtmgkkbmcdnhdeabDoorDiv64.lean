/- math/bits.Div64, walked. -/
import Derived.Test.YtmgkkbmcdnhdeabDoorDivP
import Derived.Test.YtmgkkbmcdnhdeabDoorWLen
import Derived.Test.YtmgkkbmcdnhdeabDoorWUp
import Derived.Deep.DeepCutAuto
import Derived.Deep.CutBlock
namespace Go.Proofs.YtmgkkbmcdnhdeabDoor
open Go.RowKit
set_option linter.unusedSimpArgs false
set_option linter.unusedVariables false

theorem lz_is (y s : Nat) (hy : y < 18446744073709551616) (hs : s + Bt.blen y = 64) (w : World) :
    Calls Tryd.prog 39 #[.int .u64 y] w fun e w' => e = .returned (.int .i64 s) ∧ w = w' := by
  have hb : Lib.bitLen y = Bt.blen y := bitLen_blen y (by omega)
  have HB := Lib.hid hb
  have hb2 : Lib.bitLen y ≤ 64 := by omega
  have HS := Lib.hid (show (64 : Int) - (Lib.bitLen y : Int) = (s : Int) by omega)
  clear hb hs
  go_enter Tryd.func39, Tryd.ntmps39
  go_wp2_with (go_at_call 40; refine (Tryd.bits_Len64 _ _ (by omega) (by omega)).mono ?_; rintro e w' ⟨rfl, rfl⟩)
  go_ret
  exact ⟨ret_int (by simpa using HS.out), rfl⟩

set_option maxHeartbeats 1000000 in
theorem div64_small (l y : Nat) (hl : l < 18446744073709551616) (hy : y < 18446744073709551616) (h0 : 0 < y) (w : World) :
    Calls Tryd.prog 30 #[.int .u64 0, .int .u64 l, .int .u64 y] w fun e w' => e = .returned (.tuple #[.int .u64 (l / y : Nat), .int .u64 (l % y : Nat)]) ∧ Below w.heap.size w w' := by
  have hyz : ((y : Int) == 0) = false := by simp; omega
  have hy0 : (0 : Int) < (y : Int) := by omega
  go_enter Tryd.func30, Tryd.ntmps30
  go_wp2
  go_quiet (fail)
  go_wp2
  have e1 : IntKind.u64.wrap ((l : Int) / (y : Int)) = ((l / y : Nat) : Int) := by
    have h1 : l / y ≤ l := Nat.div_le_self l y
    rw [show (l : Int) / (y : Int) = ((l / y : Nat) : Int) by simp, IntKind.wrap_u64]
    generalize l / y = q at *
    omega
  have e2 : (l : Int) % (y : Int) = ((l % y : Nat) : Int) := by simp
  rw [e1, e2]
  refine bodyPost_ret (v := .tuple #[.int .u64 (l / y : Nat), .int .u64 (l % y : Nat)]) (by simp [results, Tryd.results30, go_sem]) rfl ⟨rfl, below_drewN (Below.refl _ _) _⟩

theorem digit_start (u y1 : Nat) (hy : 0 < y1) (hu : u < 18446744073709551616) :
    ∃ q r : Nat, q = u / y1 ∧ r = u % y1 ∧ IntKind.u64.wrap ((u : Int) / (y1 : Int)) = (q : Int) ∧ IntKind.u64.wrap ((u : Int) - IntKind.u64.wrap ((q : Int) * (y1 : Int))) = (r : Int) := by
  have h1 : u / y1 ≤ u := Nat.div_le_self u y1
  have h2 := Nat.div_add_mod u y1
  have h3 := Nat.mod_lt u hy
  refine ⟨u / y1, u % y1, rfl, rfl, ?_, ?_⟩
  · rw [show (u : Int) / (y1 : Int) = ((u / y1 : Nat) : Int) by simp, IntKind.wrap_u64]
    generalize u / y1 = q at *
    omega
  · rw [show ((u / y1 : Nat) : Int) * (y1 : Int) = ((y1 * (u / y1) : Nat) : Int) by rw [Nat.mul_comm, Int.natCast_mul], IntKind.wrap_u64, IntKind.wrap_u64]
    generalize y1 * (u / y1) = p at *
    omega
/-- a digit is found -/
def Dig (u Y d : Nat) (q : Nat) : Prop := q < 4294967296 ∧ q * Y ≤ u * 4294967296 + d ∧ u * 4294967296 + d - q * Y < Y

def bigM : Nat := 4294967296
theorem bigM_lt {r y : Nat} (h : r < 4294967296) (hy : 2147483648 ≤ y) : bigM - (r + y) < bigM - r := by unfold bigM; omega
theorem dig_mk {u Y d q : Nat} (h : q < 4294967296 ∧ q * Y ≤ u * 4294967296 + d ∧ u * 4294967296 + d - q * Y < Y) : Dig u Y d q := h

/-- the words that the division is made of -/
theorem div_words (h l y s : Nat) (hh : 0 < h) (hhy : h < y) (hl : l < 18446744073709551616) (hy : y < 18446744073709551616) (hs : s + Bt.blen y = 64) (hs64 : s < 64) :
    ∃ Y y1 y0 u v d1 d0 : Nat, y * 2 ^ s = Y ∧ Y = y1 * 4294967296 + y0 ∧ (h * 18446744073709551616 + l) * 2 ^ s = (u * 4294967296 + d1) * 4294967296 + d0 ∧ Kn.Ok u y1 y0 d1 ∧ d0 < 4294967296 ∧ Y < 18446744073709551616 ∧ 9223372036854775808 ≤ Y ∧
      IntKind.u64.wrap ((y : Int) * 2 ^ s) = (Y : Int) ∧ (Y : Int) / 4294967296 = (y1 : Int) ∧ bits BinOp.and IntKind.u64 (Y : Int) 4294967295 = (y0 : Int) ∧
      bits BinOp.or IntKind.u64 (IntKind.u64.wrap ((h : Int) * 2 ^ s)) ((l : Int) / 2 ^ (64 - s)) = (u : Int) ∧ IntKind.u64.wrap ((l : Int) * 2 ^ s) = (v : Int) ∧ (v : Int) / 4294967296 = (d1 : Int) ∧ bits BinOp.and IntKind.u64 (v : Int) 4294967295 = (d0 : Int) := by
  have hp : 0 < 2 ^ s := Nat.two_pow_pos s
  obtain ⟨b1, b2⟩ := Bt.blen_spec y (by omega)
  have e64 : 2 ^ s * 2 ^ Bt.blen y = 18446744073709551616 := by rw [← Nat.pow_add, hs]
  have e63 : 2 ^ s * 2 ^ (Bt.blen y - 1) = 9223372036854775808 := by
    have : s + (Bt.blen y - 1) = 63 := by omega
    rw [← Nat.pow_add, this]
  have hY1 : y * 2 ^ s < 18446744073709551616 := by
    rw [← e64, Nat.mul_comm]; exact Nat.mul_lt_mul_of_pos_left b2 hp
  have hY0 : 9223372036854775808 ≤ y * 2 ^ s := by
    rw [← e63, Nat.mul_comm y]; exact Nat.mul_le_mul_left _ b1
  have hH : h * 2 ^ s + 2 ^ s ≤ y * 2 ^ s := by
    have := Nat.mul_le_mul_right (2 ^ s) (show h + 1 ≤ y by omega)
    rw [Nat.succ_mul] at this
    exact this
  obtain ⟨p1, p2⟩ := shl_parts l s (by omega)
  have eq64 := pq s (by omega)
  have hlo : l / 2 ^ (64 - s) < 2 ^ s := by
    rw [Nat.div_lt_iff_lt_mul (Nat.two_pow_pos _), eq64]; exact hl
  have hmod : h * 2 ^ s % 2 ^ s = 0 := Nat.mul_mod_left _ _
  have hw : ∀ x : Nat, IntKind.u64.wrap ((x : Int) * 2 ^ s) = ((x * 2 ^ s % 18446744073709551616 : Nat) : Int) := fun x => by
    rw [show (x : Int) * 2 ^ s = ((x * 2 ^ s : Nat) : Int) by simp, wrap_nat]
  have hmask : ∀ x : Nat, x < 18446744073709551616 → bits BinOp.and IntKind.u64 (x : Int) 4294967295 = ((x % 4294967296 : Nat) : Int) := fun x hx => by
    have := u64_and_nat x 4294967295 hx (by omega)
    rw [show x &&& 4294967295 = x % 4294967296 from Nat.and_two_pow_sub_one_eq_mod x 32] at this
    simpa using this
  have hor : bits BinOp.or IntKind.u64 (IntKind.u64.wrap ((h : Int) * 2 ^ s)) ((l : Int) / 2 ^ (64 - s)) = ((h * 2 ^ s + l / 2 ^ (64 - s) : Nat) : Int) := by
    rw [hw, show (l : Int) / 2 ^ (64 - s) = ((l / 2 ^ (64 - s) : Nat) : Int) by simp, Nat.mod_eq_of_lt (by omega), u64_or_nat _ _ (by omega) (by omega), nat_join s _ _ hmod hlo]
  have hdm := Nat.div_add_mod (l * 2 ^ s) 18446744073709551616
  refine ⟨y * 2 ^ s, y * 2 ^ s / 4294967296, y * 2 ^ s % 4294967296, h * 2 ^ s + l / 2 ^ (64 - s), l * 2 ^ s % 18446744073709551616, l * 2 ^ s % 18446744073709551616 / 4294967296, l * 2 ^ s % 18446744073709551616 % 4294967296, rfl, by omega, ?_, ⟨by omega, by omega, by omega, by omega, by omega⟩, by omega, hY1, hY0, ?_, by omega, hmask _ hY1, hor, hw l, by omega, hmask _ (by omega)⟩
  · rw [Nat.add_mul, Nat.mul_right_comm, ← p1]
    omega
  · rw [hw y, Nat.mod_eq_of_lt hY1]

set_option maxHeartbeats 2000000 in
set_option maxRecDepth 100000 in
theorem div64_big (h l y s : Nat) (hh : 0 < h) (hhy : h < y) (hl : l < 18446744073709551616) (hy : y < 18446744073709551616) (hs : s + Bt.blen y = 64) (w : World) :
    Calls Tryd.prog 30 #[.int .u64 h, .int .u64 l, .int .u64 y] w fun e w' => e = .returned (.tuple #[.int .u64 ((h * 18446744073709551616 + l) / y : Nat), .int .u64 ((h * 18446744073709551616 + l) % y : Nat)]) ∧ Below w.heap.size w w' := by
  have hyz : ((y : Int) == 0) = false := by simp; omega
  have hhz : ((h : Int) == 0) = false := by simp; omega
  have HS := Lib.hid hs
  have hs64 : s < 64 := by
    have := Bt.le_blen (n := y) (k := 0) (by simp; omega)
    omega
  obtain ⟨Y, y1, y0, u, v, d1, d0, w1, w2, w3, hok, hd0, hY1, hY0, e1, e2, e3, e4, e5, e6, e7⟩ := div_words h l y s hh hhy hl hy hs hs64
  have W1 := Lib.hid w1
  have W2 := Lib.hid w2
  have W3 := Lib.hid w3
  have HOK := Lib.hid hok
  obtain ⟨k0, k1, k2, k3, k4⟩ := hok
  have hu : u < 18446744073709551616 := by omega
  have hy1z : ((y1 : Int) == 0) = false := by simp; omega
  have hy1p : (0 : Int) < (y1 : Int) := by omega
  clear hs w1 w2 w3 k4
  obtain ⟨qs, rs, hqs, hrs, e8, e9⟩ := digit_start u y1 (by omega) hu
  have HI1 := Lib.hid (show Kn.Inv u y1 y0 d1 qs rs by rw [hqs, hrs]; exact Kn.start HOK.out)
  have HOK1 := HOK
  have hu1 := hu
  have hr1 : rs < 4294967296 := by rw [hrs]; have := Nat.mod_lt u (show 0 < y1 by omega); omega
  clear hqs hrs
  go_enter Tryd.func30, Tryd.ntmps30
  go_upto_block 0 with (go_at_call 39; refine (lz_is _ s (by omega) HS.out _).mono ?_; rintro e w' ⟨rfl, rfl⟩)
  go_cut [15, 16] (fun a _ wx => wx = w ∧ ∃ q : Nat, a = .int .u64 q ∧ Dig u (y1 * 4294967296 + y0) d1 q)
  case first =>
    have HY1 := Lib.hid k0
    have HOKI := Lib.hid (show 2147483648 ≤ (y1 : Int) ∧ (y1 : Int) < 4294967296 ∧ (y0 : Int) < 4294967296 ∧ (d1 : Int) < 4294967296 by omega)
    have HHR := Lib.hid hr1
    have HHU := Lib.hid hu1
    have HKK := Lib.hid (show y0 < 4294967296 ∧ d1 < 4294967296 from ⟨HOK1.out.2.2.1, HOK1.out.2.2.2.1⟩)
    clear k0 k1 k2 k3 hu hu1 hr1 hd0 hY1 hY0 hl hy
    go_wp2_with fail
    go_loop [15, 16] (fun a b => ∃ q r : Nat, a = .int .u64 q ∧ b = .int .u64 r ∧ Kn.Inv u y1 y0 d1 q r ∧ r < 4294967296) (fun _ b => bigM - (intOf b).toNat)
    case atStart => exact ⟨_, _, rfl, rfl, HI1.out, HHR.out⟩
    case round =>
      obtain ⟨q, r, rfl, rfl, hinv, hr⟩ := hrel
      have HIN := Lib.hid hinv
      have HT := Lib.hid (Kn.test HOK1.out hinv)
      obtain ⟨bq, br⟩ := Kn.bds HOK1.out hinv HHU.out
      obtain ⟨g0, g1, g2, g3⟩ := HOKI.out
      obtain ⟨n0, n1⟩ := HKK.out
      have bqi : (q : Int) ≤ 8589934591 := by omega
      have bri : (r : Int) < 4294967296 := by omega
      have HRL := Lib.hid hr
      clear hinv
      by_cases hA : u * 4294967296 + d1 < q * (y1 * 4294967296 + y0)
      · have hq0 := Kn.pos hA
        have HN := Lib.hid (Kn.next HIN.out hA)
        have HD := Lib.hid (fun hs => Kn.done HOK1.out HN.out (Kn.stop HOK1.out HN.out hs))
        have hor := HT.out.2 hA
        have hq1 : (1 : Int) ≤ (q : Int) := by omega
        clear hA
        have HQC := Lib.hid (show ((q - 1 : Nat) : Int) = (q : Int) - 1 by omega)
        by_cases hbig : 4294967296 ≤ q
        · have hbi : (4294967296 : Int) ≤ (q : Int) := by omega
          clear hor
          by_cases hr2 : 4294967296 ≤ r + y1
          · have HDD := Lib.hid (dig_mk (HD.out hr2).2)
            have hr3 : (4294967296 : Int) ≤ (r : Int) + (y1 : Int) := by omega
            clear hr2 hbig hr bq br n0 n1 hq0
            go_wp2_with fail
            go_meet
            exact ⟨rfl, q - 1, by rw [HQC.out], HDD.out⟩
          · have hr3 : decide ((4294967296 : Int) ≤ (r : Int) + (y1 : Int)) = false := decide_eq_false (by omega)
            have HR2 := Lib.hid (show r + y1 < 4294967296 by omega)
            clear hr2 hbig hr bq br n0 n1 hq0
            go_wp2
            go_round
            case rel => exact ⟨q - 1, r + y1, by rw [HQC.out], by simp, HN.out, HR2.out⟩
            case measure => exact bigM_lt HRL.out HY1.out
        · have hlt : 4294967296 * r + d1 < q * y0 := by omega
          have hqs : q < 4294967296 := by omega
          have hpb : q * y0 ≤ 4294967295 * 4294967295 := Nat.mul_le_mul (by omega) (by omega)
          have hpc : (q : Int) * (y0 : Int) = ((q * y0 : Nat) : Int) := (Int.natCast_mul q y0).symm
          clear hor hbig
          generalize q * y0 = P at *
          have hbi : decide ((4294967296 : Int) ≤ (q : Int)) = false := decide_eq_false (by omega)
          have hlti : decide (4294967296 * (r : Int) + (d1 : Int) < (P : Int)) = true := decide_eq_true (by omega)
          have hpbi : (P : Int) ≤ 18446744065119617025 := by omega
          by_cases hr2 : 4294967296 ≤ r + y1
          · have HDD := Lib.hid (dig_mk (HD.out hr2).2)
            have hr3 : (4294967296 : Int) ≤ (r : Int) + (y1 : Int) := by omega
            clear hr2 hlt hqs hpb hr bq br n0 n1 hq0
            go_wp2_with fail
            go_meet
            exact ⟨rfl, q - 1, by rw [HQC.out], HDD.out⟩
          · have hr3 : decide ((4294967296 : Int) ≤ (r : Int) + (y1 : Int)) = false := decide_eq_false (by omega)
            have HR2 := Lib.hid (show r + y1 < 4294967296 by omega)
            clear hr2 hlt hqs hpb hr bq br n0 n1 hq0
            go_wp2
            go_round
            case rel => exact ⟨q - 1, r + y1, by rw [HQC.out], by simp, HN.out, HR2.out⟩
            case measure => exact bigM_lt HRL.out HY1.out
      · have HDD := Lib.hid (dig_mk (Kn.done HOK1.out HIN.out hA).2)
        have hno : ¬ (4294967296 ≤ q ∨ 4294967296 * r + d1 < q * y0) := fun h => hA (HT.out.1 h)
        have hqs : q < 4294967296 := by omega
        have hlt : q * y0 ≤ 4294967296 * r + d1 := by omega
        have hpc : (q : Int) * (y0 : Int) = ((q * y0 : Nat) : Int) := (Int.natCast_mul q y0).symm
        clear hno hA
        generalize q * y0 = P at *
        have hpbi : (P : Int) ≤ 18446744073709551615 := by omega
        have hbi : decide ((4294967296 : Int) ≤ (q : Int)) = false := decide_eq_false (by omega)
        have hlti : decide (4294967296 * (r : Int) + (d1 : Int) < (P : Int)) = false := decide_eq_false (by omega)
        clear hqs hlt hr bq br n0 n1
        go_wp2_with fail
        go_meet
        exact ⟨rfl, q, rfl, HDD.out⟩
  case rest =>
    obtain ⟨rfl, q1, rfl, hdig⟩ := hcut
    obtain ⟨j1, j2, j3⟩ := hdig
    have hYe := W2.out
    obtain ⟨R, hR⟩ : ∃ R, R = u * 4294967296 + d1 - q1 * (y1 * 4294967296 + y0) := ⟨_, rfl⟩
    have hR2 : q1 * Y + R = u * 4294967296 + d1 := by rw [hYe]; omega
    have HR2 := Lib.hid hR2
    have hRY : R < y1 * 4294967296 + y0 := by omega
    have hR64 : R < 18446744073709551616 := by omega
    have e10 : IntKind.u64.wrap (IntKind.u64.wrap (IntKind.u64.wrap ((u : Int) * 4294967296) + (d1 : Int)) - IntKind.u64.wrap ((q1 : Int) * (Y : Int))) = (R : Int) := by
      rw [show (q1 : Int) * (Y : Int) = ((q1 * Y : Nat) : Int) from (Int.natCast_mul q1 Y).symm]
      simp only [IntKind.wrap_u64]
      clear HI1 e8 e9 e1 e2 e3 e4 e5 e6 e7
      generalize q1 * Y = P at *
      omega
    obtain ⟨qs2, rs2, hqs2, hrs2, e11, e12⟩ := digit_start R y1 (by omega) hR64
    have HI2 := Lib.hid (show Kn.Inv R y1 y0 d0 qs2 rs2 by rw [hqs2, hrs2]; exact Kn.start ⟨k0, k1, k2, hd0, hRY⟩)
    have HOK2 := Lib.hid (show Kn.Ok R y1 y0 d0 from ⟨k0, k1, k2, hd0, hRY⟩)
    have hr2s : rs2 < 4294967296 := by rw [hrs2]; have := Nat.mod_lt R (show 0 < y1 by omega); omega
    have HJ := Lib.hid j1
    have HRR := Lib.hid hRY
    clear hqs2 hrs2 j1 j2 j3 hYe hR hR2 hRY
    go_upto_block 2 with fail
    go_cut [18, 16] (fun a _ wx => wx = wc ∧ ∃ q : Nat, a = .int .u64 q ∧ Dig R (y1 * 4294967296 + y0) d0 q)
    case first =>
      have HY1 := Lib.hid k0
      have HOKI := Lib.hid (show 2147483648 ≤ (y1 : Int) ∧ (y1 : Int) < 4294967296 ∧ (y0 : Int) < 4294967296 ∧ (d0 : Int) < 4294967296 by omega)
      have HHR := Lib.hid hr2s
      have HHU := Lib.hid hR64
      have HKK := Lib.hid (show y0 < 4294967296 ∧ d0 < 4294967296 from ⟨HOK2.out.2.2.1, HOK2.out.2.2.2.1⟩)
      clear k0 k1 k2 k3 hu hu1 hr1 hd0 hY1 hY0 hl hy hR64 hr2s
      go_wp2_with fail
      go_loop [18, 16] (fun a b => ∃ q r : Nat, a = .int .u64 q ∧ b = .int .u64 r ∧ Kn.Inv R y1 y0 d0 q r ∧ r < 4294967296) (fun _ b => bigM - (intOf b).toNat)
      case atStart => exact ⟨_, _, rfl, rfl, HI2.out, HHR.out⟩
      case round =>
        obtain ⟨q, r, rfl, rfl, hinv, hr⟩ := hrel
        have HIN := Lib.hid hinv
        have HT := Lib.hid (Kn.test HOK2.out hinv)
        obtain ⟨bq, br⟩ := Kn.bds HOK2.out hinv HHU.out
        obtain ⟨g0, g1, g2, g3⟩ := HOKI.out
        obtain ⟨n0, n1⟩ := HKK.out
        have bqi : (q : Int) ≤ 8589934591 := by omega
        have bri : (r : Int) < 4294967296 := by omega
        have HRL := Lib.hid hr
        clear hinv
        by_cases hA : R * 4294967296 + d0 < q * (y1 * 4294967296 + y0)
        · have hq0 := Kn.pos hA
          have HN := Lib.hid (Kn.next HIN.out hA)
          have HD := Lib.hid (fun hs => Kn.done HOK2.out HN.out (Kn.stop HOK2.out HN.out hs))
          have hor := HT.out.2 hA
          have hq1 : (1 : Int) ≤ (q : Int) := by omega
          clear hA
          have HQC := Lib.hid (show ((q - 1 : Nat) : Int) = (q : Int) - 1 by omega)
          by_cases hbig : 4294967296 ≤ q
          · have hbi : (4294967296 : Int) ≤ (q : Int) := by omega
            clear hor
            by_cases hr2 : 4294967296 ≤ r + y1
            · have HDD := Lib.hid (dig_mk (HD.out hr2).2)
              have hr3 : (4294967296 : Int) ≤ (r : Int) + (y1 : Int) := by omega
              clear hr2 hbig hr bq br n0 n1 hq0
              go_wp2_with fail
              go_meet
              exact ⟨rfl, q - 1, by rw [HQC.out], HDD.out⟩
            · have hr3 : decide ((4294967296 : Int) ≤ (r : Int) + (y1 : Int)) = false := decide_eq_false (by omega)
              have HR2 := Lib.hid (show r + y1 < 4294967296 by omega)
              clear hr2 hbig hr bq br n0 n1 hq0
              go_wp2
              go_round
              case rel => exact ⟨q - 1, r + y1, by rw [HQC.out], by simp, HN.out, HR2.out⟩
              case measure => exact bigM_lt HRL.out HY1.out
          · have hlt : 4294967296 * r + d0 < q * y0 := by omega
            have hqs : q < 4294967296 := by omega
            have hpb : q * y0 ≤ 4294967295 * 4294967295 := Nat.mul_le_mul (by omega) (by omega)
            have hpc : (q : Int) * (y0 : Int) = ((q * y0 : Nat) : Int) := (Int.natCast_mul q y0).symm
            clear hor hbig
            generalize q * y0 = P at *
            have hbi : decide ((4294967296 : Int) ≤ (q : Int)) = false := decide_eq_false (by omega)
            have hlti : decide (4294967296 * (r : Int) + (d0 : Int) < (P : Int)) = true := decide_eq_true (by omega)
            have hpbi : (P : Int) ≤ 18446744065119617025 := by omega
            by_cases hr2 : 4294967296 ≤ r + y1
            · have HDD := Lib.hid (dig_mk (HD.out hr2).2)
              have hr3 : (4294967296 : Int) ≤ (r : Int) + (y1 : Int) := by omega
              clear hr2 hlt hqs hpb hr bq br n0 n1 hq0
              go_wp2_with fail
              go_meet
              exact ⟨rfl, q - 1, by rw [HQC.out], HDD.out⟩
            · have hr3 : decide ((4294967296 : Int) ≤ (r : Int) + (y1 : Int)) = false := decide_eq_false (by omega)
              have HR2 := Lib.hid (show r + y1 < 4294967296 by omega)
              clear hr2 hlt hqs hpb hr bq br n0 n1 hq0
              go_wp2
              go_round
              case rel => exact ⟨q - 1, r + y1, by rw [HQC.out], by simp, HN.out, HR2.out⟩
              case measure => exact bigM_lt HRL.out HY1.out
        · have HDD := Lib.hid (dig_mk (Kn.done HOK2.out HIN.out hA).2)
          have hno : ¬ (4294967296 ≤ q ∨ 4294967296 * r + d0 < q * y0) := fun h => hA (HT.out.1 h)
          have hqs : q < 4294967296 := by omega
          have hlt : q * y0 ≤ 4294967296 * r + d0 := by omega
          have hpc : (q : Int) * (y0 : Int) = ((q * y0 : Nat) : Int) := (Int.natCast_mul q y0).symm
          clear hno hA
          generalize q * y0 = P at *
          have hpbi : (P : Int) ≤ 18446744073709551615 := by omega
          have hbi : decide ((4294967296 : Int) ≤ (q : Int)) = false := decide_eq_false (by omega)
          have hlti : decide (4294967296 * (r : Int) + (d0 : Int) < (P : Int)) = false := decide_eq_false (by omega)
          clear hqs hlt hr bq br n0 n1
          go_wp2_with fail
          go_meet
          exact ⟨rfl, q, rfl, HDD.out⟩
    case rest =>
      obtain ⟨rfl, q0, rfl, hdig⟩ := hcut
      obtain ⟨j1, j2, j3⟩ := hdig
      obtain ⟨t1, t2⟩ := Kn.two (N := (h * 18446744073709551616 + l) * 2 ^ s) (Y := y1 * 4294967296 + y0) (u := u) (d1 := d1) (d0 := d0) (q1 := q1) (q0 := q0) (R := R) (by omega) W3.out (by rw [← W2.out]; exact HR2.out) j2 j3
      rw [← W2.out, ← W1.out] at t1 t2
      rw [Nat.mul_div_mul_right _ _ (Nat.two_pow_pos s)] at t1
      rw [Nat.mul_mod_mul_right] at t2
      have hmod : (h * 18446744073709551616 + l) % y < y := Nat.mod_lt _ (by omega)
      have T1 := Lib.hid t1
      have e13 : IntKind.u64.wrap (IntKind.u64.wrap ((q1 : Int) * 4294967296) + (q0 : Int)) = (((h * 18446744073709551616 + l) / y : Nat) : Int) := by
        rw [← T1.out]
        have := HJ.out
        simp only [IntKind.wrap_u64]
        clear e1 e2 e3 e4 e5 e6 e7 e8 e9 e10 e11 e12 HI1 HI2 T1 t1 t2
        omega
      have hYY : q0 * (y * 2 ^ s) = q0 * Y := by rw [W1.out]
      have e14 : IntKind.u64.wrap (IntKind.u64.wrap (IntKind.u64.wrap ((R : Int) * 4294967296) + (d0 : Int)) - IntKind.u64.wrap ((q0 : Int) * (Y : Int))) = ((((h * 18446744073709551616 + l) % y) * 2 ^ s : Nat) : Int) := by
        rw [show (q0 : Int) * (Y : Int) = ((q0 * Y : Nat) : Int) from (Int.natCast_mul q0 Y).symm, ← t2, hYY]
        have hlt : R * 4294967296 + d0 - q0 * Y < Y := by have := j3; rw [← W2.out] at this; exact this
        have hle : q0 * Y ≤ R * 4294967296 + d0 := by have := j2; rw [← W2.out] at this; exact this
        simp only [IntKind.wrap_u64]
        clear e1 e2 e3 e4 e5 e6 e7 e8 e9 e10 e11 e12 e13 HI1 HI2 T1 t1 t2 j1 j2 j3 hYY
        generalize q0 * Y = P at *
        omega
      have e15 : ((((h * 18446744073709551616 + l) % y) * 2 ^ s : Nat) : Int) / 2 ^ s = (((h * 18446744073709551616 + l) % y : Nat) : Int) := by
        rw [show (2 : Int) ^ s = ((2 ^ s : Nat) : Int) by simp, ← Int.natCast_ediv, Nat.mul_div_cancel _ (Nat.two_pow_pos s)]
      have E13 := Lib.hid e13
      have E15 := Lib.hid e15
      generalize hq : (h * 18446744073709551616 + l) / y = qq at *
      generalize hm : ((h * 18446744073709551616 + l) % y) = mm at *
      generalize hms : mm * 2 ^ s = ms at *
      have HQ := Lib.hid hq
      have HM := Lib.hid hm
      clear hq hm hms t1 t2 j1 j2 j3 hmod e15 hYY
      go_wp2
      rw [E15.out]
      refine bodyPost_ret (v := .tuple #[.int .u64 qq, .int .u64 mm]) (by simp [results, Tryd.results30, go_sem]) rfl ⟨by rw [HQ.out, HM.out], Below.refl _ _⟩

theorem div64_any (h l y : Nat) (hhy : h < y) (hl : l < 18446744073709551616) (hy : y < 18446744073709551616) (w : World) :
    Calls Tryd.prog 30 #[.int .u64 h, .int .u64 l, .int .u64 y] w fun e w' => e = .returned (.tuple #[.int .u64 ((h * 18446744073709551616 + l) / y : Nat), .int .u64 ((h * 18446744073709551616 + l) % y : Nat)]) ∧ Below w.heap.size w w' := by
  rcases Nat.eq_zero_or_pos h with h0 | h0
  · subst h0
    rw [Nat.zero_mul, Nat.zero_add]
    exact div64_small l y hl hy (by omega) w
  · exact div64_big h l y (64 - Bt.blen y) h0 hhy hl hy (by have := Bt.blen_le (n := y) (k := 64) (by omega); omega) w
end Go.Proofs.YtmgkkbmcdnhdeabDoor
