/- prod.Div, walked: a divisor of more than 64 bits, bit by bit. (with what it needs) -/
import Derived.Test.YthimchhnhhchkaaGreatDoorM25
import Derived.Test.YthimchhnhhchkaaGreatDoorM07
import Derived.Deep.DeepCutAuto
import Derived.Test.YthimchhnhhchkaaGreatDoorM01
import Derived.Test.YthimchhnhhchkaaGreatDoorM24
import Derived.Test.YthimchhnhhchkaaGreatDoorM04
namespace Go.Proofs.YthimchhnhhchkaaGreatDoor
open Go.RowKit
set_option linter.unusedSimpArgs false
set_option linter.unusedVariables false

namespace Lg
/-- between two bits: a is q times b and r, r has no more than j bits to go, q has its lowest j bits open -/
def Inv (a b j q r : Nat) : Prop := a = q * b + r ∧ r < b * 2 ^ j ∧ ∃ m, q = 2 ^ j * m
theorem start {a b k : Nat} (hb : 0 < b) (hk : k + Bt.blen b = Bt.blen a) : Inv a b (k + 1) 0 a := by
  refine ⟨by simp, ?_, 0, by simp⟩
  have h1 := Bt.lt_blen a
  have h2 := (Bt.blen_spec b hb).1
  have h3 : 1 ≤ Bt.blen b := by rw [Bt.blen_pos _ hb]; omega
  obtain ⟨c, hc⟩ : ∃ c, Bt.blen b = c + 1 := ⟨_, (Nat.sub_add_cancel h3).symm⟩
  rw [hc, Nat.add_sub_cancel] at h2
  rw [← hk, hc] at h1
  have : 2 ^ c * 2 ^ (k + 1) ≤ b * 2 ^ (k + 1) := Nat.mul_le_mul_right _ h2
  rw [← Nat.pow_add, show c + (k + 1) = k + (c + 1) by omega] at this
  omega
theorem more {a b i q r : Nat} (h : Inv a b (i + 1) q r) (hle : b * 2 ^ i ≤ r) : Inv a b i (q ||| 2 ^ i) (r - b * 2 ^ i) := by
  obtain ⟨h1, h2, m, h3⟩ := h
  have ho : q ||| 2 ^ i = q + 2 ^ i := by
    rw [h3]
    exact (Nat.two_pow_add_eq_or_of_lt (Nat.pow_lt_pow_right (by omega) (by omega)) m).symm
  refine ⟨?_, ?_, 2 * m + 1, ?_⟩
  · rw [ho, Nat.add_mul, Nat.mul_comm (2 ^ i) b]; omega
  · rw [Nat.pow_succ, ← Nat.mul_assoc] at h2; omega
  · rw [ho, h3, Nat.pow_succ, Nat.mul_add, Nat.mul_one, Nat.mul_assoc]
theorem less {a b i q r : Nat} (h : Inv a b (i + 1) q r) (hlt : r < b * 2 ^ i) : Inv a b i q r := by
  obtain ⟨h1, h2, m, h3⟩ := h
  exact ⟨h1, hlt, 2 * m, by rw [h3, Nat.pow_succ, Nat.mul_assoc]⟩
theorem done {a b q r : Nat} (h : Inv a b 0 q r) : q = a / b ∧ r = a % b := by
  obtain ⟨h1, h2, _⟩ := h
  rw [Nat.pow_zero, Nat.mul_one] at h2
  have hb : 0 < b := by omega
  rw [h1, Nat.mul_comm q b, Nat.mul_add_div hb, Nat.div_eq_of_lt h2, Nat.mul_add_mod, Nat.mod_eq_of_lt h2]
  exact ⟨by omega, rfl⟩
theorem qlt {a b j q r : Nat} (h : Inv a b j q r) (ha : a < 2 ^ 128) (hb : 18446744073709551616 ≤ b) : q < 18446744073709551616 ∧ r < 2 ^ 128 := by
  obtain ⟨h1, h2, _⟩ := h
  have : q * 18446744073709551616 ≤ q * b := Nat.mul_le_mul_left _ hb
  omega
theorem up_fits {a b k i : Nat} (hb : 0 < b) (ha : a < 2 ^ 128) (hk : k + Bt.blen b = Bt.blen a) (hi : i ≤ k) : b * 2 ^ i < 2 ^ 128 := by
  have h1 := Bt.lt_blen b
  have h2 := Bt.blen_le ha
  have h3 : b * 2 ^ i < 2 ^ Bt.blen b * 2 ^ i := Nat.mul_lt_mul_of_pos_right h1 (Nat.two_pow_pos i)
  rw [← Nat.pow_add] at h3
  have h4 : 2 ^ (Bt.blen b + i) ≤ 2 ^ 128 := Nat.pow_le_pow_right (by omega) (by omega)
  omega
theorem blen_mono {a b : Nat} (h : b ≤ a) : Bt.blen b ≤ Bt.blen a := Bt.blen_le (Nat.lt_of_le_of_lt h (Bt.lt_blen a))
theorem k_le {a b k : Nat} (ha : a < 2 ^ 128) (hb : 18446744073709551616 ≤ b) (hk : k + Bt.blen b = Bt.blen a) : k ≤ 63 := by
  have h1 := Bt.blen_le ha
  have h2 := Bt.le_blen (n := b) (k := 64) (by omega)
  omega
end Lg
theorem u64_or_nat (a b : Nat) (ha : a < 18446744073709551616) (hb : b < 18446744073709551616) : bits .or .u64 (a : Int) (b : Int) = ((a ||| b : Nat) : Int) := by
  have hx : a ||| b < 2 ^ 64 := Nat.or_lt_two_pow (by omega) (by omega)
  show IntKind.u64.wrap ((BitVec.ofInt 64 (a : Int) ||| BitVec.ofInt 64 (b : Int)).toNat : Int) = _
  rw [BitVec.toNat_or, ofInt_u64 a (by omega), ofInt_u64 b (by omega), IntKind.wrap_u64]
  omega
def Got (W0 : World) (x : Nat) (s : Value) (wx : World) : Prop := ∃ g, s = .pointer (some ⟨g, 0, none⟩) ∧ Below W0.heap.size W0 wx ∧ Blk wx g 29 #[.int .u64 (hiN x), .int .u64 (loN x)]
theorem got_new {W0 w5 : World} {x : Nat} (h : Below W0.heap.size W0 (w5.alloc (.cells #[.int .u64 (hiN x), .int .u64 (loN x)] 29))) :
    Got W0 x (.pointer (some ⟨w5.heap.size, 0, none⟩)) (w5.alloc (.cells #[.int .u64 (hiN x), .int .u64 (loN x)] 29)) := ⟨_, rfl, h, Blk.new _ _ _⟩
theorem got_set {W0 w5 : World} {x g : Nat} (h : Below W0.heap.size W0 ((w5.setCell ⟨g, 0, none⟩ (.int .u64 (hiN x))).setCell ⟨g, 1, none⟩ (.int .u64 (loN x)))) (hg : ∃ a0 a1, Blk w5 g 29 #[a0, a1]) :
    Got W0 x (.pointer (some ⟨g, 0, none⟩)) ((w5.setCell ⟨g, 0, none⟩ (.int .u64 (hiN x))).setCell ⟨g, 1, none⟩ (.int .u64 (loN x))) := by
  obtain ⟨a0, a1, hg⟩ := hg
  exact ⟨_, rfl, h, (hg.set_ 0 _).set_ 1 _⟩
theorem Below.al' {w W : World} {o : Obj} (h : Below w.heap.size w W) : Below w.heap.size w (W.alloc o) := h.alloc h.size _
theorem Below.thru' {w X W : World} (h : Below w.heap.size w X) (h2 : Below X.heap.size X W) : Below w.heap.size w W := h.trans (h2.mono h.size)
end Go.Proofs.YthimchhnhhchkaaGreatDoor

namespace Go.Proofs.YthimchhnhhchkaaGreatDoor
open Go.RowKit
set_option linter.unusedSimpArgs false
set_option linter.unusedVariables false

theorem cmpN_pos {a b : Nat} (h : b < a) : 0 < cmpN a b := by unfold cmpN; rw [if_neg (by omega), if_pos h]; decide
theorem cmpN_le {a b : Nat} (h : a ≤ b) : cmpN a b ≤ 0 := by unfold cmpN; split <;> rename_i h1 <;> first | decide | (rw [if_neg (by omega)]; decide)
set_option maxRecDepth 100000 in
set_option maxHeartbeats 1000000 in
theorem halv_zero (a : Nat) (w : World) :
    Calls Tryz.prog 40 #[.agg #[.int .u64 (hiN a), .int .u64 (loN a)], .agg #[.int .u64 0, .int .u64 0]] w fun e w' => e = .returned (.tuple #[.int .i64 0, .int .i64 6]) ∧ Below w.heap.size w w' := by
  have E := Lib.hid (((Env.start w).lay #[.int .u64 (hiN a), .int .u64 (loN a)] 29).lay #[.int .u64 0, .int .u64 0] 29)
  generalize hiN a = ah at *
  generalize loN a = al at *
  go_enter Tryz.func40, Tryz.ntmps40
  go_wp2
  refine bodyPost_ret (v := .tuple #[.int .i64 0, .int .i64 6]) (by simp [results, Tryz.results40, go_sem]) rfl ⟨rfl, E.out.bel⟩

theorem halv_uniq_neg {a b : Nat} {k : Int} (h : Rt.IsHalv a b k) (hab : a < b) : k = -1 := by
  rcases h with ⟨h, _⟩ | ⟨n, _, h1, h2, _⟩
  · exact h
  · have : b * 1 ≤ b * 2 ^ n := Nat.mul_le_mul_left _ (Nat.one_le_two_pow)
    omega
theorem halv_uniq {a b n : Nat} {k : Int} (h : Rt.IsHalv a b k) (h1 : b * 2 ^ n ≤ a) (h2 : a < b * 2 ^ (n + 1)) : k = (n : Int) := by
  rcases h with ⟨h, h3⟩ | ⟨m, rfl, h3, h4, h5⟩
  · exfalso
    have : b * 1 ≤ b * 2 ^ n := Nat.mul_le_mul_left _ (Nat.one_le_two_pow)
    rcases h3 with h3 | h3
    · subst h3; omega
    · omega
  · rcases Nat.lt_trichotomy m n with e | e | e
    · have : b * 2 ^ (m + 1) ≤ b * 2 ^ n := Nat.mul_le_mul_left _ (Nat.pow_le_pow_right (by omega) e)
      omega
    · rw [e]
    · have : b * 2 ^ (n + 1) ≤ b * 2 ^ m := Nat.mul_le_mul_left _ (Nat.pow_le_pow_right (by omega) e)
      omega
/-- what Halvings answers of k halvings -/
def halvR (k : Int) : Value := if k < 0 then .tuple #[.int .i64 0, .int .i64 4] else .tuple #[.int .i64 k, .int .i64 0]

set_option maxHeartbeats 4000000 in
set_option maxRecDepth 100000 in
theorem halv_ok (a b : Nat) (kk : Int) (ha : a < 2 ^ 128) (hb : b < 2 ^ 128) (h0 : 0 < b) (hk : Rt.IsHalv a b kk) (w : World) :
    Calls Tryz.prog 40 #[.agg #[.int .u64 (hiN a), .int .u64 (loN a)], .agg #[.int .u64 (hiN b), .int .u64 (loN b)]] w fun e w' => e = .returned (halvR kk) ∧ Below w.heap.size w w' := by
  have HLA := Lib.hid (fun w' => wide_len _ _ a (WN.mk' a ha) w')
  have HLB := Lib.hid (fun w' => wide_len _ _ b (WN.mk' b hb) w')
  have HA := Lib.hid ha
  have HB := Lib.hid hb
  have H0 := Lib.hid h0
  have HKK := Lib.hid hk
  have hla := Bt.blen_le ha
  have hlb := Bt.blen_le hb
  have hnz : (hiN b == 0 && loN b == 0) = false := by
    by_cases h : hiN b = 0
    · have : loN b ≠ 0 := by unfold hiN at h; unfold loN; omega
      simp [this]
    · simp [h]
  have hor : ((hiN b == 0) = false) ∨ ((hiN b == 0) = true ∧ (loN b == 0) = false) := by
    by_cases h : hiN b = 0
    · have : loN b ≠ 0 := by unfold hiN at h; unfold loN; omega
      exact .inr ⟨by simp [h], by simpa using this⟩
    · exact .inl (by simpa using h)
  have HLEN := Lib.hid (show ((Bt.blen a : Nat) : Int) - (Bt.blen b : Nat) = ((Bt.blen a : Nat) : Int) - (Bt.blen b : Nat) ∧ True from ⟨rfl, trivial⟩)
  have HWB := Lib.hid (WN.mk' b hb)
  have HWA := Lib.hid (WN.mk' a ha)
  have E := Lib.hid (((Env.start w).lay #[.int .u64 (hiN a), .int .u64 (loN a)] 29).lay #[.int .u64 (hiN b), .int .u64 (loN b)] 29)
  have HLT := Lib.hid (Bt.lt_blen a)
  have HBP := Lib.hid (Bt.blen_spec b h0)
  have HFIT := Lib.hid (fun k (hk : k + Bt.blen b = Bt.blen a) => Lg.up_fits (a := a) (b := b) (k := k) (i := k) h0 ha hk (Nat.le_refl _))
  have HTOP := Lib.hid (fun k (hk : k + Bt.blen b = Bt.blen a) (h : 0 < a) => (Rt.halv_len h0 h hk).1)
  have HLESS := Lib.hid (fun k (hk : k + 1 + Bt.blen b = Bt.blen a) => Rt.halv_less (a := a) (b := b) (k := k) h0 hk)
  have hlb1 : 1 ≤ Bt.blen b := by rw [Bt.blen_pos _ h0]; omega
  have HZA := Lib.hid (show a = 0 → Bt.blen a = 0 from fun h => by rw [h, Bt.blen_zero])
  clear HLEN hnz ha hb h0 hk
  generalize hiN a = ah at *
  generalize loN a = al at *
  generalize hiN b = bh at *
  generalize loN b = bl at *
  generalize Bt.blen a = la at *
  generalize Bt.blen b = lb at *
  simp only [World.size_alloc] at E
  rcases hor with hg | ⟨hg, hg2⟩
  all_goals
    go_enter Tryz.func40, Tryz.ntmps40
    go_upto_region 3 with fail
    generalize hW0 : World.alloc (World.alloc w _) _ = W0 at *
    clear hW0
    have HS := Lib.hid (show ∀ w', Below W0.heap.size W0 w' → (Below W0.heap.size W0 w' ∧ w'.cell? ⟨w.heap.size, 0, none⟩ = some (.int .u64 ah) ∧ w'.cell? ⟨w.heap.size, 1, none⟩ = some (.int .u64 al) ∧ w'.cell? ⟨w.heap.size + 1, 0, none⟩ = some (.int .u64 bh) ∧ w'.cell? ⟨w.heap.size + 1, 1, none⟩ = some (.int .u64 bl))
      from fun w' h => ⟨h, (E.out.below h).tl.hd.cell 0, (E.out.below h).tl.hd.cell 1, (E.out.below h).hd.cell 0, (E.out.below h).hd.cell 1⟩)
    have tok1 : True := trivial
    go_cut [6] (fun s6 wx => s6 = .int .i64 ((la : Int) - lb) ∧ Below W0.heap.size W0 wx)
    case first =>
      go_region_held3 (fun w' => Below W0.heap.size W0 w' ∧ w'.cell? ⟨w.heap.size, 0, none⟩ = some (.int .u64 ah) ∧ w'.cell? ⟨w.heap.size, 1, none⟩ = some (.int .u64 al) ∧ w'.cell? ⟨w.heap.size + 1, 0, none⟩ = some (.int .u64 bh) ∧ w'.cell? ⟨w.heap.size + 1, 1, none⟩ = some (.int .u64 bl))
        ((refine HS.out _ ?_; repeat (first | (with_reducible exact hL3) | (with_reducible exact hL2) | (with_reducible exact Below.refl _ _) | (with_reducible refine Below.drew ?_))))
        (first
          | (go_at_call 46; have _t := tok1; (with_reducible refine (HLA.out _).mono ?_); rintro e' w2 ⟨rfl, hb2⟩; have hL2 : Below W0.heap.size W0 w2 := Below.thru' (by repeat (first | (with_reducible exact Below.refl _ _) | (with_reducible refine Below.drew ?_))) hb2; clear tok1 _t)
          | (go_at_call 46; (with_reducible refine (HLB.out _).mono ?_); rintro e' w3 ⟨rfl, hb3⟩; have hL3 : Below W0.heap.size W0 w3 := Below.thru' (by repeat (first | (with_reducible exact hL2) | (with_reducible refine Below.drew ?_))) hb3))
      all_goals
        rename_i hheld
        have hbel := hheld.1
        clear hheld HS
        go_wp2_with fail
        go_meet
        exact ⟨by rw [IntWalk.i64_in _ (by omega)], hbel⟩
    case rest =>
      obtain ⟨rfl, hbel⟩ := hcut
      have E2 := Lib.hid (E.out.below hbel)
      clear hbel HS E tok1
      by_cases hneg : la < lb
      · have hab : a < b := by
          have h1 := HLT.out
          have h2 := HBP.out.1
          have h3 : 2 ^ la ≤ 2 ^ (lb - 1) := Nat.pow_le_pow_right (by omega) (by omega)
          omega
        have HR := Lib.hid (show halvR kk = .tuple #[.int .i64 0, .int .i64 4] by rw [halv_uniq_neg HKK.out hab]; rfl)
        have hk1 : ¬ 0 ≤ (la : Int) - lb := by omega
        have hcc : True := trivial
        generalize (la : Int) - lb = kz at *
        have hkd : decide ((0 : Int) ≤ kz) = false := by simpa using hk1
        have hkd2 : decide (kz < (0 : Int)) = true := by simp; omega
        clear hneg hab
        have HUP := Lib.hid hcc
        have HCM := Lib.hid hcc
        go_upto_region 4 with fail
        have HS := Lib.hid (show ∀ w', Below wc.heap.size wc w' → (Below wc.heap.size wc w' ∧ w'.cell? ⟨w.heap.size, 0, none⟩ = some (.int .u64 ah) ∧ w'.cell? ⟨w.heap.size, 1, none⟩ = some (.int .u64 al) ∧ w'.cell? ⟨w.heap.size + 1, 0, none⟩ = some (.int .u64 bh) ∧ w'.cell? ⟨w.heap.size + 1, 1, none⟩ = some (.int .u64 bl))
          from fun w' h => ⟨h, (E2.out.below h).tl.hd.cell 0, (E2.out.below h).tl.hd.cell 1, (E2.out.below h).hd.cell 0, (E2.out.below h).hd.cell 1⟩)
        go_cut [24] (fun s24 wx => s24 = .bool false ∧ Below wc.heap.size wc wx)
        case first =>
          have x0 := E2.out.tl.hd.cell 0
          have x1 := E2.out.tl.hd.cell 1
          have y0 := E2.out.hd.cell 0
          have y1 := E2.out.hd.cell 1
          simp at x0 x1 y0 y1
          go_region
          go_wp2_with fail
          go_meet
          exact ⟨by simp [hkd], (Below.refl _ _).drew⟩
        case rest =>
          obtain ⟨rfl, hbel⟩ := hcut
          have E3 := Lib.hid (E2.out.below hbel)
          clear hbel HS E2
          have hk2 : kz < 0 := by omega
          go_wp2
          refine bodyPost_ret (v := .tuple #[.int .i64 0, .int .i64 4]) (by simp [results, Tryz.results40, go_sem]) rfl ⟨by rw [HR.out], E3.out.bel⟩
      · obtain ⟨kn, hkn⟩ : ∃ kn, kn + lb = la := ⟨la - lb, by omega⟩
        have hkz : (la : Int) - lb = (kn : Int) := by omega
        rw [hkz]
        have hup := HFIT.out kn hkn
        have hkn127 : kn ≤ 127 := by omega
        have hapos : 0 < a := by
          rcases Nat.eq_zero_or_pos a with h | h
          · have := HZA.out h; omega
          · exact h
        have HTP := Lib.hid (HTOP.out kn hkn hapos)
        have HLS := Lib.hid (show ∀ m, kn = m + 1 → b * 2 ^ m ≤ a from fun m hm => HLESS.out m (by omega))
        have HUP := Lib.hid (show ∀ w', Calls Tryz.prog 96 #[.agg #[.int .u64 bh, .int .u64 bl], .int .i64 (kn : Int)] w' fun e w'' => e = .returned (.agg #[.int .u64 (hiN (b * 2 ^ kn)), .int .u64 (loN (b * 2 ^ kn))]) ∧ Below w'.heap.size w' w'' from fun w' => by
          have := wide_up bh bl b (kn : Int) HWB.out (by omega) (by omega) w'
          rw [Int.toNat_natCast, Nat.mod_eq_of_lt hup] at this
          exact this)
        have HCM := Lib.hid (fun w' => wide_cmp (hiN (b * 2 ^ kn)) (loN (b * 2 ^ kn)) ah al (b * 2 ^ kn) a (WN.mk' _ hup) HWA.out w')
        have hkn0 : (0 : Int) ≤ (kn : Int) := by omega
        clear hkz hneg hapos
        by_cases hle : b * 2 ^ kn ≤ a
        · have HR := Lib.hid (show halvR kk = .tuple #[.int .i64 (kn : Int), .int .i64 0] by rw [halv_uniq HKK.out hle HTP.out]; unfold halvR; rw [if_neg (by omega)])
          have hcc := cmpN_le hle
          generalize cmpN (b * 2 ^ kn) a = cc at *
          clear hle
          generalize hiN (b * 2 ^ kn) = uh at *
          generalize loN (b * 2 ^ kn) = ul at *
          go_upto_region 4 with fail
          have HS := Lib.hid (show ∀ w', Below wc.heap.size wc w' → (Below wc.heap.size wc w' ∧ w'.cell? ⟨w.heap.size, 0, none⟩ = some (.int .u64 ah) ∧ w'.cell? ⟨w.heap.size, 1, none⟩ = some (.int .u64 al) ∧ w'.cell? ⟨w.heap.size + 1, 0, none⟩ = some (.int .u64 bh) ∧ w'.cell? ⟨w.heap.size + 1, 1, none⟩ = some (.int .u64 bl))
            from fun w' h => ⟨h, (E2.out.below h).tl.hd.cell 0, (E2.out.below h).tl.hd.cell 1, (E2.out.below h).hd.cell 0, (E2.out.below h).hd.cell 1⟩)
          go_cut [24] (fun s24 wx => s24 = .bool false ∧ Below wc.heap.size wc wx)
          case first =>
            go_region_held3 (fun w' => Below wc.heap.size wc w' ∧ w'.cell? ⟨w.heap.size, 0, none⟩ = some (.int .u64 ah) ∧ w'.cell? ⟨w.heap.size, 1, none⟩ = some (.int .u64 al) ∧ w'.cell? ⟨w.heap.size + 1, 0, none⟩ = some (.int .u64 bh) ∧ w'.cell? ⟨w.heap.size + 1, 1, none⟩ = some (.int .u64 bl))
              ((refine HS.out _ ?_; repeat (first | (with_reducible exact hL5) | (with_reducible exact hL4) | (with_reducible exact Below.refl _ _) | (with_reducible refine Below.drew ?_))))
              (first
                | (go_at_call 96; (with_reducible refine (HUP.out _).mono ?_); rintro e' w4 ⟨rfl, hb4⟩; have hL4 : Below wc.heap.size wc w4 := Below.thru' (by repeat (first | (with_reducible exact Below.refl _ _) | (with_reducible refine Below.drew ?_))) hb4)
                | (go_at_call 94; (with_reducible refine (HCM.out _).mono ?_); rintro e' w5 ⟨rfl, hb5⟩; have hL5 : Below wc.heap.size wc w5 := Below.thru' (by repeat (first | (with_reducible exact hL4) | (with_reducible refine Below.drew ?_))) hb5))
            all_goals
              rename_i hheld
              have hbel := hheld.1
              clear hheld HS
              go_wp2_with fail
              go_meet
              exact ⟨by simp [hcc], hbel⟩
          case rest =>
            obtain ⟨rfl, hbel⟩ := hcut
            have E3 := Lib.hid (E2.out.below hbel)
            clear hbel HS E2
            go_wp2
            refine bodyPost_ret (v := .tuple #[.int .i64 (kn : Int), .int .i64 0]) (by simp [results, Tryz.results40, go_sem]) rfl ⟨by rw [HR.out], E3.out.bel⟩
        · have hcc := cmpN_pos (show a < b * 2 ^ kn by omega)
          have HNL := Lib.hid hle
          generalize cmpN (b * 2 ^ kn) a = cc at *
          clear hle
          generalize hiN (b * 2 ^ kn) = uh at *
          generalize loN (b * 2 ^ kn) = ul at *
          go_upto_region 4 with fail
          have HS := Lib.hid (show ∀ w', Below wc.heap.size wc w' → (Below wc.heap.size wc w' ∧ w'.cell? ⟨w.heap.size, 0, none⟩ = some (.int .u64 ah) ∧ w'.cell? ⟨w.heap.size, 1, none⟩ = some (.int .u64 al) ∧ w'.cell? ⟨w.heap.size + 1, 0, none⟩ = some (.int .u64 bh) ∧ w'.cell? ⟨w.heap.size + 1, 1, none⟩ = some (.int .u64 bl))
            from fun w' h => ⟨h, (E2.out.below h).tl.hd.cell 0, (E2.out.below h).tl.hd.cell 1, (E2.out.below h).hd.cell 0, (E2.out.below h).hd.cell 1⟩)
          go_cut [24] (fun s24 wx => s24 = .bool true ∧ Below wc.heap.size wc wx)
          case first =>
            go_region_held3 (fun w' => Below wc.heap.size wc w' ∧ w'.cell? ⟨w.heap.size, 0, none⟩ = some (.int .u64 ah) ∧ w'.cell? ⟨w.heap.size, 1, none⟩ = some (.int .u64 al) ∧ w'.cell? ⟨w.heap.size + 1, 0, none⟩ = some (.int .u64 bh) ∧ w'.cell? ⟨w.heap.size + 1, 1, none⟩ = some (.int .u64 bl))
              ((refine HS.out _ ?_; repeat (first | (with_reducible exact hL5) | (with_reducible exact hL4) | (with_reducible exact Below.refl _ _) | (with_reducible refine Below.drew ?_))))
              (first
                | (go_at_call 96; (with_reducible refine (HUP.out _).mono ?_); rintro e' w4 ⟨rfl, hb4⟩; have hL4 : Below wc.heap.size wc w4 := Below.thru' (by repeat (first | (with_reducible exact Below.refl _ _) | (with_reducible refine Below.drew ?_))) hb4)
                | (go_at_call 94; (with_reducible refine (HCM.out _).mono ?_); rintro e' w5 ⟨rfl, hb5⟩; have hL5 : Below wc.heap.size wc w5 := Below.thru' (by repeat (first | (with_reducible exact hL4) | (with_reducible refine Below.drew ?_))) hb5))
            all_goals
              rename_i hheld
              have hbel := hheld.1
              clear hheld HS
              go_wp2_with fail
              go_meet
              exact ⟨by simp [hcc], hbel⟩
          case rest =>
            obtain ⟨rfl, hbel⟩ := hcut
            have E3 := Lib.hid (E2.out.below hbel)
            clear hbel HS E2
            rcases Nat.eq_zero_or_pos kn with hz | hz
            · subst hz
              have HR := Lib.hid (show halvR kk = .tuple #[.int .i64 0, .int .i64 4] by rw [halv_uniq_neg HKK.out (by have := HNL.out; simpa using this)]; rfl)
              go_wp2
              refine bodyPost_ret (v := .tuple #[.int .i64 0, .int .i64 4]) (by simp [results, Tryz.results40, go_sem]) rfl ⟨by rw [HR.out], E3.out.bel⟩
            · obtain ⟨m, rfl⟩ : ∃ m, kn = m + 1 := ⟨kn - 1, by omega⟩
              have HR := Lib.hid (show halvR kk = .tuple #[.int .i64 (m : Int), .int .i64 0] by rw [halv_uniq HKK.out (HLS.out m rfl) (by have := HNL.out; omega)]; unfold halvR; rw [if_neg (by omega)])
              go_wp2
              refine bodyPost_ret (v := .tuple #[.int .i64 (m : Int), .int .i64 0]) (by simp [results, Tryz.results40, go_sem]) rfl ⟨by rw [HR.out], E3.out.bel⟩
end Go.Proofs.YthimchhnhhchkaaGreatDoor

namespace Go.Proofs.YthimchhnhhchkaaGreatDoor
open Go.RowKit
set_option linter.unusedSimpArgs false
set_option linter.unusedVariables false

theorem cmpN_le0 {a b : Nat} (h : a ≤ b) : cmpN a b ≤ 0 := by unfold cmpN; split <;> rename_i h1 <;> first | decide | (rw [if_neg (by omega)]; decide)
theorem cmpN_pos0 {a b : Nat} (h : b < a) : 0 < cmpN a b := by unfold cmpN; rw [if_neg (by omega), if_pos h]; decide
theorem Reads.thru {w W : World} {n : Nat} {A : Option Addr} {xs : List Value} (h : Reads w w.heap.size 1 A n xs) (hb : Below w.heap.size w W) : Reads W W.heap.size 1 A n xs := (h.below hb (Nat.le_refl _)).more hb.size





end Go.Proofs.YthimchhnhhchkaaGreatDoor

namespace Go.Proofs.YthimchhnhhchkaaGreatDoor
open Go.RowKit
set_option linter.unusedSimpArgs false
set_option linter.unusedVariables false




































































































































end Go.Proofs.YthimchhnhhchkaaGreatDoor
