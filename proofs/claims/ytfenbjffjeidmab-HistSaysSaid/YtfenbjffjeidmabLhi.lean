/- The law HistSays, walked. -/
import Derived.Test.YtfenbjffjeidmabHistS
import Derived.BigFrame
namespace Go.Proofs.Ytfenbjffjeidmab
open Go.RowKit
set_option linter.unusedSimpArgs false
set_option linter.unusedVariables false

def load24 (a : Addr) : Sem Value := loadVar 24 a
@[go_sem ↓] theorem load24_veil (a : Addr) : loadVar 24 a = load24 a := rfl

def slice24 (n : Nat) (p : Array (Nat × Value)) : Sem Value := Instr.buildSlice 39 n p
@[go_sem ↓] theorem slice24_veil (n : Nat) (p : Array (Nat × Value)) : Instr.buildSlice 39 n p = slice24 n p := rfl

theorem ld {W : World} {g : Nat} {l : List Int} (h : Blk W g 24 (histA l)) (hl : l.length = 26) : (load24 ⟨g, 0, none⟩).run Try.prog W = .ok (.agg (histA l)) W :=
  run_loadVar_row _ _ _ _ _ (0, 0) _ h Try.underlying24 rfl (by rw [histA_size, hl]; exact (zero_of_info hist_info).2)
theorem ok_of {l : List Int} (h : histE l = 0) : Hi.Ok l := by unfold histE at h; split at h; assumption; simp at h
theorem getD_left (a b : List Int) (k : Nat) (h : k < a.length) : (a ++ b).getD k 0 = a.getD k 0 := by simp [List.getD, List.getElem?_append_left h]
theorem getD_right (a b : List Int) (k : Nat) : (a ++ b).getD (a.length + k) 0 = b.getD k 0 := by simp [List.getD, List.getElem?_append_right]
theorem two_zero {a b : List Int} (ha : a.length = 26) (h : histE (a ++ b) = 0) : histE a = 0 ∧ histE b = 0 := by
  have h := ok_of h
  constructor
  · exact if_pos fun k hk => by have := h k (by simp; omega); rwa [getD_left a b k hk] at this
  · exact if_pos fun k hk => by have := h (a.length + k) (by simp; omega); rwa [getD_right a b k] at this
theorem histE_01 (l : List Int) : histE l = 0 ∨ histE l = 1 := by unfold histE; split; exact .inl rfl; exact .inr rfl
theorem ok_app {a b : List Int} (h : Hi.Ok a) (h2 : Hi.Ok b) : Hi.Ok (a ++ b) := fun k hk => by
  rcases Nat.lt_or_ge k a.length with e | e
  · rw [getD_left a b k e]; exact h k e
  · obtain ⟨j, rfl⟩ : ∃ j, k = a.length + j := ⟨k - a.length, by omega⟩
    rw [getD_right]; exact h2 j (by simp at hk; omega)
theorem two_one {a b : List Int} (ha : a.length = 26) (h : histE a = 0) (h2 : histE (a ++ b) ≠ 0) : histE b = histE (a ++ b) := by
  rcases histE_01 b with e | e
  · exact absurd (show histE (a ++ b) = 0 from if_pos (ok_app (ok_of h) (ok_of e))) h2
  · rcases histE_01 (a ++ b) with e2 | e2
    · exact absurd e2 h2
    · rw [e, e2]
def neg26 : List Int := -1 :: List.replicate 25 0
theorem bneg1 (w : World) : (Instr.build 22 #[(0, .int .i64 (-1))]).run Try.prog w = .ok (.agg (histA neg26)) w := by kernel_rfl
theorem bneg2 (w : World) : (Instr.build 24 #[(0, .agg (histA neg26))]).run Try.prog w = .ok (.agg (histA neg26)) w := by kernel_rfl
theorem negE : histE neg26 = 1 := by unfold histE; rw [if_neg]; intro h; have := (h 0 (by decide)).1; revert this; decide

theorem rpart_any (num den : Int) (w : World) :
    Calls Try.prog 9 #[.int .i64 num, .int .i64 den] w fun e w' => e = .returned (.bool (partB num den)) ∧ w = w' := by
  go_enter Try.func9, Try.ntmps9
  cases h1 : wi den 1 1000
  · have HR := Lib.hid (show partB num den = false by unfold partB; rw [h1]; rfl)
    go_wp2_with (go_at_call 15; refine (within_any _ _ _ _).mono ?_; rintro e w' ⟨rfl, rfl⟩; rw [h1])
    go_ret
    exact ⟨ret_bool HR.out.symm, rfl⟩
  · cases h2 : wi num 0 den
    · have HR := Lib.hid (show partB num den = false by unfold partB; rw [h1, h2]; rfl)
      go_wp2_with (go_at_call 15; refine (within_any _ _ _ _).mono ?_; rintro e w' ⟨rfl, rfl⟩; (first | rw [h1] | rw [h2]))
      go_ret
      exact ⟨ret_bool HR.out.symm, rfl⟩
    · have HR := Lib.hid (show partB num den = true by unfold partB; rw [h1, h2]; rfl)
      go_wp2_with (go_at_call 15; refine (within_any _ _ _ _).mono ?_; rintro e w' ⟨rfl, rfl⟩; (first | rw [h1] | rw [h2]))
      go_ret
      exact ⟨ret_bool HR.out.symm, rfl⟩

theorem rval_w (n : Int) (w : World) :
    Calls Try.prog 11 #[.int .i64 n] w fun e w' => e = .returned (.bool (wi n 0 16777216)) ∧ w = w' := by
  go_enter Try.func11, Try.ntmps11
  go_wp2_with (go_at_call 15; refine (within_any _ _ _ _).mono ?_; rintro e w' ⟨rfl, rfl⟩)
  go_ret
  exact ⟨rfl, rfl⟩

set_option maxHeartbeats 4000000 in
set_option maxRecDepth 100000 in
theorem histSays_walk (a b : List Int) (n num den : Int) (w : World) (ha : a.length = 26) (hb : b.length = 26) (n0 : -9223372036854775808 ≤ n) (n1 : n ≤ 9223372036854775807)
    (m0 : -9223372036854775808 ≤ num) (m1 : num ≤ 9223372036854775807) (d0 : -9223372036854775808 ≤ den) (d1 : den ≤ 9223372036854775807) :
    Calls Try.prog 3 #[.agg (histA a), .agg (histA b), .int .i64 n, .int .i64 num, .int .i64 den] w fun e w' => e = .returned (.bool true) ∧ Below w.heap.size w w' := by
  obtain ⟨hz, hi⟩ := zero_of_info hist_info
  have HI := Lib.hid (show ∀ m : List Int, m.length = 26 → (Try.prog.info? 24).map (·.size) = some (histA m).size from fun m hm => by rw [histA_size, hm]; exact hi)
  have HS := Lib.hid (show ∀ m k : List Int, m.length = 26 → k.length = 26 → (histA m).size = (histA k).size from fun m k hm hk => by rw [histA_size, histA_size, hm, hk])
  have H1 := Lib.hid (fun (m : List Int) => histA_one m)
  have hzz : (Value.agg (histA (List.replicate 26 0))) = .agg (histA zeros) := rfl
  rw [hzz] at hz
  have HZ := Lib.hid hz
  have LA := Lib.hid ha
  have LB := Lib.hid hb
  have HPU := Lib.hid (fun w => hput_is a ha n n0 n1 w)
  have HJO := Lib.hid (fun w => hjoin_is a b ha hb w)
  have HBE := Lib.hid (fun w => hbet_is a ha num den m0 m1 d0 d1 w)
  have PL := Lib.hid (putR_len a n ha)
  have JL := Lib.hid (joinR_len a b ha)
  have ZL := Lib.hid zeros_len
  have S1 := Lib.hid (show ∀ w, (slice24 1 #[(0, .agg (histA a))]).run Try.prog w = _ from fun w => slice_one a ha w)
  have S2 := Lib.hid (show ∀ w, (slice24 2 #[(0, .agg (histA a)), (1, .agg (histA b))]).run Try.prog w = _ from fun w => slice_two a b ha hb w)
  clear hi hzz ha hb n0 n1 m0 m1 d0 d1 hz
  have E := Lib.hid (((Env.start w).lay (histA a) 24).lay (histA b) 24)
  simp only [World.size_alloc] at E
  have hput : ∃ P e1, putR a n = (P, e1) := ⟨_, _, rfl⟩
  obtain ⟨P, e1, hput⟩ := hput
  have hjoin : ∃ J e2, joinR a b = (J, e2) := ⟨_, _, rfl⟩
  obtain ⟨J, e2, hjoin⟩ := hjoin
  have hbet : ∃ x y e3, betR a num den = (x, y, e3) := ⟨_, _, _, rfl⟩
  obtain ⟨x, y, e3, hbet⟩ := hbet
  rw [hput] at HPU PL
  rw [hjoin] at HJO JL
  rw [hbet] at HBE
  have PUT := Lib.hid hput
  have JOIN := Lib.hid hjoin
  have BET := Lib.hid hbet
  clear hput hjoin hbet
  have hz := HZ.out
  go_enter Try.func3, Try.ntmps3
  go_wp2_with (refine wpList_load_row rfl 24 _ rfl w.heap.size rfl 24 (histA a) (0, 0) _ E.out.tl.hd Try.underlying24 rfl (HI.out a LA.out) ?_)
  refine (HPU.out _).mono ?_
  rintro e' w1 ⟨rfl, hb1⟩
  have E1 := Lib.hid (E.out.below hb1)
  have W1 := Lib.hid E1.out.tl.hd.lt
  have E2 := Lib.hid (E1.out.layRow (histA zeros) (histA P) 24)
  clear hb1 E
  go_wp2_with (first
    | (refine wpList_store_row rfl 24 _ _ rfl w1.heap.size (histA zeros) (histA P) 24 rfl rfl (E1.out.lay (histA zeros) 24).hd (HI.out _ PL.out) (HS.out _ _ ZL.out PL.out) (H1.out _) ?_)
    | (refine wpList_load_row rfl 24 _ rfl w.heap.size rfl 24 (histA a) (0, 0) _ E2.out.tl.tl.hd Try.underlying24 rfl (HI.out a LA.out) ?_)
    | (refine wpList_load_row rfl 24 _ rfl (w.heap.size + 1) rfl 24 (histA b) (0, 0) _ E2.out.tl.hd Try.underlying24 rfl (HI.out b LB.out) ?_))
  refine (HJO.out _).mono ?_
  rintro e' w2 ⟨rfl, hb2⟩
  have E3 := Lib.hid (E2.out.below hb2)
  have E4 := Lib.hid (E3.out.layRow (histA zeros) (histA J) 24)
  clear hb2 E2 E1
  go_wp2_with (first
    | (refine wpList_store_row rfl 24 _ _ rfl w2.heap.size (histA zeros) (histA J) 24 rfl rfl (E3.out.lay (histA zeros) 24).hd (HI.out _ JL.out) (HS.out _ _ ZL.out JL.out) (H1.out _) ?_)
    | (refine wpList_load_row rfl 24 _ rfl w.heap.size rfl 24 (histA a) (0, 0) _ E4.out.tl.tl.tl.hd Try.underlying24 rfl (HI.out a LA.out) ?_))
  refine (HBE.out _).mono ?_
  rintro e' w3 ⟨rfl, hb3⟩
  have E5 := Lib.hid (E4.out.below hb3)
  clear hb3 E3 E4
  go_upto_region 4 with fail
  have s1 := S1.out
  have s2 := S2.out
  have RA := Lib.hid (fun w g hg => rhist_is a 1 (by omega) (by rw [LA.out]) w g hg _ rfl)
  have RAB := Lib.hid (fun w g hg => rhist_is (a ++ b) 2 (by omega) (by rw [List.length_append, LA.out, LB.out]) w g hg _ rfl)
  generalize hone : histE a = one at *
  generalize htwo : histE (a ++ b) = two at *
  have ONE := Lib.hid hone
  have TWO := Lib.hid htwo
  have HS5 := Lib.hid (show ∀ w', Below w3.heap.size w3 w' → (Below w3.heap.size w3 w' ∧ (load24 ⟨w.heap.size, 0, none⟩).run Try.prog w' = .ok (.agg (histA a)) w' ∧ (load24 ⟨w.heap.size + 1, 0, none⟩).run Try.prog w' = .ok (.agg (histA b)) w') from fun w' h => ⟨h, run_loadVar_row _ _ _ _ _ (0, 0) _ (E5.out.below h).tl.tl.tl.hd Try.underlying24 rfl (HI.out a LA.out), run_loadVar_row _ _ _ _ _ (0, 0) _ (E5.out.below h).tl.tl.hd Try.underlying24 rfl (HI.out b LB.out)⟩)
  clear hone htwo
  go_cut [18, 19] (fun s18 s19 wx => s18 = .int .i64 one ∧ s19 = .int .i64 two ∧ Below w3.heap.size w3 wx)
  case first =>
    go_region_held3 (fun w' => Below w3.heap.size w3 w' ∧ (load24 ⟨w.heap.size, 0, none⟩).run Try.prog w' = .ok (.agg (histA a)) w' ∧ (load24 ⟨w.heap.size + 1, 0, none⟩).run Try.prog w' = .ok (.agg (histA b)) w')
      ((refine HS5.out _ ?_; (repeat (first | (with_reducible exact hL5) | (with_reducible exact hL4) | (with_reducible exact Below.refl _ _) | (with_reducible refine Below.al ?_) | (with_reducible refine Below.drew ?_)))))
      (first
        | (go_at_call 7; (with_reducible refine (RA.out _ _ ?_).mono ?_); (first | (with_reducible exact (Blk.new _ _ _).drew) | (with_reducible exact ((Blk.new _ _ _).alloc _).drew) | (with_reducible exact (Blk.nw1 _ _ _ _).drew) | (with_reducible exact (Blk.new _ _ _)) | (with_reducible exact (Blk.new _ _ _).drew.alloc _)); rintro e' w4 ⟨rfl, hb4⟩; have hL4 : Below w3.heap.size w3 w4 := Below.thru (by (repeat (first | (with_reducible exact Below.refl _ _) | (with_reducible refine Below.al ?_) | (with_reducible refine Below.drew ?_)))) hb4)
        | (go_at_call 7; (with_reducible refine (RAB.out _ _ ?_).mono ?_); (first | (with_reducible exact (Blk.new _ _ _)) | (with_reducible exact (Blk.new _ _ _).drew) | (with_reducible exact ((Blk.nw1 _ _ _ _).drew).below hb4 (by simp <;> omega)) | (with_reducible exact (((Blk.new _ _ _).alloc _).drew).below hb4 (by simp <;> omega))); rintro e' w5 ⟨rfl, hb5⟩; have hL5 : Below w3.heap.size w3 w5 := Below.thru (by (repeat (first | (with_reducible exact hL4) | (with_reducible exact Below.refl _ _) | (with_reducible refine Below.al ?_) | (with_reducible refine Below.drew ?_)))) hb5))
    all_goals
      rename_i hheld
      have hbel := hheld.1
      clear hheld HS5 RA RAB
      go_wp2_with fail
      go_meet
      exact ⟨rfl, rfl, hbel⟩
  case rest =>
    obtain ⟨rfl, rfl, hbel⟩ := hcut
    have E6 := Lib.hid (E5.out.below hbel)
    clear hbel HS5 s1 s2 RA RAB S1 S2 E5
    have l0 := ld E6.out.tl.tl.tl.hd LA.out
    have l1 := ld E6.out.tl.tl.hd LB.out
    have l2 := ld E6.out.tl.hd PL.out
    have l3 := ld E6.out.hd JL.out
    have HC1 := Lib.hid (fun w => hcheck_is a LA.out _ ONE.out w)
    have HC2 := Lib.hid (fun w => hcheck_is neg26 rfl _ negE w)
    have b1 := bneg1
    have b2 := bneg2
    go_wp2_with fail
    refine (HC1.out _).mono ?_
    rintro e' w6 ⟨rfl, hb6⟩
    have E7 := Lib.hid (E6.out.below hb6)
    clear hb6 E6 l0 l1 l2 l3
    go_wp2_with fail
    refine (HC2.out _).mono ?_
    rintro e' w7 ⟨rfl, hb7⟩
    have E8 := Lib.hid (E7.out.below hb7)
    clear hb7 E7
    have l0 := ld E8.out.tl.tl.tl.hd LA.out
    have l1 := ld E8.out.tl.tl.hd LB.out
    have l2 := ld E8.out.tl.hd PL.out
    have l3 := ld E8.out.hd JL.out
    have HBZ := Lib.hid (show ∀ w, (Instr.build 24 #[]).run Try.prog w = .ok (.agg (histA zeros)) w from build26)
    have b0 := HBZ.out
    have W1LT := Lib.hid (show w.heap.size < w1.heap.size from W1.out)
    by_cases h1 : one = 0
    · subst h1
      have OKA := Lib.hid (ok_of ONE.out)
      cases hp : partB num den
      · have hB : x = 0 ∧ y = 0 ∧ e3 = 1 := by
          have h := BET.out
          unfold betR at h
          rw [if_neg (by simp [ONE.out]), if_pos hp] at h
          injection h with h2 h3
          injection h3 with h3 h4
          exact ⟨h2.symm, h3.symm, h4.symm⟩
        obtain ⟨rfl, rfl, rfl⟩ := hB
        have E9 := Lib.hid (E8.out.layRow (histA zeros) (histA a) 24)
        have EL := Lib.hid (E8.out.lay (histA zeros) 24)
        go_wp2_with (first | (go_at_call 9; refine (rpart_any _ _ _).mono ?_; rintro e' w' ⟨rfl, rfl⟩; rw [hp]) | refine wpList_store_row rfl 24 _ _ rfl w7.heap.size (histA zeros) (histA a) 24 rfl rfl EL.out.hd (HI.out _ LA.out) (HS.out _ _ ZL.out LA.out) (H1.out _) ?_)
        clear EL
        go_loopw [19, 120] (fun tv iv wr => ∃ (k : Nat) (t : Int) (S : List Int), k ≤ 26 ∧ iv = .int .i64 k ∧ tv = .int .i64 t ∧ S.length = 26 ∧ (t = 0 → S = Hi.mid a b k ∧ Hi.Fits a b k ∧ histE b = 0) ∧ (t ≠ 0 → joinR a b = (zeros, t)) ∧
            Env w wr [(w7.heap.size, 24, histA S), (w2.heap.size, 24, histA J), (w1.heap.size, 24, histA P), (w.heap.size + 1, 24, histA b), (w.heap.size, 24, histA a)]) (fun _ iv _ => 26 - (intOf iv).toNat)
        case atStart =>
          refine ⟨0, two, a, by omega, rfl, rfl, LA.out, ?_, ?_, by simpa using E9.out⟩
          · intro ht
            refine ⟨(Hi.mid_zero a b).symm, fun j h => by omega, ?_⟩
            exact (two_zero LA.out (TWO.out.trans ht)).2
          · intro ht
            have h2 := two_one LA.out (ONE.out) (by rw [TWO.out]; exact ht)
            unfold joinR
            rw [if_neg (by simp [ONE.out]), if_pos (by rw [h2, TWO.out]; exact ht), h2, TWO.out]
        case round =>
          obtain ⟨k, t, S, hk, rfl, rfl, hSl, ht0, ht1, hE⟩ := hrel
          have F := Lib.hid hE
          have SL := Lib.hid hSl
          have T0 := Lib.hid ht0
          have T1 := Lib.hid ht1
          clear hE hSl ht0 ht1 E9 l0 l1 l2 l3
          by_cases hlt : k < 26
          · by_cases ht : t = 0
            · subst ht
              obtain ⟨g1, g2, g3⟩ := T0.out rfl
              subst g1
              have FIT := Lib.hid g2
              have BZ := Lib.hid g3
              clear g2 g3 T0 T1 SL
              have x0 := (F.out.hd.cell k).trans ((histA_at (Hi.mid a b k) k (by rw [Hi.mid_len, LA.out]; exact hlt)).trans (by rw [Hi.mid_at _ _ _ _ (by have := LA.out; omega), if_neg (Nat.lt_irrefl _)]))
              have y0 := (F.out.tl.tl.tl.hd.cell k).trans (histA_at b k (by have := LB.out; omega))
              have f0 := F.out.hd.frozen k
              obtain ⟨a0, a1⟩ := (OKA.out) k (by have := LA.out; omega)
              obtain ⟨c0, c1⟩ := (ok_of BZ.out) k (by have := LB.out; omega)
              have HFS := Lib.hid (show a.getD k 0 + b.getD k 0 ≤ 1073741824 → Hi.Fits a b (k + 1) from fits_succ FIT.out)
              have HFN := Lib.hid (show ¬ a.getD k 0 + b.getD k 0 ≤ 1073741824 → joinR a b = (zeros, 2) from fun h => by
                unfold joinR; rw [if_neg (by simp [ONE.out]), if_neg (by simp [BZ.out]), if_neg (fits_not hlt (by omega))])
              have HSET := Lib.hid (show (histA (Hi.mid a b k)).setIfInBounds k (.int .i64 (a.getD k 0 + b.getD k 0)) = histA (Hi.mid a b (k + 1)) by
                rw [histA_set, Hi.mid_set _ _ _ (by have := LA.out; omega)])
              have hdis : ∀ x ∈ [(w2.heap.size, 24, histA J), (w1.heap.size, 24, histA P), (w.heap.size + 1, 24, histA b), (w.heap.size, 24, histA a)], x.1 ≠ w7.heap.size := fun x hx => Nat.ne_of_lt (E8.out.2 x hx).2.lt
              have F2 := Lib.hid (F.out.setHd hdis k (.int .i64 (a.getD k 0 + b.getD k 0)))
              have F3 := Lib.hid (show Env w (World.drew _) _ from F2.out.drew)
              rw [HSET.out] at F2 F3
              have hM2 : (Hi.mid a b (k + 1)).length = 26 := by rw [Hi.mid_len, LA.out]
              have ML := Lib.hid hM2
              clear hM2
              have hw7 : w.heap.size + 1 ≠ w7.heap.size := Nat.ne_of_lt E8.out.tl.tl.hd.lt
              clear hdis
              generalize a.getD k 0 = xx at *
              generalize b.getD k 0 = yy at *
              by_cases hm : xx + yy ≤ 1073741824
              · have HFS2 := Lib.hid (HFS.out hm)
                go_wp2_with fail
                go_region
                go_wp2_with fail
                go_roundw
                case rel => exact ⟨k + 1, 0, _, hlt, by simp, rfl, ML.out, fun _ => ⟨rfl, HFS2.out, BZ.out⟩, fun h => absurd rfl h, F3.out⟩
                case measure => simp [intOf]; omega
              · have HR := Lib.hid (HFN.out hm)
                go_wp2_with fail
                go_region
                go_wp2_with fail
                go_roundw
                case rel => exact ⟨k + 1, 2, _, hlt, by simp, rfl, ML.out, fun h => absurd h (by decide), fun _ => HR.out, F3.out⟩
                case measure => simp [intOf]; omega
            · have htb : (t == 0) = false := by simpa using ht
              have TN := Lib.hid ht
              clear ht
              go_wp2_with fail
              go_roundw
              case rel => exact ⟨k + 1, t, S, hlt, by simp, rfl, SL.out, fun h => absurd h TN.out, fun _ => T1.out TN.out, F.out⟩
              case measure => simp [intOf]; omega
          · have hk2 : k = 26 := by omega
            have hk3 : 26 ≤ k := by omega
            by_cases ht : t = 0
            · obtain ⟨g1, g2, g3⟩ := T0.out ht
              subst ht
              have hJ : S = J ∧ e2 = 0 := by
                have h := JOIN.out
                unfold joinR at h
                rw [if_neg (by simp [ONE.out]), if_neg (by simp [g3]), if_pos (by rw [← hk2]; exact g2)] at h
                injection h with h2 h3
                exact ⟨by rw [← h2, g1, hk2], h3.symm⟩
              obtain ⟨rfl, rfl⟩ := hJ
              clear g1 g2 g3 hk2 T0 T1
              have KL := SL
              have l0 := ld F.out.tl.tl.tl.tl.hd LA.out
              have l2 := ld F.out.tl.tl.hd PL.out
              have l3 := ld F.out.tl.hd JL.out
              have l4 := ld F.out.hd KL.out
              have j1 := ext26 JL.out
              have j2 := fun w => eq26 JL.out w
              have z1 := ext26 ZL.out
              have z2 := fun w => eq26 ZL.out w
              have bz := HBZ.out
              cases hn : wi n 0 16777216
              · have hP : P = zeros ∧ e1 = 1 := by
                  have h := PUT.out
                  unfold putR at h
                  rw [if_neg (by simp [ONE.out]), if_pos hn] at h
                  injection h with h2 h3
                  exact ⟨h2.symm, h3.symm⟩
                obtain ⟨rfl, rfl⟩ := hP
                go_wp2_with (first | (go_at_call 11; refine (rval_w _ _).mono ?_; rintro e' w' ⟨rfl, rfl⟩; rw [hn]))
                go_ret
                exact ⟨rfl, F.out.bel⟩
              · have HLO := Lib.hid (fun w => rlong_any n hn w)
                have hkk := blen_val hn
                have PU := PUT.out
                unfold putR at PU
                rw [if_neg (by simp [ONE.out]), if_neg (by simp [hn])] at PU
                have c0 := (F.out.tl.tl.tl.tl.hd.cell (Bt.blen n.toNat)).trans (histA_at a _ (by have := LA.out; omega))
                have f0 := F.out.tl.tl.tl.tl.hd.frozen (Bt.blen n.toNat)
                obtain ⟨a0, a1⟩ := OKA.out (Bt.blen n.toNat) (by have := LA.out; omega)
                have B0 := F.out.tl.tl.tl.tl.hd.set_ (Bt.blen n.toNat) (.int .i64 (a.getD (Bt.blen n.toNat) 0 + 1))
                rw [histA_set] at B0
                have BP := F.out.tl.tl.hd.far (p := ⟨w.heap.size, Bt.blen n.toNat, none⟩) (Ne.symm (Nat.ne_of_lt W1LT.out)) (.int .i64 (a.getD (Bt.blen n.toNat) 0 + 1))
                have HN := Lib.hid hn
                have hkk2 : Bt.blen n.toNat < 26 := by omega
                generalize Bt.blen n.toNat = kk at *
                by_cases hm : a.getD kk 0 = 1073741824
                · rw [if_pos hm] at PU
                  have hP : P = zeros ∧ e1 = 2 := by
                    injection PU with h2 h3
                    exact ⟨h2.symm, h3.symm⟩
                  obtain ⟨rfl, rfl⟩ := hP
                  rw [hm] at c0
                  clear PU B0 BP a0 a1 hm
                  go_wp2_with (first | (go_at_call 11; refine (rval_w _ _).mono ?_; rintro e' w' ⟨rfl, rfl⟩; rw [hn]) | (go_at_call 12; refine (HLO.out _).mono ?_; rintro e' w' ⟨rfl, rfl⟩))
                  go_ret
                  exact ⟨rfl, F.out.bel⟩
                · rw [if_neg hm] at PU
                  have hP : P = a.set kk (a.getD kk 0 + 1) ∧ e1 = 0 := by
                    injection PU with h2 h3
                    exact ⟨h2.symm, h3.symm⟩
                  have hmb : (a.getD kk 0 == 1073741824) = false := by simpa using hm
                  rw [← hP.1] at B0
                  obtain ⟨-, rfl⟩ := hP
                  have BEL := Lib.hid (F.out.bel.setCell (p := ⟨w.heap.size, kk, none⟩) (Nat.le_refl _) (.int .i64 (a.getD kk 0 + 1)))
                  have l5 := ld B0 PL.out
                  have l6 := ld BP PL.out
                  have q1 := ext26 PL.out
                  have q2 := fun w => eq26 PL.out w
                  clear PU B0 BP hm
                  generalize a.getD kk 0 = xx at *
                  go_wp2_with (first | (go_at_call 11; refine (rval_w _ _).mono ?_; rintro e' w' ⟨rfl, rfl⟩; rw [hn]) | (go_at_call 12; refine (HLO.out _).mono ?_; rintro e' w' ⟨rfl, rfl⟩))
                  go_ret
                  exact ⟨rfl, BEL.out⟩
            · have hJ : J = zeros ∧ e2 = t := by
                have h := JOIN.out
                rw [T1.out ht] at h
                injection h with h2 h3
                exact ⟨h2.symm, h3.symm⟩
              obtain ⟨rfl, rfl⟩ := hJ
              have htb : (e2 == 0) = false := by simpa using ht
              clear hk2 T0 T1 ht
              have KL := ZL
              have hdis : ∀ x ∈ [(w2.heap.size, 24, histA zeros), (w1.heap.size, 24, histA P), (w.heap.size + 1, 24, histA b), (w.heap.size, 24, histA a)], x.1 ≠ w7.heap.size := fun x hx => Nat.ne_of_lt (E8.out.2 x hx).2.lt
              have F4 := Lib.hid (F.out.setRow hdis (histA zeros))
              clear hdis
              have l0 := ld F4.out.tl.tl.tl.tl.hd LA.out
              have l2 := ld F4.out.tl.tl.hd PL.out
              have l3 := ld F4.out.tl.hd JL.out
              have l4 := ld F4.out.hd KL.out
              have j1 := ext26 JL.out
              have j2 := fun w => eq26 JL.out w
              have z1 := ext26 ZL.out
              have z2 := fun w => eq26 ZL.out w
              have bz := HBZ.out
              cases hn : wi n 0 16777216
              · have hP : P = zeros ∧ e1 = 1 := by
                  have h := PUT.out
                  unfold putR at h
                  rw [if_neg (by simp [ONE.out]), if_pos hn] at h
                  injection h with h2 h3
                  exact ⟨h2.symm, h3.symm⟩
                obtain ⟨rfl, rfl⟩ := hP
                go_wp2_with (first | (go_at_call 11; refine (rval_w _ _).mono ?_; rintro e' w' ⟨rfl, rfl⟩; rw [hn]) | (refine wpList_store_row rfl 24 _ _ rfl w7.heap.size (histA S) (histA zeros) 24 rfl rfl F.out.hd (HI.out _ ZL.out) (HS.out _ _ SL.out ZL.out) (H1.out _) ?_))
                go_ret
                exact ⟨rfl, F4.out.bel⟩
              · have HLO := Lib.hid (fun w => rlong_any n hn w)
                have hkk := blen_val hn
                have PU := PUT.out
                unfold putR at PU
                rw [if_neg (by simp [ONE.out]), if_neg (by simp [hn])] at PU
                have c0 := (F4.out.tl.tl.tl.tl.hd.cell (Bt.blen n.toNat)).trans (histA_at a _ (by have := LA.out; omega))
                have f0 := F4.out.tl.tl.tl.tl.hd.frozen (Bt.blen n.toNat)
                obtain ⟨a0, a1⟩ := OKA.out (Bt.blen n.toNat) (by have := LA.out; omega)
                have B0 := F4.out.tl.tl.tl.tl.hd.set_ (Bt.blen n.toNat) (.int .i64 (a.getD (Bt.blen n.toNat) 0 + 1))
                rw [histA_set] at B0
                have BP := F4.out.tl.tl.hd.far (p := ⟨w.heap.size, Bt.blen n.toNat, none⟩) (Ne.symm (Nat.ne_of_lt W1LT.out)) (.int .i64 (a.getD (Bt.blen n.toNat) 0 + 1))
                have HN := Lib.hid hn
                have hkk2 : Bt.blen n.toNat < 26 := by omega
                generalize Bt.blen n.toNat = kk at *
                by_cases hm : a.getD kk 0 = 1073741824
                · rw [if_pos hm] at PU
                  have hP : P = zeros ∧ e1 = 2 := by
                    injection PU with h2 h3
                    exact ⟨h2.symm, h3.symm⟩
                  obtain ⟨rfl, rfl⟩ := hP
                  rw [hm] at c0
                  clear PU B0 BP a0 a1 hm
                  go_wp2_with (first | (go_at_call 11; refine (rval_w _ _).mono ?_; rintro e' w' ⟨rfl, rfl⟩; rw [hn]) | (go_at_call 12; refine (HLO.out _).mono ?_; rintro e' w' ⟨rfl, rfl⟩) | (refine wpList_store_row rfl 24 _ _ rfl w7.heap.size (histA S) (histA zeros) 24 rfl rfl F.out.hd (HI.out _ ZL.out) (HS.out _ _ SL.out ZL.out) (H1.out _) ?_))
                  go_ret
                  exact ⟨rfl, F4.out.bel⟩
                · rw [if_neg hm] at PU
                  have hP : P = a.set kk (a.getD kk 0 + 1) ∧ e1 = 0 := by
                    injection PU with h2 h3
                    exact ⟨h2.symm, h3.symm⟩
                  have hmb : (a.getD kk 0 == 1073741824) = false := by simpa using hm
                  rw [← hP.1] at B0
                  obtain ⟨-, rfl⟩ := hP
                  have BEL := Lib.hid (F4.out.bel.setCell (p := ⟨w.heap.size, kk, none⟩) (Nat.le_refl _) (.int .i64 (a.getD kk 0 + 1)))
                  have l5 := ld B0 PL.out
                  have l6 := ld BP PL.out
                  have q1 := ext26 PL.out
                  have q2 := fun w => eq26 PL.out w
                  clear PU B0 BP hm
                  generalize a.getD kk 0 = xx at *
                  go_wp2_with (first | (go_at_call 11; refine (rval_w _ _).mono ?_; rintro e' w' ⟨rfl, rfl⟩; rw [hn]) | (go_at_call 12; refine (HLO.out _).mono ?_; rintro e' w' ⟨rfl, rfl⟩) | (refine wpList_store_row rfl 24 _ _ rfl w7.heap.size (histA S) (histA zeros) 24 rfl rfl F.out.hd (HI.out _ ZL.out) (HS.out _ _ SL.out ZL.out) (H1.out _) ?_))
                  go_ret
                  exact ⟨rfl, BEL.out⟩
      · have RB := Lib.hid (fun w => rbet_is a LA.out ONE.out num den hp w)
        rw [BET.out] at RB
        clear BET
        go_wp2_with (go_at_call 9; refine (rpart_any _ _ _).mono ?_; rintro e' w' ⟨rfl, rfl⟩; rw [hp])
        refine (RB.out _).mono ?_
        rintro e' w8 ⟨rfl, hb8⟩
        have E8 := Lib.hid (E8.out.below hb8)
        clear hb8 l0 l1 l2 l3
        have l0 := ld E8.out.tl.tl.tl.hd LA.out
        have l1 := ld E8.out.tl.tl.hd LB.out
        have l2 := ld E8.out.tl.hd PL.out
        have l3 := ld E8.out.hd JL.out
        have E9 := Lib.hid (E8.out.layRow (histA zeros) (histA a) 24)
        have EL := Lib.hid (E8.out.lay (histA zeros) 24)
        go_wp2_with (refine wpList_store_row rfl 24 _ _ rfl w8.heap.size (histA zeros) (histA a) 24 rfl rfl EL.out.hd (HI.out _ LA.out) (HS.out _ _ ZL.out LA.out) (H1.out _) ?_)
        clear EL
        go_loopw [19, 120] (fun tv iv wr => ∃ (k : Nat) (t : Int) (S : List Int), k ≤ 26 ∧ iv = .int .i64 k ∧ tv = .int .i64 t ∧ S.length = 26 ∧ (t = 0 → S = Hi.mid a b k ∧ Hi.Fits a b k ∧ histE b = 0) ∧ (t ≠ 0 → joinR a b = (zeros, t)) ∧
            Env w wr [(w8.heap.size, 24, histA S), (w2.heap.size, 24, histA J), (w1.heap.size, 24, histA P), (w.heap.size + 1, 24, histA b), (w.heap.size, 24, histA a)]) (fun _ iv _ => 26 - (intOf iv).toNat)
        case atStart =>
          refine ⟨0, two, a, by omega, rfl, rfl, LA.out, ?_, ?_, by simpa using E9.out⟩
          · intro ht
            refine ⟨(Hi.mid_zero a b).symm, fun j h => by omega, ?_⟩
            exact (two_zero LA.out (TWO.out.trans ht)).2
          · intro ht
            have h2 := two_one LA.out (ONE.out) (by rw [TWO.out]; exact ht)
            unfold joinR
            rw [if_neg (by simp [ONE.out]), if_pos (by rw [h2, TWO.out]; exact ht), h2, TWO.out]
        case round =>
          obtain ⟨k, t, S, hk, rfl, rfl, hSl, ht0, ht1, hE⟩ := hrel
          have F := Lib.hid hE
          have SL := Lib.hid hSl
          have T0 := Lib.hid ht0
          have T1 := Lib.hid ht1
          clear hE hSl ht0 ht1 E9 l0 l1 l2 l3
          by_cases hlt : k < 26
          · by_cases ht : t = 0
            · subst ht
              obtain ⟨g1, g2, g3⟩ := T0.out rfl
              subst g1
              have FIT := Lib.hid g2
              have BZ := Lib.hid g3
              clear g2 g3 T0 T1 SL
              have x0 := (F.out.hd.cell k).trans ((histA_at (Hi.mid a b k) k (by rw [Hi.mid_len, LA.out]; exact hlt)).trans (by rw [Hi.mid_at _ _ _ _ (by have := LA.out; omega), if_neg (Nat.lt_irrefl _)]))
              have y0 := (F.out.tl.tl.tl.hd.cell k).trans (histA_at b k (by have := LB.out; omega))
              have f0 := F.out.hd.frozen k
              obtain ⟨a0, a1⟩ := (OKA.out) k (by have := LA.out; omega)
              obtain ⟨c0, c1⟩ := (ok_of BZ.out) k (by have := LB.out; omega)
              have HFS := Lib.hid (show a.getD k 0 + b.getD k 0 ≤ 1073741824 → Hi.Fits a b (k + 1) from fits_succ FIT.out)
              have HFN := Lib.hid (show ¬ a.getD k 0 + b.getD k 0 ≤ 1073741824 → joinR a b = (zeros, 2) from fun h => by
                unfold joinR; rw [if_neg (by simp [ONE.out]), if_neg (by simp [BZ.out]), if_neg (fits_not hlt (by omega))])
              have HSET := Lib.hid (show (histA (Hi.mid a b k)).setIfInBounds k (.int .i64 (a.getD k 0 + b.getD k 0)) = histA (Hi.mid a b (k + 1)) by
                rw [histA_set, Hi.mid_set _ _ _ (by have := LA.out; omega)])
              have hdis : ∀ x ∈ [(w2.heap.size, 24, histA J), (w1.heap.size, 24, histA P), (w.heap.size + 1, 24, histA b), (w.heap.size, 24, histA a)], x.1 ≠ w8.heap.size := fun x hx => Nat.ne_of_lt (E8.out.2 x hx).2.lt
              have F2 := Lib.hid (F.out.setHd hdis k (.int .i64 (a.getD k 0 + b.getD k 0)))
              have F3 := Lib.hid (show Env w (World.drew _) _ from F2.out.drew)
              rw [HSET.out] at F2 F3
              have hM2 : (Hi.mid a b (k + 1)).length = 26 := by rw [Hi.mid_len, LA.out]
              have ML := Lib.hid hM2
              clear hM2
              have hw8 : w.heap.size + 1 ≠ w8.heap.size := Nat.ne_of_lt E8.out.tl.tl.hd.lt
              clear hdis
              generalize a.getD k 0 = xx at *
              generalize b.getD k 0 = yy at *
              by_cases hm : xx + yy ≤ 1073741824
              · have HFS2 := Lib.hid (HFS.out hm)
                go_wp2_with fail
                go_region
                go_wp2_with fail
                go_roundw
                case rel => exact ⟨k + 1, 0, _, hlt, by simp, rfl, ML.out, fun _ => ⟨rfl, HFS2.out, BZ.out⟩, fun h => absurd rfl h, F3.out⟩
                case measure => simp [intOf]; omega
              · have HR := Lib.hid (HFN.out hm)
                go_wp2_with fail
                go_region
                go_wp2_with fail
                go_roundw
                case rel => exact ⟨k + 1, 2, _, hlt, by simp, rfl, ML.out, fun h => absurd h (by decide), fun _ => HR.out, F3.out⟩
                case measure => simp [intOf]; omega
            · have htb : (t == 0) = false := by simpa using ht
              have TN := Lib.hid ht
              clear ht
              go_wp2_with fail
              go_roundw
              case rel => exact ⟨k + 1, t, S, hlt, by simp, rfl, SL.out, fun h => absurd h TN.out, fun _ => T1.out TN.out, F.out⟩
              case measure => simp [intOf]; omega
          · have hk2 : k = 26 := by omega
            have hk3 : 26 ≤ k := by omega
            by_cases ht : t = 0
            · obtain ⟨g1, g2, g3⟩ := T0.out ht
              subst ht
              have hJ : S = J ∧ e2 = 0 := by
                have h := JOIN.out
                unfold joinR at h
                rw [if_neg (by simp [ONE.out]), if_neg (by simp [g3]), if_pos (by rw [← hk2]; exact g2)] at h
                injection h with h2 h3
                exact ⟨by rw [← h2, g1, hk2], h3.symm⟩
              obtain ⟨rfl, rfl⟩ := hJ
              clear g1 g2 g3 hk2 T0 T1
              have KL := SL
              have l0 := ld F.out.tl.tl.tl.tl.hd LA.out
              have l2 := ld F.out.tl.tl.hd PL.out
              have l3 := ld F.out.tl.hd JL.out
              have l4 := ld F.out.hd KL.out
              have j1 := ext26 JL.out
              have j2 := fun w => eq26 JL.out w
              have z1 := ext26 ZL.out
              have z2 := fun w => eq26 ZL.out w
              have bz := HBZ.out
              cases hn : wi n 0 16777216
              · have hP : P = zeros ∧ e1 = 1 := by
                  have h := PUT.out
                  unfold putR at h
                  rw [if_neg (by simp [ONE.out]), if_pos hn] at h
                  injection h with h2 h3
                  exact ⟨h2.symm, h3.symm⟩
                obtain ⟨rfl, rfl⟩ := hP
                go_wp2_with (first | (go_at_call 11; refine (rval_w _ _).mono ?_; rintro e' w' ⟨rfl, rfl⟩; rw [hn]))
                go_ret
                exact ⟨rfl, F.out.bel⟩
              · have HLO := Lib.hid (fun w => rlong_any n hn w)
                have hkk := blen_val hn
                have PU := PUT.out
                unfold putR at PU
                rw [if_neg (by simp [ONE.out]), if_neg (by simp [hn])] at PU
                have c0 := (F.out.tl.tl.tl.tl.hd.cell (Bt.blen n.toNat)).trans (histA_at a _ (by have := LA.out; omega))
                have f0 := F.out.tl.tl.tl.tl.hd.frozen (Bt.blen n.toNat)
                obtain ⟨a0, a1⟩ := OKA.out (Bt.blen n.toNat) (by have := LA.out; omega)
                have B0 := F.out.tl.tl.tl.tl.hd.set_ (Bt.blen n.toNat) (.int .i64 (a.getD (Bt.blen n.toNat) 0 + 1))
                rw [histA_set] at B0
                have BP := F.out.tl.tl.hd.far (p := ⟨w.heap.size, Bt.blen n.toNat, none⟩) (Ne.symm (Nat.ne_of_lt W1LT.out)) (.int .i64 (a.getD (Bt.blen n.toNat) 0 + 1))
                have HN := Lib.hid hn
                have hkk2 : Bt.blen n.toNat < 26 := by omega
                generalize Bt.blen n.toNat = kk at *
                by_cases hm : a.getD kk 0 = 1073741824
                · rw [if_pos hm] at PU
                  have hP : P = zeros ∧ e1 = 2 := by
                    injection PU with h2 h3
                    exact ⟨h2.symm, h3.symm⟩
                  obtain ⟨rfl, rfl⟩ := hP
                  rw [hm] at c0
                  clear PU B0 BP a0 a1 hm
                  go_wp2_with (first | (go_at_call 11; refine (rval_w _ _).mono ?_; rintro e' w' ⟨rfl, rfl⟩; rw [hn]) | (go_at_call 12; refine (HLO.out _).mono ?_; rintro e' w' ⟨rfl, rfl⟩))
                  go_ret
                  exact ⟨rfl, F.out.bel⟩
                · rw [if_neg hm] at PU
                  have hP : P = a.set kk (a.getD kk 0 + 1) ∧ e1 = 0 := by
                    injection PU with h2 h3
                    exact ⟨h2.symm, h3.symm⟩
                  have hmb : (a.getD kk 0 == 1073741824) = false := by simpa using hm
                  rw [← hP.1] at B0
                  obtain ⟨-, rfl⟩ := hP
                  have BEL := Lib.hid (F.out.bel.setCell (p := ⟨w.heap.size, kk, none⟩) (Nat.le_refl _) (.int .i64 (a.getD kk 0 + 1)))
                  have l5 := ld B0 PL.out
                  have l6 := ld BP PL.out
                  have q1 := ext26 PL.out
                  have q2 := fun w => eq26 PL.out w
                  clear PU B0 BP hm
                  generalize a.getD kk 0 = xx at *
                  go_wp2_with (first | (go_at_call 11; refine (rval_w _ _).mono ?_; rintro e' w' ⟨rfl, rfl⟩; rw [hn]) | (go_at_call 12; refine (HLO.out _).mono ?_; rintro e' w' ⟨rfl, rfl⟩))
                  go_ret
                  exact ⟨rfl, BEL.out⟩
            · have hJ : J = zeros ∧ e2 = t := by
                have h := JOIN.out
                rw [T1.out ht] at h
                injection h with h2 h3
                exact ⟨h2.symm, h3.symm⟩
              obtain ⟨rfl, rfl⟩ := hJ
              have htb : (e2 == 0) = false := by simpa using ht
              clear hk2 T0 T1 ht
              have KL := ZL
              have hdis : ∀ x ∈ [(w2.heap.size, 24, histA zeros), (w1.heap.size, 24, histA P), (w.heap.size + 1, 24, histA b), (w.heap.size, 24, histA a)], x.1 ≠ w8.heap.size := fun x hx => Nat.ne_of_lt (E8.out.2 x hx).2.lt
              have F4 := Lib.hid (F.out.setRow hdis (histA zeros))
              clear hdis
              have l0 := ld F4.out.tl.tl.tl.tl.hd LA.out
              have l2 := ld F4.out.tl.tl.hd PL.out
              have l3 := ld F4.out.tl.hd JL.out
              have l4 := ld F4.out.hd KL.out
              have j1 := ext26 JL.out
              have j2 := fun w => eq26 JL.out w
              have z1 := ext26 ZL.out
              have z2 := fun w => eq26 ZL.out w
              have bz := HBZ.out
              cases hn : wi n 0 16777216
              · have hP : P = zeros ∧ e1 = 1 := by
                  have h := PUT.out
                  unfold putR at h
                  rw [if_neg (by simp [ONE.out]), if_pos hn] at h
                  injection h with h2 h3
                  exact ⟨h2.symm, h3.symm⟩
                obtain ⟨rfl, rfl⟩ := hP
                go_wp2_with (first | (go_at_call 11; refine (rval_w _ _).mono ?_; rintro e' w' ⟨rfl, rfl⟩; rw [hn]) | (refine wpList_store_row rfl 24 _ _ rfl w8.heap.size (histA S) (histA zeros) 24 rfl rfl F.out.hd (HI.out _ ZL.out) (HS.out _ _ SL.out ZL.out) (H1.out _) ?_))
                go_ret
                exact ⟨rfl, F4.out.bel⟩
              · have HLO := Lib.hid (fun w => rlong_any n hn w)
                have hkk := blen_val hn
                have PU := PUT.out
                unfold putR at PU
                rw [if_neg (by simp [ONE.out]), if_neg (by simp [hn])] at PU
                have c0 := (F4.out.tl.tl.tl.tl.hd.cell (Bt.blen n.toNat)).trans (histA_at a _ (by have := LA.out; omega))
                have f0 := F4.out.tl.tl.tl.tl.hd.frozen (Bt.blen n.toNat)
                obtain ⟨a0, a1⟩ := OKA.out (Bt.blen n.toNat) (by have := LA.out; omega)
                have B0 := F4.out.tl.tl.tl.tl.hd.set_ (Bt.blen n.toNat) (.int .i64 (a.getD (Bt.blen n.toNat) 0 + 1))
                rw [histA_set] at B0
                have BP := F4.out.tl.tl.hd.far (p := ⟨w.heap.size, Bt.blen n.toNat, none⟩) (Ne.symm (Nat.ne_of_lt W1LT.out)) (.int .i64 (a.getD (Bt.blen n.toNat) 0 + 1))
                have HN := Lib.hid hn
                have hkk2 : Bt.blen n.toNat < 26 := by omega
                generalize Bt.blen n.toNat = kk at *
                by_cases hm : a.getD kk 0 = 1073741824
                · rw [if_pos hm] at PU
                  have hP : P = zeros ∧ e1 = 2 := by
                    injection PU with h2 h3
                    exact ⟨h2.symm, h3.symm⟩
                  obtain ⟨rfl, rfl⟩ := hP
                  rw [hm] at c0
                  clear PU B0 BP a0 a1 hm
                  go_wp2_with (first | (go_at_call 11; refine (rval_w _ _).mono ?_; rintro e' w' ⟨rfl, rfl⟩; rw [hn]) | (go_at_call 12; refine (HLO.out _).mono ?_; rintro e' w' ⟨rfl, rfl⟩) | (refine wpList_store_row rfl 24 _ _ rfl w8.heap.size (histA S) (histA zeros) 24 rfl rfl F.out.hd (HI.out _ ZL.out) (HS.out _ _ SL.out ZL.out) (H1.out _) ?_))
                  go_ret
                  exact ⟨rfl, F4.out.bel⟩
                · rw [if_neg hm] at PU
                  have hP : P = a.set kk (a.getD kk 0 + 1) ∧ e1 = 0 := by
                    injection PU with h2 h3
                    exact ⟨h2.symm, h3.symm⟩
                  have hmb : (a.getD kk 0 == 1073741824) = false := by simpa using hm
                  rw [← hP.1] at B0
                  obtain ⟨-, rfl⟩ := hP
                  have BEL := Lib.hid (F4.out.bel.setCell (p := ⟨w.heap.size, kk, none⟩) (Nat.le_refl _) (.int .i64 (a.getD kk 0 + 1)))
                  have l5 := ld B0 PL.out
                  have l6 := ld BP PL.out
                  have q1 := ext26 PL.out
                  have q2 := fun w => eq26 PL.out w
                  clear PU B0 BP hm
                  generalize a.getD kk 0 = xx at *
                  go_wp2_with (first | (go_at_call 11; refine (rval_w _ _).mono ?_; rintro e' w' ⟨rfl, rfl⟩; rw [hn]) | (go_at_call 12; refine (HLO.out _).mono ?_; rintro e' w' ⟨rfl, rfl⟩) | (refine wpList_store_row rfl 24 _ _ rfl w8.heap.size (histA S) (histA zeros) 24 rfl rfl F.out.hd (HI.out _ ZL.out) (HS.out _ _ SL.out ZL.out) (H1.out _) ?_))
                  go_ret
                  exact ⟨rfl, BEL.out⟩
    · have hne : (one == 0) = false := by simpa using h1
      have h1' : histE a ≠ 0 := by rw [ONE.out]; exact h1
      have hP : P = zeros ∧ e1 = one := by
        have h := PUT.out
        unfold putR at h
        rw [if_pos h1', ONE.out] at h
        injection h with h2 h3
        exact ⟨h2.symm, h3.symm⟩
      have hJ : J = zeros ∧ e2 = one := by
        have h := JOIN.out
        unfold joinR at h
        rw [if_pos h1', ONE.out] at h
        injection h with h2 h3
        exact ⟨h2.symm, h3.symm⟩
      have hB : x = 0 ∧ y = 0 ∧ e3 = one := by
        have h := BET.out
        unfold betR at h
        rw [if_pos h1', ONE.out] at h
        injection h with h2 h3
        injection h3 with h3 h4
        exact ⟨h2.symm, h3.symm, h4.symm⟩
      obtain ⟨rfl, rfl⟩ := hP
      obtain ⟨rfl, h5⟩ := hJ
      obtain ⟨rfl, rfl, h6⟩ := hB
      subst h5
      subst h6
      clear h1 h1'
      have z1 := ext26 ZL.out
      have z2 := fun w => eq26 ZL.out w
      go_wp2_with fail
      go_ret
      exact ⟨rfl, E8.out.bel⟩
end Go.Proofs.Ytfenbjffjeidmab
