/- hwref.Text, walked. -/
import Derived.Test.YtmgkkbmcdnhdeabDoorDecT
import Derived.Test.YtmgkkbmcdnhdeabDoorRa
import Derived.Test.YtmgkkbmcdnhdeabDoorRbit
import Derived.Test.YtmgkkbmcdnhdeabDoorEqInts
import Derived.Lib.OwnKind
namespace Go.Proofs.YtmgkkbmcdnhdeabDoor
open Go.RowKit Go.Lib
set_option linter.unusedSimpArgs false
set_option linter.unusedVariables false

/-- digits as numbers in memory -/
def ncells (l : List Nat) : List Value := l.map fun (d : Nat) => Value.int .i64 (d : Int)
theorem ncells_at (l : List Nat) (k : Nat) (h : k < l.length) : (ncells l)[k]? = some (.int .i64 ((l.getD k 0 : Nat) : Int)) := by simp [ncells, List.getD, h]
/-- a row of numbers at g, of the call's own -/
def RowG (w : World) (g cap n : Nat) (xs : List Value) : Prop :=
  n ≤ cap ∧ cap ≤ maxLen ∧ ∃ cur, Blk w g 3 cur ∧ cur.size = cap * 1 ∧ cur.toList.take (n * 1) = xs
section
variable {w w' : World} {g cap n : Nat} {xs : List Value}
theorem RowG.of_own {H : Nat} {A : Option Addr} {c : Nat} (h : w.ownsRow H 3 1 (.slice A n c) n xs) (hn : 0 < n) : ∃ g, A = some ⟨g, 0, none⟩ ∧ H ≤ g ∧ g < w.heap.size ∧ RowG w g c n xs := by
  rcases h.2 with ⟨_, h0⟩ | ⟨g, cap, cur, hv, hbg, hg, hnc, hmc, hsz, hx⟩
  · omega
  · injection hv with h1 h2 h3
    subst h1 h3
    exact ⟨g, rfl, hbg, (Array.getElem?_eq_some_iff.1 hg).1, hnc, hmc, cur, hg, hsz, hx⟩
theorem RowG.own {H : Nat} (h : RowG w g cap n xs) (hg : H ≤ g) (hl : xs.length = n) : w.ownsRow H 3 1 (.slice (some ⟨g, 0, none⟩) n cap) n xs := by
  obtain ⟨h1, h2, cur, h3, h4, h5⟩ := h
  exact ⟨by omega, .inr ⟨g, cap, cur, rfl, hg, h3, h1, h2, h4, h5⟩⟩
theorem RowG.cell (h : RowG w g cap n xs) {k : Nat} {v : Value} (hk : k < n) (hv : xs[k]? = some v) : w.cell? ⟨g, k, none⟩ = some v := by
  obtain ⟨h1, h2, cur, h3, h4, h5⟩ := h
  rw [h3.cell k, ← hv, ← h5, List.getElem?_take, if_pos (by omega)]
  simp
theorem RowG.frozen (h : RowG w g cap n xs) (k : Nat) : w.frozen? ⟨g, k, none⟩ = false := by
  obtain ⟨h1, h2, cur, h3, h4, h5⟩ := h
  exact h3.frozen k
theorem RowG.set (h : RowG w g cap n xs) (k : Nat) (v : Value) (hk : k < n) : RowG (w.setCell ⟨g, k, none⟩ v) g cap n (xs.set k v) := by
  obtain ⟨h1, h2, cur, h3, h4, h5⟩ := h
  exact ⟨h1, h2, _, h3.set_ k v, by simpa using h4, by rw [← h5, Array.toList_setIfInBounds, List.take_set]⟩
theorem rows_apart {H H' n' : Nat} {e e' : TypeId} {v v' : Value} {ys : List Value} (h : w.ownsRow H e 1 v n xs) (h' : w.ownsRow H' e' 1 v' n' ys) (hne : e ≠ e') (b : Nat) (hb : v.ownBlock = some b) : v'.ownBlock ≠ some b := by
  intro hb'
  obtain ⟨c, fz, h1⟩ := ownsRow_kind h b hb
  obtain ⟨c', fz', h2⟩ := ownsRow_kind h' b hb'
  rw [h1] at h2
  injection h2 with h2
  injection h2 with _ h3
  exact hne h3
end
theorem ch_slice (d : Nat) (h : d < 10) : (⟨#[48, 49, 50, 51, 52, 53, 54, 55, 56, 57]⟩ : ByteArray).extract d (d + 1) = ⟨#[Dc.ch d]⟩ := by
  match d, h with
  | 0, _ | 1, _ | 2, _ | 3, _ | 4, _ | 5, _ | 6, _ | 7, _ | 8, _ | 9, _ => decide
def dadd (a b : ByteArray) : Sem Value := Op.stringOp .add a b
@[go_sem ↓] theorem dadd_veil (a b : ByteArray) : Op.stringOp .add a b = dadd a b := rfl
theorem dadd_ok {P : Program} (a b : ByteArray) (h : a.size + b.size ≤ 1000000) (w : World) : (dadd a b).run P w = .ok (.string (a ++ b)) w := run_string_add_sum w a b (by omega)
/-- the text of the first digits, the last of them first -/
def rtxt (l : List Nat) : ByteArray := ⟨(l.reverse.map Dc.ch).toArray⟩
theorem rtxt_snoc (l : List Nat) (d : Nat) : rtxt (l ++ [d]) = ⟨#[Dc.ch d]⟩ ++ rtxt l := by
  unfold rtxt
  apply ByteArray.ext
  simp
theorem rtxt_size (l : List Nat) : (rtxt l).size = l.length := by
  show ((l.reverse.map Dc.ch).toArray).size = l.length
  simp

theorem ncells_len (l : List Nat) : (ncells l).length = l.length := by simp [ncells]
theorem ncells_set (l : List Nat) (k d : Nat) : (ncells l).set k (.int .i64 (d : Int)) = ncells (l.set k d) := by simp [ncells, List.map_set]
theorem oneCell_n (l : List Nat) : ∀ u ∈ ncells l, u.oneCell' = true := by
  intro u hu
  obtain ⟨x, _, rfl⟩ := List.mem_map.1 hu
  rfl
theorem reads_onen (w : World) (e : TypeId) (d : Nat) : Reads (w.alloc (.cells #[.int .i64 (d : Int)] e)) (w.heap.size + 1) 1 (some ⟨w.heap.size, 0, none⟩) 1 (ncells [d]) :=
  ⟨rfl, fun _ => ⟨_, rfl, by simp, fun j u hj => by
    match j, hj with
    | 0, hj => simp [ncells] at hj; subst hj; exact (Blk.new w e #[.int .i64 (d : Int)]).cell 0⟩⟩
set_option maxHeartbeats 2000000 in
set_option maxRecDepth 100000 in
theorem rtext_any (n : Nat) (hn : n < 2 ^ 128) (w : World) :
    Calls Tryd.prog 7 #[.agg #[.int .u64 (hiN n), .int .u64 (loN n)]] w fun e w' => e = .returned (.string (Dc.txt n)) ∧ Below w.heap.size w w' := by
  obtain ⟨i0, hi, hz0, hz1, hz2⟩ := info_parts int_info
  have H39 := Dc.digs_39 hn
  have E := Lib.hid (((Env.start w).lay #[.int .u64 (hiN n), .int .u64 (loN n)] 24).lay #[.int .i64 0] 3)
  have HBT := Lib.hid (bits_any n hn)
  have hbv := Bt.val_bits n
  have hbl : (Bt.bits n).length ≤ 128 := by rw [Bt.len_bits]; exact Bt.blen_le hn
  generalize Bt.bits n = l0 at *
  have HBV := Lib.hid hbv
  clear hbv
  go_enter Tryd.func7, Tryd.ntmps7
  go_wp2_with fail
  refine (HBT.out _).mono ?_
  rintro e' w1 ⟨A1, c1, l1, rfl, rfl, hown1, hb1⟩
  have E1 := Lib.hid (E.out.below hb1)
  have O1 := Lib.hid (ownsRow_base hown1 (by simp; omega : w.heap.size ≤ _))
  clear hb1 hown1 HBT
  go_wp2_with fail
  go_loopw [3, 5] (fun v iv wr => ∃ (p : Nat) (ds : List Nat), p ≤ l1.length ∧ iv = .int .i64 ((p : Int) - 1) ∧ ds = Dc.digs (Bt.val (l1.drop p)) ∧ wr.ownsRow w.heap.size 3 1 v ds.length (ncells ds) ∧ wr.ownsRow w.heap.size 4 1 (.slice A1 l1.length c1) l1.length (l1.map Value.bool) ∧ Below w.heap.size w wr) (fun _ iv _ => (RowKit.intOf iv + 1).toNat)
  case atStart =>
    exact ⟨l1.length, [0], Nat.le_refl _, rfl, by rw [List.drop_length]; exact (Dc.digs_small (by decide)).symm, ⟨rfl, .inr ⟨w.heap.size + 1, 1, #[.int .i64 0], rfl, by omega, (show Blk w1 (w.heap.size + 1) 3 #[.int .i64 0] by simpa using E1.out.hd), Nat.le_refl _, by unfold maxLen; omega, rfl, rfl⟩⟩, O1.out, E1.out.bel⟩
  case round =>
    obtain ⟨p, ds, hp, rfl, hds, hown, hO1, hbel⟩ := hrel
    obtain ⟨wo, rfl⟩ : ∃ wo, wo = wr := ⟨_, rfl⟩
    obtain ⟨A2, cap, rfl⟩ := ownsRow_len hown
    have hdn : 1 ≤ ds.length := by rw [hds]; exact Dc.digs_ne _
    have hd9 : ∀ d ∈ ds, d < 10 := by rw [hds]; exact Dc.digs_lt _
    by_cases hp0 : p = 0
    · subst hp0
      have hdn2 : ds = Dc.digs n := by rw [hds, List.drop_zero, HBV.out]
      obtain ⟨g, rfl, hHg, hgl, hrow⟩ := RowG.of_own hown (by omega)
      have HT := Lib.hid (show rtxt ds = Dc.txt n by rw [hdn2]; rfl)
      have d39 : ds.length ≤ 39 := by rw [hdn2]; exact H39
      have HW := Lib.hid hrow
      have BL := Lib.hid hbel
      have HD9 := Lib.hid hd9
      have e0 : ((0 : Nat) : Int) - 1 = -1 := rfl
      rw [e0]
      clear hds hown hO1 hbel hdn2 hrow hd9 hp H39 e0 E E1 O1
      go_wp2_with fail
      go_loopw [9, 53] (fun sv kv wr => ∃ k : Nat, k ≤ ds.length ∧ sv = .string (rtxt (ds.take k)) ∧ kv = .int .i64 (k : Int) ∧ wr = wo) (fun _ kv _ => ds.length - (RowKit.intOf kv).toNat)
      case atStart => exact ⟨0, by omega, by simp [rtxt], rfl, rfl⟩
      case round =>
        obtain ⟨k, hk, rfl, rfl, rfl⟩ := hrel
        by_cases hlt : k < ds.length
        · have hdk : ds.getD k 0 < 10 := by rw [List.getD_eq_getElem?_getD, List.getElem?_eq_getElem hlt]; exact HD9.out _ (List.getElem_mem hlt)
          have hcell := HW.out.cell hlt (ncells_at ds k hlt)
          have hts := Dc.take_succ' ds k hlt
          generalize ds.getD k 0 = d at *
          have hex := ch_slice d hdk
          have hadd := dadd_ok (P := Tryd.prog) ⟨#[Dc.ch d]⟩ (rtxt (ds.take k)) (by rw [rtxt_size, List.length_take]; show 1 + _ ≤ _; omega)
          have HR := Lib.hid (show (⟨#[Dc.ch d]⟩ : ByteArray) ++ rtxt (ds.take k) = rtxt (ds.take (k + 1)) by rw [hts, rtxt_snoc])
          clear hts
          generalize rtxt (ds.take k) = s0 at *
          generalize (⟨#[Dc.ch d]⟩ : ByteArray) = s1 at *
          generalize s1 ++ s0 = s2 at *
          go_wp2
          exact ⟨⟨k + 1, by omega, by rw [HR.out], by simp, by first | rfl | trivial⟩, by simp [RowKit.intOf]; omega⟩
        · obtain rfl : k = ds.length := by omega
          rw [List.take_length, HT.out]
          go_wp2
          go_ret
          exact ⟨rfl, BL.out⟩
    · obtain ⟨i, rfl⟩ : ∃ i, p = i + 1 := ⟨p - 1, by omega⟩
      have ei : ((i + 1 : Nat) : Int) - 1 = (i : Int) := by omega
      rw [ei]
      obtain ⟨g, rfl, hHg, hgl, hrow⟩ := RowG.of_own hown (by omega)
      have hstep := Bt.val_drop l1 i
      have hbit := Bt.bit_le l1 i
      have HO := Lib.hid hO1
      have HW := Lib.hid hrow
      have BL := Lib.hid hbel
      have hdd := Dc.dbl_digs (Bt.val (l1.drop (i + 1))) (Bt.bit l1 i) hbit
      rw [← hds, show 2 * Bt.val (l1.drop (i + 1)) + Bt.bit l1 i = Bt.val (l1.drop i) by omega] at hdd
      have HBI := Lib.hid (show ∀ w', Reads w' w'.heap.size 1 A1 l1.length (l1.map Value.bool) → Calls Tryd.prog 18 #[.slice A1 l1.length c1, .int .i64 (i : Int)] w' fun e w'' => e = .returned (.int .i64 (Bt.bit l1 i)) ∧ w' = w'' from fun w' h => bit_any A1 l1 c1 w'.heap.size w' h (i : Int) (by omega))
      have DD := Lib.hid hdd
      have DS := Lib.hid hds
      have HD9 := Lib.hid hd9
      have hgw : w.heap.size ≤ g := hHg
      generalize hb0 : Bt.bit l1 i = b0 at *
      clear hb0 hO1 hrow hbel hown hdd hds hstep ei hd9
      have dlen : ds.length ≤ 39 := by rw [DS.out]; exact Dc.digs_39 (Nat.lt_of_lt_of_le (Bt.val_lt _) (Nat.pow_le_pow_right (by decide) (by rw [List.length_drop]; omega)))
      go_wp2_with fail
      refine (HBI.out _ (Reads.of_own HO.out)).mono ?_
      rintro e' w' ⟨rfl, rfl⟩
      go_wp2_with fail
      go_loopw [6, 27] (fun cv kv wr => ∃ k : Nat, k ≤ ds.length ∧ cv = .int .i64 (((Dc.dbl b0 (ds.take k)).2 : Nat) : Int) ∧ kv = .int .i64 (k : Int) ∧ RowG wr g cap ds.length (ncells (Dc.half b0 ds k)) ∧ wr.ownsRow w.heap.size 4 1 (.slice A1 l1.length c1) l1.length (l1.map Value.bool) ∧ Below w.heap.size w wr) (fun _ kv _ => ds.length - (RowKit.intOf kv).toNat)
      case atStart => exact ⟨0, by omega, by simp [Dc.dbl], rfl, by rw [Dc.half_zero]; exact HW.out, HO.out, BL.out⟩
      case round =>
        obtain ⟨k, hk, rfl, rfl, hR, hO, hB⟩ := hrel
        by_cases hlt : k < ds.length
        · have hc1 := Dc.dbl_carry b0 (ds.take k) hbit fun d hd => HD9.out d (List.mem_of_mem_take hd)
          have hcs := Dc.carry_step b0 ds k hlt
          have hhs := Dc.half_step b0 ds k hlt
          have hdk : ds.getD k 0 < 10 := by rw [List.getD_eq_getElem?_getD, List.getElem?_eq_getElem hlt]; exact HD9.out _ (List.getElem_mem hlt)
          have hcell := hR.cell hlt (by rw [ncells_at _ _ (by rw [Dc.half_len _ _ _ hk]; exact hlt), Dc.half_at _ _ _ hlt])
          have hfr := hR.frozen k
          generalize ds.getD k 0 = d at *
          generalize (Dc.dbl b0 (ds.take k)).2 = cc at *
          have RR := Lib.hid hR
          have OO := Lib.hid hO
          have BB := Lib.hid hB
          have CS := Lib.hid hcs
          have HS := Lib.hid hhs
          clear hR hO hB hcs hhs
          obtain ⟨m2, hm2⟩ : ∃ m2, 2 * d + cc = m2 := ⟨_, rfl⟩
          rw [hm2] at CS HS
          have em : 2 * (d : Int) + (cc : Int) = (m2 : Int) := by omega
          clear hm2
          go_wp2
          exact ⟨⟨k + 1, by omega, by rw [CS.out]; simp, by simp, by rw [HS.out, ← ncells_set]; simpa using RR.out.set k (.int .i64 (((m2 % 10 : Nat)) : Int)) hlt,
            ownsRow_setCell_other OO.out (a := ⟨g, k, none⟩) (rows_apart (RR.out.own hgw (by rw [ncells_len, Dc.half_len _ _ _ hk])) OO.out (by decide) g rfl) _, BB.out.setCell hgw _⟩, by simp [RowKit.intOf]; omega⟩
        · obtain rfl : k = ds.length := by omega
          rw [Dc.half_full] at hR
          rw [List.take_length]
          have hcc := Dc.dbl_carry b0 ds hbit HD9.out
          have hl := Dc.dbl_len b0 ds
          have DDv := DD.out
          generalize (Dc.dbl b0 ds).1 = ds1 at *
          generalize (Dc.dbl b0 ds).2 = cc at *
          have hown := hR.own hgw (by rw [ncells_len, hl])
          rw [← hl] at hown
          by_cases hc0 : cc = 0
          · subst hc0
            have he : ds1 = Dc.digs (Bt.val (l1.drop i)) := by rw [← DDv]; simp [Dc.tail1]
            have EE := Lib.hid he
            have OO := Lib.hid hO
            have BB := Lib.hid hB
            have WW := Lib.hid hown
            clear hO hB hown hR DDv he
            rw [hl] at WW
            go_wp2
            exact ⟨⟨i, ds1, by omega, rfl, EE.out, by rw [hl]; exact WW.out, OO.out, BB.out⟩, by simp [RowKit.intOf]⟩
          · have he : ds1 ++ [cc] = Dc.digs (Bt.val (l1.drop i)) := by rw [← DDv]; simp [Dc.tail1, show 0 < cc by omega]
            have hne := rows_apart hown hO (by decide) g rfl
            have EE := Lib.hid he
            have OO := Lib.hid hO
            have BB := Lib.hid hB
            have WW := Lib.hid hown
            clear hO hB hown hR DDv he
            rw [hl] at WW
            have hcp : 0 < (cc : Int) := by omega
            go_wp2_with (at_builtin; refine wpList_append_any _ rfl _ _ 42 rfl w.heap.size 3 i0 (.int .i64 0) 1 8 Tryd.underlying42 hi hz0 hz1 hz2 rfl (by decide) _ _ _ rfl (WW.out.alloc _) _ _ 1 _ _ rfl (reads_onen _ _ cc) (oneCell_n [cc]) ?c1 ?c2 ?c3 ?_)
            case c1 => unfold maxLen; omega
            case c2 => omega
            case c3 => have := BB.out.size; simp; omega
            intro v3 w3 ho3 hg3 hn3
            obtain ⟨A3, c3, rfl⟩ := ownsRow_len ho3
            have O3 := Lib.hid ((OO.out.alloc _).kept hg3 (.inr hne))
            have B3 := Lib.hid ((BB.out.alloc BB.out.size _).grown hg3 (by have := BB.out.size; simp; omega) (fun k hk => (WW.out.lt k hk).1))
            have W3 := Lib.hid ho3
            clear ho3 hg3 hn3
            go_wp2
            exact ⟨⟨i, ds1 ++ [cc], by omega, rfl, EE.out, by simpa [ncells, hl] using W3.out, O3.out, B3.out⟩, by simp [RowKit.intOf]⟩
end Go.Proofs.YtmgkkbmcdnhdeabDoor
