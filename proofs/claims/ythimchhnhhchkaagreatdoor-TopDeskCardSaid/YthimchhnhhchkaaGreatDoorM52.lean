/- TopDesk, plainly: the script, its lines, what is wanted. (with what it needs) -/
import Derived.Test.YthimchhnhhchkaaGreatDoorM39
import Derived.Test.YthimchhnhhchkaaGreatDoorM51
import Derived.Test.YthimchhnhhchkaaGreatDoorM09
import Derived.Test.YthimchhnhhchkaaGreatDoorM41
import Derived.Test.YthimchhnhhchkaaGreatDoorM04
namespace Go.Proofs.YthimchhnhhchkaaGreatDoor
open Go.RowKit Go.Lib
set_option linter.unusedSimpArgs false
set_option linter.unusedVariables false

def dkIn0 : ByteArray := ⟨#[110, 111, 100, 101, 32, 97, 32, 49, 48, 32, 52, 32, 49, 10, 110, 111, 100, 101, 32, 98, 32, 49, 48, 32, 52, 32, 49, 10, 115, 116, 97, 114, 116, 10, 106, 111, 105, 110, 32, 48, 32, 98, 32, 51, 10]⟩
def dkT1 : ByteArray := ⟨#[116, 105, 99, 107, 32, 49, 48, 10, 98, 114, 105, 110, 103, 32]⟩
def dkT2 : ByteArray := ⟨#[32, 48, 10, 97, 115, 107, 32, 48, 32, 98, 10]⟩
def dkT3 : ByteArray := ⟨#[98, 114, 105, 110, 103, 32, 49, 32, 48, 10, 98, 114, 105, 110, 103, 32, 48, 32, 48, 10, 115, 116, 111, 112, 32, 49, 10, 116, 105, 99, 107, 32, 49, 48, 10, 97, 115, 107, 32, 48, 32, 98, 10, 116, 105, 99, 107, 32, 53, 10, 119, 97, 121, 10, 115, 116, 111, 112, 32, 49, 10]⟩
def dkW0 : ByteArray := ⟨#[111, 107, 10, 111, 107, 10, 111, 107, 10, 111, 107, 10]⟩
def dkW1 : ByteArray := ⟨#[111, 107, 10, 111, 107, 10, 111, 107, 32, 48, 10]⟩
def dkW2 : ByteArray := ⟨#[101, 114, 114, 111, 114, 32, 53, 10, 101, 114, 114, 111, 114, 32, 52, 10, 111, 107, 10, 111, 107, 10, 111, 107, 32, 48, 10, 111, 107, 32, 43, 98, 58, 51, 10, 111, 107, 32]⟩
def dkW3 : ByteArray := ⟨#[10, 101, 114, 114, 111, 114, 32, 52, 10]⟩
/-- the script and what is wanted, after so many rounds -/
def dkInK : Nat → ByteArray
  | 0 => dkIn0
  | k + 1 => dkInK k ++ ((dkT1 ++ numT (2 * k + 1)) ++ dkT2)
def dkWK : Nat → ByteArray
  | 0 => dkW0
  | k + 1 => dkWK k ++ dkW1
def dkIn (n : Nat) : ByteArray := dkInK n ++ dkT3
def dkW (n : Nat) : ByteArray := dkWK n ++ ((dkW2 ++ numT (2 * n + 1)) ++ dkW3)
def lnNodeA : ByteArray := ⟨#[110, 111, 100, 101, 32, 97, 32, 49, 48, 32, 52, 32, 49]⟩
def lnNodeB : ByteArray := ⟨#[110, 111, 100, 101, 32, 98, 32, 49, 48, 32, 52, 32, 49]⟩
def lnStart : ByteArray := ⟨#[115, 116, 97, 114, 116]⟩
def lnJoin : ByteArray := ⟨#[106, 111, 105, 110, 32, 48, 32, 98, 32, 51]⟩
def lnTick10 : ByteArray := ⟨#[116, 105, 99, 107, 32, 49, 48]⟩
def lnTick5 : ByteArray := ⟨#[116, 105, 99, 107, 32, 53]⟩
def lnAsk : ByteArray := ⟨#[97, 115, 107, 32, 48, 32, 98]⟩
def lnStop : ByteArray := ⟨#[115, 116, 111, 112, 32, 49]⟩
def lnWay : ByteArray := ⟨#[119, 97, 121]⟩
def lnBr1 : ByteArray := ⟨#[98, 114, 105, 110, 103, 32, 49, 32, 48]⟩
def lnBr0 : ByteArray := ⟨#[98, 114, 105, 110, 103, 32, 48, 32, 48]⟩
def lnBring (i : Nat) : ByteArray := (⟨#[98, 114, 105, 110, 103, 32]⟩ ++ numT (2 * i + 1)) ++ ⟨#[32, 48]⟩
def dkRdL (i : Nat) : Nat → List ByteArray → List ByteArray
  | 0, r => r
  | k + 1, r => lnTick10 :: lnBring i :: lnAsk :: dkRdL (i + 1) k r
def dkEndL : List ByteArray := [lnBr1, lnBr0, lnStop, lnTick10, lnAsk, lnTick5, lnWay, lnStop]
def dkLines (n : Nat) : List ByteArray := lnNodeA :: lnNodeB :: lnStart :: lnJoin :: dkRdL 0 n dkEndL
def sayB (o : ByteArray) (r : List UInt8) : List UInt8 := o.data.toList ++ 10 :: r
def okB : ByteArray := ⟨#[111, 107]⟩
def dkRdO : Nat → List UInt8 → List UInt8
  | 0, r => r
  | k + 1, r => sayB okB (sayB okB (sayB (toldT [0]) (dkRdO k r)))
def dkEndO (n : Nat) : List UInt8 := sayB (errT 5) (sayB (errT 4) (sayB okB (sayB okB (sayB (toldT [0]) (sayB (notesT [(dkB, 3, true)]) (sayB (toldT [2 * n + 1]) (sayB (errT 4) [])))))))
def dkO (n : Nat) : List UInt8 := sayB okB (sayB okB (sayB okB (sayB okB (dkRdO n (dkEndO n)))))
set_option maxRecDepth 100000 in
theorem dk_split : ∀ m : Fin 5, Lib.splitB ⟨#[10]⟩ 0 (Lib.countB (dkIn (m.val + 1)) ⟨#[10]⟩) (dkIn (m.val + 1)) = dkLines (m.val + 1) ++ [ByteArray.empty] := fun m => by
  rw [spl_eq]
  revert m
  decide +kernel
set_option maxRecDepth 100000 in
theorem dk_out : ∀ m : Fin 5, (⟨(dkO (m.val + 1)).toArray⟩ : ByteArray) = dkW (m.val + 1) := by decide +kernel
theorem dk_sizes : ∀ m : Fin 5, (dkIn (m.val + 1)).size ≤ 65536 ∧ (dkLines (m.val + 1)).length ≤ 200 ∧ (dkO (m.val + 1)).length ≤ 100000000 ∧ ∀ x ∈ dkLines (m.val + 1), x.size ≤ 65536 := by decide +kernel
theorem dk_words : wordsOf lnNodeA = [⟨#[110, 111, 100, 101]⟩, dkA, numT 10, numT 4, numT 1] ∧ wordsOf lnNodeB = [⟨#[110, 111, 100, 101]⟩, dkB, numT 10, numT 4, numT 1] ∧ wordsOf lnStart = [⟨#[115, 116, 97, 114, 116]⟩] ∧ wordsOf lnJoin = [⟨#[106, 111, 105, 110]⟩, numT 0, dkB, numT 3] ∧ wordsOf lnTick10 = [⟨#[116, 105, 99, 107]⟩, numT 10] ∧ wordsOf lnTick5 = [⟨#[116, 105, 99, 107]⟩, numT 5] ∧ wordsOf lnAsk = [⟨#[97, 115, 107]⟩, numT 0, dkB] ∧ wordsOf lnStop = [⟨#[115, 116, 111, 112]⟩, numT 1] ∧ wordsOf lnWay = [⟨#[119, 97, 121]⟩] ∧ wordsOf lnBr1 = [⟨#[98, 114, 105, 110, 103]⟩, numT 1, numT 0] ∧ wordsOf lnBr0 = [⟨#[98, 114, 105, 110, 103]⟩, numT 0, numT 0] := by
  simp only [wordsOf, pieces, spl_eq]
  decide +kernel
theorem dk_wordsB : ∀ i : Fin 5, wordsOf (lnBring i.val) = [⟨#[98, 114, 105, 110, 103]⟩, numT (2 * i.val + 1), numT 0] := fun i => by
  simp only [wordsOf, pieces, spl_eq]
  revert i
  decide +kernel
end Go.Proofs.YthimchhnhhchkaaGreatDoor

namespace Go.Proofs.YthimchhnhhchkaaGreatDoor
open Go.RowKit Go.Lib
set_option linter.unusedSimpArgs false
set_option linter.unusedVariables false

theorem LineOk.cong {s s' s2 : DSt} {l : List ByteArray} {o o2 : ByteArray} (h : LineOk s l o s') (ho : o = o2) (hs : s' = s2) : LineOk s l o2 s2 := by
  subst ho hs
  exact h
theorem ansT_ok {er : Int} (h : er = 0) (o : ByteArray) : ansT er o = o := by unfold ansT; rw [if_pos h]
theorem ansT_no {er : Int} (h : er ≠ 0) (o : ByteArray) : ansT er o = errT er.toNat := by unfold ansT; rw [if_neg h]
theorem ok_bd {er : Int} (h : er = 0) : 0 ≤ er ∧ er < 100 := by omega
def dkL1 : List CfgD := [(dkA, 0, 10, 4, 1)]
def dkL2 : List CfgD := [(dkA, 0, 10, 4, 1), (dkB, 0, 10, 4, 1)]
theorem w10 : NumW (numT 10) 10 := numW_small (k := 10) (by decide)
theorem w5 : NumW (numT 5) 5 := numW_small (k := 5) (by decide)
theorem w4 : NumW (numT 4) 4 := numW_small (k := 4) (by decide)
theorem w3 : NumW (numT 3) 3 := numW_small (k := 3) (by decide)
theorem w1 : NumW (numT 1) 1 := numW_small (k := 1) (by decide)
theorem w0 : NumW (numT 0) 0 := numW_small (k := 0) (by decide)
theorem dk_lnA : LineOk ⟨none, []⟩ [⟨#[110, 111, 100, 101]⟩, dkA, numT 10, numT 4, numT 1] okB ⟨none, dkL1⟩ := by
  have e : (DSt.mk none []).nodeE (dkA, 0, 10, 4, 1) = 0 := dk_start.1
  exact (line_node w10 w4 w1 (by decide) (ok_bd e)).cong (ansT_ok e _) (by unfold DSt.noded; rw [if_pos e]; rfl)
theorem dk_lnB : LineOk ⟨none, dkL1⟩ [⟨#[110, 111, 100, 101]⟩, dkB, numT 10, numT 4, numT 1] okB ⟨none, dkL2⟩ := by
  have e : (DSt.mk none dkL1).nodeE (dkB, 0, 10, 4, 1) = 0 := dk_start.2.1
  exact (line_node w10 w4 w1 (by decide) (ok_bd e)).cong (ansT_ok e _) (by unfold DSt.noded; rw [if_pos e]; rfl)
theorem dk_lnS : LineOk ⟨none, dkL2⟩ [⟨#[115, 116, 97, 114, 116]⟩] okB ⟨some dk0, dkL2⟩ := by
  have e : (DSt.mk none dkL2).startE = 0 := dk_start.2.1
  exact (line_start (ok_bd e)).cong (ansT_ok e _) (by unfold DSt.started; rw [if_pos e]; rfl)
theorem dk_lnJ : LineOk ⟨some dk0, dkL2⟩ [⟨#[106, 111, 105, 110]⟩, numT 0, dkB, numT 3] okB ⟨some dk1, dkL2⟩ := by
  have e := dk_start.2.2.1
  have n := dk_start.2.2.2
  exact (line_join w0 w3 (out := okB) (by rw [e, n]; exact sayN_ok (by decide) (by simp)) (ok_bd e)).cong (ansT_ok e _) rfl
/-- ask 0 b, where the level is 0 -/
theorem dk_lnK {t : TSt} (h1 : t.lives 0 = true) (h2 : dkLv t = 0) (h3 : lvEr (t.at 0).D dkB = 0) : LineOk ⟨some t, dkL2⟩ [⟨#[97, 115, 107]⟩, numT 0, dkB] (toldT [0]) ⟨some t, dkL2⟩ := by
  have e : t.lvE 0 dkB = 0 := by unfold TSt.lvE; rw [if_pos h1, h3]
  have v : t.lvV 0 dkB = 0 := by unfold TSt.lvV; rw [if_pos h1]; exact h2
  exact (line_ask w0 (out := toldT [0]) (by rw [e, v]; exact sayO_ok (k := 0) (by decide)) (ok_bd e)).cong (ansT_ok e _) rfl
theorem dk_tick {t : TSt} {g : Int} {x : ByteArray} (hx : NumW x g) (e : t.tickE g = 0) (n : t.tickN g = []) : LineOk ⟨some t, dkL2⟩ [⟨#[116, 105, 99, 107]⟩, x] okB ⟨some (t.ticked g), dkL2⟩ :=
  (line_tick hx (out := okB) (by rw [e, n]; exact sayN_ok (by decide) (by simp)) (ok_bd e)).cong (ansT_ok e _) rfl
theorem dk_bring {t : TSt} {i j : Int} {x y : ByteArray} (hx : NumW x i) (hy : NumW y j) (e : t.bringE i j = 0) (n : t.bringN i j = []) : LineOk ⟨some t, dkL2⟩ [⟨#[98, 114, 105, 110, 103]⟩, x, y] okB ⟨some (t.brought i j), dkL2⟩ :=
  (line_bring hx hy (out := okB) (by rw [e, n]; exact sayN_ok (by decide) (by simp)) (ok_bd e)).cong (ansT_ok e _) rfl
theorem dk_bringE {t : TSt} {i j : Int} {x y : ByteArray} {k : Nat} (hx : NumW x i) (hy : NumW y j) (e : t.bringE i j = k) (h0 : k ≠ 0) (h1 : k < 100) : LineOk ⟨some t, dkL2⟩ [⟨#[98, 114, 105, 110, 103]⟩, x, y] (errT k) ⟨some (t.brought i j), dkL2⟩ :=
  have hz : t.bringE i j ≠ 0 := by rw [e]; omega
  (line_bring hx hy (out := okB) (sayN_no hz _) (by rw [e]; omega)).cong (by rw [ansT_no hz, e]; rfl) rfl
theorem dk_stop {t : TSt} {i : Int} {x : ByteArray} (hx : NumW x i) (e : t.stopE i = 0) : LineOk ⟨some t, dkL2⟩ [⟨#[115, 116, 111, 112]⟩, x] okB ⟨some (t.stopped i), dkL2⟩ :=
  (line_stop hx (ok_bd e)).cong (ansT_ok e _) rfl
theorem dk_stopE {t : TSt} {i : Int} {x : ByteArray} {k : Nat} (hx : NumW x i) (e : t.stopE i = k) (h0 : k ≠ 0) (h1 : k < 100) : LineOk ⟨some t, dkL2⟩ [⟨#[115, 116, 111, 112]⟩, x] (errT k) ⟨some (t.stopped i), dkL2⟩ :=
  have hz : t.stopE i ≠ 0 := by rw [e]; omega
  (line_stop hx (by rw [e]; omega)).cong (by rw [ansT_no hz, e]; rfl) rfl
theorem dk_way {t : TSt} {k : Nat} (e : t.way.length = k) (hk : k < 100) : LineOk ⟨some t, dkL2⟩ [⟨#[119, 97, 121]⟩] (toldT [k]) ⟨some t, dkL2⟩ :=
  (line_way (out := toldT [k]) (by rw [e]; exact sayT_ok [k] (by simp) (by intro j hj; rcases List.mem_singleton.1 hj with rfl; exact hk)) (by omega)).cong (ansT_ok rfl _) rfl
theorem dk_rd : ∀ (k i : Nat), i + k ≤ 5 → ∀ r o, Plays ⟨some (dkAt (i + k)), dkL2⟩ r o → Plays ⟨some (dkAt i), dkL2⟩ (dkRdL i k r) (dkRdO k o)
  | 0, i, _, r, o, h => h
  | k + 1, i, hi, r, o, h => by
    obtain ⟨a1, a2, a3, a4, a5, a6, a7⟩ := dk_rounds ⟨i, by omega⟩
    have ih := dk_rd k (i + 1) (by omega) r o (by rw [show i + 1 + k = i + (k + 1) by omega]; exact h)
    have hw := numW_small (k := 2 * i + 1) (by omega)
    have ew : ((2 * i + 1 : Nat) : Int) = 2 * (i : Int) + 1 := by omega
    rw [ew] at hw
    exact .say dk_words.2.2.2.2.1 (by decide +kernel) (dk_tick w10 a1 a2) (.say (dk_wordsB ⟨i, by omega⟩) (by decide +kernel) (dk_bring hw w0 a3 a4) (.say dk_words.2.2.2.2.2.2.1 (by decide +kernel) (dk_lnK a7 a5 a6) ih))
theorem dk_fin (m : Fin 5) : Plays ⟨some (dkAt (m.val + 1)), dkL2⟩ dkEndL (dkEndO (m.val + 1)) := by
  obtain ⟨a1, a2, a3, a4, a5, a6, a7, a8, a9, b1, b2, b3⟩ := dk_end m
  obtain ⟨u1, u2, u3, u4, u5, u6, u7, u8, u9, v1, v2⟩ := dk_words
  refine .say v1 (by decide +kernel) (dk_bringE w1 w0 a1 (by decide) (by decide)) (.say v2 (by decide +kernel) (dk_bringE w0 w0 a2 (by decide) (by decide)) (.say u8 (by decide +kernel) (dk_stop w1 a3) (.say u5 (by decide +kernel) (dk_tick w10 a4 a5) (.say u7 (by decide +kernel) (dk_lnK a6 a7 a8) (.say u6 (by decide +kernel) ?_ (.say u9 (by decide +kernel) (dk_way b2 (by omega)) (.say u8 (by decide +kernel) (dk_stopE w1 b3 (by decide) (by decide)) (.done _))))))))
  exact (line_tick w5 (out := notesT [(dkB, 3, true)]) (by rw [a9, b1]; exact sayN_ok (by decide) (by intro p hp; rcases List.mem_singleton.1 hp with rfl; exact ⟨by decide, by decide, by decide⟩)) (ok_bd a9)).cong (ansT_ok a9 _) rfl
theorem dk_plays (m : Fin 5) : Plays ⟨none, []⟩ (dkLines (m.val + 1)) (dkO (m.val + 1)) := by
  obtain ⟨u1, u2, u3, u4, u5, u6, u7, u8, u9, v1, v2⟩ := dk_words
  refine .say u1 (by decide +kernel) dk_lnA (.say u2 (by decide +kernel) dk_lnB (.say u3 (by decide +kernel) dk_lnS (.say u4 (by decide +kernel) dk_lnJ ?_)))
  have h := dk_rd (m.val + 1) 0 (by omega) dkEndL (dkEndO (m.val + 1)) (by rw [Nat.zero_add]; exact dk_fin m)
  exact h
end Go.Proofs.YthimchhnhhchkaaGreatDoor

namespace Go.Proofs.YthimchhnhhchkaaGreatDoor
open Go.RowKit Go.Lib
set_option linter.unusedSimpArgs false
set_option linter.unusedVariables false

theorem rdec_small (k : Nat) (hk : k < 100) (w : World) : Calls Tryz.prog 5 #[.int .i64 (k : Int)] w fun e w' => e = .returned (.string (numT k)) ∧ w = w' := by
  by_cases h : k < 10
  · exact rdec_one k h w
  · exact rdec_two k hk (by omega) w
theorem dk_insz : ∀ j : Fin 6, (dkInK j.val).size ≤ 1000 ∧ (dkWK j.val).size ≤ 1000 ∧ (dkT1 ++ numT (2 * j.val + 1)).size ≤ 100 ∧ (numT (2 * j.val + 1)).size ≤ 12 ∧ ((dkT1 ++ numT (2 * j.val + 1)) ++ dkT2).size ≤ 100 ∧ (dkW2 ++ numT (2 * j.val + 1)).size ≤ 100 ∧ ((dkW2 ++ numT (2 * j.val + 1)) ++ dkW3).size ≤ 100 := by decide +kernel
theorem dk_csz : dkT1.size ≤ 100 ∧ dkT2.size ≤ 100 ∧ dkT3.size ≤ 100 ∧ dkW1.size ≤ 100 ∧ dkW2.size ≤ 100 ∧ dkW3.size ≤ 100 := by decide +kernel
set_option maxHeartbeats 1000000 in
set_option maxRecDepth 100000 in
theorem topDesk_walk (a : Int) (h0 : -9223372036854775808 ≤ a) (h1 : a ≤ 9223372036854775807) (m : Int) (w : World) (hm : w.cell? ⟨0, 0, none⟩ = some (.int .i64 m)) :
    Calls Tryz.prog 3 #[.int .i64 a] w fun e w' => e = .returned (.bool true) ∧ Below w.heap.size w w' := by
  have HK := Lib.hid (kwithin_any a 5 (by decide) (by decide) w)
  obtain ⟨b0, b1⟩ := wthn_bd a (n := 5) (by decide)
  generalize wthn a 5 = z at *
  obtain ⟨y, rfl⟩ : ∃ y : Nat, z = (y : Int) := ⟨z.toNat, by omega⟩
  obtain ⟨n, hn⟩ : ∃ n : Nat, n = y + 1 := ⟨_, rfl⟩
  have hn5 : n ≤ 5 := by omega
  have hn1 : 1 ≤ n := by omega
  have ez : 1 + (y : Int) = (n : Int) := by omega
  have HM := Lib.hid hm
  have hw0 : 0 < w.heap.size := World.block_lt_of_cell? w ⟨0, 0, none⟩ hm
  have HB := Lib.hid (begun_true)
  clear hm h0 h1 hn
  go_enter Tryz.func3, Tryz.ntmps3
  go_wp2_with fail
  refine HK.out.mono ?_
  rintro e' w1 ⟨rfl, rfl⟩
  go_wp2_with fail
  go_loopw [3, 4, 10] (fun uv vv iv wr => ∃ j : Nat, j ≤ n ∧ iv = .int .i64 (j : Int) ∧ uv = .string (dkInK j) ∧ vv = .string (dkWK j) ∧ Hid (w = wr)) (fun _ _ iv _ => n - (RowKit.intOf iv).toNat)
  case atStart => exact ⟨0, Nat.zero_le _, rfl, rfl, rfl, Lib.hid rfl⟩
  case round =>
    obtain ⟨j, hj, rfl, rfl, rfl, hwr⟩ := hrel
    obtain rfl := hwr.out
    clear hwr
    by_cases hlt : j < n
    · obtain ⟨z1, z2, z3, z4, z5, z6, z7⟩ := dk_insz ⟨j, by omega⟩
      obtain ⟨y1, y2, y3, y4, y5, y6⟩ := dk_csz
      simp only at z1 z2 z3 z4 z5 z6 z7
      have HDJ := Lib.hid (rdec_small (2 * j + 1) (by omega) w)
      have ej : ((2 * j + 1 : Nat) : Int) = 2 * (j : Int) + 1 := by omega
      rw [ej] at HDJ
      have hA1 := sadd_ok (P := Tryz.prog) dkT1 (numT (2 * j + 1)) (by omega)
      have hA2 := sadd_ok (P := Tryz.prog) (dkT1 ++ numT (2 * j + 1)) dkT2 (by omega)
      have hA3 := sadd_ok (P := Tryz.prog) (dkInK j) ((dkT1 ++ numT (2 * j + 1)) ++ dkT2) (by omega)
      have hA4 := sadd_ok (P := Tryz.prog) (dkWK j) dkW1 (by omega)
      have HI := Lib.hid (show dkInK (j + 1) = dkInK j ++ ((dkT1 ++ numT (2 * j + 1)) ++ dkT2) from rfl)
      have HW := Lib.hid (show dkWK (j + 1) = dkWK j ++ dkW1 from rfl)
      clear z1 z2 z3 z4 z5 z6 z7 y1 y2 y3 y4 y5 y6 ej
      generalize dkInK j = i1 at *
      generalize dkWK j = v1 at *
      generalize numT (2 * j + 1) = nt at *
      simp only [dkT1, dkT2, dkW1] at hA1 hA2 hA3 hA4 HI HW
      go_wp2_with fail
      refine HDJ.out.mono ?_
      rintro e' w2 ⟨rfl, rfl⟩
      go_wp2
      exact ⟨⟨j + 1, by omega, by simp, by rw [HI.out], by rw [HW.out], Lib.hid trivial⟩, by simp [RowKit.intOf]; omega⟩
    · obtain rfl : j = n := by omega
      obtain ⟨z1, z2, z3, z4, z5, z6, z7⟩ := dk_insz ⟨j, by omega⟩
      obtain ⟨y1, y2, y3, y4, y5, y6⟩ := dk_csz
      simp only at z1 z2 z3 z4 z5 z6 z7
      have HDJ := Lib.hid (rdec_small (2 * j + 1) (by omega) w)
      have ej : ((2 * j + 1 : Nat) : Int) = 2 * (j : Int) + 1 := by omega
      rw [ej] at HDJ
      have hA1 := sadd_ok (P := Tryz.prog) (dkInK j) dkT3 (by omega)
      have hA2 := sadd_ok (P := Tryz.prog) dkW2 (numT (2 * j + 1)) (by omega)
      have hA3 := sadd_ok (P := Tryz.prog) (dkW2 ++ numT (2 * j + 1)) dkW3 (by omega)
      have hA4 := sadd_ok (P := Tryz.prog) (dkWK j) ((dkW2 ++ numT (2 * j + 1)) ++ dkW3) (by omega)
      have HI := Lib.hid (show dkIn j = dkInK j ++ dkT3 from rfl)
      have HW := Lib.hid (show dkW j = dkWK j ++ ((dkW2 ++ numT (2 * j + 1)) ++ dkW3) from rfl)
      have hj1 : j - 1 < 5 := by omega
      have ej1 : j - 1 + 1 = j := by omega
      have HS := Lib.hid (dk_split ⟨j - 1, hj1⟩)
      have HO := Lib.hid (dk_out ⟨j - 1, hj1⟩)
      have HZ := Lib.hid (dk_sizes ⟨j - 1, hj1⟩)
      have HPP := Lib.hid (dk_plays ⟨j - 1, hj1⟩)
      simp only [ej1] at HS HO HZ HPP
      clear z1 z2 z3 z4 z5 z6 z7 y1 y2 y3 y4 y5 y6 ej hj1 ej1
      have HR := Lib.hid (fun w1 (hb : Below w.heap.size w w1) => run_nl (dkIn j) (dkLines j) (dkO j) m w1 HZ.out.1 HS.out HZ.out.2.1 HZ.out.2.2.1 HZ.out.2.2.2 HPP.out ((hb.cell (p := ⟨0, 0, none⟩) hw0).trans HM.out))
      rw [HI.out, HO.out, HW.out] at HR
      generalize dkInK j = i1 at *
      generalize dkWK j = v1 at *
      generalize numT (2 * j + 1) = nt at *
      simp only [dkT3, dkW2, dkW3] at hA1 hA2 hA3 hA4 HR
      go_wp2_with fail
      refine HDJ.out.mono ?_
      rintro e' w2 ⟨rfl, rfl⟩
      go_wp2_with fail
      refine (HB.out w).mono ?_
      rintro e' w2 ⟨rfl, hb2⟩
      have B2 := Lib.hid hb2
      clear hb2
      go_wp2_with fail
      refine (HR.out w2 B2.out).mono ?_
      rintro e' w3 ⟨rfl, hb3⟩
      have FIN := Lib.hid (Below.thru5 B2.out hb3)
      clear hb3
      go_wp2
      go_ret
      exact ⟨rfl, FIN.out⟩
end Go.Proofs.YthimchhnhhchkaaGreatDoor
