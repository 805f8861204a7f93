/- peers.find and hwref.Find, walked. (with what it needs) -/
import Derived.Test.YthimchhnhhchkaaGreatDoorM19
import Derived.Test.YthimchhnhhchkaaGreatDoorM23
namespace Go.Proofs.YthimchhnhhchkaaGreatDoor
open Go.RowKit Go.Lib
set_option linter.unusedSimpArgs false
set_option linter.unusedVariables false

theorem str_eq {a b : ByteArray} (h : a = b) : (a.toList == b.toList) = true := by rw [h]; simp
theorem str_ne {a b : ByteArray} (h : a ≠ b) : (a.toList == b.toList) = false := by
  cases hq : (a.toList == b.toList)
  · rfl
  · exfalso
    apply h
    have := eq_of_beq hq
    rw [ByteArray.toList_eq, ByteArray.toList_eq] at this
    exact ByteArray.ext (Array.toList_inj.1 this)




























































end Go.Proofs.YthimchhnhhchkaaGreatDoor

namespace Go.Proofs.YthimchhnhhchkaaGreatDoor
open Go.RowKit Go.Lib
set_option linter.unusedSimpArgs false
set_option linter.unusedVariables false

theorem cmp_less : ∀ a b : List UInt8, (Lib.compareBytes a b < 0 ↔ Op.bytesLess a b = true)
  | [], [] => by simp [Lib.compareBytes, Op.bytesLess]
  | [], b :: y => by simp [Lib.compareBytes, Op.bytesLess]
  | a :: x, [] => by simp [Lib.compareBytes, Op.bytesLess]
  | a :: x, b :: y => by
    have ih := cmp_less x y
    simp only [Lib.compareBytes, Op.bytesLess]
    by_cases h1 : a < b
    · simp [h1]
    · by_cases h2 : b < a
      · have h3 : ¬ a = b := fun e => h1 (by rw [e] at h2; rw [e]; exact h2)
        simp [h1, h2, h3]
      · have h3 : a = b := by
          apply UInt8.toNat_inj.1
          have := mt UInt8.lt_iff_toNat_lt.2 h1
          have := mt UInt8.lt_iff_toNat_lt.2 h2
          omega
        subst h3
        simp [h1, ih]
theorem cmp_zero : ∀ a b : List UInt8, (Lib.compareBytes a b = 0 ↔ a = b)
  | [], [] => by simp [Lib.compareBytes]
  | [], b :: y => by simp [Lib.compareBytes]
  | a :: x, [] => by simp [Lib.compareBytes]
  | a :: x, b :: y => by
    have ih := cmp_zero x y
    simp only [Lib.compareBytes]
    by_cases h1 : a < b
    · have h3 : ¬ a = b := fun e => by rw [e] at h1; have := UInt8.lt_iff_toNat_lt.1 h1; omega
      simp [h1, h3]
    · by_cases h2 : b < a
      · have h3 : ¬ a = b := fun e => by rw [e] at h2; have := UInt8.lt_iff_toNat_lt.1 h2; omega
        simp [h1, h2, h3]
      · have h3 : a = b := by
          apply UInt8.toNat_inj.1
          have := mt UInt8.lt_iff_toNat_lt.2 h1
          have := mt UInt8.lt_iff_toNat_lt.2 h2
          omega
        subst h3
        simp [h1, ih]
def cmpB (a b : ByteArray) : Int := Lib.compareBytes a.data.toList b.data.toList
theorem cmpB_less {a b : ByteArray} : cmpB a b < 0 ↔ lessB a b = true := by
  unfold cmpB lessB
  rw [ByteArray.toList_eq, ByteArray.toList_eq]
  exact cmp_less _ _
theorem cmpB_zero {a b : ByteArray} : cmpB a b = 0 ↔ a = b := by
  unfold cmpB
  rw [cmp_zero]
  exact ⟨fun h => ByteArray.ext (Array.toList_inj.1 h), fun h => by rw [h]⟩
set_option maxRecDepth 100000 in
theorem cmp_any (p : PeerT) (id : ByteArray) (w : World) :
    Calls Tryz.prog 192 #[pagg p, .string id] w fun e w' => e = .returned (.int .i64 (cmpB (pid p) id)) ∧ Below w.heap.size w w' := by
  have E := Lib.hid ((Env.start w).lay (pcells p).toArray 183)
  have HC := Lib.hid (Tryz.strings_Compare (pid p) id)
  simp only [pcells] at E
  unfold pagg pcells
  go_enter Tryz.func192, Tryz.ntmps192
  go_wp2_with fail
  refine (HC.out _).mono ?_
  rintro e' w' ⟨rfl, rfl⟩
  go_wp2
  go_ret
  exact ⟨rfl, E.out.bel⟩

set_option maxHeartbeats 2000000 in
set_option maxRecDepth 100000 in
theorem bs_is (A : Option Addr) (c B n : Nat) (l : List PeerT) (id : ByteArray) (i0 : Nat) (fd : Bool) (hi : i0 ≤ n) (hm : n ≤ 1000)
    (hlo : ∀ j, (hj : j < l.length) → j < i0 → lessB (pid (l[j]'hj)) id = true) (hhi : ∀ j, (hj : j < l.length) → i0 ≤ j → lessB (pid (l[j]'hj)) id = false)
    (hfd : fd = true ↔ ∃ hj : i0 < l.length, pid (l[i0]'hj) = id) (w : World) (hp : Peers w B A n l) (hB : B ≤ w.heap.size) :
    Calls Tryz.prog 191 #[.slice A n c, .string id, .func (.func 192) #[] #[]] w fun e w' => e = .returned (.tuple #[.int .i64 (i0 : Int), .bool fd]) ∧ Below w.heap.size w w' := by
  have HP := Lib.hid hp
  have HBB := Lib.hid hB
  have HN := Lib.hid hp.len
  have HLO := Lib.hid hlo
  have HHI := Lib.hid hhi
  have HFD := Lib.hid hfd
  have HCM := Lib.hid (fun p => cmp_any p id)
  simp only [pagg, pcells] at HCM
  clear hp hB hlo hhi hfd
  go_enter Tryz.func191, Tryz.ntmps191
  go_wp2_with fail
  go_loopw [9, 10] (fun iv jv wr => ∃ i j : Nat, i ≤ i0 ∧ i0 ≤ j ∧ j ≤ n ∧ iv = .int .i64 (i : Int) ∧ jv = .int .i64 (j : Int) ∧ Below w.heap.size w wr) (fun iv jv _ => (RowKit.intOf jv).toNat - (RowKit.intOf iv).toNat)
  case atStart => exact ⟨0, n, by omega, hi, Nat.le_refl _, rfl, rfl, Below.refl _ _⟩
  case round =>
    obtain ⟨i, j, h1, h2, h3, rfl, rfl, hbl⟩ := hrel
    obtain ⟨wo, rfl⟩ : ∃ wo, wo = wr := ⟨_, rfl⟩
    have BL := Lib.hid hbl
    by_cases hlt : i < j
    · obtain ⟨h, hh⟩ : ∃ h, h = (i + j) / 2 := ⟨_, rfl⟩
      have hhn : h < n := by omega
      have hkl : h < l.length := by rw [HN.out]; exact hhn
      obtain ⟨b, off, rfl, hb, hcs⟩ := (HP.out.below hbl HBB.out).addr (by omega)
      obtain ⟨c0, c1, c2, c3, c4, c5, c6⟩ := hcs h hkl
      have hl1 := HLO.out h hkl
      have hl2 := HHI.out h hkl
      generalize l[h]'hkl = p at *
      have HH := Lib.hid hh
      have eh : ((i : Int) + (j : Int)) / 2 = (h : Int) := by omega
      have HL1 := Lib.hid hl1
      have HL2 := Lib.hid hl2
      clear hcs hbl hh hl1 hl2
      go_wp2_with fail
      refine (HCM.out p _).mono ?_
      rintro e' w1 ⟨rfl, hb1⟩
      have BL1 := Lib.hid (BL.out.trans (hb1.mono BL.out.size))
      clear hb1
      by_cases hl : lessB (pid p) id = true
      · have hcv := cmpB_less.2 hl
        have hhi0 : h < i0 := by
          rcases Nat.lt_or_ge h i0 with hx | hx
          · exact hx
          · have := HL2.out hx
            rw [hl] at this
            cases this
        generalize cmpB (pid p) id = cv at *
        clear hl
        go_wp2
        all_goals first
          | (exfalso; omega)
          | exact ⟨⟨h + 1, j, by omega, by omega, by omega, by simp, rfl, BL1.out⟩, by have := HH.out; simp [RowKit.intOf]; omega⟩
      · have hcv : ¬ cmpB (pid p) id < 0 := fun hx => hl (cmpB_less.1 hx)
        have hhi0 : i0 ≤ h := by
          rcases Nat.lt_or_ge h i0 with hx | hx
          · exact absurd (HL1.out hx) hl
          · exact hx
        generalize cmpB (pid p) id = cv at *
        clear hl
        go_wp2
        all_goals first
          | (exfalso; omega)
          | exact ⟨⟨i, h, by omega, by omega, by omega, rfl, by simp, BL1.out⟩, by have := HH.out; simp [RowKit.intOf]; omega⟩
    · obtain rfl : i = i0 := by omega
      obtain rfl : j = i := by omega
      rcases Nat.lt_or_ge j n with hjn | hjn
      · have hkl : j < l.length := by rw [HN.out]; exact hjn
        obtain ⟨b, off, rfl, hb, hcs⟩ := (HP.out.below hbl HBB.out).addr (by omega)
        obtain ⟨c0, c1, c2, c3, c4, c5, c6⟩ := hcs j hkl
        have hfd : fd = true ↔ pid (l[j]'hkl) = id := HFD.out.trans ⟨fun ⟨_, h⟩ => h, fun h => ⟨hkl, h⟩⟩
        generalize l[j]'hkl = p at *
        have hz : fd = (cmpB (pid p) id == 0) := by
          by_cases he : pid p = id
          · rw [hfd.2 he, cmpB_zero.2 he]; rfl
          · have : fd = false := by cases hq : fd; rfl; exact absurd (hfd.1 hq) he
            rw [this]
            have : ¬ cmpB (pid p) id = 0 := fun h => he (cmpB_zero.1 h)
            simp [this]
        have HZ := Lib.hid hz
        clear hcs hbl hfd hz
        go_wp2_with fail
        refine (HCM.out p _).mono ?_
        rintro e' w1 ⟨rfl, hb1⟩
        have BL1 := Lib.hid (BL.out.trans (hb1.mono BL.out.size))
        clear hb1
        generalize cmpB (pid p) id = cv at *
        by_cases hcv : cv = 0
        · have hz2 : fd = true := by rw [HZ.out, hcv]; rfl
          subst hz2
          go_wp2
          refine bodyPost_ret (v := .tuple #[.int .i64 (j : Int), .bool true]) (by simp [results, Tryz.results191, go_sem]) rfl ⟨rfl, BL1.out⟩
        · have hz2 : fd = false := by rw [HZ.out]; simp [hcv]
          subst hz2
          have hcv2 : (cv == 0) = false := by simp [hcv]
          go_wp2
          refine bodyPost_ret (v := .tuple #[.int .i64 (j : Int), .bool false]) (by simp [results, Tryz.results191, go_sem]) rfl ⟨rfl, BL1.out⟩
      · have hz2 : fd = false := by
          cases hq : fd
          · rfl
          · obtain ⟨hj, _⟩ := HFD.out.1 hq
            have := HN.out
            omega
        subst hz2
        clear hbl
        go_wp2
        refine bodyPost_ret (v := .tuple #[.int .i64 (j : Int), .bool false]) (by simp [results, Tryz.results191, go_sem]) rfl ⟨rfl, BL.out⟩

set_option maxRecDepth 100000 in
theorem find_is (A : Option Addr) (c B n : Nat) (l : List PeerT) (id : ByteArray) (i0 : Nat) (fd : Bool) (hi : i0 ≤ n) (hm : n ≤ 1000)
    (hlo : ∀ j, (hj : j < l.length) → j < i0 → lessB (pid (l[j]'hj)) id = true) (hhi : ∀ j, (hj : j < l.length) → i0 ≤ j → lessB (pid (l[j]'hj)) id = false)
    (hfd : fd = true ↔ ∃ hj : i0 < l.length, pid (l[i0]'hj) = id) (w : World) (hp : Peers w B A n l) (hB : B ≤ w.heap.size) :
    Calls Tryz.prog 162 #[.slice A n c, .string id] w fun e w' => e = .returned (.tuple #[.int .i64 (i0 : Int), .bool fd]) ∧ Below w.heap.size w w' := by
  have HB := Lib.hid (bs_is A c B n l id i0 fd hi hm hlo hhi hfd w hp hB)
  clear hlo hhi hfd hp
  go_enter Tryz.func162, Tryz.ntmps162
  go_wp2_with fail
  refine HB.out.mono ?_
  rintro e' w1 ⟨rfl, hb1⟩
  have BL := Lib.hid hb1
  clear hb1
  go_wp2
  refine bodyPost_ret (v := .tuple #[.int .i64 (i0 : Int), .bool fd]) (by simp [results, Tryz.results162, go_sem]) rfl ⟨rfl, BL.out⟩
end Go.Proofs.YthimchhnhhchkaaGreatDoor
