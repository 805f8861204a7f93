/- beat.Id, beat.Check, beat.four, walked. -/
import Derived.Test.YthimchhnhhchkaaGreatDoorM13
import Derived.Laws.BytesString
import Derived.Laws.Strings
namespace Go.Proofs.YthimchhnhhchkaaGreatDoor
open Go.RowKit Go.Lib
set_option linter.unusedSimpArgs false
set_option linter.unusedVariables false

theorem bytesOf_len (s : ByteArray) : (bytesOf s).length = s.size := by unfold bytesOf; rw [List.length_map, Array.length_toList]; rfl
theorem bytesOf_at (s : ByteArray) (k : Nat) (h : k < s.size) : (bytesOf s)[k]? = some ((s[k]).toNat : Int) := by
  have h2 : k < s.data.toList.length := by rw [Array.length_toList]; exact h
  simp [bytesOf, List.getElem?_eq_getElem h2]
  rfl
theorem any_next (s : ByteArray) (k : Nat) (h : k < s.size) (h2 : ((bytesOf s).take k).any offB = false) : ((bytesOf s).take (k + 1)).any offB = offB ((s[k]).toNat : Int) := by
  rw [List.take_add_one, List.any_append, h2, bytesOf_at s k h]
  simp
theorem empty_false (s : ByteArray) (h : s.size ≠ 0) : s.toList.isEmpty = false := by
  rw [ByteArray.toList_eq]
  cases hq : s.data.toList with
  | nil => exact absurd (by have := congrArg List.length hq; rw [Array.length_toList] at this; exact this) h
  | cons => rfl
theorem empty_true (s : ByteArray) (h : s.size = 0) : s.toList.isEmpty = true := by
  rw [ByteArray.toList_eq]
  cases hq : s.data.toList with
  | nil => rfl
  | cons => have := congrArg List.length hq; rw [Array.length_toList] at this; exact absurd (this.symm.trans h) (by simp)

set_option maxRecDepth 100000 in
theorem bid_any (s : ByteArray) (hs : s.size ≤ maxLen) (w : World) : Calls Tryz.prog 160 #[.string s] w fun e w' => e = .returned (.bool (idB s)) ∧ w = w' := by
  unfold maxLen at hs
  by_cases h0 : s.size = 0
  · have HR := Lib.hid (show idB s = false by unfold idB wi; simp [h0])
    have he := empty_true s h0
    clear h0
    go_enter Tryz.func160, Tryz.ntmps160
    go_wp2
    go_ret
    exact ⟨ret_bool HR.out.symm, rfl⟩
  · have he := empty_false s h0
    by_cases h8 : s.size ≤ 8
    · have HW := Lib.hid (show wi s.size 1 8 = true from wi_true.2 ⟨by omega, by omega⟩)
      go_enter Tryz.func160, Tryz.ntmps160
      go_wp2
      go_loop [13] (fun i => ∃ k : Nat, k ≤ s.size ∧ i = .int .i64 k ∧ ((bytesOf s).take k).any offB = false) (fun i => s.size - (intOf i).toNat)
      case atStart => exact ⟨0, by omega, rfl, rfl⟩
      case round =>
        obtain ⟨k, hk, rfl, hrel⟩ := hrel
        have HR := Lib.hid hrel
        clear hrel
        by_cases hlt : k < s.size
        · have HX := Lib.hid (any_next s k hlt HR.out)
          have hb : (s[k]).toNat < 256 := UInt8.toNat_lt _
          cases hx : offB ((s[k]).toNat : Int)
          · have hx2 := hx
            unfold offB at hx2
            obtain ⟨g0, g1⟩ := wi_true.1 (by simpa using hx2)
            have HY := Lib.hid (HX.out.trans hx)
            clear hx hx2
            go_wp2
            exact ⟨⟨k + 1, hlt, by simp, HY.out⟩, by simp [intOf]; omega⟩
          · have HF := Lib.hid (show idB s = false by
              unfold idB
              rw [any_take (HX.out.trans hx)]
              simp)
            have hx2 := hx
            unfold offB at hx2
            have hx3 := wi_false.1 (by simpa using hx2)
            clear hx hx2
            by_cases g0 : (97 : Int) ≤ ((s[k]).toNat : Int)
            · have g1 : ¬ ((s[k]).toNat : Int) ≤ 122 := by omega
              clear hx3
              go_wp2
              go_ret
              exact ⟨ret_bool HF.out.symm, rfl⟩
            · clear hx3
              go_wp2
              go_ret
              exact ⟨ret_bool HF.out.symm, rfl⟩
        · have HF := Lib.hid (show idB s = true by
            unfold idB
            rw [HW.out]
            have := HR.out
            rw [List.take_of_length_le (by rw [bytesOf_len]; omega)] at this
            rw [this]; rfl)
          go_wp2
          go_ret
          exact ⟨ret_bool HF.out.symm, rfl⟩
    · have HR := Lib.hid (show idB s = false by unfold idB; rw [wi_false.2 (.inr (by omega))]; rfl)
      go_enter Tryz.func160, Tryz.ntmps160
      go_wp2
      go_ret
      exact ⟨ret_bool HR.out.symm, rfl⟩

set_option maxRecDepth 100000 in
theorem bcheck_any (s : ByteArray) (hs : s.size ≤ maxLen) (inc seq : Int) (w : World) :
    Calls Tryz.prog 165 #[.agg #[.string s, .int .i64 inc, .int .i64 seq]] w fun e w' => e = .returned (.int .i64 (beatE s inc seq)) ∧ Below w.heap.size w w' := by
  have E := Lib.hid ((Env.start w).lay #[.string s, .int .i64 inc, .int .i64 seq] 173)
  have HB := Lib.hid hs
  clear hs
  go_enter Tryz.func165, Tryz.ntmps165
  cases hi : idB s
  · have HR := Lib.hid (show beatE s inc seq = 3 by unfold beatE; rw [hi]; rfl)
    go_wp2_with (go_at_call 160; refine (bid_any s HB.out _).mono ?_; rintro e w' ⟨rfl, rfl⟩; rw [hi])
    go_ret
    exact ⟨ret_int HR.out.symm, E.out.bel⟩
  · have HRO := Lib.hid (show (0 ≤ inc ∧ inc ≤ 2147483647 ∧ 1 ≤ seq ∧ seq ≤ 2147483647) → beatE s inc seq = 0 from fun h => by unfold beatE; rw [if_pos hi, if_pos h])
    have HRN := Lib.hid (show ¬ (0 ≤ inc ∧ inc ≤ 2147483647 ∧ 1 ≤ seq ∧ seq ≤ 2147483647) → beatE s inc seq = 1 from fun h => by unfold beatE; rw [if_pos hi, if_neg h])
    by_cases h1 : 0 ≤ inc
    · by_cases h2 : inc ≤ 2147483647
      · by_cases h3 : 1 ≤ seq
        · by_cases h4 : seq ≤ 2147483647
          · have HR := Lib.hid (HRO.out ⟨h1, h2, h3, h4⟩)
            go_wp2_with (go_at_call 160; refine (bid_any s HB.out _).mono ?_; rintro e w' ⟨rfl, rfl⟩; rw [hi])
            go_ret
            exact ⟨ret_int HR.out.symm, E.out.bel⟩
          · have HR := Lib.hid (HRN.out (by omega))
            go_wp2_with (go_at_call 160; refine (bid_any s HB.out _).mono ?_; rintro e w' ⟨rfl, rfl⟩; rw [hi])
            go_ret
            exact ⟨ret_int HR.out.symm, E.out.bel⟩
        · have HR := Lib.hid (HRN.out (by omega))
          go_wp2_with (go_at_call 160; refine (bid_any s HB.out _).mono ?_; rintro e w' ⟨rfl, rfl⟩; rw [hi])
          go_ret
          exact ⟨ret_int HR.out.symm, E.out.bel⟩
      · have HR := Lib.hid (HRN.out (by omega))
        go_wp2_with (go_at_call 160; refine (bid_any s HB.out _).mono ?_; rintro e w' ⟨rfl, rfl⟩; rw [hi])
        go_ret
        exact ⟨ret_int HR.out.symm, E.out.bel⟩
    · have HR := Lib.hid (HRN.out (by omega))
      go_wp2_with (go_at_call 160; refine (bid_any s HB.out _).mono ?_; rintro e w' ⟨rfl, rfl⟩; rw [hi])
      go_ret
      exact ⟨ret_int HR.out.symm, E.out.bel⟩

/-! ### bytes to a string -/
def u8 (x : Int) : UInt8 := UInt8.ofNat x.toNat
theorem fold_push : ∀ (ns : List Int) (s : ByteArray), ns.foldl (fun r n => r.push (UInt8.ofNat n.toNat)) s = ⟨(s.data.toList ++ ns.map u8).toArray⟩
  | [], s => by simp
  | n :: ns, s => by
    rw [List.foldl_cons, fold_push ns]
    simp [u8, ByteArray.push]
theorem conv_bytes {W : World} {g : Nat} {t : TypeId} (ns : List Int) (h : Blk W g t (ns.map (Value.int .u8)).toArray) (l c : Nat) (hl : l = ns.length) :
    (convert 41 9 (.slice (some ⟨g, 0, none⟩) l c)).run Tryz.prog W = .ok (.string ⟨(ns.map u8).toArray⟩) W := by
  subst hl
  rw [run_convert_bytes_string W _ _ 5 _ _ _ Tryz.underlying41 Tryz.underlying5 Tryz.underlying9]
  have hc : (loadCells ⟨g, 0, none⟩ ns.length).run Tryz.prog W = .ok (ns.map (Value.int .u8)).toArray W := by
    have := run_loadCells_list (P := Tryz.prog) W ⟨g, 0, none⟩ (ns.map (Value.int .u8)) (fun j v hv => by
      have hadd : (⟨g, 0, none⟩ : Addr).add j = ⟨g, j, none⟩ := by unfold Addr.add; split <;> simp_all
      rw [hadd, h.cell j]
      simpa using hv)
    simpa using this
  rw [run_bytesToString W ⟨g, 0, none⟩ ns.length c ns hc, fold_push]
  rfl
def b4 (n : Int) : List UInt8 := [u8 (n / 16777216), u8 (n / 65536 % 256), u8 (n / 256 % 256), u8 (n % 256)]
set_option maxRecDepth 100000 in
theorem four_any (n : Int) (h0 : 0 ≤ n) (h1 : n < 4294967296) (w : World) : Calls Tryz.prog 168 #[.int .i64 n] w fun e w' => e = .returned (.string ⟨(b4 n).toArray⟩) ∧ Below w.heap.size w w' := by
  have hc := conv_bytes [n / 16777216, n / 65536 % 256, n / 256 % 256, n % 256] (Blk.new w 5 _) 4 4 rfl
  simp only [List.map_cons, List.map_nil] at hc
  go_enter Tryz.func168, Tryz.ntmps168
  go_wp2
  go_ret
  exact ⟨rfl, (Below.refl _ _).alloc (Nat.le_refl _) _⟩
end Go.Proofs.YthimchhnhhchkaaGreatDoor
