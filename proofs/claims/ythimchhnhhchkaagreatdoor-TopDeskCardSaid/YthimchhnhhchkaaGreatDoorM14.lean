/- crc.Of and the reference's Crc, walked. -/
import Derived.Test.YthimchhnhhchkaaGreatDoorM12
import Derived.IntWalk
namespace Go.Proofs.YthimchhnhhchkaaGreatDoor
open Go.RowKit
set_option linter.unusedSimpArgs false
set_option linter.unusedVariables false

theorem not_u32 (c : Nat) (hc : c < 4294967296) : wrap64 (bits BinOp.xor IntKind.u32 IntKind.u32.max (c : Int)) = ((4294967295 - c : Nat) : Int) := by
  have e : IntKind.u32.max = ((4294967295 : Nat) : Int) := by decide
  rw [e, u32_xor_nat 4294967295 c (by omega) hc, Nat.xor_comm, Crc.flip c hc]
  exact IntWalk.wrap64_in _ (by omega)
theorem i64_and_nat (a b : Nat) (ha : a < 9223372036854775808) (hb : b < 9223372036854775808) : bits .and .i64 (a : Int) (b : Int) = ((a &&& b : Nat) : Int) := by
  have hx : a &&& b < 2 ^ 63 := Nat.and_lt_two_pow _ (by omega)
  show IntKind.i64.wrap ((BitVec.ofInt 64 (a : Int) &&& BitVec.ofInt 64 (b : Int)).toNat : Int) = _
  rw [BitVec.toNat_and, ofInt_u64 a (by omega), ofInt_u64 b (by omega)]
  exact IntWalk.i64_in _ (by omega)
theorem i64_xor_nat (a b : Nat) (ha : a < 9223372036854775808) (hb : b < 9223372036854775808) : bits .xor .i64 (a : Int) (b : Int) = ((a ^^^ b : Nat) : Int) := by
  have hx : a ^^^ b < 2 ^ 63 := Nat.xor_lt_two_pow (by omega) (by omega)
  show IntKind.i64.wrap ((BitVec.ofInt 64 (a : Int) ^^^ BitVec.ofInt 64 (b : Int)).toNat : Int) = _
  rw [BitVec.toNat_xor, ofInt_u64 a (by omega), ofInt_u64 b (by omega)]
  exact IntWalk.i64_in _ (by omega)

set_option maxRecDepth 100000 in
set_option maxHeartbeats 1000000 in
theorem cof_large (s : ByteArray) (h : 20000 < s.size) (hm : s.size ≤ maxLen) (w : World) :
    Calls Tryz.prog 167 #[.string s] w fun e w' => e = .returned (.tuple #[.int .i64 0, .int .i64 2]) ∧ Below w.heap.size w w' := by
  unfold maxLen at hm
  go_enter Tryz.func167, Tryz.ntmps167
  go_wp2
  refine bodyPost_ret (v := .tuple #[.int .i64 0, .int .i64 2]) (by simp [results, Tryz.results167, go_sem]) rfl ⟨rfl, Below.refl _ _⟩

set_option maxHeartbeats 2000000 in
set_option maxRecDepth 100000 in
theorem cof_ok (s : ByteArray) (h : s.size ≤ 20000) (w : World) :
    Calls Tryz.prog 167 #[.string s] w fun e w' => e = .returned (.tuple #[.int .i64 ((4294967295 - Crc.upto s s.size : Nat) : Int), .int .i64 0]) ∧ Below w.heap.size w w' := by
  obtain ⟨hz, hi⟩ := zero_of_info tab_info
  have HTA := Lib.hid (tabA_at (Crc.sts 8))
  have hT1 := tabA_one (Crc.sts 8)
  have hTs := tabA_size (Crc.sts 8)
  have HIT := Lib.hid (show (Tryz.prog.info? 240).map (·.size) = some (tabA (Crc.sts 8)).size by rw [hTs]; exact hi)
  have HZS := Lib.hid (show (tabA fun _ => 0).size = (tabA (Crc.sts 8)).size by rw [hTs, tabA_size])
  have HT1 := Lib.hid hT1
  have HTAB := Lib.hid (fun w => table_any w)
  clear hT1 hTs hi
  generalize tabA (fun _ => 0) = Z at *
  generalize tabA (Crc.sts 8) = T at *
  go_enter Tryz.func167, Tryz.ntmps167
  go_wp2_with fail
  refine (HTAB.out _).mono ?_
  rintro e' w1 ⟨rfl, hb1⟩
  have E1 := Lib.hid (((Env.start w).below hb1).lay Z 240)
  clear hb1
  go_wp2_with (refine wpList_store_row rfl 240 _ _ rfl w1.heap.size Z T 240 rfl rfl E1.out.hd HIT.out HZS.out HT1.out ?_)
  have E2 := Lib.hid (E1.out.setRow (by simp) T)
  clear E1
  generalize hW : World.setRow _ _ _ = W at *
  clear hW
  go_loop [5, 6, 13] (fun c _ i => ∃ k : Nat, k ≤ s.size ∧ i = .int .i64 k ∧ c = .int .u32 (Crc.upto s k : Nat)) (fun _ _ i => s.size - (intOf i).toNat)
  case atStart => exact ⟨0, by omega, rfl, rfl⟩
  case round =>
    obtain ⟨k, hk, rfl, rfl⟩ := hrel
    have hc : Crc.upto s k < 4294967296 := Crc.to_lt s k hk
    by_cases hlt : k < s.size
    · have hb : (s[k]).toNat < 256 := UInt8.toNat_lt _
      have HSU := Lib.hid (Crc.to_succ s k hlt)
      have HS8 := Lib.hid (Crc.step8 (Crc.upto s k) (s[k]).toNat hb)
      generalize Crc.upto s k = c at *
      have hx : (c % 256) ^^^ (s[k]).toNat < 256 := Nat.xor_lt_two_pow (n := 8) (by omega) (by omega)
      have hxo : bits BinOp.xor IntKind.u8 ((c : Int) % 256) ((s[k]).toNat : Int) = (((c % 256) ^^^ (s[k]).toNat : Nat) : Int) := by
        have := u8_xor_nat (c % 256) (s[k]).toNat (by omega) hb
        simpa using this
      have y0 := (E2.out.hd.cell ((c % 256) ^^^ (s[k]).toNat)).trans (HTA.out _ hx)
      have hts : Crc.sts 8 ((c % 256) ^^^ (s[k]).toNat) < 4294967296 := Crc.sts_lt (by omega) 8
      have HX2 := Lib.hid (show bits BinOp.xor IntKind.u32 ((c : Int) / 256) ((Crc.sts 8 ((c % 256) ^^^ (s[k]).toNat) : Nat) : Int) = (((c / 256) ^^^ Crc.sts 8 ((c % 256) ^^^ (s[k]).toNat) : Nat) : Int) by
        have := u32_xor_nat (c / 256) (Crc.sts 8 ((c % 256) ^^^ (s[k]).toNat)) (by omega) hts
        simpa using this)
      generalize hxx : (c % 256) ^^^ (s[k]).toNat = x at *
      have HXX := Lib.hid hxx
      clear hxx
      generalize Crc.sts 8 x = tv at *
      go_wp2
      exact ⟨⟨k + 1, hlt, by simp, by rw [HSU.out, HS8.out, HX2.out]⟩, by simp [intOf]; omega⟩
    · have hks : k = s.size := by omega
      have HF := Lib.hid (show wrap64 (bits BinOp.xor IntKind.u32 IntKind.u32.max (Crc.upto s k : Nat)) = ((4294967295 - Crc.upto s s.size : Nat) : Int) by rw [← hks]; exact not_u32 _ hc)
      have hk2 : s.size ≤ k := by omega
      clear hks
      generalize Crc.upto s k = c at *
      go_wp2
      refine bodyPost_ret (v := .tuple #[.int .i64 (wrap64 (bits BinOp.xor IntKind.u32 IntKind.u32.max (c : Int))), .int .i64 0]) (by simp [results, Tryz.results167, go_sem]) rfl ⟨by rw [HF.out], E2.out.bel⟩








































































end Go.Proofs.YthimchhnhhchkaaGreatDoor
