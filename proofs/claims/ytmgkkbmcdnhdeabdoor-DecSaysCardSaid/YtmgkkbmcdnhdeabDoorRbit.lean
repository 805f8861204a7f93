/- The reference's bit. -/
import Derived.Test.YtmgkkbmcdnhdeabDoorRa0
namespace Go.Proofs.YtmgkkbmcdnhdeabDoor
open Go.RowKit
set_option linter.unusedSimpArgs false
set_option linter.unusedVariables false

theorem bit_any (A : Option Addr) (l : List Bool) (c B : Nat) (w : World) (h : Reads w B 1 A l.length (l.map Value.bool)) (i : Int) (h0 : 0 ≤ i) :
    Calls Tryd.prog 18 #[.slice A l.length c, .int .i64 i] w fun e w' => e = .returned (.int .i64 (Bt.bit l i.toNat)) ∧ w = w' := by
  obtain ⟨k, rfl⟩ := Int.eq_ofNat_of_zero_le h0
  rw [Int.toNat_natCast]
  by_cases hk : k < l.length
  · obtain ⟨b, off, rfl, hb, hc⟩ := h.addr (by omega)
    have hcell := hc k (.bool l[k]) (by simp [hk])
    have hv := Bt.bit_at l k hk
    clear hc h
    by_cases hbk : l[k] = true
    · rw [hbk] at hcell hv
      have HV := Lib.hid hv
      clear hv hbk
      go_enter Tryd.func18, Tryd.ntmps18
      go_wp2
      go_ret
      exact ⟨ret_int (by rw [HV.out]; rfl), rfl⟩
    · have hbk' : l[k] = false := by simpa using hbk
      rw [hbk'] at hcell hv
      have HV := Lib.hid hv
      clear hv hbk hbk'
      go_enter Tryd.func18, Tryd.ntmps18
      go_wp2
      go_ret
      exact ⟨ret_int (by rw [HV.out]; rfl), rfl⟩
  · have HV := Lib.hid (Bt.bit_past l k (by omega))
    clear h
    go_enter Tryd.func18, Tryd.ntmps18
    go_wp2
    go_ret
    exact ⟨ret_int (by rw [HV.out]; rfl), rfl⟩

end Go.Proofs.YtmgkkbmcdnhdeabDoor
