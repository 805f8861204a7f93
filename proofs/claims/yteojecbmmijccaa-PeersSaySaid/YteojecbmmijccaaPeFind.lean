/- peers.find and hwref.Find, walked. -/
import Derived.Test.YteojecbmmijccaaPeRef
import Derived.Test.YteojecbmmijccaaShelf
namespace Go.Proofs.Yteojecbmmijccaa
open Go.RowKit Go.Lib
set_option linter.unusedSimpArgs false
set_option linter.unusedVariables false

theorem str_eq {a b : ByteArray} (h : a = b) : (a.toList == b.toList) = true := by rw [h]; simp
theorem str_ne {a b : ByteArray} (h : a ≠ b) : (a.toList == b.toList) = false := by
  cases hq : (a.toList == b.toList)
  · rfl
  · exfalso
    apply h
    have := eq_of_beq hq
    rw [ByteArray.toList_eq, ByteArray.toList_eq] at this
    exact ByteArray.ext (Array.toList_inj.1 this)

set_option maxHeartbeats 2000000 in
set_option maxRecDepth 100000 in
theorem rfind_run (A : Option Addr) (c B n : Nat) (l : List PeerT) (id : ByteArray) (r : Int) (hm : n ≤ maxLen)
    (hr : (∃ k, ∃ hk : k < l.length, pid (l[k]'hk) = id ∧ (∀ j, (hj : j < l.length) → j < k → pid (l[j]'hj) ≠ id) ∧ r = (k : Int)) ∨ ((∀ j, (hj : j < l.length) → pid (l[j]'hj) ≠ id) ∧ r = -1)) (w : World) (hp : Peers w B A n l) (hB : B ≤ w.heap.size) :
    Calls Try.prog 25 #[.slice A n c, .string id] w fun e w' => e = .returned (.int .i64 r) ∧ Below w.heap.size w w' := by
  unfold maxLen at hm
  have HP := Lib.hid hp
  have HBB := Lib.hid hB
  have HN := Lib.hid hp.len
  have HR := Lib.hid hr
  clear hp hB hr
  go_enter Try.func25, Try.ntmps25
  go_wp2_with fail
  go_loopw [9] (fun iv wr => ∃ k : Nat, k ≤ n ∧ iv = .int .i64 (k : Int) ∧ (∀ j, (hj : j < l.length) → j < k → pid (l[j]'hj) ≠ id) ∧ Below w.heap.size w wr) (fun iv _ => n - (RowKit.intOf iv).toNat)
  case atStart => exact ⟨0, by omega, rfl, fun j hj h => absurd h (by omega), Below.refl _ _⟩
  case round =>
    obtain ⟨k, hk, rfl, hno, hbl⟩ := hrel
    obtain ⟨wo, rfl⟩ : ∃ wo, wo = wr := ⟨_, rfl⟩
    by_cases hlt : k < n
    · have hkl : k < l.length := by rw [HN.out]; exact hlt
      obtain ⟨b, off, rfl, hb, hcs⟩ := (HP.out.below hbl HBB.out).addr (by omega)
      obtain ⟨c0, c1, c2, c3, c4, c5, c6⟩ := hcs k hkl
      have BL := Lib.hid hbl
      by_cases he : pid (l[k]'hkl) = id
      · have EV := Lib.hid (show r = (k : Int) by
          rcases HR.out with ⟨k', hk', h1, h2, h3⟩ | ⟨h1, h2⟩
          · rcases Nat.lt_trichotomy k k' with h | h | h
            · exact absurd he (h2 k hkl h)
            · rw [h3, h]
            · exact absurd h1 (hno k' hk' h)
          · exact absurd he (h1 k hkl))
        have hq := str_eq he
        clear hno hcs hbl he
        go_wp2
        go_ret
        exact ⟨ret_int EV.out.symm, BL.out.alloc BL.out.size _⟩
      · have hq := str_ne he
        have NO := Lib.hid (show ∀ j, (hj : j < l.length) → j < k + 1 → pid (l[j]'hj) ≠ id from fun j hj h => by
          by_cases hjk : j = k
          · subst hjk; exact he
          · exact hno j hj (by omega))
        clear hno hcs hbl he
        go_wp2
        exact ⟨⟨k + 1, by omega, by simp, NO.out, BL.out.alloc BL.out.size _⟩, by simp [RowKit.intOf]; omega⟩
    · have EV := Lib.hid (show r = -1 by
        rcases HR.out with ⟨k', hk', h1, h2, h3⟩ | ⟨h1, h2⟩
        · exact absurd h1 (hno k' hk' (by have := HN.out; omega))
        · exact h2)
      have BL := Lib.hid hbl
      clear hno hbl
      go_wp2
      go_ret
      exact ⟨ret_int EV.out.symm, BL.out⟩
theorem rfind_some (A : Option Addr) (c B n : Nat) (l : List PeerT) (k : Nat) (hk : k < l.length) (hno : ∀ j, (hj : j < l.length) → j < k → pid (l[j]'hj) ≠ pid (l[k]'hk)) (hm : n ≤ maxLen) (w : World) (hp : Peers w B A n l) (hB : B ≤ w.heap.size) :
    Calls Try.prog 25 #[.slice A n c, .string (pid (l[k]'hk))] w fun e w' => e = .returned (.int .i64 (k : Int)) ∧ Below w.heap.size w w' :=
  rfind_run A c B n l _ _ hm (.inl ⟨k, hk, rfl, hno, rfl⟩) w hp hB
theorem rfind_none (A : Option Addr) (c B n : Nat) (l : List PeerT) (id : ByteArray) (hno : ∀ j, (hj : j < l.length) → pid (l[j]'hj) ≠ id) (hm : n ≤ maxLen) (w : World) (hp : Peers w B A n l) (hB : B ≤ w.heap.size) :
    Calls Try.prog 25 #[.slice A n c, .string id] w fun e w' => e = .returned (.int .i64 (-1)) ∧ Below w.heap.size w w' :=
  rfind_run A c B n l _ _ hm (.inr ⟨hno, rfl⟩) w hp hB
end Go.Proofs.Yteojecbmmijccaa
