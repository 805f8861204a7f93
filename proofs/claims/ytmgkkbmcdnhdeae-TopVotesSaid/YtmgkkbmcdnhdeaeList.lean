/- win.List and the reference's List; slices.ContainsFunc over ints. -/
import Derived.Test.YtmgkkbmcdnhdeaeWithin
import Derived.Test.YtmgkkbmcdnhdeaeCells
namespace Go.Proofs.Ytmgkkbmcdnhdeae
open Go.RowKit
set_option linter.unusedSimpArgs false
set_option linter.unusedVariables false

def offI (c : Int) : Bool := !wi c 0 16777216
def listE (l : List Int) : Int := if 64 < l.length then 2 else if l.any offI then 1 else 0

theorem lval_any (x : Int) (w : World) :
    Calls Try.prog 38 #[.int .i64 x] w fun e w' => e = .returned (.bool (wi x 0 16777216)) ∧ w = w' := by
  unfold wi
  go_enter Try.func38, Try.ntmps38
  go_wp2
  all_goals (go_ret; simp [*] <;> omega)





theorem list1_any (c : Int) (w : World) :
    Calls Try.prog 37 #[.int .i64 c] w fun e w' => e = .returned (.bool (offI c)) ∧ w = w' := by
  unfold offI
  go_enter Try.func37, Try.ntmps37
  go_wp2_with (go_at_call 38; refine (lval_any _ _).mono ?_; rintro e w' ⟨rfl, rfl⟩)
  go_ret
  exact ⟨rfl, rfl⟩

set_option maxHeartbeats 400000 in
theorem idx_ints (A : Option Addr) (c B : Nat) (l : List Int) (hm : l.length ≤ 100000) (w : World) (hr : Reads w B 1 A l.length (cellsI l)) :
    Calls Try.prog 33 #[.slice A l.length c, .func (.func 37) #[] #[]] w (SomeIdxI (l.any offI) w) := by
  generalize hn : l.length = n at *
  have HN := Lib.hid hn
  have HC := Lib.hid hr
  clear hn hr
  by_cases hz : n = 0
  · have HZ := Lib.hid hz
    have hz' : n < 1 := by omega
    clear hz
    go_enter Try.func33, Try.ntmps33
    go_wp2
    go_loop [8] (fun i => i = .int .i64 0) (fun i => 0)
    case atStart => exact rfl
    case round =>
      subst hrel
      go_wp2
      go_ret
      refine ⟨-1, ?_, rfl, rfl⟩
      have : l = [] := List.eq_nil_of_length_eq_zero (by rw [HN.out, HZ.out])
      rw [this]; rfl
  · obtain ⟨b, off, rfl, hb, hcells⟩ := HC.out.addr (by omega)
    have HCC := Lib.hid hcells
    clear hcells hz
    go_enter Try.func33, Try.ntmps33
    go_wp2
    go_loop [5, 8] (fun _ i => ∃ k : Nat, k ≤ n ∧ i = .int .i64 k ∧ (l.take k).any offI = false) (fun _ i => n - (intOf i).toNat)
    case atStart => exact ⟨0, Nat.zero_le _, rfl, rfl⟩
    case round =>
      obtain ⟨k, hk, rfl, hrel⟩ := hrel
      have HR := Lib.hid hrel
      clear hrel
      by_cases hlt : k < n
      · have hcell := HCC.out k _ (cellsI_at l k (by rw [HN.out]; exact hlt))
        have HX := Lib.hid (anyI_step (by rw [HN.out]; exact hlt) HR.out)
        generalize hx : l.getD k 0 = x at *
        clear hx
        go_wp2_with (go_at_call 37; refine (list1_any _ _).mono ?_; rintro e w' ⟨rfl, rfl⟩)
        go_ways
        · rename_i ho
          go_ret
          exact ⟨k, by rw [anyI_take (HX.out.trans ho)]; simp, rfl, rfl⟩
        · rename_i ho
          refine ⟨⟨k + 1, hlt, by simp, HX.out.trans ho⟩, ?_⟩
          simp [intOf]
          omega
      · go_wp2
        go_ret
        refine ⟨-1, ?_, rfl, rfl⟩
        have : l.take k = l := by rw [List.take_of_length_le]; have := HN.out; omega
        have h2 := HR.out
        rw [this] at h2
        rw [h2]
        rfl

theorem contains_ints (A : Option Addr) (c B : Nat) (l : List Int) (hm : l.length ≤ 100000) (w : World) (hr : Reads w B 1 A l.length (cellsI l)) :
    Calls Try.prog 25 #[.slice A l.length c, .func (.func 37) #[] #[]] w fun e w' => e = .returned (.bool (l.any offI)) ∧ w = w' := by
  have HC := Lib.hid hr
  clear hr
  go_enter Try.func25, Try.ntmps25
  go_wp2_with fail
  refine (idx_ints _ _ _ _ hm _ HC.out).mono ?_
  rintro e w' ⟨k, hk, rfl, rfl⟩
  go_wp2
  go_ret
  first | exact ⟨rfl, rfl⟩ | exact ⟨ret_bool hk, rfl⟩

theorem wlist_any (A : Option Addr) (c B : Nat) (l : List Int) (hm : l.length ≤ maxLen) (w : World) (hr : Reads w B 1 A l.length (cellsI l)) :
    Calls Try.prog 30 #[.slice A l.length c] w fun e w' => e = .returned (.int .i64 (listE l)) ∧ w = w' := by
  have HC := Lib.hid hr
  clear hr
  unfold listE
  by_cases h : 64 < l.length
  · rw [if_pos h]
    go_enter Try.func30, Try.ntmps30
    go_wp2
    go_ret
    exact ⟨rfl, rfl⟩
  · rw [if_neg h]
    go_enter Try.func30, Try.ntmps30
    go_wp2_with fail
    refine (contains_ints _ _ _ _ (by omega) _ HC.out).mono ?_
    rintro e w' ⟨rfl, rfl⟩
    go_wp2
    all_goals (go_ret; exact ⟨ret_int (by simp [*]), rfl⟩)










































































end Go.Proofs.Ytmgkkbmcdnhdeae
