/- beat.Id, beat.Check, beat.four, walked. -/
import Derived.Test.YtmgkkbmcdnhdeabDoorIdx
import Derived.Laws.BytesString
import Derived.Laws.Strings
namespace Go.Proofs.YtmgkkbmcdnhdeabDoor
open Go.RowKit Go.Lib
set_option linter.unusedSimpArgs false
set_option linter.unusedVariables false

theorem bytesOf_len (s : ByteArray) : (bytesOf s).length = s.size := by unfold bytesOf; rw [List.length_map, Array.length_toList]; rfl
theorem bytesOf_at (s : ByteArray) (k : Nat) (h : k < s.size) : (bytesOf s)[k]? = some ((s[k]).toNat : Int) := by
  have h2 : k < s.data.toList.length := by rw [Array.length_toList]; exact h
  simp [bytesOf, List.getElem?_eq_getElem h2]
  rfl
theorem any_next (s : ByteArray) (k : Nat) (h : k < s.size) (h2 : ((bytesOf s).take k).any offB = false) : ((bytesOf s).take (k + 1)).any offB = offB ((s[k]).toNat : Int) := by
  rw [List.take_add_one, List.any_append, h2, bytesOf_at s k h]
  simp
theorem empty_false (s : ByteArray) (h : s.size ≠ 0) : s.toList.isEmpty = false := by
  rw [ByteArray.toList_eq]
  cases hq : s.data.toList with
  | nil => exact absurd (by have := congrArg List.length hq; rw [Array.length_toList] at this; exact this) h
  | cons => rfl
theorem empty_true (s : ByteArray) (h : s.size = 0) : s.toList.isEmpty = true := by
  rw [ByteArray.toList_eq]
  cases hq : s.data.toList with
  | nil => rfl
  | cons => have := congrArg List.length hq; rw [Array.length_toList] at this; exact absurd (this.symm.trans h) (by simp)









































































































def u8 (x : Int) : UInt8 := UInt8.ofNat x.toNat
theorem fold_push : ∀ (ns : List Int) (s : ByteArray), ns.foldl (fun r n => r.push (UInt8.ofNat n.toNat)) s = ⟨(s.data.toList ++ ns.map u8).toArray⟩
  | [], s => by simp
  | n :: ns, s => by
    rw [List.foldl_cons, fold_push ns]
    simp [u8, ByteArray.push]
theorem conv_bytes {W : World} {g : Nat} {t : TypeId} (ns : List Int) (h : Blk W g t (ns.map (Value.int .u8)).toArray) (l c : Nat) (hl : l = ns.length) :
    (convert 32 9 (.slice (some ⟨g, 0, none⟩) l c)).run Tryd.prog W = .ok (.string ⟨(ns.map u8).toArray⟩) W := by
  subst hl
  rw [run_convert_bytes_string W _ _ 5 _ _ _ Tryd.underlying32 Tryd.underlying5 Tryd.underlying9]
  have hc : (loadCells ⟨g, 0, none⟩ ns.length).run Tryd.prog W = .ok (ns.map (Value.int .u8)).toArray W := by
    have := run_loadCells_list (P := Tryd.prog) W ⟨g, 0, none⟩ (ns.map (Value.int .u8)) (fun j v hv => by
      have hadd : (⟨g, 0, none⟩ : Addr).add j = ⟨g, j, none⟩ := by unfold Addr.add; split <;> simp_all
      rw [hadd, h.cell j]
      simpa using hv)
    simpa using this
  rw [run_bytesToString W ⟨g, 0, none⟩ ns.length c ns hc, fold_push]
  rfl
def b4 (n : Int) : List UInt8 := [u8 (n / 16777216), u8 (n / 65536 % 256), u8 (n / 256 % 256), u8 (n % 256)]







end Go.Proofs.YtmgkkbmcdnhdeabDoor
