/- node.Join, walked. (with what it needs) -/
import Derived.Test.YthimchhnhhchkaaGreatDoorM35
import Derived.Test.YthimchhnhhchkaaGreatDoorM36
import Derived.Test.YthimchhnhhchkaaGreatDoorM37
import Derived.Test.YthimchhnhhchkaaGreatDoorM21
import Derived.BigQuiet
import Derived.Deep.QuietTactic
namespace Go.Proofs.YthimchhnhhchkaaGreatDoor
open Go.RowKit Go.Lib
set_option linter.unusedSimpArgs false
set_option linter.unusedVariables false

def NSt.joinE (s : NSt) (id : ByteArray) (th : Int) : Int := if th < 1 ∨ 60 < th then 1 else if (idxOf s.D id).isSome = false then 4 else if 0 ≤ ixI (isSub id th) s.S then 5 else if s.S.length = 8 then 10 else 0
def NSt.plus (s : NSt) (id : ByteArray) (th : Int) : NSt := { s with S := s.S ++ [(id, th, false)] }
def NSt.joined (s : NSt) (id : ByteArray) (th : Int) : NSt := if s.joinE id th = 0 then (s.plus id th).tell else s
def NSt.joinN (s : NSt) (id : ByteArray) (th : Int) : List TriD := if s.joinE id th = 0 then (s.plus id th).notes else []
theorem lvEr_idx (D : List PeerD) (id : ByteArray) : lvEr D id = if (idxOf D id).isSome = true then 0 else 4 := by
  unfold lvEr
  rw [fnd_idx]
  cases hi : idxOf D id with
  | none => rfl
  | some k =>
    obtain ⟨hk, -, -⟩ := idx_some hi
    show (match D[k]? with | some _ => (0 : Int) | none => 4) = _
    rw [List.getElem?_eq_getElem hk]
    rfl
theorem NGood.plus {s : NSt} (h : NGood s) {id : ByteArray} {th : Int} (he : s.joinE id th = 0) : NGood (s.plus id th) := by
  unfold NSt.joinE at he
  by_cases h1 : th < 1 ∨ 60 < th
  · rw [if_pos h1] at he; cases he
  rw [if_neg h1] at he
  by_cases h2 : (idxOf s.D id).isSome = false
  · rw [if_pos h2] at he; cases he
  rw [if_neg h2] at he
  by_cases h3 : 0 ≤ ixI (isSub id th) s.S
  · rw [if_pos h3] at he; cases he
  rw [if_neg h3] at he
  by_cases h4 : s.S.length = 8
  · rw [if_pos h4] at he; cases he
  have h8 := h.eight
  refine ⟨h.id, h.cfg, h.now0, h.now1, h.seqs, h.drops0, h.drops1, h.ps, h.pv, by show (s.S ++ [_]).length ≤ 8; rw [List.length_append]; simp; omega, fun t ht => ?_⟩
  rcases List.mem_append.1 ht with ht | ht
  · exact h.th t ht
  · rw [List.mem_singleton.1 ht]
    cases hi : idxOf s.D id with
    | none => rw [hi] at h2; simp at h2
    | some k =>
      obtain ⟨hk, e, -⟩ := idx_some hi
      have hg := (h.ps.good _ (List.getElem_mem hk)).1
      have : idB id = true := by rw [← e]; exact hg
      exact ⟨(idB_ne this).2, by show 1 ≤ th; omega, by show th ≤ 60; omega⟩
/-- 'x = append(x, u..)' of one element, whatever the row, where the order is open -/
theorem step_app0 {P : Program} {w : World} {ops : Array Oper} {o : Oper} {a : Act} {K : Act → World → Prop} {Q : Exit → Act → World → Prop} {E : Prop} (hgd : o.guard = none) (s x : Operand) (t : TypeId)
    (ho : o.op = .call { callee := .builtin .append, args := #[s, x], argTypes := #[t, t] })
    (base : Nat) (e : TypeId) (i : TypeInfo) (z : Value) (size bytes : Nat) (ht : P.underlying t = some (.slice e)) (hi : P.info? e = some i) (hz : i.zero = some z)
    (hsize : i.size = size) (hby : i.bytes = bytes) (hzs : z.cells.size = size) (hsz : 0 < size)
    (v : Value) (n : Nat) (xs : List Value) (hs : a.eval s = v) (hown : w.ownsRow base e size v n xs)
    (B : Nat) (A : Option Addr) (m c : Nat) (news : List Value) (hx : a.eval x = .slice A m c) (hr : Reads w B size A m news) (h1 : ∀ u ∈ news, u.oneCell' = true)
    (h63 : n + m ≤ maxLen) (hbytes : (n + m) * bytes ≤ 140737488355328) (hbase : base ≤ w.heap.size)
    (h : ∀ v' w', w'.ownsRow base e size v' (n + m) (xs ++ news) → w.grownBy w' v.ownBlock → (v'.ownBlock = v.ownBlock ∨ v'.ownBlock = some w.heap.size) → K (a.put o.dst v') w') :
    if Region.wanted o (yielded ops a.tmps) = true then Oper.wp P o a w K Q else E := by
  have hw : Region.wanted o (yielded ops a.tmps) = true := by simp [Region.wanted, hgd]
  rw [if_pos hw]
  exact wp_append_any w s x t ho base e i z size bytes ht hi hz hsize hby hzs hsz v n xs hs hown B A m c news hx hr h1 h63 hbytes hbase h
theorem sub_info : (Tryz.prog.info? 187).map (fun i => (i.zero, i.size, i.bytes)) = some (some (.agg #[.string ByteArray.empty, .int .i64 0, .bool false]), 3, 32) := by kernel_rfl

section
variable {X : Nat → Prop} {w : World} {b pn pc : Nat} {A : Option Addr} {sv : Value} {l : List PeerT} {s : NSt}
set_option maxHeartbeats 1000000 in
set_option maxRecDepth 100000 in
theorem join_lo (h : NodeIs X w b A pn pc sv l s) (hg : NGood s) (id : ByteArray) (th : Int) (ht : th < 1) :
    Calls Tryz.prog 117 #[.pointer (some ⟨b, 0, none⟩), .string id, .int .i64 th] w (HrIs X b s [] 1 w) := by
  have HH := Lib.hid h
  have HG := Lib.hid hg
  have hbl := h.blk.lt
  have h8 := hg.eight
  have E0 := Lib.hid (((Env.start w).lay #[.string id] 9).lay #[.int .i64 th] 3)
  have N0 := Lib.hid (HoldIs.below h E0.out.bel)
  have E0B := Lib.hid E0.out.bel
  clear h hg E0
  go_enter Tryz.func117, Tryz.ntmps117
  go_wp2
  all_goals first
    | (exfalso; omega)
    | (refine bodyPost_ret (v := .tuple #[.slice none 0 0, .int .i64 1]) (by simp [results, Tryz.results117, go_sem]) rfl ?_; exact .no (HoldIs.at_ (HoldIs.grow N0.out)) (.of_below E0B.out))

set_option maxHeartbeats 1000000 in
set_option maxRecDepth 100000 in
theorem join_hi (h : NodeIs X w b A pn pc sv l s) (hg : NGood s) (id : ByteArray) (th : Int) (ht : 60 < th) :
    Calls Tryz.prog 117 #[.pointer (some ⟨b, 0, none⟩), .string id, .int .i64 th] w (HrIs X b s [] 1 w) := by
  have HH := Lib.hid h
  have HG := Lib.hid hg
  have hbl := h.blk.lt
  have h8 := hg.eight
  have E0 := Lib.hid (((Env.start w).lay #[.string id] 9).lay #[.int .i64 th] 3)
  have N0 := Lib.hid (HoldIs.below h E0.out.bel)
  have h1 : ¬ th < 1 := by omega
  have E0B := Lib.hid E0.out.bel
  clear h hg E0
  go_enter Tryz.func117, Tryz.ntmps117
  go_wp2
  all_goals first
    | (exfalso; omega)
    | (refine bodyPost_ret (v := .tuple #[.slice none 0 0, .int .i64 1]) (by simp [results, Tryz.results117, go_sem]) rfl ?_; exact .no (HoldIs.at_ (HoldIs.grow N0.out)) (.of_below E0B.out))

set_option maxHeartbeats 1000000 in
set_option maxRecDepth 100000 in
theorem join_none (h : NodeIs X w b A pn pc sv l s) (hg : NGood s) (id : ByteArray) (th : Int) (ht1 : 1 ≤ th) (ht2 : th ≤ 60) (hx : lvEr s.D id = 4) :
    Calls Tryz.prog 117 #[.pointer (some ⟨b, 0, none⟩), .string id, .int .i64 th] w (HrIs X b s [] 4 w) := by
  have HH := Lib.hid h
  have HG := Lib.hid hg
  have hbl := h.blk.lt
  have h8 := hg.eight
  have E0 := Lib.hid (((Env.start w).lay #[.string id] 9).lay #[.int .i64 th] 3)
  have N0 := Lib.hid (HoldIs.below h E0.out.bel)
  have h1 : ¬ th < 1 := by omega
  have h2 : ¬ 60 < th := by omega
  have HX := Lib.hid hx
  clear h hg hx
  go_enter Tryz.func117, Tryz.ntmps117
  go_wp2_with fail
  refine ((nlv_any N0.out HG.out id).mono ?_)
  rintro e' w1 ⟨rfl, hb1⟩
  rw [HX.out]
  have E1 := Lib.hid (E0.out.below hb1)
  have E1B := Lib.hid E1.out.bel
  have N1 := Lib.hid (HoldIs.below HH.out E1.out.bel)
  clear hb1
  go_wp2
  all_goals first
    | (exfalso; omega)
    | (refine bodyPost_ret (v := .tuple #[.slice none 0 0, .int .i64 4]) (by simp [results, Tryz.results117, go_sem]) rfl ?_; exact .no (HoldIs.at_ (HoldIs.grow N1.out)) (.of_below E1B.out))

set_option maxHeartbeats 1000000 in
set_option maxRecDepth 100000 in
theorem join_there (h : NodeIs X w b A pn pc sv l s) (hg : NGood s) (id : ByteArray) (th : Int) (ht1 : 1 ≤ th) (ht2 : th ≤ 60) (hx : lvEr s.D id = 0) (hi : decide (0 ≤ ixI (isSub id th) s.S) = true) :
    Calls Tryz.prog 117 #[.pointer (some ⟨b, 0, none⟩), .string id, .int .i64 th] w (HrIs X b s [] 5 w) := by
  have HH := Lib.hid h
  have HG := Lib.hid hg
  have hbl := h.blk.lt
  have h8 := hg.eight
  have E0 := Lib.hid (((Env.start w).lay #[.string id] 9).lay #[.int .i64 th] 3)
  have N0 := Lib.hid (HoldIs.below h E0.out.bel)
  have h1 : ¬ th < 1 := by omega
  have h2 : ¬ 60 < th := by omega
  have HX := Lib.hid hx
  have HI := Lib.hid hi
  clear h hg hx hi
  go_enter Tryz.func117, Tryz.ntmps117
  go_wp2_with fail
  refine ((nlv_any N0.out HG.out id).mono ?_)
  rintro e' w1 ⟨rfl, hb1⟩
  rw [HX.out]
  have E1 := Lib.hid (E0.out.below hb1)
  have E1B := Lib.hid E1.out.bel
  have N1 := Lib.hid (HoldIs.below HH.out E1.out.bel)
  clear hb1
  have b9 := N1.out.blk.cell 9
  have hbl1 := N1.out.blk.lt
  simp [nodeCs] at b9
  have x0 := E1.out.hd.cell 0
  have x1 := E1.out.tl.hd.cell 0
  simp at x0 x1
  have HC := Lib.hid (has_anyJ w.heap.size (w.heap.size + 1) (isSub id th) sv s.S (by omega) w1 N1.out.subs (join1_asksJ _ _ id th w1 E1.out.tl.hd (by have := E1.out.hd; simpa using this)))
  go_wp2_with fail
  refine HC.out.mono ?_
  rintro e' w2 ⟨rfl, hb2⟩
  rw [HI.out]
  have E2 := Lib.hid (E1.out.below hb2)
  have E2B := Lib.hid E2.out.bel
  have N2 := Lib.hid (HoldIs.below HH.out E2.out.bel)
  clear hb2 x0 x1 b9
  go_wp2
  all_goals first
    | (exfalso; omega)
    | (refine bodyPost_ret (v := .tuple #[.slice none 0 0, .int .i64 5]) (by simp [results, Tryz.results117, go_sem]) rfl ?_; exact .no (HoldIs.at_ (HoldIs.grow N2.out)) (.of_below E2B.out))

set_option maxHeartbeats 1000000 in
set_option maxRecDepth 100000 in
theorem join_full (h : NodeIs X w b A pn pc sv l s) (hg : NGood s) (id : ByteArray) (th : Int) (ht1 : 1 ≤ th) (ht2 : th ≤ 60) (hx : lvEr s.D id = 0) (hi : decide (0 ≤ ixI (isSub id th) s.S) = false) (hl : s.S.length = 8) :
    Calls Tryz.prog 117 #[.pointer (some ⟨b, 0, none⟩), .string id, .int .i64 th] w (HrIs X b s [] 10 w) := by
  have HH := Lib.hid h
  have HG := Lib.hid hg
  have hbl := h.blk.lt
  have h8 := hg.eight
  have E0 := Lib.hid (((Env.start w).lay #[.string id] 9).lay #[.int .i64 th] 3)
  have N0 := Lib.hid (HoldIs.below h E0.out.bel)
  have h1 : ¬ th < 1 := by omega
  have h2 : ¬ 60 < th := by omega
  have HX := Lib.hid hx
  have HI := Lib.hid hi
  have HL := Lib.hid hl
  clear h hg hx hi hl
  go_enter Tryz.func117, Tryz.ntmps117
  go_wp2_with fail
  refine ((nlv_any N0.out HG.out id).mono ?_)
  rintro e' w1 ⟨rfl, hb1⟩
  rw [HX.out]
  have E1 := Lib.hid (E0.out.below hb1)
  have E1B := Lib.hid E1.out.bel
  have N1 := Lib.hid (HoldIs.below HH.out E1.out.bel)
  clear hb1
  have b9 := N1.out.blk.cell 9
  have hbl1 := N1.out.blk.lt
  simp [nodeCs] at b9
  have x0 := E1.out.hd.cell 0
  have x1 := E1.out.tl.hd.cell 0
  simp at x0 x1
  have HC := Lib.hid (has_anyJ w.heap.size (w.heap.size + 1) (isSub id th) sv s.S (by omega) w1 N1.out.subs (join1_asksJ _ _ id th w1 E1.out.tl.hd (by have := E1.out.hd; simpa using this)))
  go_wp2_with fail
  refine HC.out.mono ?_
  rintro e' w2 ⟨rfl, hb2⟩
  rw [HI.out]
  have E2 := Lib.hid (E1.out.below hb2)
  have E2B := Lib.hid E2.out.bel
  have N2 := Lib.hid (HoldIs.below HH.out E2.out.bel)
  clear hb2 x0 x1 b9
  have b9 := N2.out.blk.cell 9
  have hbl2 := N2.out.blk.lt
  simp [nodeCs] at b9
  obtain ⟨As, cs, hsv⟩ := ownsRow_len N2.out.subs.own
  subst hsv
  rw [HL.out] at b9
  go_wp2
  all_goals first
    | (exfalso; omega)
    | (refine bodyPost_ret (v := .tuple #[.slice none 0 0, .int .i64 10]) (by simp [results, Tryz.results117, go_sem]) rfl ?_; exact .no (HoldIs.at_ (HoldIs.grow N2.out)) (.of_below E2B.out))

set_option maxHeartbeats 1000000 in
set_option maxRecDepth 100000 in
theorem join_ok (h : NodeIs X w b A pn pc sv l s) (hg : NGood s) (id : ByteArray) (th : Int) (ht1 : 1 ≤ th) (ht2 : th ≤ 60) (hx : lvEr s.D id = 0) (hi : decide (0 ≤ ixI (isSub id th) s.S) = false) (hl : s.S.length ≠ 8) (hg2 : NGood (s.plus id th)) :
    Calls Tryz.prog 117 #[.pointer (some ⟨b, 0, none⟩), .string id, .int .i64 th] w (HrIs X b (s.plus id th).tell (s.plus id th).notes 0 w) := by
  have HH := Lib.hid h
  have HG := Lib.hid hg
  have hbl := h.blk.lt
  have h8 := hg.eight
  have E0 := Lib.hid (((Env.start w).lay #[.string id] 9).lay #[.int .i64 th] 3)
  have N0 := Lib.hid (HoldIs.below h E0.out.bel)
  have h1 : ¬ th < 1 := by omega
  have h2 : ¬ 60 < th := by omega
  obtain ⟨i0, hi0, hz0, hz1, hz2⟩ := info_parts sub_info
  have HX := Lib.hid hx
  have HI := Lib.hid hi
  have HG2 := Lib.hid hg2
  clear h hg hx hi hg2
  go_enter Tryz.func117, Tryz.ntmps117
  go_wp2_with fail
  refine ((nlv_any N0.out HG.out id).mono ?_)
  rintro e' w1 ⟨rfl, hb1⟩
  rw [HX.out]
  have E1 := Lib.hid (E0.out.below hb1)
  have E1B := Lib.hid E1.out.bel
  have N1 := Lib.hid (HoldIs.below HH.out E1.out.bel)
  clear hb1
  have b9 := N1.out.blk.cell 9
  have hbl1 := N1.out.blk.lt
  simp [nodeCs] at b9
  have x0 := E1.out.hd.cell 0
  have x1 := E1.out.tl.hd.cell 0
  simp at x0 x1
  have HC := Lib.hid (has_anyJ w.heap.size (w.heap.size + 1) (isSub id th) sv s.S (by omega) w1 N1.out.subs (join1_asksJ _ _ id th w1 E1.out.tl.hd (by have := E1.out.hd; simpa using this)))
  go_wp2_with fail
  refine HC.out.mono ?_
  rintro e' w2 ⟨rfl, hb2⟩
  rw [HI.out]
  have E2 := Lib.hid (E1.out.below hb2)
  have E2B := Lib.hid E2.out.bel
  have N2 := Lib.hid (HoldIs.below HH.out E2.out.bel)
  clear hb2 x0 x1 b9
  have b9 := N2.out.blk.cell 9
  have hbl2 := N2.out.blk.lt
  simp [nodeCs] at b9
  obtain ⟨As, cs, hsv⟩ := ownsRow_len N2.out.subs.own
  subst hsv
  obtain ⟨n, hn⟩ : ∃ n, s.S.length = n := ⟨_, rfl⟩
  rw [hn] at b9 hl h8
  have hl8 : ¬ ((n : Int) = 8) := by omega
  have HN := Lib.hid hn
  have y0 := E2.out.hd.cell 0
  have y1 := E2.out.tl.hd.cell 0
  simp at y0 y1
  clear hn
  go_upto_region 37 with fail
  have OWN := Lib.hid (show w2.ownsRow 0 187 3 (.slice As n cs) n (cells3 s.S) by have := N2.out.subs.own; rw [HN.out] at this; exact this)
  have hbnd : (Value.slice As n cs).ownBlock ≠ some b := fun e => by have := (N2.out.xs b (by rw [HN.out]; exact e)).2; exact this rfl
  have hbx := Lib.hid (show ∀ k, (Value.slice As n cs).ownBlock = some k → k < w.heap.size from fun k hk => HH.out.subs.lt k (by rw [HN.out]; exact hk))
  have HS := Lib.hid (show ∀ w', Kept (fun k => (Value.slice As n cs).ownBlock = some k) w2 w' → (Kept (fun k => (Value.slice As n cs).ownBlock = some k) w2 w' ∧ w'.cell? ⟨b, 9, none⟩ = some (.slice As n cs) ∧ w'.cell? ⟨w.heap.size, 0, none⟩ = some (.string id) ∧ w'.cell? ⟨w.heap.size + 1, 0, none⟩ = some (.int .i64 th) ∧ w'.frozen? ⟨b, 9, none⟩ = false)
    from fun w' h => ⟨h, h.cell b9 hbnd, h.cell y1 (fun e => by have h5 : w.heap.size < w.heap.size := hbx.out _ e; omega), h.cell y0 (fun e => by have h5 : w.heap.size + 1 < w.heap.size := hbx.out _ e; omega), (h.blk N2.out.blk hbnd).frozen 9⟩)
  have HRE := Lib.hid (fun w' => reads_tri w' 187 (id, th, false))
  have HO1 := Lib.hid (oneCell_3 [(id, th, false)])
  have hs2 := E2.out.bel.size
  have f9 := N2.out.blk.frozen 9
  have HS9 := Lib.hid (show ∀ w', Kept (fun k => (Value.slice As n cs).ownBlock = some k) w2 w' → w'.cell? ⟨b, 9, none⟩ = some (.slice As n cs) ∧ w'.frozen? ⟨b, 9, none⟩ = false from fun w' h => ⟨h.cell b9 hbnd, (h.blk N2.out.blk hbnd).frozen 9⟩)
  go_region_law ((refine step_app0 (by rfl) _ _ _ (by rfl) 0 187 i0 (.agg #[.string ByteArray.empty, .int .i64 0, .bool false]) 3 32 Tryz.underlying165 hi0 hz0 hz1 hz2 rfl (by decide) _ _ _ (by rfl) (OWN.out.drew.alloc _) _ _ 1 _ _ (by rfl) (HRE.out _) HO1.out (by unfold maxLen; omega) (by omega) (Nat.zero_le _) ?_; intro v9 w9 hown9 hgr9 hbk9; obtain ⟨A9, c9, rfl⟩ := ownsRow_len hown9; have hK9 : Kept (fun k => (Value.slice As n cs).ownBlock = some k) w2 w9 := Kept.grown (by first | exact (Kept.refl _ _).alloc _ | exact ((Kept.refl _ _).drew).alloc _) hgr9 (fun k hk => .inl hk); obtain ⟨z9, zf9⟩ := HS9.out w9 hK9))
  all_goals
    have K9 := Lib.hid ((Kept.of_below (X := fun k => (Value.slice As n cs).ownBlock = some k) E2B.out).trans hK9)
    have BK := Lib.hid hbk9
    have SA := Lib.hid (show SubsAt w9 (.slice A9 (n + 1) c9) (s.S ++ [(id, th, false)]) from .of_own (by rw [cells3_app]; exact hown9))
    have NJ := Lib.hid (show NodeIs (grow X w w9) (w9.setCell ⟨b, 9, none⟩ (.slice A9 (n + 1) c9)) b A pn pc (.slice A9 (n + 1) c9) l (s.plus id th) from HoldIs.join (mk' := nodeCs s.c s.now s.seq s.drops) (i := 9) HH.out (by rw [HN.out]; exact K9.out) SA.out (by rw [HN.out]; rcases BK.out with e | e; exact .inl e; exact .inr (fun g hg => by rw [e] at hg; simp at hg; omega)) rfl)
    have KJ := Lib.hid ((K9.out.mono (fun k hk => .inl (HH.out.xs k (by rw [HN.out]; exact hk)).1) : Kept X w w9).setCell (a := ⟨b, 9, none⟩) (.inl HH.out.xb) (.slice A9 (n + 1) c9))
    have hsz : (w9.setCell ⟨b, 9, none⟩ (.slice A9 (n + 1) c9)).heap.size = w9.heap.size := by simp [World.setCell]
    have hw9 := K9.out.size
    clear hK9 hbk9 hown9 hgr9 z9 zf9 b9 y0 y1 f9
    go_wp2_with fail
    refine (told_any NJ.out HG2.out).mono ?_
    rintro e' w6 ⟨A6, c6, rfl, hown6, hn6, hk6⟩
    have FIN := Lib.hid (show HrIs X b (s.plus id th).tell (s.plus id th).notes 0 w (.returned (.tuple #[.slice A6 (s.plus id th).notes.length c6, .int .i64 0])) w6 from
      ⟨A6, c6, rfl, ownsRow_base hown6 (by rw [hsz]; exact hw9), HoldAt.wide (HoldIs.at_ hn6) (grow_of' (by have := hk6.size; rw [hsz] at this; exact this)) (fun k hk => hk.2), KJ.out.then hk6 (fun k hk => hk.1)⟩)
    clear hown6 hn6 hk6
    go_wp2
    exact bodyPost_ret (v := .tuple #[.slice A6 (s.plus id th).notes.length c6, .int .i64 0]) (by simp [results, Tryz.results117, go_sem]) rfl FIN.out

theorem join_any (h : NodeIs X w b A pn pc sv l s) (hg : NGood s) (id : ByteArray) (th : Int) :
    Calls Tryz.prog 117 #[.pointer (some ⟨b, 0, none⟩), .string id, .int .i64 th] w (HrIs X b (s.joined id th) (s.joinN id th) (s.joinE id th) w) := by
  have hp := fun he => hg.plus (id := id) (th := th) he
  have hle := lvEr_idx s.D id
  unfold NSt.joined NSt.joinN
  unfold NSt.joinE at hp ⊢
  by_cases h1 : th < 1 ∨ 60 < th
  · rw [if_pos h1, if_neg (by decide), if_neg (by decide)]
    rcases h1 with h1 | h1
    · exact join_lo h hg id th h1
    · exact join_hi h hg id th h1
  rw [if_neg h1] at hp ⊢
  by_cases h2 : (idxOf s.D id).isSome = false
  · rw [if_pos h2, if_neg (by decide), if_neg (by decide)]
    exact join_none h hg id th (by omega) (by omega) (by rw [hle, h2]; rfl)
  rw [if_neg h2] at hp ⊢
  have h2 : (idxOf s.D id).isSome = true := by
    cases hq : (idxOf s.D id).isSome
    · exact absurd hq h2
    · rfl
  rw [h2, if_pos rfl] at hle
  by_cases h3 : 0 ≤ ixI (isSub id th) s.S
  · rw [if_pos h3, if_neg (by decide), if_neg (by decide)]
    exact join_there h hg id th (by omega) (by omega) hle (by simpa using h3)
  rw [if_neg h3] at hp ⊢
  by_cases h4 : s.S.length = 8
  · rw [if_pos h4, if_neg (by decide), if_neg (by decide)]
    exact join_full h hg id th (by omega) (by omega) hle (by simpa using h3) h4
  rw [if_neg h4] at hp ⊢
  rw [if_pos rfl, if_pos rfl]
  exact join_ok h hg id th (by omega) (by omega) hle (by simpa using h3) h4 (hp rfl)
theorem NGood.joined {s : NSt} (h : NGood s) (id : ByteArray) (th : Int) : NGood (s.joined id th) := by
  unfold NSt.joined
  split
  · rename_i he; exact (h.plus he).tell
  · exact h
end
end Go.Proofs.YthimchhnhhchkaaGreatDoor

namespace Go.Proofs.YthimchhnhhchkaaGreatDoor
open Go.RowKit Go.Lib
set_option linter.unusedSimpArgs false
set_option linter.unusedVariables false

/-- the texts of K beats behind the a-th -/
def beatsOf (c : CfgD) (a : Int) (K : Nat) : List ByteArray := (List.range K).map fun (j : Nat) => codeS c.1 (cfi c) (a + 1 + j)
theorem beatsOf_len (c : CfgD) (a : Int) (K : Nat) : (beatsOf c a K).length = K := by unfold beatsOf; simp
theorem beatsOf_succ (c : CfgD) (a : Int) (K : Nat) : beatsOf c a (K + 1) = beatsOf c a K ++ [codeS c.1 (cfi c) (a + 1 + K)] := by unfold beatsOf; rw [List.range_succ, List.map_append]; rfl
def cellsTx (l : List ByteArray) : List Value := l.map Value.string
theorem cellsTx_app (l m : List ByteArray) : cellsTx (l ++ m) = cellsTx l ++ cellsTx m := by unfold cellsTx; simp
theorem cellsTx_len (l : List ByteArray) : (cellsTx l).length = l.length := by unfold cellsTx; simp
theorem oneCell_T (l : List ByteArray) : ∀ u ∈ cellsTx l, u.oneCell' = true := by
  intro u hu
  obtain ⟨x, -, rfl⟩ := List.mem_map.1 hu
  rfl
/-- how many beats a tick brings -/
def NSt.many (s : NSt) (ticks : Int) : Nat := ((s.now + ticks) / cfe s.c - s.now / cfe s.c).toNat
def NSt.ticked (s : NSt) (ticks : Int) : NSt := { s with now := s.now + ticks, seq := (s.now + ticks) / cfe s.c }
/-- what Tick answers: an error, or else the texts, what is told, and the state -/
def NSt.tickE (s : NSt) (ticks : Int) : Int := if ticks < 1 ∨ 1073741824 < ticks then 1 else if 1073741824 < s.now + ticks ∨ 64 ≤ ticks / cfe s.c then 2 else 0
theorem NGood.ticked {s : NSt} (h : NGood s) {ticks : Int} (he : s.tickE ticks = 0) : NGood (s.ticked ticks) := by
  unfold NSt.tickE at he
  have hc := h.cfg
  unfold CfgIn at hc
  by_cases h1 : ticks < 1 ∨ 1073741824 < ticks
  · rw [if_pos h1] at he; cases he
  rw [if_neg h1] at he
  by_cases h2 : 1073741824 < s.now + ticks ∨ 64 ≤ ticks / cfe s.c
  · rw [if_pos h2] at he; cases he
  have h0 := h.now0
  exact ⟨h.id, h.cfg, by show 0 ≤ s.now + ticks; omega, by show s.now + ticks ≤ 1073741824; omega, rfl, h.drops0, h.drops1, h.ps, fun d hd => ⟨(h.pv d hd).1, by have := (h.pv d hd).2; show d.2.2.2.2 ≤ s.now + ticks; omega⟩, h.eight, h.th⟩

set_option maxHeartbeats 400000 in
set_option maxRecDepth 100000 in
theorem tick_arg (b : Nat) (s : NSt) (ticks : Int) (ht : ticks < 1 ∨ 1073741824 < ticks) (w : World) :
    Calls Tryz.prog 113 #[.pointer (some ⟨b, 0, none⟩), .int .i64 ticks] w fun e w' => e = .returned (.tuple #[.slice none 0 0, .slice none 0 0, .int .i64 1]) ∧ w = w' := by
  rcases ht with h | h
  · go_enter Tryz.func113, Tryz.ntmps113
    go_wp2
    all_goals first
      | (exfalso; omega)
      | exact bodyPost_ret (v := .tuple #[.slice none 0 0, .slice none 0 0, .int .i64 1]) (by simp [results, Tryz.results113, go_sem]) rfl ⟨rfl, rfl⟩
  · have h1 : ¬ ticks < 1 := by omega
    go_enter Tryz.func113, Tryz.ntmps113
    go_wp2
    all_goals first
      | (exfalso; omega)
      | exact bodyPost_ret (v := .tuple #[.slice none 0 0, .slice none 0 0, .int .i64 1]) (by simp [results, Tryz.results113, go_sem]) rfl ⟨rfl, rfl⟩

set_option maxHeartbeats 400000 in
set_option maxRecDepth 100000 in
theorem tick_large (b : Nat) (s : NSt) (hc : CfgIn s.c) (pv sv : Value) (ticks : Int) (h1 : 1 ≤ ticks) (h2 : ticks ≤ 1073741824) (h3 : 0 ≤ s.now) (h4 : s.now ≤ 1073741824) (hl : 1073741824 < s.now + ticks ∨ 64 ≤ ticks / cfe s.c) (w : World) (hb : Blk w b 167 (nodeCs s.c s.now s.seq s.drops pv sv)) :
    Calls Tryz.prog 113 #[.pointer (some ⟨b, 0, none⟩), .int .i64 ticks] w fun e w' => e = .returned (.tuple #[.slice none 0 0, .slice none 0 0, .int .i64 2]) ∧ w = w' := by
  unfold CfgIn at hc
  have b2 := hb.cell 2
  have b5 := hb.cell 5
  have hbl := hb.lt
  simp [nodeCs] at b2 b5
  obtain ⟨-, -, he1, he2, -⟩ := hc
  generalize cfe s.c = ev at *
  generalize s.now = now at *
  clear hb
  by_cases hq : 1073741824 < now + ticks
  · go_enter Tryz.func113, Tryz.ntmps113
    go_wp2
    all_goals first
      | (exfalso; omega)
      | exact bodyPost_ret (v := .tuple #[.slice none 0 0, .slice none 0 0, .int .i64 2]) (by simp [results, Tryz.results113, go_sem]) rfl ⟨rfl, rfl⟩
  · have hq2 : 64 ≤ ticks / ev := by omega
    clear hl
    go_enter Tryz.func113, Tryz.ntmps113
    go_wp2
    all_goals first
      | (exfalso; omega)
      | exact bodyPost_ret (v := .tuple #[.slice none 0 0, .slice none 0 0, .int .i64 2]) (by simp [results, Tryz.results113, go_sem]) rfl ⟨rfl, rfl⟩
/-- the answer of a Tick that goes -/
def TickIs (X : Nat → Prop) (b : Nat) (A : Option Addr) (pn pc : Nat) (sv : Value) (l : List PeerT) (s : NSt) (ticks : Int) (w : World) (e : Ending) (w' : World) : Prop :=
  ∃ A1 c1 A2 c2, e = .returned (.tuple #[.slice A1 (s.many ticks) c1, .slice A2 (s.ticked ticks).notes.length c2, .int .i64 0]) ∧ w'.ownsRow w.heap.size 9 1 (.slice A1 (s.many ticks) c1) (s.many ticks) (cellsTx (beatsOf s.c s.seq (s.many ticks))) ∧
    w'.ownsRow w.heap.size 146 3 (.slice A2 (s.ticked ticks).notes.length c2) (s.ticked ticks).notes.length (cells3 (s.ticked ticks).notes) ∧ NodeIs X w' b A pn pc sv l (s.ticked ticks).tell ∧ Kept X w w'
theorem str_info : (Tryz.prog.info? 9).map (fun i => (i.zero, i.size, i.bytes)) = some (some (.string ByteArray.empty), 1, 16) := by kernel_rfl
theorem reads_str (w : World) (e : TypeId) (x : ByteArray) : Reads (w.alloc (.cells #[.string x] e)) (w.heap.size + 1) 1 (some ⟨w.heap.size, 0, none⟩) 1 (cellsTx [x]) :=
  ⟨rfl, fun _ => ⟨_, rfl, by simp, fun j u hj => by
    have hc := (Blk.new w e #[.string x]).cell j
    have hadd : (⟨w.heap.size, 0, none⟩ : Addr).add j = ⟨w.heap.size, j, none⟩ := by unfold Addr.add; split <;> simp_all
    rw [hadd, hc, ← hj]
    simp [cellsTx]⟩⟩
/-- in the loop, after j beats -/
def KRel (X : Nat → Prop) (b : Nat) (A : Option Addr) (pn pc : Nat) (sv : Value) (l : List PeerT) (s : NSt) (w : World) (j : Nat) (v : Value) (wr : World) : Prop :=
  wr.ownsRow w.heap.size 9 1 v j (cellsTx (beatsOf s.c s.seq j)) ∧ NodeIs X wr b A pn pc sv l { s with seq := s.seq + j } ∧ Kept X w wr
theorem KRel.next {X : Nat → Prop} {b pn pc j : Nat} {A : Option Addr} {sv v v' : Value} {l : List PeerT} {s : NSt} {w wr w1 w2 : World} (h : KRel X b A pn pc sv l s w j v wr) (hX : ∀ k, X k → k < w.heap.size)
    (hb : Below wr.heap.size (wr.setCell ⟨b, 6, none⟩ (.int .i64 (s.seq + j + 1))) w1) (hb2 : Below w.heap.size w1 w2) (ho : w2.ownsRow w.heap.size 9 1 v' (j + 1) (cellsTx (beatsOf s.c s.seq j) ++ cellsTx [codeS s.c.1 (cfi s.c) (s.seq + 1 + j)])) : KRel X b A pn pc sv l s w (j + 1) v' w2 := by
  have h1 : NodeIs X (wr.setCell ⟨b, 6, none⟩ (.int .i64 (s.seq + j + 1))) b A pn pc sv l { s with seq := s.seq + (j + 1 : Nat) } := HoldIs.set h.2.1 6 _ (by show _ = nodeCs s.c s.now (s.seq + (j + 1 : Nat)) s.drops _ _; rw [show s.seq + ((j + 1 : Nat) : Int) = s.seq + j + 1 by omega]; rfl)
  have h2 : NodeIs X w1 b A pn pc sv l { s with seq := s.seq + (j + 1 : Nat) } := HoldIs.below h1 (by simpa [World.setCell] using hb)
  have h3 : Kept X w w1 := (h.2.2.setCell (a := ⟨b, 6, none⟩) (.inl h.2.1.xb) _).step (by simpa [World.setCell] using hb)
  exact ⟨by rw [beatsOf_succ, cellsTx_app]; exact ho, HoldIs.kept (X := fun k => w.heap.size ≤ k) h2 ⟨hb2.os, hb2.tape, hb2.output, hb2.size, fun k hk hx => hb2.block k (by omega)⟩ (fun k hk hx => by have := hX k hx; omega), h3.low hb2⟩

set_option maxHeartbeats 1000000 in
set_option maxRecDepth 100000 in
theorem tick_ok {X : Nat → Prop} {w : World} {b pn pc : Nat} {A : Option Addr} {sv : Value} {l : List PeerT} {s : NSt} (h : NodeIs X w b A pn pc sv l s) (hg : NGood s) (ticks : Int) (he : s.tickE ticks = 0) :
    Calls Tryz.prog 113 #[.pointer (some ⟨b, 0, none⟩), .int .i64 ticks] w (TickIs X b A pn pc sv l s ticks w) := by
  obtain ⟨i0, hi, hz0, hz1, hz2⟩ := info_parts str_info
  have hgt := hg.ticked he
  unfold NSt.tickE at he
  have hc := hg.cfg
  unfold CfgIn at hc
  obtain ⟨-, -, he1, he2, -⟩ := hc
  by_cases h1 : ticks < 1 ∨ 1073741824 < ticks
  · rw [if_pos h1] at he; cases he
  rw [if_neg h1] at he
  by_cases h2 : 1073741824 < s.now + ticks ∨ 64 ≤ ticks / cfe s.c
  · rw [if_pos h2] at he; cases he
  have h0 := hg.now0
  have hn1 := hg.now1
  have hnt : s.now + ticks ≤ 1073741824 := by omega
  have hq64 : ticks / cfe s.c < 64 := by omega
  have ht1 : 1 ≤ ticks := by omega
  have ht2 : ticks ≤ 1073741824 := by omega
  have q0 : 0 ≤ s.now / cfe s.c := Int.ediv_nonneg h0 (by omega)
  have q1 : s.now / cfe s.c * cfe s.c ≤ s.now := Int.ediv_mul_le _ (by omega)
  have q2 : s.now < (s.now / cfe s.c + 1) * cfe s.c := Int.lt_ediv_add_one_mul_self _ (by omega)
  have q3 : s.now / cfe s.c ≤ (s.now + ticks) / cfe s.c := Int.ediv_le_ediv (by omega) (by omega)
  have q4 : (s.now + ticks) / cfe s.c * cfe s.c ≤ s.now + ticks := Int.ediv_mul_le _ (by omega)
  have q5 : (s.now + ticks) / cfe s.c ≤ 1073741824 := by
    have := Int.ediv_le_self (cfe s.c) (show 0 ≤ s.now + ticks by omega); omega
  have q6 : (s.now + ticks) / cfe s.c - s.now / cfe s.c ≤ 64 := by
    have a1 : ticks < (ticks / cfe s.c + 1) * cfe s.c := Int.lt_ediv_add_one_mul_self _ (by omega)
    have a2 : (s.now / cfe s.c + ticks / cfe s.c + 2) * cfe s.c = (s.now / cfe s.c + 1) * cfe s.c + (ticks / cfe s.c + 1) * cfe s.c := by rw [← Int.add_mul]; congr 1; omega
    have a3 := Int.ediv_lt_of_lt_mul (a := s.now + ticks) (b := s.now / cfe s.c + ticks / cfe s.c + 2) (c := cfe s.c) (by omega) (by omega)
    omega
  have HQM := Lib.hid (fun (j : Nat) => (Int.le_ediv_iff_mul_le (a := s.now / cfe s.c + 1 + j) (b := s.now + ticks) (c := cfe s.c) (by omega)))
  have HM := Lib.hid (show ((s.many ticks : Nat) : Int) = (s.now + ticks) / cfe s.c - s.now / cfe s.c by unfold NSt.many; omega)
  have HSQ := Lib.hid hg.seqs
  have HG := Lib.hid hgt
  have HID := Lib.hid hg.id
  have HX := Lib.hid h.xlt
  have HCF := Lib.hid hg.cfg
  have HH := Lib.hid h
  have b2 := h.blk.cell 2
  have b5 := h.blk.cell 5
  have hbl := h.blk.lt
  simp [nodeCs] at b2 b5
  clear h hg he h1 h2 hgt
  obtain ⟨av, hav⟩ : ∃ av, s.now / cfe s.c = av := ⟨_, rfl⟩
  obtain ⟨mv, hmv⟩ : ∃ mv, (s.now + ticks) / cfe s.c = mv := ⟨_, rfl⟩
  rw [hav] at q0 q1 q2 q3 q6
  rw [hmv] at q3 q4 q5 q6
  simp only [hav, hmv] at HQM HM
  have q7 : (av + 1) * cfe s.c = av * cfe s.c + cfe s.c := by rw [Int.add_mul]; omega
  have q8 : 0 ≤ av * cfe s.c := Int.mul_nonneg q0 (by omega)
  have q9 : (av + 1) * cfe s.c ≤ 1090519040 := by omega
  have w1 : IntKind.i64.wrap (av + 1) = av + 1 := by rw [IntKind.wrap_i64]; omega
  have w2 : IntKind.i64.wrap ((av + 1) * cfe s.c) = (av + 1) * cfe s.c := by rw [IntKind.wrap_i64]; omega
  have w3 : s.now.tdiv (cfe s.c) = av := by rw [Int.tdiv_eq_ediv_of_nonneg h0]; exact hav
  have HAV := Lib.hid hav
  have HMV := Lib.hid hmv
  have AT0 := Lib.hid q7
  clear hav hmv q7 q2 q4
  go_enter Tryz.func113, Tryz.ntmps113
  go_wp2_with fail
  go_quiet (fail)
  have hBd : Below w.heap.size w (w.drewN nq) := below_drewN (Below.refl _ _) nq
  have ST := Lib.hid (show KRel X b A pn pc sv l s w 0 (.slice none 0 0) (w.drewN nq) from ⟨World.ownsRow_nil _ _ _ _, by have := HoldIs.below HH.out hBd; show NodeIs X _ b A pn pc sv l { s with seq := s.seq + (0 : Nat) }; rw [show s.seq + ((0 : Nat) : Int) = s.seq by omega]; exact this, .of_below hBd⟩)
  generalize w.drewN nq = w0 at *
  clear hBd b2 b5
  go_wp2_with fail
  go_loopw [7, 8] (fun v iv wr => ∃ (j : Nat) (t : Int), j ≤ s.many ticks ∧ iv = .int .i64 t ∧ 0 ≤ t ∧ t ≤ 1090519040 ∧ Hid (t = (av + 1 + j) * cfe s.c) ∧ KRel X b A pn pc sv l s w j v wr) (fun _ iv _ => (2000000000 - RowKit.intOf iv).toNat)
  case atStart => exact ⟨0, (av + 1) * cfe s.c, Nat.zero_le _, rfl, by rw [AT0.out]; omega, q9, Lib.hid (by rw [show av + 1 + ((0 : Nat) : Int) = av + 1 by omega]), ST.out⟩
  case round =>
    obtain ⟨j, t, hj, rfl, ht0, ht1b, HT, hrel⟩ := hrel
    obtain ⟨wo, rfl⟩ : ∃ wo, wo = wr := ⟨_, rfl⟩
    have RL := Lib.hid hrel
    clear hrel w1 w2 w3
    obtain ⟨Av, cv, rfl⟩ := ownsRow_len RL.out.1
    have hblo := RL.out.2.1.blk.lt
    have b0 := RL.out.2.1.blk.cell 0
    have b1 := RL.out.2.1.blk.cell 1
    have b2 := RL.out.2.1.blk.cell 2
    have b5 := RL.out.2.1.blk.cell 5
    have b6 := RL.out.2.1.blk.cell 6
    have f6 := RL.out.2.1.blk.frozen 6
    simp [nodeCs] at b0 b1 b2 b5 b6
    by_cases hlt : t ≤ s.now + ticks
    · have hjm : j < s.many ticks := by
        have e1 := (HQM.out j).2 (by rw [← HT.out]; exact hlt)
        have e2 := HM.out; omega
      have hNT := Lib.hid (show t + cfe s.c = (av + 1 + (j + 1 : Nat)) * cfe s.c by rw [HT.out, show av + 1 + ((j + 1 : Nat) : Int) = (av + 1 + j) + 1 by omega, Int.add_mul (av + 1 + j) 1]; omega)
      have hsq : s.seq = av := HSQ.out.trans HAV.out
      have hjb : (j : Int) < 64 := by have := HM.out; omega
      have HBE := Lib.hid (show beatE s.c.1 (cfi s.c) (s.seq + j + 1) = 0 by
        have := HCF.out; unfold CfgIn at this
        unfold beatE; rw [if_pos HID.out, if_pos (by omega)])
      have hs0 : 0 ≤ s.seq := by omega
      have hs1 : s.seq ≤ 1073741824 := by omega
      clear hsq
      go_upto_region 74 with fail
      have B2 := Lib.hid (HoldIs.set (mk' := nodeCs s.c s.now (s.seq + j + 1) s.drops) RL.out.2.1 6 (.int .i64 (s.seq + j + 1)) rfl)
      have OWN := Lib.hid (ownsRow_setCell RL.out.1 (a := ⟨b, 6, none⟩) hbl (.int .i64 (s.seq + j + 1)))
      have NX := Lib.hid (fun w1 w2 v' hb hb2 ho => RL.out.next (w1 := w1) (w2 := w2) (v' := v') HX.out hb hb2 ho)
      have hsz0 : w.heap.size ≤ wo.heap.size := RL.out.2.2.size
      have hszs : (wo.setCell ⟨b, 6, none⟩ (.int .i64 (s.seq + j + 1))).heap.size = wo.heap.size := by simp [World.setCell]
      clear b0 b1 b2 b5 b6 f6
      generalize hW2 : wo.setCell ⟨b, 6, none⟩ (.int .i64 (s.seq + j + 1)) = w2 at *
      have HW2 := Lib.hid hW2
      clear hW2
      have HB2 := Lib.hid B2.out.blk
      have hbl2 := B2.out.blk.lt
      have HS := Lib.hid (show ∀ w', Below w2.heap.size w2 w' → (Below w2.heap.size w2 w' ∧ w'.cell? ⟨b, 0, none⟩ = some (.string s.c.1) ∧ w'.cell? ⟨b, 1, none⟩ = some (.int .i64 (cfi s.c)) ∧ w'.cell? ⟨b, 6, none⟩ = some (.int .i64 (s.seq + j + 1)))
        from fun w' h => ⟨h, (HB2.out.below h hbl2).cell 0, (HB2.out.below h hbl2).cell 1, (HB2.out.below h hbl2).cell 6⟩)
      have HEN := Lib.hid (fun W => enc_ok s.c.1 (cfi s.c) (s.seq + j + 1) HBE.out W)
      go_region_held3 (fun w' => Below w2.heap.size w2 w' ∧ w'.cell? ⟨b, 0, none⟩ = some (.string s.c.1) ∧ w'.cell? ⟨b, 1, none⟩ = some (.int .i64 (cfi s.c)) ∧ w'.cell? ⟨b, 6, none⟩ = some (.int .i64 (s.seq + j + 1)))
        ((refine HS.out _ ?_; repeat (first | (with_reducible exact hL3) | (with_reducible exact Below.refl _ _) | (with_reducible refine Below.al5 ?_) | (with_reducible refine Below.drew ?_))))
        ((go_at_call 140; (with_reducible refine (HEN.out _).mono ?_); rintro e' w3 ⟨rfl, hb3⟩; have hL3 : Below w2.heap.size w2 w3 := Below.thru5 (by repeat (first | (with_reducible exact Below.refl _ _) | (with_reducible refine Below.al5 ?_) | (with_reducible refine Below.drew ?_))) hb3))
      all_goals
        have R3 := Lib.hid hL3
        have OW3 := Lib.hid (ownsRow_below OWN.out hL3)
        have hsz3 : w.heap.size ≤ w3.heap.size := by have := hL3.size; omega
        have N3 := Lib.hid (HoldIs.below B2.out hL3)
        clear hb3 hL3
        have b2 := N3.out.blk.cell 2
        have b5 := N3.out.blk.cell 5
        have hbl3 := N3.out.blk.lt
        simp [nodeCs] at b2 b5
        have hbs : (j : Int) + 1 ≤ 64 := by omega
        go_wp2_with (at_builtin; refine wpList_appN _ rfl _ _ 33 rfl w.heap.size 9 i0 _ 1 16 Tryz.underlying33 hi hz0 hz1 hz2 rfl (by decide) _ _ _ rfl (OW3.out.alloc _) _ _ 1 _ _ rfl (reads_str w3 9 (codeS s.c.1 (cfi s.c) (s.seq + j + 1))) (oneCell_T [codeS s.c.1 (cfi s.c) (s.seq + j + 1)]) ?c1 ?c2 ?c3 ?_)
        case c1 => unfold maxLen; omega
        case c2 => omega
        case c3 => simp; omega
        intro v4 w4 hown4 hb4
        obtain ⟨A4, c4, rfl⟩ := ownsRow_len hown4
        have KEEP := Lib.hid (NX.out _ w4 (.slice A4 (j + 1) c4) (by rw [← hszs]; exact Below.al5 R3.out) hb4 (by rw [show s.seq + 1 + (j : Int) = s.seq + j + 1 by omega]; exact hown4))
        clear b2 b5
        have b2 := KEEP.out.2.1.blk.cell 2
        have b5 := KEEP.out.2.1.blk.cell 5
        have hbl4 := KEEP.out.2.1.blk.lt
        simp [nodeCs] at b2 b5
        clear hown4 hb4
        go_wp2
        exact ⟨⟨j + 1, t + cfe s.c, by omega, rfl, by omega, by omega, hNT, KEEP.out⟩, by simp [RowKit.intOf]; omega⟩
    · have hjm : j = s.many ticks := by
        have e2 := HM.out
        by_cases h : j < s.many ticks
        · have e1 := (HQM.out j).1 (by omega)
          rw [← HT.out] at e1
          exact absurd e1 hlt
        · omega
      subst hjm
      have hsq : s.seq + ((s.many ticks : Nat) : Int) = mv := by have := HM.out; have := HSQ.out; rw [HAV.out] at this; omega
      have N5 := Lib.hid (HoldIs.set (mk' := nodeCs s.c (s.now + ticks) (s.seq + (s.many ticks : Nat)) s.drops) RL.out.2.1 5 (.int .i64 (s.now + ticks)) rfl)
      have f5 := RL.out.2.1.blk.frozen 5
      have OW5 := Lib.hid (ownsRow_setCell RL.out.1 (a := ⟨b, 5, none⟩) hbl (.int .i64 (s.now + ticks)))
      have K5 := Lib.hid (RL.out.2.2.setCell (a := ⟨b, 5, none⟩) (.inl RL.out.2.1.xb) (.int .i64 (s.now + ticks)))
      have NT := Lib.hid (show NodeIs X (wo.setCell ⟨b, 5, none⟩ (.int .i64 (s.now + ticks))) b A pn pc sv l (s.ticked ticks) by
        have := N5.out; rw [hsq] at this; unfold NSt.ticked NodeIs; rw [HMV.out]; exact this)
      clear hsq N5
      go_wp2_with fail
      refine (told_any NT.out HG.out).mono ?_
      rintro e' w6 ⟨A6, c6, rfl, hown6, hn6, hk6⟩
      have hszs : (wo.setCell ⟨b, 5, none⟩ (.int .i64 (s.now + ticks))).heap.size = wo.heap.size := by simp [World.setCell]
      have hsz0 : w.heap.size ≤ wo.heap.size := RL.out.2.2.size
      have FIN := Lib.hid (show TickIs X b A pn pc sv l s ticks w (.returned (.tuple #[.slice Av (s.many ticks) cv, .slice A6 (s.ticked ticks).notes.length c6, .int .i64 0])) w6 from
        ⟨Av, cv, A6, c6, rfl, hk6.own OW5.out (fun k hk hx => by have h1 := OW5.out.lt k hk; have h2 := HX.out k hx; omega), ownsRow_base hown6 (by omega), hn6, K5.out.trans hk6⟩)
      clear hown6 hn6 hk6
      go_wp2
      exact bodyPost_ret (v := .tuple #[.slice Av (s.many ticks) cv, .slice A6 (s.ticked ticks).notes.length c6, .int .i64 0]) (by simp [results, Tryz.results113, go_sem]) rfl FIN.out
end Go.Proofs.YthimchhnhhchkaaGreatDoor
