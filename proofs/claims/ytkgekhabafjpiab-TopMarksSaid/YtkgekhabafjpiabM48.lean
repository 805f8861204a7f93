/- node.Join, walked. -/
import Derived.Test.YtkgekhabafjpiabM44
import Derived.Test.YtkgekhabafjpiabM45
import Derived.Test.YtkgekhabafjpiabM47
namespace Go.Proofs.Ytkgekhabafjpiab
open Go.RowKit Go.Lib
set_option linter.unusedSimpArgs false
set_option linter.unusedVariables false

def NSt.joinE (s : NSt) (id : ByteArray) (th : Int) : Int := if th < 1 ∨ 60 < th then 1 else if (idxOf s.D id).isSome = false then 4 else if 0 ≤ ixI (isSub id th) s.S then 5 else if s.S.length = 8 then 10 else 0
def NSt.plus (s : NSt) (id : ByteArray) (th : Int) : NSt := { s with S := s.S ++ [(id, th, false)] }
def NSt.joined (s : NSt) (id : ByteArray) (th : Int) : NSt := if s.joinE id th = 0 then (s.plus id th).tell else s
def NSt.joinN (s : NSt) (id : ByteArray) (th : Int) : List TriD := if s.joinE id th = 0 then (s.plus id th).notes else []
theorem lvEr_idx (D : List PeerD) (id : ByteArray) : lvEr D id = if (idxOf D id).isSome = true then 0 else 4 := by
  unfold lvEr
  rw [fnd_idx]
  cases hi : idxOf D id with
  | none => rfl
  | some k =>
    obtain ⟨hk, -, -⟩ := idx_some hi
    show (match D[k]? with | some _ => (0 : Int) | none => 4) = _
    rw [List.getElem?_eq_getElem hk]
    rfl
theorem NGood.plus {s : NSt} (h : NGood s) {id : ByteArray} {th : Int} (he : s.joinE id th = 0) : NGood (s.plus id th) := by
  unfold NSt.joinE at he
  by_cases h1 : th < 1 ∨ 60 < th
  · rw [if_pos h1] at he; cases he
  rw [if_neg h1] at he
  by_cases h2 : (idxOf s.D id).isSome = false
  · rw [if_pos h2] at he; cases he
  rw [if_neg h2] at he
  by_cases h3 : 0 ≤ ixI (isSub id th) s.S
  · rw [if_pos h3] at he; cases he
  rw [if_neg h3] at he
  by_cases h4 : s.S.length = 8
  · rw [if_pos h4] at he; cases he
  have h8 := h.eight
  refine ⟨h.id, h.cfg, h.now0, h.now1, h.seqs, h.drops0, h.drops1, h.ps, h.pv, by show (s.S ++ [_]).length ≤ 8; rw [List.length_append]; simp; omega, fun t ht => ?_⟩
  rcases List.mem_append.1 ht with ht | ht
  · exact h.th t ht
  · rw [List.mem_singleton.1 ht]
    cases hi : idxOf s.D id with
    | none => rw [hi] at h2; simp at h2
    | some k =>
      obtain ⟨hk, e, -⟩ := idx_some hi
      have hg := (h.ps.good _ (List.getElem_mem hk)).1
      have : idB id = true := by rw [← e]; exact hg
      exact ⟨(idB_ne this).2, by show 1 ≤ th; omega, by show th ≤ 60; omega⟩
/-- 'x = append(x, u..)' of one element, whatever the row, where the order is open -/
theorem step_app0 {P : Program} {w : World} {ops : Array Oper} {o : Oper} {a : Act} {K : Act → World → Prop} {Q : Exit → Act → World → Prop} {E : Prop} (hgd : o.guard = none) (s x : Operand) (t : TypeId)
    (ho : o.op = .call { callee := .builtin .append, args := #[s, x], argTypes := #[t, t] })
    (base : Nat) (e : TypeId) (i : TypeInfo) (z : Value) (size bytes : Nat) (ht : P.underlying t = some (.slice e)) (hi : P.info? e = some i) (hz : i.zero = some z)
    (hsize : i.size = size) (hby : i.bytes = bytes) (hzs : z.cells.size = size) (hsz : 0 < size)
    (v : Value) (n : Nat) (xs : List Value) (hs : a.eval s = v) (hown : w.ownsRow base e size v n xs)
    (B : Nat) (A : Option Addr) (m c : Nat) (news : List Value) (hx : a.eval x = .slice A m c) (hr : Reads w B size A m news) (h1 : ∀ u ∈ news, u.oneCell' = true)
    (h63 : n + m ≤ maxLen) (hbytes : (n + m) * bytes ≤ 140737488355328) (hbase : base ≤ w.heap.size)
    (h : ∀ v' w', w'.ownsRow base e size v' (n + m) (xs ++ news) → w.grownBy w' v.ownBlock → (v'.ownBlock = v.ownBlock ∨ v'.ownBlock = some w.heap.size) → K (a.put o.dst v') w') :
    if Region.wanted o (yielded ops a.tmps) = true then Oper.wp P o a w K Q else E := by
  have hw : Region.wanted o (yielded ops a.tmps) = true := by simp [Region.wanted, hgd]
  rw [if_pos hw]
  exact wp_append_any w s x t ho base e i z size bytes ht hi hz hsize hby hzs hsz v n xs hs hown B A m c news hx hr h1 h63 hbytes hbase h
theorem sub_info : (Try.prog.info? 71).map (fun i => (i.zero, i.size, i.bytes)) = some (some (.agg #[.string ByteArray.empty, .int .i64 0, .bool false]), 3, 32) := by kernel_rfl

section
variable {X : Nat → Prop} {w : World} {b pn pc : Nat} {A : Option Addr} {sv : Value} {l : List PeerT} {s : NSt}
set_option maxHeartbeats 1000000 in
set_option maxRecDepth 100000 in
theorem join_lo (h : NodeIs X w b A pn pc sv l s) (hg : NGood s) (id : ByteArray) (th : Int) (ht : th < 1) :
    Calls Try.prog 9 #[.pointer (some ⟨b, 0, none⟩), .string id, .int .i64 th] w (HrIs X b s [] 1 w) := by
  have HH := Lib.hid h
  have HG := Lib.hid hg
  have hbl := h.blk.lt
  have h8 := hg.eight
  have E0 := Lib.hid (((Env.start w).lay #[.string id] 9).lay #[.int .i64 th] 3)
  have N0 := Lib.hid (HoldIs.below h E0.out.bel)
  have E0B := Lib.hid E0.out.bel
  clear h hg E0
  go_enter Try.func9, Try.ntmps9
  go_wp2
  all_goals first
    | (exfalso; omega)
    | (refine bodyPost_ret (v := .tuple #[.slice none 0 0, .int .i64 1]) (by simp [results, Try.results9, go_sem]) rfl ?_; exact .no (HoldIs.at_ (HoldIs.grow N0.out)) (.of_below E0B.out))

set_option maxHeartbeats 1000000 in
set_option maxRecDepth 100000 in
theorem join_hi (h : NodeIs X w b A pn pc sv l s) (hg : NGood s) (id : ByteArray) (th : Int) (ht : 60 < th) :
    Calls Try.prog 9 #[.pointer (some ⟨b, 0, none⟩), .string id, .int .i64 th] w (HrIs X b s [] 1 w) := by
  have HH := Lib.hid h
  have HG := Lib.hid hg
  have hbl := h.blk.lt
  have h8 := hg.eight
  have E0 := Lib.hid (((Env.start w).lay #[.string id] 9).lay #[.int .i64 th] 3)
  have N0 := Lib.hid (HoldIs.below h E0.out.bel)
  have h1 : ¬ th < 1 := by omega
  have E0B := Lib.hid E0.out.bel
  clear h hg E0
  go_enter Try.func9, Try.ntmps9
  go_wp2
  all_goals first
    | (exfalso; omega)
    | (refine bodyPost_ret (v := .tuple #[.slice none 0 0, .int .i64 1]) (by simp [results, Try.results9, go_sem]) rfl ?_; exact .no (HoldIs.at_ (HoldIs.grow N0.out)) (.of_below E0B.out))

set_option maxHeartbeats 1000000 in
set_option maxRecDepth 100000 in
theorem join_none (h : NodeIs X w b A pn pc sv l s) (hg : NGood s) (id : ByteArray) (th : Int) (ht1 : 1 ≤ th) (ht2 : th ≤ 60) (hx : lvEr s.D id = 4) :
    Calls Try.prog 9 #[.pointer (some ⟨b, 0, none⟩), .string id, .int .i64 th] w (HrIs X b s [] 4 w) := by
  have HH := Lib.hid h
  have HG := Lib.hid hg
  have hbl := h.blk.lt
  have h8 := hg.eight
  have E0 := Lib.hid (((Env.start w).lay #[.string id] 9).lay #[.int .i64 th] 3)
  have N0 := Lib.hid (HoldIs.below h E0.out.bel)
  have h1 : ¬ th < 1 := by omega
  have h2 : ¬ 60 < th := by omega
  have HX := Lib.hid hx
  clear h hg hx
  go_enter Try.func9, Try.ntmps9
  go_wp2_with fail
  refine ((nlv_any N0.out HG.out id).mono ?_)
  rintro e' w1 ⟨rfl, hb1⟩
  rw [HX.out]
  have E1 := Lib.hid (E0.out.below hb1)
  have E1B := Lib.hid E1.out.bel
  have N1 := Lib.hid (HoldIs.below HH.out E1.out.bel)
  clear hb1
  go_wp2
  all_goals first
    | (exfalso; omega)
    | (refine bodyPost_ret (v := .tuple #[.slice none 0 0, .int .i64 4]) (by simp [results, Try.results9, go_sem]) rfl ?_; exact .no (HoldIs.at_ (HoldIs.grow N1.out)) (.of_below E1B.out))

set_option maxHeartbeats 1000000 in
set_option maxRecDepth 100000 in
theorem join_there (h : NodeIs X w b A pn pc sv l s) (hg : NGood s) (id : ByteArray) (th : Int) (ht1 : 1 ≤ th) (ht2 : th ≤ 60) (hx : lvEr s.D id = 0) (hi : decide (0 ≤ ixI (isSub id th) s.S) = true) :
    Calls Try.prog 9 #[.pointer (some ⟨b, 0, none⟩), .string id, .int .i64 th] w (HrIs X b s [] 5 w) := by
  have HH := Lib.hid h
  have HG := Lib.hid hg
  have hbl := h.blk.lt
  have h8 := hg.eight
  have E0 := Lib.hid (((Env.start w).lay #[.string id] 9).lay #[.int .i64 th] 3)
  have N0 := Lib.hid (HoldIs.below h E0.out.bel)
  have h1 : ¬ th < 1 := by omega
  have h2 : ¬ 60 < th := by omega
  have HX := Lib.hid hx
  have HI := Lib.hid hi
  clear h hg hx hi
  go_enter Try.func9, Try.ntmps9
  go_wp2_with fail
  refine ((nlv_any N0.out HG.out id).mono ?_)
  rintro e' w1 ⟨rfl, hb1⟩
  rw [HX.out]
  have E1 := Lib.hid (E0.out.below hb1)
  have E1B := Lib.hid E1.out.bel
  have N1 := Lib.hid (HoldIs.below HH.out E1.out.bel)
  clear hb1
  have b9 := N1.out.blk.cell 9
  have hbl1 := N1.out.blk.lt
  simp [nodeCs] at b9
  have x0 := E1.out.hd.cell 0
  have x1 := E1.out.tl.hd.cell 0
  simp at x0 x1
  have HC := Lib.hid (has_anyJ w.heap.size (w.heap.size + 1) (isSub id th) sv s.S (by omega) w1 N1.out.subs (join1_asksJ _ _ id th w1 E1.out.tl.hd (by have := E1.out.hd; simpa using this)))
  go_wp2_with fail
  refine HC.out.mono ?_
  rintro e' w2 ⟨rfl, hb2⟩
  rw [HI.out]
  have E2 := Lib.hid (E1.out.below hb2)
  have E2B := Lib.hid E2.out.bel
  have N2 := Lib.hid (HoldIs.below HH.out E2.out.bel)
  clear hb2 x0 x1 b9
  go_wp2
  all_goals first
    | (exfalso; omega)
    | (refine bodyPost_ret (v := .tuple #[.slice none 0 0, .int .i64 5]) (by simp [results, Try.results9, go_sem]) rfl ?_; exact .no (HoldIs.at_ (HoldIs.grow N2.out)) (.of_below E2B.out))

set_option maxHeartbeats 1000000 in
set_option maxRecDepth 100000 in
theorem join_full (h : NodeIs X w b A pn pc sv l s) (hg : NGood s) (id : ByteArray) (th : Int) (ht1 : 1 ≤ th) (ht2 : th ≤ 60) (hx : lvEr s.D id = 0) (hi : decide (0 ≤ ixI (isSub id th) s.S) = false) (hl : s.S.length = 8) :
    Calls Try.prog 9 #[.pointer (some ⟨b, 0, none⟩), .string id, .int .i64 th] w (HrIs X b s [] 10 w) := by
  have HH := Lib.hid h
  have HG := Lib.hid hg
  have hbl := h.blk.lt
  have h8 := hg.eight
  have E0 := Lib.hid (((Env.start w).lay #[.string id] 9).lay #[.int .i64 th] 3)
  have N0 := Lib.hid (HoldIs.below h E0.out.bel)
  have h1 : ¬ th < 1 := by omega
  have h2 : ¬ 60 < th := by omega
  have HX := Lib.hid hx
  have HI := Lib.hid hi
  have HL := Lib.hid hl
  clear h hg hx hi hl
  go_enter Try.func9, Try.ntmps9
  go_wp2_with fail
  refine ((nlv_any N0.out HG.out id).mono ?_)
  rintro e' w1 ⟨rfl, hb1⟩
  rw [HX.out]
  have E1 := Lib.hid (E0.out.below hb1)
  have E1B := Lib.hid E1.out.bel
  have N1 := Lib.hid (HoldIs.below HH.out E1.out.bel)
  clear hb1
  have b9 := N1.out.blk.cell 9
  have hbl1 := N1.out.blk.lt
  simp [nodeCs] at b9
  have x0 := E1.out.hd.cell 0
  have x1 := E1.out.tl.hd.cell 0
  simp at x0 x1
  have HC := Lib.hid (has_anyJ w.heap.size (w.heap.size + 1) (isSub id th) sv s.S (by omega) w1 N1.out.subs (join1_asksJ _ _ id th w1 E1.out.tl.hd (by have := E1.out.hd; simpa using this)))
  go_wp2_with fail
  refine HC.out.mono ?_
  rintro e' w2 ⟨rfl, hb2⟩
  rw [HI.out]
  have E2 := Lib.hid (E1.out.below hb2)
  have E2B := Lib.hid E2.out.bel
  have N2 := Lib.hid (HoldIs.below HH.out E2.out.bel)
  clear hb2 x0 x1 b9
  have b9 := N2.out.blk.cell 9
  have hbl2 := N2.out.blk.lt
  simp [nodeCs] at b9
  obtain ⟨As, cs, hsv⟩ := ownsRow_len N2.out.subs.own
  subst hsv
  rw [HL.out] at b9
  go_wp2
  all_goals first
    | (exfalso; omega)
    | (refine bodyPost_ret (v := .tuple #[.slice none 0 0, .int .i64 10]) (by simp [results, Try.results9, go_sem]) rfl ?_; exact .no (HoldIs.at_ (HoldIs.grow N2.out)) (.of_below E2B.out))

set_option maxHeartbeats 1000000 in
set_option maxRecDepth 100000 in
theorem join_ok (h : NodeIs X w b A pn pc sv l s) (hg : NGood s) (id : ByteArray) (th : Int) (ht1 : 1 ≤ th) (ht2 : th ≤ 60) (hx : lvEr s.D id = 0) (hi : decide (0 ≤ ixI (isSub id th) s.S) = false) (hl : s.S.length ≠ 8) (hg2 : NGood (s.plus id th)) :
    Calls Try.prog 9 #[.pointer (some ⟨b, 0, none⟩), .string id, .int .i64 th] w (HrIs X b (s.plus id th).tell (s.plus id th).notes 0 w) := by
  have HH := Lib.hid h
  have HG := Lib.hid hg
  have hbl := h.blk.lt
  have h8 := hg.eight
  have E0 := Lib.hid (((Env.start w).lay #[.string id] 9).lay #[.int .i64 th] 3)
  have N0 := Lib.hid (HoldIs.below h E0.out.bel)
  have h1 : ¬ th < 1 := by omega
  have h2 : ¬ 60 < th := by omega
  obtain ⟨i0, hi0, hz0, hz1, hz2⟩ := info_parts sub_info
  have HX := Lib.hid hx
  have HI := Lib.hid hi
  have HG2 := Lib.hid hg2
  clear h hg hx hi hg2
  go_enter Try.func9, Try.ntmps9
  go_wp2_with fail
  refine ((nlv_any N0.out HG.out id).mono ?_)
  rintro e' w1 ⟨rfl, hb1⟩
  rw [HX.out]
  have E1 := Lib.hid (E0.out.below hb1)
  have E1B := Lib.hid E1.out.bel
  have N1 := Lib.hid (HoldIs.below HH.out E1.out.bel)
  clear hb1
  have b9 := N1.out.blk.cell 9
  have hbl1 := N1.out.blk.lt
  simp [nodeCs] at b9
  have x0 := E1.out.hd.cell 0
  have x1 := E1.out.tl.hd.cell 0
  simp at x0 x1
  have HC := Lib.hid (has_anyJ w.heap.size (w.heap.size + 1) (isSub id th) sv s.S (by omega) w1 N1.out.subs (join1_asksJ _ _ id th w1 E1.out.tl.hd (by have := E1.out.hd; simpa using this)))
  go_wp2_with fail
  refine HC.out.mono ?_
  rintro e' w2 ⟨rfl, hb2⟩
  rw [HI.out]
  have E2 := Lib.hid (E1.out.below hb2)
  have E2B := Lib.hid E2.out.bel
  have N2 := Lib.hid (HoldIs.below HH.out E2.out.bel)
  clear hb2 x0 x1 b9
  have b9 := N2.out.blk.cell 9
  have hbl2 := N2.out.blk.lt
  simp [nodeCs] at b9
  obtain ⟨As, cs, hsv⟩ := ownsRow_len N2.out.subs.own
  subst hsv
  obtain ⟨n, hn⟩ : ∃ n, s.S.length = n := ⟨_, rfl⟩
  rw [hn] at b9 hl h8
  have hl8 : ¬ ((n : Int) = 8) := by omega
  have HN := Lib.hid hn
  have y0 := E2.out.hd.cell 0
  have y1 := E2.out.tl.hd.cell 0
  simp at y0 y1
  clear hn
  go_upto_region 37 with fail
  have OWN := Lib.hid (show w2.ownsRow 0 71 3 (.slice As n cs) n (cells3 s.S) by have := N2.out.subs.own; rw [HN.out] at this; exact this)
  have hbnd : (Value.slice As n cs).ownBlock ≠ some b := fun e => by have := (N2.out.xs b (by rw [HN.out]; exact e)).2; exact this rfl
  have hbx := Lib.hid (show ∀ k, (Value.slice As n cs).ownBlock = some k → k < w.heap.size from fun k hk => HH.out.subs.lt k (by rw [HN.out]; exact hk))
  have HS := Lib.hid (show ∀ w', Kept (fun k => (Value.slice As n cs).ownBlock = some k) w2 w' → (Kept (fun k => (Value.slice As n cs).ownBlock = some k) w2 w' ∧ w'.cell? ⟨b, 9, none⟩ = some (.slice As n cs) ∧ w'.cell? ⟨w.heap.size, 0, none⟩ = some (.string id) ∧ w'.cell? ⟨w.heap.size + 1, 0, none⟩ = some (.int .i64 th) ∧ w'.frozen? ⟨b, 9, none⟩ = false)
    from fun w' h => ⟨h, h.cell b9 hbnd, h.cell y1 (fun e => by have h5 : w.heap.size < w.heap.size := hbx.out _ e; omega), h.cell y0 (fun e => by have h5 : w.heap.size + 1 < w.heap.size := hbx.out _ e; omega), (h.blk N2.out.blk hbnd).frozen 9⟩)
  have HRE := Lib.hid (fun w' => reads_tri w' 71 (id, th, false))
  have HO1 := Lib.hid (oneCell_3 [(id, th, false)])
  have hs2 := E2.out.bel.size
  have f9 := N2.out.blk.frozen 9
  have HS9 := Lib.hid (show ∀ w', Kept (fun k => (Value.slice As n cs).ownBlock = some k) w2 w' → w'.cell? ⟨b, 9, none⟩ = some (.slice As n cs) ∧ w'.frozen? ⟨b, 9, none⟩ = false from fun w' h => ⟨h.cell b9 hbnd, (h.blk N2.out.blk hbnd).frozen 9⟩)
  go_region_law ((refine step_app0 (by rfl) _ _ _ (by rfl) 0 71 i0 (.agg #[.string ByteArray.empty, .int .i64 0, .bool false]) 3 32 Try.underlying62 hi0 hz0 hz1 hz2 rfl (by decide) _ _ _ (by rfl) (OWN.out.drew.alloc _) _ _ 1 _ _ (by rfl) (HRE.out _) HO1.out (by unfold maxLen; omega) (by omega) (Nat.zero_le _) ?_; intro v9 w9 hown9 hgr9 hbk9; obtain ⟨A9, c9, rfl⟩ := ownsRow_len hown9; have hK9 : Kept (fun k => (Value.slice As n cs).ownBlock = some k) w2 w9 := Kept.grown (by first | exact (Kept.refl _ _).alloc _ | exact ((Kept.refl _ _).drew).alloc _) hgr9 (fun k hk => .inl hk); obtain ⟨z9, zf9⟩ := HS9.out w9 hK9))
  all_goals
    have K9 := Lib.hid ((Kept.of_below (X := fun k => (Value.slice As n cs).ownBlock = some k) E2B.out).trans hK9)
    have BK := Lib.hid hbk9
    have SA := Lib.hid (show SubsAt w9 (.slice A9 (n + 1) c9) (s.S ++ [(id, th, false)]) from .of_own (by rw [cells3_app]; exact hown9))
    have NJ := Lib.hid (show NodeIs (grow X w w9) (w9.setCell ⟨b, 9, none⟩ (.slice A9 (n + 1) c9)) b A pn pc (.slice A9 (n + 1) c9) l (s.plus id th) from HoldIs.join (mk' := nodeCs s.c s.now s.seq s.drops) (i := 9) HH.out (by rw [HN.out]; exact K9.out) SA.out (by rw [HN.out]; rcases BK.out with e | e; exact .inl e; exact .inr (fun g hg => by rw [e] at hg; simp at hg; omega)) rfl)
    have KJ := Lib.hid ((K9.out.mono (fun k hk => .inl (HH.out.xs k (by rw [HN.out]; exact hk)).1) : Kept X w w9).setCell (a := ⟨b, 9, none⟩) (.inl HH.out.xb) (.slice A9 (n + 1) c9))
    have hsz : (w9.setCell ⟨b, 9, none⟩ (.slice A9 (n + 1) c9)).heap.size = w9.heap.size := by simp [World.setCell]
    have hw9 := K9.out.size
    clear hK9 hbk9 hown9 hgr9 z9 zf9 b9 y0 y1 f9
    go_wp2_with fail
    refine (told_any NJ.out HG2.out).mono ?_
    rintro e' w6 ⟨A6, c6, rfl, hown6, hn6, hk6⟩
    have FIN := Lib.hid (show HrIs X b (s.plus id th).tell (s.plus id th).notes 0 w (.returned (.tuple #[.slice A6 (s.plus id th).notes.length c6, .int .i64 0])) w6 from
      ⟨A6, c6, rfl, ownsRow_base hown6 (by rw [hsz]; exact hw9), HoldAt.wide (HoldIs.at_ hn6) (grow_of' (by have := hk6.size; rw [hsz] at this; exact this)) (fun k hk => hk.2), KJ.out.then hk6 (fun k hk => hk.1)⟩)
    clear hown6 hn6 hk6
    go_wp2
    exact bodyPost_ret (v := .tuple #[.slice A6 (s.plus id th).notes.length c6, .int .i64 0]) (by simp [results, Try.results9, go_sem]) rfl FIN.out

theorem join_any (h : NodeIs X w b A pn pc sv l s) (hg : NGood s) (id : ByteArray) (th : Int) :
    Calls Try.prog 9 #[.pointer (some ⟨b, 0, none⟩), .string id, .int .i64 th] w (HrIs X b (s.joined id th) (s.joinN id th) (s.joinE id th) w) := by
  have hp := fun he => hg.plus (id := id) (th := th) he
  have hle := lvEr_idx s.D id
  unfold NSt.joined NSt.joinN
  unfold NSt.joinE at hp ⊢
  by_cases h1 : th < 1 ∨ 60 < th
  · rw [if_pos h1, if_neg (by decide), if_neg (by decide)]
    rcases h1 with h1 | h1
    · exact join_lo h hg id th h1
    · exact join_hi h hg id th h1
  rw [if_neg h1] at hp ⊢
  by_cases h2 : (idxOf s.D id).isSome = false
  · rw [if_pos h2, if_neg (by decide), if_neg (by decide)]
    exact join_none h hg id th (by omega) (by omega) (by rw [hle, h2]; rfl)
  rw [if_neg h2] at hp ⊢
  have h2 : (idxOf s.D id).isSome = true := by
    cases hq : (idxOf s.D id).isSome
    · exact absurd hq h2
    · rfl
  rw [h2, if_pos rfl] at hle
  by_cases h3 : 0 ≤ ixI (isSub id th) s.S
  · rw [if_pos h3, if_neg (by decide), if_neg (by decide)]
    exact join_there h hg id th (by omega) (by omega) hle (by simpa using h3)
  rw [if_neg h3] at hp ⊢
  by_cases h4 : s.S.length = 8
  · rw [if_pos h4, if_neg (by decide), if_neg (by decide)]
    exact join_full h hg id th (by omega) (by omega) hle (by simpa using h3) h4
  rw [if_neg h4] at hp ⊢
  rw [if_pos rfl, if_pos rfl]
  exact join_ok h hg id th (by omega) (by omega) hle (by simpa using h3) h4 (hp rfl)
theorem NGood.joined {s : NSt} (h : NGood s) (id : ByteArray) (th : Int) : NGood (s.joined id th) := by
  unfold NSt.joined
  split
  · rename_i he; exact (h.plus he).tell
  · exact h
end
end Go.Proofs.Ytkgekhabafjpiab
