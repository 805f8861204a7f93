/- The reference's town: Lives, Stop, Bring, walked. (with what it needs) -/
import Derived.Test.YtcikljcjhijjdabGreatM49
import Derived.Test.YtcikljcjhijjdabGreatM45
namespace Go.Proofs.YtcikljcjhijjdabGreat
open Go.RowKit Go.Lib
set_option linter.unusedSimpArgs false
set_option linter.unusedVariables false

def RwAt (F : Nat → Nat) (W : World) (tb : Nat) (t : TSt) : Prop := ∃ db nv wv bs, RTownIs F W tb db nv wv bs t
/-- behind a call of the reference's town -/
def RwTo (w : World) (F : Nat → Nat) (W : World) (tb : Nat) (t' : TSt) (W' : World) : Prop := ∃ F', Col w W' F' ∧ Moved RefC F W F' W' ∧ RwAt F' W' tb t'
def RwE (w : World) (F : Nat → Nat) (W : World) (tb : Nat) (t' : TSt) (er : Int) (e : Ending) (W' : World) : Prop := e = .returned (.int .i64 er) ∧ RwTo w F W tb t' W'
def RwN (w : World) (F : Nat → Nat) (W : World) (tb : Nat) (t' : TSt) (N : List TriD) (er : Int) (e : Ending) (W' : World) : Prop :=
  ∃ A c, e = .returned (.tuple #[.slice A N.length c, .int .i64 er]) ∧ W'.ownsRow W.heap.size 55 3 (.slice A N.length c) N.length (cells3 N) ∧ RwTo w F W tb t' W'
theorem deadM_set_same {L : List NdB} {k : Nat} {s : NSt} (hk : k < L.length) : deadM (L.set k (s, true)) (.int .i64 (k : Int)) = true := by
  rw [deadM_at (by simpa using hk)]
  simp
theorem deadM_set_other {L : List NdB} {k : Nat} {s : NSt} (q : Lit) (hq : q ≠ .int .i64 (k : Int)) : deadM (L.set k (s, true)) q = deadM L q := by
  cases q with
  | int κ i =>
    cases κ
    case i64 =>
      unfold deadM
      by_cases h0 : 0 ≤ i
      · have hne : k ≠ i.toNat := fun e => hq (by rw [e]; congr 1; omega)
        simp only [List.getElem?_map, List.getElem?_set_ne hne]
      · simp [h0]
    all_goals rfl
  | _ => rfl
section
variable {w W W' W2 : World} {F F' : Nat → Nat} {tb db : Nat} {nv wv : Value} {bs : List Nat} {t t' : TSt}
theorem RTownIs.toC (h : RTownIs F W tb db nv wv bs t) (hC : Col w W F) : RwTo w F W tb t W := ⟨F, hC, .refl hC, _, _, _, _, h⟩
theorem RwTo.from (hC : Col w W F) (hb : Below W.heap.size W W') (h : RwTo w F W' tb t' W2) : RwTo w F W tb t' W2 := by
  obtain ⟨F', h1, h2, h3⟩ := h
  exact ⟨F', h1, (Moved.below hC hb).trans h2, h3⟩
theorem RwN.from {N : List TriD} {er : Int} {e : Ending} (hC : Col w W F) (hb : Below W.heap.size W W') (h : RwN w F W' tb t' N er e W2) : RwN w F W tb t' N er e W2 := by
  obtain ⟨A, c, h1, h2, h3⟩ := h
  exact ⟨A, c, h1, own_mono h2 hb.size, h3.from hC hb⟩
theorem RTownIs.at_ (h : RTownIs F W tb db nv wv bs t) {k : Nat} (hk : k < t.L.length) : ∃ gn cn, nv = .slice (some ⟨gn, 0, none⟩) t.L.length cn ∧ t.L.length ≤ cn ∧ cn ≤ maxLen ∧ gn < W.heap.size ∧ F gn = 7 ∧
    W.cell? ⟨gn, k, none⟩ = some (.pointer (some ⟨bs[k]'(by rw [h.len]; exact hk), 0, none⟩)) := by
  obtain ⟨gn, cn, rfl, -, hgn, hn1, hn2, hcn⟩ := ownsRow_at h.nds.1 (by omega)
  have hb : k < bs.length := by rw [h.len]; exact hk
  exact ⟨gn, cn, rfl, hn1, hn2, hgn, h.nds.2 gn rfl, hcn k _ (by simp [ptrs, hb])⟩
theorem RTownIs.cells (h : RTownIs F W tb db nv wv bs t) : tb < W.heap.size ∧ W.cell? ⟨tb, 0, none⟩ = some nv ∧ W.cell? ⟨tb, 1, none⟩ = some (.map (some db)) ∧ W.cell? ⟨tb, 2, none⟩ = some wv :=
  ⟨h.blk.1.lt, h.blk.1.cell 0, h.blk.1.cell 1, h.blk.1.cell 2⟩
theorem RTownIs.look (h : RTownIs F W tb db nv wv bs t) {k : Nat} (hk : k < t.L.length) (h5 : t.L.length ≤ 5) : (Instr.lookup 47 (.map (some db)) (.int .i64 (k : Int)) false).run Tryz.prog W = .ok (.bool (t.L[k]'hk).2) W := by
  have hw : (Lit.int .i64 (k : Int)).wf = true := by
    have := RowKit.wrap64_wf (k : Int)
    rwa [wrap64_nat k (by omega)] at this
  have := h.ded.look (t := 47) (Go.Maps.int_keyed Tryz.underlying3) Tryz.underlying47 Tryz.underlying4 (zero_bool _) (Go.Maps.keyOf_int_mk Tryz.underlying3 hw)
  rw [deadM_at hk] at this
  exact this
set_option maxHeartbeats 400000 in
set_option maxRecDepth 100000 in
theorem rlives_any (h : RTownIs F W tb db nv wv bs t) (h5 : t.L.length ≤ 5) (i : Int) :
    Calls Tryz.prog 16 #[.pointer (some ⟨tb, 0, none⟩), .int .i64 i] W fun e W' => e = .returned (.bool (t.lives i)) ∧ W = W' := by
  obtain ⟨htb, b0, b1, b2⟩ := h.cells
  obtain ⟨An, cn, rfl⟩ := ownsRow_len h.nds.1
  have hn5 : (t.L.length : Int) ≤ 5 := by omega
  cases hwi : wi i 0 ((t.L.length : Int) - 1) with
  | false =>
    have hl : t.lives i = false := by
      unfold TSt.lives
      have := wi_false.1 hwi
      rcases this with e | e
      · simp; intro h0; omega
      · simp; intro _ h0; omega
    rw [hl]
    have HWI := Lib.hid hwi
    clear h hl hwi
    generalize t.L.length = n at *
    go_enter Tryz.func16, Tryz.ntmps16
    go_wp2_with fail
    refine (rwithin_b _ _ _ false HWI.out _).mono ?_
    rintro e' w' ⟨rfl, rfl⟩
    go_wp2
    go_ret
    exact ⟨rfl, rfl⟩
  | true =>
    obtain ⟨h0, h1⟩ := wi_true.1 hwi
    obtain ⟨k, rfl⟩ := Int.eq_ofNat_of_zero_le h0
    have hk : k < t.L.length := by omega
    have hlk := h.look hk h5
    rw [lives_of hk]
    have HWI := Lib.hid hwi
    generalize (t.L[k]'hk).2 = d at *
    clear h hwi
    generalize t.L.length = n at *
    go_enter Tryz.func16, Tryz.ntmps16
    go_wp2_with fail
    refine (rwithin_b _ _ _ true HWI.out _).mono ?_
    rintro e' w' ⟨rfl, rfl⟩
    go_wp2
    go_ret
    exact ⟨rfl, rfl⟩
theorem RTownIs.stop {k : Nat} (h : RTownIs F W tb db nv wv bs t) (hC : Col w W F) (h5 : t.L.length ≤ 5) (hk : k < t.L.length) (hd : (t.L[k]'hk).2 = false) (hg : W.grownBy W' (some db)) (hm : MarkMap Tryz.prog 3 4 W' db (deads t.L + 1) (deadM (t.L.set k ((t.L[k]'hk).1, true)))) :
    RwTo w F W tb ⟨t.L.set k ((t.L[k]'hk).1, true), t.way⟩ W' := by
  obtain ⟨m, hC'⟩ := Moved.grown hC hg h.fdb (by decide)
  refine ⟨F, hC', m.mono (fun c hc => .inl (by omega)), db, nv, wv, bs, ⟨m.blk hC (by decide) (by decide) h.blk, ?_, ?_, h.fdb, m.row hC (by decide) (by decide) h.way, by simpa using h.len, fun j hj hj' => ?_⟩⟩
  · simpa using m.row hC (c' := 7) (by decide) (by decide) h.nds
  · show MarkMap _ _ _ _ _ (deads (t.L.set k ((t.L[k]'hk).1, true))) _
    rw [deads_set t.L k _ hk hd]
    exact hm
  · have hj2 : j < t.L.length := by simpa using hj'
    have : RNodeAt (fun x => F x = 20 + j) W' (bs[j]'hj) (t.L[j]'hj2).1 := m.hold hC (c' := 20 + j) (by omega) (by omega) (h.node j hj hj2)
    by_cases e : j = k
    · subst e
      simpa using this
    · simpa [List.getElem_set, Ne.symm e] using this
set_option maxHeartbeats 400000 in
set_option maxRecDepth 100000 in
theorem rstop_no (h : RTownIs F W tb db nv wv bs t) (h5 : t.L.length ≤ 5) (i : Int) (hl : t.lives i = false) :
    Calls Tryz.prog 15 #[.pointer (some ⟨tb, 0, none⟩), .int .i64 i] W fun e W' => e = .returned (.int .i64 4) ∧ W = W' := by
  have HLV := Lib.hid (rlives_any h h5 i)
  rw [hl] at HLV
  clear h hl
  go_enter Tryz.func15, Tryz.ntmps15
  go_wp2_with fail
  refine HLV.out.mono ?_
  rintro e' w' ⟨rfl, rfl⟩
  go_wp2
  go_ret
  exact ⟨rfl, rfl⟩
set_option maxHeartbeats 400000 in
set_option maxRecDepth 100000 in
theorem rstop_ok (h : RTownIs F W tb db nv wv bs t) (hC : Col w W F) (h5 : t.L.length ≤ 5) (k : Nat) (hk : k < t.L.length) (hd : (t.L[k]'hk).2 = false) :
    Calls Tryz.prog 15 #[.pointer (some ⟨tb, 0, none⟩), .int .i64 (k : Int)] W fun e W' => e = .returned (.int .i64 0) ∧ RwTo w F W tb ⟨t.L.set k ((t.L[k]'hk).1, true), t.way⟩ W' := by
  have HLV := Lib.hid (rlives_any h h5 (k : Int))
  rw [lives_of hk, hd] at HLV
  have HLV2 := Lib.hid (show Calls Tryz.prog 16 #[.pointer (some ⟨tb, 0, none⟩), .int .i64 (k : Int)] W fun e W' => e = .returned (.bool true) ∧ W = W' from HLV.out)
  obtain ⟨htb, b0, b1, b2⟩ := h.cells
  have HST := Lib.hid (fun W' hg hm => h.stop (W' := W') hC h5 hk hd hg hm)
  have HD := Lib.hid h.ded
  have hw : (Lit.int .i64 (k : Int)).wf = true := by
    have := RowKit.wrap64_wf (k : Int)
    rwa [wrap64_nat k (by omega)] at this
  have HKY := Lib.hid (Go.Maps.keyOf_int_mk (P := Tryz.prog) Tryz.underlying3 hw)
  have HS1 := Lib.hid (deadM_set_same (s := (t.L[k]'hk).1) hk)
  have HS2 := Lib.hid (fun q hq => deadM_set_other (L := t.L) (k := k) (s := (t.L[k]'hk).1) q hq)
  have HK9 := Lib.hid (show deads t.L < maxLen by have := deads_le t.L; unfold maxLen; omega)
  generalize t.L.set k ((t.L[k]'hk).1, true) = L2 at *
  clear h hd HLV hw
  go_enter Tryz.func15, Tryz.ntmps15
  go_wp2_with fail
  refine HLV2.out.mono ?_
  rintro e' w' ⟨rfl, rfl⟩
  go_wp2_with (at_mapUpdate; refine wpList_store_mark _ rfl _ _ _ 47 rfl 3 4 (Go.Maps.int_keyed Tryz.underlying3) Tryz.underlying47 Tryz.underlying4 db (deads t.L) (deadM t.L) rfl HD.out HK9.out (.int .i64 (k : Int)) (.int .i64 (k : Int)) true rfl rfl HKY.out (deadM L2) HS1.out HS2.out ?_; intro w3 hmm3 hg3; have FIN := Lib.hid (HST.out w3 hg3 hmm3); clear hmm3 hg3)
  go_ret
  exact ⟨rfl, FIN.out⟩
theorem rstop_any (h : RTownIs F W tb db nv wv bs t) (hC : Col w W F) (h5 : t.L.length ≤ 5) (i : Int) :
    Calls Tryz.prog 15 #[.pointer (some ⟨tb, 0, none⟩), .int .i64 i] W (RwE w F W tb (t.stopped i) (t.stopE i)) := by
  unfold TSt.stopped TSt.stopE
  by_cases hl : t.lives i = true
  · rw [if_pos hl, if_pos hl]
    obtain ⟨k, rfl, hk, hd⟩ := lives_true hl
    rw [TSt.at_is hk]
    exact rstop_ok h hC h5 k hk hd
  · rw [if_neg hl, if_neg hl]
    exact (rstop_no h h5 i (by simpa using hl)).mono fun e W' ⟨k1, k2⟩ => ⟨k1, k2 ▸ h.toC hC⟩
/-- a node's call that tells notes, as the town's -/
theorem RTownIs.hrIs {k : Nat} {s1 : NSt} {N : List TriD} {er : Int} {e : Ending} (h : RTownIs F W tb db nv wv bs t) (hC : Col w W F) (h5 : t.L.length ≤ 5) (hk : k < t.L.length) (hd : (t.L[k]'hk).2 = false)
    (hr : RHrIs (fun x => F x = 20 + k) (bs[k]'(by rw [h.len]; exact hk)) s1 N er W e W') : RwN w F W tb (t.node k s1) N er e W' := by
  obtain ⟨A, c, rfl, ho, hn, hkp⟩ := hr
  exact ⟨A, c, rfl, ho, _, hC.paint (by omega) hkp, (Moved.paint hC hkp).mono (fun c hc => .inr (by omega)), _, _, _, _, h.turn hC hk hkp hn hd.symm⟩
/-! ### Bring -/
set_option maxHeartbeats 400000 in
set_option maxRecDepth 100000 in
theorem rbring_no (h : RTownIs F W tb db nv wv bs t) (h5 : t.L.length ≤ 5) (hm : t.way.length ≤ 1000) (i z : Int) (hi : (t.under i && t.lives z) = false) :
    Calls Tryz.prog 12 #[.pointer (some ⟨tb, 0, none⟩), .int .i64 i, .int .i64 z] W fun e W' => e = .returned (.tuple #[.slice none 0 0, .int .i64 4]) ∧ W = W' := by
  have HLV := Lib.hid (rlives_any h h5 z)
  obtain ⟨htb, b0, b1, b2⟩ := h.cells
  obtain ⟨Aw, cw, rfl⟩ := ownsRow_len h.way.1
  have hm1 : (t.way.length : Int) ≤ 1000 := by omega
  cases hu : t.under i with
  | false =>
    have hw : wi i 0 ((t.way.length : Int) - 1) = false := by
      rw [wi_false]
      rcases under_false hu with e | e
      · exact .inl e
      · exact .inr (by omega)
    have HWI := Lib.hid hw
    clear h hu hi hw
    generalize t.way.length = m at *
    go_enter Tryz.func12, Tryz.ntmps12
    go_wp2_with fail
    refine (rwithin_b _ _ _ false HWI.out _).mono ?_
    rintro e' w' ⟨rfl, rfl⟩
    go_wp2
    go_ret2
    exact ⟨rfl, rfl⟩
  | true =>
    have hl : t.lives z = false := by simpa [hu] using hi
    have hw : wi i 0 ((t.way.length : Int) - 1) = true := by
      obtain ⟨j, rfl, hj, -⟩ := under_true hu
      rw [wi_true]
      omega
    rw [hl] at HLV
    have HWI := Lib.hid hw
    clear h hu hi hw hl
    generalize t.way.length = m at *
    go_enter Tryz.func12, Tryz.ntmps12
    go_wp2_with fail
    refine (rwithin_b _ _ _ true HWI.out _).mono ?_
    rintro e' w' ⟨rfl, rfl⟩
    go_wp2_with fail
    refine HLV.out.mono ?_
    rintro e' w' ⟨rfl, rfl⟩
    go_wp2
    go_ret2
    exact ⟨rfl, rfl⟩
theorem RTownIs.word (h : RTownIs F W tb db nv wv bs t) {i : Nat} (hi : i < t.way.length) : ∃ gw cw, wv = .slice (some ⟨gw, 0, none⟩) t.way.length cw ∧ t.way.length ≤ cw ∧ cw ≤ maxLen ∧ gw < W.heap.size ∧ F gw = 9 ∧ W.cell? ⟨gw, i, none⟩ = some (.string (t.way[i]'hi)) := by
  obtain ⟨gw, cw, rfl, -, hgw, h1, h2, hc⟩ := ownsRow_at h.way.1 (by omega)
  exact ⟨gw, cw, rfl, h1, h2, hgw, h.way.2 gw rfl, hc i _ (by simp [cellsTx, hi])⟩
set_option maxHeartbeats 1000000 in
set_option maxRecDepth 100000 in
theorem rbring_ok (h : RTownIs F W tb db nv wv bs t) (hC : Col w W F) (h5 : t.L.length ≤ 5) (hm : t.way.length ≤ 1000) (k : Nat) (hk : k < t.L.length) (hd : (t.L[k]'hk).2 = false) (hg : NGood (t.L[k]'hk).1) (i : Nat) (hi : i < t.way.length) :
    Calls Tryz.prog 12 #[.pointer (some ⟨tb, 0, none⟩), .int .i64 (i : Int), .int .i64 (k : Int)] W (RwN w F W tb (t.node k ((t.L[k]'hk).1.heard (t.way[i]'hi))) ((t.L[k]'hk).1.hearN (t.way[i]'hi)) ((t.L[k]'hk).1.hearE (t.way[i]'hi))) := by
  have HLV := Lib.hid (rlives_any h h5 (k : Int))
  rw [lives_of hk, hd] at HLV
  have HLV2 := Lib.hid (show Calls Tryz.prog 16 #[.pointer (some ⟨tb, 0, none⟩), .int .i64 (k : Int)] W fun e W' => e = .returned (.bool true) ∧ W = W' from HLV.out)
  obtain ⟨htb, b0, b1, b2⟩ := h.cells
  have hb : k < bs.length := by rw [h.len]; exact hk
  have HH := Lib.hid (show ∀ W1, Below W.heap.size W W1 → ∀ e W', RHrIs (fun x => F x = 20 + k) (bs[k]'hb) ((t.L[k]'hk).1.heard (t.way[i]'hi)) ((t.L[k]'hk).1.hearN (t.way[i]'hi)) ((t.L[k]'hk).1.hearE (t.way[i]'hi)) W1 e W' → RwN w F W tb (t.node k ((t.L[k]'hk).1.heard (t.way[i]'hi))) ((t.L[k]'hk).1.hearN (t.way[i]'hi)) ((t.L[k]'hk).1.hearE (t.way[i]'hi)) e W' from fun W1 hb1 e W' hr => ((h.below hC hb1 h5).hrIs (hC.below hb1) h5 hk hd hr).from hC hb1)
  have HL := Lib.hid (show ∀ W1, Below W.heap.size W W1 → Calls Tryz.prog 36 #[.pointer (some ⟨bs[k]'hb, 0, none⟩), .string (t.way[i]'hi)] W1 (RHrIs (fun x => F x = 20 + k) (bs[k]'hb) ((t.L[k]'hk).1.heard (t.way[i]'hi)) ((t.L[k]'hk).1.hearN (t.way[i]'hi)) ((t.L[k]'hk).1.hearE (t.way[i]'hi)) W1) from fun W1 hb1 => by
    obtain ⟨_, _, _, _, _, hn⟩ := (h.below hC hb1 h5).node k hb hk
    exact rhear_any hn hg _)
  obtain ⟨gn, cn, rfl, hn1, hn2, hgn, hnF, c1⟩ := h.at_ hk
  obtain ⟨gw, cw, rfl, hw1, hw2, hgw, hfw, cw0⟩ := h.word hi
  have htF := h.blk.2
  unfold maxLen at hn2 hw2
  have HS := Lib.hid (show ∀ w', Kept (fun x => F x = 20 + k) W w' → (w'.cell? ⟨tb, 0, none⟩ = some (.slice (some ⟨gn, 0, none⟩) t.L.length cn) ∧ w'.cell? ⟨tb, 2, none⟩ = some (.slice (some ⟨gw, 0, none⟩) t.way.length cw) ∧ w'.cell? ⟨gn, k, none⟩ = some (.pointer (some ⟨bs[k]'hb, 0, none⟩)) ∧ w'.cell? ⟨gw, i, none⟩ = some (.string (t.way[i]'hi))) from fun w' hk' =>
    ⟨hk'.cell b0 (fun e => by have : F tb = 20 + k := e; omega), hk'.cell b2 (fun e => by have : F tb = 20 + k := e; omega), hk'.cell c1 (fun e => by have : F gn = 20 + k := e; omega), hk'.cell cw0 (fun e => by have : F gw = 20 + k := e; omega)⟩)
  have HWI := Lib.hid (show wi (i : Int) 0 ((t.way.length : Int) - 1) = true by rw [wi_true]; omega)
  generalize hQ : RwN w F W tb (t.node k ((t.L[k]'hk).1.heard (t.way[i]'hi))) ((t.L[k]'hk).1.hearN (t.way[i]'hi)) ((t.L[k]'hk).1.hearE (t.way[i]'hi)) = Q at *
  clear hQ HLV
  generalize bs[k]'hb = b at *
  clear h hd
  generalize t.way[i]'hi = x at *
  have ik0 : (0 : Int) ≤ (k : Int) := by omega
  have ik1 : (k : Int) < (t.L.length : Int) := by omega
  have ii0 : (0 : Int) ≤ (i : Int) := by omega
  have ii1 : (i : Int) < (t.way.length : Int) := by omega
  have hm1 : (t.way.length : Int) ≤ 1000 := by omega
  go_enter Tryz.func12, Tryz.ntmps12
  go_wp2_with fail
  refine (rwithin_b _ _ _ true HWI.out _).mono ?_
  rintro e' w' ⟨rfl, rfl⟩
  go_wp2_with fail
  refine HLV2.out.mono ?_
  rintro e' w' ⟨rfl, rfl⟩
  go_wp2_with fail
  go_region_held3 (fun w' => w'.cell? ⟨tb, 0, none⟩ = some (.slice (some ⟨gn, 0, none⟩) t.L.length cn) ∧ w'.cell? ⟨tb, 2, none⟩ = some (.slice (some ⟨gw, 0, none⟩) t.way.length cw) ∧ w'.cell? ⟨gn, k, none⟩ = some (.pointer (some ⟨b, 0, none⟩)) ∧ w'.cell? ⟨gw, i, none⟩ = some (.string x))
    ((refine HS.out _ ?_; first | (with_reducible exact hK2) | (with_reducible exact Kept.refl _ _) | (with_reducible exact (Kept.refl _ _).drew)))
    ((go_at_call 36; (with_reducible refine (HL.out _ ?ia).mono ?_); (case ia => first | (with_reducible exact Below.refl _ _) | (with_reducible exact (Below.refl _ _).drew)); intro e' w2 hr; have H2 := Lib.hid (HH.out _ (by first | (with_reducible exact Below.refl _ _) | (with_reducible exact (Below.refl _ _).drew)) _ _ hr); have hK2 : Kept (fun x => F x = 20 + k) W w2 := (by obtain ⟨_, _, _, _, _, hkk⟩ := hr; first | (with_reducible exact hkk) | exact Kept.trans (Kept.refl _ _).drew hkk); obtain ⟨A2, c2', rfl, -⟩ := hr))
  all_goals
    clear hK2
    go_wp2
    exact H2.out
theorem rbring_any (h : RTownIs F W tb db nv wv bs t) (hC : Col w W F) (hg : TGood t) (i z : Int) :
    Calls Tryz.prog 12 #[.pointer (some ⟨tb, 0, none⟩), .int .i64 i, .int .i64 z] W (RwN w F W tb (t.brought i z) (t.bringN i z) (t.bringE i z)) := by
  unfold TSt.brought TSt.bringN TSt.bringE
  by_cases hl : (t.under i && t.lives z) = true
  · rw [if_pos hl, if_pos hl, if_pos hl]
    simp only [Bool.and_eq_true] at hl
    obtain ⟨j, rfl, hj, hw⟩ := under_true hl.1
    obtain ⟨k, rfl, hk, hd⟩ := lives_true hl.2
    rw [TSt.at_is hk, hw]
    exact rbring_ok h hC hg.five hg.way k hk hd (hg.good _ (List.getElem_mem hk)) j hj
  · rw [if_neg hl, if_neg hl, if_neg hl]
    exact (rbring_no h hg.five hg.way i z (by simpa using hl)).mono fun e W' ⟨k1, k2⟩ => ⟨none, 0, k1, World.ownsRow_nil _ _ _ _, k2 ▸ h.toC hC⟩
end
end Go.Proofs.YtcikljcjhijjdabGreat

namespace Go.Proofs.YtcikljcjhijjdabGreat
open Go.RowKit Go.Lib
set_option linter.unusedSimpArgs false
set_option linter.unusedVariables false

theorem cellsTx_take (l : List ByteArray) (i : Nat) : (cellsTx l).take i = cellsTx (l.take i) := by simp [cellsTx, List.map_take]
theorem cellsTx_drop (l : List ByteArray) (i : Nat) : (cellsTx l).drop i = cellsTx (l.drop i) := by simp [cellsTx, List.map_drop]
theorem rlose_cc (g cap c3 n k bs : Nat) (A3 : Option Addr) (S : List ByteArray) (hn : n ≤ 1000) (hkn : k < n) (hS : S.length = n) (hcap : n ≤ cap) (W : World) (hrd : Reads W W.heap.size 1 (some ⟨g, 0, none⟩) n (cellsTx S))
    (h3 : A3 = if cap = k + 1 then some ⟨g, 0, none⟩ else some ⟨g, k + 1, none⟩) (hb : Blk W bs 24 #[.slice (some ⟨g, 0, none⟩) k cap, .slice A3 (n - (k + 1)) c3]) :
    Calls Tryz.prog 38 #[.slice (some ⟨bs, 0, none⟩) 2 2] W (NewT (n - 1) (cellsTx (cutW S k)) W) := by
  have hcut := hrd.cut (k := k + 1) (cap := cap) hkn hcap
  have h3' : A3 = if cap = k + 1 then some (⟨g, 0, none⟩ : Addr) else (some (⟨g, 0, none⟩ : Addr)).map (·.add ((k + 1) * 1)) := by
    rw [h3]
    split
    · rfl
    · simp [Addr.add]
  rw [← h3', Nat.mul_one, cellsTx_drop] at hcut
  have hhead : Reads W W.heap.size 1 (some ⟨g, 0, none⟩) k (cellsTx (S.take k)) := by
    refine ⟨by rw [cellsTx_len, List.length_take]; omega, fun hn0 => ?_⟩
    obtain ⟨ad, e, hb, hc⟩ := hrd.2 (by omega)
    refine ⟨ad, e, hb, fun j u hj => hc j u ?_⟩
    rw [← cellsTx_take, List.getElem?_take] at hj
    split at hj
    · exact hj
    · cases hj
  refine slT_concat [(some ⟨g, 0, none⟩, k, cap, cellsTx (S.take k)), (A3, n - (k + 1), c3, cellsTx (S.drop (k + 1)))] W.heap.size bs (by simp) W ?_ (Nat.le_refl _) hb 2 rfl (n - 1) (by simp [sumNT]; omega) _ (by unfold cutW; rw [cellsTx_app]; simp)
  intro s hs
  simp only [List.mem_cons, List.not_mem_nil, or_false] at hs
  rcases hs with rfl | rfl
  · exact ⟨hhead, oneCell_T _, by show k ≤ 1000; omega⟩
  · exact ⟨hcut, oneCell_T _, by show n - (k + 1) ≤ 1000; omega⟩
section
variable {w W W' W2 : World} {F F' : Nat → Nat} {tb db : Nat} {nv wv : Value} {bs : List Nat} {t t' : TSt}
theorem RTownIs.setWay {W1 : World} {F1 : Nat → Nat} {wv' : Value} {way' : List ByteArray} (h : RTownIs F W tb db nv wv bs t) (hC : Col w W F) (hC1 : Col w W1 F1) (m : Moved (fun c => c = 9 ∨ c = 29) F W F1 W1) (hr : RowC F1 9 W1 9 1 way'.length wv' (cellsTx way')) (h5 : t.L.length ≤ 5) :
    Col w (W1.setCell ⟨tb, 2, none⟩ wv') F1 ∧ Moved (fun c => c = 6 ∨ c = 9 ∨ c = 29) F W F1 (W1.setCell ⟨tb, 2, none⟩ wv') ∧ RTownIs F1 (W1.setCell ⟨tb, 2, none⟩ wv') tb db nv wv' bs ⟨t.L, way'⟩ := by
  have hb1 := m.blk hC (c' := 6) (by decide) (by decide) h.blk
  have hkp : Kept (fun k => F1 k = 6) W1 (W1.setCell ⟨tb, 2, none⟩ wv') := (Kept.refl (fun k => F1 k = 6) _).setCell (a := ⟨tb, 2, none⟩) (.inl hb1.2) _
  have hsz : (W1.setCell ⟨tb, 2, none⟩ wv').heap.size = W1.heap.size := by simp [World.setCell]
  have m2 : Moved (fun x => x = 6) F1 W1 F1 (W1.setCell ⟨tb, 2, none⟩ wv') := ⟨hkp, fun _ _ => rfl, fun k hl h0 => by have := hC1.hi k h0; omega⟩
  have f1 : F1 db = 8 := (m.col hC (by decide) (by decide)).2 h.fdb
  refine ⟨⟨hC1.lo, fun k hk => by rw [hsz]; exact hC1.hi k hk, hC1.bel.trans (hkp.below (fun k e => hC1.lo k (by rw [e]; decide)) hC1.bel.size)⟩, (m.mono (fun c hc => .inr hc)).trans (m2.mono (fun c hc => .inl hc)), ?_⟩
  refine ⟨⟨hb1.1.set_ 2 wv', hb1.2⟩, m2.row hC1 (by decide) (by decide) (m.row hC (by decide) (by decide) h.nds), m2.marks (by omega) (m.marks (by have := h.fdb; omega) h.ded), f1, m2.row hC1 (by decide) (by decide) hr, h.len, fun i hi hi' => ?_⟩
  have hi5 : i < 5 := Nat.lt_of_lt_of_le hi' h5
  exact m2.hold hC1 (by omega) (by omega) (m.hold hC (c' := 20 + i) (by omega) (by omega) (h.node i hi hi'))
/-- other texts under way, in blocks that are new -/
theorem RTownIs.newWay {W1 : World} {wv' : Value} {way' : List ByteArray} (h : RTownIs F W tb db nv wv bs t) (hC : Col w W F) (h5 : t.L.length ≤ 5) (hb : Below W.heap.size W W1) (ho : W1.ownsRow W.heap.size 9 1 wv' way'.length (cellsTx way')) :
    RwTo w F W tb ⟨t.L, way'⟩ (W1.setCell ⟨tb, 2, none⟩ wv') := by
  have hk : Kept (fun k => F k = 9) W W1 := .of_below hb
  have m := Moved.paint hC hk
  obtain ⟨q1, q2, q3⟩ := h.setWay hC (hC.paint (by decide) hk) (m.mono (fun c hc => .inl hc)) ⟨own_mono ho (Nat.zero_le _), paint_row ho⟩ h5
  exact ⟨_, q1, q2.mono (fun c hc => by unfold RefC; omega), _, _, _, _, q3⟩
set_option maxHeartbeats 400000 in
set_option maxRecDepth 100000 in
theorem rlose_no (h : RTownIs F W tb db nv wv bs t) (hm : t.way.length ≤ 1000) (i : Int) (hu : t.under i = false) :
    Calls Tryz.prog 14 #[.pointer (some ⟨tb, 0, none⟩), .int .i64 i] W fun e W' => e = .returned (.int .i64 4) ∧ W = W' := by
  obtain ⟨htb, b0, b1, b2⟩ := h.cells
  obtain ⟨Aw, cw, rfl⟩ := ownsRow_len h.way.1
  have hm1 : (t.way.length : Int) ≤ 1000 := by omega
  have hw : wi i 0 ((t.way.length : Int) - 1) = false := by
    rw [wi_false]
    rcases under_false hu with e | e
    · exact .inl e
    · exact .inr (by omega)
  have HWI := Lib.hid hw
  clear h hu hw
  generalize t.way.length = m at *
  go_enter Tryz.func14, Tryz.ntmps14
  go_wp2_with fail
  refine (rwithin_b _ _ _ false HWI.out _).mono ?_
  rintro e' w' ⟨rfl, rfl⟩
  go_wp2
  go_ret
  exact ⟨rfl, rfl⟩
set_option maxHeartbeats 2000000 in
set_option maxRecDepth 100000 in
theorem rlose_ok (h : RTownIs F W tb db nv wv bs t) (hC : Col w W F) (h5 : t.L.length ≤ 5) (hm : t.way.length ≤ 1000) (k : Nat) (hk : k < t.way.length) :
    Calls Tryz.prog 14 #[.pointer (some ⟨tb, 0, none⟩), .int .i64 (k : Int)] W (RwE w F W tb ⟨t.L, cutW t.way k⟩ 0) := by
  obtain ⟨htb, b0, b1, b2⟩ := h.cells
  obtain ⟨g, cap, rfl, hw1, hw2, hgw, hfw, -⟩ := h.word hk
  have hbf := h.blk.1
  have HWI := Lib.hid (show wi (k : Int) 0 ((t.way.length : Int) - 1) = true by rw [wi_true]; omega)
  have HNW := Lib.hid (fun W1 wv' hb ho => h.newWay (W1 := W1) (wv' := wv') (way' := cutW t.way k) hC h5 hb ho)
  have HRD := Lib.hid (show ∀ W', Below W.heap.size W W' → Reads W' W'.heap.size 1 (some ⟨g, 0, none⟩) t.way.length (cellsTx t.way) from fun W' hb => reads_more ((Reads.of_own h.way.1).below hb (Nat.le_refl _)) hb.size)
  have HST := Lib.hid (show ∀ w', Below W.heap.size W w' → w'.cell? ⟨tb, 2, none⟩ = some (.slice (some ⟨g, 0, none⟩) t.way.length cap) ∧ w'.frozen? ⟨tb, 2, none⟩ = false ∧ tb < w'.heap.size from fun w' h' => ⟨(h'.cell (p := ⟨tb, 2, none⟩) htb).trans b2, (hbf.below h' htb).frozen 2, Nat.lt_of_lt_of_le htb h'.size⟩)
  have HCL := Lib.hid (cutW_len hk)
  unfold maxLen at hw2
  have HCC := Lib.hid (fun W' A3 c3 bs (h0 : Below W.heap.size W W') h1 h2 => rlose_cc g cap c3 t.way.length k bs A3 t.way hm hk rfl hw1 W' (HRD.out W' h0) h1 h2)
  clear h hbf hfw
  generalize cutW t.way k = S' at *
  have hm1 : (t.way.length : Int) ≤ 1000 := by omega
  have hkn : k < t.way.length := hk
  have c1 : (k : Int) ≤ t.way.length := by omega
  have c2 : (k : Int) + 1 ≤ t.way.length := by omega
  have c3 : (k : Int) ≤ cap := by omega
  have c4 : (0 : Int) ≤ (k : Int) + 1 := by omega
  have c5 : ((k : Int) + 1).toNat = k + 1 := by omega
  have c6 : IntKind.i64.wrap ((k : Int) + 1) = (k : Int) + 1 := by rw [IntKind.wrap_i64]; omega
  have hck : ¬ cap = k := by omega
  have hck2 : (k : Int) ≤ (k : Int) + 1 := by omega
  generalize t.way.length = n at *
  by_cases hc : cap = k + 1
  · subst hc
    have HC1 := Lib.hid (fun W' c3 bs h0 (h3 : Blk W' bs 24 #[.slice (some ⟨g, 0, none⟩) k (k + 1), .slice (some ⟨g, 0, none⟩) 0 c3]) => HCC.out W' (some ⟨g, 0, none⟩) c3 bs h0 (if_pos rfl).symm (by rw [show n - (k + 1) = 0 by omega]; exact h3))
    go_enter Tryz.func14, Tryz.ntmps14
    go_upto_region 3 with ((refine (rwithin_b _ _ _ true HWI.out _).mono ?_; rintro e' w' ⟨rfl, rfl⟩))
    go_region_law (go_simp; go_at_call 38; (refine (HC1.out _ _ _ (Below.drew (Below.al5 (Below.refl _ _))) (Blk.drew (Blk.new _ _ _))).mono ?_); rintro e' w9 ⟨A9, c9, rfl, hown9, hb9⟩; have hL9 : Below W.heap.size W w9 := Below.thru5 (Below.drew (Below.al5 (Below.refl _ _))) hb9; have ho9 := ownsRow_base hown9 (show Below W.heap.size W _ from Below.drew (Below.al5 (Below.refl _ _))).size; obtain ⟨z9, zf9, zl9⟩ := HST.out w9 hL9)
    all_goals
      have FIN := Lib.hid (HNW.out w9 (.slice A9 (n - 1) c9) hL9 (by rw [HCL.out]; exact ho9))
      clear ho9 hown9 hL9 hb9
      go_wp2
      go_ret
      exact ⟨rfl, FIN.out⟩
  · go_enter Tryz.func14, Tryz.ntmps14
    go_upto_region 3 with ((refine (rwithin_b _ _ _ true HWI.out _).mono ?_; rintro e' w' ⟨rfl, rfl⟩))
    go_region_law (go_simp; go_at_call 38; (refine (HCC.out _ _ _ _ (Below.drew (Below.al5 (Below.refl _ _))) (if_neg hc).symm (Blk.drew (Blk.new _ _ _))).mono ?_); rintro e' w9 ⟨A9, c9, rfl, hown9, hb9⟩; have hL9 : Below W.heap.size W w9 := Below.thru5 (Below.drew (Below.al5 (Below.refl _ _))) hb9; have ho9 := ownsRow_base hown9 (show Below W.heap.size W _ from Below.drew (Below.al5 (Below.refl _ _))).size; obtain ⟨z9, zf9, zl9⟩ := HST.out w9 hL9)
    all_goals
      have FIN := Lib.hid (HNW.out w9 (.slice A9 (n - 1) c9) hL9 (by rw [HCL.out]; exact ho9))
      clear ho9 hown9 hL9 hb9
      go_wp2
      go_ret
      exact ⟨rfl, FIN.out⟩
theorem rlose_any (h : RTownIs F W tb db nv wv bs t) (hC : Col w W F) (hg : TGood t) (i : Int) :
    Calls Tryz.prog 14 #[.pointer (some ⟨tb, 0, none⟩), .int .i64 i] W (RwE w F W tb (t.lost i) (t.loseE i)) := by
  unfold TSt.lost TSt.loseE
  by_cases hl : t.under i = true
  · rw [if_pos hl, if_pos hl]
    obtain ⟨k, rfl, hk, -⟩ := under_true hl
    exact rlose_ok h hC hg.five hg.way k hk
  · rw [if_neg hl, if_neg hl]
    exact (rlose_no h hg.way i (by simpa using hl)).mono fun e W' ⟨k1, k2⟩ => ⟨k1, k2 ▸ h.toC hC⟩
end
end Go.Proofs.YtcikljcjhijjdabGreat

namespace Go.Proofs.YtcikljcjhijjdabGreat
open Go.RowKit Go.Lib
set_option linter.unusedSimpArgs false
set_option linter.unusedVariables false

section
variable {w W W' wr w2 w3 w4 : World} {F F1 : Nat → Nat} {tb db : Nat} {nv wv ov : Value} {bs : List Nat} {t : TSt} {g : Int} {k : Nat}
theorem RTownIs.other5 {P : Nat → Prop} {F' : Nat → Nat} (h : RTownIs F W tb db nv wv bs t) (hC : Col w W F) (m : Moved P F W F' W') (hP : ∀ c, P c → ¬ ((6 ≤ c ∧ c ≤ 9) ∨ (20 ≤ c ∧ c < 25))) (h5 : t.L.length ≤ 5) : RTownIs F' W' tb db nv wv bs t := by
  have hn : ∀ c, ((6 ≤ c ∧ c ≤ 9) ∨ (20 ≤ c ∧ c < 25)) → ¬ P c := fun c h1 h2 => hP c h2 h1
  refine ⟨m.blk hC (by omega) (hn 6 (by omega)) h.blk, m.row hC (by omega) (hn 7 (by omega)) h.nds, m.marks (by rw [h.fdb]; exact hn 8 (by omega)) h.ded, (m.col hC (by omega) (hn 8 (by omega))).2 h.fdb, m.row hC (by omega) (hn 9 (by omega)) h.way, h.len, fun i hi hi' => ?_⟩
  have hi5 : i < 5 := Nat.lt_of_lt_of_le hi' h5
  exact m.hold hC (by omega) (hn (20 + i) (by omega)) (h.node i hi hi')
/-- among the ticks of the nodes, behind k of them -/
structure RkSt (w : World) (F : Nat → Nat) (W : World) (tb db : Nat) (nv : Value) (bs : List Nat) (t : TSt) (g : Int) (k : Nat) (F1 : Nat → Nat) (wv ov : Value) (wr : World) : Prop where
  col : Col w wr F1
  mov : Moved RefC F W F1 wr
  twn : RTownIs F1 wr tb db nv wv bs (t.mid g k)
  out : wr.ownsRow W.heap.size 55 3 ov (t.midN g k).length (cells3 (t.midN g k))
  oc : ∀ x, ov.ownBlock = some x → F1 x = 29
def RkRel (w : World) (F : Nat → Nat) (W : World) (tb db : Nat) (nv : Value) (bs : List Nat) (t : TSt) (g : Int) (k : Nat) (ov : Value) (wr : World) : Prop := ∃ F1 wv, RkSt w F W tb db nv bs t g k F1 wv ov wr
theorem RkRel.skip (h : RkRel w F W tb db nv bs t g k ov wr) (hk : k < t.L.length) (hd : (t.L[k]'hk).2 = true) : RkRel w F W tb db nv bs t g (k + 1) ov wr := by
  obtain ⟨F1, wv, h⟩ := h
  obtain ⟨e1, e2⟩ := mid_dead (g := g) hk hd
  exact ⟨F1, wv, h.col, h.mov, by rw [e1]; exact h.twn, by rw [e2]; exact h.out, h.oc⟩
/-- behind one node's Tick, and the texts' append too (c: the colour that the notes bear) -/
structure RkMid (w : World) (F : Nat → Nat) (W : World) (tb db : Nat) (nv : Value) (bs : List Nat) (t : TSt) (g : Int) (k : Nat) (F2 : Nat → Nat) (wv ov xv : Value) (N : List TriD) (w2 : World) (L' : List NdB) (way' : List ByteArray) : Prop where
  col : Col w w2 F2
  mov : Moved RefC F W F2 w2
  twn : RTownIs F2 w2 tb db nv wv bs ⟨L', way'⟩
  out : w2.ownsRow W.heap.size 55 3 ov (t.midN g k).length (cells3 (t.midN g k))
  oc : ∀ x, ov.ownBlock = some x → F2 x = 29
  nts : w2.ownsRow 0 55 3 xv N.length (cells3 N)
  nc : ∀ x, xv.ownBlock = some x → F2 x = 20 + k
theorem RkSt.node {N : List TriD} {s1 : NSt} {xv : Value} (h : RkSt w F W tb db nv bs t g k F1 wv ov wr) (h5 : t.L.length ≤ 5) (hk : k < t.L.length) (hd : (t.L[k]'hk).2 = false)
    (hn : w2.ownsRow wr.heap.size 55 3 xv N.length (cells3 N)) (hN : RNodeAt (grow (fun x => F1 x = 20 + k) wr w2) w2 (bs[k]'(by rw [h.twn.len, TSt.mid_len]; exact hk)) s1) (hkp : Kept (fun x => F1 x = 20 + k) wr w2) :
    RkMid w F W tb db nv bs t g k (paint F1 wr w2 (20 + k)) wv ov xv N w2 ((t.mid g k).L.set k (s1, false)) (t.mid g k).way := by
  have hml : k < (t.mid g k).L.length := by rw [TSt.mid_len]; exact hk
  have hat := TSt.mid_at t g k k hk (Nat.le_refl _)
  have m := Moved.paint h.col hkp
  exact ⟨h.col.paint (by omega) hkp, h.mov.trans (m.mono (fun c hc => .inr (by omega))), h.twn.turn h.col hml hkp hN (by rw [hat]; exact hd.symm),
    hkp.own h.out (fun x hx e => by have := h.oc x hx; omega), fun x hx => (m.col h.col (by decide) (by omega)).2 (h.oc x hx), own_mono hn (Nat.zero_le _), paint_row hn⟩
/-- the texts are under way -/
theorem RkMid.way {F2 : Nat → Nat} {T way' : List ByteArray} {N : List TriD} {L' : List NdB} {xv wv' : Value} (h : RkMid w F W tb db nv bs t g k F2 wv ov xv N w2 L' way') (h5 : L'.length ≤ 5) (hk5 : k < 5)
    (ho3 : w3.ownsRow 0 9 1 wv' (way'.length + T.length) (cellsTx way' ++ cellsTx T)) (hg3 : w2.grownBy w3 wv.ownBlock) (hb3 : wv'.ownBlock = wv.ownBlock ∨ wv'.ownBlock = some w2.heap.size) :
    (Blk w3 tb 49 #[nv, .map (some db), wv]) ∧ ∃ F3, RkMid w F W tb db nv bs t g k F3 wv' ov xv N (w3.setCell ⟨tb, 2, none⟩ wv') L' (way' ++ T) := by
  have hwF : ∀ x, wv.ownBlock = some x → F2 x = 9 := h.twn.way.2
  have k3 : Kept (fun x => F2 x = 9) w2 w3 := (Kept.refl _ _).grown hg3 (fun x e => .inl (hwF x e))
  have m3 := Moved.paint h.col k3
  have c3 := h.col.paint (by decide) k3
  have hw3 : RowC (paint F2 w2 w3 9) 9 w3 9 1 (way'.length + T.length) wv' (cellsTx way' ++ cellsTx T) := ⟨ho3, fun x e => by
    have hl := (ho3.lt x e).2
    rcases hb3 with e2 | e2
    · rw [e2] at e
      exact paint_keep (hwF x e)
    · rw [e2] at e
      injection e with e
      exact paint_new (by omega) hl⟩
  obtain ⟨q1, q2, q3⟩ := h.twn.setWay (way' := way' ++ T) h.col c3 (m3.mono (fun c hc => .inl hc)) ⟨by rw [List.length_append, cellsTx_app]; exact hw3.1, hw3.2⟩ h5
  have kk : Kept (fun x => x = tb) w3 (w3.setCell ⟨tb, 2, none⟩ wv') := (Kept.refl (fun x => x = tb) _).setCell (a := ⟨tb, 2, none⟩) (.inl rfl) _
  refine ⟨k3.blk h.twn.blk.1 (fun hx => by have := h.twn.blk.2; omega), _, q1, h.mov.trans (q2.mono (fun c hc => by unfold RefC; omega)), q3, kk.own (k3.own h.out (fun x e hx => by have := h.oc x e; omega)) (fun x e hx => by have h1 := h.oc x e; have hx : x = tb := hx; rw [hx] at h1; have := h.twn.blk.2; omega), fun x e => ?_, kk.own (k3.own h.nts (fun x e hx => by have := h.nc x e; omega)) (fun x e hx => by have h1 := h.nc x e; have hx : x = tb := hx; rw [hx] at h1; have := h.twn.blk.2; omega), fun x e => ?_⟩
  · have h9 := h.oc x e
    exact (m3.col h.col (by decide) (by decide)).2 h9
  · have h9 := h.nc x e
    exact (m3.col h.col (by omega) (by omega)).2 h9
/-- .. and the notes are told -/
theorem RkMid.app {F2 : Nat → Nat} {T : List ByteArray} {N : List TriD} {s1 : NSt} {xv ov' : Value} (h : RkMid w F W tb db nv bs t g k F2 wv ov xv N w3 ((t.mid g k).L.set k (s1, false)) ((t.mid g k).way ++ T)) (h5 : t.L.length ≤ 5) (hk : k < t.L.length)
    (ho4 : w4.ownsRow W.heap.size 55 3 ov' ((t.midN g k).length + N.length) (cells3 (t.midN g k) ++ cells3 N)) (hg4 : w3.grownBy w4 ov.ownBlock) (hb4 : ov'.ownBlock = ov.ownBlock ∨ ov'.ownBlock = some w3.heap.size)
    (hT : T = beats1 g (t.L[k]'hk)) (hN : N = notes1b g (t.L[k]'hk)) (hS : (s1, false) = tick1 g (t.L[k]'hk)) : RkRel w F W tb db nv bs t g (k + 1) ov' w4 := by
  have k4 : Kept (fun x => F2 x = 29) w3 w4 := (Kept.refl _ _).grown hg4 (fun x e => .inl (h.oc x e))
  have m4 := Moved.paint h.col k4
  have c4 := h.col.paint (by decide) k4
  have hl5 : ((t.mid g k).L.set k (s1, false)).length ≤ 5 := by rw [List.length_set, TSt.mid_len]; exact h5
  have ew : (t.mid g (k + 1)).way = (t.mid g k).way ++ T := by rw [TSt.mid_way t g k hk, hT]
  have el : (t.mid g (k + 1)).L = (t.mid g k).L.set k (s1, false) := by rw [TSt.mid_set t g k hk, hS]
  have en : t.midN g (k + 1) = t.midN g k ++ N := by rw [TSt.midN_snoc t g k hk, hN]
  have emid : t.mid g (k + 1) = ⟨(t.mid g k).L.set k (s1, false), (t.mid g k).way ++ T⟩ := by rw [← ew, ← el]
  refine ⟨_, wv, c4, h.mov.trans (m4.mono (fun c hc => by unfold RefC; omega)), by rw [emid]; exact h.twn.other5 h.col m4 (fun c hc => by omega) hl5, by rw [en, List.length_append, cells3_app]; exact ho4, fun x e => ?_⟩
  have hl := (ho4.lt x e).2
  rcases hb4 with e2 | e2
  · rw [e2] at e
    exact paint_keep (h.oc x e)
  · rw [e2] at e
    injection e with e
    exact paint_new (by omega) hl
end
end Go.Proofs.YtcikljcjhijjdabGreat
