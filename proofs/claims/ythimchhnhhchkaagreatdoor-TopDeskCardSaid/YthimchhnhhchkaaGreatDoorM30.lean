/- peers.Hear, walked. (with what it needs) -/
import Derived.Test.YthimchhnhhchkaaGreatDoorM29
import Derived.Deep.AppendLies
import Derived.Deep.DeepCutAuto
import Derived.Deep.RegionHeld3
namespace Go.Proofs.YthimchhnhhchkaaGreatDoor
open Go.RowKit Go.Lib
set_option linter.unusedSimpArgs false
set_option linter.unusedVariables false


/-- what Hear and its reference answer where nothing is heard -/
def HearNo (e : Int) (w : World) (x : Ending) (w' : World) : Prop := x = .returned (.tuple #[.slice none 0 0, .bool false, .int .i64 e]) ∧ Below w.heap.size w w'
/-- what they answer where one is heard of -/
def HearIs (A0 : Option Addr) (l0 : List PeerT) (D : List PeerD) (n : Nat) (is : Bool) (w : World) (x : Ending) (w' : World) : Prop :=
  ∃ A c l', x = .returned (.tuple #[.slice A n c, .bool is, .int .i64 0]) ∧ l'.map Prod.fst = D ∧ Peers w' w'.heap.size A n l' ∧ Below w.heap.size w w' ∧ (n ≤ c ∧ c ≤ maxLen) ∧ KeepsP w A0 l0 A l'
/-- a beat that came: a gate that does not let it through -/
def oldD (d : PeerD) (m : Int) : PeerD := (d.1, (d.2.1.1, d.2.1.2.1, m), d.2.2)
/-- a beat that came: let through -/
def newD (d : PeerD) (inc seq x now : Int) : PeerD := (d.1, (inc, seq, d.2.1.2.2), d.2.2.1, pushV d.2.2.1 d.2.2.2.1 x, now)
theorem beatE_ok {b : ByteArray} {inc seq : Int} (h : beatE b inc seq = 0) : BeatNo inc seq := by
  unfold beatE at h
  split at h
  · split at h
    · rename_i h2; exact h2
    · simp at h
  · simp at h
theorem map_get {l l' : List PeerT} (h : l'.map Prod.fst = l.map Prod.fst) (k : Nat) (hk : k < l.length) (hk' : k < l'.length) : (l'[k]'hk').1 = (l[k]'hk).1 := by
  have e1 : (l'.map Prod.fst)[k]? = some (l'[k]'hk').1 := by rw [List.getElem?_map, List.getElem?_eq_getElem hk']; rfl
  have e2 : (l.map Prod.fst)[k]? = some (l[k]'hk).1 := by rw [List.getElem?_map, List.getElem?_eq_getElem hk]; rfl
  rw [h, e2] at e1
  injection e1 with e1
  exact e1.symm
theorem RowP.gate {w : World} {g cap n : Nat} {l : List PeerT} (h : RowP w g cap n l) (k : Nat) (hk : k < l.length) (i s d : Int) (p' : PeerT) (hp : p' = (((l[k]'hk).1.1, (i, s, d), (l[k]'hk).1.2.2), (l[k]'hk).2)) :
    RowP (((w.setCell ⟨g, k * 7 + 1, none⟩ (.int .i64 i)).setCell ⟨g, k * 7 + 1 + 1, none⟩ (.int .i64 s)).setCell ⟨g, k * 7 + 1 + 2, none⟩ (.int .i64 d)) g cap n (l.set k p') := by
  have h1 := h.set_ k 1 (.int .i64 i) (((l[k]'hk).1.1, (i, (l[k]'hk).1.2.1.2.1, (l[k]'hk).1.2.1.2.2), (l[k]'hk).1.2.2), (l[k]'hk).2) hk (by decide) rfl
  have h2 := h1.set_ k 2 (.int .i64 s) (((l[k]'hk).1.1, (i, s, (l[k]'hk).1.2.1.2.2), (l[k]'hk).1.2.2), (l[k]'hk).2) (by simpa using hk) (by decide) (by rw [List.getElem_set_self]; rfl)
  have h3 := h2.set_ k 3 (.int .i64 d) p' (by simpa using hk) (by decide) (by rw [List.getElem_set_self, hp]; rfl)
  rw [List.set_set, List.set_set] at h3
  exact h3
theorem RowP.win {w : World} {g cap n : Nat} {l : List PeerT} (h : RowP w g cap n l) (k : Nat) (hk : k < l.length) (cp : Int) (A : Option Addr) (c : Nat) (v : List Int) (p' : PeerT) (hp : p' = (((l[k]'hk).1.1, (l[k]'hk).1.2.1, cp, v, (l[k]'hk).1.2.2.2.2), A, c)) :
    RowP ((w.setCell ⟨g, k * 7 + 4, none⟩ (.int .i64 cp)).setCell ⟨g, k * 7 + 4 + 1, none⟩ (.slice A v.length c)) g cap n (l.set k p') := by
  have h1 := h.set_ k 4 (.int .i64 cp) (((l[k]'hk).1.1, (l[k]'hk).1.2.1, cp, (l[k]'hk).1.2.2.2), (l[k]'hk).2) hk (by decide) rfl
  have h2 := h1.set_ k 5 (.slice A v.length c) p' (by simpa using hk) (by decide) (by rw [List.getElem_set_self, hp]; rfl)
  rw [List.set_set] at h2
  exact h2
theorem RowP.last_ {w : World} {g cap n : Nat} {l : List PeerT} (h : RowP w g cap n l) (k : Nat) (hk : k < l.length) (x : Int) (p' : PeerT) (hp : p' = (((l[k]'hk).1.1, (l[k]'hk).1.2.1, (l[k]'hk).1.2.2.1, (l[k]'hk).1.2.2.2.1, x), (l[k]'hk).2)) :
    RowP (w.setCell ⟨g, k * 7 + 6, none⟩ (.int .i64 x)) g cap n (l.set k p') :=
  h.set_ k 6 (.int .i64 x) p' hk (by decide) (by rw [hp]; rfl)
theorem Peers.of_row {w : World} {g cap n H : Nat} {l : List PeerT} (h : RowP w g cap n l) (hv : ValsOwn H w l) (hid : ∀ p ∈ l, (pid p).size ≤ maxLen) : Peers w w.heap.size (some ⟨g, 0, none⟩) n l :=
  ⟨h.1, h.reads, hv.ok hid⟩
theorem ids_set {l : List PeerT} (h : ∀ p ∈ l, (pid p).size ≤ maxLen) (k : Nat) (p' : PeerT) (hp : (pid p').size ≤ maxLen) : ∀ p ∈ l.set k p', (pid p).size ≤ maxLen := fun q hq => by
  rcases List.mem_or_eq_of_mem_set hq with hq | rfl
  · exact h q hq
  · exact hp
theorem ValsOwn.row {H : Nat} {w : World} {l : List PeerT} {g cap n : Nat} {l' : List PeerT} (h : ValsOwn H w l) (hr : RowP w g cap n l') (j : Nat) (v : Value) : ValsOwn H (w.setCell ⟨g, j, none⟩ v) l := by
  obtain ⟨cur, hb⟩ := hr.blk
  exact h.set_ hb (by decide) j v
theorem RowP.any {w : World} {g cap n : Nat} {l : List PeerT} (h : RowP w g cap n l) (j : Nat) (v : Value) : ∃ cur, Blk (w.setCell ⟨g, j, none⟩ v) g 183 cur := by
  obtain ⟨cur, hb⟩ := h.blk
  exact ⟨_, hb.set_ j v⟩
theorem ValsOwn.at_ {H : Nat} {w : World} {l : List PeerT} {g : Nat} (h : ValsOwn H w l) (hb : ∃ cur, Blk w g 183 cur) (j : Nat) (v : Value) : ValsOwn H (w.setCell ⟨g, j, none⟩ v) l := by
  obtain ⟨cur, hb⟩ := hb
  exact h.set_ hb (by decide) j v
theorem blk_at {w : World} {g : Nat} (hb : ∃ cur, Blk w g 183 cur) (j : Nat) (v : Value) : ∃ cur, Blk (w.setCell ⟨g, j, none⟩ v) g 183 cur := by
  obtain ⟨cur, hb⟩ := hb
  exact ⟨_, hb.set_ j v⟩
/-- the windows' values stay where three cells of the peers' row are changed -/
theorem ValsOwn.at3 {H : Nat} {w : World} {l : List PeerT} {g : Nat} (h : ValsOwn H w l) (hb : ∃ cur, Blk w g 183 cur) (i j k : Nat) (u v x : Value) : ValsOwn H (((w.setCell ⟨g, i, none⟩ u).setCell ⟨g, j, none⟩ v).setCell ⟨g, k, none⟩ x) l :=
  ((h.at_ hb i u).at_ (blk_at hb i u) j v).at_ (blk_at (blk_at hb i u) j v) k x

set_option maxHeartbeats 4000000 in
set_option maxRecDepth 100000 in
theorem hear_chk (A : Option Addr) (c B n : Nat) (l : List PeerT) (hm : n ≤ maxLen) (bid : ByteArray) (hbid : bid.size ≤ maxLen) (inc seq now : Int) (w : World) (hp : Peers w B A n l) (hB : B ≤ w.heap.size) (e0 : Int) (he : peersE l = e0) (hz : e0 ≠ 0) :
    Calls Tryz.prog 143 #[.slice A n c, .agg #[.string bid, .int .i64 inc, .int .i64 seq], .int .i64 now] w (HearNo e0 w) := by
  have HP := Lib.hid hp
  have HBB := Lib.hid hB
  have HN := Lib.hid hp.len
  have E := Lib.hid ((Env.start w).lay #[.string bid, .int .i64 inc, .int .i64 seq] 173)
  clear hp hB
  have HE := Lib.hid he
  clear he
  go_enter Tryz.func143, Tryz.ntmps143
  go_wp2_with fail
  refine (pchk_is A c B n l hm _ HE.out _ (HP.out.below E.out.bel HBB.out) (Nat.le_trans HBB.out E.out.bel.size)).mono ?_
  rintro e' w1 ⟨rfl, hb1⟩
  have E1 := Lib.hid (E.out.below hb1)
  clear hb1
  have z0 := E1.out.hd.cell 0
  have z1 := E1.out.hd.cell 1
  have z2 := E1.out.hd.cell 2
  simp at z0 z1 z2
  go_wp2
  all_goals first
    | (exfalso; omega)
    | (refine bodyPost_ret (v := .tuple #[.slice none 0 0, .bool false, .int .i64 e0]) (by simp [results, Tryz.results143, go_sem]) rfl ⟨rfl, E1.out.bel⟩)

set_option maxHeartbeats 4000000 in
set_option maxRecDepth 100000 in
theorem hear_beat (A : Option Addr) (c B n : Nat) (l : List PeerT) (hm : n ≤ maxLen) (bid : ByteArray) (hbid : bid.size ≤ maxLen) (inc seq now : Int) (w : World) (hp : Peers w B A n l) (hB : B ≤ w.heap.size) (he : peersE l = 0) (e0 : Int) (hb : beatE bid inc seq = e0) (hz : e0 ≠ 0) :
    Calls Tryz.prog 143 #[.slice A n c, .agg #[.string bid, .int .i64 inc, .int .i64 seq], .int .i64 now] w (HearNo e0 w) := by
  have HP := Lib.hid hp
  have HBB := Lib.hid hB
  have HN := Lib.hid hp.len
  have E := Lib.hid ((Env.start w).lay #[.string bid, .int .i64 inc, .int .i64 seq] 173)
  clear hp hB
  have HE := Lib.hid he
  have HBE := Lib.hid hb
  clear he hb
  go_enter Tryz.func143, Tryz.ntmps143
  go_wp2_with fail
  refine (pchk_is A c B n l hm _ HE.out _ (HP.out.below E.out.bel HBB.out) (Nat.le_trans HBB.out E.out.bel.size)).mono ?_
  rintro e' w1 ⟨rfl, hb1⟩
  have E1 := Lib.hid (E.out.below hb1)
  clear hb1
  have z0 := E1.out.hd.cell 0
  have z1 := E1.out.hd.cell 1
  have z2 := E1.out.hd.cell 2
  simp at z0 z1 z2
  go_wp2_with fail
  refine (bcheck_any bid hbid inc seq _).mono ?_
  rw [HBE.out]
  rintro e' w2 ⟨rfl, hb2⟩
  have E2 := Lib.hid (E1.out.below hb2)
  clear hb2 z0 z1 z2
  have z0 := E2.out.hd.cell 0
  have z1 := E2.out.hd.cell 1
  have z2 := E2.out.hd.cell 2
  simp at z0 z1 z2
  go_wp2
  all_goals first
    | (exfalso; omega)
    | (refine bodyPost_ret (v := .tuple #[.slice none 0 0, .bool false, .int .i64 e0]) (by simp [results, Tryz.results143, go_sem]) rfl ⟨rfl, E2.out.bel⟩)

set_option maxHeartbeats 4000000 in
set_option maxRecDepth 100000 in
theorem hear_now (A : Option Addr) (c B n : Nat) (l : List PeerT) (hm : n ≤ maxLen) (bid : ByteArray) (hbid : bid.size ≤ maxLen) (inc seq now : Int) (w : World) (hp : Peers w B A n l) (hB : B ≤ w.heap.size) (he : peersE l = 0) (hb : beatE bid inc seq = 0) (hn : now < 0 ∨ 1073741824 < now) :
    Calls Tryz.prog 143 #[.slice A n c, .agg #[.string bid, .int .i64 inc, .int .i64 seq], .int .i64 now] w (HearNo 1 w) := by
  have HP := Lib.hid hp
  have HBB := Lib.hid hB
  have HN := Lib.hid hp.len
  have E := Lib.hid ((Env.start w).lay #[.string bid, .int .i64 inc, .int .i64 seq] 173)
  clear hp hB
  have HE := Lib.hid he
  have HBE := Lib.hid hb
  clear he hb
  go_enter Tryz.func143, Tryz.ntmps143
  go_wp2_with fail
  refine (pchk_is A c B n l hm _ HE.out _ (HP.out.below E.out.bel HBB.out) (Nat.le_trans HBB.out E.out.bel.size)).mono ?_
  rintro e' w1 ⟨rfl, hb1⟩
  have E1 := Lib.hid (E.out.below hb1)
  clear hb1
  have z0 := E1.out.hd.cell 0
  have z1 := E1.out.hd.cell 1
  have z2 := E1.out.hd.cell 2
  simp at z0 z1 z2
  go_wp2_with fail
  refine (bcheck_any bid hbid inc seq _).mono ?_
  rw [HBE.out]
  rintro e' w2 ⟨rfl, hb2⟩
  have E2 := Lib.hid (E1.out.below hb2)
  clear hb2 z0 z1 z2
  have z0 := E2.out.hd.cell 0
  have z1 := E2.out.hd.cell 1
  have z2 := E2.out.hd.cell 2
  simp at z0 z1 z2
  go_wp2
  all_goals first
    | (exfalso; omega)
    | (refine bodyPost_ret (v := .tuple #[.slice none 0 0, .bool false, .int .i64 1]) (by simp [results, Tryz.results143, go_sem]) rfl ⟨rfl, E2.out.bel⟩)

set_option maxHeartbeats 4000000 in
set_option maxRecDepth 100000 in
theorem hear_none (A : Option Addr) (c B n : Nat) (l : List PeerT) (hm : n ≤ maxLen) (bid : ByteArray) (hbid : bid.size ≤ maxLen) (inc seq now : Int) (w : World) (hp : Peers w B A n l) (hB : B ≤ w.heap.size) (he : peersE l = 0) (hb : beatE bid inc seq = 0) (hn0 : 0 ≤ now) (hn1 : now ≤ 1073741824) (hno : ∀ j, (hj : j < l.length) → pid (l[j]'hj) ≠ bid) :
    Calls Tryz.prog 143 #[.slice A n c, .agg #[.string bid, .int .i64 inc, .int .i64 seq], .int .i64 now] w (HearNo 4 w) := by
  obtain ⟨h6, hgood, hasc⟩ := peersE_zero he
  have hn6 : n ≤ 6 := by rw [← hp.len]; exact h6
  obtain ⟨i0, hi0, -, -, hfi⟩ := find_none A c B n l hasc bid hno hp.len (by omega)
  have HF := Lib.hid hfi
  clear hfi hno hgood hasc
  have HP := Lib.hid hp
  have HBB := Lib.hid hB
  have HN := Lib.hid hp.len
  have E := Lib.hid ((Env.start w).lay #[.string bid, .int .i64 inc, .int .i64 seq] 173)
  clear hp hB
  have HE := Lib.hid he
  have HBE := Lib.hid hb
  clear he hb
  go_enter Tryz.func143, Tryz.ntmps143
  go_wp2_with fail
  refine (pchk_is A c B n l hm _ HE.out _ (HP.out.below E.out.bel HBB.out) (Nat.le_trans HBB.out E.out.bel.size)).mono ?_
  rintro e' w1 ⟨rfl, hb1⟩
  have E1 := Lib.hid (E.out.below hb1)
  clear hb1
  have z0 := E1.out.hd.cell 0
  have z1 := E1.out.hd.cell 1
  have z2 := E1.out.hd.cell 2
  simp at z0 z1 z2
  go_wp2_with fail
  refine (bcheck_any bid hbid inc seq _).mono ?_
  rw [HBE.out]
  rintro e' w2 ⟨rfl, hb2⟩
  have E2 := Lib.hid (E1.out.below hb2)
  clear hb2 z0 z1 z2
  have z0 := E2.out.hd.cell 0
  have z1 := E2.out.hd.cell 1
  have z2 := E2.out.hd.cell 2
  simp at z0 z1 z2
  go_wp2_with fail
  refine (HF.out _ (HP.out.below E2.out.bel HBB.out) (Nat.le_trans HBB.out E2.out.bel.size)).mono ?_
  rintro e' w3 ⟨rfl, hb3⟩
  have E3 := Lib.hid (E2.out.below hb3)
  clear hb3 z0 z1 z2
  go_wp2
  all_goals first
    | (exfalso; omega)
    | (refine bodyPost_ret (v := .tuple #[.slice none 0 0, .bool false, .int .i64 4]) (by simp [results, Tryz.results143, go_sem]) rfl ⟨rfl, E3.out.bel⟩)

set_option maxHeartbeats 4000000 in
set_option maxRecDepth 100000 in
theorem hear_late (A : Option Addr) (c B n : Nat) (l : List PeerT) (hm : n ≤ maxLen) (bid : ByteArray) (hbid : bid.size ≤ maxLen) (inc seq now : Int) (w : World) (hp : Peers w B A n l) (hB : B ≤ w.heap.size) (he : peersE l = 0) (hb : beatE bid inc seq = 0) (hn0 : 0 ≤ now) (hn1 : now ≤ 1073741824) (k : Nat) (hk : k < l.length) (hid : pid (l[k]'hk) = bid) (hlt : now < plast (l[k]'hk)) :
    Calls Tryz.prog 143 #[.slice A n c, .agg #[.string bid, .int .i64 inc, .int .i64 seq], .int .i64 now] w (HearNo 1 w) := by
  have HLT := Lib.hid hlt
  clear hlt
  obtain ⟨h6, hgood, hasc⟩ := peersE_zero he
  have hn6 : n ≤ 6 := by rw [← hp.len]; exact h6
  have hfi := find_some A c B n l hasc k hk (by omega)
  rw [hid] at hfi
  have HF := Lib.hid hfi
  have h64 : ∀ p ∈ l, (pvals p).length ≤ 64 := fun p hp => good64 (hgood p hp)
  have hgk := hgood _ (List.getElem_mem hk)
  have HGK := Lib.hid hgk
  have H64 := Lib.hid h64
  have HIDS := Lib.hid (fun p hq => ((hp.ok p hq).2.2.2 : (pid p).size ≤ maxLen))
  have hkn : k < n := by rw [← hp.len]; exact hk
  clear hfi hgood hasc hgk h64 hid
  have HP := Lib.hid hp
  have HBB := Lib.hid hB
  have HN := Lib.hid hp.len
  have E := Lib.hid ((Env.start w).lay #[.string bid, .int .i64 inc, .int .i64 seq] 173)
  clear hp hB
  have HE := Lib.hid he
  have HBE := Lib.hid hb
  clear he hb
  go_enter Tryz.func143, Tryz.ntmps143
  go_wp2_with fail
  refine (pchk_is A c B n l hm _ HE.out _ (HP.out.below E.out.bel HBB.out) (Nat.le_trans HBB.out E.out.bel.size)).mono ?_
  rintro e' w1 ⟨rfl, hb1⟩
  have E1 := Lib.hid (E.out.below hb1)
  clear hb1
  have z0 := E1.out.hd.cell 0
  have z1 := E1.out.hd.cell 1
  have z2 := E1.out.hd.cell 2
  simp at z0 z1 z2
  go_wp2_with fail
  refine (bcheck_any bid hbid inc seq _).mono ?_
  rw [HBE.out]
  rintro e' w2 ⟨rfl, hb2⟩
  have E2 := Lib.hid (E1.out.below hb2)
  clear hb2 z0 z1 z2
  have z0 := E2.out.hd.cell 0
  have z1 := E2.out.hd.cell 1
  have z2 := E2.out.hd.cell 2
  simp at z0 z1 z2
  go_wp2_with fail
  refine (HF.out _ (HP.out.below E2.out.bel HBB.out) (Nat.le_trans HBB.out E2.out.bel.size)).mono ?_
  rintro e' w3 ⟨rfl, hb3⟩
  have E3 := Lib.hid (E2.out.below hb3)
  clear hb3 z0 z1 z2
  go_wp2_with fail
  refine (copied_is A c B n l (by omega) H64.out _ (HP.out.below E3.out.bel HBB.out) (Nat.le_trans HBB.out E3.out.bel.size)).mono ?_
  rintro e' w4 ⟨A4, c4, l4, rfl, hmp, hown, hvo, hb4⟩
  have hl4 : l4.length = n := by have := congrArg List.length hmp; simpa [HN.out] using this
  obtain ⟨g, rfl, hHg, hgl, hrow⟩ := RowP.of_own hown (by omega) hl4
  have E4 := Lib.hid (E3.out.below hb4)
  have hs3 := E3.out.bel.size
  have hk4 : k < l4.length := by omega
  have hq := map_get hmp k hk hk4
  have hids : ∀ p ∈ l4, (pid p).size ≤ maxLen := fun p hp4 => by
    obtain ⟨j, hj, rfl⟩ := List.getElem_of_mem hp4
    have := map_get hmp j (by have := HN.out; omega) hj
    show (l4[j]'hj).1.1.size ≤ maxLen
    rw [this]
    exact HIDS.out _ (List.getElem_mem (by have := HN.out; omega))
  have pc := hrow.cells k hk4
  have HGK4 := Lib.hid (show PeerGood (l4[k]'hk4) by have := HGK.out; unfold PeerGood at this ⊢; rw [show pid (l4[k]'hk4) = pid (l[k]'hk) from congrArg (·.1) hq, show pgi (l4[k]'hk4) = pgi (l[k]'hk) from congrArg (·.2.1.1) hq, show pgs (l4[k]'hk4) = pgs (l[k]'hk) from congrArg (·.2.1.2.1) hq, show pgd (l4[k]'hk4) = pgd (l[k]'hk) from congrArg (·.2.1.2.2) hq, show pcap (l4[k]'hk4) = pcap (l[k]'hk) from congrArg (·.2.2.1) hq, show pvals (l4[k]'hk4) = pvals (l[k]'hk) from congrArg (·.2.2.2.1) hq, show plast (l4[k]'hk4) = plast (l[k]'hk) from congrArg (·.2.2.2.2) hq]; exact this)
  have MP := Lib.hid hmp
  have RW := Lib.hid hrow
  have VO := Lib.hid (show ValsOwn w.heap.size w4 l4 from fun p hp => ownsRow_base (hvo p hp) hs3)
  have IDS := Lib.hid hids
  have HQ := Lib.hid hq
  have hgw : w.heap.size + 1 ≤ g := by have := E3.out.hd.lt; omega
  clear hmp hown hvo hb4 hrow hids hHg hq
  generalize hpk : l4[k]'hk4 = p at *
  have HPK := Lib.hid hpk
  clear hpk
  obtain ⟨c0, c1, c2, c3, c4', c5, c6⟩ := pc
  have hlt : now < plast p := by have := HLT.out; rw [show plast p = plast (l[k]'hk) from congrArg (·.2.2.2.2) HQ.out]; exact this
  go_wp2
  all_goals first
    | (exfalso; omega)
    | (refine bodyPost_ret (v := .tuple #[.slice none 0 0, .bool false, .int .i64 1]) (by simp [results, Tryz.results143, go_sem]) rfl ⟨rfl, E4.out.bel⟩)

set_option maxHeartbeats 4000000 in
set_option maxRecDepth 100000 in
theorem hear_old (A : Option Addr) (c B n : Nat) (l : List PeerT) (hm : n ≤ maxLen) (bid : ByteArray) (hbid : bid.size ≤ maxLen) (inc seq now : Int) (w : World) (hp : Peers w B A n l) (hB : B ≤ w.heap.size) (he : peersE l = 0) (hb : beatE bid inc seq = 0) (hn0 : 0 ≤ now) (hn1 : now ≤ 1073741824) (k : Nat) (hk : k < l.length) (hid : pid (l[k]'hk) = bid) (hge : plast (l[k]'hk) ≤ now) (hnw : ¬ Newer (pgi (l[k]'hk)) (pgs (l[k]'hk)) inc seq) :
    Calls Tryz.prog 143 #[.slice A n c, .agg #[.string bid, .int .i64 inc, .int .i64 seq], .int .i64 now] w (HearIs A l ((l.map Prod.fst).set k (oldD (l[k]'hk).1 (min (pgd (l[k]'hk) + 1) 1073741824))) n false w) := by
  have HGE := Lib.hid hge
  have HNW := Lib.hid hnw
  clear hge hnw
  obtain ⟨h6, hgood, hasc⟩ := peersE_zero he
  have hn6 : n ≤ 6 := by rw [← hp.len]; exact h6
  have hfi := find_some A c B n l hasc k hk (by omega)
  rw [hid] at hfi
  have HF := Lib.hid hfi
  have h64 : ∀ p ∈ l, (pvals p).length ≤ 64 := fun p hp => good64 (hgood p hp)
  have hgk := hgood _ (List.getElem_mem hk)
  have HGK := Lib.hid hgk
  have H64 := Lib.hid h64
  have HIDS := Lib.hid (fun p hq => ((hp.ok p hq).2.2.2 : (pid p).size ≤ maxLen))
  have hkn : k < n := by rw [← hp.len]; exact hk
  clear hfi hgood hasc hgk h64 hid
  have HP := Lib.hid hp
  have HBB := Lib.hid hB
  have HN := Lib.hid hp.len
  have E := Lib.hid ((Env.start w).lay #[.string bid, .int .i64 inc, .int .i64 seq] 173)
  clear hp hB
  have HE := Lib.hid he
  have HBE := Lib.hid hb
  clear he hb
  go_enter Tryz.func143, Tryz.ntmps143
  go_wp2_with fail
  refine (pchk_is A c B n l hm _ HE.out _ (HP.out.below E.out.bel HBB.out) (Nat.le_trans HBB.out E.out.bel.size)).mono ?_
  rintro e' w1 ⟨rfl, hb1⟩
  have E1 := Lib.hid (E.out.below hb1)
  clear hb1
  have z0 := E1.out.hd.cell 0
  have z1 := E1.out.hd.cell 1
  have z2 := E1.out.hd.cell 2
  simp at z0 z1 z2
  go_wp2_with fail
  refine (bcheck_any bid hbid inc seq _).mono ?_
  rw [HBE.out]
  rintro e' w2 ⟨rfl, hb2⟩
  have E2 := Lib.hid (E1.out.below hb2)
  clear hb2 z0 z1 z2
  have z0 := E2.out.hd.cell 0
  have z1 := E2.out.hd.cell 1
  have z2 := E2.out.hd.cell 2
  simp at z0 z1 z2
  go_wp2_with fail
  refine (HF.out _ (HP.out.below E2.out.bel HBB.out) (Nat.le_trans HBB.out E2.out.bel.size)).mono ?_
  rintro e' w3 ⟨rfl, hb3⟩
  have E3 := Lib.hid (E2.out.below hb3)
  clear hb3 z0 z1 z2
  go_wp2_with fail
  refine (copied_is A c B n l (by omega) H64.out _ (HP.out.below E3.out.bel HBB.out) (Nat.le_trans HBB.out E3.out.bel.size)).mono ?_
  rintro e' w4 ⟨A4, c4, l4, rfl, hmp, hown, hvo, hb4⟩
  have hl4 : l4.length = n := by have := congrArg List.length hmp; simpa [HN.out] using this
  obtain ⟨g, rfl, hHg, hgl, hrow⟩ := RowP.of_own hown (by omega) hl4
  have E4 := Lib.hid (E3.out.below hb4)
  have hs3 := E3.out.bel.size
  have hk4 : k < l4.length := by omega
  have hq := map_get hmp k hk hk4
  have hids : ∀ p ∈ l4, (pid p).size ≤ maxLen := fun p hp4 => by
    obtain ⟨j, hj, rfl⟩ := List.getElem_of_mem hp4
    have := map_get hmp j (by have := HN.out; omega) hj
    show (l4[j]'hj).1.1.size ≤ maxLen
    rw [this]
    exact HIDS.out _ (List.getElem_mem (by have := HN.out; omega))
  have pc := hrow.cells k hk4
  have HGK4 := Lib.hid (show PeerGood (l4[k]'hk4) by have := HGK.out; unfold PeerGood at this ⊢; rw [show pid (l4[k]'hk4) = pid (l[k]'hk) from congrArg (·.1) hq, show pgi (l4[k]'hk4) = pgi (l[k]'hk) from congrArg (·.2.1.1) hq, show pgs (l4[k]'hk4) = pgs (l[k]'hk) from congrArg (·.2.1.2.1) hq, show pgd (l4[k]'hk4) = pgd (l[k]'hk) from congrArg (·.2.1.2.2) hq, show pcap (l4[k]'hk4) = pcap (l[k]'hk) from congrArg (·.2.2.1) hq, show pvals (l4[k]'hk4) = pvals (l[k]'hk) from congrArg (·.2.2.2.1) hq, show plast (l4[k]'hk4) = plast (l[k]'hk) from congrArg (·.2.2.2.2) hq]; exact this)
  have MP := Lib.hid hmp
  have RW := Lib.hid hrow
  have VO := Lib.hid (show ValsOwn w.heap.size w4 l4 from fun p hp => ownsRow_base (hvo p hp) hs3)
  have IDS := Lib.hid hids
  have HQ := Lib.hid hq
  have hgw : w.heap.size + 1 ≤ g := by have := E3.out.hd.lt; omega
  clear hmp hown hvo hb4 hrow hids hHg hq
  generalize hpk : l4[k]'hk4 = p at *
  have HPK := Lib.hid hpk
  clear hpk
  obtain ⟨c0, c1, c2, c3, c4', c5, c6⟩ := pc
  have hge : plast p ≤ now := by have := HGE.out; rw [show plast p = plast (l[k]'hk) from congrArg (·.2.2.2.2) HQ.out]; exact this
  have hnw : ¬ Newer (pgi p) (pgs p) inc seq := by have := HNW.out; rw [show pgi p = pgi (l[k]'hk) from congrArg (·.2.1.1) HQ.out, show pgs p = pgs (l[k]'hk) from congrArg (·.2.1.2.1) HQ.out]; exact this
  obtain ⟨m, hmm⟩ : ∃ m, min (pgd p + 1) 1073741824 = m := ⟨_, rfl⟩
  have HTK := Lib.hid (take_old (pgi p) (pgs p) (pgd p) inc seq HGK4.out.2.1 (beatE_ok HBE.out) hnw m hmm)
  have HMM := Lib.hid hmm
  clear hnw hmm
  have z0 := E4.out.hd.cell 0
  have z1 := E4.out.hd.cell 1
  have z2 := E4.out.hd.cell 2
  simp at z0 z1 z2
  have f1 := RW.out.frozen (k * 7 + 1)
  have f2 := RW.out.frozen (k * 7 + 2)
  have f3 := RW.out.frozen (k * 7 + 3)
  go_upto_region 17 with fail
  go_region_law (go_simp; go_at_call 170; (with_reducible refine (HTK.out _).mono ?_); rintro e' w9 ⟨rfl, hb9⟩; have hb8 : Below w4.heap.size w4 w9 := Below.thru5 (by repeat (first | (with_reducible exact Below.refl _ _) | (with_reducible refine Below.drew ?_))) hb9; have R9 := RW.out.below hb8 hgl; have pc := R9.cells k hk4; have g1 := R9.frozen (k * 7 + 1); have g2 := R9.frozen (k * 7 + 2); have g3 := R9.frozen (k * 7 + 3); (rw [HPK.out] at pc); obtain ⟨d0, d1, d2, d3, d4, d5, d6⟩ := pc)
  all_goals
    have e0 : p = l4[k]'hk4 := HPK.out.symm
    have V9 := VO.out.below hb8
    have hown := V9 p (by rw [e0]; exact List.getElem_mem hk4)
    have RG := R9.gate k hk4 (pgi p) (pgs p) m ((p.1.1, (pgi p, pgs p, m), p.1.2.2), p.2) (by rw [← e0])
    have VG := (V9.upd (k := k) (p' := ((p.1.1, (pgi p, pgs p, m), p.1.2.2), p.2)) hown).at3 R9.blk (k * 7 + 1) (k * 7 + 1 + 1) (k * 7 + 1 + 2) (.int .i64 (pgi p)) (.int .i64 (pgs p)) (.int .i64 m)
    have hbl9 := ((((E4.out.bel.trans (hb8.mono E4.out.bel.size)).setCell (p := ⟨g, k * 7 + 1, none⟩) (by show w.heap.size ≤ g; omega) (.int .i64 (pgi p))).setCell (p := ⟨g, k * 7 + 1 + 1, none⟩) (by show w.heap.size ≤ g; omega) (.int .i64 (pgs p))).setCell (p := ⟨g, k * 7 + 1 + 2, none⟩) (by show w.heap.size ≤ g; omega) (.int .i64 m))
    have PG := Lib.hid (Peers.of_row RG VG (ids_set IDS.out k _ (by have := IDS.out p (by rw [e0]; exact List.getElem_mem hk4); exact this)))
    have BG := Lib.hid hbl9
    have hmd : (l4.set k ((p.1.1, (pgi p, pgs p, m), p.1.2.2), p.2)).map Prod.fst = (l.map Prod.fst).set k (oldD (l[k]'hk).1 (min (pgd (l[k]'hk) + 1) 1073741824)) := by
      rw [List.map_set, MP.out, ← HQ.out]
      have : pgd (l[k]'hk) = pgd p := (congrArg (·.2.1.2.2) HQ.out).symm
      rw [this, HMM.out]
      rfl
    have MD := Lib.hid hmd
    have KG := Lib.hid (keeps_own (A0 := A) (l0 := l) (w := w) (show w.heap.size ≤ g by omega) VG)
    clear hmd hbl9 RG VG hown V9 R9 hb8 hb9 d0 d1 d2 d3 d4 d5 d6 g1 g2 g3 e0
    go_wp2
    refine bodyPost_ret (v := .tuple #[.slice (some ⟨g, 0, none⟩) n c4, .bool false, .int .i64 0]) (by simp [results, Tryz.results143, go_sem]) rfl ⟨_, _, _, rfl, MD.out, PG.out, BG.out, ⟨RW.out.2.1, RW.out.2.2.1⟩, KG.out⟩

end Go.Proofs.YthimchhnhhchkaaGreatDoor

namespace Go.Proofs.YthimchhnhhchkaaGreatDoor
open Go.RowKit Go.Lib
set_option linter.unusedSimpArgs false
set_option linter.unusedVariables false

set_option maxHeartbeats 4000000 in
set_option maxRecDepth 100000 in
theorem hear_new (A : Option Addr) (c B n : Nat) (l : List PeerT) (hm : n ≤ maxLen) (bid : ByteArray) (hbid : bid.size ≤ maxLen) (inc seq now : Int) (w : World) (hp : Peers w B A n l) (hB : B ≤ w.heap.size) (he : peersE l = 0) (hb : beatE bid inc seq = 0) (hn0 : 0 ≤ now) (hn1 : now ≤ 1073741824) (k : Nat) (hk : k < l.length) (hid : pid (l[k]'hk) = bid) (hge : plast (l[k]'hk) ≤ now) (hnw : Newer (pgi (l[k]'hk)) (pgs (l[k]'hk)) inc seq) :
    Calls Tryz.prog 143 #[.slice A n c, .agg #[.string bid, .int .i64 inc, .int .i64 seq], .int .i64 now] w (HearIs A l ((l.map Prod.fst).set k (newD (l[k]'hk).1 inc seq (min (now - plast (l[k]'hk)) 16777216) now)) n true w) := by
  have HGE := Lib.hid hge
  have HNW := Lib.hid hnw
  clear hge hnw
  obtain ⟨h6, hgood, hasc⟩ := peersE_zero he
  have hn6 : n ≤ 6 := by rw [← hp.len]; exact h6
  have hfi := find_some A c B n l hasc k hk (by omega)
  rw [hid] at hfi
  have HF := Lib.hid hfi
  have h64 : ∀ p ∈ l, (pvals p).length ≤ 64 := fun p hp => good64 (hgood p hp)
  have hgk := hgood _ (List.getElem_mem hk)
  have HGK := Lib.hid hgk
  have H64 := Lib.hid h64
  have HIDS := Lib.hid (fun p hq => ((hp.ok p hq).2.2.2 : (pid p).size ≤ maxLen))
  have hkn : k < n := by rw [← hp.len]; exact hk
  clear hfi hgood hasc hgk h64 hid
  have HP := Lib.hid hp
  have HBB := Lib.hid hB
  have HN := Lib.hid hp.len
  have E := Lib.hid ((Env.start w).lay #[.string bid, .int .i64 inc, .int .i64 seq] 173)
  clear hp hB
  have HE := Lib.hid he
  have HBE := Lib.hid hb
  clear he hb
  go_enter Tryz.func143, Tryz.ntmps143
  go_wp2_with fail
  refine (pchk_is A c B n l hm _ HE.out _ (HP.out.below E.out.bel HBB.out) (Nat.le_trans HBB.out E.out.bel.size)).mono ?_
  rintro e' w1 ⟨rfl, hb1⟩
  have E1 := Lib.hid (E.out.below hb1)
  clear hb1
  have z0 := E1.out.hd.cell 0
  have z1 := E1.out.hd.cell 1
  have z2 := E1.out.hd.cell 2
  simp at z0 z1 z2
  go_wp2_with fail
  refine (bcheck_any bid hbid inc seq _).mono ?_
  rw [HBE.out]
  rintro e' w2 ⟨rfl, hb2⟩
  have E2 := Lib.hid (E1.out.below hb2)
  clear hb2 z0 z1 z2
  have z0 := E2.out.hd.cell 0
  have z1 := E2.out.hd.cell 1
  have z2 := E2.out.hd.cell 2
  simp at z0 z1 z2
  go_wp2_with fail
  refine (HF.out _ (HP.out.below E2.out.bel HBB.out) (Nat.le_trans HBB.out E2.out.bel.size)).mono ?_
  rintro e' w3 ⟨rfl, hb3⟩
  have E3 := Lib.hid (E2.out.below hb3)
  clear hb3 z0 z1 z2
  go_wp2_with fail
  refine (copied_is A c B n l (by omega) H64.out _ (HP.out.below E3.out.bel HBB.out) (Nat.le_trans HBB.out E3.out.bel.size)).mono ?_
  rintro e' w4 ⟨A4, c4, l4, rfl, hmp, hown, hvo, hb4⟩
  have hl4 : l4.length = n := by have := congrArg List.length hmp; simpa [HN.out] using this
  obtain ⟨g, rfl, hHg, hgl, hrow⟩ := RowP.of_own hown (by omega) hl4
  have E4 := Lib.hid (E3.out.below hb4)
  have hs3 := E3.out.bel.size
  have hk4 : k < l4.length := by omega
  have hq := map_get hmp k hk hk4
  have hids : ∀ p ∈ l4, (pid p).size ≤ maxLen := fun p hp4 => by
    obtain ⟨j, hj, rfl⟩ := List.getElem_of_mem hp4
    have := map_get hmp j (by have := HN.out; omega) hj
    show (l4[j]'hj).1.1.size ≤ maxLen
    rw [this]
    exact HIDS.out _ (List.getElem_mem (by have := HN.out; omega))
  have pc := hrow.cells k hk4
  have HGK4 := Lib.hid (show PeerGood (l4[k]'hk4) by have := HGK.out; unfold PeerGood at this ⊢; rw [show pid (l4[k]'hk4) = pid (l[k]'hk) from congrArg (·.1) hq, show pgi (l4[k]'hk4) = pgi (l[k]'hk) from congrArg (·.2.1.1) hq, show pgs (l4[k]'hk4) = pgs (l[k]'hk) from congrArg (·.2.1.2.1) hq, show pgd (l4[k]'hk4) = pgd (l[k]'hk) from congrArg (·.2.1.2.2) hq, show pcap (l4[k]'hk4) = pcap (l[k]'hk) from congrArg (·.2.2.1) hq, show pvals (l4[k]'hk4) = pvals (l[k]'hk) from congrArg (·.2.2.2.1) hq, show plast (l4[k]'hk4) = plast (l[k]'hk) from congrArg (·.2.2.2.2) hq]; exact this)
  have MP := Lib.hid hmp
  have RW := Lib.hid hrow
  have VO := Lib.hid (show ValsOwn w.heap.size w4 l4 from fun p hp => ownsRow_base (hvo p hp) hs3)
  have IDS := Lib.hid hids
  have HQ := Lib.hid hq
  have hgw : w.heap.size + 1 ≤ g := by have := E3.out.hd.lt; omega
  clear hmp hown hvo hb4 hrow hids hHg hq
  generalize hpk : l4[k]'hk4 = p at *
  have HPK := Lib.hid hpk
  clear hpk
  obtain ⟨c0, c1, c2, c3, c4', c5, c6⟩ := pc
  have hge : plast p ≤ now := by have := HGE.out; rw [show plast p = plast (l[k]'hk) from congrArg (·.2.2.2.2) HQ.out]; exact this
  have hnw : Newer (pgi p) (pgs p) inc seq := by have := HNW.out; rw [show pgi p = pgi (l[k]'hk) from congrArg (·.2.1.1) HQ.out, show pgs p = pgs (l[k]'hk) from congrArg (·.2.1.2.1) HQ.out]; exact this
  have HTK := Lib.hid (take_new (pgi p) (pgs p) (pgd p) inc seq HGK4.out.2.1 (beatE_ok HBE.out) hnw)
  have hg4 := HGK4.out
  clear hnw
  have z0 := E4.out.hd.cell 0
  have z1 := E4.out.hd.cell 1
  have z2 := E4.out.hd.cell 2
  simp at z0 z1 z2
  have f1 := RW.out.frozen (k * 7 + 1)
  have f2 := RW.out.frozen (k * 7 + 2)
  have f3 := RW.out.frozen (k * 7 + 3)
  have hlast0 : 0 ≤ plast p := hg4.2.2.2.1
  obtain ⟨x, hx⟩ : ∃ x, min (now - plast p) 16777216 = x := ⟨_, rfl⟩
  have HWX := Lib.hid (show wi x 0 16777216 = true from wi_true.2 (by omega))
  have HWN := Lib.hid hg4.2.2.1
  have HX := Lib.hid hx
  clear hx hg4
  go_upto_region 17 with fail
  go_region_law (go_simp; go_at_call 170; (with_reducible refine (HTK.out _).mono ?_); rintro e' w9 ⟨rfl, hb9⟩; have hb8 : Below w4.heap.size w4 w9 := Below.thru5 (by repeat (first | (with_reducible exact Below.refl _ _) | (with_reducible refine Below.drew ?_))) hb9; have R9 := RW.out.below hb8 hgl; have pc := R9.cells k hk4; have g1 := R9.frozen (k * 7 + 1); have g2 := R9.frozen (k * 7 + 2); have g3 := R9.frozen (k * 7 + 3); (rw [HPK.out] at pc); obtain ⟨d0, d1, d2, d3, d4, d5, d6⟩ := pc)
  all_goals
    have e0 : p = l4[k]'hk4 := HPK.out.symm
    have V9 := VO.out.below hb8
    have hown := V9 p (by rw [e0]; exact List.getElem_mem hk4)
    have RG := Lib.hid (R9.gate k hk4 inc seq (pgd p) ((p.1.1, (inc, seq, pgd p), p.1.2.2), p.2) (by rw [← e0]))
    have VG := Lib.hid ((V9.upd (k := k) (p' := ((p.1.1, (inc, seq, pgd p), p.1.2.2), p.2)) hown).at3 R9.blk (k * 7 + 1) (k * 7 + 1 + 1) (k * 7 + 1 + 2) (.int .i64 inc) (.int .i64 seq) (.int .i64 (pgd p)))
    have BG := Lib.hid ((((E4.out.bel.trans (hb8.mono E4.out.bel.size)).setCell (p := ⟨g, k * 7 + 1, none⟩) (by show w.heap.size ≤ g; omega) (.int .i64 inc)).setCell (p := ⟨g, k * 7 + 1 + 1, none⟩) (by show w.heap.size ≤ g; omega) (.int .i64 seq)).setCell (p := ⟨g, k * 7 + 1 + 2, none⟩) (by show w.heap.size ≤ g; omega) (.int .i64 (pgd p)))
    clear e0 hown V9 R9 hb8 hb9 d0 d1 d2 d3 d4 d5 d6 g1 g2 g3 c0 c1 c2 c3 c4' c5 c6 z0 z1 z2 f1 f2 f3
    go_upto_region 19 with fail
    generalize hWG : World.setCell (World.setCell (World.setCell w9 _ _) _ _) _ _ = wg at *
    clear hWG
    have hkg : k < (l4.set k ((p.1.1, (inc, seq, pgd p), p.1.2.2), p.2)).length := by simpa using hk4
    have hgg := RG.out.lt
    have pc := RG.out.cells k hkg
    rw [List.getElem_set_self] at pc
    have g4 := RG.out.frozen (k * 7 + 4)
    have g5 := RG.out.frozen (k * 7 + 5)
    have g6 := RG.out.frozen (k * 7 + 6)
    obtain ⟨d0, d1, d2, d3, d4, d5, d6⟩ := pc
    have hov := VG.out ((p.1.1, (inc, seq, pgd p), p.1.2.2), p.2) (List.mem_set hk4 _)
    have hoc := ownsRow_cap hov
    have HRV := Lib.hid (Reads.of_own hov)
    have hwx : min (IntKind.i64.wrap (now - plast p)) 16777216 = x := by rw [show IntKind.i64.wrap (now - plast p) = now - plast p by rw [IntKind.wrap_i64]; omega]; exact HX.out
    have HPU := Lib.hid (show ∀ w', Below wg.heap.size wg w' → Calls Tryz.prog 171 #[.agg #[.int .i64 (pcap p), psl p], .int .i64 (min (IntKind.i64.wrap (now - plast p)) 16777216)] w' (PushedIs (pcap p) (pushV (pcap p) (pvals p) x) w')
      from fun w' h => by
        rw [hwx]
        exact push_any (pcap p) x p.2.1 p.2.2 wg.heap.size (pvals p) hoc.1 hoc.2 HWN.out HWX.out w' (HRV.out.below h (Nat.le_refl _)) h.size)
    have d4' : wg.cell? ⟨g, k * 7 + 4, none⟩ = some (.int .i64 (pcap p)) := d4
    have d5' : wg.cell? ⟨g, k * 7 + 5, none⟩ = some (psl p) := d5
    have d6' : wg.cell? ⟨g, k * 7 + 6, none⟩ = some (.int .i64 (plast p)) := d6
    clear hov hoc d0 d1 d2 d3 d4 d5 d6 hwx
    go_region_law (go_simp; go_at_call 171; (with_reducible refine (HPU.out _ (by repeat (first | (with_reducible exact Below.refl _ _) | (with_reducible refine Below.drew ?_)))).mono ?_); rintro e' w10 ⟨A5, c5', rfl, hown5, hb10⟩; have hb11 : Below wg.heap.size wg w10 := Below.thru5 (by repeat (first | (with_reducible exact Below.refl _ _) | (with_reducible refine Below.drew ?_))) hb10; have R10 := RG.out.below hb11 hgg; have q4 := R10.frozen (k * 7 + 4); have q5 := R10.frozen (k * 7 + 5); have q6 := R10.frozen (k * 7 + 6); have pc := R10.cells k hkg; obtain ⟨t0, t1, t2, t3, t4, t5, t6⟩ := pc)
    all_goals
      have R18 := R10.win k hkg (pcap p) A5 c5' (pushV (pcap p) (pvals p) x) ((p.1.1, (inc, seq, pgd p), pcap p, pushV (pcap p) (pvals p) x, plast p), A5, c5') (by rw [List.getElem_set_self])
      have R20 := Lib.hid (R18.last_ k (by simpa using hk4) now ((p.1.1, (inc, seq, pgd p), pcap p, pushV (pcap p) (pvals p) x, now), A5, c5') (by rw [List.getElem_set_self]))
      have V20 := Lib.hid ((((VG.out.below hb11).upd (k := k) (p' := ((p.1.1, (inc, seq, pgd p), pcap p, pushV (pcap p) (pvals p) x, plast p), A5, c5')) (ownsRow_base hown5 BG.out.size)).upd (k := k) (p' := ((p.1.1, (inc, seq, pgd p), pcap p, pushV (pcap p) (pvals p) x, now), A5, c5')) (ownsRow_base hown5 BG.out.size)).at3 R10.blk (k * 7 + 4) (k * 7 + 4 + 1) (k * 7 + 6) (.int .i64 (pcap p)) (.slice A5 (pushV (pcap p) (pvals p) x).length c5') (.int .i64 now))
      have B20 := Lib.hid ((((BG.out.trans (hb11.mono BG.out.size)).setCell (p := ⟨g, k * 7 + 4, none⟩) (by show w.heap.size ≤ g; omega) (.int .i64 (pcap p))).setCell (p := ⟨g, k * 7 + 4 + 1, none⟩) (by show w.heap.size ≤ g; omega) (.slice A5 (pushV (pcap p) (pvals p) x).length c5')).setCell (p := ⟨g, k * 7 + 6, none⟩) (by show w.heap.size ≤ g; omega) (.int .i64 now))
      have hidp : (pid p).size ≤ maxLen := IDS.out p (by rw [← HPK.out]; exact List.getElem_mem hk4)
      have P20 := Lib.hid (Peers.of_row R20.out V20.out (ids_set (ids_set (ids_set IDS.out k _ (by exact hidp)) k _ (by exact hidp)) k _ (by exact hidp)))
      have hmd : ((((l4.set k ((p.1.1, (inc, seq, pgd p), p.1.2.2), p.2)).set k ((p.1.1, (inc, seq, pgd p), pcap p, pushV (pcap p) (pvals p) x, plast p), A5, c5')).set k ((p.1.1, (inc, seq, pgd p), pcap p, pushV (pcap p) (pvals p) x, now), A5, c5'))).map Prod.fst = (l.map Prod.fst).set k (newD (l[k]'hk).1 inc seq (min (now - plast (l[k]'hk)) 16777216) now) := by
        rw [List.set_set, List.set_set, List.map_set, MP.out, ← HQ.out]
        have : plast (l[k]'hk) = plast p := (congrArg (·.2.2.2.2) HQ.out).symm
        rw [this, HX.out]
        rfl
      have MD := Lib.hid hmd
      clear hmd R18 R10 hown5 hb10 hb11 t0 t1 t2 t3 d4' d5' d6' g4 g5 g6 hidp
      go_wp2
      refine bodyPost_ret (v := .tuple #[.slice (some ⟨g, 0, none⟩) n c4, .bool true, .int .i64 0]) (by simp [results, Tryz.results143, go_sem]) rfl ⟨_, _, _, rfl, MD.out, P20.out, B20.out, ⟨RW.out.2.1, RW.out.2.2.1⟩, keeps_own (by omega) V20.out⟩

end Go.Proofs.YthimchhnhhchkaaGreatDoor

namespace Go.Proofs.YthimchhnhhchkaaGreatDoor
open Go.RowKit Go.Lib
set_option linter.unusedSimpArgs false
set_option linter.unusedVariables false

/-- a whole peer stored into a row -/
theorem RowP.all {w : World} {g cap n : Nat} {l : List PeerT} (h : RowP w g cap n l) (k : Nat) (hk : k < l.length) (p' : PeerT) :
    RowP (((((((w.setCell ⟨g, k * 7, none⟩ (.string (pid p'))).setCell ⟨g, k * 7 + 1, none⟩ (.int .i64 (pgi p'))).setCell ⟨g, k * 7 + 2, none⟩ (.int .i64 (pgs p'))).setCell ⟨g, k * 7 + 3, none⟩ (.int .i64 (pgd p'))).setCell ⟨g, k * 7 + 4, none⟩ (.int .i64 (pcap p'))).setCell ⟨g, k * 7 + 5, none⟩ (psl p')).setCell ⟨g, k * 7 + 6, none⟩ (.int .i64 (plast p'))) g cap n (l.set k p') := by
  have h0 := h.set_ k 0 (.string (pid p')) ((p'.1.1, (l[k]'hk).1.2), (l[k]'hk).2) hk (by decide) rfl
  have h1 := h0.gate k (by simpa using hk) (pgi p') (pgs p') (pgd p') ((p'.1.1, p'.1.2.1, (l[k]'hk).1.2.2), (l[k]'hk).2) (by rw [List.getElem_set_self])
  have h2 := h1.win k (by simpa using hk) (pcap p') p'.2.1 p'.2.2 (pvals p') ((p'.1.1, p'.1.2.1, p'.1.2.2.1, p'.1.2.2.2.1, (l[k]'hk).1.2.2.2.2), p'.2) (by rw [List.getElem_set_self])
  have h3 := h2.last_ k (by simpa using hk) (plast p') p' (by rw [List.getElem_set_self])
  rw [List.set_set, List.set_set, List.set_set] at h3
  exact h3
theorem below_set7 {w W : World} {B g k : Nat} (h : Below B w W) (hg : B ≤ g) (p' : PeerT) :
    Below B w (((((((W.setCell ⟨g, k * 7, none⟩ (.string (pid p'))).setCell ⟨g, k * 7 + 1, none⟩ (.int .i64 (pgi p'))).setCell ⟨g, k * 7 + 2, none⟩ (.int .i64 (pgs p'))).setCell ⟨g, k * 7 + 3, none⟩ (.int .i64 (pgd p'))).setCell ⟨g, k * 7 + 4, none⟩ (.int .i64 (pcap p'))).setCell ⟨g, k * 7 + 5, none⟩ (psl p')).setCell ⟨g, k * 7 + 6, none⟩ (.int .i64 (plast p'))) :=
  ((((((h.setCell hg _).setCell hg _).setCell hg _).setCell hg _).setCell hg _).setCell hg _).setCell hg _
theorem ok_set {w : World} {B : Nat} {l : List PeerT} (h : ∀ p ∈ l, PeerOk w B p) (k : Nat) (p' : PeerT) (hp : PeerOk w B p') : ∀ p ∈ l.set k p', PeerOk w B p := fun q hq => by
  rcases List.mem_or_eq_of_mem_set hq with hq | rfl
  · exact h q hq
  · exact hp












































































































































































































































































end Go.Proofs.YthimchhnhhchkaaGreatDoor

namespace Go.Proofs.YthimchhnhhchkaaGreatDoor
open Go.RowKit Go.Lib
set_option linter.unusedSimpArgs false
set_option linter.unusedVariables false

































































































































































































































































end Go.Proofs.YthimchhnhhchkaaGreatDoor
