/- hwref.Add and hwref.Drop, walked. -/
import Derived.Test.YtcikljcjhijjdaaGreatM40
import Derived.Test.YtcikljcjhijjdaaGreatM11
namespace Go.Proofs.YtcikljcjhijjdaaGreat
open Go.RowKit Go.Lib
set_option linter.unusedSimpArgs false
set_option linter.unusedVariables false

/-- what is left of AddIs when the answer is known -/
def AddOk (w : World) (A0 : Option Addr) (l0 : List PeerT) (D : List PeerD) (n : Nat) (A : Option Addr) (c : Nat) (w' : World) : Prop :=
  ∃ l', l'.map Prod.fst = D ∧ Peers w' w'.heap.size A n l' ∧ Below w.heap.size w w' ∧ (n ≤ c ∧ c ≤ maxLen) ∧ KeepsP w A0 l0 A l'
theorem AddOk.bel {w : World} {A0 : Option Addr} {l0 : List PeerT} {D : List PeerD} {n : Nat} {A : Option Addr} {c : Nat} {w' : World} (h : AddOk w A0 l0 D n A c w') : Below w.heap.size w w' := by
  obtain ⟨_, _, _, h9, _⟩ := h
  exact h9
def CatIs (w W : World) (A0 : Option Addr) (l0 : List PeerT) (D : List PeerD) (n : Nat) (e : Ending) (w' : World) : Prop := ∃ A c, e = .returned (.slice A n c) ∧ AddOk w A0 l0 D n A c w' ∧ Below W.heap.size W w'
theorem keeps_sub {w w' : World} {H n : Nat} {A0 A : Option Addr} {c : Nat} {xs : List Value} {l l' : List PeerT} (ho : w'.ownsRow H 94 7 (.slice A n c) n xs) (hH : w.heap.size ≤ H)
    (hs : ∀ p ∈ l', 0 < (pvals p).length → ∀ a, p.2.1 = some a → w.heap.size ≤ a.block ∨ ∃ q ∈ l, 0 < (pvals q).length ∧ q.2.1 = some a) : KeepsP w A0 l A l' := fun P hP h0 =>
  ⟨fun _ a ha => hP _ (Nat.le_trans hH (ho.lt a.block (by rw [own_row, ha]; rfl)).1), fun p hp hl a ha => by
    rcases hs p hp hl a ha with h | ⟨q, hq, hql, hqa⟩
    · exact hP _ h
    · exact h0.2 q hq hql a hqa⟩
theorem Reads.head {w : World} {B n k : Nat} {A : Option Addr} {l : List PeerT} (h : Reads w B 7 A n (cellsP l)) (hl : l.length = n) (hk : k ≤ n) : Reads w B 7 A k (cellsP (l.take k)) := by
  refine ⟨by rw [cellsP_len, List.length_take]; omega, fun hn => ?_⟩
  obtain ⟨ad, e, hb, hc⟩ := h.2 (by omega)
  refine ⟨ad, e, hb, fun j u hj => hc j u ?_⟩
  rw [← cellsP_takeL, List.getElem?_take] at hj
  split at hj
  · exact hj
  · cases hj
theorem Reads.tail {w : World} {B n k cap : Nat} {A : Option Addr} {l : List PeerT} (h : Reads w B 7 A n (cellsP l)) (hk : k ≤ n) (hc : n ≤ cap) : Reads w B 7 (if cap = k then A else A.map (·.add (k * 7))) (n - k) (cellsP (l.drop k)) := by
  rw [← cellsP_dropL]
  exact h.cut hk hc
theorem peer_new_ok {w : World} {vr : Nat} {id : ByteArray} {size first now : Int} (hid : id.size ≤ maxLen) (hvr : Blk w vr 3 #[.int .i64 first]) : PeerOk w w.heap.size (newP id size first now, some ⟨vr, 0, none⟩, 1) :=
  ⟨Reads.of_own (base := 0) (e := 3) (c := 1) ⟨rfl, .inr ⟨vr, 1, #[.int .i64 first], rfl, Nat.zero_le _, hvr, Nat.le_refl _, by unfold maxLen; omega, rfl, rfl⟩⟩, Nat.le_refl _, (show 1 ≤ maxLen by unfold maxLen; omega), hid⟩
theorem Blk.new2 (W : World) (o : Obj) (t : TypeId) (cs : Array Value) : Blk ((W.alloc o).alloc (.cells cs t)) (W.heap.size + 1) t cs := by
  have := Blk.new (W.alloc o) t cs
  rwa [show (W.alloc o).heap.size = W.heap.size + 1 by simp] at this
theorem radd_cc (A A3 : Option Addr) (c c3 B n k bs vb vr : Nat) (l : List PeerT) (hkn : k ≤ n) (hn : n ≤ 900) (id : ByteArray) (hid : id.size ≤ maxLen) (size first now : Int) (w W : World) (hw : Below w.heap.size w W) (hp : Peers w B A n l) (hB : B ≤ w.heap.size)
    (h3 : Reads W B 7 A3 (n - k) (cellsP (l.drop k))) (hvr : Blk W vr 3 #[.int .i64 first]) (hvr0 : w.heap.size ≤ vr) (hv : Blk W vb 94 (pcells (newP id size first now, some ⟨vr, 0, none⟩, 1)).toArray)
    (hb : Blk W bs 33 #[.slice A k c, .slice (some ⟨vb, 0, none⟩) 1 1, .slice A3 (n - k) c3]) :
    Calls Tryz.prog 88 #[.slice (some ⟨bs, 0, none⟩) 3 3] W (CatIs w W A l ((l.map Prod.fst).take k ++ newP id size first now :: (l.map Prod.fst).drop k) (n + 1)) := by
  have hpW := hp.below hw hB
  have hrv := Reads.of_blk hv 7 1 rfl
  have h0 : ∀ s ∈ ([(A, k, c, cellsP (l.take k)), (some ⟨vb, 0, none⟩, 1, 1, pcells (newP id size first now, some ⟨vr, 0, none⟩, 1)), (A3, n - k, c3, cellsP (l.drop k))] : List SlAP), Reads W W.heap.size 7 s.1 s.2.1 s.2.2.2 ∧ (∀ u ∈ s.2.2.2, u.oneCell' = true) ∧ s.2.1 ≤ 1000 := by
    have hBW : B ≤ W.heap.size := Nat.le_trans hB hw.size
    intro s hs
    simp only [List.mem_cons, List.not_mem_nil, or_false] at hs
    rcases hs with rfl | rfl | rfl
    · exact ⟨(hpW.row.head hp.len hkn).more hBW, oneCell_peers _, by show k ≤ 1000; omega⟩
    · exact ⟨hrv.more hv.lt, oneCell_p _, (show (1 : Nat) ≤ 1000 by decide)⟩
    · exact ⟨h3.more hBW, oneCell_peers _, by show n - k ≤ 1000; omega⟩
  refine (slP_concat _ W.heap.size bs (by simp only [List.length_cons, List.length_nil]; omega) W h0 (Nat.le_refl _) hb 3 rfl (n + 1) (by simp [sumNP]; omega) (cellsP (l.take k ++ (newP id size first now, some ⟨vr, 0, none⟩, 1) :: l.drop k)) (by rw [cellsP_app]; simp [cellsP])).mono ?_
  rintro e w9 ⟨A9, c9, rfl, hown9, hb9⟩
  have hcp := ownsRow_cap hown9
  have hbl : Below w.heap.size w w9 := hw.trans (hb9.mono hw.size)
  refine ⟨A9, c9, rfl, ⟨_, ?_, ⟨?_, Reads.of_own hown9, ?_⟩, hbl, hcp, keeps_sub hown9 hw.size ?_⟩, hb9⟩
  · rw [List.map_append, List.map_cons, List.map_take, List.map_drop]
  · have := hp.len; simp; omega
  · intro p hpm
    rcases List.mem_append.1 hpm with h | h
    · exact ((hp.ok p (List.mem_of_mem_take h)).below hbl hB).more (Nat.le_trans hB hbl.size)
    · rcases List.mem_cons.1 h with rfl | h
      · exact peer_new_ok hid (hvr.below hb9 hvr.lt)
      · exact ((hp.ok p (List.mem_of_mem_drop h)).below hbl hB).more (Nat.le_trans hB hbl.size)
  · intro p hpm hl a ha
    rcases List.mem_append.1 hpm with h | h
    · exact .inr ⟨p, List.mem_of_mem_take h, hl, ha⟩
    · rcases List.mem_cons.1 h with rfl | h
      · cases ha; exact .inl hvr0
      · exact .inr ⟨p, List.mem_of_mem_drop h, hl, ha⟩
theorem rdrop_cc (A A3 : Option Addr) (c c3 B n k bs : Nat) (l : List PeerT) (hkn : k < n) (hn : n ≤ 900) (w W : World) (hw : Below w.heap.size w W) (hp : Peers w B A n l) (hB : B ≤ w.heap.size)
    (h3 : Reads W B 7 A3 (n - (k + 1)) (cellsP (l.drop (k + 1)))) (hb : Blk W bs 33 #[.slice A k c, .slice A3 (n - (k + 1)) c3]) :
    Calls Tryz.prog 88 #[.slice (some ⟨bs, 0, none⟩) 2 2] W (CatIs w W A l ((l.map Prod.fst).take k ++ (l.map Prod.fst).drop (k + 1)) (n - 1)) := by
  have hpW := hp.below hw hB
  have h0 : ∀ s ∈ ([(A, k, c, cellsP (l.take k)), (A3, n - (k + 1), c3, cellsP (l.drop (k + 1)))] : List SlAP), Reads W W.heap.size 7 s.1 s.2.1 s.2.2.2 ∧ (∀ u ∈ s.2.2.2, u.oneCell' = true) ∧ s.2.1 ≤ 1000 := by
    have hBW : B ≤ W.heap.size := Nat.le_trans hB hw.size
    intro s hs
    simp only [List.mem_cons, List.not_mem_nil, or_false] at hs
    rcases hs with rfl | rfl
    · exact ⟨(hpW.row.head hp.len (Nat.le_of_lt hkn)).more hBW, oneCell_peers _, by show k ≤ 1000; omega⟩
    · exact ⟨h3.more hBW, oneCell_peers _, by show n - (k + 1) ≤ 1000; omega⟩
  refine (slP_concat _ W.heap.size bs (by simp only [List.length_cons, List.length_nil]; omega) W h0 (Nat.le_refl _) hb 2 rfl (n - 1) (by simp [sumNP]; omega) (cellsP (l.take k ++ l.drop (k + 1))) (by rw [cellsP_app]; simp)).mono ?_
  rintro e w9 ⟨A9, c9, rfl, hown9, hb9⟩
  have hcp := ownsRow_cap hown9
  have hbl : Below w.heap.size w w9 := hw.trans (hb9.mono hw.size)
  refine ⟨A9, c9, rfl, ⟨_, ?_, ⟨?_, Reads.of_own hown9, ?_⟩, hbl, hcp, keeps_sub hown9 hw.size ?_⟩, hb9⟩
  · rw [List.map_append, List.map_take, List.map_drop]
  · have := hp.len; simp; omega
  · intro p hpm
    have hpl : p ∈ l := by
      rcases List.mem_append.1 hpm with h | h
      · exact List.mem_of_mem_take h
      · exact List.mem_of_mem_drop h
    exact ((hp.ok p hpl).below hbl hB).more (Nat.le_trans hB hbl.size)
  · intro p hpm hl a ha
    have hpl : p ∈ l := by
      rcases List.mem_append.1 hpm with h | h
      · exact List.mem_of_mem_take h
      · exact List.mem_of_mem_drop h
    exact .inr ⟨p, hpl, hl, ha⟩
theorem rval_is (x : Int) (b : Bool) (h : wi x 0 16777216 = b) (w : World) :
    Calls Tryz.prog 87 #[.int .i64 x] w fun e w' => e = .returned (.bool b) ∧ w = w' := by
  subst h; exact lrval_any x w

set_option maxHeartbeats 1000000 in
set_option maxRecDepth 100000 in
theorem radd_id (A : Option Addr) (c B n : Nat) (l : List PeerT) (hm : n ≤ maxLen) (id : ByteArray) (size first now : Int) (w : World) (hp : Peers w B A n l) (hB : B ≤ w.heap.size) (hi : idB id = false) :
    Calls Tryz.prog 47 #[.slice A n c, .string id, .int .i64 size, .int .i64 first, .int .i64 now] w (AddNo 3 w) := by
  have HP := Lib.hid hp
  have HBB := Lib.hid hB
  have HN := Lib.hid hp.len
  have E0 := Lib.hid (Env.start w)
  clear hp hB
  have HID := Lib.hid hi
  clear hi
  go_enter Tryz.func47, Tryz.ntmps47
  go_wp2_with fail
  refine (rid_any id _).mono ?_
  rw [HID.out]
  rintro e' w1 ⟨rfl, hb1⟩
  have E1 := Lib.hid (E0.out.below hb1)
  clear hb1
  go_wp2
  all_goals first
    | (exfalso; omega)
    | (refine bodyPost_ret (v := .tuple #[.slice none 0 0, .int .i64 3]) (by simp [results, Tryz.results47, go_sem]) rfl ⟨rfl, E1.out.bel⟩)

set_option maxHeartbeats 1000000 in
set_option maxRecDepth 100000 in
theorem radd_arg (A : Option Addr) (c B n : Nat) (l : List PeerT) (hm : n ≤ maxLen) (id : ByteArray) (size first now : Int) (w : World) (hp : Peers w B A n l) (hB : B ≤ w.heap.size) (hi : idB id = true) (hbad : ArgBad size first now) :
    Calls Tryz.prog 47 #[.slice A n c, .string id, .int .i64 size, .int .i64 first, .int .i64 now] w (AddNo 1 w) := by
  have HP := Lib.hid hp
  have HBB := Lib.hid hB
  have HN := Lib.hid hp.len
  have E0 := Lib.hid (Env.start w)
  clear hp hB
  have HID := Lib.hid hi
  clear hi
  have hb3 : ¬ (wi size 1 64 = true ∧ wi first 0 16777216 = true ∧ wi now 0 1073741824 = true) := by
    rintro ⟨h1, h2, h3⟩
    have h1 := wi_true.1 h1
    have h3 := wi_true.1 h3
    unfold ArgBad at hbad
    rw [h2] at hbad
    simp at hbad
    omega
  clear hbad
  obtain ⟨b, hb⟩ : ∃ b, wi first 0 16777216 = b := ⟨_, rfl⟩
  have HV := Lib.hid hb
  rw [hb] at hb3
  clear hb
  cases hws : wi size 1 64 <;> cases b <;> cases hwn : wi now 0 1073741824
  all_goals first
    | (exfalso; exact hb3 ⟨hws, rfl, hwn⟩)
    | (clear hb3
       go_enter Tryz.func47, Tryz.ntmps47
       go_wp2_with fail
       refine (rid_any id _).mono ?_
       rw [HID.out]
       rintro e' w1 ⟨rfl, hb1⟩
       have E1 := Lib.hid (E0.out.below hb1)
       clear hb1
       go_wp2_with (first
         | (go_at_call 35; (with_reducible refine (within_any _ _ _ _).mono ?_); rintro e w' ⟨rfl, rfl⟩)
         | (go_at_call 87; (with_reducible refine (rval_is first _ HV.out _).mono ?_); rintro e w' ⟨rfl, rfl⟩)
         | (go_at_call 40; (with_reducible refine (rtime_any _ _).mono ?_); rintro e w' ⟨rfl, rfl⟩))
       all_goals first
         | (exfalso; omega)
         | (refine bodyPost_ret (v := .tuple #[.slice none 0 0, .int .i64 1]) (by simp [results, Tryz.results47, go_sem]) rfl ⟨rfl, E1.out.bel⟩))

set_option maxHeartbeats 1000000 in
set_option maxRecDepth 100000 in
theorem radd_there (A : Option Addr) (c B n : Nat) (l : List PeerT) (hm : n ≤ maxLen) (id : ByteArray) (size first now : Int) (w : World) (hp : Peers w B A n l) (hB : B ≤ w.heap.size) (hi : idB id = true) (hs0 : 1 ≤ size) (hs1 : size ≤ 64) (hv : wi first 0 16777216 = true) (hn0 : 0 ≤ now) (hn1 : now ≤ 1073741824) (hn6 : n ≤ 6) (k : Nat) (hk : k < l.length) (hfi : ∀ (w : World) (hp : Peers w B A n l) (hB : B ≤ w.heap.size), Calls Tryz.prog 54 #[.slice A n c, .string id] w fun e w' => e = .returned (.int .i64 (k : Int)) ∧ Below w.heap.size w w') :
    Calls Tryz.prog 47 #[.slice A n c, .string id, .int .i64 size, .int .i64 first, .int .i64 now] w (AddNo 5 w) := by
  have HF := Lib.hid hfi
  clear hfi
  have HP := Lib.hid hp
  have HBB := Lib.hid hB
  have HN := Lib.hid hp.len
  have E0 := Lib.hid (Env.start w)
  clear hp hB
  have HID := Lib.hid hi
  have HV := Lib.hid hv
  have hws : wi size 1 64 = true := wi_true.2 ⟨hs0, hs1⟩
  have hwn : wi now 0 1073741824 = true := wi_true.2 ⟨hn0, hn1⟩
  clear hi hv
  go_enter Tryz.func47, Tryz.ntmps47
  go_wp2_with fail
  refine (rid_any id _).mono ?_
  rw [HID.out]
  rintro e' w1 ⟨rfl, hb1⟩
  have E1 := Lib.hid (E0.out.below hb1)
  clear hb1
  go_wp2_with (first
    | (go_at_call 35; (with_reducible refine (within_any _ _ _ _).mono ?_); rintro e w' ⟨rfl, rfl⟩)
    | (go_at_call 87; (with_reducible refine (rval_is first _ HV.out _).mono ?_); rintro e w' ⟨rfl, rfl⟩)
    | (go_at_call 40; (with_reducible refine (rtime_any _ _).mono ?_); rintro e w' ⟨rfl, rfl⟩))
  refine (HF.out _ (HP.out.below E1.out.bel HBB.out) (Nat.le_trans HBB.out E1.out.bel.size)).mono ?_
  rintro e' w3 ⟨rfl, hb3⟩
  have E3 := Lib.hid (E1.out.below hb3)
  clear hb3
  go_wp2
  all_goals first
    | (exfalso; omega)
    | (refine bodyPost_ret (v := .tuple #[.slice none 0 0, .int .i64 5]) (by simp [results, Tryz.results47, go_sem]) rfl ⟨rfl, E3.out.bel⟩)

set_option maxHeartbeats 1000000 in
set_option maxRecDepth 100000 in
theorem radd_full (A : Option Addr) (c B n : Nat) (l : List PeerT) (hm : n ≤ maxLen) (id : ByteArray) (size first now : Int) (w : World) (hp : Peers w B A n l) (hB : B ≤ w.heap.size) (hi : idB id = true) (hs0 : 1 ≤ size) (hs1 : size ≤ 64) (hv : wi first 0 16777216 = true) (hn0 : 0 ≤ now) (hn1 : now ≤ 1073741824) (h6n : n = 6) (hfi : ∀ (w : World) (hp : Peers w B A n l) (hB : B ≤ w.heap.size), Calls Tryz.prog 54 #[.slice A n c, .string id] w fun e w' => e = .returned (.int .i64 (-1)) ∧ Below w.heap.size w w') :
    Calls Tryz.prog 47 #[.slice A n c, .string id, .int .i64 size, .int .i64 first, .int .i64 now] w (AddNo 10 w) := by
  have HF := Lib.hid hfi
  clear hfi
  have h6a : n ≤ 6 := by omega
  have h6b : (5 : Int) < (n : Int) := by omega
  clear h6n
  have HP := Lib.hid hp
  have HBB := Lib.hid hB
  have HN := Lib.hid hp.len
  have E0 := Lib.hid (Env.start w)
  clear hp hB
  have HID := Lib.hid hi
  have HV := Lib.hid hv
  have hws : wi size 1 64 = true := wi_true.2 ⟨hs0, hs1⟩
  have hwn : wi now 0 1073741824 = true := wi_true.2 ⟨hn0, hn1⟩
  clear hi hv
  go_enter Tryz.func47, Tryz.ntmps47
  go_wp2_with fail
  refine (rid_any id _).mono ?_
  rw [HID.out]
  rintro e' w1 ⟨rfl, hb1⟩
  have E1 := Lib.hid (E0.out.below hb1)
  clear hb1
  go_wp2_with (first
    | (go_at_call 35; (with_reducible refine (within_any _ _ _ _).mono ?_); rintro e w' ⟨rfl, rfl⟩)
    | (go_at_call 87; (with_reducible refine (rval_is first _ HV.out _).mono ?_); rintro e w' ⟨rfl, rfl⟩)
    | (go_at_call 40; (with_reducible refine (rtime_any _ _).mono ?_); rintro e w' ⟨rfl, rfl⟩))
  refine (HF.out _ (HP.out.below E1.out.bel HBB.out) (Nat.le_trans HBB.out E1.out.bel.size)).mono ?_
  rintro e' w3 ⟨rfl, hb3⟩
  have E3 := Lib.hid (E1.out.below hb3)
  clear hb3
  go_wp2
  all_goals first
    | (exfalso; omega)
    | (refine bodyPost_ret (v := .tuple #[.slice none 0 0, .int .i64 10]) (by simp [results, Tryz.results47, go_sem]) rfl ⟨rfl, E3.out.bel⟩)

set_option maxHeartbeats 1000000 in
set_option maxRecDepth 100000 in
theorem radd_ok (A : Option Addr) (c B n : Nat) (l : List PeerT) (hm : n ≤ maxLen) (id : ByteArray) (size first now : Int) (w : World) (hp : Peers w B A n l) (hB : B ≤ w.heap.size) (hi : idB id = true) (hs0 : 1 ≤ size) (hs1 : size ≤ 64) (hv : wi first 0 16777216 = true) (hn0 : 0 ≤ now) (hn1 : now ≤ 1073741824) (h6n : n < 6) (hnc : n ≤ c) (hcm : c ≤ maxLen) (hfi : ∀ (w : World) (hp : Peers w B A n l) (hB : B ≤ w.heap.size), Calls Tryz.prog 54 #[.slice A n c, .string id] w fun e w' => e = .returned (.int .i64 (-1)) ∧ Below w.heap.size w w') (i0 : Nat) (hi0 : i0 ≤ n) (hlo : ∀ j, (hj : j < l.length) → j < i0 → lessB (pid (l[j]'hj)) id = true) (hhi : ∀ j, (hj : j < l.length) → i0 ≤ j → lessB (pid (l[j]'hj)) id = false) :
    Calls Tryz.prog 47 #[.slice A n c, .string id, .int .i64 size, .int .i64 first, .int .i64 now] w (AddIs A l ((l.map Prod.fst).take i0 ++ newP id size first now :: (l.map Prod.fst).drop i0) (n + 1) w) := by
  have HF := Lib.hid hfi
  have HLO := Lib.hid hlo
  have HHI := Lib.hid hhi
  clear hfi hlo hhi
  have HP := Lib.hid hp
  have HBB := Lib.hid hB
  have HN := Lib.hid hp.len
  have E0 := Lib.hid (Env.start w)
  clear hp hB
  have HID := Lib.hid hi
  have HV := Lib.hid hv
  have hws : wi size 1 64 = true := wi_true.2 ⟨hs0, hs1⟩
  have hwn : wi now 0 1073741824 = true := wi_true.2 ⟨hn0, hn1⟩
  clear hi hv
  unfold maxLen at hcm
  go_enter Tryz.func47, Tryz.ntmps47
  go_wp2_with fail
  refine (rid_any id _).mono ?_
  rw [HID.out]
  rintro e' w1 ⟨rfl, hb1⟩
  have E1 := Lib.hid (E0.out.below hb1)
  clear hb1
  go_wp2_with (first
    | (go_at_call 35; (with_reducible refine (within_any _ _ _ _).mono ?_); rintro e w' ⟨rfl, rfl⟩)
    | (go_at_call 87; (with_reducible refine (rval_is first _ HV.out _).mono ?_); rintro e w' ⟨rfl, rfl⟩)
    | (go_at_call 40; (with_reducible refine (rtime_any _ _).mono ?_); rintro e w' ⟨rfl, rfl⟩))
  refine (HF.out _ (HP.out.below E1.out.bel HBB.out) (Nat.le_trans HBB.out E1.out.bel.size)).mono ?_
  rintro e' w3 ⟨rfl, hb3⟩
  have E3 := Lib.hid (E1.out.below hb3)
  clear hb3
  go_wp2_with fail
  go_loop [12] (fun iv => ∃ k : Nat, k ≤ i0 ∧ iv = .int .i64 (k : Int)) (fun iv => i0 - (RowKit.intOf iv).toNat)
  case atStart => exact ⟨0, by omega, rfl⟩
  case round =>
    obtain ⟨k, hk, rfl⟩ := hrel
    by_cases hlt : k < i0
    · have hkl : k < l.length := by rw [HN.out]; omega
      obtain ⟨b, off, rfl, hb, hcs⟩ := (HP.out.below E3.out.bel HBB.out).addr (by omega)
      obtain ⟨c0, c1, c2, c3, c4, c5, c6⟩ := hcs k hkl
      have hq := less_of _ _ _ (HLO.out k hkl hlt)
      clear hcs
      go_wp2
      exact ⟨⟨k + 1, by omega, by simp⟩, by simp [RowKit.intOf]; omega⟩
    · obtain rfl : k = i0 := by omega
      have hbk : (k : Int) ≤ n := by omega
      have hbc : (k : Int) ≤ c := by omega
      by_cases hkn : k < n
      · have hkl : k < l.length := by rw [HN.out]; omega
        obtain ⟨b, off, rfl, hb, hcs⟩ := (HP.out.below E3.out.bel HBB.out).addr (by omega)
        obtain ⟨c0, c1, c2, c3, c4, c5, c6⟩ := hcs k hkl
        have hq := less_of _ _ _ (HHI.out k hkl (Nat.le_refl _))
        have hck : ¬ c = k := by omega
        clear hcs
        go_upto_region 13 with fail
        have hs3 := E3.out.bel.size
        have hE4 := (E3.out.lay #[.int .i64 first] 3).lay (pcells (newP id size first now, some ⟨w3.heap.size, 0, none⟩, 1)).toArray 94
        rw [show (w3.alloc (.cells #[.int .i64 first] 3)).heap.size = w3.heap.size + 1 by simp] at hE4
        have E4 := Lib.hid hE4
        clear hE4
        simp only [pcells, newP, pid, pgi, pgs, pgd, pcap, psl, pvals, plast, List.length_cons, List.length_nil, Nat.zero_add] at E4
        generalize hW4 : World.alloc (World.alloc w3 _) _ = w4 at *
        clear hW4
        have HCC := Lib.hid (show ∀ W A3 c3 bs vb, Below w.heap.size w W → Reads W B 7 A3 (n - k) (cellsP (l.drop k)) → Blk W w3.heap.size 3 #[.int .i64 first] → Blk W vb 94 #[.string id, .int .i64 0, .int .i64 0, .int .i64 0, .int .i64 size, .slice (some ⟨w3.heap.size, 0, none⟩) 1 1, .int .i64 now] → Blk W bs 33 #[.slice (some ⟨b, off, none⟩) k c, .slice (some ⟨vb, 0, none⟩) 1 1, .slice A3 (n - k) c3] → Calls Tryz.prog 88 #[.slice (some ⟨bs, 0, none⟩) 3 3] W (CatIs w W (some ⟨b, off, none⟩) l ((l.map Prod.fst).take k ++ newP id size first now :: (l.map Prod.fst).drop k) (n + 1)) from fun W A3 c3 bs vb h1 h2 h3 h4 h5 =>
          radd_cc _ A3 c c3 B n k bs vb w3.heap.size l hi0 (by omega) id (by have := (idB_ne HID.out).2; unfold maxLen; omega) size first now w W h1 HP.out HBB.out (by rw [show n - k = n - k by omega]; exact h2) h3 hs3 h4 (by rw [show n - k = n - k by omega]; exact h5))
        have HR := Lib.hid (show ∀ W, Below w.heap.size w W → Reads W B 7 (some ⟨b, off + k * 7, none⟩) (n - k) (cellsP (l.drop k)) from fun W h1 => by
          have h := (HP.out.below h1 HBB.out).row.tail (k := k) (cap := c) hi0 hnc
          rw [if_neg hck] at h
          simpa [Addr.add_lit] using h)
        have HS := Lib.hid (show ∀ w', Below w4.heap.size w4 w' → (Below w4.heap.size w4 w' ∧ w'.cell? ⟨w3.heap.size + 1, 0, none⟩ = some (.string id) ∧ w'.cell? ⟨w3.heap.size + 1, 1, none⟩ = some (.int .i64 0) ∧ w'.cell? ⟨w3.heap.size + 1, 2, none⟩ = some (.int .i64 0) ∧ w'.cell? ⟨w3.heap.size + 1, 3, none⟩ = some (.int .i64 0) ∧ w'.cell? ⟨w3.heap.size + 1, 4, none⟩ = some (.int .i64 size) ∧ w'.cell? ⟨w3.heap.size + 1, 5, none⟩ = some (.slice (some ⟨w3.heap.size, 0, none⟩) 1 1) ∧ w'.cell? ⟨w3.heap.size + 1, 6, none⟩ = some (.int .i64 now))
          from fun w' h => ⟨h, (E4.out.below h).hd.cell 0, (E4.out.below h).hd.cell 1, (E4.out.below h).hd.cell 2, (E4.out.below h).hd.cell 3, (E4.out.below h).hd.cell 4, (E4.out.below h).hd.cell 5, (E4.out.below h).hd.cell 6⟩)
        go_region_held3 (fun w' => Below w4.heap.size w4 w' ∧ w'.cell? ⟨w3.heap.size + 1, 0, none⟩ = some (.string id) ∧ w'.cell? ⟨w3.heap.size + 1, 1, none⟩ = some (.int .i64 0) ∧ w'.cell? ⟨w3.heap.size + 1, 2, none⟩ = some (.int .i64 0) ∧ w'.cell? ⟨w3.heap.size + 1, 3, none⟩ = some (.int .i64 0) ∧ w'.cell? ⟨w3.heap.size + 1, 4, none⟩ = some (.int .i64 size) ∧ w'.cell? ⟨w3.heap.size + 1, 5, none⟩ = some (.slice (some ⟨w3.heap.size, 0, none⟩) 1 1) ∧ w'.cell? ⟨w3.heap.size + 1, 6, none⟩ = some (.int .i64 now))
          ((refine HS.out _ ?_; repeat (first | (with_reducible exact hL9) | (with_reducible exact Below.refl _ _) | (with_reducible refine Below.al5 ?_) | (with_reducible refine Below.drew ?_))))
          ((go_at_call 88; refine (HCC.out _ _ _ _ _ (E4.out.below (Below.drew (Below.al5 (Below.al5 (Below.refl _ _))))).bel (HR.out _ (E4.out.below (Below.drew (Below.al5 (Below.al5 (Below.refl _ _))))).bel) (Blk.drew (((E4.out.tl.hd).alloc _).alloc _)) (Blk.drew ((Blk.new _ _ _).alloc _)) (Blk.drew (Blk.new2 _ _ _ _))).mono ?_; rintro e' w9 ⟨A9, c9, rfl, hok9, hbe9⟩; have hL9 : Below w4.heap.size w4 w9 := Below.thru5 (Below.drew (Below.al5 (Below.al5 (Below.refl _ _)))) hbe9))
        all_goals
          rename_i hheld
          have HK9 := Lib.hid hok9
          clear hok9 hL9 hheld hbe9
          go_wp2
          obtain ⟨l', k1, k2, k3, k4, k5⟩ := HK9.out
          refine bodyPost_ret (v := .tuple #[.slice A9 (n + 1) c9, .int .i64 0]) (by simp [results, Tryz.results47, go_sem]) rfl ⟨A9, c9, l', rfl, k1, k2, k3, k4, k5⟩
      · have hnk : ¬ ((k : Int) < (n : Int)) := by omega
        have hz : n - k = 0 := by omega
        by_cases hc : c = k
        · obtain rfl : k = c := hc.symm
          go_upto_region 13 with fail
          have hs3 := E3.out.bel.size
          have hE4 := (E3.out.lay #[.int .i64 first] 3).lay (pcells (newP id size first now, some ⟨w3.heap.size, 0, none⟩, 1)).toArray 94
          rw [show (w3.alloc (.cells #[.int .i64 first] 3)).heap.size = w3.heap.size + 1 by simp] at hE4
          have E4 := Lib.hid hE4
          clear hE4
          simp only [pcells, newP, pid, pgi, pgs, pgd, pcap, psl, pvals, plast, List.length_cons, List.length_nil, Nat.zero_add] at E4
          generalize hW4 : World.alloc (World.alloc w3 _) _ = w4 at *
          clear hW4
          have HCC := Lib.hid (show ∀ W A3 c3 bs vb m, m = n - k → Below w.heap.size w W → Reads W B 7 A3 m (cellsP (l.drop k)) → Blk W w3.heap.size 3 #[.int .i64 first] → Blk W vb 94 #[.string id, .int .i64 0, .int .i64 0, .int .i64 0, .int .i64 size, .slice (some ⟨w3.heap.size, 0, none⟩) 1 1, .int .i64 now] → Blk W bs 33 #[.slice A k k, .slice (some ⟨vb, 0, none⟩) 1 1, .slice A3 m c3] → Calls Tryz.prog 88 #[.slice (some ⟨bs, 0, none⟩) 3 3] W (CatIs w W A l ((l.map Prod.fst).take k ++ newP id size first now :: (l.map Prod.fst).drop k) (n + 1)) from fun W A3 c3 bs vb m hm h1 h2 h3 h4 h5 =>
            radd_cc _ A3 k c3 B n k bs vb w3.heap.size l hi0 (by omega) id (by have := (idB_ne HID.out).2; unfold maxLen; omega) size first now w W h1 HP.out HBB.out (by rw [← hm]; exact h2) h3 hs3 h4 (by rw [← hm]; exact h5))
          have HR := Lib.hid (show ∀ W A3 m, m = n - k → Below w.heap.size w W → Reads W B 7 A3 m (cellsP (l.drop k)) from fun W A3 m hm _ => by
            obtain rfl : m = 0 := by omega
            rw [List.drop_of_length_le (by rw [HN.out]; omega)]
            exact ⟨rfl, fun h => absurd h (by omega)⟩)
          have HZ := Lib.hid hz
          clear hz
          have HS := Lib.hid (show ∀ w', Below w4.heap.size w4 w' → (Below w4.heap.size w4 w' ∧ w'.cell? ⟨w3.heap.size + 1, 0, none⟩ = some (.string id) ∧ w'.cell? ⟨w3.heap.size + 1, 1, none⟩ = some (.int .i64 0) ∧ w'.cell? ⟨w3.heap.size + 1, 2, none⟩ = some (.int .i64 0) ∧ w'.cell? ⟨w3.heap.size + 1, 3, none⟩ = some (.int .i64 0) ∧ w'.cell? ⟨w3.heap.size + 1, 4, none⟩ = some (.int .i64 size) ∧ w'.cell? ⟨w3.heap.size + 1, 5, none⟩ = some (.slice (some ⟨w3.heap.size, 0, none⟩) 1 1) ∧ w'.cell? ⟨w3.heap.size + 1, 6, none⟩ = some (.int .i64 now))
            from fun w' h => ⟨h, (E4.out.below h).hd.cell 0, (E4.out.below h).hd.cell 1, (E4.out.below h).hd.cell 2, (E4.out.below h).hd.cell 3, (E4.out.below h).hd.cell 4, (E4.out.below h).hd.cell 5, (E4.out.below h).hd.cell 6⟩)
          go_region_held3 (fun w' => Below w4.heap.size w4 w' ∧ w'.cell? ⟨w3.heap.size + 1, 0, none⟩ = some (.string id) ∧ w'.cell? ⟨w3.heap.size + 1, 1, none⟩ = some (.int .i64 0) ∧ w'.cell? ⟨w3.heap.size + 1, 2, none⟩ = some (.int .i64 0) ∧ w'.cell? ⟨w3.heap.size + 1, 3, none⟩ = some (.int .i64 0) ∧ w'.cell? ⟨w3.heap.size + 1, 4, none⟩ = some (.int .i64 size) ∧ w'.cell? ⟨w3.heap.size + 1, 5, none⟩ = some (.slice (some ⟨w3.heap.size, 0, none⟩) 1 1) ∧ w'.cell? ⟨w3.heap.size + 1, 6, none⟩ = some (.int .i64 now))
            ((refine HS.out _ ?_; repeat (first | (with_reducible exact hL9) | (with_reducible exact Below.refl _ _) | (with_reducible refine Below.al5 ?_) | (with_reducible refine Below.drew ?_))))
            ((go_at_call 88; refine (HCC.out _ _ _ _ _ _ (by have := HZ.out; omega) (E4.out.below (Below.drew (Below.al5 (Below.al5 (Below.refl _ _))))).bel (HR.out _ _ _ (by have := HZ.out; omega) (E4.out.below (Below.drew (Below.al5 (Below.al5 (Below.refl _ _))))).bel) (Blk.drew (((E4.out.tl.hd).alloc _).alloc _)) (Blk.drew ((Blk.new _ _ _).alloc _)) (Blk.drew (Blk.new2 _ _ _ _))).mono ?_; rintro e' w9 ⟨A9, c9, rfl, hok9, hbe9⟩; have hL9 : Below w4.heap.size w4 w9 := Below.thru5 (Below.drew (Below.al5 (Below.al5 (Below.refl _ _)))) hbe9))
          all_goals
            rename_i hheld
            have HK9 := Lib.hid hok9
            clear hok9 hL9 hheld hbe9
            go_wp2
            obtain ⟨l', k1, k2, k3, k4, k5⟩ := HK9.out
            refine bodyPost_ret (v := .tuple #[.slice A9 (n + 1) c9, .int .i64 0]) (by simp [results, Tryz.results47, go_sem]) rfl ⟨A9, c9, l', rfl, k1, k2, k3, k4, k5⟩
        · go_upto_region 13 with fail
          have hs3 := E3.out.bel.size
          have hE4 := (E3.out.lay #[.int .i64 first] 3).lay (pcells (newP id size first now, some ⟨w3.heap.size, 0, none⟩, 1)).toArray 94
          rw [show (w3.alloc (.cells #[.int .i64 first] 3)).heap.size = w3.heap.size + 1 by simp] at hE4
          have E4 := Lib.hid hE4
          clear hE4
          simp only [pcells, newP, pid, pgi, pgs, pgd, pcap, psl, pvals, plast, List.length_cons, List.length_nil, Nat.zero_add] at E4
          generalize hW4 : World.alloc (World.alloc w3 _) _ = w4 at *
          clear hW4
          have HCC := Lib.hid (show ∀ W A3 c3 bs vb m, m = n - k → Below w.heap.size w W → Reads W B 7 A3 m (cellsP (l.drop k)) → Blk W w3.heap.size 3 #[.int .i64 first] → Blk W vb 94 #[.string id, .int .i64 0, .int .i64 0, .int .i64 0, .int .i64 size, .slice (some ⟨w3.heap.size, 0, none⟩) 1 1, .int .i64 now] → Blk W bs 33 #[.slice A k c, .slice (some ⟨vb, 0, none⟩) 1 1, .slice A3 m c3] → Calls Tryz.prog 88 #[.slice (some ⟨bs, 0, none⟩) 3 3] W (CatIs w W A l ((l.map Prod.fst).take k ++ newP id size first now :: (l.map Prod.fst).drop k) (n + 1)) from fun W A3 c3 bs vb m hm h1 h2 h3 h4 h5 =>
            radd_cc _ A3 c c3 B n k bs vb w3.heap.size l hi0 (by omega) id (by have := (idB_ne HID.out).2; unfold maxLen; omega) size first now w W h1 HP.out HBB.out (by rw [← hm]; exact h2) h3 hs3 h4 (by rw [← hm]; exact h5))
          have HR := Lib.hid (show ∀ W A3 m, m = n - k → Below w.heap.size w W → Reads W B 7 A3 m (cellsP (l.drop k)) from fun W A3 m hm _ => by
            obtain rfl : m = 0 := by omega
            rw [List.drop_of_length_le (by rw [HN.out]; omega)]
            exact ⟨rfl, fun h => absurd h (by omega)⟩)
          have HZ := Lib.hid hz
          clear hz
          have HS := Lib.hid (show ∀ w', Below w4.heap.size w4 w' → (Below w4.heap.size w4 w' ∧ w'.cell? ⟨w3.heap.size + 1, 0, none⟩ = some (.string id) ∧ w'.cell? ⟨w3.heap.size + 1, 1, none⟩ = some (.int .i64 0) ∧ w'.cell? ⟨w3.heap.size + 1, 2, none⟩ = some (.int .i64 0) ∧ w'.cell? ⟨w3.heap.size + 1, 3, none⟩ = some (.int .i64 0) ∧ w'.cell? ⟨w3.heap.size + 1, 4, none⟩ = some (.int .i64 size) ∧ w'.cell? ⟨w3.heap.size + 1, 5, none⟩ = some (.slice (some ⟨w3.heap.size, 0, none⟩) 1 1) ∧ w'.cell? ⟨w3.heap.size + 1, 6, none⟩ = some (.int .i64 now))
            from fun w' h => ⟨h, (E4.out.below h).hd.cell 0, (E4.out.below h).hd.cell 1, (E4.out.below h).hd.cell 2, (E4.out.below h).hd.cell 3, (E4.out.below h).hd.cell 4, (E4.out.below h).hd.cell 5, (E4.out.below h).hd.cell 6⟩)
          go_region_held3 (fun w' => Below w4.heap.size w4 w' ∧ w'.cell? ⟨w3.heap.size + 1, 0, none⟩ = some (.string id) ∧ w'.cell? ⟨w3.heap.size + 1, 1, none⟩ = some (.int .i64 0) ∧ w'.cell? ⟨w3.heap.size + 1, 2, none⟩ = some (.int .i64 0) ∧ w'.cell? ⟨w3.heap.size + 1, 3, none⟩ = some (.int .i64 0) ∧ w'.cell? ⟨w3.heap.size + 1, 4, none⟩ = some (.int .i64 size) ∧ w'.cell? ⟨w3.heap.size + 1, 5, none⟩ = some (.slice (some ⟨w3.heap.size, 0, none⟩) 1 1) ∧ w'.cell? ⟨w3.heap.size + 1, 6, none⟩ = some (.int .i64 now))
            ((refine HS.out _ ?_; repeat (first | (with_reducible exact hL9) | (with_reducible exact Below.refl _ _) | (with_reducible refine Below.al5 ?_) | (with_reducible refine Below.drew ?_))))
            ((go_at_call 88; refine (HCC.out _ _ _ _ _ _ (by have := HZ.out; omega) (E4.out.below (Below.drew (Below.al5 (Below.al5 (Below.refl _ _))))).bel (HR.out _ _ _ (by have := HZ.out; omega) (E4.out.below (Below.drew (Below.al5 (Below.al5 (Below.refl _ _))))).bel) (Blk.drew (((E4.out.tl.hd).alloc _).alloc _)) (Blk.drew ((Blk.new _ _ _).alloc _)) (Blk.drew (Blk.new2 _ _ _ _))).mono ?_; rintro e' w9 ⟨A9, c9, rfl, hok9, hbe9⟩; have hL9 : Below w4.heap.size w4 w9 := Below.thru5 (Below.drew (Below.al5 (Below.al5 (Below.refl _ _)))) hbe9))
          all_goals
            rename_i hheld
            have HK9 := Lib.hid hok9
            clear hok9 hL9 hheld hbe9
            go_wp2
            obtain ⟨l', k1, k2, k3, k4, k5⟩ := HK9.out
            refine bodyPost_ret (v := .tuple #[.slice A9 (n + 1) c9, .int .i64 0]) (by simp [results, Tryz.results47, go_sem]) rfl ⟨A9, c9, l', rfl, k1, k2, k3, k4, k5⟩

set_option maxHeartbeats 1000000 in
set_option maxRecDepth 100000 in
theorem rdrop_none (A : Option Addr) (c B n : Nat) (l : List PeerT) (hm : n ≤ maxLen) (id : ByteArray) (w : World) (hp : Peers w B A n l) (hB : B ≤ w.heap.size) (hno : ∀ j, (hj : j < l.length) → pid (l[j]'hj) ≠ id) :
    Calls Tryz.prog 51 #[.slice A n c, .string id] w (AddNo 4 w) := by
  have HF := Lib.hid (rfind_none A c B n l id hno hm)
  clear hno
  have HP := Lib.hid hp
  have HBB := Lib.hid hB
  have HN := Lib.hid hp.len
  have E0 := Lib.hid (Env.start w)
  clear hp hB
  go_enter Tryz.func51, Tryz.ntmps51
  go_wp2_with fail
  refine (HF.out _ (HP.out.below E0.out.bel HBB.out) (Nat.le_trans HBB.out E0.out.bel.size)).mono ?_
  rintro e' w3 ⟨rfl, hb3⟩
  have E3 := Lib.hid (E0.out.below hb3)
  clear hb3
  go_wp2
  all_goals first
    | (exfalso; omega)
    | (refine bodyPost_ret (v := .tuple #[.slice none 0 0, .int .i64 4]) (by simp [results, Tryz.results51, go_sem]) rfl ⟨rfl, E3.out.bel⟩)

set_option maxHeartbeats 1000000 in
set_option maxRecDepth 100000 in
theorem rdrop_ok (A : Option Addr) (c B n : Nat) (l : List PeerT) (hm : n ≤ maxLen) (id : ByteArray) (w : World) (hp : Peers w B A n l) (hB : B ≤ w.heap.size) (hn6 : n ≤ 6) (hnc : n ≤ c) (hcm : c ≤ maxLen) (hasc : Asc6 l) (k : Nat) (hk : k < l.length) (hidk : pid (l[k]'hk) = id) :
    Calls Tryz.prog 51 #[.slice A n c, .string id] w (AddIs A l ((l.map Prod.fst).take k ++ (l.map Prod.fst).drop (k + 1)) (n - 1) w) := by
  have hfi := rfind_some A c B n l k hk (fun j hj hjk => asc_ne hasc hj hk hjk) hm
  rw [hidk] at hfi
  have HF := Lib.hid hfi
  have hkn : k < n := by rw [← hp.len]; exact hk
  clear hfi hasc hidk
  have HP := Lib.hid hp
  have HBB := Lib.hid hB
  have HN := Lib.hid hp.len
  have E0 := Lib.hid (Env.start w)
  clear hp hB
  unfold maxLen at hcm
  go_enter Tryz.func51, Tryz.ntmps51
  go_wp2_with fail
  refine (HF.out _ (HP.out.below E0.out.bel HBB.out) (Nat.le_trans HBB.out E0.out.bel.size)).mono ?_
  rintro e' w3 ⟨rfl, hb3⟩
  have E3 := Lib.hid (E0.out.below hb3)
  clear hb3
  obtain ⟨b, off, rfl, hb, -⟩ := HP.out.addr (by omega)
  have HCC := Lib.hid (show ∀ W A3 c3 bs, Below w3.heap.size w3 W → (c = k + 1 ∧ A3 = some ⟨b, off, none⟩ ∨ A3 = some ⟨b, off + (k + 1) * 7, none⟩ ∧ ¬ c = k + 1) → Blk W bs 33 #[.slice (some ⟨b, off, none⟩) k c, .slice A3 (n - (k + 1)) c3] → Calls Tryz.prog 88 #[.slice (some ⟨bs, 0, none⟩) 2 2] W (CatIs w W (some ⟨b, off, none⟩) l ((l.map Prod.fst).take k ++ (l.map Prod.fst).drop (k + 1)) (n - 1)) from fun W A3 c3 bs h1 h2 h3 =>
    rdrop_cc _ A3 c c3 B n k bs l hkn (by omega) w W (E3.out.below h1).bel HP.out HBB.out (by
      have h := (HP.out.below (E3.out.below h1).bel HBB.out).row.tail (k := k + 1) (cap := c) hkn hnc
      rcases h2 with ⟨hc, rfl⟩ | ⟨rfl, hc⟩
      · rw [if_pos hc] at h; exact h
      · rw [if_neg hc] at h; simpa [Addr.add_lit] using h) h3)
  have b1 : (k : Int) ≤ n := by omega
  have b2 : (k : Int) + 1 ≤ n := by omega
  have b3 : (k : Int) ≤ c := by omega
  have b4 : (0 : Int) ≤ (k : Int) + 1 := by omega
  have b5 : ((k : Int) + 1).toNat = k + 1 := by omega
  have b6 : IntKind.i64.wrap ((k : Int) + 1) = (k : Int) + 1 := by rw [IntKind.wrap_i64]; omega
  have hck : ¬ c = k := by omega
  have hck2 : (k : Int) ≤ (k : Int) + 1 := by omega
  have hS0 : Below w.heap.size w w3 := E3.out.bel
  by_cases hc : c = k + 1
  · subst hc
    have HC1 := Lib.hid (fun W c3 bs h1 (h3 : Blk W bs 33 #[.slice (some ⟨b, off, none⟩) k (k + 1), .slice (some ⟨b, off, none⟩) 0 c3]) => HCC.out W (some ⟨b, off, none⟩) c3 bs h1 (.inl ⟨rfl, rfl⟩) (by rw [show n - (k + 1) = 0 by omega]; exact h3))
    go_upto_region 4 with fail
    go_region_held3 (fun w' => Below w.heap.size w w')
      ((repeat (first | (with_reducible exact hL9) | (with_reducible exact hS0) | (with_reducible refine Below.al5 ?_) | (with_reducible refine Below.drew ?_))))
      ((go_at_call 88; refine (HC1.out _ _ _ (Below.drew (Below.al5 (Below.refl _ _))) (Blk.drew (Blk.new _ _ _))).mono ?_; rintro e' w9 ⟨A9, c9, rfl, hok9, hbe9⟩; have hL9 : Below w.heap.size w w9 := hok9.bel))
    all_goals
      have HK9 := Lib.hid hok9
      clear hok9 hL9
      go_wp2
      obtain ⟨l', k1, k2, k3, k4, k5⟩ := HK9.out
      refine bodyPost_ret (v := .tuple #[.slice A9 (n - 1) c9, .int .i64 0]) (by simp [results, Tryz.results51, go_sem]) rfl ⟨A9, c9, l', rfl, k1, k2, k3, k4, k5⟩
  · go_upto_region 4 with fail
    go_region_held3 (fun w' => Below w.heap.size w w')
      ((repeat (first | (with_reducible exact hL9) | (with_reducible exact hS0) | (with_reducible refine Below.al5 ?_) | (with_reducible refine Below.drew ?_))))
      ((go_at_call 88; refine (HCC.out _ _ _ _ (Below.drew (Below.al5 (Below.refl _ _))) (.inr ⟨rfl, hc⟩) (Blk.drew (Blk.new _ _ _))).mono ?_; rintro e' w9 ⟨A9, c9, rfl, hok9, hbe9⟩; have hL9 : Below w.heap.size w w9 := hok9.bel))
    all_goals
      have HK9 := Lib.hid hok9
      clear hok9 hL9
      go_wp2
      obtain ⟨l', k1, k2, k3, k4, k5⟩ := HK9.out
      refine bodyPost_ret (v := .tuple #[.slice A9 (n - 1) c9, .int .i64 0]) (by simp [results, Tryz.results51, go_sem]) rfl ⟨A9, c9, l', rfl, k1, k2, k3, k4, k5⟩

end Go.Proofs.YtcikljcjhijjdaaGreat
