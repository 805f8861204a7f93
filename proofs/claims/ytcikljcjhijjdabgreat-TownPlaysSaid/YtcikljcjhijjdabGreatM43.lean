/- hwref: where a sub stands, walked. (with what it needs) -/
import Derived.Test.YtcikljcjhijjdabGreatM42
import Derived.Test.YtcikljcjhijjdabGreatM38
import Derived.Test.YtcikljcjhijjdabGreatM41
import Derived.Test.YtcikljcjhijjdabGreatM24
namespace Go.Proofs.YtcikljcjhijjdabGreat
open Go.RowKit Go.Lib
set_option linter.unusedSimpArgs false
set_option linter.unusedVariables false

theorem isSub_no {id : ByteArray} {th : Int} {p : TriD} (h : isSub id th p = false) : eqB p.1 id = false ∨ (eqB p.1 id = true ∧ (p.2.1 == th) = false) := by
  unfold isSub at h
  cases h1 : eqB p.1 id
  · exact .inl rfl
  · rw [h1] at h; exact .inr ⟨rfl, by simpa using h⟩

set_option maxHeartbeats 2000000 in
set_option maxRecDepth 100000 in
theorem rsub_run (b g cap n : Nat) (c : CfgD) (now drops : Int) (pv : Value) (S : List TriD) (id : ByteArray) (th : Int) (hm : n ≤ 1000) (w : World) (hb : Blk w b 73 (rnodeCs c now drops pv (.slice (some ⟨g, 0, none⟩) n cap))) (hs : Row3 92 w g cap n S) :
    Calls Tryz.prog 43 #[.pointer (some ⟨b, 0, none⟩), .string id, .int .i64 th] w fun e w' => e = .returned (.int .i64 (ixI (isSub id th) S)) ∧ Below w.heap.size w w' := by
  have HS := Lib.hid hs
  have HN := Lib.hid hs.1
  have hgl := hs.lt
  have hbl := hb.lt
  have hncap := hs.2.1
  have hcap := hs.2.2.1
  unfold maxLen at hcap
  have b8 := hb.cell 8
  simp [rnodeCs] at b8
  obtain ⟨r, hr⟩ : ∃ r, ixI (isSub id th) S = r := ⟨_, rfl⟩
  rw [hr]
  have HR := Lib.hid hr
  clear hs hb hr
  go_enter Tryz.func43, Tryz.ntmps43
  go_wp2_with fail
  go_loopw [14] (fun iv wr => ∃ k : Nat, k ≤ n ∧ iv = .int .i64 (k : Int) ∧ (∀ j, (hj : j < S.length) → j < k → isSub id th (S[j]'hj) = false) ∧ Below w.heap.size w wr) (fun iv _ => n - (RowKit.intOf iv).toNat)
  case atStart => exact ⟨0, by omega, rfl, fun j _ h => absurd h (Nat.not_lt_zero j), Below.refl _ _⟩
  case round =>
    obtain ⟨k, hk, rfl, hne, hbl2⟩ := hrel
    obtain ⟨wo, rfl⟩ : ∃ wo, wo = wr := ⟨_, rfl⟩
    have BL := Lib.hid hbl2
    have NE := Lib.hid hne
    clear hbl2 hne b8
    by_cases hlt : k < n
    · have hkl : k < S.length := by rw [HN.out]; exact hlt
      obtain ⟨d0, d1, d2⟩ := (HS.out.below BL.out hgl).cells k hkl
      have hglo : g < wo.heap.size := Nat.lt_of_lt_of_le hgl BL.out.size
      generalize hpe : S[k]'hkl = p at *
      have HPE := Lib.hid hpe
      clear hpe
      obtain ⟨pi, pt, pb⟩ := p
      have EX := Lib.hid ((Env.start wo).lay (tcells (pi, pt, pb)).toArray 92)
      have BL1 := Lib.hid (BL.out.trans (EX.out.bel.mono BL.out.size))
      simp only [tcells] at BL1
      cases hq : isSub id th (pi, pt, pb)
      · have HNX := Lib.hid (show ∀ j, (hj : j < S.length) → j < k + 1 → isSub id th (S[j]'hj) = false from fun j hj h => by
          rcases Nat.lt_succ_iff_lt_or_eq.1 h with h | rfl
          · exact NE.out j hj h
          · rw [HPE.out]; exact hq)
        rcases isSub_no hq with h1 | ⟨h1, h2⟩
        · have h3 : (pi.toList == id.toList) = false := h1
          clear hq h1
          go_wp2
          exact ⟨⟨k + 1, by omega, by simp, HNX.out, BL1.out⟩, by simp [RowKit.intOf]; omega⟩
        · have h3 : (pi.toList == id.toList) = true := h1
          have h4 : (pt == th) = false := h2
          clear hq h1 h2
          go_wp2
          exact ⟨⟨k + 1, by omega, by simp, HNX.out, BL1.out⟩, by simp [RowKit.intOf]; omega⟩
      · have hrk : r = (k : Int) := by
          rw [← HR.out]
          unfold ixI
          have : S.findIdx? (isSub id th) = some k := by
            rw [List.findIdx?_eq_some_iff_getElem]
            exact ⟨hkl, by rw [HPE.out]; exact hq, fun j hj => by rw [NE.out j (by omega) hj]; decide⟩
          rw [this]
        subst hrk
        have h12 : eqB pi id = true ∧ (pt == th) = true := by unfold isSub at hq; simpa using hq
        have h3 : (pi.toList == id.toList) = true := h12.1
        have h4 : (pt == th) = true := h12.2
        clear hq h12
        go_wp2
        go_ret
        exact ⟨rfl, BL1.out⟩
    · have hrn : r = -1 := by
        rw [← HR.out]
        unfold ixI
        have : S.findIdx? (isSub id th) = none := by
          rw [List.findIdx?_eq_none_iff]
          intro x hx
          obtain ⟨j, hj, rfl⟩ := List.getElem_of_mem hx
          rw [NE.out j hj (by have := HN.out; omega)]
        rw [this]
      subst hrn
      go_wp2
      go_ret
      exact ⟨rfl, BL.out⟩

set_option maxHeartbeats 400000 in
set_option maxRecDepth 100000 in
theorem rsub_nil (b : Nat) (c : CfgD) (now drops : Int) (pv : Value) (id : ByteArray) (th : Int) (w : World) (hb : Blk w b 73 (rnodeCs c now drops pv (.slice none 0 0))) :
    Calls Tryz.prog 43 #[.pointer (some ⟨b, 0, none⟩), .string id, .int .i64 th] w fun e w' => e = .returned (.int .i64 (-1)) ∧ Below w.heap.size w w' := by
  have hbl := hb.lt
  have b8 := hb.cell 8
  simp [rnodeCs] at b8
  clear hb
  go_enter Tryz.func43, Tryz.ntmps43
  go_wp2_with fail
  go_loop [14] (fun iv => iv = .int .i64 0) (fun iv => 0)
  case atStart => rfl
  case round =>
    obtain rfl := hrel
    go_wp2
    go_ret
    exact ⟨rfl, Below.refl _ _⟩
theorem rsub_any {X : Nat → Prop} {w : World} {b pn pc : Nat} {A : Option Addr} {sv : Value} {l : List PeerT} {s : NSt} (h : RNodeIs X w b A pn pc sv l s) (hm : s.S.length ≤ 1000) (id : ByteArray) (th : Int) :
    Calls Tryz.prog 43 #[.pointer (some ⟨b, 0, none⟩), .string id, .int .i64 th] w fun e w' => e = .returned (.int .i64 (ixI (isSub id th) s.S)) ∧ Below w.heap.size w w' := by
  rcases h.subs with ⟨hsv, hS⟩ | ⟨g, cap, n, hsv, hr⟩
  · subst hsv
    rw [hS]
    exact rsub_nil b s.c s.now s.drops _ id th w h.blk
  · subst hsv
    exact rsub_run b g cap n s.c s.now s.drops _ s.S id th (by rw [← hr.1]; exact hm) w h.blk hr
end Go.Proofs.YtcikljcjhijjdabGreat

namespace Go.Proofs.YtcikljcjhijjdabGreat
open Go.RowKit Go.Lib
set_option linter.unusedSimpArgs false
set_option linter.unusedVariables false

theorem rtm_any (x : Int) (b : Bool) (h : wi x 0 1073741824 = b) (w : World) :
    Calls Tryz.prog 32 #[.int .i64 x] w fun e w' => e = .returned (.bool b) ∧ w = w' := by
  subst h; exact rtime_any x w
theorem rwithin_b (n a b : Int) (v : Bool) (h : wi n a b = v) (w : World) :
    Calls Tryz.prog 31 #[.int .i64 n, .int .i64 a, .int .i64 b] w fun e w' => e = .returned (.bool v) ∧ w = w' := by
  subst h; exact within_any n a b w

set_option maxHeartbeats 400000 in
set_option maxRecDepth 100000 in
theorem rtick_arg (b : Nat) (ticks : Int) (ht : wi ticks 1 1073741824 = false) (w : World) :
    Calls Tryz.prog 34 #[.pointer (some ⟨b, 0, none⟩), .int .i64 ticks] w fun e w' => e = .returned (.tuple #[.slice none 0 0, .slice none 0 0, .int .i64 1]) ∧ w = w' := by
  have HT := Lib.hid ht
  clear ht
  go_enter Tryz.func34, Tryz.ntmps34
  go_wp2_with fail
  refine (rwithin_b ticks 1 1073741824 _ HT.out _).mono ?_
  rintro e' w' ⟨rfl, rfl⟩
  go_wp2
  exact bodyPost_ret (v := .tuple #[.slice none 0 0, .slice none 0 0, .int .i64 1]) (by simp [results, Tryz.results34, go_sem]) rfl ⟨rfl, rfl⟩

set_option maxHeartbeats 400000 in
set_option maxRecDepth 100000 in
theorem rtick_large (b : Nat) (s : NSt) (hc : CfgIn s.c) (pv sv : Value) (ticks : Int) (h1 : 1 ≤ ticks) (h2 : ticks ≤ 1073741824) (h3 : 0 ≤ s.now) (h4 : s.now ≤ 1073741824) (hl : 1073741824 < s.now + ticks ∨ 64 ≤ ticks / cfe s.c) (w : World) (hb : Blk w b 73 (rnodeCs s.c s.now s.drops pv sv)) :
    Calls Tryz.prog 34 #[.pointer (some ⟨b, 0, none⟩), .int .i64 ticks] w fun e w' => e = .returned (.tuple #[.slice none 0 0, .slice none 0 0, .int .i64 2]) ∧ w = w' := by
  unfold CfgIn at hc
  have b2 := hb.cell 2
  have b5 := hb.cell 5
  have hbl := hb.lt
  simp [rnodeCs] at b2 b5
  obtain ⟨-, -, he1, he2, -⟩ := hc
  have HT := Lib.hid (show wi ticks 1 1073741824 = true from wi_true.2 ⟨h1, h2⟩)
  have hq3 : 64 ≤ ticks / cfe s.c → 64 * cfe s.c ≤ ticks := fun h => (Int.le_ediv_iff_mul_le (by omega)).1 h
  generalize cfe s.c = ev at *
  generalize s.now = now at *
  clear hb
  by_cases hq : 1073741824 < now + ticks
  · have HV := Lib.hid (show wi (now + ticks) 0 1073741824 = false from wi_false.2 (.inr hq))
    clear hl hq3
    go_enter Tryz.func34, Tryz.ntmps34
    go_wp2_with fail
    refine (rwithin_b ticks 1 1073741824 _ HT.out _).mono ?_
    rintro e' w' ⟨rfl, rfl⟩
    go_wp2_with fail
    refine (rtm_any (now + ticks) _ HV.out _).mono ?_
    rintro e' w' ⟨rfl, rfl⟩
    go_wp2
    all_goals first
      | (exfalso; omega)
      | exact bodyPost_ret (v := .tuple #[.slice none 0 0, .slice none 0 0, .int .i64 2]) (by simp [results, Tryz.results34, go_sem]) rfl ⟨rfl, rfl⟩
  · have HV := Lib.hid (show wi (now + ticks) 0 1073741824 = true from wi_true.2 ⟨by omega, by omega⟩)
    have hq2 : 64 * ev ≤ ticks := hq3 (by omega)
    clear hl hq3
    go_enter Tryz.func34, Tryz.ntmps34
    go_wp2_with fail
    refine (rwithin_b ticks 1 1073741824 _ HT.out _).mono ?_
    rintro e' w' ⟨rfl, rfl⟩
    go_wp2_with fail
    refine (rtm_any (now + ticks) _ HV.out _).mono ?_
    rintro e' w' ⟨rfl, rfl⟩
    go_wp2
    all_goals first
      | (exfalso; omega)
      | exact bodyPost_ret (v := .tuple #[.slice none 0 0, .slice none 0 0, .int .i64 2]) (by simp [results, Tryz.results34, go_sem]) rfl ⟨rfl, rfl⟩
/-- the answer of a Tick that goes -/
def RTickIs (X : Nat → Prop) (b : Nat) (A : Option Addr) (pn pc : Nat) (sv : Value) (l : List PeerT) (s : NSt) (ticks : Int) (w : World) (e : Ending) (w' : World) : Prop :=
  ∃ A1 c1 A2 c2, e = .returned (.tuple #[.slice A1 (s.many ticks) c1, .slice A2 (s.ticked ticks).notes.length c2, .int .i64 0]) ∧ w'.ownsRow w.heap.size 9 1 (.slice A1 (s.many ticks) c1) (s.many ticks) (cellsTx (beatsOf s.c s.seq (s.many ticks))) ∧
    w'.ownsRow w.heap.size 55 3 (.slice A2 (s.ticked ticks).notes.length c2) (s.ticked ticks).notes.length (cells3 (s.ticked ticks).notes) ∧ RNodeIs X w' b A pn pc sv l (s.ticked ticks).tell ∧ Kept X w w'
/-- in the loop, after j beats -/
def RKRel (X : Nat → Prop) (b : Nat) (A : Option Addr) (pn pc : Nat) (sv : Value) (l : List PeerT) (s : NSt) (ticks : Int) (w : World) (j : Nat) (v : Value) (wr : World) : Prop :=
  wr.ownsRow w.heap.size 9 1 v j (cellsTx (beatsOf s.c s.seq j)) ∧ RNodeIs X wr b A pn pc sv l (s.ticked ticks) ∧ Kept X w wr
theorem RKRel.below {X : Nat → Prop} {b pn pc j : Nat} {A : Option Addr} {sv v : Value} {l : List PeerT} {s : NSt} {ticks : Int} {w wr w1 : World} (h : RKRel X b A pn pc sv l s ticks w j v wr) (hb : Below wr.heap.size wr w1) : RKRel X b A pn pc sv l s ticks w j v w1 :=
  ⟨ownsRow_below h.1 hb, HoldIs.below h.2.1 hb, h.2.2.step hb⟩
theorem RKRel.next {X : Nat → Prop} {b pn pc j : Nat} {A : Option Addr} {sv v v' : Value} {l : List PeerT} {s : NSt} {ticks : Int} {w wr w1 w2 : World} (h : RKRel X b A pn pc sv l s ticks w j v wr) (hX : ∀ k, X k → k < w.heap.size)
    (hb : Below wr.heap.size wr w1) (hb2 : Below w.heap.size w1 w2) (ho : w2.ownsRow w.heap.size 9 1 v' (j + 1) (cellsTx (beatsOf s.c s.seq j) ++ cellsTx [codeS s.c.1 (cfi s.c) (s.seq + 1 + j)])) : RKRel X b A pn pc sv l s ticks w (j + 1) v' w2 := by
  have h2 := HoldIs.below h.2.1 hb
  exact ⟨by rw [beatsOf_succ, cellsTx_app]; exact ho, HoldIs.kept (X := fun k => w.heap.size ≤ k) h2 ⟨hb2.os, hb2.tape, hb2.output, hb2.size, fun k hk hx => hb2.block k (by omega)⟩ (fun k hk hx => by have := hX k hx; omega), (h.2.2.step hb).low hb2⟩

set_option maxHeartbeats 2000000 in
set_option maxRecDepth 100000 in
theorem rtick_ok {X : Nat → Prop} {w : World} {b pn pc : Nat} {A : Option Addr} {sv : Value} {l : List PeerT} {s : NSt} (h : RNodeIs X w b A pn pc sv l s) (hg : NGood s) (ticks : Int) (he : s.tickE ticks = 0) :
    Calls Tryz.prog 34 #[.pointer (some ⟨b, 0, none⟩), .int .i64 ticks] w (RTickIs X b A pn pc sv l s ticks w) := by
  obtain ⟨i0, hi, hz0, hz1, hz2⟩ := info_parts str_info
  have hgt := hg.ticked he
  unfold NSt.tickE at he
  have hc := hg.cfg
  unfold CfgIn at hc
  obtain ⟨-, -, he1, he2, -⟩ := hc
  by_cases h1 : ticks < 1 ∨ 1073741824 < ticks
  · rw [if_pos h1] at he; cases he
  rw [if_neg h1] at he
  by_cases h2 : 1073741824 < s.now + ticks ∨ 64 ≤ ticks / cfe s.c
  · rw [if_pos h2] at he; cases he
  have h0 := hg.now0
  have hn1 := hg.now1
  have hnt : s.now + ticks ≤ 1073741824 := by omega
  have ht1 : 1 ≤ ticks := by omega
  have ht2 : ticks ≤ 1073741824 := by omega
  have q0 : 0 ≤ s.now / cfe s.c := Int.ediv_nonneg h0 (by omega)
  have q3 : s.now / cfe s.c ≤ (s.now + ticks) / cfe s.c := Int.ediv_le_ediv (by omega) (by omega)
  have q5 : (s.now + ticks) / cfe s.c ≤ 1073741824 := by
    have := Int.ediv_le_self (cfe s.c) (show 0 ≤ s.now + ticks by omega); omega
  have hq64 : ticks < 64 * cfe s.c := by
    have : ¬ 64 ≤ ticks / cfe s.c := fun h => h2 (.inr h)
    exact Int.not_le.1 fun h => this ((Int.le_ediv_iff_mul_le (by omega)).2 h)
  have q6 : (s.now + ticks) / cfe s.c - s.now / cfe s.c ≤ 64 := by
    have a0 : s.now < (s.now / cfe s.c + 1) * cfe s.c := Int.lt_ediv_add_one_mul_self _ (by omega)
    have a2 : (s.now / cfe s.c + 65) * cfe s.c = (s.now / cfe s.c + 1) * cfe s.c + 64 * cfe s.c := by rw [← Int.add_mul]; congr 1; omega
    have a3 := Int.ediv_lt_of_lt_mul (a := s.now + ticks) (b := s.now / cfe s.c + 65) (c := cfe s.c) (by omega) (by omega)
    omega
  have HT := Lib.hid (show wi ticks 1 1073741824 = true from wi_true.2 ⟨ht1, ht2⟩)
  have HV := Lib.hid (show wi (s.now + ticks) 0 1073741824 = true from wi_true.2 ⟨by omega, by omega⟩)
  have HM := Lib.hid (show ((s.many ticks : Nat) : Int) = (s.now + ticks) / cfe s.c - s.now / cfe s.c by unfold NSt.many; omega)
  have HSQ := Lib.hid hg.seqs
  have HG := Lib.hid hgt
  have HID := Lib.hid hg.id
  have HX := Lib.hid h.xlt
  have HCF := Lib.hid hg.cfg
  have HH := Lib.hid h
  have HSN := Lib.hid (sent_core b s.c s.now s.drops (.slice A pn pc) sv h0 (by omega) hg.cfg w h.blk)
  have HS2 := Lib.hid (fun W (hW : RNodeIs X W b A pn pc sv l (s.ticked ticks)) => sent_core b s.c (s.now + ticks) s.drops (.slice A pn pc) sv (by omega) (by omega) hg.cfg W hW.blk)
  have b2 := h.blk.cell 2
  have b5 := h.blk.cell 5
  have f5 := h.blk.frozen 5
  have hbl := h.blk.lt
  simp [rnodeCs] at b2 b5
  clear h hg he h1 h2 hgt
  generalize s.now / cfe s.c = av at *
  generalize hmv : (s.now + ticks) / cfe s.c = mv at *
  have HMV := Lib.hid hmv
  clear hmv
  have w1 : IntKind.i64.wrap (64 * cfe s.c) = 64 * cfe s.c := by rw [IntKind.wrap_i64]; omega
  go_enter Tryz.func34, Tryz.ntmps34
  go_wp2_with fail
  refine (rwithin_b ticks 1 1073741824 _ HT.out _).mono ?_
  rintro e' w' ⟨rfl, rfl⟩
  go_wp2_with fail
  refine (rtm_any (s.now + ticks) _ HV.out _).mono ?_
  rintro e' w' ⟨rfl, rfl⟩
  go_wp2_with fail
  refine HSN.out.mono ?_
  rintro e' w' ⟨rfl, nq, rfl⟩
  have hBd : Below w.heap.size w (w.drewN nq) := below_drewN (Below.refl _ _) nq
  have N5 := Lib.hid (show RNodeIs X ((w.drewN nq).setCell ⟨b, 5, none⟩ (.int .i64 (s.now + ticks))) b A pn pc sv l (s.ticked ticks) from HoldIs.set (mk' := rnodeCs s.c (s.now + ticks) s.drops) (HoldIs.below HH.out hBd) 5 (.int .i64 (s.now + ticks)) rfl)
  have ST := Lib.hid (show RKRel X b A pn pc sv l s ticks w 0 (.slice none 0 0) ((w.drewN nq).setCell ⟨b, 5, none⟩ (.int .i64 (s.now + ticks))) from ⟨World.ownsRow_nil _ _ _ _, N5.out, (Kept.of_below (X := X) hBd).setCell (a := ⟨b, 5, none⟩) (.inl HH.out.xb) _⟩)
  clear w1
  go_wp2_with fail
  generalize (w.drewN nq).setCell ⟨b, 5, none⟩ (.int .i64 (s.now + ticks)) = w0 at *
  clear hBd b2 b5 f5 N5
  go_loopw [8, 9] (fun v iv wr => ∃ j : Nat, j ≤ s.many ticks ∧ iv = .int .i64 (av + 1 + j) ∧ RKRel X b A pn pc sv l s ticks w j v wr) (fun _ iv _ => (2000000000 - RowKit.intOf iv).toNat)
  case atStart => exact ⟨0, Nat.zero_le _, by simp, ST.out⟩
  case round =>
    obtain ⟨j, hj, rfl, hrel⟩ := hrel
    obtain ⟨wo, rfl⟩ : ∃ wo, wo = wr := ⟨_, rfl⟩
    have RL := Lib.hid hrel
    clear hrel ST
    obtain ⟨Av, cv, rfl⟩ := ownsRow_len RL.out.1
    have hjm := HM.out
    have hsz : w.heap.size ≤ wo.heap.size := RL.out.2.2.size
    go_wp2_with fail
    refine (HS2.out _ RL.out.2.1).mono ?_
    rintro e' w' ⟨rfl, nr, rfl⟩
    have RL1 := Lib.hid (RL.out.below (below_drewN (Below.refl _ _) nr))
    generalize wo.drewN nr = w2 at *
    have hsz2 : w.heap.size ≤ w2.heap.size := RL1.out.2.2.size
    by_cases hlt : j < s.many ticks
    · have hjb : (j : Int) < 64 := by omega
      have hsq : s.seq = av := HSQ.out
      have HBE := Lib.hid (show beatE s.c.1 (cfi s.c) (av + 1 + j) = 0 by
        have := HCF.out; unfold CfgIn at this
        unfold beatE; rw [if_pos HID.out, if_pos (by omega)])
      have hle : av + 1 + (j : Int) ≤ mv := by omega
      have HB2 := Lib.hid RL1.out.2.1.blk
      have hbl2 := RL1.out.2.1.blk.lt
      have HS := Lib.hid (show ∀ w', Below w2.heap.size w2 w' → (Below w2.heap.size w2 w' ∧ w'.cell? ⟨b, 0, none⟩ = some (.string s.c.1) ∧ w'.cell? ⟨b, 1, none⟩ = some (.int .i64 (cfi s.c)))
        from fun w' h => ⟨h, (HB2.out.below h hbl2).cell 0, (HB2.out.below h hbl2).cell 1⟩)
      have OWN := Lib.hid RL1.out.1
      have hid8 : s.c.1.size ≤ 8 := (idB_ne HID.out).2
      have hcf := HCF.out
      unfold CfgIn at hcf
      have HEN := Lib.hid (fun W => code_ok s.c.1 hid8 (cfi s.c) (av + 1 + j) (by omega) (by omega) (by omega) (by omega) W)
      have HRE := Lib.hid (fun w' => reads_str w' 9 (codeS s.c.1 (cfi s.c) (av + 1 + j)))
      have HO1 := Lib.hid (oneCell_T [codeS s.c.1 (cfi s.c) (av + 1 + j)])
      have HSW := Lib.hid (show ∀ w', Below w.heap.size w2 w' → (Below w.heap.size w2 w' ∧ w'.cell? ⟨b, 0, none⟩ = some (.string s.c.1) ∧ w'.cell? ⟨b, 1, none⟩ = some (.int .i64 (cfi s.c)))
        from fun w' h => ⟨h, (HB2.out.below h hbl).cell 0, (HB2.out.below h hbl).cell 1⟩)
      have hbs : (j : Int) + 1 ≤ 64 := by omega
      have HSQ2 := Lib.hid hsq
      clear hsq hcf hjm
      go_upto_region 49 with fail
      go_region_held3 (fun w' => Below w.heap.size w2 w' ∧ w'.cell? ⟨b, 0, none⟩ = some (.string s.c.1) ∧ w'.cell? ⟨b, 1, none⟩ = some (.int .i64 (cfi s.c)))
        ((refine HSW.out _ ?_; first | (with_reducible exact hL9) | (with_reducible exact hK3) | (with_reducible exact Below.refl _ _) | (with_reducible exact (Below.refl _ _).drew) | exact hK3.alloc hw3z _))
        (first
          | (go_at_call 52; (with_reducible refine (HEN.out _).mono ?_); rintro e' w3 ⟨rfl, hb3⟩; have hL3 : Below w2.heap.size w2 w3 := Below.thru5 (by repeat (first | (with_reducible exact Below.refl _ _) | (with_reducible refine Below.al5 ?_) | (with_reducible refine Below.drew ?_))) hb3; have hK3 : Below w.heap.size w2 w3 := hL3.mono hsz2; have hw3z : w.heap.size ≤ w3.heap.size := Nat.le_trans hsz2 hL3.size; have hOW3 := ownsRow_below OWN.out hL3)
          | ((refine step_appN (by rfl) _ _ _ (by rfl) w.heap.size 9 i0 _ 1 16 Tryz.underlying24 hi hz0 hz1 hz2 rfl (by decide) _ _ _ (by rfl) (hOW3.alloc _) _ _ 1 _ _ (by rfl) (HRE.out _) HO1.out (by unfold maxLen; omega) (by omega) (by simp; omega) ?_; intro v9 w9 hown9 hb9; obtain ⟨A9, c9, rfl⟩ := ownsRow_len hown9; have hL9 : Below w.heap.size w2 w9 := (hK3.alloc hw3z _).trans hb9)))
      all_goals
        have KEEP := Lib.hid (RL1.out.next HX.out (w2 := w9) (Below.al5 hL3) hb9 (by rw [show s.seq + 1 + (j : Int) = av + 1 + j by rw [HSQ2.out]]; exact hown9))
        clear hL9 hown9 hb9 hOW3 hK3 hb3 hL3
        go_wp2
        exact ⟨⟨j + 1, by omega, by first | (simp; omega) | (congr 1; omega), KEEP.out⟩, by simp [RowKit.intOf]; omega⟩
    · have hjm2 : j = s.many ticks := by omega
      subst hjm2
      have hgt : ¬ (av + 1 + ((s.many ticks : Nat) : Int) ≤ mv) := by omega
      go_wp2_with fail
      refine (rnotes_any RL1.out.2.1 HG.out).mono ?_
      rintro e' w6 ⟨A6, c6, rfl, hown6, hn6, hk6⟩
      have FIN := Lib.hid (show RTickIs X b A pn pc sv l s ticks w (.returned (.tuple #[.slice Av (s.many ticks) cv, .slice A6 (s.ticked ticks).notes.length c6, .int .i64 0])) w6 from
        ⟨Av, cv, A6, c6, rfl, hk6.own RL1.out.1 (fun k hk hx => by have h1 := RL1.out.1.lt k hk; have h2 := HX.out k hx; omega), ownsRow_base hown6 hsz2, hn6, RL1.out.2.2.trans hk6⟩)
      clear hown6 hn6 hk6
      go_wp2
      exact bodyPost_ret (v := .tuple #[.slice Av (s.many ticks) cv, .slice A6 (s.ticked ticks).notes.length c6, .int .i64 0]) (by simp [results, Tryz.results34, go_sem]) rfl FIN.out
end Go.Proofs.YtcikljcjhijjdabGreat

namespace Go.Proofs.YtcikljcjhijjdabGreat
open Go.RowKit Go.Lib
set_option linter.unusedSimpArgs false
set_option linter.unusedVariables false






















set_option maxHeartbeats 1000000 in
set_option maxRecDepth 100000 in
theorem rcfg_id (c : CfgD) (hi : idB c.1 = false) (w : World) :
    Calls Tryz.prog 27 #[cfgV c] w fun e w' => e = .returned (.int .i64 3) ∧ Below w.heap.size w w' := by
  have E := Lib.hid ((Env.start w).lay #[.string c.1, .int .i64 (cfi c), .int .i64 (cfe c), .int .i64 (cfc c), .int .i64 (cfl c)] 30)
  have HI := Lib.hid hi
  unfold cfgV
  clear hi
  go_enter Tryz.func27, Tryz.ntmps27
  go_wp2_with fail
  refine (rid_any c.1 _).mono ?_
  rw [HI.out]
  rintro e' w1 ⟨rfl, hb1⟩
  have E1 := Lib.hid (E.out.below hb1)
  clear hb1
  go_wp2
  go_ret
  exact ⟨rfl, E1.out.bel⟩
/-- which of the four tests fails first, if any -/
def RCfgBad (c : CfgD) (a1 a2 a3 a4 : Bool) : Prop := wi (cfi c) 0 2147483647 = a1 ∧ wi (cfe c) 1 16777216 = a2 ∧ wi (cfl c) 1 16777216 = a3 ∧ wi (cfc c) 1 64 = a4

set_option maxHeartbeats 2000000 in
set_option maxRecDepth 100000 in
theorem rcfg_rest (c : CfgD) (hi : idB c.1 = true) (a1 a2 a3 a4 : Bool) (hb : RCfgBad c a1 a2 a3 a4) (w : World) :
    Calls Tryz.prog 27 #[cfgV c] w fun e w' => e = .returned (.int .i64 (if (a1 && a2 && a3 && a4) = true then 0 else 1)) ∧ Below w.heap.size w w' := by
  have E := Lib.hid ((Env.start w).lay #[.string c.1, .int .i64 (cfi c), .int .i64 (cfe c), .int .i64 (cfc c), .int .i64 (cfl c)] 30)
  have HI := Lib.hid hi
  obtain ⟨h1, h2, h3, h4⟩ := hb
  have H1 := Lib.hid h1
  have H2 := Lib.hid h2
  have H3 := Lib.hid h3
  have H4 := Lib.hid h4
  unfold cfgV
  clear hi h1 h2 h3 h4
  cases a1 <;> cases a2 <;> cases a3 <;> cases a4
  all_goals
    go_enter Tryz.func27, Tryz.ntmps27
    go_wp2_with fail
    refine (rid_any c.1 _).mono ?_
    rw [HI.out]
    rintro e' w1 ⟨rfl, hb1⟩
    have E1 := Lib.hid (E.out.below hb1)
    clear hb1
    have x1 := E1.out.hd.cell 1
    have x2 := E1.out.hd.cell 2
    have x3 := E1.out.hd.cell 3
    have x4 := E1.out.hd.cell 4
    have x5 := E1.out.hd.lt
    simp at x1 x2 x3 x4
    go_wp2_with (first
      | (go_at_call 31; (with_reducible refine (rwithin_b (cfi c) 0 2147483647 _ H1.out _).mono ?_); rintro e' w' ⟨rfl, rfl⟩)
      | (go_at_call 31; (with_reducible refine (rwithin_b (cfe c) 1 16777216 _ H2.out _).mono ?_); rintro e' w' ⟨rfl, rfl⟩)
      | (go_at_call 31; (with_reducible refine (rwithin_b (cfl c) 1 16777216 _ H3.out _).mono ?_); rintro e' w' ⟨rfl, rfl⟩)
      | (go_at_call 31; (with_reducible refine (rwithin_b (cfc c) 1 64 _ H4.out _).mono ?_); rintro e' w' ⟨rfl, rfl⟩))
    all_goals
      go_ret
      exact ⟨rfl, E1.out.bel⟩
theorem rcfg_any (c : CfgD) (w : World) :
    Calls Tryz.prog 27 #[cfgV c] w fun e w' => e = .returned (.int .i64 (cfgE c)) ∧ Below w.heap.size w w' := by
  unfold cfgE
  by_cases hi : idB c.1 = true
  · rw [if_pos hi]
    have h := rcfg_rest c hi _ _ _ _ ⟨rfl, rfl, rfl, rfl⟩ w
    have e : (if (wi (cfi c) 0 2147483647 && wi (cfe c) 1 16777216 && wi (cfl c) 1 16777216 && wi (cfc c) 1 64) = true then (0 : Int) else 1) = if CfgIn c then 0 else 1 := by
      have hiff : (wi (cfi c) 0 2147483647 && wi (cfe c) 1 16777216 && wi (cfl c) 1 16777216 && wi (cfc c) 1 64) = true ↔ CfgIn c := by
        rw [Bool.and_eq_true, Bool.and_eq_true, Bool.and_eq_true, wi_true, wi_true, wi_true, wi_true]
        unfold CfgIn
        omega
      by_cases hc : CfgIn c
      · rw [if_pos (hiff.2 hc), if_pos hc]
      · rw [if_neg (fun h => hc (hiff.1 h)), if_neg hc]
    rw [e] at h
    exact h
  · rw [if_neg hi]; exact rcfg_id c (by simpa using hi) w
end Go.Proofs.YtcikljcjhijjdabGreat

namespace Go.Proofs.YtcikljcjhijjdabGreat
open Go.RowKit Go.Lib
set_option linter.unusedSimpArgs false
set_option linter.unusedVariables false

/-- the place of a name, or -1 -/
def ixD (D : List PeerD) (id : ByteArray) : Int := match idxOf D id with | some k => (k : Int) | none => -1
theorem rfind_any {w : World} {A : Option Addr} {pn pc : Nat} {l : List PeerT} {D : List PeerD} (hp : Peers w w.heap.size A pn l) (hm : l.map Prod.fst = D) (hn : pn ≤ maxLen) (id : ByteArray) :
    Calls Tryz.prog 40 #[.slice A pn pc, .string id] w fun e w' => e = .returned (.int .i64 (ixD D id)) ∧ Below w.heap.size w w' := by
  unfold ixD
  cases hi : idxOf D id with
  | none => exact rfind_none A pc w.heap.size pn l id (idxl hm hi) hn w hp (Nat.le_refl _)
  | some k =>
    obtain ⟨hk, h1, h2⟩ := idx_some hi
    subst hm
    have hkl : k < l.length := by simpa using hk
    have hpk : pid (l[k]'hkl) = id := by simpa using h1
    have := rfind_some A pc w.heap.size pn l k hkl (fun j hj hjk => by rw [hpk]; have := h2 j (by simpa using hj) hjk; simpa using this) hn w hp (Nat.le_refl _)
    rw [hpk] at this
    exact this

section
variable {X : Nat → Prop} {w : World} {b pn pc : Nat} {A : Option Addr} {sv : Value} {l : List PeerT} {s : NSt}
set_option maxHeartbeats 1000000 in
set_option maxRecDepth 100000 in
theorem rjoin_arg (h : RNodeIs X w b A pn pc sv l s) (hg : NGood s) (id : ByteArray) (th : Int) (ht : wi th 1 60 = false) :
    Calls Tryz.prog 20 #[.pointer (some ⟨b, 0, none⟩), .string id, .int .i64 th] w (RHrIs X b s [] 1 w) := by
  have HH := Lib.hid h
  have HG := Lib.hid hg
  have hbl := h.blk.lt
  have h8 := hg.eight
  have HT := Lib.hid ht
  have B0 := Lib.hid (Below.refl w.heap.size w)
  clear h hg ht
  go_enter Tryz.func20, Tryz.ntmps20
  go_wp2_with fail
  refine (rwithin_b th 1 60 _ HT.out _).mono ?_
  rintro e' w' ⟨rfl, rfl⟩
  go_wp2
  all_goals first
    | (exfalso; omega)
    | (refine bodyPost_ret (v := .tuple #[.slice none 0 0, .int .i64 1]) (by simp [results, Tryz.results20, go_sem]) rfl ?_; exact .no (HoldIs.at_ (HoldIs.grow HH.out)) (.of_below B0.out))

set_option maxHeartbeats 1000000 in
set_option maxRecDepth 100000 in
theorem rjoin_none (h : RNodeIs X w b A pn pc sv l s) (hg : NGood s) (id : ByteArray) (th : Int) (ht1 : 1 ≤ th) (ht2 : th ≤ 60) (hx : ixD s.D id = -1) :
    Calls Tryz.prog 20 #[.pointer (some ⟨b, 0, none⟩), .string id, .int .i64 th] w (RHrIs X b s [] 4 w) := by
  have HH := Lib.hid h
  have HG := Lib.hid hg
  have hbl := h.blk.lt
  have h8 := hg.eight
  have HT := Lib.hid (show wi th 1 60 = true from wi_true.2 ⟨ht1, ht2⟩)
  have hpm : pn ≤ maxLen := Nat.le_trans h.room.1 h.room.2
  have HFD := Lib.hid (rfind_any (pc := pc) h.peers h.map hpm id)
  have b7 := h.blk.cell 7
  simp [rnodeCs] at b7
  rw [hx] at HFD
  clear h hg hx hpm
  go_enter Tryz.func20, Tryz.ntmps20
  go_wp2_with fail
  refine (rwithin_b th 1 60 _ HT.out _).mono ?_
  rintro e' w' ⟨rfl, rfl⟩
  go_wp2_with fail
  refine HFD.out.mono ?_
  rintro e' w1 ⟨rfl, hb1⟩
  have B1 := Lib.hid hb1
  have N1 := Lib.hid (HoldIs.below HH.out hb1)
  clear hb1 b7
  go_wp2
  all_goals first
    | (exfalso; omega)
    | (refine bodyPost_ret (v := .tuple #[.slice none 0 0, .int .i64 4]) (by simp [results, Tryz.results20, go_sem]) rfl ?_; exact .no (HoldIs.at_ (HoldIs.grow N1.out)) (.of_below B1.out))

set_option maxHeartbeats 1000000 in
set_option maxRecDepth 100000 in
theorem rjoin_there (h : RNodeIs X w b A pn pc sv l s) (hg : NGood s) (id : ByteArray) (th : Int) (ht1 : 1 ≤ th) (ht2 : th ≤ 60) (k : Nat) (hx : ixD s.D id = (k : Int)) (i : Nat) (hi : ixI (isSub id th) s.S = (i : Int)) :
    Calls Tryz.prog 20 #[.pointer (some ⟨b, 0, none⟩), .string id, .int .i64 th] w (RHrIs X b s [] 5 w) := by
  have HH := Lib.hid h
  have HG := Lib.hid hg
  have hbl := h.blk.lt
  have h8 := hg.eight
  have HT := Lib.hid (show wi th 1 60 = true from wi_true.2 ⟨ht1, ht2⟩)
  have hpm : pn ≤ maxLen := Nat.le_trans h.room.1 h.room.2
  have HFD := Lib.hid (rfind_any (pc := pc) h.peers h.map hpm id)
  have b7 := h.blk.cell 7
  simp [rnodeCs] at b7
  rw [hx] at HFD
  have HI := Lib.hid hi
  clear h hg hx hi hpm
  go_enter Tryz.func20, Tryz.ntmps20
  go_wp2_with fail
  refine (rwithin_b th 1 60 _ HT.out _).mono ?_
  rintro e' w' ⟨rfl, rfl⟩
  go_wp2_with fail
  refine HFD.out.mono ?_
  rintro e' w1 ⟨rfl, hb1⟩
  have B1 := Lib.hid hb1
  have N1 := Lib.hid (HoldIs.below HH.out hb1)
  clear hb1 b7
  go_wp2_with fail
  refine (rsub_any N1.out (by omega) id th).mono ?_
  rintro e' w2 ⟨rfl, hb2⟩
  rw [HI.out]
  have B2 := Lib.hid (B1.out.trans (hb2.mono B1.out.size))
  have N2 := Lib.hid (HoldIs.below HH.out B2.out)
  clear hb2
  go_wp2
  all_goals first
    | (exfalso; omega)
    | (refine bodyPost_ret (v := .tuple #[.slice none 0 0, .int .i64 5]) (by simp [results, Tryz.results20, go_sem]) rfl ?_; exact .no (HoldIs.at_ (HoldIs.grow N2.out)) (.of_below B2.out))

set_option maxHeartbeats 1000000 in
set_option maxRecDepth 100000 in
theorem rjoin_full (h : RNodeIs X w b A pn pc sv l s) (hg : NGood s) (id : ByteArray) (th : Int) (ht1 : 1 ≤ th) (ht2 : th ≤ 60) (k : Nat) (hx : ixD s.D id = (k : Int)) (hi : ixI (isSub id th) s.S = -1) (hl : s.S.length = 8) :
    Calls Tryz.prog 20 #[.pointer (some ⟨b, 0, none⟩), .string id, .int .i64 th] w (RHrIs X b s [] 10 w) := by
  have HH := Lib.hid h
  have HG := Lib.hid hg
  have hbl := h.blk.lt
  have h8 := hg.eight
  have HT := Lib.hid (show wi th 1 60 = true from wi_true.2 ⟨ht1, ht2⟩)
  have hpm : pn ≤ maxLen := Nat.le_trans h.room.1 h.room.2
  have HFD := Lib.hid (rfind_any (pc := pc) h.peers h.map hpm id)
  have b7 := h.blk.cell 7
  simp [rnodeCs] at b7
  rw [hx] at HFD
  have HI := Lib.hid hi
  have HL := Lib.hid hl
  clear h hg hx hi hl hpm
  go_enter Tryz.func20, Tryz.ntmps20
  go_wp2_with fail
  refine (rwithin_b th 1 60 _ HT.out _).mono ?_
  rintro e' w' ⟨rfl, rfl⟩
  go_wp2_with fail
  refine HFD.out.mono ?_
  rintro e' w1 ⟨rfl, hb1⟩
  have B1 := Lib.hid hb1
  have N1 := Lib.hid (HoldIs.below HH.out hb1)
  clear hb1 b7
  go_wp2_with fail
  refine (rsub_any N1.out (by omega) id th).mono ?_
  rintro e' w2 ⟨rfl, hb2⟩
  rw [HI.out]
  have B2 := Lib.hid (B1.out.trans (hb2.mono B1.out.size))
  have N2 := Lib.hid (HoldIs.below HH.out B2.out)
  clear hb2
  have b8 := N2.out.blk.cell 8
  have hbl2 := N2.out.blk.lt
  simp [rnodeCs] at b8
  obtain ⟨As, cs, hsv⟩ := ownsRow_len N2.out.subs.own
  subst hsv
  rw [HL.out] at b8
  go_wp2
  all_goals first
    | (exfalso; omega)
    | (refine bodyPost_ret (v := .tuple #[.slice none 0 0, .int .i64 10]) (by simp [results, Tryz.results20, go_sem]) rfl ?_; exact .no (HoldIs.at_ (HoldIs.grow N2.out)) (.of_below B2.out))

set_option maxHeartbeats 1000000 in
set_option maxRecDepth 100000 in
theorem rjoin_ok (h : RNodeIs X w b A pn pc sv l s) (hg : NGood s) (id : ByteArray) (th : Int) (ht1 : 1 ≤ th) (ht2 : th ≤ 60) (k : Nat) (hx : ixD s.D id = (k : Int)) (hi : ixI (isSub id th) s.S = -1) (hl : s.S.length ≠ 8) (hg2 : NGood (s.plus id th)) :
    Calls Tryz.prog 20 #[.pointer (some ⟨b, 0, none⟩), .string id, .int .i64 th] w (RHrIs X b (s.plus id th).tell (s.plus id th).notes 0 w) := by
  have HH := Lib.hid h
  have HG := Lib.hid hg
  have hbl := h.blk.lt
  have h8 := hg.eight
  have HT := Lib.hid (show wi th 1 60 = true from wi_true.2 ⟨ht1, ht2⟩)
  have hpm : pn ≤ maxLen := Nat.le_trans h.room.1 h.room.2
  have HFD := Lib.hid (rfind_any (pc := pc) h.peers h.map hpm id)
  have b7 := h.blk.cell 7
  simp [rnodeCs] at b7
  obtain ⟨i0, hi0, hz0, hz1, hz2⟩ := info_parts sub_info
  rw [hx] at HFD
  have HI := Lib.hid hi
  have HG2 := Lib.hid hg2
  clear h hg hx hi hg2 hpm
  go_enter Tryz.func20, Tryz.ntmps20
  go_wp2_with fail
  refine (rwithin_b th 1 60 _ HT.out _).mono ?_
  rintro e' w' ⟨rfl, rfl⟩
  go_wp2_with fail
  refine HFD.out.mono ?_
  rintro e' w1 ⟨rfl, hb1⟩
  have B1 := Lib.hid hb1
  have N1 := Lib.hid (HoldIs.below HH.out hb1)
  clear hb1 b7
  go_wp2_with fail
  refine (rsub_any N1.out (by omega) id th).mono ?_
  rintro e' w2 ⟨rfl, hb2⟩
  rw [HI.out]
  have B2 := Lib.hid (B1.out.trans (hb2.mono B1.out.size))
  have N2 := Lib.hid (HoldIs.below HH.out B2.out)
  clear hb2
  have b8 := N2.out.blk.cell 8
  have hbl2 := N2.out.blk.lt
  simp [rnodeCs] at b8
  obtain ⟨As, cs, hsv⟩ := ownsRow_len N2.out.subs.own
  subst hsv
  obtain ⟨n, hn⟩ : ∃ n, s.S.length = n := ⟨_, rfl⟩
  rw [hn] at b8 hl h8
  have hl8 : ¬ ((7 : Int) < n) := by omega
  have HN := Lib.hid hn
  clear hn
  have OWN := Lib.hid (show w2.ownsRow 0 92 3 (.slice As n cs) n (cells3 s.S) by have := N2.out.subs.own; rw [HN.out] at this; exact this)
  have hbnd : (Value.slice As n cs).ownBlock ≠ some b := fun e => by have := (N2.out.xs b (by rw [HN.out]; exact e)).2; exact this rfl
  have HS9 := Lib.hid (show ∀ w', Kept (fun k => (Value.slice As n cs).ownBlock = some k) w2 w' → w'.cell? ⟨b, 8, none⟩ = some (.slice As n cs) ∧ w'.frozen? ⟨b, 8, none⟩ = false from fun w' h => ⟨h.cell b8 hbnd, (h.blk N2.out.blk hbnd).frozen 8⟩)
  have HRE := Lib.hid (reads_tri w2 92 (id, th, false))
  have hs2 := B2.out.size
  go_wp2_with (at_builtin; refine wpList_append_any _ rfl _ _ 71 rfl 0 92 i0 _ 3 32 Tryz.underlying71 hi0 hz0 hz1 hz2 rfl (by decide) _ _ _ rfl (OWN.out.alloc _) _ _ 1 _ _ rfl HRE.out (oneCell_3 [(id, th, false)]) ?c1 ?c2 (Nat.zero_le _) ?_)
  case c1 => unfold maxLen; omega
  case c2 => omega
  intro v9 w9 hown9 hgr9 hbk9
  obtain ⟨A9, c9, rfl⟩ := ownsRow_len hown9
  have hK9 : Kept (fun k => (Value.slice As n cs).ownBlock = some k) w2 w9 := Kept.grown ((Kept.refl _ _).alloc _) hgr9 (fun k hk => .inl hk)
  obtain ⟨z9, zf9⟩ := HS9.out w9 hK9
  have K9 := Lib.hid ((Kept.of_below (X := fun k => (Value.slice As n cs).ownBlock = some k) B2.out).trans hK9)
  have BK := Lib.hid hbk9
  have SA := Lib.hid (show SubsAt w9 (.slice A9 (n + 1) c9) (s.S ++ [(id, th, false)]) from .of_own (by rw [cells3_app]; exact hown9))
  have NJ := Lib.hid (show RNodeIs (grow X w w9) (w9.setCell ⟨b, 8, none⟩ (.slice A9 (n + 1) c9)) b A pn pc (.slice A9 (n + 1) c9) l (s.plus id th) from HoldIs.join (mk' := rnodeCs s.c s.now s.drops) (i := 8) HH.out (by rw [HN.out]; exact K9.out) SA.out (by rw [HN.out]; rcases BK.out with e | e; exact .inl e; exact .inr (fun g hg => by rw [e] at hg; simp at hg; omega)) rfl)
  have KJ := Lib.hid ((K9.out.mono (fun k hk => .inl (HH.out.xs k (by rw [HN.out]; exact hk)).1) : Kept X w w9).setCell (a := ⟨b, 8, none⟩) (.inl HH.out.xb) (.slice A9 (n + 1) c9))
  have hw9 := K9.out.size
  clear hK9 hbk9 hown9 hgr9 b8
  go_wp2_with fail
  refine (rnotes_any NJ.out HG2.out).mono ?_
  rintro e' w6 ⟨A6, c6, rfl, hown6, hn6, hk6⟩
  have hsz : (w9.setCell ⟨b, 8, none⟩ (.slice A9 (n + 1) c9)).heap.size = w9.heap.size := by simp [World.setCell]
  have FIN := Lib.hid (show RHrIs X b (s.plus id th).tell (s.plus id th).notes 0 w (.returned (.tuple #[.slice A6 (s.plus id th).notes.length c6, .int .i64 0])) w6 from
    ⟨A6, c6, rfl, ownsRow_base hown6 (by rw [hsz]; exact hw9), HoldAt.wide (HoldIs.at_ hn6) (grow_of' (by have := hk6.size; rw [hsz] at this; exact this)) (fun k hk => hk.2), KJ.out.then hk6 (fun k hk => hk.1)⟩)
  clear hown6 hn6 hk6 hsz z9 zf9
  go_wp2
  exact bodyPost_ret (v := .tuple #[.slice A6 (s.plus id th).notes.length c6, .int .i64 0]) (by simp [results, Tryz.results20, go_sem]) rfl FIN.out

theorem ixD_none {D : List PeerD} {id : ByteArray} (h : (idxOf D id).isSome = false) : ixD D id = -1 := by
  unfold ixD
  cases hi : idxOf D id with
  | none => rfl
  | some k => rw [hi] at h; cases h
theorem ixD_some {D : List PeerD} {id : ByteArray} (h : ¬ (idxOf D id).isSome = false) : ∃ k : Nat, ixD D id = (k : Int) := by
  unfold ixD
  cases hi : idxOf D id with
  | none => rw [hi] at h; exact absurd rfl h
  | some k => exact ⟨k, rfl⟩
theorem ixI_neg {P : TriD → Bool} {S : List TriD} (h : ¬ 0 ≤ ixI P S) : ixI P S = -1 := by
  unfold ixI at h ⊢
  cases hi : S.findIdx? P with
  | none => rfl
  | some k => rw [hi] at h; exact absurd (show (0 : Int) ≤ (k : Int) by omega) h
theorem rjoin_any (h : RNodeIs X w b A pn pc sv l s) (hg : NGood s) (id : ByteArray) (th : Int) :
    Calls Tryz.prog 20 #[.pointer (some ⟨b, 0, none⟩), .string id, .int .i64 th] w (RHrIs X b (s.joined id th) (s.joinN id th) (s.joinE id th) w) := by
  have hp := fun he => hg.plus (id := id) (th := th) he
  unfold NSt.joined NSt.joinN
  unfold NSt.joinE at hp ⊢
  by_cases h1 : th < 1 ∨ 60 < th
  · rw [if_pos h1, if_neg (by decide), if_neg (by decide)]
    exact rjoin_arg h hg id th (wi_false.2 h1)
  rw [if_neg h1] at hp ⊢
  by_cases h2 : (idxOf s.D id).isSome = false
  · rw [if_pos h2, if_neg (by decide), if_neg (by decide)]
    exact rjoin_none h hg id th (by omega) (by omega) (ixD_none h2)
  rw [if_neg h2] at hp ⊢
  obtain ⟨k, hk⟩ := ixD_some h2
  by_cases h3 : 0 ≤ ixI (isSub id th) s.S
  · rw [if_pos h3, if_neg (by decide), if_neg (by decide)]
    exact rjoin_there h hg id th (by omega) (by omega) k hk (ixI (isSub id th) s.S).toNat (by omega)
  rw [if_neg h3] at hp ⊢
  by_cases h4 : s.S.length = 8
  · rw [if_pos h4, if_neg (by decide), if_neg (by decide)]
    exact rjoin_full h hg id th (by omega) (by omega) k hk (ixI_neg h3) h4
  rw [if_neg h4] at hp ⊢
  rw [if_pos rfl, if_pos rfl]
  exact rjoin_ok h hg id th (by omega) (by omega) k hk (ixI_neg h3) h4 (hp rfl)
end
end Go.Proofs.YtcikljcjhijjdabGreat
