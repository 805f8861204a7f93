/- node.Tick, walked. -/
import Derived.Test.YtkgekhabafjpiabM44
import Derived.Test.YtkgekhabafjpiabM29
import Derived.BigQuiet
import Derived.Deep.QuietTactic
namespace Go.Proofs.Ytkgekhabafjpiab
open Go.RowKit Go.Lib
set_option linter.unusedSimpArgs false
set_option linter.unusedVariables false

/-- the texts of K beats behind the a-th -/
def beatsOf (c : CfgD) (a : Int) (K : Nat) : List ByteArray := (List.range K).map fun (j : Nat) => codeS c.1 (cfi c) (a + 1 + j)
theorem beatsOf_len (c : CfgD) (a : Int) (K : Nat) : (beatsOf c a K).length = K := by unfold beatsOf; simp
theorem beatsOf_succ (c : CfgD) (a : Int) (K : Nat) : beatsOf c a (K + 1) = beatsOf c a K ++ [codeS c.1 (cfi c) (a + 1 + K)] := by unfold beatsOf; rw [List.range_succ, List.map_append]; rfl
def cellsTx (l : List ByteArray) : List Value := l.map Value.string
theorem cellsTx_app (l m : List ByteArray) : cellsTx (l ++ m) = cellsTx l ++ cellsTx m := by unfold cellsTx; simp
theorem cellsTx_len (l : List ByteArray) : (cellsTx l).length = l.length := by unfold cellsTx; simp
theorem oneCell_T (l : List ByteArray) : ∀ u ∈ cellsTx l, u.oneCell' = true := by
  intro u hu
  obtain ⟨x, -, rfl⟩ := List.mem_map.1 hu
  rfl
/-- how many beats a tick brings -/
def NSt.many (s : NSt) (ticks : Int) : Nat := ((s.now + ticks) / cfe s.c - s.now / cfe s.c).toNat
def NSt.ticked (s : NSt) (ticks : Int) : NSt := { s with now := s.now + ticks, seq := (s.now + ticks) / cfe s.c }
/-- what Tick answers: an error, or else the texts, what is told, and the state -/
def NSt.tickE (s : NSt) (ticks : Int) : Int := if ticks < 1 ∨ 1073741824 < ticks then 1 else if 1073741824 < s.now + ticks ∨ 64 ≤ ticks / cfe s.c then 2 else 0
theorem NGood.ticked {s : NSt} (h : NGood s) {ticks : Int} (he : s.tickE ticks = 0) : NGood (s.ticked ticks) := by
  unfold NSt.tickE at he
  have hc := h.cfg
  unfold CfgIn at hc
  by_cases h1 : ticks < 1 ∨ 1073741824 < ticks
  · rw [if_pos h1] at he; cases he
  rw [if_neg h1] at he
  by_cases h2 : 1073741824 < s.now + ticks ∨ 64 ≤ ticks / cfe s.c
  · rw [if_pos h2] at he; cases he
  have h0 := h.now0
  exact ⟨h.id, h.cfg, by show 0 ≤ s.now + ticks; omega, by show s.now + ticks ≤ 1073741824; omega, rfl, h.drops0, h.drops1, h.ps, fun d hd => ⟨(h.pv d hd).1, by have := (h.pv d hd).2; show d.2.2.2.2 ≤ s.now + ticks; omega⟩, h.eight, h.th⟩

set_option maxHeartbeats 400000 in
set_option maxRecDepth 100000 in
theorem tick_arg (b : Nat) (s : NSt) (ticks : Int) (ht : ticks < 1 ∨ 1073741824 < ticks) (w : World) :
    Calls Try.prog 10 #[.pointer (some ⟨b, 0, none⟩), .int .i64 ticks] w fun e w' => e = .returned (.tuple #[.slice none 0 0, .slice none 0 0, .int .i64 1]) ∧ w = w' := by
  rcases ht with h | h
  · go_enter Try.func10, Try.ntmps10
    go_wp2
    all_goals first
      | (exfalso; omega)
      | exact bodyPost_ret (v := .tuple #[.slice none 0 0, .slice none 0 0, .int .i64 1]) (by simp [results, Try.results10, go_sem]) rfl ⟨rfl, rfl⟩
  · have h1 : ¬ ticks < 1 := by omega
    go_enter Try.func10, Try.ntmps10
    go_wp2
    all_goals first
      | (exfalso; omega)
      | exact bodyPost_ret (v := .tuple #[.slice none 0 0, .slice none 0 0, .int .i64 1]) (by simp [results, Try.results10, go_sem]) rfl ⟨rfl, rfl⟩

set_option maxHeartbeats 400000 in
set_option maxRecDepth 100000 in
theorem tick_large (b : Nat) (s : NSt) (hc : CfgIn s.c) (pv sv : Value) (ticks : Int) (h1 : 1 ≤ ticks) (h2 : ticks ≤ 1073741824) (h3 : 0 ≤ s.now) (h4 : s.now ≤ 1073741824) (hl : 1073741824 < s.now + ticks ∨ 64 ≤ ticks / cfe s.c) (w : World) (hb : Blk w b 64 (nodeCs s.c s.now s.seq s.drops pv sv)) :
    Calls Try.prog 10 #[.pointer (some ⟨b, 0, none⟩), .int .i64 ticks] w fun e w' => e = .returned (.tuple #[.slice none 0 0, .slice none 0 0, .int .i64 2]) ∧ w = w' := by
  unfold CfgIn at hc
  have b2 := hb.cell 2
  have b5 := hb.cell 5
  have hbl := hb.lt
  simp [nodeCs] at b2 b5
  obtain ⟨-, -, he1, he2, -⟩ := hc
  generalize cfe s.c = ev at *
  generalize s.now = now at *
  clear hb
  by_cases hq : 1073741824 < now + ticks
  · go_enter Try.func10, Try.ntmps10
    go_wp2
    all_goals first
      | (exfalso; omega)
      | exact bodyPost_ret (v := .tuple #[.slice none 0 0, .slice none 0 0, .int .i64 2]) (by simp [results, Try.results10, go_sem]) rfl ⟨rfl, rfl⟩
  · have hq2 : 64 ≤ ticks / ev := by omega
    clear hl
    go_enter Try.func10, Try.ntmps10
    go_wp2
    all_goals first
      | (exfalso; omega)
      | exact bodyPost_ret (v := .tuple #[.slice none 0 0, .slice none 0 0, .int .i64 2]) (by simp [results, Try.results10, go_sem]) rfl ⟨rfl, rfl⟩
/-- the answer of a Tick that goes -/
def TickIs (X : Nat → Prop) (b : Nat) (A : Option Addr) (pn pc : Nat) (sv : Value) (l : List PeerT) (s : NSt) (ticks : Int) (w : World) (e : Ending) (w' : World) : Prop :=
  ∃ A1 c1 A2 c2, e = .returned (.tuple #[.slice A1 (s.many ticks) c1, .slice A2 (s.ticked ticks).notes.length c2, .int .i64 0]) ∧ w'.ownsRow w.heap.size 9 1 (.slice A1 (s.many ticks) c1) (s.many ticks) (cellsTx (beatsOf s.c s.seq (s.many ticks))) ∧
    w'.ownsRow w.heap.size 41 3 (.slice A2 (s.ticked ticks).notes.length c2) (s.ticked ticks).notes.length (cells3 (s.ticked ticks).notes) ∧ NodeIs X w' b A pn pc sv l (s.ticked ticks).tell ∧ Kept X w w'
theorem str_info : (Try.prog.info? 9).map (fun i => (i.zero, i.size, i.bytes)) = some (some (.string ByteArray.empty), 1, 16) := by kernel_rfl
theorem reads_str (w : World) (e : TypeId) (x : ByteArray) : Reads (w.alloc (.cells #[.string x] e)) (w.heap.size + 1) 1 (some ⟨w.heap.size, 0, none⟩) 1 (cellsTx [x]) :=
  ⟨rfl, fun _ => ⟨_, rfl, by simp, fun j u hj => by
    have hc := (Blk.new w e #[.string x]).cell j
    have hadd : (⟨w.heap.size, 0, none⟩ : Addr).add j = ⟨w.heap.size, j, none⟩ := by unfold Addr.add; split <;> simp_all
    rw [hadd, hc, ← hj]
    simp [cellsTx]⟩⟩
/-- in the loop, after j beats -/
def KRel (X : Nat → Prop) (b : Nat) (A : Option Addr) (pn pc : Nat) (sv : Value) (l : List PeerT) (s : NSt) (w : World) (j : Nat) (v : Value) (wr : World) : Prop :=
  wr.ownsRow w.heap.size 9 1 v j (cellsTx (beatsOf s.c s.seq j)) ∧ NodeIs X wr b A pn pc sv l { s with seq := s.seq + j } ∧ Kept X w wr
theorem KRel.next {X : Nat → Prop} {b pn pc j : Nat} {A : Option Addr} {sv v v' : Value} {l : List PeerT} {s : NSt} {w wr w1 w2 : World} (h : KRel X b A pn pc sv l s w j v wr) (hX : ∀ k, X k → k < w.heap.size)
    (hb : Below wr.heap.size (wr.setCell ⟨b, 6, none⟩ (.int .i64 (s.seq + j + 1))) w1) (hb2 : Below w.heap.size w1 w2) (ho : w2.ownsRow w.heap.size 9 1 v' (j + 1) (cellsTx (beatsOf s.c s.seq j) ++ cellsTx [codeS s.c.1 (cfi s.c) (s.seq + 1 + j)])) : KRel X b A pn pc sv l s w (j + 1) v' w2 := by
  have h1 : NodeIs X (wr.setCell ⟨b, 6, none⟩ (.int .i64 (s.seq + j + 1))) b A pn pc sv l { s with seq := s.seq + (j + 1 : Nat) } := HoldIs.set h.2.1 6 _ (by show _ = nodeCs s.c s.now (s.seq + (j + 1 : Nat)) s.drops _ _; rw [show s.seq + ((j + 1 : Nat) : Int) = s.seq + j + 1 by omega]; rfl)
  have h2 : NodeIs X w1 b A pn pc sv l { s with seq := s.seq + (j + 1 : Nat) } := HoldIs.below h1 (by simpa [World.setCell] using hb)
  have h3 : Kept X w w1 := (h.2.2.setCell (a := ⟨b, 6, none⟩) (.inl h.2.1.xb) _).step (by simpa [World.setCell] using hb)
  exact ⟨by rw [beatsOf_succ, cellsTx_app]; exact ho, HoldIs.kept (X := fun k => w.heap.size ≤ k) h2 ⟨hb2.os, hb2.tape, hb2.output, hb2.size, fun k hk hx => hb2.block k (by omega)⟩ (fun k hk hx => by have := hX k hx; omega), h3.low hb2⟩

set_option maxHeartbeats 1000000 in
set_option maxRecDepth 100000 in
theorem tick_ok {X : Nat → Prop} {w : World} {b pn pc : Nat} {A : Option Addr} {sv : Value} {l : List PeerT} {s : NSt} (h : NodeIs X w b A pn pc sv l s) (hg : NGood s) (ticks : Int) (he : s.tickE ticks = 0) :
    Calls Try.prog 10 #[.pointer (some ⟨b, 0, none⟩), .int .i64 ticks] w (TickIs X b A pn pc sv l s ticks w) := by
  obtain ⟨i0, hi, hz0, hz1, hz2⟩ := info_parts str_info
  have hgt := hg.ticked he
  unfold NSt.tickE at he
  have hc := hg.cfg
  unfold CfgIn at hc
  obtain ⟨-, -, he1, he2, -⟩ := hc
  by_cases h1 : ticks < 1 ∨ 1073741824 < ticks
  · rw [if_pos h1] at he; cases he
  rw [if_neg h1] at he
  by_cases h2 : 1073741824 < s.now + ticks ∨ 64 ≤ ticks / cfe s.c
  · rw [if_pos h2] at he; cases he
  have h0 := hg.now0
  have hn1 := hg.now1
  have hnt : s.now + ticks ≤ 1073741824 := by omega
  have hq64 : ticks / cfe s.c < 64 := by omega
  have ht1 : 1 ≤ ticks := by omega
  have ht2 : ticks ≤ 1073741824 := by omega
  have q0 : 0 ≤ s.now / cfe s.c := Int.ediv_nonneg h0 (by omega)
  have q1 : s.now / cfe s.c * cfe s.c ≤ s.now := Int.ediv_mul_le _ (by omega)
  have q2 : s.now < (s.now / cfe s.c + 1) * cfe s.c := Int.lt_ediv_add_one_mul_self _ (by omega)
  have q3 : s.now / cfe s.c ≤ (s.now + ticks) / cfe s.c := Int.ediv_le_ediv (by omega) (by omega)
  have q4 : (s.now + ticks) / cfe s.c * cfe s.c ≤ s.now + ticks := Int.ediv_mul_le _ (by omega)
  have q5 : (s.now + ticks) / cfe s.c ≤ 1073741824 := by
    have := Int.ediv_le_self (cfe s.c) (show 0 ≤ s.now + ticks by omega); omega
  have q6 : (s.now + ticks) / cfe s.c - s.now / cfe s.c ≤ 64 := by
    have a1 : ticks < (ticks / cfe s.c + 1) * cfe s.c := Int.lt_ediv_add_one_mul_self _ (by omega)
    have a2 : (s.now / cfe s.c + ticks / cfe s.c + 2) * cfe s.c = (s.now / cfe s.c + 1) * cfe s.c + (ticks / cfe s.c + 1) * cfe s.c := by rw [← Int.add_mul]; congr 1; omega
    have a3 := Int.ediv_lt_of_lt_mul (a := s.now + ticks) (b := s.now / cfe s.c + ticks / cfe s.c + 2) (c := cfe s.c) (by omega) (by omega)
    omega
  have HQM := Lib.hid (fun (j : Nat) => (Int.le_ediv_iff_mul_le (a := s.now / cfe s.c + 1 + j) (b := s.now + ticks) (c := cfe s.c) (by omega)))
  have HM := Lib.hid (show ((s.many ticks : Nat) : Int) = (s.now + ticks) / cfe s.c - s.now / cfe s.c by unfold NSt.many; omega)
  have HSQ := Lib.hid hg.seqs
  have HG := Lib.hid hgt
  have HID := Lib.hid hg.id
  have HX := Lib.hid h.xlt
  have HCF := Lib.hid hg.cfg
  have HH := Lib.hid h
  have b2 := h.blk.cell 2
  have b5 := h.blk.cell 5
  have hbl := h.blk.lt
  simp [nodeCs] at b2 b5
  clear h hg he h1 h2 hgt
  obtain ⟨av, hav⟩ : ∃ av, s.now / cfe s.c = av := ⟨_, rfl⟩
  obtain ⟨mv, hmv⟩ : ∃ mv, (s.now + ticks) / cfe s.c = mv := ⟨_, rfl⟩
  rw [hav] at q0 q1 q2 q3 q6
  rw [hmv] at q3 q4 q5 q6
  simp only [hav, hmv] at HQM HM
  have q7 : (av + 1) * cfe s.c = av * cfe s.c + cfe s.c := by rw [Int.add_mul]; omega
  have q8 : 0 ≤ av * cfe s.c := Int.mul_nonneg q0 (by omega)
  have q9 : (av + 1) * cfe s.c ≤ 1090519040 := by omega
  have w1 : IntKind.i64.wrap (av + 1) = av + 1 := by rw [IntKind.wrap_i64]; omega
  have w2 : IntKind.i64.wrap ((av + 1) * cfe s.c) = (av + 1) * cfe s.c := by rw [IntKind.wrap_i64]; omega
  have w3 : s.now.tdiv (cfe s.c) = av := by rw [Int.tdiv_eq_ediv_of_nonneg h0]; exact hav
  have HAV := Lib.hid hav
  have HMV := Lib.hid hmv
  have AT0 := Lib.hid q7
  clear hav hmv q7 q2 q4
  go_enter Try.func10, Try.ntmps10
  go_wp2_with fail
  go_quiet (fail)
  have hBd : Below w.heap.size w (w.drewN nq) := below_drewN (Below.refl _ _) nq
  have ST := Lib.hid (show KRel X b A pn pc sv l s w 0 (.slice none 0 0) (w.drewN nq) from ⟨World.ownsRow_nil _ _ _ _, by have := HoldIs.below HH.out hBd; show NodeIs X _ b A pn pc sv l { s with seq := s.seq + (0 : Nat) }; rw [show s.seq + ((0 : Nat) : Int) = s.seq by omega]; exact this, .of_below hBd⟩)
  generalize w.drewN nq = w0 at *
  clear hBd b2 b5
  go_wp2_with fail
  go_loopw [7, 8] (fun v iv wr => ∃ (j : Nat) (t : Int), j ≤ s.many ticks ∧ iv = .int .i64 t ∧ 0 ≤ t ∧ t ≤ 1090519040 ∧ Hid (t = (av + 1 + j) * cfe s.c) ∧ KRel X b A pn pc sv l s w j v wr) (fun _ iv _ => (2000000000 - RowKit.intOf iv).toNat)
  case atStart => exact ⟨0, (av + 1) * cfe s.c, Nat.zero_le _, rfl, by rw [AT0.out]; omega, q9, Lib.hid (by rw [show av + 1 + ((0 : Nat) : Int) = av + 1 by omega]), ST.out⟩
  case round =>
    obtain ⟨j, t, hj, rfl, ht0, ht1b, HT, hrel⟩ := hrel
    obtain ⟨wo, rfl⟩ : ∃ wo, wo = wr := ⟨_, rfl⟩
    have RL := Lib.hid hrel
    clear hrel w1 w2 w3
    obtain ⟨Av, cv, rfl⟩ := ownsRow_len RL.out.1
    have hblo := RL.out.2.1.blk.lt
    have b0 := RL.out.2.1.blk.cell 0
    have b1 := RL.out.2.1.blk.cell 1
    have b2 := RL.out.2.1.blk.cell 2
    have b5 := RL.out.2.1.blk.cell 5
    have b6 := RL.out.2.1.blk.cell 6
    have f6 := RL.out.2.1.blk.frozen 6
    simp [nodeCs] at b0 b1 b2 b5 b6
    by_cases hlt : t ≤ s.now + ticks
    · have hjm : j < s.many ticks := by
        have e1 := (HQM.out j).2 (by rw [← HT.out]; exact hlt)
        have e2 := HM.out; omega
      have hNT := Lib.hid (show t + cfe s.c = (av + 1 + (j + 1 : Nat)) * cfe s.c by rw [HT.out, show av + 1 + ((j + 1 : Nat) : Int) = (av + 1 + j) + 1 by omega, Int.add_mul (av + 1 + j) 1]; omega)
      have hsq : s.seq = av := HSQ.out.trans HAV.out
      have hjb : (j : Int) < 64 := by have := HM.out; omega
      have HBE := Lib.hid (show beatE s.c.1 (cfi s.c) (s.seq + j + 1) = 0 by
        have := HCF.out; unfold CfgIn at this
        unfold beatE; rw [if_pos HID.out, if_pos (by omega)])
      have hs0 : 0 ≤ s.seq := by omega
      have hs1 : s.seq ≤ 1073741824 := by omega
      clear hsq
      go_upto_region 74 with fail
      have B2 := Lib.hid (HoldIs.set (mk' := nodeCs s.c s.now (s.seq + j + 1) s.drops) RL.out.2.1 6 (.int .i64 (s.seq + j + 1)) rfl)
      have OWN := Lib.hid (ownsRow_setCell RL.out.1 (a := ⟨b, 6, none⟩) hbl (.int .i64 (s.seq + j + 1)))
      have NX := Lib.hid (fun w1 w2 v' hb hb2 ho => RL.out.next (w1 := w1) (w2 := w2) (v' := v') HX.out hb hb2 ho)
      have hsz0 : w.heap.size ≤ wo.heap.size := RL.out.2.2.size
      have hszs : (wo.setCell ⟨b, 6, none⟩ (.int .i64 (s.seq + j + 1))).heap.size = wo.heap.size := by simp [World.setCell]
      clear b0 b1 b2 b5 b6 f6
      generalize hW2 : wo.setCell ⟨b, 6, none⟩ (.int .i64 (s.seq + j + 1)) = w2 at *
      have HW2 := Lib.hid hW2
      clear hW2
      have HB2 := Lib.hid B2.out.blk
      have hbl2 := B2.out.blk.lt
      have HS := Lib.hid (show ∀ w', Below w2.heap.size w2 w' → (Below w2.heap.size w2 w' ∧ w'.cell? ⟨b, 0, none⟩ = some (.string s.c.1) ∧ w'.cell? ⟨b, 1, none⟩ = some (.int .i64 (cfi s.c)) ∧ w'.cell? ⟨b, 6, none⟩ = some (.int .i64 (s.seq + j + 1)))
        from fun w' h => ⟨h, (HB2.out.below h hbl2).cell 0, (HB2.out.below h hbl2).cell 1, (HB2.out.below h hbl2).cell 6⟩)
      have HEN := Lib.hid (fun W => enc_ok s.c.1 (cfi s.c) (s.seq + j + 1) HBE.out W)
      go_region_held3 (fun w' => Below w2.heap.size w2 w' ∧ w'.cell? ⟨b, 0, none⟩ = some (.string s.c.1) ∧ w'.cell? ⟨b, 1, none⟩ = some (.int .i64 (cfi s.c)) ∧ w'.cell? ⟨b, 6, none⟩ = some (.int .i64 (s.seq + j + 1)))
        ((refine HS.out _ ?_; repeat (first | (with_reducible exact hL3) | (with_reducible exact Below.refl _ _) | (with_reducible refine Below.al5 ?_) | (with_reducible refine Below.drew ?_))))
        ((go_at_call 12; (with_reducible refine (HEN.out _).mono ?_); rintro e' w3 ⟨rfl, hb3⟩; have hL3 : Below w2.heap.size w2 w3 := Below.thru5 (by repeat (first | (with_reducible exact Below.refl _ _) | (with_reducible refine Below.al5 ?_) | (with_reducible refine Below.drew ?_))) hb3))
      all_goals
        have R3 := Lib.hid hL3
        have OW3 := Lib.hid (ownsRow_below OWN.out hL3)
        have hsz3 : w.heap.size ≤ w3.heap.size := by have := hL3.size; omega
        have N3 := Lib.hid (HoldIs.below B2.out hL3)
        clear hb3 hL3
        have b2 := N3.out.blk.cell 2
        have b5 := N3.out.blk.cell 5
        have hbl3 := N3.out.blk.lt
        simp [nodeCs] at b2 b5
        have hbs : (j : Int) + 1 ≤ 64 := by omega
        go_wp2_with (at_builtin; refine wpList_appN _ rfl _ _ 37 rfl w.heap.size 9 i0 _ 1 16 Try.underlying37 hi hz0 hz1 hz2 rfl (by decide) _ _ _ rfl (OW3.out.alloc _) _ _ 1 _ _ rfl (reads_str w3 9 (codeS s.c.1 (cfi s.c) (s.seq + j + 1))) (oneCell_T [codeS s.c.1 (cfi s.c) (s.seq + j + 1)]) ?c1 ?c2 ?c3 ?_)
        case c1 => unfold maxLen; omega
        case c2 => omega
        case c3 => simp; omega
        intro v4 w4 hown4 hb4
        obtain ⟨A4, c4, rfl⟩ := ownsRow_len hown4
        have KEEP := Lib.hid (NX.out _ w4 (.slice A4 (j + 1) c4) (by rw [← hszs]; exact Below.al5 R3.out) hb4 (by rw [show s.seq + 1 + (j : Int) = s.seq + j + 1 by omega]; exact hown4))
        clear b2 b5
        have b2 := KEEP.out.2.1.blk.cell 2
        have b5 := KEEP.out.2.1.blk.cell 5
        have hbl4 := KEEP.out.2.1.blk.lt
        simp [nodeCs] at b2 b5
        clear hown4 hb4
        go_wp2
        exact ⟨⟨j + 1, t + cfe s.c, by omega, rfl, by omega, by omega, hNT, KEEP.out⟩, by simp [RowKit.intOf]; omega⟩
    · have hjm : j = s.many ticks := by
        have e2 := HM.out
        by_cases h : j < s.many ticks
        · have e1 := (HQM.out j).1 (by omega)
          rw [← HT.out] at e1
          exact absurd e1 hlt
        · omega
      subst hjm
      have hsq : s.seq + ((s.many ticks : Nat) : Int) = mv := by have := HM.out; have := HSQ.out; rw [HAV.out] at this; omega
      have N5 := Lib.hid (HoldIs.set (mk' := nodeCs s.c (s.now + ticks) (s.seq + (s.many ticks : Nat)) s.drops) RL.out.2.1 5 (.int .i64 (s.now + ticks)) rfl)
      have f5 := RL.out.2.1.blk.frozen 5
      have OW5 := Lib.hid (ownsRow_setCell RL.out.1 (a := ⟨b, 5, none⟩) hbl (.int .i64 (s.now + ticks)))
      have K5 := Lib.hid (RL.out.2.2.setCell (a := ⟨b, 5, none⟩) (.inl RL.out.2.1.xb) (.int .i64 (s.now + ticks)))
      have NT := Lib.hid (show NodeIs X (wo.setCell ⟨b, 5, none⟩ (.int .i64 (s.now + ticks))) b A pn pc sv l (s.ticked ticks) by
        have := N5.out; rw [hsq] at this; unfold NSt.ticked NodeIs; rw [HMV.out]; exact this)
      clear hsq N5
      go_wp2_with fail
      refine (told_any NT.out HG.out).mono ?_
      rintro e' w6 ⟨A6, c6, rfl, hown6, hn6, hk6⟩
      have hszs : (wo.setCell ⟨b, 5, none⟩ (.int .i64 (s.now + ticks))).heap.size = wo.heap.size := by simp [World.setCell]
      have hsz0 : w.heap.size ≤ wo.heap.size := RL.out.2.2.size
      have FIN := Lib.hid (show TickIs X b A pn pc sv l s ticks w (.returned (.tuple #[.slice Av (s.many ticks) cv, .slice A6 (s.ticked ticks).notes.length c6, .int .i64 0])) w6 from
        ⟨Av, cv, A6, c6, rfl, hk6.own OW5.out (fun k hk hx => by have h1 := OW5.out.lt k hk; have h2 := HX.out k hx; omega), ownsRow_base hown6 (by omega), hn6, K5.out.trans hk6⟩)
      clear hown6 hn6 hk6
      go_wp2
      exact bodyPost_ret (v := .tuple #[.slice Av (s.many ticks) cv, .slice A6 (s.ticked ticks).notes.length c6, .int .i64 0]) (by simp [results, Try.results10, go_sem]) rfl FIN.out
end Go.Proofs.Ytkgekhabafjpiab
