/- The law GateSays, walked. -/
import Derived.Test.YtljnmginngodkacGate
import Derived.Test.YtljnmginngodkacIdx
namespace Go.Proofs.Ytljnmginngodkac
open Go.RowKit
set_option linter.unusedSimpArgs false
set_option linter.unusedVariables false

theorem not_gate1 : ¬ GateOk 1 0 0 := by unfold GateOk; omega
theorem id_a : idB ⟨#[97]⟩ = true := by decide
theorem rbeat_ok (inc seq : Int) (h : BeatNo inc seq) (w : World) : Calls Try.prog 7 #[.agg #[.string ⟨#[97]⟩, .int .i64 inc, .int .i64 seq]] w fun e w' => e = .returned (.int .i64 0) ∧ Below w.heap.size w w' := by
  have := rbeat_any ⟨#[97]⟩ inc seq w
  unfold beatE at this
  unfold BeatNo at h
  rwa [if_pos id_a, if_pos h] at this
theorem rbeat_bad (inc seq : Int) (h : ¬ BeatNo inc seq) (w : World) : Calls Try.prog 7 #[.agg #[.string ⟨#[97]⟩, .int .i64 inc, .int .i64 seq]] w fun e w' => e = .returned (.int .i64 1) ∧ Below w.heap.size w w' := by
  have := rbeat_any ⟨#[97]⟩ inc seq w
  unfold beatE at this
  unfold BeatNo at h
  rwa [if_pos id_a, if_neg h] at this

set_option maxHeartbeats 2000000 in
set_option maxRecDepth 100000 in
theorem gate_badgate (i s d inc seq : Int) (h : ¬ GateOk i s d) (w : World) :
    Calls Try.prog 3 #[.agg #[.int .i64 i, .int .i64 s, .int .i64 d], .int .i64 inc, .int .i64 seq] w fun e w' => e = .returned (.bool true) ∧ Below w.heap.size w w' := by
  have H := Lib.hid h
  clear h
  have E := Lib.hid ((Env.start w).lay #[.int .i64 i, .int .i64 s, .int .i64 d] 23)
  go_enter Try.func3, Try.ntmps3
  go_wp2_with fail
  refine (take_badgate _ _ _ _ _ H.out _).mono ?_
  rintro e w1 ⟨rfl, hb1⟩
  have E1 := Lib.hid (E.out.below hb1)
  clear hb1
  have p0 := E1.out.hd.lt
  have a0 := E1.out.hd.cell 0
  have a1 := E1.out.hd.cell 1
  have a2 := E1.out.hd.cell 2
  simp at a0 a1 a2
  go_wp2_with fail
  refine (rgate_bad _ _ _ H.out _).mono ?_
  rintro e w2 ⟨rfl, hb2⟩
  have E2 := Lib.hid ((E1.out.lay _ _).below hb2)
  clear hb2 p0 a0 a1 a2
  have p0 := E2.out.tl.hd.lt
  have a0 := E2.out.tl.hd.cell 0
  have a1 := E2.out.tl.hd.cell 1
  have a2 := E2.out.tl.hd.cell 2
  have q0 := E2.out.hd.lt
  have c0 := E2.out.hd.cell 0
  have c1 := E2.out.hd.cell 1
  have c2 := E2.out.hd.cell 2
  simp at a0 a1 a2 c0 c1 c2
  go_wp2_with fail
  refine (check_bad _ _ _ H.out _).mono ?_
  rintro e w3 ⟨rfl, hb3⟩
  have E3 := Lib.hid (E2.out.below hb3)
  clear hb3 p0 a0 a1 a2 q0 c0 c1 c2
  have p0 := E3.out.tl.hd.lt
  have a0 := E3.out.tl.hd.cell 0
  have a1 := E3.out.tl.hd.cell 1
  have a2 := E3.out.tl.hd.cell 2
  have q0 := E3.out.hd.lt
  have c0 := E3.out.hd.cell 0
  have c1 := E3.out.hd.cell 1
  have c2 := E3.out.hd.cell 2
  simp at a0 a1 a2 c0 c1 c2
  go_wp2_with fail
  refine (check_bad _ _ _ not_gate1 _).mono ?_
  rintro e w4 ⟨rfl, hb4⟩
  have E4 := Lib.hid (E3.out.below hb4)
  clear hb4 p0 a0 a1 a2 q0 c0 c1 c2
  have p0 := E4.out.tl.hd.lt
  have a0 := E4.out.tl.hd.cell 0
  have a1 := E4.out.tl.hd.cell 1
  have a2 := E4.out.tl.hd.cell 2
  have q0 := E4.out.hd.lt
  have c0 := E4.out.hd.cell 0
  have c1 := E4.out.hd.cell 1
  have c2 := E4.out.hd.cell 2
  simp at a0 a1 a2 c0 c1 c2
  go_wp2
  go_ret
  exact ⟨rfl, E4.out.bel⟩

set_option maxHeartbeats 2000000 in
set_option maxRecDepth 100000 in
theorem gate_badarg (i s d inc seq : Int) (h : GateOk i s d) (hn : ¬ BeatNo inc seq) (w : World) :
    Calls Try.prog 3 #[.agg #[.int .i64 i, .int .i64 s, .int .i64 d], .int .i64 inc, .int .i64 seq] w fun e w' => e = .returned (.bool true) ∧ Below w.heap.size w w' := by
  have H := Lib.hid h
  have HN := Lib.hid hn
  clear h hn
  have E := Lib.hid ((Env.start w).lay #[.int .i64 i, .int .i64 s, .int .i64 d] 23)
  go_enter Try.func3, Try.ntmps3
  go_wp2_with fail
  refine (take_badarg _ _ _ _ _ H.out HN.out _).mono ?_
  rintro e w1 ⟨rfl, hb1⟩
  have E1 := Lib.hid (E.out.below hb1)
  clear hb1
  have p0 := E1.out.hd.lt
  have a0 := E1.out.hd.cell 0
  have a1 := E1.out.hd.cell 1
  have a2 := E1.out.hd.cell 2
  simp at a0 a1 a2
  go_wp2_with fail
  refine (rgate_ok _ _ _ H.out _).mono ?_
  rintro e w2 ⟨rfl, hb2⟩
  have E2 := Lib.hid ((E1.out.lay _ _).below hb2)
  clear hb2 p0 a0 a1 a2
  have p0 := E2.out.tl.hd.lt
  have a0 := E2.out.tl.hd.cell 0
  have a1 := E2.out.tl.hd.cell 1
  have a2 := E2.out.tl.hd.cell 2
  have q0 := E2.out.hd.lt
  have c0 := E2.out.hd.cell 0
  have c1 := E2.out.hd.cell 1
  have c2 := E2.out.hd.cell 2
  simp at a0 a1 a2 c0 c1 c2
  go_wp2_with fail
  refine (check_ok _ _ _ H.out _).mono ?_
  rintro e w3 ⟨rfl, hb3⟩
  have E3 := Lib.hid (E2.out.below hb3)
  clear hb3 p0 a0 a1 a2 q0 c0 c1 c2
  have p0 := E3.out.tl.hd.lt
  have a0 := E3.out.tl.hd.cell 0
  have a1 := E3.out.tl.hd.cell 1
  have a2 := E3.out.tl.hd.cell 2
  have q0 := E3.out.hd.lt
  have c0 := E3.out.hd.cell 0
  have c1 := E3.out.hd.cell 1
  have c2 := E3.out.hd.cell 2
  simp at a0 a1 a2 c0 c1 c2
  go_wp2_with fail
  refine (check_bad _ _ _ not_gate1 _).mono ?_
  rintro e w4 ⟨rfl, hb4⟩
  have E4 := Lib.hid (E3.out.below hb4)
  clear hb4 p0 a0 a1 a2 q0 c0 c1 c2
  have p0 := E4.out.tl.hd.lt
  have a0 := E4.out.tl.hd.cell 0
  have a1 := E4.out.tl.hd.cell 1
  have a2 := E4.out.tl.hd.cell 2
  have q0 := E4.out.hd.lt
  have c0 := E4.out.hd.cell 0
  have c1 := E4.out.hd.cell 1
  have c2 := E4.out.hd.cell 2
  simp at a0 a1 a2 c0 c1 c2
  go_wp2_with fail
  refine (rbeat_bad _ _ HN.out _).mono ?_
  rintro e w5 ⟨rfl, hb5⟩
  have E5 := Lib.hid (E4.out.below hb5)
  clear hb5 p0 a0 a1 a2 q0 c0 c1 c2
  have p0 := E5.out.tl.hd.lt
  have a0 := E5.out.tl.hd.cell 0
  have a1 := E5.out.tl.hd.cell 1
  have a2 := E5.out.tl.hd.cell 2
  have q0 := E5.out.hd.lt
  have c0 := E5.out.hd.cell 0
  have c1 := E5.out.hd.cell 1
  have c2 := E5.out.hd.cell 2
  simp at a0 a1 a2 c0 c1 c2
  go_wp2
  go_ret
  exact ⟨rfl, E5.out.bel⟩

set_option maxHeartbeats 2000000 in
set_option maxRecDepth 100000 in
theorem gate_new (i s d inc seq : Int) (h : GateOk i s d) (hn : BeatNo inc seq) (hg : Newer i s inc seq) (w : World) :
    Calls Try.prog 3 #[.agg #[.int .i64 i, .int .i64 s, .int .i64 d], .int .i64 inc, .int .i64 seq] w fun e w' => e = .returned (.bool true) ∧ Below w.heap.size w w' := by
  have H := Lib.hid h
  have HN := Lib.hid hn
  have HG := Lib.hid hg
  clear h hn hg
  have E := Lib.hid ((Env.start w).lay #[.int .i64 i, .int .i64 s, .int .i64 d] 23)
  go_enter Try.func3, Try.ntmps3
  go_wp2_with fail
  refine (take_new _ _ _ _ _ H.out HN.out HG.out _).mono ?_
  rintro e w1 ⟨rfl, hb1⟩
  have E1 := Lib.hid (E.out.below hb1)
  clear hb1
  have p0 := E1.out.hd.lt
  have a0 := E1.out.hd.cell 0
  have a1 := E1.out.hd.cell 1
  have a2 := E1.out.hd.cell 2
  simp at a0 a1 a2
  go_wp2_with fail
  refine (rgate_ok _ _ _ H.out _).mono ?_
  rintro e w2 ⟨rfl, hb2⟩
  have E2 := Lib.hid ((E1.out.lay _ _).below hb2)
  clear hb2 p0 a0 a1 a2
  have p0 := E2.out.tl.hd.lt
  have a0 := E2.out.tl.hd.cell 0
  have a1 := E2.out.tl.hd.cell 1
  have a2 := E2.out.tl.hd.cell 2
  have q0 := E2.out.hd.lt
  have c0 := E2.out.hd.cell 0
  have c1 := E2.out.hd.cell 1
  have c2 := E2.out.hd.cell 2
  simp at a0 a1 a2 c0 c1 c2
  go_wp2_with fail
  refine (check_ok _ _ _ H.out _).mono ?_
  rintro e w3 ⟨rfl, hb3⟩
  have E3 := Lib.hid (E2.out.below hb3)
  clear hb3 p0 a0 a1 a2 q0 c0 c1 c2
  have p0 := E3.out.tl.hd.lt
  have a0 := E3.out.tl.hd.cell 0
  have a1 := E3.out.tl.hd.cell 1
  have a2 := E3.out.tl.hd.cell 2
  have q0 := E3.out.hd.lt
  have c0 := E3.out.hd.cell 0
  have c1 := E3.out.hd.cell 1
  have c2 := E3.out.hd.cell 2
  simp at a0 a1 a2 c0 c1 c2
  go_wp2_with fail
  refine (check_bad _ _ _ not_gate1 _).mono ?_
  rintro e w4 ⟨rfl, hb4⟩
  have E4 := Lib.hid (E3.out.below hb4)
  clear hb4 p0 a0 a1 a2 q0 c0 c1 c2
  have p0 := E4.out.tl.hd.lt
  have a0 := E4.out.tl.hd.cell 0
  have a1 := E4.out.tl.hd.cell 1
  have a2 := E4.out.tl.hd.cell 2
  have q0 := E4.out.hd.lt
  have c0 := E4.out.hd.cell 0
  have c1 := E4.out.hd.cell 1
  have c2 := E4.out.hd.cell 2
  simp at a0 a1 a2 c0 c1 c2
  go_wp2_with fail
  refine (rbeat_ok _ _ HN.out _).mono ?_
  rintro e w5 ⟨rfl, hb5⟩
  have E5 := Lib.hid (E4.out.below hb5)
  clear hb5 p0 a0 a1 a2 q0 c0 c1 c2
  have p0 := E5.out.tl.hd.lt
  have a0 := E5.out.tl.hd.cell 0
  have a1 := E5.out.tl.hd.cell 1
  have a2 := E5.out.tl.hd.cell 2
  have q0 := E5.out.hd.lt
  have c0 := E5.out.hd.cell 0
  have c1 := E5.out.hd.cell 1
  have c2 := E5.out.hd.cell 2
  simp at a0 a1 a2 c0 c1 c2
  go_wp2_with fail
  refine (rtake_new _ _ _ _ _ H.out HN.out HG.out _).mono ?_
  rintro e w6 ⟨rfl, hb6⟩
  have E6 := Lib.hid (E5.out.below hb6)
  clear hb6 p0 a0 a1 a2 q0 c0 c1 c2
  have q0 := E6.out.hd.lt
  have c0 := E6.out.hd.cell 0
  have c1 := E6.out.hd.cell 1
  have c2 := E6.out.hd.cell 2
  simp at c0 c1 c2
  go_wp2
  go_ret
  exact ⟨rfl, E6.out.bel.alloc E6.out.bel.size _⟩

set_option maxHeartbeats 2000000 in
set_option maxRecDepth 100000 in
theorem gate_old (i s d inc seq : Int) (h : GateOk i s d) (hn : BeatNo inc seq) (hg : ¬ Newer i s inc seq) (m : Int) (hm : min (d + 1) 1073741824 = m) (w : World) :
    Calls Try.prog 3 #[.agg #[.int .i64 i, .int .i64 s, .int .i64 d], .int .i64 inc, .int .i64 seq] w fun e w' => e = .returned (.bool true) ∧ Below w.heap.size w w' := by
  have H := Lib.hid h
  have HN := Lib.hid hn
  have HG := Lib.hid hg
  clear h hn hg
  have HM := Lib.hid hm
  clear hm
  have E := Lib.hid ((Env.start w).lay #[.int .i64 i, .int .i64 s, .int .i64 d] 23)
  go_enter Try.func3, Try.ntmps3
  go_wp2_with fail
  refine (take_old _ _ _ _ _ H.out HN.out HG.out m HM.out _).mono ?_
  rintro e w1 ⟨rfl, hb1⟩
  have E1 := Lib.hid (E.out.below hb1)
  clear hb1
  have p0 := E1.out.hd.lt
  have a0 := E1.out.hd.cell 0
  have a1 := E1.out.hd.cell 1
  have a2 := E1.out.hd.cell 2
  simp at a0 a1 a2
  go_wp2_with fail
  refine (rgate_ok _ _ _ H.out _).mono ?_
  rintro e w2 ⟨rfl, hb2⟩
  have E2 := Lib.hid ((E1.out.lay _ _).below hb2)
  clear hb2 p0 a0 a1 a2
  have p0 := E2.out.tl.hd.lt
  have a0 := E2.out.tl.hd.cell 0
  have a1 := E2.out.tl.hd.cell 1
  have a2 := E2.out.tl.hd.cell 2
  have q0 := E2.out.hd.lt
  have c0 := E2.out.hd.cell 0
  have c1 := E2.out.hd.cell 1
  have c2 := E2.out.hd.cell 2
  simp at a0 a1 a2 c0 c1 c2
  go_wp2_with fail
  refine (check_ok _ _ _ H.out _).mono ?_
  rintro e w3 ⟨rfl, hb3⟩
  have E3 := Lib.hid (E2.out.below hb3)
  clear hb3 p0 a0 a1 a2 q0 c0 c1 c2
  have p0 := E3.out.tl.hd.lt
  have a0 := E3.out.tl.hd.cell 0
  have a1 := E3.out.tl.hd.cell 1
  have a2 := E3.out.tl.hd.cell 2
  have q0 := E3.out.hd.lt
  have c0 := E3.out.hd.cell 0
  have c1 := E3.out.hd.cell 1
  have c2 := E3.out.hd.cell 2
  simp at a0 a1 a2 c0 c1 c2
  go_wp2_with fail
  refine (check_bad _ _ _ not_gate1 _).mono ?_
  rintro e w4 ⟨rfl, hb4⟩
  have E4 := Lib.hid (E3.out.below hb4)
  clear hb4 p0 a0 a1 a2 q0 c0 c1 c2
  have p0 := E4.out.tl.hd.lt
  have a0 := E4.out.tl.hd.cell 0
  have a1 := E4.out.tl.hd.cell 1
  have a2 := E4.out.tl.hd.cell 2
  have q0 := E4.out.hd.lt
  have c0 := E4.out.hd.cell 0
  have c1 := E4.out.hd.cell 1
  have c2 := E4.out.hd.cell 2
  simp at a0 a1 a2 c0 c1 c2
  go_wp2_with fail
  refine (rbeat_ok _ _ HN.out _).mono ?_
  rintro e w5 ⟨rfl, hb5⟩
  have E5 := Lib.hid (E4.out.below hb5)
  clear hb5 p0 a0 a1 a2 q0 c0 c1 c2
  have p0 := E5.out.tl.hd.lt
  have a0 := E5.out.tl.hd.cell 0
  have a1 := E5.out.tl.hd.cell 1
  have a2 := E5.out.tl.hd.cell 2
  have q0 := E5.out.hd.lt
  have c0 := E5.out.hd.cell 0
  have c1 := E5.out.hd.cell 1
  have c2 := E5.out.hd.cell 2
  simp at a0 a1 a2 c0 c1 c2
  go_wp2_with fail
  refine (rtake_old _ _ _ _ _ H.out HN.out HG.out m HM.out _).mono ?_
  rintro e w6 ⟨rfl, hb6⟩
  have E6 := Lib.hid (E5.out.below hb6)
  clear hb6 p0 a0 a1 a2 q0 c0 c1 c2
  have q0 := E6.out.hd.lt
  have c0 := E6.out.hd.cell 0
  have c1 := E6.out.hd.cell 1
  have c2 := E6.out.hd.cell 2
  simp at c0 c1 c2
  go_wp2
  go_ret
  exact ⟨rfl, E6.out.bel.alloc E6.out.bel.size _⟩

theorem gateSays_walk (i s d inc seq : Int)
    (_b : -9223372036854775808 ≤ i ∧ i ≤ 9223372036854775807 ∧ -9223372036854775808 ≤ s ∧ s ≤ 9223372036854775807 ∧ -9223372036854775808 ≤ d ∧ d ≤ 9223372036854775807)
    (_l1 : -9223372036854775808 ≤ inc) (_h1 : inc ≤ 9223372036854775807) (_l2 : -9223372036854775808 ≤ seq) (_h2 : seq ≤ 9223372036854775807) (w : World) :
    Calls Try.prog 3 #[.agg #[.int .i64 i, .int .i64 s, .int .i64 d], .int .i64 inc, .int .i64 seq] w fun e w' => e = .returned (.bool true) ∧ Below w.heap.size w w' := by
  by_cases h : GateOk i s d
  · by_cases hn : BeatNo inc seq
    · by_cases hg : Newer i s inc seq
      · exact gate_new i s d inc seq h hn hg w
      · exact gate_old i s d inc seq h hn hg _ rfl w
    · exact gate_badarg i s d inc seq h hn w
  · exact gate_badgate i s d inc seq h w
end Go.Proofs.Ytljnmginngodkac
