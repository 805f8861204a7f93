/- A heartbeat as bytes: what Encode and Code say. (with what it needs) -/
import Derived.Test.YthimchhnhhchkaaGreatDoorM18
import Derived.Test.YthimchhnhhchkaaGreatDoorM14
import Derived.Deep.DeepCutAuto
namespace Go.Proofs.YthimchhnhhchkaaGreatDoor
open Go.RowKit Go.Lib
set_option linter.unusedSimpArgs false
set_option linter.unusedVariables false

def sadd (a b : ByteArray) : Sem Value := Op.stringOp .add a b
@[go_sem ↓] theorem sadd_veil (a b : ByteArray) : Op.stringOp .add a b = sadd a b := rfl
theorem sadd_ok {P : Program} (a b : ByteArray) (h : a.size + b.size ≤ 1000000) (w : World) : (sadd a b).run P w = .ok (.string (a ++ b)) w := run_string_add_sum w a b (by omega)
def one8 (n : Int) : ByteArray := ⟨#[u8 n]⟩
def four8 (n : Int) : ByteArray := ⟨(b4 n).toArray⟩
theorem four8_size (n : Int) : (four8 n).size = 4 := rfl
theorem one8_size (n : Int) : (one8 n).size = 1 := rfl
def chH : ByteArray := ⟨#[72]⟩
theorem chH_size : chH.size = 1 := rfl
def encS (s : ByteArray) (inc seq : Int) : ByteArray := (((chH ++ one8 s.size) ++ s) ++ four8 inc) ++ four8 seq
theorem encS_size (s : ByteArray) (inc seq : Int) : (encS s inc seq).size = 10 + s.size := by
  unfold encS
  simp only [ByteArray.size_append, four8_size, one8_size, chH_size]
  omega
def crcV (t : ByteArray) : Int := ((4294967295 - Crc.upto t t.size : Nat) : Int)
theorem crcV_bd (t : ByteArray) : 0 ≤ crcV t ∧ crcV t < 4294967296 := by unfold crcV; omega
def codeS (s : ByteArray) (inc seq : Int) : ByteArray := encS s inc seq ++ four8 (crcV (encS s inc seq))

end Go.Proofs.YthimchhnhhchkaaGreatDoor

namespace Go.Proofs.YthimchhnhhchkaaGreatDoor
open Go.RowKit Go.Lib
set_option linter.unusedSimpArgs false
set_option linter.unusedVariables false






































































end Go.Proofs.YthimchhnhhchkaaGreatDoor

namespace Go.Proofs.YthimchhnhhchkaaGreatDoor
open Go.RowKit Go.Lib
set_option linter.unusedSimpArgs false
set_option linter.unusedVariables false

theorem crcof_any (t : ByteArray) (h : t.size ≤ 20000) (w : World) : Calls Tryz.prog 167 #[.string t] w fun e w' => e = .returned (.tuple #[.int .i64 (crcV t), .int .i64 0]) ∧ Below w.heap.size w w' := cof_ok t h w
def DecIs (s : ByteArray) (i q e : Int) (w : World) (x : Ending) (w' : World) : Prop :=
  x = .returned (.tuple #[.agg #[.string s, .int .i64 i, .int .i64 q], .int .i64 e]) ∧ Below w.heap.size w w'
def Got3 (W0 : World) (s : ByteArray) (i q : Int) (v : Value) (wx : World) : Prop := ∃ g, v = .pointer (some ⟨g, 0, none⟩) ∧ W0.heap.size ≤ g ∧ Below W0.heap.size W0 wx ∧ Blk wx g 173 #[.string s, .int .i64 i, .int .i64 q]
theorem got3_new {W0 w5 : World} {s : ByteArray} {i q : Int} (h : Below W0.heap.size W0 (w5.alloc (.cells #[.string s, .int .i64 i, .int .i64 q] 173))) (hw : W0.heap.size ≤ w5.heap.size) :
    Got3 W0 s i q (.pointer (some ⟨w5.heap.size, 0, none⟩)) (w5.alloc (.cells #[.string s, .int .i64 i, .int .i64 q] 173)) := ⟨_, rfl, hw, h, Blk.new _ _ _⟩
theorem got3_set {W0 w5 : World} {s : ByteArray} {i q : Int} {g : Nat} (h : Below W0.heap.size W0 (((w5.setCell ⟨g, 0, none⟩ (.string s)).setCell ⟨g, 1, none⟩ (.int .i64 i)).setCell ⟨g, 2, none⟩ (.int .i64 q))) (hw : W0.heap.size ≤ g) (hg : ∃ a0 a1 a2, Blk w5 g 173 #[a0, a1, a2]) :
    Got3 W0 s i q (.pointer (some ⟨g, 0, none⟩)) (((w5.setCell ⟨g, 0, none⟩ (.string s)).setCell ⟨g, 1, none⟩ (.int .i64 i)).setCell ⟨g, 2, none⟩ (.int .i64 q)) := by
  obtain ⟨a0, a1, a2, hg⟩ := hg
  exact ⟨_, rfl, hw, h, ((hg.set_ 0 _).set_ 1 _).set_ 2 _⟩

theorem dec_ret {w W : World} {g : Nat} {cs : Array Value} (h : Env w W [(g, 173, cs)]) (hc : cs.size = 3) (s : ByteArray) (i q : Int) :
    Env w (((W.setCell ⟨g, 0, none⟩ (.string s)).setCell ⟨g, 1, none⟩ (.int .i64 i)).setCell ⟨g, 2, none⟩ (.int .i64 q)) [(g, 173, #[.string s, .int .i64 i, .int .i64 q])] := by
  have hg := (h.2 _ (List.mem_cons_self ..)).1
  refine ⟨((h.1.setCell (p := ⟨g, 0, none⟩) hg _).setCell (p := ⟨g, 1, none⟩) hg _).setCell (p := ⟨g, 2, none⟩) hg _, fun x hx => ?_⟩
  rcases List.mem_cons.1 hx with rfl | hx
  · refine ⟨hg, ?_⟩
    obtain ⟨l⟩ := cs
    match l, hc with
    | [a, b, c], _ => exact ((h.hd.set_ 0 (.string s)).set_ 1 (.int .i64 i)).set_ 2 (.int .i64 q)
  · cases hx

set_option maxHeartbeats 1000000 in
set_option maxRecDepth 100000 in
theorem dec_short (s : ByteArray) (h : s.size < 2) (w : World) : Calls Tryz.prog 142 #[.string s] w (DecIs ⟨#[]⟩ 0 0 8 w) := by
  go_enter Tryz.func142, Tryz.ntmps142
  go_wp2
  refine bodyPost_ret (v := .tuple #[.agg #[.string ⟨#[]⟩, .int .i64 0, .int .i64 0], .int .i64 8]) (by simp [results, Tryz.results142, go_sem]) rfl ⟨rfl, (Below.refl _ w).alloc (Nat.le_refl _) _⟩

set_option maxHeartbeats 1000000 in
set_option maxRecDepth 100000 in
theorem dec_h (s : ByteArray) (h1 : 1 < s.size) (hH : (s[0]).toNat ≠ 72) (w : World) : Calls Tryz.prog 142 #[.string s] w (DecIs ⟨#[]⟩ 0 0 3 w) := by
  have hh : (((s[0]).toNat : Int) == 72) = false := by simp; omega
  have h2 : ¬ (s.size : Int) < 2 := by omega
  go_enter Tryz.func142, Tryz.ntmps142
  go_wp2
  refine bodyPost_ret (v := .tuple #[.agg #[.string ⟨#[]⟩, .int .i64 0, .int .i64 0], .int .i64 3]) (by simp [results, Tryz.results142, go_sem]) rfl ⟨rfl, (Below.refl _ w).alloc (Nat.le_refl _) _⟩

set_option maxHeartbeats 1000000 in
set_option maxRecDepth 100000 in
theorem dec_k0 (s : ByteArray) (h1 : 1 < s.size) (hH : (s[0]).toNat = 72) (hk : (s[1]).toNat = 0) (w : World) : Calls Tryz.prog 142 #[.string s] w (DecIs ⟨#[]⟩ 0 0 3 w) := by
  have hi0 : ((s[0]).toNat : Int) = 72 := by omega
  have hi1 : ((s[1]).toNat : Int) = 0 := by omega
  have h2 : ¬ (s.size : Int) < 2 := by omega
  clear hH hk
  go_enter Tryz.func142, Tryz.ntmps142
  go_wp2
  refine bodyPost_ret (v := .tuple #[.agg #[.string ⟨#[]⟩, .int .i64 0, .int .i64 0], .int .i64 3]) (by simp [results, Tryz.results142, go_sem]) rfl ⟨rfl, (Below.refl _ w).alloc (Nat.le_refl _) _⟩

set_option maxHeartbeats 1000000 in
set_option maxRecDepth 100000 in
theorem dec_k9 (s : ByteArray) (k : Nat) (h1 : 1 < s.size) (hH : (s[0]).toNat = 72) (hk : (s[1]).toNat = k) (hk8 : 8 < k) (w : World) : Calls Tryz.prog 142 #[.string s] w (DecIs ⟨#[]⟩ 0 0 3 w) := by
  have hkb : k < 256 := by have := UInt8.toNat_lt s[1]; omega
  have hi0 : ((s[0]).toNat : Int) = 72 := by omega
  have hi1 : ((s[1]).toNat : Int) = (k : Int) := by omega
  have h2 : ¬ (s.size : Int) < 2 := by omega
  clear hH hk
  go_enter Tryz.func142, Tryz.ntmps142
  go_wp2
  refine bodyPost_ret (v := .tuple #[.agg #[.string ⟨#[]⟩, .int .i64 0, .int .i64 0], .int .i64 3]) (by simp [results, Tryz.results142, go_sem]) rfl ⟨rfl, (Below.refl _ w).alloc (Nat.le_refl _) _⟩

set_option maxHeartbeats 1000000 in
set_option maxRecDepth 100000 in
theorem dec_less (s : ByteArray) (k : Nat) (h1 : 1 < s.size) (hH : (s[0]).toNat = 72) (hk : (s[1]).toNat = k) (hk1 : 1 ≤ k) (hk8 : k ≤ 8) (hsz : s.size < 14 + k) (w : World) : Calls Tryz.prog 142 #[.string s] w (DecIs ⟨#[]⟩ 0 0 8 w) := by
  have hi0 : ((s[0]).toNat : Int) = 72 := by omega
  have hi1 : ((s[1]).toNat : Int) = (k : Int) := by omega
  have h2 : ¬ (s.size : Int) < 2 := by omega
  clear hH hk
  go_enter Tryz.func142, Tryz.ntmps142
  go_wp2
  refine bodyPost_ret (v := .tuple #[.agg #[.string ⟨#[]⟩, .int .i64 0, .int .i64 0], .int .i64 8]) (by simp [results, Tryz.results142, go_sem]) rfl ⟨rfl, (Below.refl _ w).alloc (Nat.le_refl _) _⟩

set_option maxHeartbeats 1000000 in
set_option maxRecDepth 100000 in
theorem dec_more (s : ByteArray) (k : Nat) (h1 : 1 < s.size) (hH : (s[0]).toNat = 72) (hk : (s[1]).toNat = k) (hk1 : 1 ≤ k) (hk8 : k ≤ 8) (hsz : 14 + k < s.size) (w : World) : Calls Tryz.prog 142 #[.string s] w (DecIs ⟨#[]⟩ 0 0 3 w) := by
  have hi0 : ((s[0]).toNat : Int) = 72 := by omega
  have hi1 : ((s[1]).toNat : Int) = (k : Int) := by omega
  have h2 : ¬ (s.size : Int) < 2 := by omega
  clear hH hk
  go_enter Tryz.func142, Tryz.ntmps142
  go_wp2
  refine bodyPost_ret (v := .tuple #[.agg #[.string ⟨#[]⟩, .int .i64 0, .int .i64 0], .int .i64 3]) (by simp [results, Tryz.results142, go_sem]) rfl ⟨rfl, (Below.refl _ w).alloc (Nat.le_refl _) _⟩

set_option maxHeartbeats 2000000 in
set_option maxRecDepth 100000 in
theorem dec_sum (s : ByteArray) (k : Nat) (h1 : 1 < s.size) (hH : (s[0]).toNat = 72) (hk : (s[1]).toNat = k) (hk1 : 1 ≤ k) (hk8 : k ≤ 8) (hsz : s.size = 14 + k) (hsum : crcV (s.extract 0 (10 + k)) ≠ num4 s (10 + k)) (w : World) :
    Calls Tryz.prog 142 #[.string s] w (DecIs ⟨#[]⟩ 0 0 9 w) := by
  have HC := Lib.hid (fun w => crcof_any (s.extract 0 (10 + k)) (by rw [ByteArray.size_extract]; omega) w)
  have num : ∀ a, a + 4 ≤ s.size → ∀ w, Calls Tryz.prog 169 #[.string (s.extract a (14 + k))] w fun e w' => e = .returned (.int .i64 (num4 s a)) ∧ Below w.heap.size w w' := fun a ha w => by
    have := number_any (s.extract a (14 + k)) (by rw [ByteArray.size_extract]; omega) w
    rw [num4_extract s a (14 + k) 0 (by omega) (by omega), Nat.add_zero] at this
    exact this
  have HN := Lib.hid (num (10 + k) (by omega))
  have HN1 := Lib.hid (num (2 + k) (by omega))
  have HN2 := Lib.hid (num (6 + k) (by omega))
  clear num
  generalize crcV (s.extract 0 (10 + k)) = cv at *
  generalize num4 s (10 + k) = nv at *
  have hne : (cv == nv) = false := by simpa using hsum
  have hi0 : ((s[0]).toNat : Int) = 72 := by omega
  have hi1 : ((s[1]).toNat : Int) = (k : Int) := by omega
  have hszi : (s.size : Int) = 14 + k := by omega
  have E := Lib.hid ((Env.start w).lay #[.string ⟨#[]⟩, .int .i64 0, .int .i64 0] 173)
  clear hH hk hsum
  go_enter Tryz.func142, Tryz.ntmps142
  go_wp2_with fail
  refine (HC.out _).mono ?_
  rintro e' w1 ⟨rfl, hb1⟩
  have E1 := Lib.hid (E.out.below hb1)
  clear hb1
  go_wp2_with fail
  refine (HN.out _).mono ?_
  rintro e' w2 ⟨rfl, hb2⟩
  have E2 := Lib.hid (E1.out.below hb2)
  clear hb2 E1 E
  have r0 := E2.out.hd.cell 0
  have r1 := E2.out.hd.cell 1
  have r2 := E2.out.hd.cell 2
  have f0 := E2.out.hd.frozen 0
  have f1 := E2.out.hd.frozen 1
  have f2 := E2.out.hd.frozen 2
  have p0 := E2.out.hd.lt
  simp at r0 r1 r2 p0
  go_wp2
  have EF := Lib.hid (dec_ret E2.out rfl ⟨#[]⟩ 0 0)
  generalize ((w2.setCell ⟨w.heap.size, 0, none⟩ (.string ⟨#[]⟩)).setCell ⟨w.heap.size, 1, none⟩ (.int .i64 0)).setCell ⟨w.heap.size, 2, none⟩ (.int .i64 0) = WF at EF ⊢
  have s0 := EF.out.hd.cell 0
  have s1 := EF.out.hd.cell 1
  have s2 := EF.out.hd.cell 2
  simp at s0 s1 s2
  refine bodyPost_ret (v := .tuple #[.agg #[.string ⟨#[]⟩, .int .i64 0, .int .i64 0], .int .i64 9]) (by simp [results, Tryz.results142, go_sem, s0, s1, s2]) rfl ⟨rfl, EF.out.bel⟩

set_option maxHeartbeats 4000000 in
set_option maxRecDepth 100000 in
theorem dec_bad (s : ByteArray) (k : Nat) (h1 : 1 < s.size) (hH : (s[0]).toNat = 72) (hk : (s[1]).toNat = k) (hk1 : 1 ≤ k) (hk8 : k ≤ 8) (hsz : s.size = 14 + k) (hsum : crcV (s.extract 0 (10 + k)) = num4 s (10 + k)) (e : Int) (hb : beatE (s.extract 2 (2 + k)) (num4 s (2 + k)) (num4 s (6 + k)) = e) (hz : e ≠ 0) (w : World) :
    Calls Tryz.prog 142 #[.string s] w (DecIs ⟨#[]⟩ 0 0 3 w) := by
  have HC := Lib.hid (fun w => crcof_any (s.extract 0 (10 + k)) (by rw [ByteArray.size_extract]; omega) w)
  have num : ∀ a, a + 4 ≤ s.size → ∀ w, Calls Tryz.prog 169 #[.string (s.extract a (14 + k))] w fun e w' => e = .returned (.int .i64 (num4 s a)) ∧ Below w.heap.size w w' := fun a ha w => by
    have := number_any (s.extract a (14 + k)) (by rw [ByteArray.size_extract]; omega) w
    rw [num4_extract s a (14 + k) 0 (by omega) (by omega), Nat.add_zero] at this
    exact this
  have HN := Lib.hid (num (10 + k) (by omega))
  have HN1 := Lib.hid (num (2 + k) (by omega))
  have HN2 := Lib.hid (num (6 + k) (by omega))
  clear num
  have HB := Lib.hid hb
  clear hb
  rw [← hsum] at HN
  generalize crcV (s.extract 0 (10 + k)) = cv at *
  generalize num4 s (2 + k) = n1 at *
  generalize num4 s (6 + k) = n2 at *
  have hi0 : ((s[0]).toNat : Int) = 72 := by omega
  have hi1 : ((s[1]).toNat : Int) = (k : Int) := by omega
  have hszi : (s.size : Int) = 14 + k := by omega
  have E := Lib.hid ((Env.start w).lay #[.string ⟨#[]⟩, .int .i64 0, .int .i64 0] 173)
  clear hH hk hsum
  go_enter Tryz.func142, Tryz.ntmps142
  go_wp2_with fail
  refine (HC.out _).mono ?_
  rintro e' w1 ⟨rfl, hb1⟩
  have E1 := Lib.hid (E.out.below hb1)
  clear hb1
  go_wp2_with fail
  refine (HN.out _).mono ?_
  rintro e' w2 ⟨rfl, hb2⟩
  have E2 := Lib.hid (E1.out.below hb2)
  clear hb2 E1 E
  have b1 : IntKind.i64.wrap ((2 : Int) + (k : Int)) = (2 : Int) + (k : Int) := by rw [IntKind.wrap_i64]; omega
  have b2 : IntKind.i64.wrap ((6 : Int) + (k : Int)) = (6 : Int) + (k : Int) := by rw [IntKind.wrap_i64]; omega
  have b3 : (2 : Int) ≤ (2 : Int) + (k : Int) := by omega
  have b4 : (2 : Int) + (k : Int) ≤ (14 : Int) + (k : Int) := by omega
  have b5 : (6 : Int) + (k : Int) ≤ (14 : Int) + (k : Int) := by omega
  have b6 : (0 : Int) ≤ (2 : Int) + (k : Int) := by omega
  have b7 : (0 : Int) ≤ (6 : Int) + (k : Int) := by omega
  have b8 : ((2 : Int) + (k : Int)).toNat = 2 + k := by omega
  have b9 : ((6 : Int) + (k : Int)).toNat = 6 + k := by omega
  have b10 : ((14 : Int) + (k : Int)).toNat = 14 + k := by omega
  have b11 : (2 : Int) ≤ (14 : Int) + (k : Int) := by omega
  have b12 : (0 : Int) ≤ (k : Int) := by omega
  go_upto_region 13 with fail
  go_cut [7] (fun s7 wx => Got3 w2 (s.extract 2 (2 + k)) n1 n2 s7 wx)
  case first =>
    go_region_held3 (fun w' => Below w2.heap.size w2 w')
      (repeat (first | (with_reducible exact hL5) | (with_reducible exact hL4) | (with_reducible exact Below.refl _ _) | (with_reducible refine Below.al2 ?_) | (with_reducible refine Below.drew ?_) | ((with_reducible refine Below.setCell ?_ ?_ _); rotate_left; · (first | omega | (simp; done) | (simp; omega)))))
      (first
        | (go_at_call 169; (with_reducible refine (HN1.out _).mono ?_); rintro e' w4 ⟨rfl, hb4⟩; have hz4 := hb4.size; (try simp at hz4); obtain ⟨hc4, hf4⟩ := bcell hb4; (try simp only [World.size_alloc, World.heap_drew] at hc4); (try simp only [World.size_alloc, World.heap_drew] at hf4); (try (have hy4 := Nat.lt_of_succ_le hz4)); (try (have hx4 := Nat.lt_of_succ_lt hy4)); have hL4 : Below w2.heap.size w2 w4 := Below.thru2 (by repeat (first | (with_reducible exact Below.refl _ _) | (with_reducible refine Below.al2 ?_) | (with_reducible refine Below.drew ?_))) hb4)
        | (go_at_call 169; (with_reducible refine (HN2.out _).mono ?_); rintro e' w5 ⟨rfl, hb5⟩; have hz5 := hb5.size; (try simp at hz5); obtain ⟨hc5, hf5⟩ := bcell hb5; (try simp only [World.size_alloc, World.heap_drew] at hc5); (try simp only [World.size_alloc, World.heap_drew] at hf5); (try (have hy5 := Nat.lt_of_succ_le hz5)); (try (have hx5 := Nat.lt_of_succ_lt hy5)); (try (have hv1 := Nat.lt_of_lt_of_le hy4 hz5)); (try (have hv2 := Nat.lt_of_lt_of_le hx4 hz5)); (try (have hv3 := Nat.lt_trans hy4 hy5)); (try (have hv4 := Nat.lt_trans hx4 hy5)); have hL5 : Below w2.heap.size w2 w5 := Below.thru2 (by repeat (first | (with_reducible exact hL4) | (with_reducible exact Below.refl _ _) | (with_reducible refine Below.al2 ?_) | (with_reducible refine Below.drew ?_))) hb5))
    all_goals
      rename_i hheld
      have hbel := hheld
      clear hheld HN1 HN2
      go_wp2_with fail
      go_meet
      first
        | ((with_reducible refine got3_new hbel ?_); first | exact hL5.size | exact hL4.size | exact Nat.le_refl _)
        | ((with_reducible refine got3_set hbel ?_ ?_); · first | exact hL4.size | exact Nat.le_refl _
           first | exact ⟨_, _, _, (Blk.new _ _ _).below hb5 (by (first | omega | (simp; done) | (simp; omega)))⟩ | exact ⟨_, _, _, (Blk.new _ _ _).drew.below hb5 (by (first | omega | (simp; done) | (simp; omega)))⟩ | exact ⟨_, _, _, ((Blk.new _ _ _).below hb4 (by (first | omega | (simp; done) | (simp; omega)))).below hb5 (by (first | omega | (simp; done) | (simp; omega)))⟩ | exact ⟨_, _, _, ((Blk.new _ _ _).drew.below hb4 (by (first | omega | (simp; done) | (simp; omega)))).below hb5 (by (first | omega | (simp; done) | (simp; omega)))⟩)
  case rest =>
    obtain ⟨g, rfl, hg, hbel, hgb⟩ := hcut
    have E3 := Lib.hid (E2.out.below hbel)
    have d0 := hgb.cell 0
    have d1 := hgb.cell 1
    have d2 := hgb.cell 2
    have dl := hgb.lt
    simp at d0 d1 d2
    clear hbel HN1 HN2
    go_wp2_with fail
    refine (bcheck_any (s.extract 2 (2 + k)) (by rw [ByteArray.size_extract]; unfold maxLen; omega) n1 n2 _).mono ?_
    rw [HB.out]
    rintro e' w6 ⟨rfl, hb6⟩
    have E4 := Lib.hid (E3.out.below hb6)
    have HG := Lib.hid (hgb.below hb6 dl)
    clear hgb hb6 E3 E2 d0 d1 d2
    have d0 := HG.out.cell 0
    have d1 := HG.out.cell 1
    have d2 := HG.out.cell 2
    have dl := HG.out.lt
    simp at d0 d1 d2
    have r0 := E4.out.hd.cell 0
    have r1 := E4.out.hd.cell 1
    have r2 := E4.out.hd.cell 2
    have f0 := E4.out.hd.frozen 0
    have f1 := E4.out.hd.frozen 1
    have f2 := E4.out.hd.frozen 2
    have p0 := E4.out.hd.lt
    simp at r0 r1 r2 p0
    go_wp2
    have EF := Lib.hid (dec_ret E4.out rfl ⟨#[]⟩ 0 0)
    generalize ((w6.setCell ⟨w.heap.size, 0, none⟩ (.string ⟨#[]⟩)).setCell ⟨w.heap.size, 1, none⟩ (.int .i64 0)).setCell ⟨w.heap.size, 2, none⟩ (.int .i64 0) = WF at EF ⊢
    have s0 := EF.out.hd.cell 0
    have s1 := EF.out.hd.cell 1
    have s2 := EF.out.hd.cell 2
    simp at s0 s1 s2
    refine bodyPost_ret (v := .tuple #[.agg #[.string ⟨#[]⟩, .int .i64 0, .int .i64 0], .int .i64 3]) (by simp [results, Tryz.results142, go_sem, s0, s1, s2]) rfl ⟨rfl, EF.out.bel⟩

set_option maxHeartbeats 4000000 in
set_option maxRecDepth 100000 in
theorem dec_good (s : ByteArray) (k : Nat) (h1 : 1 < s.size) (hH : (s[0]).toNat = 72) (hk : (s[1]).toNat = k) (hk1 : 1 ≤ k) (hk8 : k ≤ 8) (hsz : s.size = 14 + k) (hsum : crcV (s.extract 0 (10 + k)) = num4 s (10 + k)) (hb : beatE (s.extract 2 (2 + k)) (num4 s (2 + k)) (num4 s (6 + k)) = 0) (w : World) :
    Calls Tryz.prog 142 #[.string s] w (DecIs (s.extract 2 (2 + k)) (num4 s (2 + k)) (num4 s (6 + k)) 0 w) := by
  have HC := Lib.hid (fun w => crcof_any (s.extract 0 (10 + k)) (by rw [ByteArray.size_extract]; omega) w)
  have num : ∀ a, a + 4 ≤ s.size → ∀ w, Calls Tryz.prog 169 #[.string (s.extract a (14 + k))] w fun e w' => e = .returned (.int .i64 (num4 s a)) ∧ Below w.heap.size w w' := fun a ha w => by
    have := number_any (s.extract a (14 + k)) (by rw [ByteArray.size_extract]; omega) w
    rw [num4_extract s a (14 + k) 0 (by omega) (by omega), Nat.add_zero] at this
    exact this
  have HN := Lib.hid (num (10 + k) (by omega))
  have HN1 := Lib.hid (num (2 + k) (by omega))
  have HN2 := Lib.hid (num (6 + k) (by omega))
  clear num
  have HB := Lib.hid hb
  clear hb
  rw [← hsum] at HN
  generalize crcV (s.extract 0 (10 + k)) = cv at *
  generalize num4 s (2 + k) = n1 at *
  generalize num4 s (6 + k) = n2 at *
  have hi0 : ((s[0]).toNat : Int) = 72 := by omega
  have hi1 : ((s[1]).toNat : Int) = (k : Int) := by omega
  have hszi : (s.size : Int) = 14 + k := by omega
  have E := Lib.hid ((Env.start w).lay #[.string ⟨#[]⟩, .int .i64 0, .int .i64 0] 173)
  clear hH hk hsum
  go_enter Tryz.func142, Tryz.ntmps142
  go_wp2_with fail
  refine (HC.out _).mono ?_
  rintro e' w1 ⟨rfl, hb1⟩
  have E1 := Lib.hid (E.out.below hb1)
  clear hb1
  go_wp2_with fail
  refine (HN.out _).mono ?_
  rintro e' w2 ⟨rfl, hb2⟩
  have E2 := Lib.hid (E1.out.below hb2)
  clear hb2 E1 E
  have b1 : IntKind.i64.wrap ((2 : Int) + (k : Int)) = (2 : Int) + (k : Int) := by rw [IntKind.wrap_i64]; omega
  have b2 : IntKind.i64.wrap ((6 : Int) + (k : Int)) = (6 : Int) + (k : Int) := by rw [IntKind.wrap_i64]; omega
  have b3 : (2 : Int) ≤ (2 : Int) + (k : Int) := by omega
  have b4 : (2 : Int) + (k : Int) ≤ (14 : Int) + (k : Int) := by omega
  have b5 : (6 : Int) + (k : Int) ≤ (14 : Int) + (k : Int) := by omega
  have b6 : (0 : Int) ≤ (2 : Int) + (k : Int) := by omega
  have b7 : (0 : Int) ≤ (6 : Int) + (k : Int) := by omega
  have b8 : ((2 : Int) + (k : Int)).toNat = 2 + k := by omega
  have b9 : ((6 : Int) + (k : Int)).toNat = 6 + k := by omega
  have b10 : ((14 : Int) + (k : Int)).toNat = 14 + k := by omega
  have b11 : (2 : Int) ≤ (14 : Int) + (k : Int) := by omega
  have b12 : (0 : Int) ≤ (k : Int) := by omega
  go_upto_region 13 with fail
  go_cut [7] (fun s7 wx => Got3 w2 (s.extract 2 (2 + k)) n1 n2 s7 wx)
  case first =>
    go_region_held3 (fun w' => Below w2.heap.size w2 w')
      (repeat (first | (with_reducible exact hL5) | (with_reducible exact hL4) | (with_reducible exact Below.refl _ _) | (with_reducible refine Below.al2 ?_) | (with_reducible refine Below.drew ?_) | ((with_reducible refine Below.setCell ?_ ?_ _); rotate_left; · (first | omega | (simp; done) | (simp; omega)))))
      (first
        | (go_at_call 169; (with_reducible refine (HN1.out _).mono ?_); rintro e' w4 ⟨rfl, hb4⟩; have hz4 := hb4.size; (try simp at hz4); obtain ⟨hc4, hf4⟩ := bcell hb4; (try simp only [World.size_alloc, World.heap_drew] at hc4); (try simp only [World.size_alloc, World.heap_drew] at hf4); (try (have hy4 := Nat.lt_of_succ_le hz4)); (try (have hx4 := Nat.lt_of_succ_lt hy4)); have hL4 : Below w2.heap.size w2 w4 := Below.thru2 (by repeat (first | (with_reducible exact Below.refl _ _) | (with_reducible refine Below.al2 ?_) | (with_reducible refine Below.drew ?_))) hb4)
        | (go_at_call 169; (with_reducible refine (HN2.out _).mono ?_); rintro e' w5 ⟨rfl, hb5⟩; have hz5 := hb5.size; (try simp at hz5); obtain ⟨hc5, hf5⟩ := bcell hb5; (try simp only [World.size_alloc, World.heap_drew] at hc5); (try simp only [World.size_alloc, World.heap_drew] at hf5); (try (have hy5 := Nat.lt_of_succ_le hz5)); (try (have hx5 := Nat.lt_of_succ_lt hy5)); (try (have hv1 := Nat.lt_of_lt_of_le hy4 hz5)); (try (have hv2 := Nat.lt_of_lt_of_le hx4 hz5)); (try (have hv3 := Nat.lt_trans hy4 hy5)); (try (have hv4 := Nat.lt_trans hx4 hy5)); have hL5 : Below w2.heap.size w2 w5 := Below.thru2 (by repeat (first | (with_reducible exact hL4) | (with_reducible exact Below.refl _ _) | (with_reducible refine Below.al2 ?_) | (with_reducible refine Below.drew ?_))) hb5))
    all_goals
      rename_i hheld
      have hbel := hheld
      clear hheld HN1 HN2
      go_wp2_with fail
      go_meet
      first
        | ((with_reducible refine got3_new hbel ?_); first | exact hL5.size | exact hL4.size | exact Nat.le_refl _)
        | ((with_reducible refine got3_set hbel ?_ ?_); · first | exact hL4.size | exact Nat.le_refl _
           first | exact ⟨_, _, _, (Blk.new _ _ _).below hb5 (by (first | omega | (simp; done) | (simp; omega)))⟩ | exact ⟨_, _, _, (Blk.new _ _ _).drew.below hb5 (by (first | omega | (simp; done) | (simp; omega)))⟩ | exact ⟨_, _, _, ((Blk.new _ _ _).below hb4 (by (first | omega | (simp; done) | (simp; omega)))).below hb5 (by (first | omega | (simp; done) | (simp; omega)))⟩ | exact ⟨_, _, _, ((Blk.new _ _ _).drew.below hb4 (by (first | omega | (simp; done) | (simp; omega)))).below hb5 (by (first | omega | (simp; done) | (simp; omega)))⟩)
  case rest =>
    obtain ⟨g, rfl, hg, hbel, hgb⟩ := hcut
    have E3 := Lib.hid (E2.out.below hbel)
    have d0 := hgb.cell 0
    have d1 := hgb.cell 1
    have d2 := hgb.cell 2
    have dl := hgb.lt
    simp at d0 d1 d2
    clear hbel HN1 HN2
    go_wp2_with fail
    refine (bcheck_any (s.extract 2 (2 + k)) (by rw [ByteArray.size_extract]; unfold maxLen; omega) n1 n2 _).mono ?_
    rw [HB.out]
    rintro e' w6 ⟨rfl, hb6⟩
    have E4 := Lib.hid (E3.out.below hb6)
    have HG := Lib.hid (hgb.below hb6 dl)
    clear hgb hb6 E3 E2 d0 d1 d2
    have d0 := HG.out.cell 0
    have d1 := HG.out.cell 1
    have d2 := HG.out.cell 2
    have dl := HG.out.lt
    simp at d0 d1 d2
    have r0 := E4.out.hd.cell 0
    have r1 := E4.out.hd.cell 1
    have r2 := E4.out.hd.cell 2
    have f0 := E4.out.hd.frozen 0
    have f1 := E4.out.hd.frozen 1
    have f2 := E4.out.hd.frozen 2
    have p0 := E4.out.hd.lt
    simp at r0 r1 r2 p0
    go_wp2
    have EF := Lib.hid (dec_ret E4.out rfl (s.extract 2 (2 + k)) n1 n2)
    generalize ((w6.setCell ⟨w.heap.size, 0, none⟩ (.string (s.extract 2 (2 + k)))).setCell ⟨w.heap.size, 1, none⟩ (.int .i64 n1)).setCell ⟨w.heap.size, 2, none⟩ (.int .i64 n2) = WF at EF ⊢
    have s0 := EF.out.hd.cell 0
    have s1 := EF.out.hd.cell 1
    have s2 := EF.out.hd.cell 2
    simp at s0 s1 s2
    refine bodyPost_ret (v := .tuple #[.agg #[.string (s.extract 2 (2 + k)), .int .i64 n1, .int .i64 n2], .int .i64 0]) (by simp [results, Tryz.results142, go_sem, s0, s1, s2]) rfl ⟨rfl, EF.out.bel⟩

end Go.Proofs.YthimchhnhhchkaaGreatDoor

namespace Go.Proofs.YthimchhnhhchkaaGreatDoor
open Go.RowKit Go.Lib
set_option linter.unusedSimpArgs false
set_option linter.unusedVariables false

theorem u8_nat (a : UInt8) : u8 (a.toNat : Int) = a := by simp [u8]
theorem b4_val (a b c d : UInt8) : b4 (valL [a, b, c, d]) = [a, b, c, d] := by
  have ha := UInt8.toNat_lt a
  have hb := UInt8.toNat_lt b
  have hc := UInt8.toNat_lt c
  have hd := UInt8.toNat_lt d
  have e : valL [a, b, c, d] = 256 * (256 * (256 * (a.toNat : Int) + b.toNat) + c.toNat) + d.toNat := by simp [valL]
  unfold b4
  rw [show valL [a, b, c, d] / 16777216 = (a.toNat : Int) by omega, show valL [a, b, c, d] / 65536 % 256 = (b.toNat : Int) by omega,
    show valL [a, b, c, d] / 256 % 256 = (c.toNat : Int) by omega, show valL [a, b, c, d] % 256 = (d.toNat : Int) by omega, u8_nat, u8_nat, u8_nat, u8_nat]
theorem num4_bd (s : ByteArray) (i : Nat) : 0 ≤ num4 s i ∧ num4 s i < 4294967296 := by
  have := valL_bd [byteAt s i, byteAt s (i + 1), byteAt s (i + 2), byteAt s (i + 3)] (by simp)
  simpa [num4] using this
theorem four_bytes (s : ByteArray) (h : s.size = 4) : ∃ a b c d : UInt8, s = ⟨#[a, b, c, d]⟩ := by
  obtain ⟨⟨l⟩⟩ := s
  have h : l.length = 4 := h
  match l, h with
  | [a, b, c, d], _ => exact ⟨a, b, c, d, rfl⟩
theorem one_byte (s : ByteArray) (h : s.size = 1) : ∃ a : UInt8, s = ⟨#[a]⟩ := by
  obtain ⟨⟨l⟩⟩ := s
  have h : l.length = 1 := h
  match l, h with
  | [a], _ => exact ⟨a, rfl⟩
theorem ext4 (s : ByteArray) (i : Nat) (h : i + 4 ≤ s.size) : s.extract i (i + 4) = four8 (num4 s i) := by
  obtain ⟨a, b, c, d, e⟩ := four_bytes (s.extract i (i + 4)) (by rw [ByteArray.size_extract]; omega)
  have h0 := byteAt_extract s i (i + 4) 0 h (by omega)
  have h1 := byteAt_extract s i (i + 4) 1 h (by omega)
  have h2 := byteAt_extract s i (i + 4) 2 h (by omega)
  have h3 := byteAt_extract s i (i + 4) 3 h (by omega)
  rw [e] at h0 h1 h2 h3
  unfold num4 four8
  rw [Nat.add_zero] at h0
  rw [← h0, ← h1, ← h2, ← h3, e]
  show (⟨#[a, b, c, d]⟩ : ByteArray) = ⟨(b4 (valL [a, b, c, d])).toArray⟩
  rw [b4_val]
theorem ext1 (s : ByteArray) (i : Nat) (h : i < s.size) : s.extract i (i + 1) = ⟨#[s[i]]⟩ := by
  obtain ⟨a, e⟩ := one_byte (s.extract i (i + 1)) (by rw [ByteArray.size_extract]; omega)
  have h0 := byteAt_extract s i (i + 1) 0 (by omega) (by omega)
  rw [e, Nat.add_zero, ← byteAt_is s i h] at h0
  rw [e, ← h0]
  rfl
theorem enc_is (s : ByteArray) (k : Nat) (h1 : 1 < s.size) (hH : (s[0]).toNat = 72) (hk : (s[1]).toNat = k) (hsz : s.size = 14 + k) :
    encS (s.extract 2 (2 + k)) (num4 s (2 + k)) (num4 s (6 + k)) = s.extract 0 (10 + k) := by
  have e0 : chH = s.extract 0 1 := by
    rw [ext1 s 0 (by omega)]
    have : s[0] = 72 := by apply UInt8.toNat_inj.1; rw [hH]; rfl
    rw [this]; rfl
  have e1 : one8 ((s.extract 2 (2 + k)).size : Int) = s.extract 1 2 := by
    rw [ext1 s 1 h1, ByteArray.size_extract, show min (2 + k) s.size - 2 = k by omega, ← hk]
    unfold one8
    rw [u8_nat]
  have e2 := ext4 s (2 + k) (by omega)
  have e3 := ext4 s (6 + k) (by omega)
  unfold encS
  rw [e0, e1, ← e2, ← e3, show 2 + k + 4 = 6 + k by omega, show 6 + k + 4 = 10 + k by omega,
    ← ByteArray.extract_eq_extract_append_extract (i := 0) (k := 2) 1 (by omega) (by omega),
    ← ByteArray.extract_eq_extract_append_extract (i := 0) (k := 2 + k) 2 (by omega) (by omega),
    ← ByteArray.extract_eq_extract_append_extract (i := 0) (k := 6 + k) (2 + k) (by omega) (by omega),
    ← ByteArray.extract_eq_extract_append_extract (i := 0) (k := 10 + k) (6 + k) (by omega) (by omega)]
theorem code_is (s : ByteArray) (k : Nat) (h1 : 1 < s.size) (hH : (s[0]).toNat = 72) (hk : (s[1]).toNat = k) (hsz : s.size = 14 + k) (hsum : crcV (s.extract 0 (10 + k)) = num4 s (10 + k)) :
    codeS (s.extract 2 (2 + k)) (num4 s (2 + k)) (num4 s (6 + k)) = s := by
  unfold codeS
  rw [enc_is s k h1 hH hk hsz, hsum, ← ext4 s (10 + k) (by omega), show 10 + k + 4 = 14 + k by omega,
    ← ByteArray.extract_eq_extract_append_extract (i := 0) (k := 14 + k) (10 + k) (by omega) (by omega), ← hsz, ByteArray.extract_zero_size]
end Go.Proofs.YthimchhnhhchkaaGreatDoor

namespace Go.Proofs.YthimchhnhhchkaaGreatDoor
open Go.RowKit Go.Lib
set_option linter.unusedSimpArgs false
set_option linter.unusedVariables false

def conv8 (x : Operand) : Op := Op.convert 41 9 x
theorem conv8_veil (x : Operand) : Op.convert 41 9 x = conv8 x := rfl
@[go_sem] theorem conv8_open (x : Operand) : conv8 x = Op.convert 41 9 x := rfl

set_option maxRecDepth 100000 in
set_option maxHeartbeats 2000000 in
theorem plain_ok (s : ByteArray) (hs : s.size ≤ 8) (inc seq : Int) (i0 : 0 ≤ inc) (i1 : inc ≤ 2147483647) (q0 : 0 ≤ seq) (q1 : seq ≤ 2147483647) (w : World) :
    Calls Tryz.prog 166 #[.agg #[.string s, .int .i64 inc, .int .i64 seq]] w fun e w' => e = .returned (.string (encS s inc seq)) ∧ Below w.heap.size w w' := by
  have HF1 := Lib.hid (fun w => four_any inc i0 (by omega) w)
  have HF2 := Lib.hid (fun w => four_any seq q0 (by omega) w)
  have hA1 := sadd_ok (P := Tryz.prog) chH (one8 s.size) (by rw [chH_size, one8_size]; omega)
  have hA2 := sadd_ok (P := Tryz.prog) (chH ++ one8 s.size) s (by simp only [ByteArray.size_append, one8_size, chH_size]; omega)
  have hA3 := sadd_ok (P := Tryz.prog) ((chH ++ one8 s.size) ++ s) (four8 inc) (by simp only [ByteArray.size_append, four8_size, one8_size, chH_size]; omega)
  have hA4 := sadd_ok (P := Tryz.prog) (((chH ++ one8 s.size) ++ s) ++ four8 inc) (four8 seq) (by simp only [ByteArray.size_append, four8_size, one8_size, chH_size]; omega)
  have HR := Lib.hid (show encS s inc seq = (((chH ++ one8 s.size) ++ s) ++ four8 inc) ++ four8 seq from rfl)
  have HF1 := Lib.hid (show ∀ w, Calls Tryz.prog 168 #[.int .i64 inc] w fun e w' => e = .returned (.string (four8 inc)) ∧ Below w.heap.size w w' from HF1.out)
  have HF2 := Lib.hid (show ∀ w, Calls Tryz.prog 168 #[.int .i64 seq] w fun e w' => e = .returned (.string (four8 seq)) ∧ Below w.heap.size w w' from HF2.out)
  have hcv : ∀ (X : World), (convert 41 9 (.slice (some ⟨X.heap.size, 0, none⟩) 1 1)).run Tryz.prog (X.alloc (.cells #[.int .u8 (s.size : Int)] 5)) = .ok (.string (one8 s.size)) (X.alloc (.cells #[.int .u8 (s.size : Int)] 5)) :=
    fun X => conv_bytes [(s.size : Int)] (Blk.new X 5 _) 1 1 rfl
  have hcd : ∀ (X : World), (convert 41 9 (.slice (some ⟨X.heap.size, 0, none⟩) 1 1)).run Tryz.prog (X.alloc (.cells #[.int .u8 (s.size : Int)] 5)).drew = .ok (.string (one8 s.size)) (X.alloc (.cells #[.int .u8 (s.size : Int)] 5)).drew :=
    fun X => conv_bytes [(s.size : Int)] (Blk.new X 5 _).drew 1 1 rfl
  have hcx : ∀ (X : World), (convert 41 9 (.slice (some ⟨X.heap.size, 0, none⟩) 1 1)).run Tryz.prog (X.drew.alloc (.cells #[.int .u8 (s.size : Int)] 5)) = .ok (.string (one8 s.size)) (X.drew.alloc (.cells #[.int .u8 (s.size : Int)] 5)) :=
    fun X => conv_bytes [(s.size : Int)] (Blk.new X.drew 5 _) 1 1 rfl
  have hcy : ∀ (X : World), (convert 41 9 (.slice (some ⟨X.heap.size, 0, none⟩) 1 1)).run Tryz.prog (X.drew.alloc (.cells #[.int .u8 (s.size : Int)] 5)).drew = .ok (.string (one8 s.size)) (X.drew.alloc (.cells #[.int .u8 (s.size : Int)] 5)).drew :=
    fun X => conv_bytes [(s.size : Int)] (Blk.new X.drew 5 _).drew 1 1 rfl
  have hch : (⟨#[72]⟩ : ByteArray) = chH := rfl
  have HCB := Lib.hid (show ∀ (W : World) (g : Nat), Blk W g 5 #[.int .u8 (s.size : Int)] → (convert 41 9 (.slice (some ⟨g, 0, none⟩) 1 1)).run Tryz.prog W = .ok (.string (one8 s.size)) W from fun W g h => conv_bytes [(s.size : Int)] h 1 1 rfl)
  have hu8 : IntKind.u8.wrap (s.size : Int) = (s.size : Int) := by rw [IntKind.wrap_u8]; omega
  have E := Lib.hid ((Env.start w).lay #[.string s, .int .i64 inc, .int .i64 seq] 173)
  generalize four8 inc = B1 at *
  generalize four8 seq = B2 at *
  generalize one8 s.size = C1 at *
  generalize chH ++ C1 = X1 at *
  generalize X1 ++ s = X2 at *
  generalize X2 ++ B1 = X3 at *
  generalize X3 ++ B2 = X4 at *
  go_enter Tryz.func166, Tryz.ntmps166
  go_upto_region 1 with fail
  generalize hW0 : World.alloc w _ = W0 at *
  clear hW0
  have p0 := E.out.hd.lt
  have x0 := E.out.hd.cell 0
  have x1 := E.out.hd.cell 1
  have x2 := E.out.hd.cell 2
  simp at x0 x1 x2
  have HS := Lib.hid (show ∀ w', Below W0.heap.size W0 w' → (Below W0.heap.size W0 w' ∧ w'.cell? ⟨w.heap.size, 0, none⟩ = some (.string s) ∧ w'.cell? ⟨w.heap.size, 1, none⟩ = some (.int .i64 inc) ∧ w'.cell? ⟨w.heap.size, 2, none⟩ = some (.int .i64 seq))
    from fun w' h => ⟨h, (E.out.below h).hd.cell 0, (E.out.below h).hd.cell 1, (E.out.below h).hd.cell 2⟩)
  have tok1 : True := trivial
  simp only [conv8_veil]
  go_region_held3 (fun w' => Below W0.heap.size W0 w' ∧ w'.cell? ⟨w.heap.size, 0, none⟩ = some (.string s) ∧ w'.cell? ⟨w.heap.size, 1, none⟩ = some (.int .i64 inc) ∧ w'.cell? ⟨w.heap.size, 2, none⟩ = some (.int .i64 seq))
    ((refine HS.out _ ?_; repeat (first | (with_reducible exact hL2) | (with_reducible exact hL1) | (with_reducible exact Below.refl _ _) | (with_reducible refine Below.al2 ?_) | (with_reducible refine Below.drew ?_))))
    (first
      | (go_at_call 168; have _t := tok1; (with_reducible refine (HF1.out _).mono ?_); rintro e' w1 ⟨rfl, hb1⟩; (try (have hc1 := HCB.out w1 _ ((Blk.new _ 5 _).below hb1 (by simp)))); (try (have hc1 := HCB.out w1 _ ((Blk.new _ 5 _).drew.below hb1 (by simp)))); have hL1 : Below W0.heap.size W0 w1 := Below.thru2 (by repeat (first | (with_reducible exact Below.refl _ _) | (with_reducible refine Below.drew ?_) | (with_reducible refine Below.al2 ?_))) hb1; clear tok1 _t)
      | (go_at_call 168; (with_reducible refine (HF2.out _).mono ?_); rintro e' w2 ⟨rfl, hb2⟩; (try (have hc2 := HCB.out w2 _ ((Blk.new _ 5 _).below hb2 (by simp)))); (try (have hc2 := HCB.out w2 _ (((Blk.new _ 5 _).below hb1 (by simp)).below hb2 (by have := hb1.size; simp at this ⊢; omega)))); (try (have hc2 := HCB.out w2 _ (((Blk.new _ 5 _).drew.below hb1 (by simp)).below hb2 (by have := hb1.size; simp at this ⊢; omega)))); have hL2 : Below W0.heap.size W0 w2 := Below.thru2 (by repeat (first | (with_reducible exact hL1) | (with_reducible exact Below.refl _ _) | (with_reducible refine Below.drew ?_) | (with_reducible refine Below.al2 ?_))) hb2))
  all_goals
    rename_i hheld
    have E1 := Lib.hid (E.out.below hheld.1)
    clear hheld
    go_wp2
    refine bodyPost_ret (v := .string (encS s inc seq)) (by rw [HR.out]; simp [results, Tryz.results166, go_sem]) rfl ⟨rfl, E1.out.bel⟩
end Go.Proofs.YthimchhnhhchkaaGreatDoor

namespace Go.Proofs.YthimchhnhhchkaaGreatDoor
open Go.RowKit Go.Lib
set_option linter.unusedSimpArgs false
set_option linter.unusedVariables false

theorem beatE_zero {s : ByteArray} {inc seq : Int} (h : beatE s inc seq = 0) : s.size ≤ 8 ∧ 0 ≤ inc ∧ inc ≤ 2147483647 ∧ 1 ≤ seq ∧ seq ≤ 2147483647 := by
  unfold beatE at h
  split at h
  · rename_i hi
    unfold idB at hi
    simp only [Bool.and_eq_true] at hi
    have := wi_true.1 hi.1
    split at h
    · exact ⟨by omega, by assumption⟩
    · simp at h
  · simp at h

set_option maxRecDepth 100000 in
set_option maxHeartbeats 1000000 in
theorem enc_err (s : ByteArray) (hs : s.size ≤ maxLen) (inc seq e : Int) (he : beatE s inc seq = e) (hz : e ≠ 0) (w : World) :
    Calls Tryz.prog 140 #[.agg #[.string s, .int .i64 inc, .int .i64 seq]] w fun x w' => x = .returned (.tuple #[.string ⟨#[]⟩, .int .i64 e]) ∧ Below w.heap.size w w' := by
  have HE := Lib.hid he
  have HS := Lib.hid hs
  have E := Lib.hid ((Env.start w).lay #[.string s, .int .i64 inc, .int .i64 seq] 173)
  clear he hs
  go_enter Tryz.func140, Tryz.ntmps140
  go_wp2_with fail
  refine (bcheck_any s HS.out inc seq _).mono ?_
  rw [HE.out]
  rintro e' w1 ⟨rfl, hb1⟩
  have E1 := Lib.hid (E.out.below hb1)
  clear hb1
  go_wp2
  refine bodyPost_ret (v := .tuple #[.string ⟨#[]⟩, .int .i64 e]) (by simp [results, Tryz.results140, go_sem]) rfl ⟨rfl, E1.out.bel⟩

set_option maxRecDepth 100000 in
set_option maxHeartbeats 1000000 in
theorem enc_ok (s : ByteArray) (inc seq : Int) (he : beatE s inc seq = 0) (w : World) :
    Calls Tryz.prog 140 #[.agg #[.string s, .int .i64 inc, .int .i64 seq]] w fun x w' => x = .returned (.tuple #[.string (codeS s inc seq), .int .i64 0]) ∧ Below w.heap.size w w' := by
  obtain ⟨h8, i0, i1, q0, q1⟩ := beatE_zero he
  have HE := Lib.hid he
  have hA := sadd_ok (P := Tryz.prog) (encS s inc seq) (four8 (crcV (encS s inc seq))) (by rw [encS_size, four8_size]; omega)
  have HCR := Lib.hid (show ∀ w, Calls Tryz.prog 167 #[.string (encS s inc seq)] w fun e w' => e = .returned (.tuple #[.int .i64 (crcV (encS s inc seq)), .int .i64 0]) ∧ Below w.heap.size w w' from fun w => cof_ok (encS s inc seq) (by rw [encS_size]; omega) w)
  have HF := Lib.hid (show ∀ w, Calls Tryz.prog 168 #[.int .i64 (crcV (encS s inc seq))] w fun e w' => e = .returned (.string (four8 (crcV (encS s inc seq)))) ∧ Below w.heap.size w w' from fun w => by
    obtain ⟨c0, c1⟩ := crcV_bd (encS s inc seq)
    exact four_any _ c0 c1 w)
  have HP := Lib.hid (fun w => plain_ok s h8 inc seq i0 i1 (by omega) q1 w)
  have HR := Lib.hid (show codeS s inc seq = encS s inc seq ++ four8 (crcV (encS s inc seq)) from rfl)
  have E := Lib.hid ((Env.start w).lay #[.string s, .int .i64 inc, .int .i64 seq] 173)
  generalize four8 (crcV (encS s inc seq)) = B3 at *
  generalize crcV (encS s inc seq) = cv at *
  generalize encS s inc seq = X4 at *
  clear he
  go_enter Tryz.func140, Tryz.ntmps140
  go_wp2_with fail
  refine (bcheck_any s (by unfold maxLen; omega) inc seq _).mono ?_
  rw [HE.out]
  rintro e' w1 ⟨rfl, hb1⟩
  have E1 := Lib.hid (E.out.below hb1)
  clear hb1
  have a0 := E1.out.hd.cell 0
  have a1 := E1.out.hd.cell 1
  have a2 := E1.out.hd.cell 2
  have p0 := E1.out.hd.lt
  simp at a0 a1 a2 p0
  go_wp2_with fail
  refine (HP.out _).mono ?_
  rintro e' w2 ⟨rfl, hb2⟩
  have E2 := Lib.hid (E1.out.below hb2)
  clear hb2
  go_wp2_with fail
  refine (HCR.out _).mono ?_
  rintro e' w3 ⟨rfl, hb3⟩
  have E3 := Lib.hid (E2.out.below hb3)
  clear hb3
  go_wp2_with fail
  refine (HF.out _).mono ?_
  rintro e' w4 ⟨rfl, hb4⟩
  have E4 := Lib.hid (E3.out.below hb4)
  clear hb4
  go_wp2
  refine bodyPost_ret (v := .tuple #[.string (codeS s inc seq), .int .i64 0]) (by rw [HR.out]; simp [results, Tryz.results140, go_sem]) rfl ⟨rfl, E4.out.bel⟩
end Go.Proofs.YthimchhnhhchkaaGreatDoor

namespace Go.Proofs.YthimchhnhhchkaaGreatDoor
open Go.RowKit Go.Lib
set_option linter.unusedSimpArgs false
set_option linter.unusedVariables false




















































































































































































































































































































































































end Go.Proofs.YthimchhnhhchkaaGreatDoor
