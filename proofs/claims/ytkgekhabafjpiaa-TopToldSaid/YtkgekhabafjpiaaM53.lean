/- TopTold, plainly: when the sub is told. (with what it needs) -/
import Derived.Test.YtkgekhabafjpiaaM52
import Derived.Test.YtkgekhabafjpiaaM29
import Derived.Test.YtkgekhabafjpiaaM05
import Derived.Test.YtkgekhabafjpiaaM41
import Derived.BigQuiet
import Derived.Deep.QuietTactic
namespace Go.Proofs.Ytkgekhabafjpiaa
open Go.RowKit Go.Lib
set_option linter.unusedSimpArgs false
set_option linter.unusedVariables false

def fOf (d : PeerD) : Int → Nat := Lv.lvF (lvV d.2.2.2.1.length (s1 d.2.2.2.1) (s2 d.2.2.2.1) 2).toNat d.2.2.2.1.length (s1 d.2.2.2.1)
theorem plv_f (now : Int) (d : PeerD) : plv 2 now d = ((fOf d (now - d.2.2.2.2) : Nat) : Int) := rfl
theorem fOf_mono (d : PeerD) : ∀ s t, s ≤ t → fOf d s ≤ fOf d t := fun s t h => Lv.lvF_mono _ _ (by omega) h
/-- within 100000 ticks any level up to 12 is reached -/
theorem fOf_high {d : PeerD} (hn : 1 ≤ d.2.2.2.1.length) (h5 : d.2.2.2.1.length ≤ 5) (hv : ∀ x ∈ d.2.2.2.1, 0 ≤ x ∧ x ≤ 60) (hs : sumsE d.2.2.2.1.length (s1 d.2.2.2.1) (s2 d.2.2.2.1) = 0) : 12 ≤ fOf d 100000 := by
  have a1 := s1_nn _ fun x hx => (hv x hx).1
  have a2 := s1_le 60 _ fun x hx => (hv x hx).2
  have a3 := s2_le 60 _ hv
  obtain ⟨g1, g2, g3, g4, g5, g6, g7, g8, g9, -⟩ := lv_bd hs (by omega) (show (1 : Int) ≤ 2 by decide) (by decide)
  unfold fOf
  generalize hS : s1 d.2.2.2.1 = S at *
  generalize hQ : s2 d.2.2.2.1 = Q at *
  generalize d.2.2.2.1.length = n at *
  have hq0 : 0 ≤ S * S := Int.mul_nonneg a1 a1
  have hvb : lvV n S Q 2 ≤ 90000 ∧ 1 ≤ lvV n S Q 2 := by
    have h4 : n = 1 ∨ n = 2 ∨ n = 3 ∨ n = 4 ∨ n = 5 := by omega
    unfold lvV lvM
    rcases h4 with rfl | rfl | rfl | rfl | rfl <;> (split <;> constructor <;> omega)
  obtain ⟨v, hvv⟩ : ∃ v, (lvV n S Q 2).toNat = v := ⟨_, rfl⟩
  rw [hvv]
  have hv1 : 1 ≤ v := by omega
  have hv2 : v ≤ 90000 := by omega
  unfold Lv.lvF
  rw [Lv.sp_pos v (by omega)]
  obtain ⟨x, hx⟩ : ∃ x, ((n : Int) * 100000 - S).toNat = x := ⟨_, rfl⟩
  rw [hx]
  have hx1 : 99700 ≤ x := by omega
  have hxx : 99700 * 99700 ≤ x * x := Nat.mul_le_mul hx1 hx1
  have hle : 4096 ≤ (v + x * x) / v := by
    rw [Nat.le_div_iff_mul_le (by omega)]
    omega
  rw [Nat.le_log2 (by omega)]
  exact hle
theorem tinv_sums {M th : Int} {i : Nat} {d : PeerD} {s : NSt} (h : TInv M th i d s) : 1 ≤ d.2.2.2.1.length ∧ d.2.2.2.1.length ≤ 5 ∧ listE d.2.2.2.1 = 0 ∧ sumsE d.2.2.2.1.length (s1 d.2.2.2.1) (s2 d.2.2.2.1) = 0 ∧ lookE 5 2 d.2.2.2.1 = 0 := by
  have hm : d ∈ s.D := by rw [h.D]; simp
  have hg := h.good.ps.good d hm
  have hp := h.good.pv d hm
  have hw : winE 5 d.2.2.2.1 = 0 := by have : winE d.2.2.1 d.2.2.2.1 = 0 := hg.2.2.1; rw [h.cap] at this; exact this
  obtain ⟨c0, c1, c2, c3⟩ := winE_zero hw
  refine ⟨hp.1, by omega, c3, sums_ok _ c3, ?_⟩
  have := look_good (least := 2) hg hp.1 (by decide) (by decide)
  rw [h.cap] at this
  exact this
theorem tinv_when {th : Int} {i : Nat} {d : PeerD} {s : NSt} (h : TInv 60 th i d s) (h1 : 1 ≤ th) (h2 : th ≤ 12) : ∃ t, Lv.FirstAt (fOf d) th t ∧ 1 ≤ t ∧ t ≤ 100000 ∧ th ≤ (fOf d 1073741824 : Int) := by
  obtain ⟨a1, a2, a3, a4, a5⟩ := tinv_sums h
  have hh := fOf_high a1 a2 h.vals a4
  obtain ⟨t, ht, htl⟩ := Lv.first_exists (f := fOf d) (q := th) 100000 (by show th ≤ (fOf d 100000 : Int); omega)
  have hmono := fOf_mono d 100000 1073741824 (by decide)
  have h0 : fOf d 0 = 0 := by
    have hv := s1_nn _ fun x hx => (h.vals x hx).1
    unfold fOf Lv.lvF
    exact Lv.sp_zero _ (by simp; omega)
  refine ⟨t, ht, ?_, by simpa using htl, by omega⟩
  rcases Int.lt_or_le t 1 with hlt | hge
  · have ht0 : t = 0 := by have := ht.1; omega
    subst ht0
    have := ht.2.1
    rw [h0] at this
    omega
  · exact hge
/-- one peer, silent for x ticks; a sub whose mark is m -/
structure SInv (th : Int) (d : PeerD) (x : Int) (m : Bool) (s : NSt) : Prop where
  good : NGood s
  c : s.c = cA
  D : s.D = [d]
  id : d.1 = idb
  now : s.now = d.2.2.2.2 + x
  S : s.S = [(idb, th, m)]
theorem TInv.quiet {M th : Int} {i : Nat} {d : PeerD} {s : NSt} (h : TInv M th i d s) : SInv th d 0 false s := ⟨h.good, h.c, h.D, h.id, by rw [h.last]; omega, h.S⟩
/-- a tick of a silent one -/
theorem sinv_tick {th : Int} {d : PeerD} {x g : Int} {m : Bool} {s : NSt} (h : SInv th d x m s) (h1 : 1 ≤ g) (h2 : g ≤ 200000) (h3 : s.now + g ≤ 1000000) :
    s.tickE g = 0 ∧ (s.ticked g).notes = (if decide (th ≤ (fOf d (x + g) : Int)) = m then [] else [(idb, th, decide (th ≤ (fOf d (x + g) : Int)))]) ∧ SInv th d (x + g) (decide (th ≤ (fOf d (x + g) : Int))) (s.ticked g).tell := by
  have hc : cfe s.c = 100000 := by rw [h.c]; rfl
  have he : s.tickE g = 0 := by
    unfold NSt.tickE
    rw [if_neg (by omega), hc, if_neg]
    intro hh
    rcases hh with hh | hh <;> omega
  have hl : (s.ticked g).lv idb = (fOf d (x + g) : Int) := by
    rw [lv_one (s := s.ticked g) h.D h.id]
    show plv (cfl s.c) (s.now + g) d = _
    rw [h.c]
    show plv 2 (s.now + g) d = _
    rw [plv_f, h.now, show d.2.2.2.2 + x + g - d.2.2.2.2 = x + g by omega]
  refine ⟨he, notes1 _ th m h.S _ hl, ⟨(h.good.ticked he).tell, h.c, h.D, h.id, ?_, subs1 _ th m h.S _ hl⟩⟩
  show s.now + g = d.2.2.2.2 + (x + g)
  rw [h.now]; omega
end Go.Proofs.Ytkgekhabafjpiaa

namespace Go.Proofs.Ytkgekhabafjpiaa
open Go.RowKit Go.Lib
set_option linter.unusedSimpArgs false
set_option linter.unusedVariables false

set_option maxHeartbeats 400000 in
set_option maxRecDepth 100000 in
theorem config_any (id : ByteArray) (ev : Int) (w : World) :
    Calls Try.prog 6 #[.string id, .int .i64 ev] w fun e w' => e = .returned (.agg #[.string id, .int .i64 0, .int .i64 ev, .int .i64 5, .int .i64 2]) ∧ Below w.heap.size w w' := by
  have E := Lib.hid ((Env.start w).lay #[.string id, .int .i64 0, .int .i64 ev, .int .i64 5, .int .i64 2] 29)
  go_enter Try.func6, Try.ntmps6
  go_wp2
  exact bodyPost_ret (v := .agg #[.string id, .int .i64 0, .int .i64 ev, .int .i64 5, .int .i64 2]) (by simp [results, Try.results6, go_sem]) rfl ⟨rfl, E.out.bel⟩
theorem new_a (w : World) : Calls Try.prog 5 #[.agg #[.string ⟨#[97]⟩, .int .i64 0, .int .i64 100000, .int .i64 5, .int .i64 2]] w (NewIs cA w) := new_ok cA cA_ok w
/-- level.When of a peer's window -/
theorem when_is {th t : Int} (p : PeerT) (ht : Lv.FirstAt (fOf p.1) th t) (hf : th ≤ (fOf p.1 1073741824 : Int)) (h1 : 1 ≤ th) (h2 : th ≤ 60) (hl : lookE (pcap p) 2 (pvals p) = 0) (B : Nat) (w : World) (hp : PeerOk w B p) (hB : B ≤ w.heap.size) :
    Calls Try.prog 14 #[.agg #[.int .i64 (pcap p), psl p], .int .i64 2, .int .i64 th] w fun e w' => e = .returned (.tuple #[.int .i64 t, .int .i64 0]) ∧ Below w.heap.size w w' := by
  obtain ⟨hwz, hl0, hl1, hn1⟩ := lookE_zero hl
  have hle := (winE_zero hwz).2.2.2
  have hsum : sumsE ((pvals p).length : Int) (s1 (pvals p)) (s2 (pvals p)) = 0 := sums_ok _ hle
  have hn2 : (1 : Int) ≤ ((pvals p).length : Int) := by have : 1 ≤ (pvals p).length := hn1; omega
  have hc := hp.2.1
  have hm := hp.2.2.1
  refine lwhen_ok (pcap p) 2 th p.2.1 p.2.2 B (pvals p).length (pvals p) rfl hl (fOf p.1) (fOf_mono p.1) h1 h2 t ht hf (Nat.le_trans hc hm) w hp.1 hB ?_
  intro s w' h0 h1 hb
  exact lof_ok (pcap p) 2 s p.2.1 p.2.2 B (pvals p).length (pvals p) rfl hl _ _ rfl rfl _ (lvV_nat hsum hn2 (by decide) (by decide)).symm h0 h1 hc hm w' (hp.1.below hb hB) (Nat.le_trans hB hb.size)
end Go.Proofs.Ytkgekhabafjpiaa

namespace Go.Proofs.Ytkgekhabafjpiaa
open Go.RowKit Go.Lib
set_option linter.unusedSimpArgs false
set_option linter.unusedVariables false

theorem quiet_eq0 {P : Program} {f : FuncId} {args : Array Value} {w : World} {n : Nat} {v : Value}
    (h : Calls P f args (w.drewN n) fun e w' => e = .returned v ∧ w.drewN n = w') : Calls P f args (w.drewN n) fun e w'' => e = .returned v ∧ ∃ m, w'' = w.drewN m :=
  h.mono fun _ _ ⟨he, hm⟩ => ⟨he, n, hm.symm⟩
/-- after k gaps -/
def TRel2 (w : World) (b : Nat) (th : Int) (k : Nat) (W : World) : Prop := ∃ d s, TInv 60 th k d s ∧ Own w W b s

set_option maxHeartbeats 2000000 in
set_option maxRecDepth 100000 in
theorem topTold_walk (A : Option Addr) (c : Nat) (l : List Int) (a : Int) (w : World) (hr : Reads w w.heap.size 1 A l.length (cellsI l)) (hl : l.length ≤ c ∧ c ≤ maxLen) (hbd : ∀ x ∈ l, -9223372036854775808 ≤ x ∧ x ≤ 9223372036854775807) (lo : -9223372036854775808 ≤ a) (hi : a ≤ 9223372036854775807) :
    Calls Try.prog 3 #[.slice A l.length c, .int .i64 a] w fun e w' => e = .returned (.bool true) ∧ Below w.heap.size w w' := by
  obtain ⟨n, hn⟩ : ∃ n, l.length = n := ⟨_, rfl⟩
  rw [hn] at hr hl ⊢
  have HN := Lib.hid hn
  have HR := Lib.hid hr
  have HBD := Lib.hid hbd
  obtain ⟨m, hm⟩ : ∃ m, m = Nat.min n 20 := ⟨_, rfl⟩
  have hm1 : m ≤ n := by rw [hm]; exact Nat.min_le_left _ _
  have hm9 : m ≤ 20 := by rw [hm]; exact Nat.min_le_right _ _
  have hmin : min (n : Int) 20 = (m : Int) := by rw [hm]; have : Nat.min n 20 = min n 20 := rfl; rw [this]; omega
  obtain ⟨hnc, hcm⟩ := hl
  unfold maxLen at hcm
  obtain ⟨hw0, hw1⟩ := wthn_bd a (show (1 : Int) ≤ 12 by decide)
  obtain ⟨th, hth⟩ : ∃ th, 1 + wthn a 12 = th := ⟨_, rfl⟩
  have HTH := Lib.hid hth
  have ht1 : 1 ≤ th := by omega
  have ht2 : th ≤ 12 := by omega
  obtain ⟨hs1, hs2, hs3⟩ := tinv_start (M := 60) (th := th) ht1 (by omega) 10 (by decide) (by decide) (by decide)
  have H1 := Lib.hid hs1
  have H2 := Lib.hid hs2
  have H3 := Lib.hid hs3
  have HW := Lib.hid (show wthn a 12 = th - 1 by omega)
  clear hr hbd hn hm hth hs1 hs2 hs3 hw0 hw1
  go_enter Try.func3, Try.ntmps3
  go_wp2_with fail
  refine (begun_true _).mono ?_
  rintro e' w1 ⟨rfl, hb1⟩
  have B1 := Lib.hid hb1
  clear hb1
  go_wp2_with fail
  refine (config_any ⟨#[97]⟩ 100000 _).mono ?_
  rintro e' w2 ⟨rfl, hb2⟩
  have B2 := Lib.hid (B1.out.trans (hb2.mono B1.out.size))
  clear hb2
  go_wp2_with fail
  refine (new_a _).mono ?_
  rintro e' w3 hnew
  obtain ⟨b, rfl, how, -⟩ := Own.new B2.out hnew
  have O3 := Lib.hid how
  clear hnew how
  go_wp2_with fail
  refine (O3.out.watch (NGood.start cA_ok) idb (by decide) 10).mono ?_
  rintro e' w4 ⟨rfl, how⟩
  rw [H1.out]
  have O4 := Lib.hid how
  clear how
  go_wp2_with fail
  refine (kwithin_any a 12 (by decide) (by decide) _).mono ?_
  rintro e' w' ⟨rfl, rfl⟩
  rw [HW.out]
  have hwt : IntKind.i64.wrap (1 + (th - 1)) = th := by rw [IntKind.wrap_i64]; omega
  have hws : 1 + (th - 1) = th := by omega
  go_wp2_with fail
  refine (O4.out.join ((NGood.start cA_ok).watched idb 10) idb th).mono ?_
  rintro e' w5 ⟨A5, c5, rfl, -, how⟩
  rw [H2.out]
  have O5 := Lib.hid how
  clear how hwt hws
  go_wp2_with fail
  go_loopw [59] (fun iv wr => ∃ k : Nat, k ≤ m ∧ iv = .int .i64 (k : Int) ∧ TRel2 w b th k wr) (fun iv _ => m - (RowKit.intOf iv).toNat)
  case atStart => exact ⟨0, by omega, rfl, _, _, H3.out, O5.out⟩
  case round =>
    obtain ⟨k, hk, rfl, d, s, hti, how⟩ := hrel
    obtain ⟨wo, rfl⟩ : ∃ wo, wo = wr := ⟨_, rfl⟩
    have TI := Lib.hid hti
    have OW := Lib.hid how
    clear hti how O5 H3
    by_cases hlt : k < m
    · have hkl : k < l.length := by rw [HN.out]; omega
      obtain ⟨bb, off, rfl, hbb, hcs⟩ := (HR.out.below OW.out.bel (Nat.le_refl _)).addr (by omega)
      have hck := hcs k (.int .i64 (l[k]'hkl)) (by simp [cellsI, hkl])
      obtain ⟨gb0, gb1⟩ := HBD.out _ (List.getElem_mem hkl)
      have hbbo : bb < wo.heap.size := Nat.lt_of_lt_of_le hbb OW.out.bel.size
      generalize l[k]'hkl = x at *
      obtain ⟨hx0, hx1⟩ := wthn_bd x (show (1 : Int) ≤ 60 by decide)
      obtain ⟨g, hg⟩ : ∃ g, 1 + wthn x 60 = g := ⟨_, rfl⟩
      have HXW := Lib.hid (show wthn x 60 = g - 1 by omega)
      have hg1 : 1 ≤ g := by omega
      have hg2 : g ≤ 60 := by omega
      have TE := Lib.hid (tinv_tick TI.out (by decide) (by omega) hg1 (by omega))
      have TS := Lib.hid (sinv_tick TI.out.quiet hg1 (by omega) (by have := TI.out.now; omega))
      have TN := Lib.hid (tinv_next TI.out (by decide) (by decide) (by omega) ht1 hg1 hg2 TS.out.2.2.good TS.out.2.2.c TS.out.2.2.D rfl _ TS.out.2.2.S)
      have HEN := Lib.hid (show ∀ W, Calls Try.prog 11 #[.agg #[.string ⟨#[98]⟩, .int .i64 0, .int .i64 ((k : Int) + 1)]] W fun e w' => e = .returned (.tuple #[.string (codeS idb 0 ((k : Int) + 1)), .int .i64 0]) ∧ Below W.heap.size W w' from fun W => enc_ok idb 0 ((k : Int) + 1) (by unfold beatE; rw [if_pos (by decide), if_pos (by omega)]) W)
      clear hcs hg hx0 hx1
      go_wp2_with fail
      refine (kwithin_any x 60 (by decide) (by decide) _).mono ?_
      rintro e' w' ⟨rfl, rfl⟩
      rw [HXW.out]
      have hgt : IntKind.i64.wrap (1 + (g - 1)) = g := by rw [IntKind.wrap_i64]; omega
      have hgs : 1 + (g - 1) = g := by omega
      go_wp2_with fail
      refine (OW.out.tick TI.out.good g TE.out).mono ?_
      rintro e' w6 ⟨A6, c6, A7, c7, rfl, -, -, how⟩
      have O6 := Lib.hid how
      clear how hgt hgs hck
      go_wp2_with fail
      refine (HEN.out _).mono ?_
      rintro e' w7 ⟨rfl, hb7⟩
      have O7 := Lib.hid (O6.out.below hb7)
      clear hb7
      go_wp2_with fail
      refine (O7.out.hear TS.out.2.2.good (codeS idb 0 ((k : Int) + 1))).mono ?_
      rintro e' w8 ⟨A8, c8, rfl, -, how⟩
      rw [TN.out.1]
      have RL := Lib.hid (show TRel2 w b th (k + 1) w8 from ⟨_, _, TN.out.2.2, how⟩)
      clear how
      go_wp2
      exact ⟨⟨k + 1, by omega, by simp, RL.out⟩, by simp [RowKit.intOf]; omega⟩
    · go_wp2_with fail
      obtain ⟨t, htf, ht0, ht3, hth3⟩ := tinv_when TI.out ht1 ht2
      have HTF := Lib.hid htf
      have HTH3 := Lib.hid hth3
      have HSU := Lib.hid (tinv_sums TI.out)
      clear htf hth3
      refine (OW.out.peers TI.out.good).mono ?_
      rintro e' w6 ⟨A6, c6, l6, rfl, hm6, hp6, hb6⟩
      rw [TI.out.D] at hm6 hp6 ⊢
      obtain ⟨p, rfl⟩ : ∃ p, l6 = [p] := by
        cases l6 with
        | nil => cases hm6
        | cons p t => cases t with
          | nil => exact ⟨p, rfl⟩
          | cons _ _ => simp at hm6
      have hpd : p.1 = d := by simpa using hm6
      subst hpd
      have O6 := Lib.hid (OW.out.below hb6)
      have P6 := Lib.hid hp6
      clear hb6 hm6 hp6
      have hp6 := P6.out
      obtain ⟨pb, off, rfl, hpb, hcs⟩ := hp6.addr (by simp)
      obtain ⟨z0, z1, z2, z3, z4, z5, z6⟩ := hcs 0 (by simp)
      simp only [Nat.zero_mul, Nat.add_zero, List.getElem_cons_zero] at z0 z1 z2 z3 z4 z5 z6
      have hok := P6.out.ok p (by simp)
      have OK := Lib.hid hok
      have hcap : pcap p = 5 := TI.out.cap
      have HWH := Lib.hid (when_is p HTF.out HTH3.out ht1 (by omega) (by rw [hcap]; exact HSU.out.2.2.2.2) w6.heap.size w6 OK.out (Nat.le_refl _))
      have HLA := Lib.hid (show plast p = s.now from TI.out.last)
      have hsn0 := TI.out.good.now0
      have hsn1 : s.now ≤ 1200 := by have := TI.out.now; omega
      clear hcs hp6 hok hcap z0 z1 z2 z3
      simp only [List.length_cons, List.length_nil, Nat.zero_add]
      go_wp2_with fail
      refine HWH.out.mono ?_
      rintro e' w7 ⟨rfl, hb7⟩
      have O7 := Lib.hid (O6.out.below hb7)
      have z6' := (hb7.cell (p := ⟨pb, off + 6, none⟩) hpb).trans z6
      have hpb7 : pb < w7.heap.size := Nat.lt_of_lt_of_le hpb hb7.size
      clear hb7 z4 z5 z6
      by_cases h2 : t < 2
      · go_wp2
        go_ret
        exact ⟨rfl, O7.out.bel⟩
      · have HNW := Lib.hid (fun (W : World) (nq : Nat) (h : W = w7.drewN nq) => Own.now (h ▸ O7.out.drewN nq))
        rw [HLA.out] at z6'
        have hws : IntKind.i64.wrap (s.now - s.now) = 0 := by rw [IntKind.wrap_i64]; omega
        have hss : s.now - s.now = 0 := by omega
        go_wp2_with fail
        go_quiet ((go_at_call 15; exact quiet_eq0 (O7.out.drewN _).now))
        have O8 := Lib.hid (O7.out.drewN nq)
        generalize w7.drewN nq = w8 at *
        have e1 : decide (th ≤ ((fOf p.1 (0 + (t - 1)) : Nat) : Int)) = false := by
          rw [Int.zero_add, decide_eq_false]
          rcases HTF.out.2.2 with h | h
          · omega
          · omega
        have T1 := sinv_tick TI.out.quiet (g := t - 1) (by omega) (by omega) (by omega)
        rw [e1, if_pos rfl] at T1
        have hn2 : (s.ticked (t - 1)).tell.now = s.now + (t - 1) := rfl
        have T2 := sinv_tick T1.2.2 (g := 1) (by decide) (by decide) (by rw [hn2]; omega)
        have e2 : decide (th ≤ ((fOf p.1 (0 + (t - 1) + 1) : Nat) : Int)) = true := by
          rw [show 0 + (t - 1) + 1 = t by omega, decide_eq_true_iff]
          exact HTF.out.2.1
        rw [e2, if_neg (by decide)] at T2
        have TA := Lib.hid T1
        have TB := Lib.hid T2
        have hwa : IntKind.i64.wrap (t - 1) = t - 1 := by rw [IntKind.wrap_i64]; omega
        have hwb : IntKind.i64.wrap (t - 1 - 0) = t - 1 := by rw [IntKind.wrap_i64]; omega
        have hz : t - 1 - 0 = t - 1 := by omega
        clear T1 T2 e1 e2 hn2 z6' hpb7 hws hss
        go_wp2_with fail
        refine (O8.out.tick TI.out.good (t - 1) TA.out.1).mono ?_
        rintro e' w9 ⟨A9, c9, B9, d9, rfl, -, -, how⟩
        rw [TA.out.2.1]
        have O9 := Lib.hid how
        clear how hwa hwb hz
        go_wp2_with fail
        refine (O9.out.tick TA.out.2.2.good 1 TB.out.1).mono ?_
        rintro e' w10 ⟨A10, c10, B10, d10, rfl, -, hrd, how⟩
        rw [TB.out.2.1] at hrd ⊢
        have O10 := Lib.hid how
        have R10 := Lib.hid hrd
        clear how hrd
        go_wp2_with fail
        have R11 := Lib.hid (reads_tri w10 57 (idb, th, true))
        have R12 := Lib.hid (R10.out.alloc (Nat.le_refl _) (.cells (tcells (idb, th, true)).toArray 57))
        have O11 := Lib.hid (O10.out.alloc (.cells (tcells (idb, th, true)).toArray 57))
        refine (eqn_same B10 (some ⟨w10.heap.size, 0, none⟩) d10 1 (w10.heap.size + 1) 1 [(idb, th, true)] rfl (by decide) _ (R12.out.more (by omega)) R11.out (by simp)).mono ?_
        rintro e' w12 ⟨rfl, hb12⟩
        have O12 := Lib.hid (O11.out.below hb12)
        clear hb12
        go_wp2
        go_ret
        exact ⟨rfl, O12.out.bel⟩
end Go.Proofs.Ytkgekhabafjpiaa
