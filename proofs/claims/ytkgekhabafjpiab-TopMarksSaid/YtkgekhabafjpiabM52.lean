/- TopTold, plainly: when the sub is told. (with what it needs) -/
import Derived.Test.YtkgekhabafjpiabM51
import Derived.Test.YtkgekhabafjpiabM33
import Derived.Test.YtkgekhabafjpiabM05
import Derived.Test.YtkgekhabafjpiabM07
import Derived.Test.YtkgekhabafjpiabM08
import Derived.Test.YtkgekhabafjpiabM09
namespace Go.Proofs.Ytkgekhabafjpiab
open Go.RowKit Go.Lib
set_option linter.unusedSimpArgs false
set_option linter.unusedVariables false

def fOf (d : PeerD) : Int → Nat := Lv.lvF (lvV d.2.2.2.1.length (s1 d.2.2.2.1) (s2 d.2.2.2.1) 2).toNat d.2.2.2.1.length (s1 d.2.2.2.1)
theorem plv_f (now : Int) (d : PeerD) : plv 2 now d = ((fOf d (now - d.2.2.2.2) : Nat) : Int) := rfl
theorem fOf_mono (d : PeerD) : ∀ s t, s ≤ t → fOf d s ≤ fOf d t := fun s t h => Lv.lvF_mono _ _ (by omega) h
/-- within 100000 ticks any level up to 12 is reached -/
theorem fOf_high {d : PeerD} (hn : 1 ≤ d.2.2.2.1.length) (h5 : d.2.2.2.1.length ≤ 5) (hv : ∀ x ∈ d.2.2.2.1, 0 ≤ x ∧ x ≤ 60) (hs : sumsE d.2.2.2.1.length (s1 d.2.2.2.1) (s2 d.2.2.2.1) = 0) : 12 ≤ fOf d 100000 := by
  have a1 := s1_nn _ fun x hx => (hv x hx).1
  have a2 := s1_le 60 _ fun x hx => (hv x hx).2
  have a3 := s2_le 60 _ hv
  obtain ⟨g1, g2, g3, g4, g5, g6, g7, g8, g9, -⟩ := lv_bd hs (by omega) (show (1 : Int) ≤ 2 by decide) (by decide)
  unfold fOf
  generalize hS : s1 d.2.2.2.1 = S at *
  generalize hQ : s2 d.2.2.2.1 = Q at *
  generalize d.2.2.2.1.length = n at *
  have hq0 : 0 ≤ S * S := Int.mul_nonneg a1 a1
  have hvb : lvV n S Q 2 ≤ 90000 ∧ 1 ≤ lvV n S Q 2 := by
    have h4 : n = 1 ∨ n = 2 ∨ n = 3 ∨ n = 4 ∨ n = 5 := by omega
    unfold lvV lvM
    rcases h4 with rfl | rfl | rfl | rfl | rfl <;> (split <;> constructor <;> omega)
  obtain ⟨v, hvv⟩ : ∃ v, (lvV n S Q 2).toNat = v := ⟨_, rfl⟩
  rw [hvv]
  have hv1 : 1 ≤ v := by omega
  have hv2 : v ≤ 90000 := by omega
  unfold Lv.lvF
  rw [Lv.sp_pos v (by omega)]
  obtain ⟨x, hx⟩ : ∃ x, ((n : Int) * 100000 - S).toNat = x := ⟨_, rfl⟩
  rw [hx]
  have hx1 : 99700 ≤ x := by omega
  have hxx : 99700 * 99700 ≤ x * x := Nat.mul_le_mul hx1 hx1
  have hle : 4096 ≤ (v + x * x) / v := by
    rw [Nat.le_div_iff_mul_le (by omega)]
    omega
  rw [Nat.le_log2 (by omega)]
  exact hle
theorem tinv_sums {M th : Int} {i : Nat} {d : PeerD} {s : NSt} (h : TInv M th i d s) : 1 ≤ d.2.2.2.1.length ∧ d.2.2.2.1.length ≤ 5 ∧ listE d.2.2.2.1 = 0 ∧ sumsE d.2.2.2.1.length (s1 d.2.2.2.1) (s2 d.2.2.2.1) = 0 ∧ lookE 5 2 d.2.2.2.1 = 0 := by
  have hm : d ∈ s.D := by rw [h.D]; simp
  have hg := h.good.ps.good d hm
  have hp := h.good.pv d hm
  have hw : winE 5 d.2.2.2.1 = 0 := by have : winE d.2.2.1 d.2.2.2.1 = 0 := hg.2.2.1; rw [h.cap] at this; exact this
  obtain ⟨c0, c1, c2, c3⟩ := winE_zero hw
  refine ⟨hp.1, by omega, c3, sums_ok _ c3, ?_⟩
  have := look_good (least := 2) hg hp.1 (by decide) (by decide)
  rw [h.cap] at this
  exact this
theorem tinv_when {th : Int} {i : Nat} {d : PeerD} {s : NSt} (h : TInv 60 th i d s) (h1 : 1 ≤ th) (h2 : th ≤ 12) : ∃ t, Lv.FirstAt (fOf d) th t ∧ 1 ≤ t ∧ t ≤ 100000 ∧ th ≤ (fOf d 1073741824 : Int) := by
  obtain ⟨a1, a2, a3, a4, a5⟩ := tinv_sums h
  have hh := fOf_high a1 a2 h.vals a4
  obtain ⟨t, ht, htl⟩ := Lv.first_exists (f := fOf d) (q := th) 100000 (by show th ≤ (fOf d 100000 : Int); omega)
  have hmono := fOf_mono d 100000 1073741824 (by decide)
  have h0 : fOf d 0 = 0 := by
    have hv := s1_nn _ fun x hx => (h.vals x hx).1
    unfold fOf Lv.lvF
    exact Lv.sp_zero _ (by simp; omega)
  refine ⟨t, ht, ?_, by simpa using htl, by omega⟩
  rcases Int.lt_or_le t 1 with hlt | hge
  · have ht0 : t = 0 := by have := ht.1; omega
    subst ht0
    have := ht.2.1
    rw [h0] at this
    omega
  · exact hge
/-- one peer, silent for x ticks; a sub whose mark is m -/
structure SInv (th : Int) (d : PeerD) (x : Int) (m : Bool) (s : NSt) : Prop where
  good : NGood s
  c : s.c = cA
  D : s.D = [d]
  id : d.1 = idb
  now : s.now = d.2.2.2.2 + x
  S : s.S = [(idb, th, m)]
theorem TInv.quiet {M th : Int} {i : Nat} {d : PeerD} {s : NSt} (h : TInv M th i d s) : SInv th d 0 false s := ⟨h.good, h.c, h.D, h.id, by rw [h.last]; omega, h.S⟩
/-- a tick of a silent one -/
theorem sinv_tick {th : Int} {d : PeerD} {x g : Int} {m : Bool} {s : NSt} (h : SInv th d x m s) (h1 : 1 ≤ g) (h2 : g ≤ 200000) (h3 : s.now + g ≤ 1000000) :
    s.tickE g = 0 ∧ (s.ticked g).notes = (if decide (th ≤ (fOf d (x + g) : Int)) = m then [] else [(idb, th, decide (th ≤ (fOf d (x + g) : Int)))]) ∧ SInv th d (x + g) (decide (th ≤ (fOf d (x + g) : Int))) (s.ticked g).tell := by
  have hc : cfe s.c = 100000 := by rw [h.c]; rfl
  have he : s.tickE g = 0 := by
    unfold NSt.tickE
    rw [if_neg (by omega), hc, if_neg]
    intro hh
    rcases hh with hh | hh <;> omega
  have hl : (s.ticked g).lv idb = (fOf d (x + g) : Int) := by
    rw [lv_one (s := s.ticked g) h.D h.id]
    show plv (cfl s.c) (s.now + g) d = _
    rw [h.c]
    show plv 2 (s.now + g) d = _
    rw [plv_f, h.now, show d.2.2.2.2 + x + g - d.2.2.2.2 = x + g by omega]
  refine ⟨he, notes1 _ th m h.S _ hl, ⟨(h.good.ticked he).tell, h.c, h.D, h.id, ?_, subs1 _ th m h.S _ hl⟩⟩
  show s.now + g = d.2.2.2.2 + (x + g)
  rw [h.now]; omega
end Go.Proofs.Ytkgekhabafjpiab

namespace Go.Proofs.Ytkgekhabafjpiab
open Go.RowKit Go.Lib
set_option linter.unusedSimpArgs false
set_option linter.unusedVariables false

set_option maxHeartbeats 400000 in
set_option maxRecDepth 100000 in
theorem config_any (id : ByteArray) (ev : Int) (w : World) :
    Calls Try.prog 6 #[.string id, .int .i64 ev] w fun e w' => e = .returned (.agg #[.string id, .int .i64 0, .int .i64 ev, .int .i64 5, .int .i64 2]) ∧ Below w.heap.size w w' := by
  have E := Lib.hid ((Env.start w).lay #[.string id, .int .i64 0, .int .i64 ev, .int .i64 5, .int .i64 2] 29)
  go_enter Try.func6, Try.ntmps6
  go_wp2
  exact bodyPost_ret (v := .agg #[.string id, .int .i64 0, .int .i64 ev, .int .i64 5, .int .i64 2]) (by simp [results, Try.results6, go_sem]) rfl ⟨rfl, E.out.bel⟩
theorem new_a (w : World) : Calls Try.prog 5 #[.agg #[.string ⟨#[97]⟩, .int .i64 0, .int .i64 100000, .int .i64 5, .int .i64 2]] w (NewIs cA w) := new_ok cA cA_ok w












end Go.Proofs.Ytkgekhabafjpiab

namespace Go.Proofs.Ytkgekhabafjpiab
open Go.RowKit Go.Lib
set_option linter.unusedSimpArgs false
set_option linter.unusedVariables false

/-- how long it was suspected, if all ends at fin -/
def bdT (T : List Trn) (fin : Int) : Int := badT (withEnd T fin) (T.length + 1)
/-- turns that may be, told by now -/
structure TOk (T : List Trn) (now : Int) (is : Bool) : Prop where
  alt : ∀ j, j < T.length → Sp T j = !(j % 2 == 1)
  asc : ∀ j, j < T.length → lowT T j ≤ Tm T j ∧ Tm T j ≤ now
  is : is = (T.length % 2 == 1)
  now0 : 0 ≤ now
theorem Tm_app {T : List Trn} {x : Trn} {k : Nat} (h : k < T.length) : Tm (T ++ [x]) k = Tm T k := by
  unfold Tm; simp [List.getD, List.getElem?_append_left h]
theorem Tm_new {T : List Trn} {x : Trn} : Tm (T ++ [x]) T.length = x.1 := by
  unfold Tm; simp [List.getD]
theorem Sp_app {T : List Trn} {x : Trn} {k : Nat} (h : k < T.length) : Sp (T ++ [x]) k = Sp T k := by
  unfold Sp; simp [List.getD, List.getElem?_append_left h]
theorem Sp_new {T : List Trn} {x : Trn} : Sp (T ++ [x]) T.length = x.2 := by
  unfold Sp; simp [List.getD]
theorem low_app {T : List Trn} {x : Trn} : ∀ {k : Nat}, k ≤ T.length → lowT (T ++ [x]) k = lowT T k
  | 0, _ => rfl
  | k + 1, h => Tm_app (by omega)
theorem bad_app {T : List Trn} {x : Trn} : ∀ {k : Nat}, k ≤ T.length → badT (T ++ [x]) k = badT T k
  | 0, _ => rfl
  | k + 1, h => by
    show badT (T ++ [x]) k + _ = badT T k + _
    rw [bad_app (by omega), Tm_app (by omega), low_app (by omega)]
theorem bdT_eq (T : List Trn) (fin : Int) : bdT T fin = badT T T.length + (if T.length % 2 = 1 then fin - lowT T T.length else 0) := by
  unfold bdT
  show badT (withEnd T fin) T.length + (if T.length % 2 = 1 then Tm (withEnd T fin) T.length - lowT (withEnd T fin) T.length else 0) = _
  rw [Tm_end]
  unfold withEnd
  rw [bad_app (Nat.le_refl _), low_app (Nat.le_refl _)]
theorem TOk.start : TOk [] 0 false := ⟨by simp, by simp, rfl, Int.le_refl _⟩
theorem bdT_start : bdT [] 0 = 0 := by decide
/-- a tick -/
theorem TOk.tick {T : List Trn} {now : Int} {is : Bool} (h : TOk T now is) : TOk T (now + 1) is ∧ bdT T (now + 1) = bdT T now + (if is = true then 1 else 0) := by
  refine ⟨⟨h.alt, fun j hj => ⟨(h.asc j hj).1, by have := (h.asc j hj).2; omega⟩, h.is, by have := h.now0; omega⟩, ?_⟩
  rw [bdT_eq, bdT_eq, h.is]
  by_cases hp : T.length % 2 = 1
  · rw [if_pos hp, if_pos hp, if_pos (by simpa using hp)]; omega
  · rw [if_neg hp, if_neg hp, if_neg (by simpa using hp)]; omega
/-- a turn -/
theorem TOk.turn {T : List Trn} {now : Int} {is : Bool} (h : TOk T now is) (b : Bool) (hb : b = !is) : TOk (T ++ [(now, b)]) now b ∧ bdT (T ++ [(now, b)]) now = bdT T now := by
  have hl : (T ++ [(now, b)]).length = T.length + 1 := by simp
  have hlow : lowT T T.length ≤ now := by
    cases hq : T.length with
    | zero => exact h.now0
    | succ k => exact (h.asc k (by omega)).2
  refine ⟨⟨fun j hj => ?_, fun j hj => ?_, ?_, h.now0⟩, ?_⟩
  · rw [hl] at hj
    by_cases e : j < T.length
    · rw [Sp_app e]; exact h.alt j e
    · have : j = T.length := by omega
      subst this
      rw [Sp_new, hb, h.is]
  · rw [hl] at hj
    by_cases e : j < T.length
    · rw [Tm_app e, low_app (by omega)]; exact h.asc j e
    · have : j = T.length := by omega
      subst this
      rw [Tm_new, low_app (Nat.le_refl _)]
      exact ⟨hlow, Int.le_refl _⟩
  · rw [hl, hb, h.is]
    rcases Nat.mod_two_eq_zero_or_one T.length with e | e
    · have : (T.length + 1) % 2 = 1 := by omega
      rw [e, this]; rfl
    · have : (T.length + 1) % 2 = 0 := by omega
      rw [e, this]; rfl
  · rw [bdT_eq, bdT_eq, hl]
    have e1 : badT (T ++ [(now, b)]) (T.length + 1) = badT T T.length + (if T.length % 2 = 1 then now - lowT T T.length else 0) := by
      show badT (T ++ [(now, b)]) T.length + (if T.length % 2 = 1 then Tm (T ++ [(now, b)]) T.length - lowT (T ++ [(now, b)]) T.length else 0) = _
      rw [bad_app (Nat.le_refl _), Tm_new, low_app (Nat.le_refl _)]
    have e2 : lowT (T ++ [(now, b)]) (T.length + 1) = now := Tm_new
    rw [e1, e2]
    split <;> omega
theorem firstBad_all (l : List Trn) (fin : Int) (h : ∀ k, k < l.length → stepE l fin k = 0) : ∀ n, n ≤ l.length → firstBad l fin n = 0
  | 0, _ => rfl
  | n + 1, hn => firstBad_next l fin n (firstBad_all l fin h n (by omega)) (h n (by omega))
theorem TOk.fits {T : List Trn} {now : Int} {is : Bool} (h : TOk T now is) (h64 : T.length ≤ 64) (hn : now ≤ 1073741824) : turnsE T now = 0 := by
  unfold turnsE
  rw [if_neg (by omega), if_pos (wi_true.2 ⟨h.now0, hn⟩)]
  exact firstBad_all T now (fun k hk => stepE_good (h.asc k hk).1 (h.asc k hk).2 (h.alt k hk)) _ (Nat.le_refl _)
theorem bdT_bd {T : List Trn} {now : Int} {is : Bool} (h : TOk T now is) (hn : now ≤ 1073741824) (h64 : T.length ≤ 64) : 0 ≤ bdT T now ∧ bdT T now ≤ now := by
  have hf := turnsE_zero (h.fits h64 hn)
  obtain ⟨a, b, c, d⟩ := hf.bad (T.length + 1) (Nat.le_refl _)
  have e := good_end T now
  unfold bdT
  omega
/-- among ticks of the i-th gap -/
structure KInv (th : Int) (i : Nat) (d : PeerD) (x : Int) (s : NSt) (T : List Trn) (bad : Int) (is : Bool) : Prop where
  q : SInv th d x is s
  x0 : 0 ≤ x
  mrk : is = true → th ≤ (fOf d x : Int)
  tok : TOk T s.now is
  bad : bad = bdT T s.now
  len : T.length ≤ 2 * i + (if is = true then 1 else 0)
theorem KInv.tick {th : Int} {i : Nat} {d : PeerD} {x : Int} {s : NSt} {T : List Trn} {bad : Int} {is : Bool} (h : KInv th i d x s T bad is) (hn : s.now ≤ 100000) :
    s.tickE 1 = 0 ∧ (((s.ticked 1).notes = [] ∧ KInv th i d (x + 1) (s.ticked 1).tell T (bad + if is = true then 1 else 0) is) ∨
      (is = false ∧ (s.ticked 1).notes = [(idb, th, true)] ∧ KInv th i d (x + 1) (s.ticked 1).tell (T ++ [(s.now + 1, true)]) (bad + if is = true then 1 else 0) true)) := by
  obtain ⟨h1, h2, h3⟩ := sinv_tick h.q (g := 1) (by decide) (by decide) (by omega)
  have hx := h.x0
  have hmono := fOf_mono d x (x + 1) (by omega)
  obtain ⟨t1, t2⟩ := h.tok.tick
  refine ⟨h1, ?_⟩
  cases his : is
  · cases hm : decide (th ≤ ((fOf d (x + 1) : Nat) : Int))
    · rw [hm, his, if_pos rfl] at h2
      rw [hm] at h3
      subst his
      exact .inl ⟨h2, ⟨h3, by omega, (fun e => by cases e), t1, by show bad + _ = bdT T (s.now + 1); rw [t2, h.bad], h.len⟩⟩
    · rw [hm, his, if_neg (by decide)] at h2
      rw [hm] at h3
      subst his
      obtain ⟨u1, u2⟩ := t1.turn true rfl
      exact .inr ⟨rfl, h2, ⟨h3, by omega, (fun _ => by simpa using hm), u1, by show bad + _ = bdT _ (s.now + 1); rw [u2, t2, h.bad], by have := h.len; simp at this ⊢; omega⟩⟩
  · have hm : decide (th ≤ ((fOf d (x + 1) : Nat) : Int)) = true := by
      have := h.mrk his
      rw [decide_eq_true_iff]; omega
    rw [hm, his, if_pos rfl] at h2
    rw [hm] at h3
    subst his
    exact .inl ⟨h2, ⟨h3, by omega, (fun _ => by simpa using hm), t1, by show bad + _ = bdT T (s.now + 1); rw [t2, h.bad], h.len⟩⟩
/-- a tick, by cases -/
theorem KInv.step {th : Int} {i j : Nat} {d : PeerD} {s : NSt} {T : List Trn} {bad : Int} {is : Bool} (h : KInv th i d (j : Int) s T bad is) (hn : s.now ≤ 100000) :
    s.tickE 1 = 0 ∧ ((is = false ∧ (s.ticked 1).notes = [] ∧ KInv th i d ((j + 1 : Nat) : Int) (s.ticked 1).tell T bad false) ∨
      (is = false ∧ (s.ticked 1).notes = [(idb, th, true)] ∧ KInv th i d ((j + 1 : Nat) : Int) (s.ticked 1).tell (T ++ [(s.now + 1, true)]) bad true) ∨
      (is = true ∧ (s.ticked 1).notes = [] ∧ KInv th i d ((j + 1 : Nat) : Int) (s.ticked 1).tell T (bad + 1) true)) := by
  obtain ⟨h1, h2⟩ := h.tick hn
  refine ⟨h1, ?_⟩
  rw [show ((j + 1 : Nat) : Int) = (j : Int) + 1 by omega]
  rcases h2 with ⟨hn, hk⟩ | ⟨hf, hn, hk⟩
  · cases is
    · rw [if_neg (by decide), Int.add_zero] at hk
      exact .inl ⟨rfl, hn, hk⟩
    · rw [if_pos rfl] at hk
      exact .inr (.inr ⟨rfl, hn, hk⟩)
  · subst hf
    rw [if_neg (by decide), Int.add_zero] at hk
    exact .inr (.inl ⟨rfl, hn, hk⟩)
/-- before a gap -/
structure GInv (th : Int) (i : Nat) (d : PeerD) (s : NSt) (T : List Trn) (bad : Int) : Prop where
  t : TInv 40 th i d s
  tok : TOk T s.now false
  bad : bad = bdT T s.now
  len : T.length ≤ 2 * i
theorem GInv.first {th : Int} {i : Nat} {d : PeerD} {s : NSt} {T : List Trn} {bad : Int} (h : GInv th i d s T bad) : KInv th i d 0 s T bad false :=
  ⟨h.t.quiet, Int.le_refl _, (fun e => by cases e), h.tok, h.bad, by simpa using h.len⟩
/-- the beat behind a gap of g ticks -/
theorem KInv.next {th : Int} {i : Nat} {d : PeerD} {s s1 : NSt} {T : List Trn} {bad : Int} {is : Bool} {g : Int} (h0 : TInv 40 th i d s) (hth : 1 ≤ th) (hi : i ≤ 100) (h1 : 1 ≤ g) (h2 : g ≤ 40) (h : KInv th i d g s1 T bad is) :
    s1.hearE (codeS idb 0 ((i : Int) + 1)) = 0 ∧ ((is = false ∧ s1.hearN (codeS idb 0 ((i : Int) + 1)) = [] ∧ GInv th (i + 1) (newD d 0 ((i : Int) + 1) g s1.now) (s1.heard (codeS idb 0 ((i : Int) + 1))) T bad) ∨
      (is = true ∧ s1.hearN (codeS idb 0 ((i : Int) + 1)) = [(idb, th, false)] ∧ GInv th (i + 1) (newD d 0 ((i : Int) + 1) g s1.now) (s1.heard (codeS idb 0 ((i : Int) + 1))) (T ++ [(s1.now, false)]) bad)) := by
  have hn : s1.now = s.now + g := by rw [h.q.now, h0.last]
  obtain ⟨a1, a2, a3⟩ := tinv_next h0 (by decide) (by decide) hi hth h1 h2 h.q.good h.q.c h.q.D hn is h.q.S
  have hnow : (s1.heard (codeS idb 0 ((i : Int) + 1))).now = s1.now := a3.last.symm
  refine ⟨a1, ?_⟩
  cases his : is
  · rw [his] at a2
    subst his
    exact .inl ⟨rfl, a2, ⟨a3, by rw [hnow]; exact h.tok, by rw [hnow]; exact h.bad, by have := h.len; simp at this; omega⟩⟩
  · rw [his] at a2
    subst his
    obtain ⟨u1, u2⟩ := h.tok.turn false rfl
    exact .inr ⟨rfl, a2, ⟨a3, by rw [hnow]; exact u1, by rw [hnow, u2]; exact h.bad, by have := h.len; simp at this ⊢; omega⟩⟩
end Go.Proofs.Ytkgekhabafjpiab

namespace Go.Proofs.Ytkgekhabafjpiab
open Go.RowKit Go.Lib
set_option linter.unusedSimpArgs false
set_option linter.unusedVariables false

/-- a node, and a row of turns in a block that the node does not use -/
def Two (w W : World) (b : Nat) (s : NSt) (v : Value) (T : List Trn) : Prop :=
  ∃ X, NodeAt X W b s ∧ (∀ k, X k → w.heap.size ≤ k) ∧ Below w.heap.size w W ∧ W.ownsRow w.heap.size 44 2 v T.length (cellsT T) ∧ ∀ k, v.ownBlock = some k → ¬ X k
section
variable {w W W' : World} {b : Nat} {s : NSt} {v : Value} {T : List Trn}
theorem Two.bel (h : Two w W b s v T) : Below w.heap.size w W := by
  obtain ⟨_, _, _, h, _⟩ := h
  exact h
theorem Two.own (h : Two w W b s v T) : Own w W b s := by
  obtain ⟨X, h1, h2, h3, _⟩ := h
  exact ⟨X, h1, h2, h3⟩
theorem Two.row (h : Two w W b s v T) : W.ownsRow w.heap.size 44 2 v T.length (cellsT T) := by
  obtain ⟨_, _, _, _, h, _⟩ := h
  exact h
theorem Two.start (h : Own w W b s) : Two w W b s (.slice none 0 0) [] := by
  obtain ⟨X, h1, h2, h3⟩ := h
  exact ⟨X, h1, h2, h3, World.ownsRow_nil _ _ _ _, fun k hk => by cases hk⟩
theorem Two.below (h : Two w W b s v T) (hb : Below W.heap.size W W') : Two w W' b s v T := by
  obtain ⟨X, h1, h2, h3, h4, h5⟩ := h
  exact ⟨X, h1.below hb, h2, h3.trans (hb.mono h3.size), ownsRow_below h4 hb, h5⟩
theorem Two.of {X : Nat → Prop} {s' : NSt} (hX : ∀ k, X k → w.heap.size ≤ k) (hw : Below w.heap.size w W) (hr : W.ownsRow w.heap.size 44 2 v T.length (cellsT T)) (hx : ∀ k, v.ownBlock = some k → ¬ X k) (hn : NodeAt (grow X W W') W' b s') (hk : Kept X W W') : Two w W' b s' v T :=
  ⟨_, hn, fun k hk => hk.1.elim (hX k) (fun h => Nat.le_trans hw.size h), hw.trans (hk.below hX hw.size), hk.own hr hx, fun k hk hg => hg.1.elim (hx k hk) (fun h => by have := hr.lt k hk; omega)⟩
/-- one turn more -/
theorem Two.app {v' : Value} {x : Trn} (h : Two w W b s v T) (ho : W'.ownsRow w.heap.size 44 2 v' (T.length + 1) (cellsT T ++ cellsT [x])) (hg : W.grownBy W' v.ownBlock) (hb : v'.ownBlock = v.ownBlock ∨ v'.ownBlock = some W.heap.size) : Two w W' b s v' (T ++ [x]) := by
  obtain ⟨X, h1, h2, h3, h4, h5⟩ := h
  have hk : Kept (fun k => v.ownBlock = some k) W W' := (Kept.refl _ _).grown hg (fun k hk => .inl hk)
  have hxlt : ∀ k, X k → k < W.heap.size := by
    obtain ⟨_, _, _, _, _, h1⟩ := h1
    exact h1.xlt
  refine ⟨X, h1.kept hk (fun k e hx => h5 k e hx), h2, h3.trans ?_, ?_, fun k hk hx => ?_⟩
  · exact hk.below (fun k hk => (h4.lt k hk).1) h3.size
  · rw [cellsT_append]; simpa using ho
  · rcases hb with e | e
    · exact h5 k (e ▸ hk) hx
    · rw [e] at hk
      injection hk with hk
      have := hxlt k hx
      omega
/-- notes and an error -/
def TwN (w : World) (b : Nat) (s : NSt) (v : Value) (T : List Trn) (N : List TriD) (er : Int) (e : Ending) (W' : World) : Prop :=
  ∃ A c, e = .returned (.tuple #[.slice A N.length c, .int .i64 er]) ∧ Reads W' W'.heap.size 3 A N.length (cells3 N) ∧ Two w W' b s v T
theorem Two.hear (h : Two w W b s v T) (hg : NGood s) (x : ByteArray) :
    Calls Try.prog 13 #[.pointer (some ⟨b, 0, none⟩), .string x] W (TwN w b (s.heard x) v T (s.hearN x) (s.hearE x)) := by
  obtain ⟨X, h1, h2, h3, h4, h5⟩ := h
  obtain ⟨_, _, _, _, _, h1⟩ := h1
  exact (hear_any h1 hg x).mono fun e W' ⟨A, c, k1, k2, k3, k4⟩ => ⟨A, c, k1, Reads.of_own k2, Two.of h2 h3 h4 h5 k3 k4⟩
/-- notes and no error -/
def TwT (w : World) (b : Nat) (s : NSt) (v : Value) (T : List Trn) (m : Nat) (N : List TriD) (e : Ending) (W' : World) : Prop :=
  ∃ A1 c1 A2 c2, e = .returned (.tuple #[.slice A1 m c1, .slice A2 N.length c2, .int .i64 0]) ∧ Reads W' W'.heap.size 3 A2 N.length (cells3 N) ∧ Two w W' b s v T
theorem Two.tick (h : Two w W b s v T) (hg : NGood s) (g : Int) (he : s.tickE g = 0) :
    Calls Try.prog 10 #[.pointer (some ⟨b, 0, none⟩), .int .i64 g] W (TwT w b (s.ticked g).tell v T (s.many g) (s.ticked g).notes) := by
  obtain ⟨X, h1, h2, h3, h4, h5⟩ := h
  obtain ⟨_, _, _, _, _, h1⟩ := h1
  exact (tick_ok h1 hg g he).mono fun e W' ⟨A1, c1, A2, c2, k1, k2, k3, k4, k5⟩ => ⟨A1, c1, A2, c2, k1, Reads.of_own k3, Two.of h2 h3 h4 h5 (HoldIs.at_ (HoldIs.grow k4)) k5⟩
end
theorem reads_trn (w : World) (e : TypeId) (p : Trn) : Reads (w.alloc (.cells #[.int .i64 p.1, .bool p.2] e)) (w.heap.size + 1) 2 (some ⟨w.heap.size, 0, none⟩) 1 (cellsT [p]) :=
  ⟨rfl, fun _ => ⟨_, rfl, by simp, fun j u hj => by
    have hc := (Blk.new w e #[.int .i64 p.1, .bool p.2]).cell j
    have hadd : (⟨w.heap.size, 0, none⟩ : Addr).add j = ⟨w.heap.size, j, none⟩ := by unfold Addr.add; split <;> simp_all
    rw [hadd, hc, ← hj]
    simp [cellsT]⟩⟩
/-- one turn is appended, in a statement whose order is open -/
theorem step_turn {w8 : World} {ops : Array Oper} {o : Oper} {a : Act} {K : Act → World → Prop} {Q : Exit → Act → World → Prop} {E : Prop} (hgd : o.guard = none) (s x : Operand)
    (ho : o.op = .call { callee := .builtin .append, args := #[s, x], argTypes := #[36, 36] }) (base : Nat) (t : Int) (bb : Bool) (At : Option Addr) (ct : Nat) (T : List Trn) (hs : a.eval s = .slice At T.length ct)
    (hown : w8.ownsRow base 44 2 (.slice At T.length ct) T.length (cellsT T)) (c : Nat) (hx : a.eval x = .slice (some ⟨w8.heap.size, 0, none⟩) 1 c) (hT : T.length ≤ 60) (hbase : base ≤ w8.heap.size)
    (h : ∀ A9 c9 w9, w9.ownsRow base 44 2 (.slice A9 (T.length + 1) c9) (T.length + 1) (cellsT T ++ cellsT [(t, bb)]) → ((w8.alloc (.cells #[.int .i64 t, .bool bb] 44)).drew).grownBy w9 (Value.slice At T.length ct).ownBlock → Hid ((Value.slice A9 (T.length + 1) c9).ownBlock = (Value.slice At T.length ct).ownBlock ∨ (Value.slice A9 (T.length + 1) c9).ownBlock = some ((w8.alloc (.cells #[.int .i64 t, .bool bb] 44)).drew).heap.size) → K (a.put o.dst (.slice A9 (T.length + 1) c9)) w9) :
    if Region.wanted o (yielded ops a.tmps) = true then Oper.wp Try.prog o a ((w8.alloc (.cells #[.int .i64 t, .bool bb] 44)).drew) K Q else E := by
  obtain ⟨i0, hi0, hz0, hz1, hz2⟩ := info_parts turn_info
  refine step_app0 hgd s x _ ho base 44 i0 (.agg #[.int .i64 0, .bool false]) 2 16 Try.underlying36 hi0 hz0 hz1 hz2 rfl (by decide) _ _ _ hs ((hown.alloc _).drew) (w8.heap.size + 1) _ 1 c _ hx (reads_trn w8 44 (t, bb)).drew (oneCell_turns [(t, bb)]) (by unfold maxLen; omega) (by omega) (by simp; omega) ?_
  intro v9 w9 hown9 hgr9 hbk9
  obtain ⟨A9, c9, rfl⟩ := ownsRow_len hown9
  exact h A9 c9 w9 hown9 hgr9 (Lib.hid hbk9)
end Go.Proofs.Ytkgekhabafjpiab
