/- The reference's town: NewTown, walked. (with what it needs) -/
import Derived.Test.YtcikljcjhijjdabGreatM51
import Derived.BigQuiet
import Derived.Deep.QuietTactic
import Derived.Deep.DeepCutAuto
import Derived.Test.YtcikljcjhijjdabGreatM45
import Derived.Test.YtcikljcjhijjdabGreatM36
import Derived.Test.YtcikljcjhijjdabGreatM42
import Derived.Test.YtcikljcjhijjdabGreatM19
namespace Go.Proofs.YtcikljcjhijjdabGreat
open Go.RowKit Go.Lib
set_option linter.unusedSimpArgs false
set_option linter.unusedVariables false

theorem rptr_info : (Tryz.prog.info? 45).map (fun i => (i.zero, i.size, i.bytes)) = some (some (.pointer none), 1, 8) := by kernel_rfl
theorem reads_two (w : World) (o : Obj) (e : TypeId) (v : Value) : Reads ((w.alloc o).alloc (.cells #[v] e)) (w.heap.size + 2) 1 (some ⟨w.heap.size + 1, 0, none⟩) 1 [v] := by
  have h := reads_one (w.alloc o) e v
  have hs : (w.alloc o).heap.size = w.heap.size + 1 := by simp
  rw [hs] at h
  exact h
/-- one node is appended, in a statement whose order is open -/
theorem step_node {wq : World} {ops : Array Oper} {o : Oper} {a : Act} {K : Act → World → Prop} {Q : Exit → Act → World → Prop} {E : Prop} (hgd : o.guard = none) (s x : Operand)
    (ho : o.op = .call { callee := .builtin .append, args := #[s, x], argTypes := #[46, 46] }) (N : Obj) (An : Option Addr) (cn : Nat) (bs : List Nat) (hs : a.eval s = .slice An bs.length cn)
    (hown : wq.ownsRow 0 45 1 (.slice An bs.length cn) bs.length (ptrs bs)) (c : Nat) (hx : a.eval x = .slice (some ⟨wq.heap.size + 1, 0, none⟩) 1 c) (hbs : bs.length ≤ 10)
    (h : ∀ A9 c9 w9, w9.ownsRow 0 45 1 (.slice A9 (bs.length + 1) c9) (bs.length + 1) (ptrs bs ++ ptrs [wq.heap.size]) → (((wq.alloc N).alloc (.cells #[.pointer (some ⟨wq.heap.size, 0, none⟩)] 45)).drew).grownBy w9 (Value.slice An bs.length cn).ownBlock → Hid ((Value.slice A9 (bs.length + 1) c9).ownBlock = (Value.slice An bs.length cn).ownBlock ∨ (Value.slice A9 (bs.length + 1) c9).ownBlock = some (((wq.alloc N).alloc (.cells #[.pointer (some ⟨wq.heap.size, 0, none⟩)] 45)).drew).heap.size) → K (a.put o.dst (.slice A9 (bs.length + 1) c9)) w9) :
    if Region.wanted o (yielded ops a.tmps) = true then Oper.wp Tryz.prog o a (((wq.alloc N).alloc (.cells #[.pointer (some ⟨wq.heap.size, 0, none⟩)] 45)).drew) K Q else E := by
  obtain ⟨i0, hi0, hz0, hz1, hz2⟩ := info_parts rptr_info
  refine step_app0 hgd s x _ ho 0 45 i0 (.pointer none) 1 8 Tryz.underlying46 hi0 hz0 hz1 hz2 rfl (by decide) _ _ _ hs (((hown.alloc _).alloc _).drew) (wq.heap.size + 2) _ 1 c [.pointer (some ⟨wq.heap.size, 0, none⟩)] hx (reads_two wq N 45 _).drew one_ptr (by unfold maxLen; omega) (by omega) (Nat.zero_le _) ?_
  intro v9 w9 hown9 hgr9 hbk9
  obtain ⟨A9, c9, rfl⟩ := ownsRow_len hown9
  exact h A9 c9 w9 hown9 hgr9 (Lib.hid hbk9)
set_option maxHeartbeats 400000 in
set_option maxRecDepth 100000 in
theorem rtnew_large (A : Option Addr) (c n : Nat) (h : 5 < n) (w : World) :
    Calls Tryz.prog 6 #[.slice A n c] w fun e w' => e = .returned (.tuple #[.pointer none, .int .i64 2]) ∧ w = w' := by
  go_enter Tryz.func6, Tryz.ntmps6
  go_wp2
  go_ret2
  exact ⟨rfl, rfl⟩
set_option maxHeartbeats 4000000 in
set_option maxRecDepth 100000 in
theorem rtnew_go (A : Option Addr) (c n : Nat) (l : List CfgD) (hl : l.length = n) (h5 : n ≤ 5) (hc : n ≤ c ∧ c ≤ maxLen) (hs : ∀ c ∈ l, c.1.size ≤ maxLen) (w : World) (hr : Reads w w.heap.size 5 A n (cellsCf l)) :
    Calls Tryz.prog 6 #[.slice A n c] w (RnewIs w l) := by
  obtain ⟨ip0, hip, hip0, hip1, hip2⟩ := info_parts rptr_info
  have HL := Lib.hid hl
  have HR := Lib.hid hr
  have hn5 : (n : Int) ≤ 5 := by omega
  have hd1 : decide (5 < n) = false := by rw [decide_eq_false]; omega
  have hd2 : decide (5 < (n : Int)) = false := by rw [decide_eq_false]; omega
  obtain ⟨hc1, hc2⟩ := hc
  unfold maxLen at hc2
  have HNT := Lib.hid (show newTE l = chkIds [] l by unfold newTE; rw [if_neg (by omega)])
  have hmm := @run_makeMap Tryz.prog
  have R0 := Lib.hid (R1Rel.start w l)
  clear hl hr
  go_enter Tryz.func6, Tryz.ntmps6
  go_wp2_with fail
  obtain ⟨db, hdb⟩ : ∃ db, w.heap.size = db := ⟨_, rfl⟩
  obtain ⟨tb, htb⟩ : ∃ tb, db + 1 = tb := ⟨_, rfl⟩
  rw [hdb] at R0
  rw [htb] at R0
  simp only [hdb]
  simp only [htb]
  clear hdb htb
  go_loopw [22] (fun iv wr => ∃ k : Nat, k ≤ n ∧ iv = .int .i64 (k : Int) ∧ R1Rel w l tb db k wr) (fun iv _ => n - (RowKit.intOf iv).toNat)
  case atStart => exact ⟨0, Nat.zero_le _, rfl, R0.out⟩
  case round =>
    obtain ⟨k, hk, rfl, hrel⟩ := hrel
    obtain ⟨wo, rfl⟩ : ∃ wo, wo = wr := ⟨_, rfl⟩
    have RL := Lib.hid hrel
    clear hrel R0
    by_cases hlt : k < n
    · have hkl : k < l.length := by rw [HL.out]; exact hlt
      obtain ⟨ba, off, rfl, hba, hcs⟩ := cfg_addr (HR.out.below RL.out.bel (Nat.le_refl _)) HL.out (by omega)
      obtain ⟨c0, c1, c2, c3, c4⟩ := hcs k hkl
      have hbo : ba < wo.heap.size := Nat.lt_of_lt_of_le hba RL.out.bel.size
      have HSZ := Lib.hid (hs _ (List.getElem_mem hkl))
      have CK0 := Lib.hid (show CkTo l k by obtain ⟨_, _, _, h, _⟩ := RL.out; exact h)
      have CKb := Lib.hid (CK0.out.bad hkl)
      have CKt := Lib.hid (CK0.out.twice hkl)
      have CKn := Lib.hid (CK0.out.next hkl)
      have HTK := Lib.hid (List.take_succ_eq_append_getElem hkl)
      have HCS := Lib.hid (fun j (hj : j < l.length) => (hcs j hj).1)
      generalize l[k]'hkl = cc at *
      obtain ⟨cs, ci, ce, cp, cl⟩ := cc
      simp only [] at c0 c1 c2 c3 c4 HSZ
      have EX := Lib.hid ((Env.start wo).lay #[.string cs, .int .i64 ci, .int .i64 ce, .int .i64 cp, .int .i64 cl] 30)
      have RX := Lib.hid (RL.out.below EX.out.bel)
      clear hcs
      by_cases he : cfgE (cs, ci, ce, cp, cl) = 0
      · have HE := Lib.hid he
        have ik0 : (0 : Int) ≤ (k : Int) := by omega
        have ik1 : (k : Int) ≤ (c : Int) := by omega
        clear he CKb
        go_wp2_with fail
        refine (rcfg_anyT cs ci ce cp cl 0 HE.out _).mono ?_
        rintro e' w2 ⟨rfl, hb2⟩
        have E2 := Lib.hid (EX.out.below hb2)
        have R2 := Lib.hid (RX.out.below hb2)
        clear hb2 c0 c1 c2 c3 c4
        go_wp2_with fail
        go_loopw [36] (fun jv wr => ∃ j : Nat, j ≤ k ∧ jv = .int .i64 (j : Int) ∧ ((l.take j).map Prod.fst).any (fun x => decide (x = cs)) = false ∧ Below w2.heap.size w2 wr) (fun jv _ => k - (RowKit.intOf jv).toNat)
        case atStart => exact ⟨0, Nat.zero_le _, rfl, rfl, Below.refl _ _⟩
        case round =>
          obtain ⟨j, hj, rfl, hno, hbq⟩ := hrel
          obtain ⟨wq, rfl⟩ : ∃ wq, wq = wr := ⟨_, rfl⟩
          have NO := Lib.hid hno
          have BQ := Lib.hid hbq
          have EQ := Lib.hid (E2.out.below hbq)
          have RQ := Lib.hid (R2.out.below hbq)
          clear hno hbq
          by_cases hjk : j < k
          · have hjl : j < l.length := by omega
            obtain ⟨ba2, off2, e2, hba2, hcs2⟩ := cfg_addr (HR.out.below RQ.out.bel (Nat.le_refl _)) HL.out (by omega)
            simp only [Option.some.injEq, Addr.mk.injEq] at e2
            obtain ⟨rfl, rfl, -⟩ := e2
            obtain ⟨c0, c1, c2, c3, c4⟩ := hcs2 j hjl
            have hbq2 : ba < wq.heap.size := Nat.lt_of_lt_of_le hba2 RQ.out.bel.size
            have HTJ := Lib.hid (List.take_succ_eq_append_getElem hjl)
            have HJM := Lib.hid (show l[j]'hjl ∈ l.take k from List.mem_take_iff_getElem.2 ⟨j, by omega, rfl⟩)
            generalize l[j]'hjl = dd at *
            obtain ⟨ds, di, de, dp, dl⟩ := dd
            simp only [] at c0 c1 c2 c3 c4
            have EY := Lib.hid (EQ.out.lay #[.string ds, .int .i64 di, .int .i64 de, .int .i64 dp, .int .i64 dl] 30)
            have y0 := EY.out.tl.hd.cell 0
            have hy0 := EY.out.tl.hd.lt
            have BY := Lib.hid (show Below w2.heap.size w2 (wq.alloc (.cells #[.string ds, .int .i64 di, .int .i64 de, .int .i64 dp, .int .i64 dl] 30)) from Below.alB BQ.out)
            simp at y0
            have ij0 : (0 : Int) ≤ (j : Int) := by omega
            have ij1 : (j : Int) < (k : Int) := by omega
            clear hcs2
            cases hq : eqB ds cs with
            | true =>
              have h3 : (ds.toList == cs.toList) = true := hq
              have heq : ds = cs := (eqB_iff ds cs).1 hq
              have Q5 := Lib.hid (show newTE l = 5 by
                rw [HNT.out]
                exact CKt.out HE.out (List.any_eq_true.2 ⟨ds, List.mem_map.2 ⟨_, HJM.out, rfl⟩, by simp [heq]⟩))
              have FIN := Lib.hid (show ∀ W', Below w2.heap.size w2 W' → RnewIs w l (.returned (.tuple #[.pointer none, .int .i64 5])) W' from fun W' hb => .inr ⟨by rw [Q5.out]; decide, by rw [Q5.out], Below.thru5 R2.out.bel hb⟩)
              clear hq heq
              go_wp2
              go_ret2
              exact FIN.out _ BY.out
            | false =>
              have h3 : (ds.toList == cs.toList) = false := hq
              have hne : ¬ ds = cs := fun e => by have := (eqB_iff ds cs).2 e; rw [hq] at this; cases this
              have NX := Lib.hid (show ((l.take (j + 1)).map Prod.fst).any (fun x => decide (x = cs)) = false by
                rw [HTJ.out, List.map_append, List.any_append, NO.out]
                simp [hne])
              clear hq hne
              go_wp2
              exact ⟨⟨j + 1, by omega, by simp, NX.out, BY.out⟩, by simp [RowKit.intOf]; omega⟩
          · obtain rfl : j = k := by omega
            have CKN := Lib.hid (CKn.out HE.out NO.out)
            obtain ⟨F, nv, bs, -, hC0, hM0, hT0⟩ := RL.out
            have hbk : bs.length = j := by rw [hT0.len, List.length_map, List.length_take]; omega
            obtain ⟨An, cn, rfl⟩ := ownsRow_len hT0.nds.1
            have hC := hC0.below EQ.out.bel
            have hM := hM0.trans (.below hC0 EQ.out.bel)
            have hT := hT0.below hC0 EQ.out.bel
            have HT := Lib.hid hT
            have HCC := Lib.hid hC
            have HMM := Lib.hid hM
            have HBK := Lib.hid hbk
            obtain ⟨htb, z0⟩ := hT.cells
            have HTB := Lib.hid (show ¬ (Value.slice An bs.length cn).ownBlock = some tb from fun e => by have := hT.nds.2 _ e; have := hT.blk.2; omega)
            have HXO := Lib.hid (show ¬ (Value.slice An bs.length cn).ownBlock = some wo.heap.size from fun e => by have := (hT0.nds.1.lt _ e).2; omega)
            have HB10 := Lib.hid (show bs.length ≤ 10 by omega)
            have HND := Lib.hid hT.nds.1
            have HXB := Lib.hid EQ.out.hd
            have hbt := hT.blk.1
            have hxl := EQ.out.hd.lt
            have HS := Lib.hid (show ∀ w', Kept (fun x => (Value.slice An bs.length cn).ownBlock = some x) wq w' → (Kept (fun x => (Value.slice An bs.length cn).ownBlock = some x) wq w' ∧ w'.cell? ⟨tb, 0, none⟩ = some (.slice An bs.length cn) ∧ w'.cell? ⟨wo.heap.size, 0, none⟩ = some (.string cs) ∧ w'.cell? ⟨wo.heap.size, 1, none⟩ = some (.int .i64 ci) ∧ w'.cell? ⟨wo.heap.size, 2, none⟩ = some (.int .i64 ce) ∧ w'.cell? ⟨wo.heap.size, 3, none⟩ = some (.int .i64 cp) ∧ w'.cell? ⟨wo.heap.size, 4, none⟩ = some (.int .i64 cl)) from fun w' hk =>
              ⟨hk, hk.cell z0 HTB.out, hk.cell (HXB.out.cell 0) HXO.out, hk.cell (HXB.out.cell 1) HXO.out, hk.cell (HXB.out.cell 2) HXO.out, hk.cell (HXB.out.cell 3) HXO.out, hk.cell (HXB.out.cell 4) HXO.out⟩)
            have HFZ := Lib.hid (show ∀ w', Kept (fun x => (Value.slice An bs.length cn).ownBlock = some x) wq w' → w'.frozen? ⟨tb, 0, none⟩ = false ∧ tb < w'.heap.size from fun w' hk => ⟨(hk.blk hbt HTB.out).frozen 0, Nat.lt_of_lt_of_le htb hk.size⟩)
            clear hC hM hT hbk hC0 hM0 hT0 hbt z0
            go_upto_region 16 with fail
            obtain ⟨-, z0, x0, x1, x2, x3, x4⟩ := HS.out wq (Kept.refl _ _)
            go_region_law ((refine step_node (by rfl) _ _ (by rfl) _ An cn bs (by rfl) HND.out 1 (by rfl) HB10.out ?_; intro A9 c9 w9 hown9 hgr9 BK9; have hK9 : Kept (fun x => (Value.slice An bs.length cn).ownBlock = some x) wq w9 := Kept.grown (((Kept.refl _ _).alloc _).alloc _).drew hgr9 (fun k hk => .inl hk); obtain ⟨zf9, zl9⟩ := HFZ.out w9 hK9; obtain ⟨-, z9, -⟩ := HS.out w9 hK9))
            all_goals
              obtain ⟨F', p1, p2, p3⟩ := HT.out.push HCC.out (by have := HBK.out; omega) (Nat.le_refl _) (rnode_new ((Blk.new wq 73 (rnodeCs (cs, ci, ce, cp, cl) 0 0 (.slice none 0 0) (.slice none 0 0))))) (Below.alB (Below.refl _ _)) (Below.drew (Below.alB (Below.refl _ _))) hown9 hgr9 BK9.out
              have FIN := Lib.hid (show R1Rel w l tb db (j + 1) (w9.setCell ⟨tb, 0, none⟩ (.slice A9 (bs.length + 1) c9)) from ⟨F', _, bs ++ [wq.heap.size], CKN.out, p1, HMM.out.trans (p2.mono (fun c hc => by have := HBK.out; unfold RefC; omega)), by rw [HTK.out, List.map_append]; exact p3⟩)
              clear p1 p2 p3 hown9 hgr9 BK9 hK9 z9 zf9
              go_wp2
              exact ⟨⟨j + 1, by omega, by simp, FIN.out⟩, by simp [RowKit.intOf]; omega⟩
      · obtain ⟨e0, he0⟩ : ∃ e0, cfgE (cs, ci, ce, cp, cl) = e0 := ⟨_, rfl⟩
        have Q1 := Lib.hid ((CKb.out he).trans he0)
        rw [he0] at he
        have HE := Lib.hid he0
        have HZ := Lib.hid he
        have hz1 : (e0 != 0) = true := by simpa using he
        clear he he0
        go_wp2_with fail
        refine (rcfg_anyT cs ci ce cp cl e0 HE.out _).mono ?_
        rintro e' w2 ⟨rfl, hb2⟩
        have FIN := Lib.hid (show RnewIs w l (.returned (.tuple #[.pointer none, .int .i64 e0])) w2 from .inr ⟨by rw [HNT.out, Q1.out]; exact HZ.out, by rw [HNT.out, Q1.out], Below.thru5 RX.out.bel hb2⟩)
        clear hb2
        go_wp2
        go_ret2
        exact FIN.out
    · obtain rfl : k = n := by omega
      have HL2 := HL.out
      subst HL2
      obtain ⟨nv, bs, hne, hbs, hgo, h3, F0, hnr⟩ := RL.out.fin
      obtain ⟨An, cn, rfl⟩ := ownsRow_len hnr.1
      have L0 := Lib.hid h3
      have HNE := Lib.hid hne
      have HGO := Lib.hid hgo
      have HBS := Lib.hid hbs
      clear hne hgo hnr h3 hbs
      have hbs5 : (bs.length : Int) ≤ 5 := by have := HBS.out; omega
      obtain ⟨htb, z1⟩ := L0.out.cell1
      go_wp2_with fail
      go_loopw [64] (fun iv wr => ∃ i : Nat, i ≤ l.length ∧ iv = .int .i64 (i : Int) ∧ R3Rel w l tb db (.slice An bs.length cn) bs i 0 wr) (fun iv _ => l.length - (RowKit.intOf iv).toNat)
      case atStart => exact ⟨0, Nat.zero_le _, rfl, L0.out⟩
      case round =>
        obtain ⟨i, hi, rfl, hrel⟩ := hrel
        obtain ⟨wp, rfl⟩ : ∃ wp, wp = wr := ⟨_, rfl⟩
        have LP := Lib.hid hrel
        clear hrel L0 z1
        by_cases hil : i < l.length
        · have hib : i < bs.length := by rw [HBS.out]; exact hil
          obtain ⟨gn, cn', e1, hn1, hn2, hgn, g0⟩ := LP.out.ptr hib
          simp only [Value.slice.injEq] at e1
          obtain ⟨rfl, -, rfl⟩ := e1
          unfold maxLen at hn2
          have ii0 : (0 : Int) ≤ (i : Int) := by omega
          have ii1 : (i : Int) < (bs.length : Int) := by omega
          have HND := Lib.hid (fun k W' (hk : k < l.length) (hL : R3Rel w l tb db (.slice (some ⟨gn, 0, none⟩) bs.length cn) bs i k W') => hL.node HBS.out h5 HGO.out hib hk (hs _ (List.getElem_mem hk)))
          generalize bs[i]'hib = b at *
          go_wp2_with fail
          go_loopw [70] (fun kv wr => ∃ k : Nat, k ≤ l.length ∧ kv = .int .i64 (k : Int) ∧ R3Rel w l tb db (.slice (some ⟨gn, 0, none⟩) bs.length cn) bs i k wr) (fun kv _ => l.length - (RowKit.intOf kv).toNat)
          case atStart => exact ⟨0, Nat.zero_le _, rfl, LP.out⟩
          case round =>
            obtain ⟨k, hk, rfl, hrel⟩ := hrel
            obtain ⟨wq, rfl⟩ : ∃ wq, wq = wr := ⟨_, rfl⟩
            have LQ := Lib.hid hrel
            clear hrel g0
            by_cases hkl : k < l.length
            · obtain ⟨ba, off, rfl, hba, hcs⟩ := cfg_addr (HR.out.below LQ.out.bel (Nat.le_refl _)) rfl (by omega)
              obtain ⟨c0, c1, c2, c3, c4⟩ := hcs k hkl
              have hbo : ba < wq.heap.size := Nat.lt_of_lt_of_le hba LQ.out.bel.size
              have HN2 := Lib.hid (fun W' hL => HND.out k W' hkl hL)
              generalize l[k]'hkl = cc at *
              obtain ⟨cs, ci, ce, cp, cl⟩ := cc
              simp only [] at c0 c1 c2 c3 c4 HN2
              have EX := Lib.hid ((Env.start wq).lay #[.string cs, .int .i64 ci, .int .i64 ce, .int .i64 cp, .int .i64 cl] 30)
              have LX := Lib.hid (LQ.out.below EX.out.bel)
              have ik1 : (k : Int) < (l.length : Int) := by omega
              clear hcs
              go_wp2_with fail
              refine (HN2.out _ LX.out).mono ?_
              rintro e' w2 ⟨⟨er, rfl⟩, hL2⟩
              have FIN := Lib.hid hL2
              clear hL2
              go_wp2
              exact ⟨⟨k + 1, by omega, by simp, FIN.out⟩, by simp [RowKit.intOf]; omega⟩
            · obtain rfl : k = l.length := by omega
              have FIN := Lib.hid LQ.out.outer
              go_wp2
              exact ⟨⟨i + 1, by omega, by simp, FIN.out⟩, by simp [RowKit.intOf]; omega⟩
        · obtain rfl : i = l.length := by omega
          have hbl : (bs.length : Int) ≤ (l.length : Int) := by have := HBS.out; omega
          have FIN := Lib.hid (show RnewIs w l (.returned (.tuple #[.pointer (some ⟨tb, 0, none⟩), .int .i64 0])) wp from .inl ⟨HNT.out.trans HNE.out, tb, rfl, LP.out.done⟩)
          go_wp2
          go_ret2
          exact FIN.out
theorem rtnew_any (A : Option Addr) (c : Nat) (l : List CfgD) (hc : l.length ≤ c ∧ c ≤ maxLen) (hs : ∀ c ∈ l, c.1.size ≤ maxLen) (w : World) (hr : Reads w w.heap.size 5 A l.length (cellsCf l)) :
    Calls Tryz.prog 6 #[.slice A l.length c] w (RnewIs w l) := by
  by_cases h5 : 5 < l.length
  · have he : newTE l = 2 := by unfold newTE; rw [if_pos h5]
    exact (rtnew_large A c _ h5 w).mono fun e W' ⟨k1, k2⟩ => .inr ⟨by rw [he]; decide, by rw [he]; exact k1, k2 ▸ Below.refl _ _⟩
  · exact rtnew_go A c _ l rfl (by omega) hc hs w hr
end Go.Proofs.YtcikljcjhijjdabGreat

namespace Go.Proofs.YtcikljcjhijjdabGreat
open Go.RowKit Go.Lib
set_option linter.unusedSimpArgs false
set_option linter.unusedVariables false

theorem prog_ref {c : Nat} (h : ProgC c) : ¬ RefC c := by unfold ProgC at h; unfold RefC; omega
theorem ref_prog {c : Nat} (h : RefC c) : ¬ ProgC c := by unfold RefC at h; unfold ProgC; omega
structure TQ (w W : World) (F : Nat → Nat) (tb : Nat) (t : TSt) (tb2 : Nat) (t2 : TSt) : Prop where
  col : Col w W F
  pr : TwAt F W tb t
  rf : RwAt F W tb2 t2
  g1 : TGood t
  g2 : TGood t2
section
variable {w W W1 W2 : World} {F F1 : Nat → Nat} {tb tb2 : Nat} {t t1 t2 : TSt}
theorem TwAt.other {P : Nat → Prop} (h : TwAt F W tb t) (hC : Col w W F) (m : Moved P F W F1 W1) (hP : ∀ c, P c → ¬ ProgC c) (h5 : t.L.length ≤ 5) : TwAt F1 W1 tb t := by
  obtain ⟨_, _, _, _, _, _, h⟩ := h
  exact ⟨_, _, _, _, _, _, h.other hC m hP h5⟩
theorem RwAt.other {P : Nat → Prop} (h : RwAt F W tb2 t) (hC : Col w W F) (m : Moved P F W F1 W1) (hP : ∀ c, P c → ¬ RefC c) (h5 : t.L.length ≤ 5) : RwAt F1 W1 tb2 t := by
  obtain ⟨_, _, _, _, h⟩ := h
  exact ⟨_, _, _, _, h.other hC m hP h5⟩
theorem TQ.below (h : TQ w W F tb t tb2 t2) (hb : Below W.heap.size W W1) : TQ w W1 F tb t tb2 t2 :=
  ⟨h.col.below hb, h.pr.other h.col (.below (P := fun _ => False) h.col hb) (fun _ h => h.elim) h.g1.five, h.rf.other h.col (.below (P := fun _ => False) h.col hb) (fun _ h => h.elim) h.g2.five, h.g1, h.g2⟩
theorem TQ.p (h : TQ w W F tb t tb2 t2) (k : TwTo w F W tb t1 W1) (g : TGood t1) : ∃ F1, Moved ProgC F W F1 W1 ∧ TQ w W1 F1 tb t1 tb2 t2 := by
  obtain ⟨F1, k1, k2, k3⟩ := k
  exact ⟨F1, k2, k1, k3, h.rf.other h.col k2 (fun c hc => prog_ref hc) h.g2.five, g, h.g2⟩
theorem TQ.r (h : TQ w W F tb t tb2 t2) (k : RwTo w F W tb2 t1 W1) (g : TGood t1) : ∃ F1, Moved RefC F W F1 W1 ∧ TQ w W1 F1 tb t tb2 t1 := by
  obtain ⟨F1, k1, k2, k3⟩ := k
  exact ⟨F1, k2, k1, h.pr.other h.col k2 (fun c hc => ref_prog hc) h.g1.five, k3, h.g1, g⟩
/-- the first's notes over a call of the second -/
theorem notes_over {F2 : Nat → Nat} {n : Nat} {A : Option Addr} {c : Nat} {xs : List Value} (ho : W1.ownsRow W.heap.size 55 3 (.slice A n c) n xs) (m : Moved ProgC F W F1 W1) (m2 : Moved RefC F1 W1 F2 W2) : Reads W2 W2.heap.size 3 A n xs :=
  Reads.of_own (m2.kept.own ho (fun k hk hx => by
    have hl := (ho.lt k hk).1
    by_cases h0 : F1 k = 0
    · have hx : RefC (F1 k) := hx
      rw [h0] at hx
      unfold RefC at hx
      omega
    · exact prog_ref (m.new k hl h0) hx))
/-- the two towns are of one state -/
def TPRel (w : World) (tb tb2 : Nat) (W : World) : Prop := ∃ t F, TQ w W F tb t tb2 t
/-- behind an operation -/
def TOp (w : World) (tb tb2 : Nat) (e f p q : Value) (W : World) : Prop :=
  ∃ (t : TSt) (er : Int) (N : List TriD) (A1 A2 : Option Addr) (n c1 c2 : Nat), e = .int .i64 er ∧ f = .int .i64 er ∧ p = .slice A1 n c1 ∧ q = .slice A2 n c2 ∧ N.length = n ∧ n ≤ 100 ∧ Reads W W.heap.size 3 A1 n (cells3 N) ∧ Reads W W.heap.size 3 A2 n (cells3 N) ∧ ∃ F, TQ w W F tb t tb2 t
theorem TOp.err {er : Int} (h : TQ w W F tb t tb2 t) : TOp w tb tb2 (.int .i64 er) (.int .i64 er) (.slice none 0 0) (.slice none 0 0) W :=
  ⟨t, er, [], none, none, 0, 0, 0, rfl, rfl, rfl, rfl, rfl, by decide, Reads.none_, Reads.none_, F, h⟩
theorem TOp.notes {er : Int} {N : List TriD} {A1 A2 : Option Addr} {c1 c2 : Nat} {F2 : Nat → Nat} (hN : N.length ≤ 100) (ho : W1.ownsRow W.heap.size 55 3 (.slice A1 N.length c1) N.length (cells3 N)) (m : Moved ProgC F W F1 W1) (m2 : Moved RefC F1 W1 F2 W2)
    (ho2 : W2.ownsRow W1.heap.size 55 3 (.slice A2 N.length c2) N.length (cells3 N)) (h : TQ w W2 F2 tb t tb2 t) : TOp w tb tb2 (.int .i64 er) (.int .i64 er) (.slice A1 N.length c1) (.slice A2 N.length c2) W2 :=
  ⟨t, er, N, A1, A2, N.length, c1, c2, rfl, rfl, rfl, rfl, rfl, hN, notes_over ho m m2, Reads.of_own ho2, F2, h⟩
theorem bringN_le (h : TGood t) (i z : Int) : (t.bringN i z).length ≤ 100 := by
  unfold TSt.bringN
  split
  · next hc =>
    have hl : t.lives z = true := by simp at hc; exact hc.2
    exact Nat.le_trans (NSt.hearN_le (TSt.at_good h hl) _) (by decide)
  · simp
theorem joinN_le (h : TGood t) (i : Int) (id : ByteArray) (th : Int) : (t.joinN i id th).length ≤ 100 := by
  unfold TSt.joinN
  split
  · next hl => exact Nat.le_trans (NSt.joinN_le (TSt.at_good h hl) _ _) (by decide)
  · simp
/-! ### the calls, of the two beside each other -/
theorem TQ.tick (h : TQ w W F tb t tb2 t2) (g : Int) : Calls Tryz.prog 9 #[.pointer (some ⟨tb, 0, none⟩), .int .i64 g] W (TwN w F W tb (t.ticked g) (t.tickN g) (t.tickE g)) := by
  obtain ⟨_, _, _, _, _, _, k⟩ := h.pr
  exact ttick_any k h.col h.g1 g
theorem TQ.rtick (h : TQ w W F tb t tb2 t2) (g : Int) : Calls Tryz.prog 10 #[.pointer (some ⟨tb2, 0, none⟩), .int .i64 g] W (RwN w F W tb2 (t2.ticked g) (t2.tickN g) (t2.tickE g)) := by
  obtain ⟨_, _, _, _, k⟩ := h.rf
  exact rttick_any k h.col h.g2 g
theorem TQ.bring (h : TQ w W F tb t tb2 t2) (i z : Int) : Calls Tryz.prog 11 #[.pointer (some ⟨tb, 0, none⟩), .int .i64 i, .int .i64 z] W (TwN w F W tb (t.brought i z) (t.bringN i z) (t.bringE i z)) := by
  obtain ⟨_, _, _, _, _, _, k⟩ := h.pr
  exact tbring_any k h.col h.g1 i z
theorem TQ.rbring (h : TQ w W F tb t tb2 t2) (i z : Int) : Calls Tryz.prog 12 #[.pointer (some ⟨tb2, 0, none⟩), .int .i64 i, .int .i64 z] W (RwN w F W tb2 (t2.brought i z) (t2.bringN i z) (t2.bringE i z)) := by
  obtain ⟨_, _, _, _, k⟩ := h.rf
  exact rbring_any k h.col h.g2 i z
theorem TQ.lose (h : TQ w W F tb t tb2 t2) (i : Int) : Calls Tryz.prog 13 #[.pointer (some ⟨tb, 0, none⟩), .int .i64 i] W (TwE w F W tb (t.lost i) (t.loseE i)) := by
  obtain ⟨_, _, _, _, _, _, k⟩ := h.pr
  exact tlose_any k h.col h.g1 i
theorem TQ.rlose (h : TQ w W F tb t tb2 t2) (i : Int) : Calls Tryz.prog 14 #[.pointer (some ⟨tb2, 0, none⟩), .int .i64 i] W (RwE w F W tb2 (t2.lost i) (t2.loseE i)) := by
  obtain ⟨_, _, _, _, k⟩ := h.rf
  exact rlose_any k h.col h.g2 i
theorem TQ.stop (h : TQ w W F tb t tb2 t2) (i : Int) : Calls Tryz.prog 5 #[.pointer (some ⟨tb, 0, none⟩), .int .i64 i] W (TwE w F W tb (t.stopped i) (t.stopE i)) := by
  obtain ⟨_, _, _, _, _, _, k⟩ := h.pr
  exact tstop_any k h.col i
theorem TQ.rstop (h : TQ w W F tb t tb2 t2) (i : Int) : Calls Tryz.prog 15 #[.pointer (some ⟨tb2, 0, none⟩), .int .i64 i] W (RwE w F W tb2 (t2.stopped i) (t2.stopE i)) := by
  obtain ⟨_, _, _, _, k⟩ := h.rf
  exact rstop_any k h.col h.g2.five i
theorem TQ.lives (h : TQ w W F tb t tb2 t2) (i : Int) : Calls Tryz.prog 16 #[.pointer (some ⟨tb2, 0, none⟩), .int .i64 i] W fun e W' => e = .returned (.bool (t2.lives i)) ∧ W = W' := by
  obtain ⟨_, _, _, _, k⟩ := h.rf
  exact rlives_any k h.g2.five i
theorem TQ.join (h : TQ w W F tb t tb2 t2) (i : Int) (id : ByteArray) (th : Int) : Calls Tryz.prog 19 #[.pointer (some ⟨tb, 0, none⟩), .int .i64 i, .string id, .int .i64 th] W (TwN w F W tb (t.joined i id th) (t.joinN i id th) (t.joinE i id th)) := by
  obtain ⟨_, _, _, _, _, _, k⟩ := h.pr
  exact tjoin_any k h.col h.g1 i id th
theorem TQ.level_no (h : TQ w W F tb t tb2 t2) (i : Int) (id : ByteArray) (hl : t.lives i = false) : Calls Tryz.prog 17 #[.pointer (some ⟨tb, 0, none⟩), .int .i64 i, .string id] W fun e W' => e = .returned (.tuple #[.int .i64 0, .int .i64 4]) ∧ W = W' := by
  obtain ⟨_, _, _, _, _, _, k⟩ := h.pr
  exact tlevel_no k i (lives_false hl) id
theorem TQ.level (h : TQ w W F tb t tb2 t2) (k : Nat) (hk : k < t.L.length) (hd : (t.L[k]'hk).2 = false) (id : ByteArray) : Calls Tryz.prog 17 #[.pointer (some ⟨tb, 0, none⟩), .int .i64 (k : Int), .string id] W (LvIs ((t.L[k]'hk).1.lv id) (lvEr (t.L[k]'hk).1.D id) W) := by
  obtain ⟨_, _, _, _, _, _, q⟩ := h.pr
  exact tlevel_ok q k hk hd (h.g1.good _ (List.getElem_mem hk)) id
/-- the reference's k-th node, as the law reaches it -/
theorem TQ.rnode (h : TQ w W F tb t tb2 t2) (k : Nat) (hk : k < t2.L.length) (hd : (t2.L[k]'hk).2 = false) : ∃ gn cn b, tb2 < W.heap.size ∧ W.cell? ⟨tb2, 0, none⟩ = some (.slice (some ⟨gn, 0, none⟩) t2.L.length cn) ∧ t2.L.length ≤ cn ∧ cn ≤ maxLen ∧ gn < W.heap.size ∧ W.cell? ⟨gn, k, none⟩ = some (.pointer (some ⟨b, 0, none⟩)) ∧
    (∀ id, Calls Tryz.prog 18 #[.pointer (some ⟨b, 0, none⟩), .string id] W (LvIs ((t2.L[k]'hk).1.lv id) (lvEr (t2.L[k]'hk).1.D id) W)) ∧
    (∀ id th, Calls Tryz.prog 20 #[.pointer (some ⟨b, 0, none⟩), .string id, .int .i64 th] W (RwN w F W tb2 (t2.node k ((t2.L[k]'hk).1.joined id th)) ((t2.L[k]'hk).1.joinN id th) ((t2.L[k]'hk).1.joinE id th))) := by
  obtain ⟨_, _, _, bs, q⟩ := h.rf
  have hg := h.g2.good _ (List.getElem_mem hk)
  have hb : k < bs.length := by rw [q.len]; exact hk
  obtain ⟨gn, cn, rfl, h1, h2, h3, -, h4⟩ := q.at_ hk
  obtain ⟨c1, c2, -⟩ := q.cells
  obtain ⟨_, _, _, _, _, hn⟩ := q.node k hb hk
  exact ⟨gn, cn, _, c1, c2, h1, h2, h3, h4, fun id => rlv_core hn.blk hn.peers hn.map hg id, fun id th => (rjoin_any hn hg id th).mono fun e W' hr => q.hrIs h.col h.g2.five hk hd hr⟩
set_option maxHeartbeats 400000 in
set_option maxRecDepth 100000 in
theorem TQ.way (h : TQ w W F tb t tb2 t2) : Calls Tryz.prog 23 #[.pointer (some ⟨tb, 0, none⟩)] W (NewT t.way.length (cellsTx t.way) W) := by
  obtain ⟨_, _, _, _, _, _, k⟩ := h.pr
  have hw := h.g1.way
  obtain ⟨htb, -, -, -, b3⟩ := k.cells
  obtain ⟨Aw, cw, rfl⟩ := ownsRow_len k.way.1
  have HCL := Lib.hid (clT_any Aw cw t.way.length W.heap.size (cellsTx t.way) hw (oneCell_T _) W (Reads.of_own k.way.1) (Nat.le_refl _))
  clear h k
  generalize cellsTx t.way = xs at *
  generalize t.way.length = m at *
  go_enter Tryz.func23, Tryz.ntmps23
  go_wp2_with fail
  refine HCL.out.mono ?_
  rintro e' w2 ⟨A9, c9, rfl, h9, hb9⟩
  have H9 := Lib.hid (show NewT m xs W (.returned (.slice A9 m c9)) w2 from ⟨A9, c9, rfl, h9, hb9⟩)
  clear h9 hb9
  go_wp2
  go_ret
  exact H9.out
/-- what is under way, at the reference's -/
theorem TQ.rway (h : TQ w W F tb t tb2 t2) : ∃ Aw cw, tb2 < W.heap.size ∧ W.cell? ⟨tb2, 2, none⟩ = some (.slice Aw t2.way.length cw) ∧ Reads W W.heap.size 1 Aw t2.way.length (cellsTx t2.way) := by
  obtain ⟨_, _, _, _, q⟩ := h.rf
  obtain ⟨c1, -, -, c2⟩ := q.cells
  obtain ⟨Aw, cw, rfl⟩ := ownsRow_len q.way.1
  exact ⟨Aw, cw, c1, c2, Reads.of_own q.way.1⟩
end
/-- two towns made one behind the other -/
theorem TQ.start {w W W1 W2 : World} {tb tb2 : Nat} {t : TSt} (hw : Below w.heap.size w W) (hg : TGood t) (h1 : TwTo W (fun _ => 0) W tb t W1) (h2 : RwTo W1 (fun _ => 0) W1 tb2 t W2) : TPRel w tb tb2 W2 := by
  obtain ⟨F1, c1, m1, p1⟩ := h1
  obtain ⟨F2, c2, m2, r2⟩ := h2
  have q1 : ∀ k, F1 k = 0 ∨ ProgC (F1 k) := fun k => by
    by_cases hl : W.heap.size ≤ k
    · by_cases h0 : F1 k = 0
      · exact .inl h0
      · exact .inr (m1.new k hl h0)
    · exact .inl (m1.old k (by omega))
  have q2 : ∀ k, F2 k = 0 ∨ (W1.heap.size ≤ k ∧ RefC (F2 k)) := fun k => by
    by_cases hl : W1.heap.size ≤ k
    · by_cases h0 : F2 k = 0
      · exact .inl h0
      · exact .inr ⟨hl, m2.new k hl h0⟩
    · exact .inl (m2.old k (by omega))
  have z0 : ¬ RefC 0 := by unfold RefC; omega
  obtain ⟨G, hG⟩ : ∃ G : Nat → Nat, ∀ k, G k = if k < W1.heap.size then F1 k else F2 k := ⟨_, fun _ => rfl⟩
  have hC1 := c1.below c2.bel
  have m : Moved RefC F1 W1 G W2 := ⟨.of_below c2.bel, fun k hk => by rw [hG, if_pos hk], fun k hk h0 => by
    rw [hG, if_neg (by omega)] at h0 ⊢
    exact (q2 k).elim (fun e => absurd e h0) (fun e => e.2)⟩
  have hGc : ∀ k c, RefC c → (F2 k = c ↔ G k = c) := fun k c hc => by
    rw [hG]
    split
    · next hl =>
      constructor
      · intro e
        rcases q2 k with h | h
        · rw [h] at e; exact absurd (e ▸ hc) z0
        · omega
      · intro e
        rcases q1 k with h | h
        · rw [h] at e; exact absurd (e ▸ hc) z0
        · rw [e] at h; exact absurd hc (prog_ref h)
    · exact Iff.rfl
  have hcol : Col w W2 G := ⟨fun k h0 => by
    rw [hG] at h0
    split at h0
    · exact Nat.le_trans hw.size (c1.lo k h0)
    · exact Nat.le_trans (Nat.le_trans hw.size c1.bel.size) (c2.lo k h0), fun k h0 => by
    rw [hG] at h0
    split at h0
    · exact Nat.lt_of_lt_of_le (c1.hi k h0) c2.bel.size
    · exact c2.hi k h0, Below.thru5 hw (Below.thru5 c1.bel c2.bel)⟩
  refine ⟨t, G, hcol, p1.other c1 m (fun c hc => ref_prog hc) hg.five, ?_, hg, hg⟩
  obtain ⟨db, nv, wv, bs, r⟩ := r2
  have hfun : ∀ c, RefC c → (fun k => F2 k = c) = (fun k => G k = c) := fun c hc => funext fun k => propext (hGc k c hc)
  have hn5 := hg.five
  refine ⟨db, nv, wv, bs, ⟨r.blk.1, (hGc _ 6 (by unfold RefC; omega)).1 r.blk.2⟩, ⟨r.nds.1, fun k hk => (hGc _ 7 (by unfold RefC; omega)).1 (r.nds.2 k hk)⟩, r.ded, (hGc _ 8 (by unfold RefC; omega)).1 r.fdb, ⟨r.way.1, fun k hk => (hGc _ 9 (by unfold RefC; omega)).1 (r.way.2 k hk)⟩, r.len, fun i hi hi' => ?_⟩
  have := r.node i hi hi'
  rw [hfun (20 + i) (by unfold RefC; omega)] at this
  exact this
theorem TGood.start {l : List CfgD} (h5 : l.length ≤ 5) (hg : ∀ c ∈ l, cfgE c = 0) : TGood (TSt.start l) :=
  ⟨by simpa [TSt.start] using h5, fun p hp => by
    obtain ⟨c, hc, rfl⟩ := List.mem_map.1 hp
    exact (NGood.start (hg c hc)).watchAll l, by simp [TSt.start]⟩
theorem chkIds_good : ∀ (l : List CfgD) (ids : List ByteArray), chkIds ids l = 0 → ∀ c ∈ l, cfgE c = 0
  | [], _, _, c, hc => by cases hc
  | d :: l, ids, h, c, hc => by
    simp only [chkIds] at h
    by_cases he : cfgE d = 0
    · rw [if_pos he] at h
      by_cases ht : ids.any (fun x => decide (x = d.1)) = true
      · rw [if_pos ht] at h; cases h
      · rw [if_neg ht] at h
        rcases List.mem_cons.1 hc with rfl | hc
        · exact he
        · exact chkIds_good l _ h c hc
    · rw [if_neg he] at h; exact absurd h he
theorem newTE_good {l : List CfgD} (h : newTE l = 0) : l.length ≤ 5 ∧ ∀ c ∈ l, cfgE c = 0 := by
  unfold newTE at h
  by_cases h5 : 5 < l.length
  · rw [if_pos h5] at h; cases h
  · rw [if_neg h5] at h
    exact ⟨by omega, chkIds_good l [] h⟩
end Go.Proofs.YtcikljcjhijjdabGreat
