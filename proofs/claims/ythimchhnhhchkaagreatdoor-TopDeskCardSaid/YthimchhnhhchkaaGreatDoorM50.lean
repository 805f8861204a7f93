/- The desk: what a line asks: tick, bring, lose, stop. (with what it needs) -/
import Derived.Test.YthimchhnhhchkaaGreatDoorM49
import Derived.Test.YthimchhnhhchkaaGreatDoorM47
namespace Go.Proofs.YthimchhnhhchkaaGreatDoor
open Go.RowKit Go.Lib
set_option linter.unusedSimpArgs false
set_option linter.unusedVariables false

set_option maxHeartbeats 1000000 in
set_option maxRecDepth 100000 in
theorem askw_tick {w W : World} {F : Nat → Nat} {db : Nat} {tb c cn : Nat} {A An : Option Addr} {t : TSt} {L : List CfgD} {g : Int} { x1 out : ByteArray} (hC : Col w W F) (h : DskAt F W db (.pointer (some ⟨tb, 0, none⟩)) An cn ⟨some t, L⟩) (h1 : NumW x1 g) (hs : SayN (t.tickN g) (t.tickE g) out) :
    AskTo w F W db ⟨some (t.ticked g), L⟩ (t.tickE g) out ⟨#[116, 105, 99, 107]⟩ [⟨#[116, 105, 99, 107]⟩, x1] A c := by
  intro W1 wb hb hwb hw
  have HC := Lib.hid hC
  have HD := Lib.hid h
  have HB := Lib.hid hb
  have HW := Lib.hid hw
  have HX1 := Lib.hid h1
  have HY := Lib.hid hs
  have B0 := Lib.hid (show Bx (W1.alloc (.cells #[.pointer (some ⟨db, 0, none⟩)] 35)) wb W1.heap.size 35 #[.pointer (some ⟨db, 0, none⟩)] from ⟨Blk.new _ _ _, fun e => by have := hw.wds.lt; omega⟩)
  have HWB := Lib.hid hwb
  have HS0 := Lib.hid hb.size
  have HWL := Lib.hid hw.wds.lt
  have D1 := Lib.hid (hw.below ((Below.refl _ _).alloc (Nat.le_refl _) (.cells #[.pointer (some ⟨db, 0, none⟩)] 35)))
  have K1 := Lib.hid ((Kept.refl (fun x => x = wb) W1).alloc (.cells #[.pointer (some ⟨db, 0, none⟩)] 35))
  clear hC h hb hw hwb h1 hs
  go_enter Tryz.func25, Tryz.ntmps25
  go_wp2_with fail
  refine (numG D1.out x1 rfl g HX1.out).mono ?_
  rintro e' w2 ⟨rfl, hk2, hd2⟩
  have K2 := Lib.hid (K1.out.trans hk2)
  have B1 := Lib.hid (B0.out.kept hk2)
  have D2 := Lib.hid hd2
  clear hk2 hd2
  go_wp2
  go_ret
  have KA0 := Lib.hid (Kept.refl (fun x => x = wb) w2)
  have KA1 := Lib.hid (KA0.out.alloc (.cells #[.int .i64 g] 3))
  have BB1 := Lib.hid (show Bx (w2.alloc (.cells #[.int .i64 g] 3)) wb (w2.heap.size) 3 #[.int .i64 g] from ⟨by have := Blk.new w2 3 #[.int .i64 g]; simpa using this, fun e => by have := D2.out.wds.lt; omega⟩)
  have KA := Lib.hid (K2.out.trans KA1.out)
  have BA0 := Lib.hid (B1.out.kept KA1.out)
  have DA := Lib.hid (D2.out.below (show Below w2.heap.size w2 (w2.alloc (.cells #[.int .i64 g] 3)) from by refine Below.alB5 ?_; exact Below.refl _ _))
  refine ⟨_, _, rfl, KA.out, DA.out, fun W3 hb3 => ?_⟩
  have hbW : Below W.heap.size W W3 := (HB.out.trans (KA.out.below (B := W.heap.size) (fun k e => by rw [e]; exact HWB.out) HB.out.size)).trans (hb3.mono (Nat.le_trans HB.out.size KA.out.size))
  have hC3 := HC.out.below hbW
  have hD3 := HD.out.below HC.out hbW
  have hpd := BA0.out.box HC.out HB.out.size hb3
  have hp1 := BB1.out.box HC.out (Nat.le_trans HB.out.size K2.out.size) hb3
  obtain ⟨tb2, e2, ht3, hg3⟩ := hD3.town
  injection e2 with e2
  injection e2 with e2
  injection e2 with e2
  subst e2
  refine ⟨enters_of Tryz.func74 (by kernel_rfl) rfl, ?_⟩
  exact (asks_tick hC3 ht3 hg3 hpd hp1 hD3.blk HY.out).mono fun e W4 ⟨q1, q2⟩ => ⟨q1, hD3.twto hC3 q2 (hg3.ticked g)⟩
set_option maxHeartbeats 1000000 in
set_option maxRecDepth 100000 in
theorem askw_bring {w W : World} {F : Nat → Nat} {db : Nat} {tb c cn : Nat} {A An : Option Addr} {t : TSt} {L : List CfgD} {i j : Int} { x1 x2 out : ByteArray} (hC : Col w W F) (h : DskAt F W db (.pointer (some ⟨tb, 0, none⟩)) An cn ⟨some t, L⟩) (h1 : NumW x1 i) (h2 : NumW x2 j) (hs : SayN (t.bringN i j) (t.bringE i j) out) :
    AskTo w F W db ⟨some (t.brought i j), L⟩ (t.bringE i j) out ⟨#[98, 114, 105, 110, 103]⟩ [⟨#[98, 114, 105, 110, 103]⟩, x1, x2] A c := by
  intro W1 wb hb hwb hw
  have HC := Lib.hid hC
  have HD := Lib.hid h
  have HB := Lib.hid hb
  have HW := Lib.hid hw
  have HX1 := Lib.hid h1
  have HX2 := Lib.hid h2
  have HY := Lib.hid hs
  have B0 := Lib.hid (show Bx (W1.alloc (.cells #[.pointer (some ⟨db, 0, none⟩)] 35)) wb W1.heap.size 35 #[.pointer (some ⟨db, 0, none⟩)] from ⟨Blk.new _ _ _, fun e => by have := hw.wds.lt; omega⟩)
  have HWB := Lib.hid hwb
  have HS0 := Lib.hid hb.size
  have HWL := Lib.hid hw.wds.lt
  have D1 := Lib.hid (hw.below ((Below.refl _ _).alloc (Nat.le_refl _) (.cells #[.pointer (some ⟨db, 0, none⟩)] 35)))
  have K1 := Lib.hid ((Kept.refl (fun x => x = wb) W1).alloc (.cells #[.pointer (some ⟨db, 0, none⟩)] 35))
  clear hC h hb hw hwb h1 h2 hs
  go_enter Tryz.func25, Tryz.ntmps25
  go_wp2_with fail
  refine (numG D1.out x1 rfl i HX1.out).mono ?_
  rintro e' w2 ⟨rfl, hk2, hd2⟩
  have K2 := Lib.hid (K1.out.trans hk2)
  have B1 := Lib.hid (B0.out.kept hk2)
  have D2 := Lib.hid hd2
  clear hk2 hd2
  go_wp2_with fail
  refine (numG D2.out x2 rfl j HX2.out).mono ?_
  rintro e' w3 ⟨rfl, hk3, hd3⟩
  have K3 := Lib.hid (K2.out.trans hk3)
  have B2 := Lib.hid (B1.out.kept hk3)
  have D3 := Lib.hid hd3
  clear hk3 hd3
  go_wp2
  go_ret
  have KA0 := Lib.hid (Kept.refl (fun x => x = wb) w3)
  have KA1 := Lib.hid (KA0.out.alloc (.cells #[.int .i64 i] 3))
  have BB1 := Lib.hid (show Bx (w3.alloc (.cells #[.int .i64 i] 3)) wb (w3.heap.size) 3 #[.int .i64 i] from ⟨by have := Blk.new w3 3 #[.int .i64 i]; simpa using this, fun e => by have := D3.out.wds.lt; omega⟩)
  have KA2 := Lib.hid (KA1.out.alloc (.cells #[.int .i64 j] 3))
  have BB2 := Lib.hid (show Bx ((w3.alloc (.cells #[.int .i64 i] 3)).alloc (.cells #[.int .i64 j] 3)) wb (w3.heap.size + 1) 3 #[.int .i64 j] from ⟨by have := Blk.new (w3.alloc (.cells #[.int .i64 i] 3)) 3 #[.int .i64 j]; simpa using this, fun e => by have := D3.out.wds.lt; omega⟩)
  have BB1 := Lib.hid (BB1.out.kept ((Kept.refl (fun x => x = wb) _).alloc (.cells #[.int .i64 j] 3)))
  have KA := Lib.hid (K3.out.trans KA2.out)
  have BA0 := Lib.hid (B2.out.kept KA2.out)
  have DA := Lib.hid (D3.out.below (show Below w3.heap.size w3 ((w3.alloc (.cells #[.int .i64 i] 3)).alloc (.cells #[.int .i64 j] 3)) from by refine Below.alB5 ?_; refine Below.alB5 ?_; exact Below.refl _ _))
  refine ⟨_, _, rfl, KA.out, DA.out, fun W3 hb3 => ?_⟩
  have hbW : Below W.heap.size W W3 := (HB.out.trans (KA.out.below (B := W.heap.size) (fun k e => by rw [e]; exact HWB.out) HB.out.size)).trans (hb3.mono (Nat.le_trans HB.out.size KA.out.size))
  have hC3 := HC.out.below hbW
  have hD3 := HD.out.below HC.out hbW
  have hpd := BA0.out.box HC.out HB.out.size hb3
  have hp1 := BB1.out.box HC.out (Nat.le_trans HB.out.size K3.out.size) hb3
  have hp2 := BB2.out.box HC.out (Nat.le_trans (Nat.le_trans HB.out.size K3.out.size) (Nat.le_add_right _ _)) hb3
  obtain ⟨tb2, e2, ht3, hg3⟩ := hD3.town
  injection e2 with e2
  injection e2 with e2
  injection e2 with e2
  subst e2
  refine ⟨enters_of Tryz.func77 (by kernel_rfl) rfl, ?_⟩
  exact (asks_bring hC3 ht3 hg3 hpd hp1 hp2 hD3.blk HY.out).mono fun e W4 ⟨q1, q2⟩ => ⟨q1, hD3.twto hC3 q2 (hg3.brought i j)⟩
set_option maxHeartbeats 1000000 in
set_option maxRecDepth 100000 in
theorem askw_lose {w W : World} {F : Nat → Nat} {db : Nat} {tb c cn : Nat} {A An : Option Addr} {t : TSt} {L : List CfgD} {i : Int} { x1  : ByteArray} (hC : Col w W F) (h : DskAt F W db (.pointer (some ⟨tb, 0, none⟩)) An cn ⟨some t, L⟩) (h1 : NumW x1 i)  :
    AskTo w F W db ⟨some (t.lost i), L⟩ (t.loseE i) ⟨#[111, 107]⟩ ⟨#[108, 111, 115, 101]⟩ [⟨#[108, 111, 115, 101]⟩, x1] A c := by
  intro W1 wb hb hwb hw
  have HC := Lib.hid hC
  have HD := Lib.hid h
  have HB := Lib.hid hb
  have HW := Lib.hid hw
  have HX1 := Lib.hid h1
  have B0 := Lib.hid (show Bx (W1.alloc (.cells #[.pointer (some ⟨db, 0, none⟩)] 35)) wb W1.heap.size 35 #[.pointer (some ⟨db, 0, none⟩)] from ⟨Blk.new _ _ _, fun e => by have := hw.wds.lt; omega⟩)
  have HWB := Lib.hid hwb
  have HS0 := Lib.hid hb.size
  have HWL := Lib.hid hw.wds.lt
  have D1 := Lib.hid (hw.below ((Below.refl _ _).alloc (Nat.le_refl _) (.cells #[.pointer (some ⟨db, 0, none⟩)] 35)))
  have K1 := Lib.hid ((Kept.refl (fun x => x = wb) W1).alloc (.cells #[.pointer (some ⟨db, 0, none⟩)] 35))
  clear hC h hb hw hwb h1 
  go_enter Tryz.func25, Tryz.ntmps25
  go_wp2_with fail
  refine (numG D1.out x1 rfl i HX1.out).mono ?_
  rintro e' w2 ⟨rfl, hk2, hd2⟩
  have K2 := Lib.hid (K1.out.trans hk2)
  have B1 := Lib.hid (B0.out.kept hk2)
  have D2 := Lib.hid hd2
  clear hk2 hd2
  go_wp2
  go_ret
  have KA0 := Lib.hid (Kept.refl (fun x => x = wb) w2)
  have KA1 := Lib.hid (KA0.out.alloc (.cells #[.int .i64 i] 3))
  have BB1 := Lib.hid (show Bx (w2.alloc (.cells #[.int .i64 i] 3)) wb (w2.heap.size) 3 #[.int .i64 i] from ⟨by have := Blk.new w2 3 #[.int .i64 i]; simpa using this, fun e => by have := D2.out.wds.lt; omega⟩)
  have KA := Lib.hid (K2.out.trans KA1.out)
  have BA0 := Lib.hid (B1.out.kept KA1.out)
  have DA := Lib.hid (D2.out.below (show Below w2.heap.size w2 (w2.alloc (.cells #[.int .i64 i] 3)) from by refine Below.alB5 ?_; exact Below.refl _ _))
  refine ⟨_, _, rfl, KA.out, DA.out, fun W3 hb3 => ?_⟩
  have hbW : Below W.heap.size W W3 := (HB.out.trans (KA.out.below (B := W.heap.size) (fun k e => by rw [e]; exact HWB.out) HB.out.size)).trans (hb3.mono (Nat.le_trans HB.out.size KA.out.size))
  have hC3 := HC.out.below hbW
  have hD3 := HD.out.below HC.out hbW
  have hpd := BA0.out.box HC.out HB.out.size hb3
  have hp1 := BB1.out.box HC.out (Nat.le_trans HB.out.size K2.out.size) hb3
  obtain ⟨tb2, e2, ht3, hg3⟩ := hD3.town
  injection e2 with e2
  injection e2 with e2
  injection e2 with e2
  subst e2
  refine ⟨enters_of Tryz.func79 (by kernel_rfl) rfl, ?_⟩
  exact (asks_lose hC3 ht3 hg3 hpd hp1 hD3.blk).mono fun e W4 ⟨q1, q2⟩ => ⟨q1, hD3.twto hC3 q2 (hg3.lost i)⟩
set_option maxHeartbeats 1000000 in
set_option maxRecDepth 100000 in
theorem askw_stop {w W : World} {F : Nat → Nat} {db : Nat} {tb c cn : Nat} {A An : Option Addr} {t : TSt} {L : List CfgD} {i : Int} { x1  : ByteArray} (hC : Col w W F) (h : DskAt F W db (.pointer (some ⟨tb, 0, none⟩)) An cn ⟨some t, L⟩) (h1 : NumW x1 i)  :
    AskTo w F W db ⟨some (t.stopped i), L⟩ (t.stopE i) ⟨#[111, 107]⟩ ⟨#[115, 116, 111, 112]⟩ [⟨#[115, 116, 111, 112]⟩, x1] A c := by
  intro W1 wb hb hwb hw
  have HC := Lib.hid hC
  have HD := Lib.hid h
  have HB := Lib.hid hb
  have HW := Lib.hid hw
  have HX1 := Lib.hid h1
  have B0 := Lib.hid (show Bx (W1.alloc (.cells #[.pointer (some ⟨db, 0, none⟩)] 35)) wb W1.heap.size 35 #[.pointer (some ⟨db, 0, none⟩)] from ⟨Blk.new _ _ _, fun e => by have := hw.wds.lt; omega⟩)
  have HWB := Lib.hid hwb
  have HS0 := Lib.hid hb.size
  have HWL := Lib.hid hw.wds.lt
  have D1 := Lib.hid (hw.below ((Below.refl _ _).alloc (Nat.le_refl _) (.cells #[.pointer (some ⟨db, 0, none⟩)] 35)))
  have K1 := Lib.hid ((Kept.refl (fun x => x = wb) W1).alloc (.cells #[.pointer (some ⟨db, 0, none⟩)] 35))
  clear hC h hb hw hwb h1 
  go_enter Tryz.func25, Tryz.ntmps25
  go_wp2_with fail
  refine (numG D1.out x1 rfl i HX1.out).mono ?_
  rintro e' w2 ⟨rfl, hk2, hd2⟩
  have K2 := Lib.hid (K1.out.trans hk2)
  have B1 := Lib.hid (B0.out.kept hk2)
  have D2 := Lib.hid hd2
  clear hk2 hd2
  go_wp2
  go_ret
  have KA0 := Lib.hid (Kept.refl (fun x => x = wb) w2)
  have KA1 := Lib.hid (KA0.out.alloc (.cells #[.int .i64 i] 3))
  have BB1 := Lib.hid (show Bx (w2.alloc (.cells #[.int .i64 i] 3)) wb (w2.heap.size) 3 #[.int .i64 i] from ⟨by have := Blk.new w2 3 #[.int .i64 i]; simpa using this, fun e => by have := D2.out.wds.lt; omega⟩)
  have KA := Lib.hid (K2.out.trans KA1.out)
  have BA0 := Lib.hid (B1.out.kept KA1.out)
  have DA := Lib.hid (D2.out.below (show Below w2.heap.size w2 (w2.alloc (.cells #[.int .i64 i] 3)) from by refine Below.alB5 ?_; exact Below.refl _ _))
  refine ⟨_, _, rfl, KA.out, DA.out, fun W3 hb3 => ?_⟩
  have hbW : Below W.heap.size W W3 := (HB.out.trans (KA.out.below (B := W.heap.size) (fun k e => by rw [e]; exact HWB.out) HB.out.size)).trans (hb3.mono (Nat.le_trans HB.out.size KA.out.size))
  have hC3 := HC.out.below hbW
  have hD3 := HD.out.below HC.out hbW
  have hpd := BA0.out.box HC.out HB.out.size hb3
  have hp1 := BB1.out.box HC.out (Nat.le_trans HB.out.size K2.out.size) hb3
  obtain ⟨tb2, e2, ht3, hg3⟩ := hD3.town
  injection e2 with e2
  injection e2 with e2
  injection e2 with e2
  subst e2
  refine ⟨enters_of Tryz.func81 (by kernel_rfl) rfl, ?_⟩
  exact (asks_stop hC3 ht3 hg3 hpd hp1 hD3.blk).mono fun e W4 ⟨q1, q2⟩ => ⟨q1, hD3.twto hC3 q2 (hg3.stopped i)⟩
end Go.Proofs.YthimchhnhhchkaaGreatDoor

namespace Go.Proofs.YthimchhnhhchkaaGreatDoor
open Go.RowKit Go.Lib
set_option linter.unusedSimpArgs false
set_option linter.unusedVariables false

set_option maxHeartbeats 1000000 in
set_option maxRecDepth 100000 in
theorem askw_ask {w W : World} {F : Nat → Nat} {db : Nat} {tb c cn : Nat} {A An : Option Addr} {t : TSt} {L : List CfgD} {i : Int} {id x1 out : ByteArray} (hC : Col w W F) (h : DskAt F W db (.pointer (some ⟨tb, 0, none⟩)) An cn ⟨some t, L⟩) (h1 : NumW x1 i) (hs : SayO (t.lvV i id) (t.lvE i id) out) :
    AskTo w F W db ⟨some (t), L⟩ (t.lvE i id) out ⟨#[97, 115, 107]⟩ [⟨#[97, 115, 107]⟩, x1, id] A c := by
  intro W1 wb hb hwb hw
  have HC := Lib.hid hC
  have HD := Lib.hid h
  have HB := Lib.hid hb
  have HW := Lib.hid hw
  have HX1 := Lib.hid h1
  have HY := Lib.hid hs
  have B0 := Lib.hid (show Bx (W1.alloc (.cells #[.pointer (some ⟨db, 0, none⟩)] 35)) wb W1.heap.size 35 #[.pointer (some ⟨db, 0, none⟩)] from ⟨Blk.new _ _ _, fun e => by have := hw.wds.lt; omega⟩)
  have HWB := Lib.hid hwb
  have HS0 := Lib.hid hb.size
  have HWL := Lib.hid hw.wds.lt
  have D1 := Lib.hid (hw.below ((Below.refl _ _).alloc (Nat.le_refl _) (.cells #[.pointer (some ⟨db, 0, none⟩)] 35)))
  have K1 := Lib.hid ((Kept.refl (fun x => x = wb) W1).alloc (.cells #[.pointer (some ⟨db, 0, none⟩)] 35))
  clear hC h hb hw hwb h1 hs
  go_enter Tryz.func25, Tryz.ntmps25
  go_wp2_with fail
  refine (numG D1.out x1 rfl i HX1.out).mono ?_
  rintro e' w2 ⟨rfl, hk2, hd2⟩
  have K2 := Lib.hid (K1.out.trans hk2)
  have B1 := Lib.hid (B0.out.kept hk2)
  have D2 := Lib.hid hd2
  clear hk2 hd2
  go_wp2_with fail
  refine (nextG D2.out id rfl).mono ?_
  rintro e' w3 ⟨rfl, hk3, hd3⟩
  have K3 := Lib.hid (K2.out.trans hk3)
  have B2 := Lib.hid (B1.out.kept hk3)
  have D3 := Lib.hid hd3
  clear hk3 hd3
  go_wp2
  go_ret
  have KA0 := Lib.hid (Kept.refl (fun x => x = wb) w3)
  have KA1 := Lib.hid (KA0.out.alloc (.cells #[.int .i64 i] 3))
  have BB1 := Lib.hid (show Bx (w3.alloc (.cells #[.int .i64 i] 3)) wb (w3.heap.size) 3 #[.int .i64 i] from ⟨by have := Blk.new w3 3 #[.int .i64 i]; simpa using this, fun e => by have := D3.out.wds.lt; omega⟩)
  have KA2 := Lib.hid (KA1.out.alloc (.cells #[.string id] 9))
  have BB2 := Lib.hid (show Bx ((w3.alloc (.cells #[.int .i64 i] 3)).alloc (.cells #[.string id] 9)) wb (w3.heap.size + 1) 9 #[.string id] from ⟨by have := Blk.new (w3.alloc (.cells #[.int .i64 i] 3)) 9 #[.string id]; simpa using this, fun e => by have := D3.out.wds.lt; omega⟩)
  have BB1 := Lib.hid (BB1.out.kept ((Kept.refl (fun x => x = wb) _).alloc (.cells #[.string id] 9)))
  have KA := Lib.hid (K3.out.trans KA2.out)
  have BA0 := Lib.hid (B2.out.kept KA2.out)
  have DA := Lib.hid (D3.out.below (show Below w3.heap.size w3 ((w3.alloc (.cells #[.int .i64 i] 3)).alloc (.cells #[.string id] 9)) from by refine Below.alB5 ?_; refine Below.alB5 ?_; exact Below.refl _ _))
  refine ⟨_, _, rfl, KA.out, DA.out, fun W3 hb3 => ?_⟩
  have hbW : Below W.heap.size W W3 := (HB.out.trans (KA.out.below (B := W.heap.size) (fun k e => by rw [e]; exact HWB.out) HB.out.size)).trans (hb3.mono (Nat.le_trans HB.out.size KA.out.size))
  have hC3 := HC.out.below hbW
  have hD3 := HD.out.below HC.out hbW
  have hpd := BA0.out.box HC.out HB.out.size hb3
  have hp1 := BB1.out.box HC.out (Nat.le_trans HB.out.size K3.out.size) hb3
  have hp2 := BB2.out.box HC.out (Nat.le_trans (Nat.le_trans HB.out.size K3.out.size) (Nat.le_add_right _ _)) hb3
  obtain ⟨tb2, e2, ht3, hg3⟩ := hD3.town
  injection e2 with e2
  injection e2 with e2
  injection e2 with e2
  subst e2
  refine ⟨enters_of Tryz.func83 (by kernel_rfl) rfl, ?_⟩
  exact (asks_ask hC3 ht3 hg3 hpd hp1 hp2 hD3.blk HY.out).mono fun e W4 ⟨q1, q2⟩ => ⟨q1, hD3.twto hC3 q2 (hg3)⟩
set_option maxHeartbeats 1000000 in
set_option maxRecDepth 100000 in
theorem askw_join {w W : World} {F : Nat → Nat} {db : Nat} {tb c cn : Nat} {A An : Option Addr} {t : TSt} {L : List CfgD} {i th : Int} {id x1 x3 out : ByteArray} (hC : Col w W F) (h : DskAt F W db (.pointer (some ⟨tb, 0, none⟩)) An cn ⟨some t, L⟩) (h1 : NumW x1 i) (h3 : NumW x3 th) (hs : SayN (t.joinN i id th) (t.joinE i id th) out) :
    AskTo w F W db ⟨some (t.joined i id th), L⟩ (t.joinE i id th) out ⟨#[106, 111, 105, 110]⟩ [⟨#[106, 111, 105, 110]⟩, x1, id, x3] A c := by
  intro W1 wb hb hwb hw
  have HC := Lib.hid hC
  have HD := Lib.hid h
  have HB := Lib.hid hb
  have HW := Lib.hid hw
  have HX1 := Lib.hid h1
  have HX3 := Lib.hid h3
  have HY := Lib.hid hs
  have B0 := Lib.hid (show Bx (W1.alloc (.cells #[.pointer (some ⟨db, 0, none⟩)] 35)) wb W1.heap.size 35 #[.pointer (some ⟨db, 0, none⟩)] from ⟨Blk.new _ _ _, fun e => by have := hw.wds.lt; omega⟩)
  have HWB := Lib.hid hwb
  have HS0 := Lib.hid hb.size
  have HWL := Lib.hid hw.wds.lt
  have D1 := Lib.hid (hw.below ((Below.refl _ _).alloc (Nat.le_refl _) (.cells #[.pointer (some ⟨db, 0, none⟩)] 35)))
  have K1 := Lib.hid ((Kept.refl (fun x => x = wb) W1).alloc (.cells #[.pointer (some ⟨db, 0, none⟩)] 35))
  clear hC h hb hw hwb h1 h3 hs
  go_enter Tryz.func25, Tryz.ntmps25
  go_wp2_with fail
  refine (numG D1.out x1 rfl i HX1.out).mono ?_
  rintro e' w2 ⟨rfl, hk2, hd2⟩
  have K2 := Lib.hid (K1.out.trans hk2)
  have B1 := Lib.hid (B0.out.kept hk2)
  have D2 := Lib.hid hd2
  clear hk2 hd2
  go_wp2_with fail
  refine (nextG D2.out id rfl).mono ?_
  rintro e' w3 ⟨rfl, hk3, hd3⟩
  have K3 := Lib.hid (K2.out.trans hk3)
  have B2 := Lib.hid (B1.out.kept hk3)
  have D3 := Lib.hid hd3
  clear hk3 hd3
  go_wp2_with fail
  refine (numG D3.out x3 rfl th HX3.out).mono ?_
  rintro e' w4 ⟨rfl, hk4, hd4⟩
  have K4 := Lib.hid (K3.out.trans hk4)
  have B3 := Lib.hid (B2.out.kept hk4)
  have D4 := Lib.hid hd4
  clear hk4 hd4
  go_wp2
  go_ret
  have KA0 := Lib.hid (Kept.refl (fun x => x = wb) w4)
  have KA1 := Lib.hid (KA0.out.alloc (.cells #[.int .i64 i] 3))
  have BB1 := Lib.hid (show Bx (w4.alloc (.cells #[.int .i64 i] 3)) wb (w4.heap.size) 3 #[.int .i64 i] from ⟨by have := Blk.new w4 3 #[.int .i64 i]; simpa using this, fun e => by have := D4.out.wds.lt; omega⟩)
  have KA2 := Lib.hid (KA1.out.alloc (.cells #[.string id] 9))
  have BB2 := Lib.hid (show Bx ((w4.alloc (.cells #[.int .i64 i] 3)).alloc (.cells #[.string id] 9)) wb (w4.heap.size + 1) 9 #[.string id] from ⟨by have := Blk.new (w4.alloc (.cells #[.int .i64 i] 3)) 9 #[.string id]; simpa using this, fun e => by have := D4.out.wds.lt; omega⟩)
  have BB1 := Lib.hid (BB1.out.kept ((Kept.refl (fun x => x = wb) _).alloc (.cells #[.string id] 9)))
  have KA3 := Lib.hid (KA2.out.alloc (.cells #[.int .i64 th] 3))
  have BB3 := Lib.hid (show Bx (((w4.alloc (.cells #[.int .i64 i] 3)).alloc (.cells #[.string id] 9)).alloc (.cells #[.int .i64 th] 3)) wb (w4.heap.size + 2) 3 #[.int .i64 th] from ⟨by have := Blk.new ((w4.alloc (.cells #[.int .i64 i] 3)).alloc (.cells #[.string id] 9)) 3 #[.int .i64 th]; simpa using this, fun e => by have := D4.out.wds.lt; omega⟩)
  have BB1 := Lib.hid (BB1.out.kept ((Kept.refl (fun x => x = wb) _).alloc (.cells #[.int .i64 th] 3)))
  have BB2 := Lib.hid (BB2.out.kept ((Kept.refl (fun x => x = wb) _).alloc (.cells #[.int .i64 th] 3)))
  have KA := Lib.hid (K4.out.trans KA3.out)
  have BA0 := Lib.hid (B3.out.kept KA3.out)
  have DA := Lib.hid (D4.out.below (show Below w4.heap.size w4 (((w4.alloc (.cells #[.int .i64 i] 3)).alloc (.cells #[.string id] 9)).alloc (.cells #[.int .i64 th] 3)) from by refine Below.alB5 ?_; refine Below.alB5 ?_; refine Below.alB5 ?_; exact Below.refl _ _))
  refine ⟨_, _, rfl, KA.out, DA.out, fun W3 hb3 => ?_⟩
  have hbW : Below W.heap.size W W3 := (HB.out.trans (KA.out.below (B := W.heap.size) (fun k e => by rw [e]; exact HWB.out) HB.out.size)).trans (hb3.mono (Nat.le_trans HB.out.size KA.out.size))
  have hC3 := HC.out.below hbW
  have hD3 := HD.out.below HC.out hbW
  have hpd := BA0.out.box HC.out HB.out.size hb3
  have hp1 := BB1.out.box HC.out (Nat.le_trans HB.out.size K4.out.size) hb3
  have hp2 := BB2.out.box HC.out (Nat.le_trans (Nat.le_trans HB.out.size K4.out.size) (Nat.le_add_right _ _)) hb3
  have hp3 := BB3.out.box HC.out (Nat.le_trans (Nat.le_trans HB.out.size K4.out.size) (Nat.le_add_right _ _)) hb3
  obtain ⟨tb2, e2, ht3, hg3⟩ := hD3.town
  injection e2 with e2
  injection e2 with e2
  injection e2 with e2
  subst e2
  refine ⟨enters_of Tryz.func85 (by kernel_rfl) rfl, ?_⟩
  exact (asks_join hC3 ht3 hg3 hpd hp1 hp2 hp3 hD3.blk HY.out).mono fun e W4 ⟨q1, q2⟩ => ⟨q1, hD3.twto hC3 q2 (hg3.joined i id th)⟩
set_option maxHeartbeats 1000000 in
set_option maxRecDepth 100000 in
theorem askw_way {w W : World} {F : Nat → Nat} {db : Nat} {tb c cn : Nat} {A An : Option Addr} {t : TSt} {L : List CfgD} {  out : ByteArray} (hC : Col w W F) (h : DskAt F W db (.pointer (some ⟨tb, 0, none⟩)) An cn ⟨some t, L⟩)  (hs : SayT [(t.way.length : Int)] out) :
    AskTo w F W db ⟨some (t), L⟩ (0) out ⟨#[119, 97, 121]⟩ [⟨#[119, 97, 121]⟩] A c := by
  intro W1 wb hb hwb hw
  have HC := Lib.hid hC
  have HD := Lib.hid h
  have HB := Lib.hid hb
  have HW := Lib.hid hw
  have HY := Lib.hid hs
  have B0 := Lib.hid (show Bx (W1.alloc (.cells #[.pointer (some ⟨db, 0, none⟩)] 35)) wb W1.heap.size 35 #[.pointer (some ⟨db, 0, none⟩)] from ⟨Blk.new _ _ _, fun e => by have := hw.wds.lt; omega⟩)
  have HWB := Lib.hid hwb
  have HS0 := Lib.hid hb.size
  have HWL := Lib.hid hw.wds.lt
  have D1 := Lib.hid (hw.below ((Below.refl _ _).alloc (Nat.le_refl _) (.cells #[.pointer (some ⟨db, 0, none⟩)] 35)))
  have K1 := Lib.hid ((Kept.refl (fun x => x = wb) W1).alloc (.cells #[.pointer (some ⟨db, 0, none⟩)] 35))
  clear hC h hb hw hwb  hs
  go_enter Tryz.func25, Tryz.ntmps25
  go_wp2
  go_ret
  have KA := Lib.hid K1.out
  have BA0 := Lib.hid B0.out
  have DA := Lib.hid D1.out
  refine ⟨_, _, rfl, KA.out, DA.out, fun W3 hb3 => ?_⟩
  have hbW : Below W.heap.size W W3 := (HB.out.trans (KA.out.below (B := W.heap.size) (fun k e => by rw [e]; exact HWB.out) HB.out.size)).trans (hb3.mono (Nat.le_trans HB.out.size KA.out.size))
  have hC3 := HC.out.below hbW
  have hD3 := HD.out.below HC.out hbW
  have hpd := BA0.out.box HC.out HB.out.size hb3
  obtain ⟨tb2, e2, ht3, hg3⟩ := hD3.town
  injection e2 with e2
  injection e2 with e2
  injection e2 with e2
  subst e2
  refine ⟨enters_of Tryz.func71 (by kernel_rfl) rfl, ?_⟩
  exact (asks_way hC3 ht3 hg3 hpd hD3.blk HY.out).mono fun e W4 ⟨q1, q2⟩ => ⟨.inl ⟨rfl, q1⟩, ((hD3.dto hC3).more q2)⟩
set_option maxHeartbeats 1000000 in
set_option maxRecDepth 100000 in
theorem askw_start {w W : World} {F : Nat → Nat} {db : Nat} {c cn : Nat} {A An : Option Addr} {tv : Value} {s : DSt} (hC : Col w W F) (h : DskAt F W db tv An cn s)   :
    AskTo w F W db s.started (s.startE) ⟨#[111, 107]⟩ ⟨#[115, 116, 97, 114, 116]⟩ [⟨#[115, 116, 97, 114, 116]⟩] A c := by
  intro W1 wb hb hwb hw
  have HC := Lib.hid hC
  have HD := Lib.hid h
  have HB := Lib.hid hb
  have HW := Lib.hid hw
  have B0 := Lib.hid (show Bx (W1.alloc (.cells #[.pointer (some ⟨db, 0, none⟩)] 35)) wb W1.heap.size 35 #[.pointer (some ⟨db, 0, none⟩)] from ⟨Blk.new _ _ _, fun e => by have := hw.wds.lt; omega⟩)
  have HWB := Lib.hid hwb
  have HS0 := Lib.hid hb.size
  have HWL := Lib.hid hw.wds.lt
  have D1 := Lib.hid (hw.below ((Below.refl _ _).alloc (Nat.le_refl _) (.cells #[.pointer (some ⟨db, 0, none⟩)] 35)))
  have K1 := Lib.hid ((Kept.refl (fun x => x = wb) W1).alloc (.cells #[.pointer (some ⟨db, 0, none⟩)] 35))
  clear hC h hb hw hwb  
  go_enter Tryz.func25, Tryz.ntmps25
  go_wp2
  go_ret
  have KA := Lib.hid K1.out
  have BA0 := Lib.hid B0.out
  have DA := Lib.hid D1.out
  refine ⟨_, _, rfl, KA.out, DA.out, fun W3 hb3 => ?_⟩
  have hbW : Below W.heap.size W W3 := (HB.out.trans (KA.out.below (B := W.heap.size) (fun k e => by rw [e]; exact HWB.out) HB.out.size)).trans (hb3.mono (Nat.le_trans HB.out.size KA.out.size))
  have hC3 := HC.out.below hbW
  have hD3 := HD.out.below HC.out hbW
  have hpd := BA0.out.box HC.out HB.out.size hb3
  refine ⟨enters_of Tryz.func70 (by kernel_rfl) rfl, ?_⟩
  exact (asks_start hC3 hpd hD3).mono fun e W4 x => x
set_option maxHeartbeats 1000000 in
set_option maxRecDepth 100000 in
theorem askw_node {w W : World} {F : Nat → Nat} {db : Nat} {c cn : Nat} {A An : Option Addr} {tv : Value} {s : DSt} {ev ca le : Int} {id x2 x3 x4  : ByteArray} (hC : Col w W F) (h : DskAt F W db tv An cn s) (h2 : NumW x2 ev) (h3 : NumW x3 ca) (h4 : NumW x4 le) (hid : id.size ≤ maxLen)  :
    AskTo w F W db (s.noded (id, 0, ev, ca, le)) ((s.nodeE (id, 0, ev, ca, le))) ⟨#[111, 107]⟩ ⟨#[110, 111, 100, 101]⟩ [⟨#[110, 111, 100, 101]⟩, id, x2, x3, x4] A c := by
  intro W1 wb hb hwb hw
  have HC := Lib.hid hC
  have HD := Lib.hid h
  have HB := Lib.hid hb
  have HW := Lib.hid hw
  have HX2 := Lib.hid h2
  have HX3 := Lib.hid h3
  have HX4 := Lib.hid h4
  have HI := Lib.hid hid
  have B0 := Lib.hid (show Bx (W1.alloc (.cells #[.pointer (some ⟨db, 0, none⟩)] 35)) wb W1.heap.size 35 #[.pointer (some ⟨db, 0, none⟩)] from ⟨Blk.new _ _ _, fun e => by have := hw.wds.lt; omega⟩)
  have HWB := Lib.hid hwb
  have HS0 := Lib.hid hb.size
  have HWL := Lib.hid hw.wds.lt
  have D1 := Lib.hid (hw.below ((Below.refl _ _).alloc (Nat.le_refl _) (.cells #[.pointer (some ⟨db, 0, none⟩)] 35)))
  have K1 := Lib.hid ((Kept.refl (fun x => x = wb) W1).alloc (.cells #[.pointer (some ⟨db, 0, none⟩)] 35))
  clear hC h hb hw hwb h2 h3 h4  hid
  go_enter Tryz.func25, Tryz.ntmps25
  go_wp2_with fail
  refine (nextG D1.out id rfl).mono ?_
  rintro e' w2 ⟨rfl, hk2, hd2⟩
  have K2 := Lib.hid (K1.out.trans hk2)
  have B1 := Lib.hid (B0.out.kept hk2)
  have D2 := Lib.hid hd2
  clear hk2 hd2
  go_wp2_with fail
  refine (numG D2.out x2 rfl ev HX2.out).mono ?_
  rintro e' w3 ⟨rfl, hk3, hd3⟩
  have K3 := Lib.hid (K2.out.trans hk3)
  have B2 := Lib.hid (B1.out.kept hk3)
  have D3 := Lib.hid hd3
  clear hk3 hd3
  go_wp2_with fail
  refine (numG D3.out x3 rfl ca HX3.out).mono ?_
  rintro e' w4 ⟨rfl, hk4, hd4⟩
  have K4 := Lib.hid (K3.out.trans hk4)
  have B3 := Lib.hid (B2.out.kept hk4)
  have D4 := Lib.hid hd4
  clear hk4 hd4
  go_wp2_with fail
  refine (numG D4.out x4 rfl le HX4.out).mono ?_
  rintro e' w5 ⟨rfl, hk5, hd5⟩
  have K5 := Lib.hid (K4.out.trans hk5)
  have B4 := Lib.hid (B3.out.kept hk5)
  have D5 := Lib.hid hd5
  clear hk5 hd5
  go_wp2
  go_ret
  have KA0 := Lib.hid (Kept.refl (fun x => x = wb) w5)
  have KA1 := Lib.hid (KA0.out.alloc (.cells #[.string id, .int .i64 0, .int .i64 ev, .int .i64 ca, .int .i64 le] 100))
  have BB1 := Lib.hid (show Bx (w5.alloc (.cells #[.string id, .int .i64 0, .int .i64 ev, .int .i64 ca, .int .i64 le] 100)) wb (w5.heap.size) 100 #[.string id, .int .i64 0, .int .i64 ev, .int .i64 ca, .int .i64 le] from ⟨by have := Blk.new w5 100 #[.string id, .int .i64 0, .int .i64 ev, .int .i64 ca, .int .i64 le]; simpa using this, fun e => by have := D5.out.wds.lt; omega⟩)
  have KA := Lib.hid (K5.out.trans KA1.out)
  have BA0 := Lib.hid (B4.out.kept KA1.out)
  have DA := Lib.hid (D5.out.below (show Below w5.heap.size w5 (w5.alloc (.cells #[.string id, .int .i64 0, .int .i64 ev, .int .i64 ca, .int .i64 le] 100)) from by refine Below.alB5 ?_; exact Below.refl _ _))
  refine ⟨_, _, rfl, KA.out, DA.out, fun W3 hb3 => ?_⟩
  have hbW : Below W.heap.size W W3 := (HB.out.trans (KA.out.below (B := W.heap.size) (fun k e => by rw [e]; exact HWB.out) HB.out.size)).trans (hb3.mono (Nat.le_trans HB.out.size KA.out.size))
  have hC3 := HC.out.below hbW
  have hD3 := HD.out.below HC.out hbW
  have hpd := BA0.out.box HC.out HB.out.size hb3
  have hp1 := BB1.out.box HC.out (Nat.le_trans HB.out.size K5.out.size) hb3
  refine ⟨enters_of Tryz.func68 (by kernel_rfl) rfl, ?_⟩
  exact (asks_node (x := (id, 0, ev, ca, le)) hC3 hpd hp1 HI.out hD3).mono fun e W4 x => x
end Go.Proofs.YthimchhnhhchkaaGreatDoor
