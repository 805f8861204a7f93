/- strings -/
import Derived.Test.YthiplgekjgffkaaGreatDoorM26
import Derived.Shelf.Strings.SlTrimAscii
set_option maxRecDepth 100000
set_option maxHeartbeats 99000000
set_option linter.all false
namespace Go.Proofs.YthiplgekjgffkaaGreatDoor
open Go.Proofs.Tryz
open Go.RowKit Go.Lib
def Wg:List UInt8:=[48,49,50,51,52,53,54,55,56,57]
theorem Qu(b:UInt8):Wg.contains b=Dc.TD b:=by
 have h:∀n,n<256->Wg.contains (UInt8.ofNat n)=Dc.TD (UInt8.ofNat n):=by decide
 have:=h b.toNat (BZ b)
 rwa [UInt8.ofNat_toNat]at this
theorem mem_left{p:UInt8->Bool}{b:UInt8}(hb:p b=false):∀l:List UInt8,b∈l->b∈l.dropWhile p
 | [],h=>h
 |c::l,h=>by
  rw[List.dropWhile_cons];split
  ·rename_i hc
   rcases AR.1 h with rfl|h
   ·rw[hb]at hc;cases hc
   ·exact mem_left hb l h
  ·exact h
theorem bG{p:UInt8->Bool}:∀l:List UInt8,(∀b∈l,p b=true)->l.dropWhile p=[]
 | [],_=>rfl
 |c::l,h=>by
  rw[List.dropWhile_cons,AD (h c (Ay ..))];exact bG l fun b hb=>h b (Am _ hb)
theorem ZX{s:ByteArray}(h:Dc.J4 s=true):Lib.trimS s.data.toList Wg=[]:=by
 unfold Dc.J4 at h;rw[List.all_eq_true]at h;unfold Lib.trimS Lib.trimLeftS Lib.trimRightS;rw[bG s.data.toList.reverse (fun b hb=>by rw[Qu];exact h b (AT5.1 hb))];rfl
theorem pB{s:ByteArray}(h:Dc.J4 s=false):(⟨(Lib.trimS s.data.toList Wg).toArray⟩:ByteArray).size≠0:=by
 unfold Dc.J4 at h;rw[List.all_eq_false]at h;obtain⟨b,hb,hd⟩:=h;have hc:Wg.contains b=false:=by rw[Qu];simpa using hd
 have h1:b∈Lib.trimS s.data.toList Wg:=by
  unfold Lib.trimS Lib.trimLeftS Lib.trimRightS;exact mem_left hc _ (AT5.2 (mem_left hc _ (AT5.2 hb)))
 show(Lib.trimS s.data.toList Wg).toArray.size≠0;cases hq:Lib.trimS s.data.toList Wg with
 |nil=>rw[hq]at h1;cases h1
 |cons=>simp
theorem bX(s:ByteArray)(hs:s.size<=9223372036854775807)(w:World):
 Calls prog 32 #[.string s,.string ⟨#[48,49,50,51,52,53,54,55,56,57]⟩] w fun e w'=>e=.returned (.string ⟨(Lib.trimS s.data.toList Wg).toArray⟩)/\Below w.heap.size w w':=
 Any.strings_Trim_laid Tryz.xP (by kernel_rfl) s ⟨#[48,49,50,51,52,53,54,55,56,57]⟩ w hs (by decide) (ascii_of_all (by decide))
def Ln:List UInt8:=[51,52,48,50,56,50,51,54,54,57,50,48,57,51,56,52,54,51,52,54,51,51,55,52,54,48,55,52,51,49,55,54,56,50,49,49,52,53,53]
theorem U6:Dc.Ep Ln=2^128- 1:=by decide
theorem aB:∀b∈Ln,Dc.TD b=true:=by decide
theorem PV{s:ByteArray}(h:Dc.J4 s=true):∀b∈s.data.toList,Dc.TD b=true:=by
 unfold Dc.J4 at h;exact List.all_eq_true.1 h
theorem gF{s:ByteArray}(h2:Dc.J4 s=true)(h1:Dc.lead s=false)(h:39<s.size):¬Dc.Ep s.data.toList<2^128:=by
 have hl:=Dc.IB s;have hd:=PV h2;have h0:(s.data.toList.getD 0 0).toNat≠48:=by
  intro e;unfold Dc.lead at h1;rw[e]at h1;simp at h1;omega
 cases hq:s.data.toList with
 |nil=>rw[hq]at hl;simp at hl;omega
 |cons b l=>
  rw[hq]at hl hd h0;have:=Dc.tf b l (hd b (Ay ..)) (by simpa using h0);have h3:10^39<=10^l.length:=Ax (by decide) (by rw[AP]at hl;omega);have h4:(2:Nat)^128<=10^39:=by decide
  omega
theorem cW{s:ByteArray}(h2:Dc.J4 s=true)(h:s.size<39):Dc.Ep s.data.toList<2^128:=by
 have h1:=Dc.Qz _ (PV h2);rw[Dc.IB]at h1;have h3:10^s.size<=10^38:=Ax (by decide) (by omega);have h4:(10:Nat)^38<=2^128:=by decide
 omega
theorem SR{s:ByteArray}(h2:Dc.J4 s=true)(h:s.size=39):(Op.bytesLess s.data.toList Ln=true↔Dc.Ep s.data.toList<2^128- 1):=by
 rw[Dc.XG _ _ (by rw[Dc.IB,h];rfl) (PV h2) aB,U6]
theorem fH{s:ByteArray}(h2:Dc.J4 s=true)(h:s.size=39)(hv:Dc.Ep s.data.toList<2^128):Op.bytesLess s.toList Ln=true\/(Op.bytesLess s.toList Ln=false/\(s.toList==Ln)=true):=by
 rw[Bl];by_cases h1:Dc.Ep s.data.toList<2^128- 1
 ·exact .inl ((SR h2 h).2 h1)
 ·right
  refine⟨?_,?_⟩
  ·cases hb:Op.bytesLess s.data.toList Ln
   ·rfl
   ·exact absurd ((SR h2 h).1 hb) h1
  ·rw[Dc.bE _ _ (by rw[Dc.IB,h];rfl) (PV h2) aB (by rw[U6];omega)]
   decide
theorem Zh{s:ByteArray}(h2:Dc.J4 s=true)(h:s.size=39)(hv:¬Dc.Ep s.data.toList<2^128):Op.bytesLess s.toList Ln=false/\(s.toList==Ln)=false:=by
 rw[Bl];refine⟨?_,?_⟩
 ·cases hb:Op.bytesLess s.data.toList Ln
  ·rfl
  ·have:=(SR h2 h).1 hb
   omega
 ·cases hb:(s.data.toList==Ln)
  ·rfl
  ·rw[eq_of_beq hb,U6]at hv
   omega
