/- hwref: Decode as one fun -/
import Derived.Test.YthiplgekjgffkaaGreatDoorM38
set_option maxRecDepth 100000
set_option maxHeartbeats 99000000
set_option linter.all false
namespace Go.Proofs.YthiplgekjgffkaaGreatDoor
open Go.Proofs.Tryz
open Go.RowKit Go.Lib
theorem Z3(s:ByteArray)(w:World):Calls prog 190 #[.string s] w (JQ (Fm s).1 (Fm s).2.1 (Fm s).2.2.1 (Fm s).2.2.2 w):=by
 unfold Fm;by_cases h1:s.size<2
 ·rw[AD h1];exact fG s h1 w
 rw[AC h1,NY s 0 (by omega),NY s 1 (by omega)];by_cases h2:(s[0]).toNat≠72
 ·rw[AD h2];exact ABg s (by omega) h2 w
 rw[AC h2];have h2:(s[0]).toNat=72:=Cn.1 h2;by_cases h3:(s[1]).toNat=0
 ·rw[AD (.inl h3)];exact xM s (by omega) h2 h3 w
 by_cases xV:8<(s[1]).toNat
 ·rw[AD (.inr xV)];exact uT s _ (by omega) h2 rfl xV w
 rw[AC (by omega)];by_cases h4:s.size<14+(s[1]).toNat
 ·rw[AD h4];exact lT s _ (by omega) h2 rfl (by omega) (by omega) h4 w
 rw[AC h4];by_cases h5:14+(s[1]).toNat<s.size
 ·rw[AD h5];exact jP s _ (by omega) h2 rfl (by omega) (by omega) h5 w
 rw[AC h5];by_cases h6:Hx (s.extract 0 (10+(s[1]).toNat))≠FD s (10+(s[1]).toNat)
 ·rw[AD h6];exact oX s _ (by omega) h2 rfl (by omega) (by omega) (by omega) h6 w
 rw[AC h6];have h6:=Cn.1 h6;by_cases h7:Em (s.extract 2 (2+(s[1]).toNat)) (FD s (2+(s[1]).toNat)) (FD s (6+(s[1]).toNat))≠0
 ·rw[AD h7];exact iL s _ (by omega) h2 rfl (by omega) (by omega) (by omega) h6 _ _ _ _ (.inl ⟨h7,rfl,rfl,rfl,rfl⟩) w
 rw[AC h7];exact iL s _ (by omega) h2 rfl (by omega) (by omega) (by omega) h6 _ _ _ _ (.inr ⟨Cn.1 h7,rfl,rfl,rfl,rfl⟩) w
def Iw(X:Nat->Prop)(b:Nat)(s':Dh)(N:List Dm)(er:Int)(w:World)(e:Ending)(w':World):Prop:=
 ∃A c,e=.returned (.tuple #[.slice A N.length c,.int .i64 er])/\w'.ownsRow w.heap.size 173 3 (.slice A N.length c) N.length (Da N)/\FJ (grow X w w') w' b s'/\Kept X w w'
theorem Iw.no{X:Nat->Prop}{b:Nat}{s':Dh}{er:Int}{w w':World}(h:FJ (grow X w w') w' b s')(hk:Kept X w w'):Iw X b s' [] er w (.returned (.tuple #[.slice none 0 0,.int .i64 er])) w':=
 ⟨none,0,rfl,AX _ _ _ _,h,hk⟩
section
variable{X:Nat->Prop}{w:World}{b pn pc:Nat}{A:Option Addr}{sv:Value}{l:List C8}{s:Dh}
theorem wh(h:FQ X w b A pn pc sv l s)(hg:Di s)(x:ByteArray){id:ByteArray}{i q er:Int}(he:Fm x=(id,i,q,er))(hz:er≠0):
 Calls prog 145 #[.pointer (some ⟨b,0,none⟩),.string x] w (Iw X b s.drop [] er w):=by
 have HH:=I h;have HG:=I hg;have HX:=I h.dJ;have FI:=h.DC.lt;have fh:=hg.Ku;have N8:=hg.MJ;have J0:=hg.Nm;have Hc:=hg.Ny;have HE:=I he;have HD:=I (fun W=>Z3 x W);simp only[he]at HD;clear h hg he;go_in;go_wp2_with fail
 refine(HD.out _).mono ?_;rintro e' w1 ⟨rfl,C6⟩;have N1:=I (C0.below HH.out C6);have B1:=I C6;have Ld:=C6.size;clear C6;have E1:=I (B1.out.alloc Ld (.cells #[.string id,.int .i64 i,.int .i64 q] 226));have N2:=I (C0.below HH.out E1.out);have Hi:=N2.out.DC.lt;have b7:=N2.out.DC.cell 6;have f7:=N2.out.DC.frozen 6;simp[Dw]at b7 f7;have NS:=I (C0.set (mk':=Dw s.c s.now (min (s.drops+1) 1073741824)) N2.out 6 (.int .i64 (min 1073741824 (s.drops+1))) (by rw[Int.min_comm 1073741824 (s.drops+1)];rfl));have KS:=I ((Kept.DU (X:=X) E1.out).setCell (a:=⟨b,6,none⟩) (.inl HH.out.xb) (.int .i64 (min 1073741824 (s.drops+1))));clear N1 B1
 go_wp2;all_goals first
  |(exfalso;omega)
  |(refine AF (v:=.tuple #[.slice none 0 0,.int .i64 er]) (by simp[results,results145,go_sem]) rfl ?_;exact .no (C0.at_ (C0.grow NS.out)) KS.out)
theorem Sl(h:FQ X w b A pn pc sv l s)(hg:Di s)(x:ByteArray){id:ByteArray}{i q:Int}(he:Fm x=(id,i,q,0))(hb:Em id i q=0):
 (∀(Ix:idxOf s.D id=none),Calls prog 145 #[.pointer (some ⟨b,0,none⟩),.string x] w (Iw X b s.drop [] 4 w))/\
 (∀(k:Nat),∀(hk:k<s.D.length),∀(QK:(s.D[k]'hk).1=id),∀(Nw:¬GC (s.D[k]'hk).2.1.1 (s.D[k]'hk).2.1.2.1 i q),Calls prog 145 #[.pointer (some ⟨b,0,none⟩),.string x] w (Iw X b {s with D:=LH s.D k,drops:=min (s.drops+1) 1073741824} [] 5 w))/\
 (∀(k:Nat),∀(hk:k<s.D.length),∀(QK:(s.D[k]'hk).1=id),∀(Nw:GC (s.D[k]'hk).2.1.1 (s.D[k]'hk).2.1.2.1 i q),∀(Ka:Di {s with D:=FW s.D k i q s.now}),Calls prog 145 #[.pointer (some ⟨b,0,none⟩),.string x] w (Iw X b (Dh.tell {s with D:=FW s.D k i q s.now}) (Dh.notes {s with D:=FW s.D k i q s.now}) 0 w)):=by
 refine⟨fun Ix=>?_,fun k hk QK Nw=>?_,fun k hk QK Nw Ka=>?_⟩;all_goals
  have HH:=I h;have HG:=I hg;have HX:=I h.dJ;have FI:=h.DC.lt;have fh:=hg.Ku;have N8:=hg.MJ;have J0:=hg.Nm;have Hc:=hg.Ny;have HB:=I hb;have Nc:pn<=maxLen:=AG h.room.1 h.room.2;have Rs:GH l=0:=by rw[Kr,h.map];exact hg.ps.zero
  have HD:=I (fun W=>Z3 x W);simp only[he]at HD
 ·have gz:=I (show∀W,Below w.heap.size w W->Calls prog 191 #[.slice A pn pc,.agg #[.string id,.int .i64 i,.int .i64 q],.int .i64 s.now] W (NQ 4 W)from fun W hw=>dN A pc w.heap.size pn l Nc id i q s.now W (h.Fj.below hw AB) hw.size hb J0 Hc (Vr h.map Ix))
  clear h hg he hb Rs Ix;go_in;go_wp2_with fail
  refine(HD.out _).mono ?_;rintro e' w1 ⟨rfl,C6⟩;have N1:=I (C0.below HH.out C6);have B1:=I C6;have Ld:=C6.size;clear C6;have eB:id.size<=8:=(Fw HB.out).1;have E1:=I ((AI w1).lay #[.string id,.int .i64 i,.int .i64 q] 226);have N2:=I (C0.below N1.out E1.out.DI);have BW:=I (B1.out.trans (E1.out.DI.mono Ld))
  go_upto_region 18 with fail
  generalize IK:World.alloc w1 _=w2 at*;have je:w2.heap.size=w1.heap.size+1:=by rw[<-IK];simp
  clear IK;have Hi:=N2.out.DC.lt;have HS:=I (show∀w',Below w2.heap.size w2 w'->(Below w2.heap.size w2 w'/\w'.cell? ⟨b,7,none⟩=some (.slice A pn pc)/\w'.cell? ⟨b,5,none⟩=some (.int .i64 s.now)/\w'.cell? ⟨w1.heap.size,0,none⟩=some (.string id)/\w'.cell? ⟨w1.heap.size,1,none⟩=some (.int .i64 i)/\w'.cell? ⟨w1.heap.size,2,none⟩=some (.int .i64 q))
   from fun w' h=>⟨h,(N2.out.DC.below h Hi).cell 7,(N2.out.DC.below h Hi).cell 5,(E1.out.below h).hd.cell 0,(E1.out.below h).hd.cell 1,(E1.out.below h).hd.cell 2⟩)
  have HP:=I (fun W (hw:Below w2.heap.size w2 W)=>gz.out W (BW.out.trans (hw.mono (by omega))));go_region_held3 (fun w'=>Below w2.heap.size w2 w'/\w'.cell? ⟨b,7,none⟩=some (.slice A pn pc)/\w'.cell? ⟨b,5,none⟩=some (.int .i64 s.now)/\w'.cell? ⟨w1.heap.size,0,none⟩=some (.string id)/\w'.cell? ⟨w1.heap.size,1,none⟩=some (.int .i64 i)/\w'.cell? ⟨w1.heap.size,2,none⟩=some (.int .i64 q))
   ((refine HS.out _ ?_;repeat (with_reducible first|exact G8|exact AA|refine Below.Gh ?_|refine AE ?_)))
   ((go_at_call 191;(with_reducible refine(HP.out _ ?ia).mono ?_);(case ia=>repeat (with_reducible first|exact AA|refine Below.Gh ?_|refine AE ?_));rintro e' w3 ⟨rfl,DT⟩;have G8:Below w2.heap.size w2 w3:=Below.C9 (by repeat (with_reducible first|exact AA|refine Below.Gh ?_|refine AE ?_)) DT))
  all_goals
   have E3:=I (BW.out.trans (G8.mono (by omega)));have N3:=I (C0.below HH.out E3.out);have aM:=N3.out.DC.lt;have b7:=N3.out.DC.cell 6;have f7:=N3.out.DC.frozen 6;simp[Dw]at b7 f7;have NS:=I (C0.set (mk':=Dw s.c s.now (min (s.drops+1) 1073741824)) N3.out 6 (.int .i64 (min 1073741824 (s.drops+1))) (by rw[Int.min_comm 1073741824 (s.drops+1)];rfl));have KS:=I ((Kept.DU (X:=X) E3.out).setCell (a:=⟨b,6,none⟩) (.inl HH.out.xb) (.int .i64 (min 1073741824 (s.drops+1))));clear G8 DT;go_wp2;refine AF (v:=.tuple #[.slice none 0 0,.int .i64 4]) (by simp[results,results145,go_sem]) rfl ?_;exact .no (C0.at_ (C0.grow NS.out)) KS.out
 ·have ES:k<l.length:=by have e:=Ae List.length h.map;rw[Ak]at e;omega
  have hD:s.D[k]'hk=(l[k]'ES).1:=by simp only[<-h.map,Ce]
  have VY:(s.D[k]'hk).2.2.2.2<=s.now:=(hg.pv _ (AL hk)).2;have FO:pid (l[k]'ES)=id:=by rw[<-QK,hD]
  have gz:=I (show∀W,Below w.heap.size w W->Calls prog 191 #[.slice A pn pc,.agg #[.string id,.int .i64 i,.int .i64 q],.int .i64 s.now] W (Ob A l (LH s.D k) pn false W)from fun W hw=>by have hh:=jS A pc w.heap.size pn l Nc id i q s.now W (h.Fj.below hw AB) hw.size hb J0 Hc (En Rs).2.1 (En Rs).2.2 (by rw[<-h.Fj.len];exact(En Rs).1) k ES FO (by show(l[k]'ES).1.2.2.2.2<=s.now;rw[<-hD];exact VY) (by show¬GC (l[k]'ES).1.2.1.1 (l[k]'ES).1.2.1.2.1 i q;rw[<-hD];exact Nw);rw[h.map]at hh;simp only[Iz]at hh;rw[<-hD]at hh;unfold LH;rw[AU hk];exact hh);clear h hg he hb Rs QK Nw hD VY FO;go_in
  go_wp2_with fail
  refine(HD.out _).mono ?_;rintro e' w1 ⟨rfl,C6⟩;have N1:=I (C0.below HH.out C6);have B1:=I C6;have Ld:=C6.size;clear C6;have eB:id.size<=8:=(Fw HB.out).1;have E1:=I ((AI w1).lay #[.string id,.int .i64 i,.int .i64 q] 226);have N2:=I (C0.below N1.out E1.out.DI);have BW:=I (B1.out.trans (E1.out.DI.mono Ld))
  go_upto_region 18 with fail
  generalize IK:World.alloc w1 _=w2 at*;have je:w2.heap.size=w1.heap.size+1:=by rw[<-IK];simp
  clear IK;have Hi:=N2.out.DC.lt;have HS:=I (show∀w',Below w2.heap.size w2 w'->(Below w2.heap.size w2 w'/\w'.cell? ⟨b,7,none⟩=some (.slice A pn pc)/\w'.cell? ⟨b,5,none⟩=some (.int .i64 s.now)/\w'.cell? ⟨w1.heap.size,0,none⟩=some (.string id)/\w'.cell? ⟨w1.heap.size,1,none⟩=some (.int .i64 i)/\w'.cell? ⟨w1.heap.size,2,none⟩=some (.int .i64 q))
   from fun w' h=>⟨h,(N2.out.DC.below h Hi).cell 7,(N2.out.DC.below h Hi).cell 5,(E1.out.below h).hd.cell 0,(E1.out.below h).hd.cell 1,(E1.out.below h).hd.cell 2⟩)
  have HP:=I (fun W (hw:Below w2.heap.size w2 W)=>gz.out W (BW.out.trans (hw.mono (by omega))));go_region_held3 (fun w'=>Below w2.heap.size w2 w'/\w'.cell? ⟨b,7,none⟩=some (.slice A pn pc)/\w'.cell? ⟨b,5,none⟩=some (.int .i64 s.now)/\w'.cell? ⟨w1.heap.size,0,none⟩=some (.string id)/\w'.cell? ⟨w1.heap.size,1,none⟩=some (.int .i64 i)/\w'.cell? ⟨w1.heap.size,2,none⟩=some (.int .i64 q))
   ((refine HS.out _ ?_;repeat (with_reducible first|exact G8|exact AA|refine Below.Gh ?_|refine AE ?_)))
   ((go_at_call 191;(with_reducible refine(HP.out _ ?ia).mono ?_);(case ia=>repeat (with_reducible first|exact AA|refine Below.Gh ?_|refine AE ?_));rintro e' w3 ⟨A3,c3,l3,rfl,Vk,UG,DT,Th,IG⟩;have G8:Below w2.heap.size w2 w3:=Below.C9 (by repeat (with_reducible first|exact AA|refine Below.Gh ?_|refine AE ?_)) DT))
  all_goals
   have E3:=I (BW.out.trans (G8.mono (by omega)));have aM:b<w3.heap.size:=by have:=E3.out.size;omega
   have N3:=I (C0.below HH.out E3.out);have ox:=I (M6 IG (by have:=BW.out.size;first|exact this|(simp;omega)));have NT:=I (C0.Pe (mk':=Dw s.c s.now s.drops) (i:=7) HH.out E3.out UG Vk Th ox.out rfl);have KT:=I ((Kept.DU (X:=X) E3.out).setCell (a:=⟨b,7,none⟩) (.inl HH.out.xb) (.slice A3 pn c3));have f8:=N3.out.DC.frozen 7;have b7:=NT.out.DC.cell 6;have f7:=NT.out.DC.frozen 6;simp[Dw]at b7 f7 f8;have NS:=I (C0.set (mk':=Dw s.c s.now (min (s.drops+1) 1073741824)) NT.out 6 (.int .i64 (min 1073741824 (s.drops+1))) (by rw[Int.min_comm 1073741824 (s.drops+1)];rfl));have KS:=I (KT.out.setCell (a:=⟨b,6,none⟩) (.inl HH.out.xb) (.int .i64 (min 1073741824 (s.drops+1))))
   clear G8 DT Vk UG Th IG;go_wp2;refine AF (v:=.tuple #[.slice none 0 0,.int .i64 5]) (by simp[results,results145,go_sem]) rfl ?_;exact .no (Fs.wide (C0.at_ NS.out) (Tt (by simp[World.setCell])) (fun k hk=>hk.2)) KS.out
 ·have ES:k<l.length:=by have e:=Ae List.length h.map;rw[Ak]at e;omega
  have hD:s.D[k]'hk=(l[k]'ES).1:=by simp only[<-h.map,Ce]
  have VY:(s.D[k]'hk).2.2.2.2<=s.now:=(hg.pv _ (AL hk)).2;have FO:pid (l[k]'ES)=id:=by rw[<-QK,hD]
  have gz:=I (show∀W,Below w.heap.size w W->Calls prog 191 #[.slice A pn pc,.agg #[.string id,.int .i64 i,.int .i64 q],.int .i64 s.now] W (Ob A l (FW s.D k i q s.now) pn true W)from fun W hw=>by have hh:=kK A pc w.heap.size pn l Nc id i q s.now W (h.Fj.below hw AB) hw.size hb J0 Hc (En Rs).2.1 (En Rs).2.2 (by rw[<-h.Fj.len];exact(En Rs).1) k ES FO (by show(l[k]'ES).1.2.2.2.2<=s.now;rw[<-hD];exact VY) (by show GC (l[k]'ES).1.2.1.1 (l[k]'ES).1.2.1.2.1 i q;rw[<-hD];exact Nw);rw[h.map]at hh;simp only[Do]at hh;rw[<-hD]at hh;unfold FW;rw[AU hk];exact hh);clear h hg he hb Rs QK Nw hD VY FO;have HG2:=I Ka
  clear Ka;go_in;go_wp2_with fail
  refine(HD.out _).mono ?_;rintro e' w1 ⟨rfl,C6⟩;have N1:=I (C0.below HH.out C6);have B1:=I C6;have Ld:=C6.size;clear C6;have eB:id.size<=8:=(Fw HB.out).1;have E1:=I ((AI w1).lay #[.string id,.int .i64 i,.int .i64 q] 226);have N2:=I (C0.below N1.out E1.out.DI);have BW:=I (B1.out.trans (E1.out.DI.mono Ld))
  go_upto_region 18 with fail
  generalize IK:World.alloc w1 _=w2 at*;have je:w2.heap.size=w1.heap.size+1:=by rw[<-IK];simp
  clear IK;have Hi:=N2.out.DC.lt;have HS:=I (show∀w',Below w2.heap.size w2 w'->(Below w2.heap.size w2 w'/\w'.cell? ⟨b,7,none⟩=some (.slice A pn pc)/\w'.cell? ⟨b,5,none⟩=some (.int .i64 s.now)/\w'.cell? ⟨w1.heap.size,0,none⟩=some (.string id)/\w'.cell? ⟨w1.heap.size,1,none⟩=some (.int .i64 i)/\w'.cell? ⟨w1.heap.size,2,none⟩=some (.int .i64 q))
   from fun w' h=>⟨h,(N2.out.DC.below h Hi).cell 7,(N2.out.DC.below h Hi).cell 5,(E1.out.below h).hd.cell 0,(E1.out.below h).hd.cell 1,(E1.out.below h).hd.cell 2⟩)
  have HP:=I (fun W (hw:Below w2.heap.size w2 W)=>gz.out W (BW.out.trans (hw.mono (by omega))));go_region_held3 (fun w'=>Below w2.heap.size w2 w'/\w'.cell? ⟨b,7,none⟩=some (.slice A pn pc)/\w'.cell? ⟨b,5,none⟩=some (.int .i64 s.now)/\w'.cell? ⟨w1.heap.size,0,none⟩=some (.string id)/\w'.cell? ⟨w1.heap.size,1,none⟩=some (.int .i64 i)/\w'.cell? ⟨w1.heap.size,2,none⟩=some (.int .i64 q))
   ((refine HS.out _ ?_;repeat (with_reducible first|exact G8|exact AA|refine Below.Gh ?_|refine AE ?_)))
   ((go_at_call 191;(with_reducible refine(HP.out _ ?ia).mono ?_);(case ia=>repeat (with_reducible first|exact AA|refine Below.Gh ?_|refine AE ?_));rintro e' w3 ⟨A3,c3,l3,rfl,Vk,UG,DT,Th,IG⟩;have G8:Below w2.heap.size w2 w3:=Below.C9 (by repeat (with_reducible first|exact AA|refine Below.Gh ?_|refine AE ?_)) DT))
  all_goals
   have E3:=I (BW.out.trans (G8.mono (by omega)));have aM:b<w3.heap.size:=by have:=E3.out.size;omega
   have N3:=I (C0.below HH.out E3.out);have ox:=I (M6 IG (by have:=BW.out.size;first|exact this|(simp;omega)));have NT:=I (show FQ (grow X w w3) (w3.setCell ⟨b,7,none⟩ (.slice A3 pn c3)) b A3 pn c3 sv l3 {s with D:=FW s.D k i q s.now}from C0.Pe (mk':=Dw s.c s.now s.drops) (i:=7) HH.out E3.out UG Vk Th ox.out rfl);have KT:=I ((Kept.DU (X:=X) E3.out).setCell (a:=⟨b,7,none⟩) (.inl HH.out.xb) (.slice A3 pn c3));have f8:=N3.out.DC.frozen 7;have ER:(w3.setCell ⟨b,7,none⟩ (.slice A3 pn c3)).heap.size=w3.heap.size:=by simp[World.setCell]
   have Tj:=E3.out.size;clear G8 DT Vk UG Th IG;go_wp2_with fail
   refine(QT NT.out HG2.out).mono ?_;rintro e' w6 ⟨A6,c6,rfl,Iv,Qg,UQ⟩;have Df:=I (show Iw X b (Dh.tell {s with D:=FW s.D k i q s.now}) (Dh.notes {s with D:=FW s.D k i q s.now}) 0 w (.returned (.tuple #[.slice A6 (Dh.notes {s with D:=FW s.D k i q s.now}).length c6,.int .i64 0])) w6 from
    ⟨A6,c6,rfl,DX Iv (by rw[ER];exact Tj),Fs.wide (C0.at_ Qg) (Tt (by have:=UQ.size;rw[ER]at this;exact this)) (fun k hk=>hk.2),KT.out.then UQ (fun k hk=>hk.1)⟩)
   clear Iv Qg UQ;go_wp2;exact AF (v:=.tuple #[.slice A6 (Dh.notes {s with D:=FW s.D k i q s.now}).length c6,.int .i64 0]) (by simp[results,results145,go_sem]) rfl Df.out
theorem lM(h:FQ X w b A pn pc sv l s)(hg:Di s)(x:ByteArray):
 Calls prog 145 #[.pointer (some ⟨b,0,none⟩),.string x] w (Iw X b (s.heard x) (s.J8 x) (s.Iy x) w):=by
 have hgm:=hg.mid x;obtain⟨id,i,q,er,he⟩:∃id i q er,Fm x=(id,i,q,er):=⟨_,_,_,_,rfl⟩;unfold Dh.heard Dh.J8 Dh.Iy;unfold Dh.mid at hgm⊢;have X8:s.kind x=if er≠0 then .no er else match idxOf s.D id with|none=>.no 4|some k=>if MC s.D k i q=true then .new k i q else .Nz k:=by unfold Dh.kind;rw[he];rfl
 by_cases hz:er≠0
 ·rw[AD hz]at X8
  rw[X8];show Calls _ _ _ _ (Iw X b (if er=0 then s.drop.tell else s.drop) (if er=0 then s.drop.notes else []) er w);rw[AC hz,AC hz];exact wh h hg x he hz
 have hz:=Cn.1 hz;subst hz;rw[AC (by simp)]at X8;have hb:Em id i q=0:=by have:=SP (s:=x) (by rw[he]);rw[he]at this;exact this
 cases hi:idxOf s.D id with
 |none=>
  rw[hi]at X8;rw[X8];show Calls _ _ _ _ (Iw X b (if (4:Int)=0 then s.drop.tell else s.drop) (if (4:Int)=0 then s.drop.notes else []) 4 w);rw[AC (by decide),AC (by decide)];exact(Sl h hg x he hb).1 hi
 |some k=>
  rw[hi]at X8;obtain⟨hk,h1,h2⟩:=Hk hi;have fr:MC s.D k i q=decide (GC (s.D[k]'hk).2.1.1 (s.D[k]'hk).2.1.2.1 i q):=by unfold MC;rw[AU hk]
  by_cases hn:GC (s.D[k]'hk).2.1.1 (s.D[k]'hk).2.1.2.1 i q
  ·have Uv:s.kind x=.new k i q:=by rw[X8];show(if MC s.D k i q=true then HK.new k i q else HK.Nz k)=_;rw[fr,AD (by simpa using hn)]
   rw[Uv]at hgm⊢;exact(Sl h hg x he hb).2.2 k hk h1 hn hgm
  ·have Uv:s.kind x=.Nz k:=by rw[X8];show(if MC s.D k i q=true then HK.new k i q else HK.Nz k)=_;rw[fr,AC (by simpa using hn)]
   rw[Uv];exact(Sl h hg x he hb).2.1 k hk h1 hn
end
def sj(D:List D0)(id:ByteArray):Int:=match idxOf D id with|some k=>(k:Int)|none=> -1
theorem jj{w:World}{A:Option Addr}{pn pc:Nat}{l:List C8}{D:List D0}(hp:Dq w w.heap.size A pn l)(hm:l.map Prod.fst=D)(hn:pn<=maxLen)(id:ByteArray):
 Calls prog 147 #[.slice A pn pc,.string id] w fun e w'=>e=.returned (.int .i64 (sj D id))/\Below w.heap.size w w':=by
 unfold sj;cases hi:idxOf D id with
 |none=>exact LC A pc w.heap.size pn l id (kP hm hi) hn w hp AB
 |some k=>
  obtain⟨hk,h1,h2⟩:=Hk hi;subst hm;have ES:k<l.length:=by simpa using hk
  have Wm:pid (l[k]'ES)=id:=by simpa using h1
  have:=Mp A pc w.heap.size pn l k ES (fun j hj VD=>by rw[Wm];have:=h2 j (by simpa using hj) VD;simpa using this) hn w hp AB;rw[Wm]at this;exact this
section
variable{X:Nat->Prop}{w:World}{b pn pc:Nat}{A:Option Addr}{sv:Value}{l:List C8}{s:Dh}
theorem jm(h:FQ X w b A pn pc sv l s)(hg:Di s)(id:ByteArray)(th:Int)(ht:wi th 1 60=false):
 Calls prog 65 #[.pointer (some ⟨b,0,none⟩),.string id,.int .i64 th] w (Iw X b s [] 1 w):=by
 have HH:=I h;have HG:=I hg;have FI:=h.DC.lt;have h8:=hg.eight;have HT:=I ht;have B0:=I (AQ w.heap.size w);clear h hg ht;go_in;go_wp2_with fail
 refine(Dv th 1 60 _ HT.out _).mono ?_;rintro e' w' ⟨rfl,rfl⟩;go_wp2;all_goals first
  |(exfalso;omega)
  |(refine AF (v:=.tuple #[.slice none 0 0,.int .i64 1]) (by simp[results,results65,go_sem]) rfl ?_;exact .no (C0.at_ (C0.grow HH.out)) (.DU B0.out))
theorem Lo(h:FQ X w b A pn pc sv l s)(hg:Di s)(id:ByteArray)(th:Int)(Ur:1<=th)(mg:th<=60):
 (∀(hx:sj s.D id= -1),Calls prog 65 #[.pointer (some ⟨b,0,none⟩),.string id,.int .i64 th] w (Iw X b s [] 4 w))/\
 (∀(k:Nat),∀(hx:sj s.D id=(k:Int)),∀(i:Nat),∀(hi:TP (Gb id th) s.S=(i:Int)),Calls prog 65 #[.pointer (some ⟨b,0,none⟩),.string id,.int .i64 th] w (Iw X b s [] 5 w))/\
 (∀(k:Nat),∀(hx:sj s.D id=(k:Int)),∀(hi:TP (Gb id th) s.S= -1),∀(hl:s.S.length=8),Calls prog 65 #[.pointer (some ⟨b,0,none⟩),.string id,.int .i64 th] w (Iw X b s [] 10 w))/\
 (∀(k:Nat),∀(hx:sj s.D id=(k:Int)),∀(hi:TP (Gb id th) s.S= -1),∀(hl:s.S.length≠8),∀(Ka:Di (s.plus id th)),Calls prog 65 #[.pointer (some ⟨b,0,none⟩),.string id,.int .i64 th] w (Iw X b (s.plus id th).tell (s.plus id th).notes 0 w)):=by
 refine⟨fun hx=>?_,fun k hx i hi=>?_,fun k hx hi hl=>?_,fun k hx hi hl Ka=>?_⟩;all_goals
  have HH:=I h;have HG:=I hg;have FI:=h.DC.lt;have h8:=hg.eight;have HT:=I (show wi th 1 60=true from DW.2 ⟨Ur,mg⟩);have od:pn<=maxLen:=AG h.room.1 h.room.2;have rH:=I (jj (pc:=pc) h.Fj h.map od id);have b7:=h.DC.cell 7;simp[Dw]at b7
 ·rw[hx]at rH
  clear h hg hx od;go_in;go_wp2_with fail
  refine(Dv th 1 60 _ HT.out _).mono ?_;rintro e' w' ⟨rfl,rfl⟩;go_wp2_with fail
  refine rH.out.mono ?_;rintro e' w1 ⟨rfl,C6⟩;have B1:=I C6;have N1:=I (C0.below HH.out C6);clear C6 b7;go_wp2;all_goals first
   |(exfalso;omega)
   |(refine AF (v:=.tuple #[.slice none 0 0,.int .i64 4]) (by simp[results,results65,go_sem]) rfl ?_;exact .no (C0.at_ (C0.grow N1.out)) (.DU B1.out))
 ·rw[hx]at rH
  have HI:=I hi;clear h hg hx hi od;go_in;go_wp2_with fail
  refine(Dv th 1 60 _ HT.out _).mono ?_;rintro e' w' ⟨rfl,rfl⟩;go_wp2_with fail
  refine rH.out.mono ?_;rintro e' w1 ⟨rfl,C6⟩;have B1:=I C6;have N1:=I (C0.below HH.out C6);clear C6 b7;go_wp2_with fail
  refine(VM N1.out (by omega) id th).mono ?_;rintro e' w2 ⟨rfl,DK⟩;rw[HI.out];have B2:=I (B1.out.trans (DK.mono B1.out.size));have N2:=I (C0.below HH.out B2.out);clear DK;go_wp2;all_goals first
   |(exfalso;omega)
   |(refine AF (v:=.tuple #[.slice none 0 0,.int .i64 5]) (by simp[results,results65,go_sem]) rfl ?_;exact .no (C0.at_ (C0.grow N2.out)) (.DU B2.out))
 ·rw[hx]at rH
  have HI:=I hi;have HL:=I hl;clear h hg hx hi hl od;go_in;go_wp2_with fail
  refine(Dv th 1 60 _ HT.out _).mono ?_;rintro e' w' ⟨rfl,rfl⟩;go_wp2_with fail
  refine rH.out.mono ?_;rintro e' w1 ⟨rfl,C6⟩;have B1:=I C6;have N1:=I (C0.below HH.out C6);clear C6 b7;go_wp2_with fail
  refine(VM N1.out (by omega) id th).mono ?_;rintro e' w2 ⟨rfl,DK⟩;rw[HI.out];have B2:=I (B1.out.trans (DK.mono B1.out.size));have N2:=I (C0.below HH.out B2.out);clear DK;have b8:=N2.out.DC.cell 8;have Hi:=N2.out.DC.lt;simp[Dw]at b8;obtain⟨As,cs,WO⟩:=Cz N2.out.Nb.own;subst WO;rw[HL.out]at b8;go_wp2;all_goals first
   |(exfalso;omega)
   |(refine AF (v:=.tuple #[.slice none 0 0,.int .i64 10]) (by simp[results,results65,go_sem]) rfl ?_;exact .no (C0.at_ (C0.grow N2.out)) (.DU B2.out))
 ·obtain⟨i0,Pr,Fq,FZ,Fe⟩:=AO ZZ
  rw[hx]at rH;have HI:=I hi;have HG2:=I Ka;clear h hg hx hi Ka od;go_in;go_wp2_with fail
  refine(Dv th 1 60 _ HT.out _).mono ?_;rintro e' w' ⟨rfl,rfl⟩;go_wp2_with fail
  refine rH.out.mono ?_;rintro e' w1 ⟨rfl,C6⟩;have B1:=I C6;have N1:=I (C0.below HH.out C6);clear C6 b7;go_wp2_with fail
  refine(VM N1.out (by omega) id th).mono ?_;rintro e' w2 ⟨rfl,DK⟩;rw[HI.out];have B2:=I (B1.out.trans (DK.mono B1.out.size));have N2:=I (C0.below HH.out B2.out);clear DK;have b8:=N2.out.DC.cell 8;have Hi:=N2.out.DC.lt;simp[Dw]at b8;obtain⟨As,cs,WO⟩:=Cz N2.out.Nb.own;subst WO;obtain⟨n,hn⟩:∃n,s.S.length=n:=⟨_,rfl⟩;rw[hn]at b8 hl h8;have hl8:¬((7:Int)<n):=by omega
  have HN:=I hn;clear hn;have OWN:=I (show w2.ownsRow 0 182 3 (.slice As n cs) n (Da s.S)by have:=N2.out.Nb.own;rw[HN.out]at this;exact this);have fX:(Value.slice As n cs).ownBlock≠some b:=fun e=>by have:=(N2.out.xs b (by rw[HN.out];exact e)).2;exact this rfl
  have HS9:=I (show∀w',Kept (fun k=>(Value.slice As n cs).ownBlock=some k) w2 w'->w'.cell? ⟨b,8,none⟩=some (.slice As n cs)/\w'.frozen? ⟨b,8,none⟩=false from fun w' h=>⟨h.cell b8 fX,(h.DC N2.out.DC fX).frozen 8⟩);have Pi:=I (Kd w2 182 (id,th,false));have WP:=B2.out.size;go_wp2_with (at_builtin;refine Dd _ rfl _ _ 168 rfl 0 182 i0 _ 3 32 underlying168 Pr Fq FZ Fe rfl (by decide) _ _ _ rfl (OWN.out.alloc _) _ _ 1 _ _ rfl Pi.out (In [(id,th,false)]) ?c1 ?c2 (AM _) ?_)
  case c1=>unfold maxLen;omega
  case c2=>omega
  intro v9 w9 Db QC eO;obtain⟨A9,c9,rfl⟩:=Cz Db;have sd:Kept (fun k=>(Value.slice As n cs).ownBlock=some k) w2 w9:=Kept.grown ((AH _ _).alloc _) QC (fun k hk=>.inl hk);obtain⟨z9,zf9⟩:=HS9.out w9 sd;have K9:=I ((Kept.DU (X:=fun k=>(Value.slice As n cs).ownBlock=some k) B2.out).trans sd);have BK:=I eO;have SA:=I (show Ib w9 (.slice A9 (n+1) c9) (s.S++[(id,th,false)])from .DR (by rw[Kk];exact Db));have NJ:=I (show FQ (grow X w w9) (w9.setCell ⟨b,8,none⟩ (.slice A9 (n+1) c9)) b A pn pc (.slice A9 (n+1) c9) l (s.plus id th)from C0.join (mk':=Dw s.c s.now s.drops) (i:=8) HH.out (by rw[HN.out];exact K9.out) SA.out (by rw[HN.out];rcases BK.out with e|e;exact .inl e;exact .inr (fun g hg=>by rw[e]at hg;simp at hg;omega)) rfl)
  have KJ:=I ((K9.out.mono (fun k hk=>.inl (HH.out.xs k (by rw[HN.out];exact hk)).1):Kept X w w9).setCell (a:=⟨b,8,none⟩) (.inl HH.out.xb) (.slice A9 (n+1) c9));have wG:=K9.out.size;clear sd eO Db QC b8;go_wp2_with fail
  refine(QT NJ.out HG2.out).mono ?_;rintro e' w6 ⟨A6,c6,rfl,Iv,Qg,UQ⟩;have ER:(w9.setCell ⟨b,8,none⟩ (.slice A9 (n+1) c9)).heap.size=w9.heap.size:=by simp[World.setCell]
  have Df:=I (show Iw X b (s.plus id th).tell (s.plus id th).notes 0 w (.returned (.tuple #[.slice A6 (s.plus id th).notes.length c6,.int .i64 0])) w6 from
   ⟨A6,c6,rfl,DX Iv (by rw[ER];exact wG),Fs.wide (C0.at_ Qg) (Q9 (by have:=UQ.size;rw[ER]at this;exact this)) (fun k hk=>hk.2),KJ.out.then UQ (fun k hk=>hk.1)⟩)
  clear Iv Qg UQ ER z9 zf9;go_wp2;exact AF (v:=.tuple #[.slice A6 (s.plus id th).notes.length c6,.int .i64 0]) (by simp[results,results65,go_sem]) rfl Df.out
theorem nx{D:List D0}{id:ByteArray}(h:(idxOf D id).isSome=false):sj D id= -1:=by
 unfold sj;cases hi:idxOf D id with
 |none=>rfl
 |some k=>rw[hi]at h;cases h
theorem rN{D:List D0}{id:ByteArray}(h:¬(idxOf D id).isSome=false):∃k:Nat,sj D id=(k:Int):=by
 unfold sj;cases hi:idxOf D id with
 |none=>rw[hi]at h;exact absurd rfl h
 |some k=>exact⟨k,rfl⟩
theorem iF{P:Dm->Bool}{S:List Dm}(h:¬0<=TP P S):TP P S= -1:=by
 unfold TP at h⊢;cases hi:S.findIdx? P with
 |none=>rfl
 |some k=>rw[hi]at h;exact absurd (show(0:Int)<=(k:Int)by omega) h
theorem kB(h:FQ X w b A pn pc sv l s)(hg:Di s)(id:ByteArray)(th:Int):
 Calls prog 65 #[.pointer (some ⟨b,0,none⟩),.string id,.int .i64 th] w (Iw X b (s.Dy id th) (s.Fa id th) (s.FA id th) w):=by
 have hp:=fun he=>hg.plus (id:=id) (th:=th) he;unfold Dh.Dy Dh.Fa;unfold Dh.FA at hp⊢;by_cases h1:th<1\/60<th
 ·rw[AD h1,AC (by decide),AC (by decide)]
  exact jm h hg id th (Fc.2 h1)
 rw[AC h1]at hp⊢;by_cases h2:(idxOf s.D id).isSome=false
 ·rw[AD h2,AC (by decide),AC (by decide)]
  exact(Lo h hg id th (by omega) (by omega)).1 (nx h2)
 rw[AC h2]at hp⊢;obtain⟨k,hk⟩:=rN h2;by_cases h3:0<=TP (Gb id th) s.S
 ·rw[AD h3,AC (by decide),AC (by decide)]
  exact(Lo h hg id th (by omega) (by omega)).2.1 k hk (TP (Gb id th) s.S).toNat (by omega)
 rw[AC h3]at hp⊢;by_cases h4:s.S.length=8
 ·rw[AD h4,AC (by decide),AC (by decide)]
  exact(Lo h hg id th (by omega) (by omega)).2.2.1 k hk (iF h3) h4
 rw[AC h4]at hp⊢;rw[AD rfl,AD rfl];exact(Lo h hg id th (by omega) (by omega)).2.2.2 k hk (iF h3) h4 (hp rfl)
end
theorem ky{c:Dg}{w:World}{b:Nat}(h:DJ w b 170 (Dw c 0 0 (.slice none 0 0) (.slice none 0 0))):FJ (· =b) w b (Dh.start c):=
 ⟨none,0,0,.slice none 0 0,[],h,⟨rfl,Reads.none_,by simp⟩,rfl,⟨AB,AM _⟩,.inl ⟨rfl,rfl⟩,rfl,(fun g hg=>by cases hg),⟨fun h=>by simp at h,by simp⟩,fun k hk=>hk▸h.lt⟩
theorem UN(j:Nat)(h:j<=9223372036854775807):wrap64 (j:Int)=(j:Int):=by unfold wrap64;omega
def Dh.tkM(s:Dh)(g:Int):Nat:=if s.D8 g=0 then s.many g else 0
theorem gD{s:Dh}(h:Di s)(g:Int):s.tkM g<=100:=by
 unfold Dh.tkM;split
 ·next he=>
  have hc:=h.cfg;unfold Gj at hc;unfold Dh.D8 at he;unfold Dh.many;obtain⟨-,-,Qi,Rm,-⟩:=hc;by_cases h1:g<1\/1073741824<g
  ·rw[AD h1]at he;cases he
  ·rw[AC h1]at he
   by_cases h2:1073741824<s.now+g\/64<=g/Eb s.c
   ·rw[AD h2]at he;cases he
   ·generalize Eb s.c=ev at*
    have h3:g/ev<64:=by omega
    have h4:g<64*ev:=Int.lt_mul_of_ediv_lt (by omega) h3;have h5:(s.now+g)/ev<=(s.now+64*ev)/ev:=ATf (by omega) (by omega);rw[Int.add_mul_ediv_right _ _ (by omega)]at h5;omega
 ·omega
theorem FJ.dJ{Y:Nat->Prop}{W:World}{b:Nat}{s:Dh}(h:FJ Y W b s):∀k,Y k->k<W.heap.size:=by
 obtain⟨_,_,_,_,_,h⟩:=h;exact h.dJ
theorem FM.dJ{Y:Nat->Prop}{W:World}{b:Nat}{s:Dh}(h:FM Y W b s):∀k,Y k->k<W.heap.size:=by
 obtain⟨_,_,_,_,_,h⟩:=h;exact h.dJ
structure EA(w W:World)(F:Nat->Nat):Prop where
 lo:∀k,F k≠0->w.heap.size<=k
 hi:∀k,F k≠0->k<W.heap.size
 DI:Below w.heap.size w W
structure DN(P:Nat->Prop)(F:Nat->Nat)(W:World)(F':Nat->Nat)(W':World):Prop where
 kept:Kept (fun k=>P (F k)) W W'
 Nz:∀k,k<W.heap.size->F' k=F k
 new:∀k,W.heap.size<=k->F' k≠0->P (F' k)
def DM(F:Nat->Nat)(W W':World)(c:Nat):Nat->Nat:=fun k=>if W.heap.size<=k/\k<W'.heap.size then c else F k
section
variable{w W W' W2:World}{F F' F2:Nat->Nat}{P Q:Nat->Prop}{c c' b:Nat}
theorem dL(h:EA w W F){k:Nat}(hk:grow (fun k=>F k=c) W W' k):DM F W W' c k=c:=by
 unfold DM;split
 ·rfl
 ·next hn=>exact hk.1.elim id (fun e=>absurd ⟨e,hk.2⟩ hn)
theorem FV{k:Nat}(h1:W.heap.size<=k)(h2:k<W'.heap.size):DM F W W' c k=c:=by
 unfold DM;rw[AD ⟨h1,h2⟩]
theorem EA.below(h:EA w W F)(hb:Below W.heap.size W W'):EA w W' F:=⟨h.lo,fun k hk=>AJ (h.hi k hk) hb.size,h.DI.trans (hb.mono h.DI.size)⟩
theorem EA.DM(h:EA w W F)(hc:c≠0)(hk:Kept (fun k=>F k=c) W W'):EA w W' (DM F W W' c):=by
 refine⟨fun k XA=>?_,fun k XA=>?_,h.DI.trans (hk.below (fun k e=>h.lo k (by rw[e];exact hc)) h.DI.size)⟩
 ·unfold Go.Proofs.YthiplgekjgffkaaGreatDoor.DM at XA
  split at XA
  ·next hr=>exact AG h.DI.size hr.1
  ·exact h.lo k XA
 ·unfold Go.Proofs.YthiplgekjgffkaaGreatDoor.DM at XA
  split at XA
  ·next hr=>exact hr.2
  ·exact AJ (h.hi k XA) hk.size
theorem DN.DM(h:EA w W F)(hk:Kept (fun k=>F k=c) W W'):DN (fun x=>x=c) F W (DM F W W' c) W':=
 ⟨hk,fun k hl=>by
   unfold Go.Proofs.YthiplgekjgffkaaGreatDoor.DM;rw[AC (by omega)],fun k hl h0=>by
   unfold Go.Proofs.YthiplgekjgffkaaGreatDoor.DM at h0⊢;split at h0
   ·next hr=>rw[AD hr]
   ·have:=h.hi k h0;omega⟩
theorem DN.below(h:EA w W F)(hb:Below W.heap.size W W'):DN P F W F W':=⟨.DU hb,fun _ _=>rfl,fun k hl h0=>by have:=h.hi k h0;omega⟩
theorem DN.refl(h:EA w W F):DN P F W F W:=⟨AH _ _,fun _ _=>rfl,fun k hl h0=>by have:=h.hi k h0;omega⟩
theorem DN.mono(h:DN P F W F' W')(hpq:∀c,P c->Q c):DN Q F W F' W':=⟨h.kept.mono (fun k hk=>.inl (hpq _ hk)),h.Nz,fun k hl h0=>hpq _ (h.new k hl h0)⟩
theorem DN.trans(h:DN P F W F' W')(h2:DN P F' W' F2 W2):DN P F W F2 W2:=
 ⟨h.kept.then h2.kept (fun k hk=>by
   by_cases hl:W.heap.size<=k
   ·exact .inr hl
   ·rw[h.Nz k (by omega)]at hk
    exact .inl hk),fun k hl=>(h2.Nz k (AJ hl h.kept.size)).trans (h.Nz k hl),fun k hl h0=>by
   by_cases I4:W'.heap.size<=k
   ·exact h2.new k I4 h0
   ·have e:=h2.Nz k (by omega)
    rw[e]at h0⊢;exact h.new k hl h0⟩
theorem DN.Jj(h:DN P F W F' W')(hC:EA w W F){k c:Nat}(h0:c≠0)(hn:¬P c):F' k=c↔F k=c:=by
 by_cases hl:W.heap.size<=k
 ·refine⟨fun e=>?_,fun e=>?_⟩
  ·have:=h.new k hl (by rw[e];exact h0)
   rw[e]at this;exact absurd this hn
  ·have:=hC.hi k (by rw[e];exact h0)
   omega
 ·rw[h.Nz k (by omega)]
theorem DN.hold{T:TypeId}{mk:Value->Value->Array Value}{D:List D0}{S:List Dm}(m:DN P F W F' W')(hC:EA w W F)(h0:c'≠0)(hn:¬P c')(hp:Fs T mk (fun k=>F k=c') W b D S):Fs T mk (fun k=>F' k=c') W' b D S:=
 (hp.kept m.kept (fun k h1 h2=>hn (by rw[h2]at h1;exact h1))).wide (fun k e=>(m.Jj hC h0 hn).2 e) (fun k e=>AJ (hC.hi k (by rw[(m.Jj hC h0 hn).1 e];exact h0)) m.kept.size)
theorem EA.held{T:TypeId}{mk:Value->Value->Array Value}{D:List D0}{S:List Dm}(h:EA w W F)(hk:Kept (fun k=>F k=c) W W')(hc:c≠0)(hp:Fs T mk (grow (fun k=>F k=c) W W') W' b D S):Fs T mk (fun k=>Go.Proofs.YthiplgekjgffkaaGreatDoor.DM F W W' c k=c) W' b D S:=
 hp.wide (fun k e=>dL h e) (fun k e=>(h.DM hc hk).hi k (by rw[e];exact hc))
def Ns(F:Nat->Nat)(c:Nat)(W:World)(e:TypeId)(size n:Nat)(v:Value)(xs:List Value):Prop:=W.ownsRow 0 e size v n xs/\∀k,v.ownBlock=some k->F k=c
theorem DN.row{e:TypeId}{size n:Nat}{v:Value}{xs:List Value}(m:DN P F W F' W')(hC:EA w W F)(h0:c'≠0)(hn:¬P c')(hr:Ns F c' W e size n v xs):Ns F' c' W' e size n v xs:=
 ⟨m.kept.own hr.1 (fun k hk hx=>hn (by rw[hr.2 k hk]at hx;exact hx)),fun k hk=>(m.Jj hC h0 hn).2 (hr.2 k hk)⟩
def IW(F:Nat->Nat)(c:Nat)(W:World)(size n:Nat)(A:Option Addr)(xs:List Value):Prop:=Reads W W.heap.size size A n xs/\(0<n->∀a,A=some a->F a.block=c)
theorem UZ{w:World}{B C size n:Nat}{A:Option Addr}{xs:List Value}(h:Reads w B size A n xs)(hC:B<=C):Reads w C size A n xs:=
 ⟨h.1,fun hn=>by
   obtain⟨ad,e,hb,hc⟩:=h.2 hn;exact⟨ad,e,AJ hb hC,hc⟩⟩
theorem DN.read{size n:Nat}{A:Option Addr}{xs:List Value}(m:DN P F W F' W')(hC:EA w W F)(h0:c'≠0)(hn:¬P c')(hr:IW F c' W size n A xs):IW F' c' W' size n A xs:=
 ⟨UZ (m.kept.reads hr.1 (fun hp a ha hx=>hn (by rw[hr.2 hp a ha]at hx;exact hx))) m.kept.size,fun hp a ha=>(m.Jj hC h0 hn).2 (hr.2 hp a ha)⟩
def Nx(F:Nat->Nat)(c:Nat)(W:World)(b:Nat)(T:TypeId)(cs:Array Value):Prop:=DJ W b T cs/\F b=c
theorem DN.DC{T:TypeId}{cs:Array Value}(m:DN P F W F' W')(hC:EA w W F)(h0:c'≠0)(hn:¬P c')(hr:Nx F c' W b T cs):Nx F' c' W' b T cs:=
 ⟨m.kept.DC hr.1 (fun hx=>hn (by rw[hr.2]at hx;exact hx)),(m.Jj hC h0 hn).2 hr.2⟩
end
abbrev PM:=Dh×Bool
structure DQ where
 L:List PM
 way:List ByteArray
structure Dt(t:DQ):Prop where
 Er:t.L.length<=5
 Fo:∀p∈t.L,Di p.1
 way:t.way.length<=1000
def DQ.FH(t:DQ)(i:Int):Bool:=decide (0<=i)&&decide (i<t.L.length)&& !(t.L.map Prod.snd).getD i.toNat true
theorem Fu{t:DQ}{i:Int}(h:t.FH i=true):∃k:Nat,i=(k:Int)/\∃hk:k<t.L.length,(t.L[k]'hk).2=false:=by
 unfold DQ.FH at h;simp only[Bf,CG,Bool.not_eq_true']at h;obtain⟨⟨h0,h1⟩,h2⟩:=h;have hk:i.toNat<t.L.length:=by omega
 refine⟨i.toNat,by omega,hk,?_⟩
 simpa [List.getD,hk] using h2
theorem Lz{t:DQ}{i:Int}(h:t.FH i=false):i<0\/(t.L.length:Int)<=i\/∃k:Nat,i=(k:Int)/\∃hk:k<t.L.length,(t.L[k]'hk).2=true:=by
 unfold DQ.FH at h;by_cases h0:0<=i
 ·by_cases h1:i<t.L.length
  ·have hk:i.toNat<t.L.length:=by omega
   refine .inr (.inr ⟨i.toNat,by omega,hk,?_⟩)
   simpa [List.getD,hk,h0,h1] using h
  ·exact .inr (.inl (by omega))
 ·exact .inl (by omega)
theorem Oa{t:DQ}{k:Nat}(hk:k<t.L.length):t.FH (k:Int)= !(t.L[k]'hk).2:=by
 unfold DQ.FH;simp[List.getD,hk]
def FX(g:Int):List PM->Nat
 | []=>0
 |p::l=>(if p.2=true then 0 else p.1.many g)+FX g l
theorem fJ(g:Int)(l m:List PM):FX g (l++m)=FX g l+FX g m:=by
 induction l with
 |nil=>simp[FX]
 |cons p l ih=>simp only[Cg,FX,ih];omega
theorem TL(g:Int)(l:List PM)(k:Nat)(hk:k<l.length):FX g (l.take (k+1))=FX g (l.take k)+(if (l[k]'hk).2=true then 0 else (l[k]'hk).1.many g):=by
 rw[Af hk,fJ];simp[FX]
def Hr(g:Int)(p:PM):Bool:= !p.2&&decide (p.1.D8 g≠0)
def DQ.D8(t:DQ)(g:Int):Int:=if g<1\/1000<g then 1 else if t.L.any (Hr g)=true then 2 else if 1000<t.way.length+FX g t.L then 10 else 0
def KI(g:Int)(p:PM):PM:=if p.2=true then p else ((p.1.DP g).tell,false)
def Ic(g:Int)(p:PM):List ByteArray:=if p.2=true then []else Ff p.1.c p.1.seq (p.1.many g)
def GX(g:Int)(p:PM):List Dm:=if p.2=true then []else (p.1.DP g).notes
def DQ.DP(t:DQ)(g:Int):DQ:=if t.D8 g=0 then ⟨t.L.map (KI g),t.way++t.L.flatMap (Ic g)⟩else t
def DQ.Fb(t:DQ)(g:Int):List Dm:=if t.D8 g=0 then t.L.flatMap (GX g)else []
theorem QZ(g:Int):∀l:List PM,(l.flatMap (Ic g)).length=FX g l
 | []=>rfl
 |p::l=>by
  simp only[List.flatMap_cons,AN,FX,QZ g l];unfold Ic;split
  ·simp
  ·rw[ME]
def DQ.mid(t:DQ)(g:Int)(k:Nat):DQ:=⟨(t.L.take k).map (KI g)++t.L.drop k,t.way++(t.L.take k).flatMap (Ic g)⟩
def DQ.Ho(t:DQ)(g:Int)(k:Nat):List Dm:=(t.L.take k).flatMap (GX g)
theorem DQ.cr(t:DQ)(g:Int):t.mid g 0=t:=by simp[DQ.mid]
theorem DQ.ip(t:DQ)(g:Int)(k:Nat)(hk:t.L.length<=k):t.mid g k=⟨t.L.map (KI g),t.way++t.L.flatMap (Ic g)⟩:=by
 simp[DQ.mid,AY hk,Cu hk]
theorem DQ.Hg(t:DQ)(g:Int)(k:Nat):(t.mid g k).L.length=t.L.length:=by
 simp[DQ.mid];omega
theorem DQ.Vt(t:DQ)(g:Int)(k j:Nat)(hj:j<t.L.length)(hkj:k<=j):(t.mid g k).L[j]'(by rw[DQ.Hg];exact hj)=t.L[j]'hj:=by
 simp only[DQ.mid];rw[AUX (by simp;omega)];simp[List.getElem_drop];congr 1;omega
theorem DQ.Ye(t:DQ)(g:Int)(k:Nat)(hk:k<t.L.length):(t.mid g (k+1)).L=(t.mid g k).L.set k (KI g (t.L[k]'hk)):=by
 simp only[DQ.mid];rw[Af hk,BP,ATT _ _ (by simp only[Ak,AV];omega)];have hlen:((t.L.take k).map (KI g)).length=k:=by simp;omega
 rw[hlen,ATS,Bz hk,ATU];simp
theorem DQ.Y0(t:DQ)(g:Int)(k:Nat)(hk:k<t.L.length):(t.mid g (k+1)).way=(t.mid g k).way++Ic g (t.L[k]'hk):=by
 simp only[DQ.mid];rw[Af hk,ATx];simp
theorem DQ.Sp(t:DQ)(g:Int)(k:Nat)(hk:k<t.L.length):t.Ho g (k+1)=t.Ho g k++GX g (t.L[k]'hk):=by
 simp only[DQ.Ho];rw[Af hk,ATx];simp
theorem Mi{s:Dh}(h:Di s):s.notes.length<=8:=AG (LJ _ _) h.eight
theorem Vd{p:PM}{g:Int}(h:Di p.1)(he:Hr g p=false):(GX g p).length<=8:=by
 unfold GX;unfold Hr at he;split
 ·simp
 ·next hp=>
  have:p.1.D8 g=0:=by simpa [hp] using he
  exact Mi (h.DP this)
theorem Y8{f:PM->List Dm}:∀l:List PM,(∀p∈l,(f p).length<=8)->(l.flatMap f).length<=8*l.length
 | [],_=>by simp
 |p::l,h=>by
  have h1:=h p (Ay ..);have h2:=Y8 l (fun q hq=>h q (Am _ hq));simp only[List.flatMap_cons,AN,AP];omega
theorem any_false{f:PM->Bool}{l:List PM}(h:l.any f=false):∀p∈l,f p=false:=by
 intro p hp;by_cases hf:f p=true
 ·have:l.any f=true:=ATE.2 ⟨p,hp,hf⟩
  rw[this]at h;cases h
 ·simpa using hf
theorem QJ{t:DQ}{g:Int}(h:t.D8 g=0):1<=g/\g<=1000/\(∀p∈t.L,Hr g p=false)/\t.way.length+FX g t.L<=1000:=by
 unfold DQ.D8 at h;by_cases h1:g<1\/1000<g
 ·rw[AD h1]at h;cases h
 ·rw[AC h1]at h
  by_cases h2:t.L.any (Hr g)=true
  ·rw[AD h2]at h;cases h
  ·rw[AC h2]at h
   by_cases h3:1000<t.way.length+FX g t.L
   ·rw[AD h3]at h;cases h
   ·exact⟨by omega,by omega,any_false (by simpa using h2),by omega⟩
theorem fY{p:PM}{g:Int}(h:Di p.1)(he:Hr g p=false):Di (KI g p).1:=by
 unfold KI;unfold Hr at he;split
 ·exact h
 ·next hp=>
  have:p.1.D8 g=0:=by simpa [hp] using he
  exact(h.DP this).tell
theorem Dt.DP{t:DQ}(h:Dt t)(g:Int):Dt (t.DP g):=by
 unfold DQ.DP;split
 ·next he=>
  obtain⟨h1,h2,h3,h4⟩:=QJ he;refine⟨by simpa using h.Er,fun p hp=>?_,by simp only[AN,QZ];exact h4⟩;obtain⟨q,hq,rfl⟩:=BD.1 hp;exact fY (h.Fo q hq) (h3 q hq)
 ·exact h
theorem U0{t:DQ}(h:Dt t)(g:Int):(t.Fb g).length<=40:=by
 unfold DQ.Fb;split
 ·next he=>
  obtain⟨h1,h2,h3,h4⟩:=QJ he;have:=Y8 (f:=GX g) t.L (fun p hp=>Vd (h.Fo p hp) (h3 p hp));have:=h.Er;omega
 ·simp
def DQ.node(t:DQ)(i:Nat)(s:Dh):DQ:=⟨t.L.set i (s,false),t.way⟩
theorem Dt.node{t:DQ}(h:Dt t)(i:Nat){s:Dh}(hs:Di s):Dt (t.node i s):=
 ⟨by simpa [DQ.node] using h.Er,fun p hp=>by
   rcases Cc hp with hp|rfl
   ·exact h.Fo p hp
   ·exact hs,h.way⟩
def DQ.at(t:DQ)(i:Int):Dh:=((t.L[i.toNat]?).map Prod.fst).getD (Dh.start (ByteArray.empty,0,0,0,0))
theorem DQ.JS{t:DQ}{k:Nat}(hk:k<t.L.length):t.at (k:Int)=(t.L[k]'hk).1:=by
 unfold DQ.at;simp[hk]
def DQ.under(t:DQ)(i:Int):Bool:=decide (0<=i)&&decide (i<t.way.length)
def DQ.word(t:DQ)(i:Int):ByteArray:=t.way.getD i.toNat ByteArray.empty
def DQ.Ha(t:DQ)(i z:Int):Int:=if (t.under i&&t.FH z)=true then (t.at z).Iy (t.word i)else 4
def DQ.Ge(t:DQ)(i z:Int):List Dm:=if (t.under i&&t.FH z)=true then (t.at z).J8 (t.word i)else []
def DQ.brought(t:DQ)(i z:Int):DQ:=if (t.under i&&t.FH z)=true then t.node z.toNat ((t.at z).heard (t.word i))else t
def DQ.KE(t:DQ)(i:Int):Int:=if t.under i=true then 0 else 4
def Sd(l:List ByteArray)(k:Nat):List ByteArray:=l.take k++l.drop (k+1)
def DQ.lost(t:DQ)(i:Int):DQ:=if t.under i=true then ⟨t.L,Sd t.way i.toNat⟩else t
def DQ.KB(t:DQ)(i:Int):Int:=if t.FH i=true then 0 else 4
def DQ.Ey(t:DQ)(i:Int):DQ:=if t.FH i=true then ⟨t.L.set i.toNat (t.at i,true),t.way⟩else t
def DQ.FA(t:DQ)(i:Int)(id:ByteArray)(th:Int):Int:=if t.FH i=true then (t.at i).FA id th else 4
def DQ.Fa(t:DQ)(i:Int)(id:ByteArray)(th:Int):List Dm:=if t.FH i=true then (t.at i).Fa id th else []
def DQ.Dy(t:DQ)(i:Int)(id:ByteArray)(th:Int):DQ:=if t.FH i=true then t.node i.toNat ((t.at i).Dy id th)else t
theorem DQ.ND{t:DQ}(h:Dt t){i:Int}(hl:t.FH i=true):Di (t.at i):=by
 obtain⟨k,rfl,hk,_⟩:=Fu hl;rw[DQ.JS hk];exact h.Fo _ (AL hk)
theorem Dt.brought{t:DQ}(h:Dt t)(i z:Int):Dt (t.brought i z):=by
 unfold DQ.brought;split
 ·next hc=>
  have hl:t.FH z=true:=by simp at hc;exact hc.2
  exact h.node _ ((DQ.ND h hl).heard _)
 ·exact h
theorem Dt.lost{t:DQ}(h:Dt t)(i:Int):Dt (t.lost i):=by
 unfold DQ.lost;split
 ·refine⟨h.Er,h.Fo,?_⟩
  have:=h.way;simp only[Sd,AN,AV,CX];omega
 ·exact h
theorem Dt.Ey{t:DQ}(h:Dt t)(i:Int):Dt (t.Ey i):=by
 unfold DQ.Ey;split
 ·next hl=>
  refine⟨by simpa using h.Er,fun p hp=>?_,h.way⟩;rcases Cc hp with hp|rfl
  ·exact h.Fo p hp
  ·exact DQ.ND h hl
 ·exact h
theorem Dt.Dy{t:DQ}(h:Dt t)(i:Int)(id:ByteArray)(th:Int):Dt (t.Dy i id th):=by
 unfold DQ.Dy;split
 ·next hl=>exact h.node _ ((DQ.ND h hl).Dy id th)
 ·exact h
def Gv:List ByteArray->List Dg->Int
 |_,[]=>0
 |seen,c::l=>if IX c=0 then (if seen.any (fun x=>decide (x=c.1))=true then 5 else Gv (seen++[c.1]) l)else IX c
def Ev(l:List Dg):Int:=if 5<l.length then 2 else Gv [] l
def Ee(l:List Dg)(s:Dh):Dh:=l.foldl (fun s c=>s.watched c.1 (Eb c)) s
def DQ.start(l:List Dg):DQ:=⟨l.map fun c=>(Ee l (Dh.start c),false),[]⟩
theorem Di.Ee{s:Dh}(h:Di s):∀l:List Dg,Di (Ee l s)
 | []=>h
 |c::l=>Di.Ee (h.watched c.1 (Eb c)) l
