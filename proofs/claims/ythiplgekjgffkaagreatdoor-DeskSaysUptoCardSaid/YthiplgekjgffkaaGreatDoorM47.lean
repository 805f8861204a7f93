/- The desk's closures that -/
import Derived.Test.YthiplgekjgffkaaGreatDoorM46
import Derived.Deep.RegionHeld2
set_option maxRecDepth 100000
set_option maxHeartbeats 99000000
set_option linter.all false
namespace Go.Proofs.YthiplgekjgffkaaGreatDoor
open Go.Proofs.Tryz
open Go.RowKit Go.Lib
def QD(w:World)(n er:Int)(out:ByteArray):Prop:=∀(W:World),Below w.heap.size w W->Calls prog 82 #[.int .i64 n,.int .i64 er] W fun x W'=>ID er out x/\Below W.heap.size W W'
theorem Gq{w:World}{n er:Int}(he:er≠0)(out:ByteArray):QD w n er out:=fun W _=>(zI n er he W).mono fun x W' ⟨h1,h2⟩=>⟨.inr ⟨he,h1⟩,h2▸AA⟩
theorem QD.ok{w:World}{n er:Int}{out:ByteArray}(h:QD w n er out)(he:er=0)(W:World)(hb:Below w.heap.size w W):Calls prog 82 #[.int .i64 n,.int .i64 0] W fun x W'=>x=.returned (.string out)/\Below W.heap.size W W':=by
 subst he;exact(h W hb).mono fun x W' ⟨h1,h2⟩=>⟨h1.elim (fun a=>a.2) (fun a=>absurd rfl a.1),h2⟩
theorem QD.no{w:World}{n er:Int}{out:ByteArray}(h:QD w n er out)(he:er≠0)(W:World)(hb:Below w.heap.size w W):Calls prog 82 #[.int .i64 n,.int .i64 er] W fun x W'=>x=Dr er/\Below W.heap.size W W':=
 (h W hb).mono fun x W' ⟨h1,h2⟩=>⟨h1.elim (fun a=>absurd a.1 he) (fun a=>a.2),h2⟩
def DQ.li(t:DQ)(i:Int)(id:ByteArray):Int:=if t.FH i=true then Lh (t.at i).D id else 4
def DQ.Pw(t:DQ)(i:Int)(id:ByteArray):Int:=if t.FH i=true then (t.at i).lv id else 0
theorem fc{F:Nat->Nat}{W:World}{tb:Nat}{t:DQ}(h:MU F W tb t)(hg:Dt t)(i:Int)(id:ByteArray):
 Calls prog 127 #[.pointer (some ⟨tb,0,none⟩),.int .i64 i,.string id] W (Pc (t.Pw i id) (t.li i id) W):=by
 obtain⟨_,_,_,_,_,_,h⟩:=h;unfold DQ.Pw DQ.li;by_cases hl:t.FH i=true
 ·rw[AD hl,AD hl]
  obtain⟨k,rfl,hk,hd⟩:=Fu hl;rw[DQ.JS hk];exact j9 h k hk hd (hg.Fo _ (AL hk)) id
 ·rw[AC hl,AC hl]
  exact(jR h i (Lz (by simpa using hl)) id).mono fun e W' ⟨k1,k2⟩=>⟨k1,k2▸AA⟩
theorem jK{w W:World}{F:Nat->Nat}{pd pi db tb:Nat}{nv:Value}{t:DQ}{g:Int}(hC:EA w W F)(ht:MU F W tb t)(hg:Dt t)(FO:Gi F W pd 37 #[.pointer (some ⟨db,0,none⟩)])(Qh:Gi F W pi 3 #[.int .i64 g])(hk:Nx F 31 W db 40 #[.pointer (some ⟨tb,0,none⟩),nv]){out:ByteArray}(hs:Wk w (t.Fb g) (t.D8 g) out):
 Calls prog 117 #[.pointer (some ⟨pd,0,none⟩),.pointer (some ⟨pi,0,none⟩)] W fun e W'=>ID (t.D8 g) out e/\Hd w F W tb (t.DP g) W':=by
 have HT:=I (Kf db tb nv W hk.1);have HM:=I (show∀W1,Below W.heap.size W W1->Calls prog 119 #[.pointer (some ⟨tb,0,none⟩),.int .i64 g] W1 fun e W'=>∃A c,e=.returned (.tuple #[.slice A (t.Fb g).length c,.int .i64 (t.D8 g)])/\Reads W' W'.heap.size 3 A (t.Fb g).length (Da (t.Fb g))/\Hd w F W tb (t.DP g) W' from fun W1 hb=>by
  obtain⟨_,_,_,_,_,_,k⟩:=ht.Mw hC hg.Er hb;exact(lE k (hC.below hb) hg g).mono fun e W' ⟨A,c,q1,q2,q3⟩=>⟨A,c,q1,Reads.DR q2,q3.from_ hC hb⟩)
 have HG:=I (show Dt (t.DP g)from hg.DP g);have HS:=I (show∀w',Kept (fun k=>EK (F k)) W w'->(w'.cell? ⟨pd,0,none⟩=some (.pointer (some ⟨db,0,none⟩))/\w'.cell? ⟨pi,0,none⟩=some (.int .i64 g)/\w'.cell? ⟨db,0,none⟩=some (.pointer (some ⟨tb,0,none⟩)))from fun w' h=>⟨FO.Hl h 0,Qh.Hl h 0,hk.Hl h 0⟩);obtain⟨c0,c1,c2⟩:=HS.out W (.refl _ _);have Yn:=FO.DC.lt;have lpi:=Qh.DC.lt;have ii:=hk.1.lt;have HY:=I hs;clear ht hC FO Qh hk hg hs;generalize t.D8 g=er at*;generalize t.Fb g=N at*;generalize t.DP g=t' at*;go_in;go_wp2_with fail
 refine HT.out.mono ?_;rintro e' w1 ⟨rfl,rfl⟩;by_cases he:er=0
 ·subst he
  go_wp2_with fail
  go_region_held3 (fun w'=>w'.cell? ⟨pd,0,none⟩=some (.pointer (some ⟨db,0,none⟩))/\w'.cell? ⟨pi,0,none⟩=some (.int .i64 g)/\w'.cell? ⟨db,0,none⟩=some (.pointer (some ⟨tb,0,none⟩)))
   ((refine HS.out _ ?_;first|(with_reducible exact Im)|(with_reducible exact AH _ _)|(with_reducible exact(AH _ _).drew)))
   (first
   |(go_at_call 119;(with_reducible refine(HM.out _ ?ia).mono ?_);(case ia=>first|(with_reducible exact AA)|(with_reducible exact AA.drew));rintro e' w2 ⟨A2,c2,rfl,hr,GA⟩;have H2:=I GA;have R2:=I hr;have Im:=GA.kept;clear GA hr)
   |(go_at_call 118;(with_reducible refine(HY.out.ok rfl _ _ _ H2.out.bw R2.out).mono ?_);rintro e' w3 ⟨rfl,DT⟩;have H3:=I (H2.out.more HG.out DT);have Im:=H3.out.kept;clear DT))
  all_goals
   clear Im;go_wp2;go_ret;exact⟨.inl ⟨rfl,rfl⟩,H3.out⟩
 ·have HE:=I he
  clear he;go_wp2_with fail
  go_region_held2 (fun w'=>w'.cell? ⟨pd,0,none⟩=some (.pointer (some ⟨db,0,none⟩))/\w'.cell? ⟨pi,0,none⟩=some (.int .i64 g)/\w'.cell? ⟨db,0,none⟩=some (.pointer (some ⟨tb,0,none⟩)))
   ((refine HS.out _ ?_;first|(with_reducible exact Im)|(with_reducible exact AH _ _)|(with_reducible exact(AH _ _).drew)))
   (first
   |(go_at_call 119;(with_reducible refine(HM.out _ ?ia).mono ?_);(case ia=>first|(with_reducible exact AA)|(with_reducible exact AA.drew));rintro e' w2 ⟨A2,c2,rfl,hr,GA⟩;have H2:=I GA;have R2:=I hr;have Im:=GA.kept;clear GA hr)
   |(go_at_call 118;(with_reducible refine(HY.out.no HE.out _ _ _ H2.out.bw R2.out).mono ?_);rintro e' w3 ⟨rfl,DT⟩;refine Co fun hn=>?_;have HP:=I (hn ⟨rfl,.inr ⟨HE.out,rfl⟩,H2.out.more HG.out DT⟩);clear hn DT;refine(fun(_:(‹Act->World->Prop›) ⟨#[],[]⟩ w2)=>HP.out) ?_))
  all_goals exact HP.out.elim
theorem d9{w W:World}{F:Nat->Nat}{pd pi pj db tb:Nat}{nv:Value}{t:DQ}{i j:Int}(hC:EA w W F)(ht:MU F W tb t)(hg:Dt t)(FO:Gi F W pd 37 #[.pointer (some ⟨db,0,none⟩)])(Qh:Gi F W pi 3 #[.int .i64 i])(y8:Gi F W pj 3 #[.int .i64 j])(hk:Nx F 31 W db 40 #[.pointer (some ⟨tb,0,none⟩),nv]){out:ByteArray}(hs:Wk w (t.Ge i j) (t.Ha i j) out):
 Calls prog 120 #[.pointer (some ⟨pd,0,none⟩),.pointer (some ⟨pi,0,none⟩),.pointer (some ⟨pj,0,none⟩)] W fun e W'=>ID (t.Ha i j) out e/\Hd w F W tb (t.brought i j) W':=by
 have HT:=I (Kf db tb nv W hk.1);have HM:=I (show∀W1,Below W.heap.size W W1->Calls prog 121 #[.pointer (some ⟨tb,0,none⟩),.int .i64 i,.int .i64 j] W1 fun e W'=>∃A c,e=.returned (.tuple #[.slice A (t.Ge i j).length c,.int .i64 (t.Ha i j)])/\Reads W' W'.heap.size 3 A (t.Ge i j).length (Da (t.Ge i j))/\Hd w F W tb (t.brought i j) W' from fun W1 hb=>by
  obtain⟨_,_,_,_,_,_,k⟩:=ht.Mw hC hg.Er hb;exact(dc k (hC.below hb) hg i j).mono fun e W' ⟨A,c,q1,q2,q3⟩=>⟨A,c,q1,Reads.DR q2,q3.from_ hC hb⟩)
 have HG:=I (show Dt (t.brought i j)from hg.brought i j);have HS:=I (show∀w',Kept (fun k=>EK (F k)) W w'->(w'.cell? ⟨pd,0,none⟩=some (.pointer (some ⟨db,0,none⟩))/\w'.cell? ⟨pi,0,none⟩=some (.int .i64 i)/\w'.cell? ⟨pj,0,none⟩=some (.int .i64 j)/\w'.cell? ⟨db,0,none⟩=some (.pointer (some ⟨tb,0,none⟩)))from fun w' h=>⟨FO.Hl h 0,Qh.Hl h 0,y8.Hl h 0,hk.Hl h 0⟩);obtain⟨c0,c1,c2,c3⟩:=HS.out W (.refl _ _);have Yn:=FO.DC.lt;have lpi:=Qh.DC.lt;have lpj:=y8.DC.lt;have ii:=hk.1.lt;have HY:=I hs;clear ht hC FO Qh y8 hk hg hs;generalize t.Ha i j=er at*;generalize t.Ge i j=N at*;generalize t.brought i j=t' at*;go_in;go_wp2_with fail
 refine HT.out.mono ?_;rintro e' w1 ⟨rfl,rfl⟩;by_cases he:er=0
 ·subst he
  go_wp2_with fail
  go_region_held3 (fun w'=>w'.cell? ⟨pd,0,none⟩=some (.pointer (some ⟨db,0,none⟩))/\w'.cell? ⟨pi,0,none⟩=some (.int .i64 i)/\w'.cell? ⟨pj,0,none⟩=some (.int .i64 j)/\w'.cell? ⟨db,0,none⟩=some (.pointer (some ⟨tb,0,none⟩)))
   ((refine HS.out _ ?_;first|(with_reducible exact Im)|(with_reducible exact AH _ _)|(with_reducible exact(AH _ _).drew)))
   (first
   |(go_at_call 121;(with_reducible refine(HM.out _ ?ia).mono ?_);(case ia=>first|(with_reducible exact AA)|(with_reducible exact AA.drew));rintro e' w2 ⟨A2,c2,rfl,hr,GA⟩;have H2:=I GA;have R2:=I hr;have Im:=GA.kept;clear GA hr)
   |(go_at_call 118;(with_reducible refine(HY.out.ok rfl _ _ _ H2.out.bw R2.out).mono ?_);rintro e' w3 ⟨rfl,DT⟩;have H3:=I (H2.out.more HG.out DT);have Im:=H3.out.kept;clear DT))
  all_goals
   clear Im;go_wp2;go_ret;exact⟨.inl ⟨rfl,rfl⟩,H3.out⟩
 ·have HE:=I he
  clear he;go_wp2_with fail
  go_region_held2 (fun w'=>w'.cell? ⟨pd,0,none⟩=some (.pointer (some ⟨db,0,none⟩))/\w'.cell? ⟨pi,0,none⟩=some (.int .i64 i)/\w'.cell? ⟨pj,0,none⟩=some (.int .i64 j)/\w'.cell? ⟨db,0,none⟩=some (.pointer (some ⟨tb,0,none⟩)))
   ((refine HS.out _ ?_;first|(with_reducible exact Im)|(with_reducible exact AH _ _)|(with_reducible exact(AH _ _).drew)))
   (first
   |(go_at_call 121;(with_reducible refine(HM.out _ ?ia).mono ?_);(case ia=>first|(with_reducible exact AA)|(with_reducible exact AA.drew));rintro e' w2 ⟨A2,c2,rfl,hr,GA⟩;have H2:=I GA;have R2:=I hr;have Im:=GA.kept;clear GA hr)
   |(go_at_call 118;(with_reducible refine(HY.out.no HE.out _ _ _ H2.out.bw R2.out).mono ?_);rintro e' w3 ⟨rfl,DT⟩;refine Co fun hn=>?_;have HP:=I (hn ⟨rfl,.inr ⟨HE.out,rfl⟩,H2.out.more HG.out DT⟩);clear hn DT;refine(fun(_:(‹Act->World->Prop›) ⟨#[],[]⟩ w2)=>HP.out) ?_))
  all_goals exact HP.out.elim
theorem nz{w W:World}{F:Nat->Nat}{pd pi ps db tb:Nat}{nv:Value}{t:DQ}{i:Int}{id:ByteArray}(hC:EA w W F)(ht:MU F W tb t)(hg:Dt t)(FO:Gi F W pd 37 #[.pointer (some ⟨db,0,none⟩)])(Qh:Gi F W pi 3 #[.int .i64 i])(zE:Gi F W ps 9 #[.string id])(hk:Nx F 31 W db 40 #[.pointer (some ⟨tb,0,none⟩),nv]){out:ByteArray}(hs:QD w (t.Pw i id) (t.li i id) out):
 Calls prog 126 #[.pointer (some ⟨pd,0,none⟩),.pointer (some ⟨pi,0,none⟩),.pointer (some ⟨ps,0,none⟩)] W fun e W'=>ID (t.li i id) out e/\Hd w F W tb (t) W':=by
 have HT:=I (Kf db tb nv W hk.1);have HM:=I (show∀W1,Below W.heap.size W W1->Calls prog 127 #[.pointer (some ⟨tb,0,none⟩),.int .i64 i,.string id] W1 fun e W'=>e=.returned (.tuple #[.int .i64 (t.Pw i id),.int .i64 (t.li i id)])/\Hd w F W tb (t) W' from fun W1 hb=>
  (fc (ht.Mw hC hg.Er hb) hg i id).mono fun e W' ⟨q1,q2⟩=>⟨q1,F,(hC.below hb).below q2,(DN.below hC hb).trans (.below (hC.below hb) q2),(ht.Mw hC hg.Er hb).Mw (hC.below hb) hg.Er q2⟩)
 have HG:=I (show Dt (t)from hg);have HS:=I (show∀w',Kept (fun k=>EK (F k)) W w'->(w'.cell? ⟨pd,0,none⟩=some (.pointer (some ⟨db,0,none⟩))/\w'.cell? ⟨pi,0,none⟩=some (.int .i64 i)/\w'.cell? ⟨ps,0,none⟩=some (.string id)/\w'.cell? ⟨db,0,none⟩=some (.pointer (some ⟨tb,0,none⟩)))from fun w' h=>⟨FO.Hl h 0,Qh.Hl h 0,zE.Hl h 0,hk.Hl h 0⟩);obtain⟨c0,c1,c2,c3⟩:=HS.out W (.refl _ _);have Yn:=FO.DC.lt;have lpi:=Qh.DC.lt;have lps:=zE.DC.lt;have ii:=hk.1.lt;have HY:=I hs;clear ht hC FO Qh zE hk hg hs;generalize t.li i id=er at*;generalize t.Pw i id=n at*;go_in;go_wp2_with fail
 refine HT.out.mono ?_;rintro e' w1 ⟨rfl,rfl⟩;by_cases he:er=0
 ·subst he
  go_wp2_with fail
  go_region_held3 (fun w'=>w'.cell? ⟨pd,0,none⟩=some (.pointer (some ⟨db,0,none⟩))/\w'.cell? ⟨pi,0,none⟩=some (.int .i64 i)/\w'.cell? ⟨ps,0,none⟩=some (.string id)/\w'.cell? ⟨db,0,none⟩=some (.pointer (some ⟨tb,0,none⟩)))
   ((refine HS.out _ ?_;first|(with_reducible exact Im)|(with_reducible exact AH _ _)|(with_reducible exact(AH _ _).drew)))
   (first
   |(go_at_call 127;(with_reducible refine(HM.out _ ?ia).mono ?_);(case ia=>first|(with_reducible exact AA)|(with_reducible exact AA.drew));rintro e' w2 ⟨rfl,GA⟩;have H2:=I GA;have Im:=GA.kept;clear GA)
   |(go_at_call 82;(with_reducible refine(HY.out.ok rfl _ H2.out.bw).mono ?_);rintro e' w3 ⟨rfl,DT⟩;have H3:=I (H2.out.more HG.out DT);have Im:=H3.out.kept;clear DT))
  all_goals
   clear Im;go_wp2;go_ret;exact⟨.inl ⟨rfl,rfl⟩,H3.out⟩
 ·have HE:=I he
  clear he;go_wp2_with fail
  go_region_held2 (fun w'=>w'.cell? ⟨pd,0,none⟩=some (.pointer (some ⟨db,0,none⟩))/\w'.cell? ⟨pi,0,none⟩=some (.int .i64 i)/\w'.cell? ⟨ps,0,none⟩=some (.string id)/\w'.cell? ⟨db,0,none⟩=some (.pointer (some ⟨tb,0,none⟩)))
   ((refine HS.out _ ?_;first|(with_reducible exact Im)|(with_reducible exact AH _ _)|(with_reducible exact(AH _ _).drew)))
   (first
   |(go_at_call 127;(with_reducible refine(HM.out _ ?ia).mono ?_);(case ia=>first|(with_reducible exact AA)|(with_reducible exact AA.drew));rintro e' w2 ⟨rfl,GA⟩;have H2:=I GA;have Im:=GA.kept;clear GA)
   |(go_at_call 82;(with_reducible refine(HY.out.no HE.out _ H2.out.bw).mono ?_);rintro e' w3 ⟨rfl,DT⟩;refine Co fun hn=>?_;have HP:=I (hn ⟨rfl,.inr ⟨HE.out,rfl⟩,H2.out.more HG.out DT⟩);clear hn DT;refine(fun(_:(‹Act->World->Prop›) ⟨#[],[]⟩ w2)=>HP.out) ?_))
  all_goals exact HP.out.elim
theorem kJ{w W:World}{F:Nat->Nat}{pd pi ps pj db tb:Nat}{nv:Value}{t:DQ}{i th:Int}{id:ByteArray}(hC:EA w W F)(ht:MU F W tb t)(hg:Dt t)(FO:Gi F W pd 37 #[.pointer (some ⟨db,0,none⟩)])(Qh:Gi F W pi 3 #[.int .i64 i])(zE:Gi F W ps 9 #[.string id])(y8:Gi F W pj 3 #[.int .i64 th])(hk:Nx F 31 W db 40 #[.pointer (some ⟨tb,0,none⟩),nv]){out:ByteArray}(hs:Wk w (t.Fa i id th) (t.FA i id th) out):
 Calls prog 128 #[.pointer (some ⟨pd,0,none⟩),.pointer (some ⟨pi,0,none⟩),.pointer (some ⟨ps,0,none⟩),.pointer (some ⟨pj,0,none⟩)] W fun e W'=>ID (t.FA i id th) out e/\Hd w F W tb (t.Dy i id th) W':=by
 have HT:=I (Kf db tb nv W hk.1);have HM:=I (show∀W1,Below W.heap.size W W1->Calls prog 129 #[.pointer (some ⟨tb,0,none⟩),.int .i64 i,.string id,.int .i64 th] W1 fun e W'=>∃A c,e=.returned (.tuple #[.slice A (t.Fa i id th).length c,.int .i64 (t.FA i id th)])/\Reads W' W'.heap.size 3 A (t.Fa i id th).length (Da (t.Fa i id th))/\Hd w F W tb (t.Dy i id th) W' from fun W1 hb=>by
  obtain⟨_,_,_,_,_,_,k⟩:=ht.Mw hC hg.Er hb;exact(mP k (hC.below hb) hg i id th).mono fun e W' ⟨A,c,q1,q2,q3⟩=>⟨A,c,q1,Reads.DR q2,q3.from_ hC hb⟩)
 have HG:=I (show Dt (t.Dy i id th)from hg.Dy i id th);have HS:=I (show∀w',Kept (fun k=>EK (F k)) W w'->(w'.cell? ⟨pd,0,none⟩=some (.pointer (some ⟨db,0,none⟩))/\w'.cell? ⟨pi,0,none⟩=some (.int .i64 i)/\w'.cell? ⟨ps,0,none⟩=some (.string id)/\w'.cell? ⟨pj,0,none⟩=some (.int .i64 th)/\w'.cell? ⟨db,0,none⟩=some (.pointer (some ⟨tb,0,none⟩)))from fun w' h=>⟨FO.Hl h 0,Qh.Hl h 0,zE.Hl h 0,y8.Hl h 0,hk.Hl h 0⟩);obtain⟨c0,c1,c2,c3,c4⟩:=HS.out W (.refl _ _);have Yn:=FO.DC.lt;have lpi:=Qh.DC.lt;have lps:=zE.DC.lt;have lpj:=y8.DC.lt;have ii:=hk.1.lt;have HY:=I hs;clear ht hC FO Qh zE y8 hk hg hs;generalize t.FA i id th=er at*;generalize t.Fa i id th=N at*
 generalize t.Dy i id th=t' at*;go_in;go_wp2_with fail
 refine HT.out.mono ?_;rintro e' w1 ⟨rfl,rfl⟩;by_cases he:er=0
 ·subst he
  go_wp2_with fail
  go_region_held3 (fun w'=>w'.cell? ⟨pd,0,none⟩=some (.pointer (some ⟨db,0,none⟩))/\w'.cell? ⟨pi,0,none⟩=some (.int .i64 i)/\w'.cell? ⟨ps,0,none⟩=some (.string id)/\w'.cell? ⟨pj,0,none⟩=some (.int .i64 th)/\w'.cell? ⟨db,0,none⟩=some (.pointer (some ⟨tb,0,none⟩)))
   ((refine HS.out _ ?_;first|(with_reducible exact Im)|(with_reducible exact AH _ _)|(with_reducible exact(AH _ _).drew)))
   (first
   |(go_at_call 129;(with_reducible refine(HM.out _ ?ia).mono ?_);(case ia=>first|(with_reducible exact AA)|(with_reducible exact AA.drew));rintro e' w2 ⟨A2,c2,rfl,hr,GA⟩;have H2:=I GA;have R2:=I hr;have Im:=GA.kept;clear GA hr)
   |(go_at_call 118;(with_reducible refine(HY.out.ok rfl _ _ _ H2.out.bw R2.out).mono ?_);rintro e' w3 ⟨rfl,DT⟩;have H3:=I (H2.out.more HG.out DT);have Im:=H3.out.kept;clear DT))
  all_goals
   clear Im;go_wp2;go_ret;exact⟨.inl ⟨rfl,rfl⟩,H3.out⟩
 ·have HE:=I he
  clear he;go_wp2_with fail
  go_region_held2 (fun w'=>w'.cell? ⟨pd,0,none⟩=some (.pointer (some ⟨db,0,none⟩))/\w'.cell? ⟨pi,0,none⟩=some (.int .i64 i)/\w'.cell? ⟨ps,0,none⟩=some (.string id)/\w'.cell? ⟨pj,0,none⟩=some (.int .i64 th)/\w'.cell? ⟨db,0,none⟩=some (.pointer (some ⟨tb,0,none⟩)))
   ((refine HS.out _ ?_;first|(with_reducible exact Im)|(with_reducible exact AH _ _)|(with_reducible exact(AH _ _).drew)))
   (first
   |(go_at_call 129;(with_reducible refine(HM.out _ ?ia).mono ?_);(case ia=>first|(with_reducible exact AA)|(with_reducible exact AA.drew));rintro e' w2 ⟨A2,c2,rfl,hr,GA⟩;have H2:=I GA;have R2:=I hr;have Im:=GA.kept;clear GA hr)
   |(go_at_call 118;(with_reducible refine(HY.out.no HE.out _ _ _ H2.out.bw R2.out).mono ?_);rintro e' w3 ⟨rfl,DT⟩;refine Co fun hn=>?_;have HP:=I (hn ⟨rfl,.inr ⟨HE.out,rfl⟩,H2.out.more HG.out DT⟩);clear hn DT;refine(fun(_:(‹Act->World->Prop›) ⟨#[],[]⟩ w2)=>HP.out) ?_))
  all_goals exact HP.out.elim
theorem jL{w W:World}{F:Nat->Nat}{pd pi db tb:Nat}{nv:Value}{t:DQ}{i:Int}(hC:EA w W F)(ht:MU F W tb t)(hg:Dt t)(FO:Gi F W pd 37 #[.pointer (some ⟨db,0,none⟩)])(Qh:Gi F W pi 3 #[.int .i64 i])(hk:Nx F 31 W db 40 #[.pointer (some ⟨tb,0,none⟩),nv]):
 Calls prog 122 #[.pointer (some ⟨pd,0,none⟩),.pointer (some ⟨pi,0,none⟩)] W fun e W'=>ID (t.KE i) ⟨#[111,107]⟩ e/\Hd w F W tb (t.lost i) W':=by
 have HT:=I (Kf db tb nv W hk.1);have HM:=I (show∀W1,Below W.heap.size W W1->Calls prog 123 #[.pointer (some ⟨tb,0,none⟩),.int .i64 i] W1 fun e W'=>e=.returned (.int .i64 (t.KE i))/\Hd w F W tb (t.lost i) W' from fun W1 hb=>by
  obtain⟨_,_,_,_,_,_,k⟩:=ht.Mw hC hg.Er hb;exact(jO k (hC.below hb) hg i).mono fun e W' ⟨q1,q2⟩=>⟨q1,q2.from_ hC hb⟩)
 have HS:=I (show∀w',Kept (fun k=>EK (F k)) W w'->(w'.cell? ⟨pd,0,none⟩=some (.pointer (some ⟨db,0,none⟩))/\w'.cell? ⟨pi,0,none⟩=some (.int .i64 i)/\w'.cell? ⟨db,0,none⟩=some (.pointer (some ⟨tb,0,none⟩)))from fun w' h=>⟨FO.Hl h 0,Qh.Hl h 0,hk.Hl h 0⟩);obtain⟨c0,c1,c2⟩:=HS.out W (.refl _ _);have Yn:=FO.DC.lt;have lpi:=Qh.DC.lt;have ii:=hk.1.lt;clear ht hC FO Qh hk hg;generalize t.KE i=er at*;generalize t.lost i=t' at*;go_in;go_wp2_with fail
 refine HT.out.mono ?_;rintro e' w1 ⟨rfl,rfl⟩;by_cases he:er=0
 ·subst he
  go_wp2_with fail
  go_region_held3 (fun w'=>w'.cell? ⟨pd,0,none⟩=some (.pointer (some ⟨db,0,none⟩))/\w'.cell? ⟨pi,0,none⟩=some (.int .i64 i)/\w'.cell? ⟨db,0,none⟩=some (.pointer (some ⟨tb,0,none⟩)))
   ((refine HS.out _ ?_;first|(with_reducible exact Im)|(with_reducible exact AH _ _)|(with_reducible exact(AH _ _).drew)))
   (first
   |(go_at_call 123;(with_reducible refine(HM.out _ ?ia).mono ?_);(case ia=>first|(with_reducible exact AA)|(with_reducible exact AA.drew));rintro e' w2 ⟨rfl,GA⟩;have H2:=I GA;have Im:=GA.kept;clear GA)
   |(go_at_call 87;(with_reducible refine(L6 _).mono ?_);rintro e' w3 ⟨rfl,rfl⟩))
  all_goals
   clear Im;go_wp2;go_ret;exact⟨.inl ⟨rfl,rfl⟩,H2.out⟩
 ·have HE:=I he
  clear he;go_wp2_with fail
  go_region_held2 (fun w'=>w'.cell? ⟨pd,0,none⟩=some (.pointer (some ⟨db,0,none⟩))/\w'.cell? ⟨pi,0,none⟩=some (.int .i64 i)/\w'.cell? ⟨db,0,none⟩=some (.pointer (some ⟨tb,0,none⟩)))
   ((refine HS.out _ ?_;first|(with_reducible exact Im)|(with_reducible exact AH _ _)|(with_reducible exact(AH _ _).drew)))
   (first
   |(go_at_call 123;(with_reducible refine(HM.out _ ?ia).mono ?_);(case ia=>first|(with_reducible exact AA)|(with_reducible exact AA.drew));rintro e' w2 ⟨rfl,GA⟩;have H2:=I GA;have Im:=GA.kept;clear GA)
   |(go_at_call 87;(with_reducible refine(Lu _ HE.out _).mono ?_);rintro e' w3 ⟨rfl,rfl⟩;refine Co fun hn=>?_;have HP:=I (hn ⟨rfl,.inr ⟨HE.out,rfl⟩,H2.out⟩);clear hn;refine(fun(_:(‹Act->World->Prop›) ⟨#[],[]⟩ w2)=>HP.out) ?_))
  all_goals exact HP.out.elim
theorem jk{w W:World}{F:Nat->Nat}{pd pi db tb:Nat}{nv:Value}{t:DQ}{i:Int}(hC:EA w W F)(ht:MU F W tb t)(hg:Dt t)(FO:Gi F W pd 37 #[.pointer (some ⟨db,0,none⟩)])(Qh:Gi F W pi 3 #[.int .i64 i])(hk:Nx F 31 W db 40 #[.pointer (some ⟨tb,0,none⟩),nv]):
 Calls prog 124 #[.pointer (some ⟨pd,0,none⟩),.pointer (some ⟨pi,0,none⟩)] W fun e W'=>ID (t.KB i) ⟨#[111,107]⟩ e/\Hd w F W tb (t.Ey i) W':=by
 have HT:=I (Kf db tb nv W hk.1);have HM:=I (show∀W1,Below W.heap.size W W1->Calls prog 125 #[.pointer (some ⟨tb,0,none⟩),.int .i64 i] W1 fun e W'=>e=.returned (.int .i64 (t.KB i))/\Hd w F W tb (t.Ey i) W' from fun W1 hb=>by
  obtain⟨_,_,_,_,_,_,k⟩:=ht.Mw hC hg.Er hb;exact(kg k (hC.below hb) i).mono fun e W' ⟨q1,q2⟩=>⟨q1,q2.from_ hC hb⟩)
 have HS:=I (show∀w',Kept (fun k=>EK (F k)) W w'->(w'.cell? ⟨pd,0,none⟩=some (.pointer (some ⟨db,0,none⟩))/\w'.cell? ⟨pi,0,none⟩=some (.int .i64 i)/\w'.cell? ⟨db,0,none⟩=some (.pointer (some ⟨tb,0,none⟩)))from fun w' h=>⟨FO.Hl h 0,Qh.Hl h 0,hk.Hl h 0⟩);obtain⟨c0,c1,c2⟩:=HS.out W (.refl _ _);have Yn:=FO.DC.lt;have lpi:=Qh.DC.lt;have ii:=hk.1.lt;clear ht hC FO Qh hk hg;generalize t.KB i=er at*;generalize t.Ey i=t' at*;go_in;go_wp2_with fail
 refine HT.out.mono ?_;rintro e' w1 ⟨rfl,rfl⟩;by_cases he:er=0
 ·subst he
  go_wp2_with fail
  go_region_held3 (fun w'=>w'.cell? ⟨pd,0,none⟩=some (.pointer (some ⟨db,0,none⟩))/\w'.cell? ⟨pi,0,none⟩=some (.int .i64 i)/\w'.cell? ⟨db,0,none⟩=some (.pointer (some ⟨tb,0,none⟩)))
   ((refine HS.out _ ?_;first|(with_reducible exact Im)|(with_reducible exact AH _ _)|(with_reducible exact(AH _ _).drew)))
   (first
   |(go_at_call 125;(with_reducible refine(HM.out _ ?ia).mono ?_);(case ia=>first|(with_reducible exact AA)|(with_reducible exact AA.drew));rintro e' w2 ⟨rfl,GA⟩;have H2:=I GA;have Im:=GA.kept;clear GA)
   |(go_at_call 87;(with_reducible refine(L6 _).mono ?_);rintro e' w3 ⟨rfl,rfl⟩))
  all_goals
   clear Im;go_wp2;go_ret;exact⟨.inl ⟨rfl,rfl⟩,H2.out⟩
 ·have HE:=I he
  clear he;go_wp2_with fail
  go_region_held2 (fun w'=>w'.cell? ⟨pd,0,none⟩=some (.pointer (some ⟨db,0,none⟩))/\w'.cell? ⟨pi,0,none⟩=some (.int .i64 i)/\w'.cell? ⟨db,0,none⟩=some (.pointer (some ⟨tb,0,none⟩)))
   ((refine HS.out _ ?_;first|(with_reducible exact Im)|(with_reducible exact AH _ _)|(with_reducible exact(AH _ _).drew)))
   (first
   |(go_at_call 125;(with_reducible refine(HM.out _ ?ia).mono ?_);(case ia=>first|(with_reducible exact AA)|(with_reducible exact AA.drew));rintro e' w2 ⟨rfl,GA⟩;have H2:=I GA;have Im:=GA.kept;clear GA)
   |(go_at_call 87;(with_reducible refine(Lu _ HE.out _).mono ?_);rintro e' w3 ⟨rfl,rfl⟩;refine Co fun hn=>?_;have HP:=I (hn ⟨rfl,.inr ⟨HE.out,rfl⟩,H2.out⟩);clear hn;refine(fun(_:(‹Act->World->Prop›) ⟨#[],[]⟩ w2)=>HP.out) ?_))
  all_goals exact HP.out.elim
theorem Dt.gS{l:List Dg}(h5:l.length<=5)(hg:∀c∈l,IX c=0):Dt (DQ.start l):=
 ⟨by simpa [DQ.start] using h5,fun p hp=>by
   obtain⟨c,hc,rfl⟩:=BD.1 hp;exact(Di.start (hg c hc)).Ee l,by simp[DQ.start]⟩
theorem Qo:∀(l:List Dg)(ids:List ByteArray),Gv ids l=0->∀c∈l,IX c=0
 | [],_,_,c,hc=>by cases hc
 |a::l,ids,h,c,hc=>by
  unfold Gv at h;by_cases h0:IX a=0
  ·rw[AD h0]at h
   by_cases h1:ids.any (fun x=>decide (x=a.1))=true
   ·rw[AD h1]at h;cases h
   ·rw[AC h1]at h
    rcases AR.1 hc with rfl|hc
    ·exact h0
    ·exact Qo l _ h c hc
  ·rw[AC h0]at h
   exact absurd h h0
theorem Is{l:List Dg}(h:Ev l=0):l.length<=5/\∀c∈l,IX c=0:=by
 unfold Ev at h;by_cases h5:5<l.length
 ·rw[AD h5]at h;cases h
 ·rw[AC h5]at h
  exact⟨by omega,Qo l _ h⟩
section
variable{w W W' W1 W2:World}{F F':Nat->Nat}{tb db c:Nat}{A:Option Addr}{tv:Value}{t:DQ}{s:Ek}
theorem MU.p6{G:Nat->Nat}(h:MU F W tb t)(hG:∀k c,EK c->(F k=c↔G k=c))(h5:t.L.length<=5):MU G W tb t:=by
 obtain⟨Aa,ca,nv,dv,wv,bs,r⟩:=h;have zr:∀c,EK c->(fun k=>F k=c)=(fun k=>G k=c):=fun c hc=>funext fun k=>propext (hG k c hc);have p:∀c,1<=c->c<=5->EK c:=fun c h1 h2=>.inl ⟨h1,h2⟩;refine⟨Aa,ca,nv,dv,wv,bs,⟨r.DC.1,(hG _ 1 (p 1 (by omega) (by omega))).1 r.DC.2⟩,⟨r.all.1,fun hp a ha=>(hG _ 2 (p 2 (by omega) (by omega))).1 (r.all.2 hp a ha)⟩,⟨r.Jp.1,fun k hk=>(hG _ 3 (p 3 (by omega) (by omega))).1 (r.Jp.2 k hk)⟩,⟨r.Qk.1,fun k hk=>(hG _ 4 (p 4 (by omega) (by omega))).1 (r.Qk.2 k hk)⟩,⟨r.way.1,fun k hk=>(hG _ 5 (p 5 (by omega) (by omega))).1 (r.way.2 k hk)⟩,r.len,fun i hi SJ=>?_⟩;have:=r.node i hi SJ;rw[zr (10+i) (.inr (by omega))]at this;exact this
theorem gU(hC:EA w W F)(hn:∀k,¬EK (F k))(hb:Below W.heap.size W W1)(k:Hd W1 (fun _=>0) W1 tb t W2)(hg:Dt t):Hd w F W tb t W2:=by
 obtain⟨F2,c2,m2,r2⟩:=k;have q2:∀k,F2 k=0\/(W1.heap.size<=k/\EK (F2 k)):=fun k=>by
  by_cases hl:W1.heap.size<=k
  ·by_cases h0:F2 k=0
   ·exact .inl h0
   ·exact .inr ⟨hl,m2.new k hl h0⟩
  ·exact .inl (m2.Nz k (by omega))
 have UE:=hC.below hb;obtain⟨G,hG⟩:∃G:Nat->Nat,∀k,G k=if k<W1.heap.size then F k else F2 k:=⟨_,fun _=>rfl⟩
 have Ld:=hb.size;have WP:=c2.DI.size;refine⟨G,⟨fun k h0=>?_,fun k h0=>?_,Below.C9 UE.DI c2.DI⟩,⟨Kept.DU (hb.trans (c2.DI.mono Ld)),fun k hk=>by rw[hG,AD (by omega)],fun k hk h0=>?_⟩,r2.p6 (fun k c hc=>?_) hg.Er⟩
 ·rw[hG]at h0
  split at h0
  ·exact hC.lo k h0
  ·exact AG UE.DI.size (c2.lo k h0)
 ·rw[hG]at h0
  split at h0
  ·exact AJ (hC.hi k h0) (by omega)
  ·exact c2.hi k h0
 ·rw[hG]at h0⊢
  split at h0
  ·next hl=>exact absurd (hC.hi k h0) (by omega)
  ·next hl=>
   rw[AC hl];exact(q2 k).elim (fun e=>absurd e h0) (fun e=>e.2)
 ·rw[hG]
  split
  ·next hl=>
   constructor
   ·intro e
    rcases q2 k with h|h
    ·rw[h]at e;exact absurd (e▸hc) PS
    ·omega
   ·intro e
    exact absurd (show EK (F k)by rw[e];exact hc) (hn k)
  ·exact Iff.rfl
theorem FN.started{L:List Dg}(h:FN F W db (.pointer none) A c ⟨none,L⟩)(hC:EA w W F)(k:Hd w F W tb t W')(hg:Dt t):ZK w F W db ⟨some t,L⟩ (W'.setCell ⟨db,0,none⟩ (.pointer (some ⟨tb,0,none⟩))):=by
 obtain⟨F',h1,h2,h3⟩:=k;have b1:=h2.DC hC (by omega) Rf h.DC;have n1:=h2.read hC (by omega) Yj h.Jp;have K:Kept (fun k=>F' k=31) W' (W'.setCell ⟨db,0,none⟩ (.pointer (some ⟨tb,0,none⟩))):=(AH _ W').setCell (a:=⟨db,0,none⟩) (.inl b1.2) _;have ER:(W'.setCell ⟨db,0,none⟩ (.pointer (some ⟨tb,0,none⟩))).heap.size=W'.heap.size:=by simp[World.setCell]
 have m:DN (fun c=>c=31) F' W' F' (W'.setCell ⟨db,0,none⟩ (.pointer (some ⟨tb,0,none⟩))):=⟨K,fun _ _=>rfl,fun k hl h0=>absurd (h1.hi k h0) (by omega)⟩;have hp:∀c,c=31->¬EK c:=fun c e=>by rw[e];exact Rf
 refine⟨F',_,A,c,⟨h1.lo,fun k hk=>by rw[ER];exact h1.hi k hk,h1.DI.setCell (p:=⟨db,0,none⟩) (h1.lo db (by rw[b1.2];omega)) _⟩,(h2.mono fun c hc=>.inl hc).trans (m.mono fun c hc=>.inr (.inl hc)),⟨by have:=b1.1.De 0 (.pointer (some ⟨tb,0,none⟩));simpa using this,b1.2⟩,m.read h1 (by omega) (by omega) n1,h.Er,h.ids,tb,rfl,h3.gB h1 m hp hg.Er,hg⟩
end
def Ek.Kz(s:Ek):Int:=match s.T with|some _=>5|none=>Ev s.L
def Ek.started(s:Ek):Ek:=if s.Kz=0 then ⟨some (DQ.start s.L),s.L⟩else s
theorem eT{w W:World}{F:Nat->Nat}{pd db c:Nat}{A:Option Addr}{tv:Value}{s:Ek}(hC:EA w W F)(FO:Gi F W pd 37 #[.pointer (some ⟨db,0,none⟩)])(h:FN F W db tv A c s):
 Calls prog 113 #[.pointer (some ⟨pd,0,none⟩)] W fun e W'=>ID s.Kz ⟨#[111,107]⟩ e/\ZK w F W db s.started W':=by
 have Yn:=FO.DC.lt;have ii:=h.DC.1.lt;have c0:=FO.DC.cell 0;have d0:=h.DC.1.cell 0;have d1:=h.DC.1.cell 1;simp at c0 d0 d1;have HH:=I h;obtain⟨st,L⟩:=s;have ht:=h.Hz;cases st with
 |some t=>
  obtain⟨tb,rfl,-⟩:=ht;have hE:(Ek.mk (some t) L).Kz=5:=rfl;have hS:(Ek.mk (some t) L).started=⟨some t,L⟩:=by unfold Ek.started;rw[hE,AC (by decide)]
  rw[hE,hS];have Df:=I (show ID 5 ⟨#[111,107]⟩ (Dr 5)/\ZK w F W db ⟨some t,L⟩ W from⟨.inr ⟨by decide,rfl⟩,h.Tg hC⟩);clear h FO hC HH hE hS;go_in;go_wp2_with fail
  refine(Ia 5 _).mono ?_;rintro e' w1 ⟨rfl,rfl⟩;simp only[Dr];go_wp2;exact⟨rfl,Df.out⟩
 |none=>
  obtain⟨rfl,hn⟩:=ht;have hE:(Ek.mk none L).Kz=Ev L:=rfl;have HN:=I (Zm A c L h.ids W h.Jp.1);have HC:=I hC;have HM:=I (fun tb W2=>gU (w:=w) (tb:=tb) (t:=DQ.start L) (W2:=W2) hC hn (AQ _ W));have Jg:=h.DC;clear h FO hC;simp only at HN d1;by_cases h0:Ev L=0
  ·have hS:(Ek.mk none L).started=⟨some (DQ.start L),L⟩:=by unfold Ek.started;rw[hE,AD h0]
   rw[hS,hE,h0];have HZ:=I h0;clear h0 hS hE;go_in;go_wp2_with fail
   refine HN.out.mono ?_;rintro e' w2 (⟨-,tb,rfl,GA⟩|⟨h0,-⟩)
   ·have HG:=I (Dt.gS (Is HZ.out).1 (Is HZ.out).2)
    have HT:=I (HM.out tb w2 GA HG.out);have Df:=I (HH.out.started HC.out HT.out HG.out);have k2:Kept (fun k=>EK (F k)) W w2:=HT.out.kept;have AIA:pd<w2.heap.size:=AJ Yn k2.size;have AG9:db<w2.heap.size:=AJ ii k2.size;have zb:Kept (fun k=>False) W w2:=.DU GA.choose_spec.1.DI;have c0':=zb.cell c0 id;have B2:=zb.DC Jg.1 id;have z0':=B2.frozen 0;have d0':=B2.cell 0;simp at d0';clear GA k2 zb B2 c0 d0 d1 Jg;go_wp2_with fail
    refine(L6 _).mono ?_;rintro e' w3 ⟨rfl,rfl⟩;go_wp2;go_ret;exact⟨.inl ⟨rfl,rfl⟩,Df.out⟩
   ·exact absurd HZ.out h0
  ·have hS:(Ek.mk none L).started=⟨none,L⟩:=by unfold Ek.started;rw[hE,AC h0]
   rw[hS,hE];have HZ:=I h0;clear h0 hS hE;go_in;go_wp2_with fail
   refine HN.out.mono ?_;rintro e' w2 (⟨h0,-⟩|⟨-,rfl,DK⟩)
   ·exact absurd h0 HZ.out
   ·have Df:=I ((HH.out.Tg HC.out).more DK)
    clear DK c0 d0 d1 Jg;go_wp2_with fail
    refine(Lu _ HZ.out _).mono ?_;rintro e' w3 ⟨rfl,rfl⟩;simp only[Dr];go_wp2;exact⟨rfl,.inr ⟨HZ.out,rfl⟩,Df.out⟩
theorem o8{w W:World}{F:Nat->Nat}{tb:Nat}{t:DQ}(h:MU F W tb t)(hg:Dt t):Calls prog 116 #[.pointer (some ⟨tb,0,none⟩)] W (bg t.way.length (C7 t.way) W):=by
 obtain⟨_,_,_,_,_,_,k⟩:=h;have hw:=hg.way;obtain⟨QX,-,-,-,b3⟩:=k.cells;obtain⟨Aw,cw,rfl⟩:=Cz k.way.1;have P7:=I (wA Aw cw t.way.length W.heap.size (C7 t.way) hw (Iu _) W (Reads.DR k.way.1) AB);clear k;generalize C7 t.way=xs at*;generalize t.way.length=m at*;go_in;go_wp2_with fail
 refine P7.out.mono ?_;rintro e' w2 ⟨A9,c9,rfl,h9,Ei⟩;have H9:=I (show bg m xs W (.returned (.slice A9 m c9)) w2 from⟨A9,c9,rfl,h9,Ei⟩);clear h9 Ei;go_wp2;go_ret;exact H9.out
def ADn(w:World)(l:List Int)(out:ByteArray):Prop:=∀(W:World)(A:Option Addr)(c:Nat),Below w.heap.size w W->Reads W W.heap.size 1 A l.length (l.map fun n=>Value.int .i64 n)->Calls prog 94 #[.slice A l.length c] W fun x W'=>x=.returned (.string out)/\Below W.heap.size W W'
theorem sZ{w W:World}{F:Nat->Nat}{pd db tb:Nat}{nv:Value}{t:DQ}(hC:EA w W F)(ht:MU F W tb t)(hg:Dt t)(FO:Gi F W pd 37 #[.pointer (some ⟨db,0,none⟩)])(hk:Nx F 31 W db 40 #[.pointer (some ⟨tb,0,none⟩),nv]){out:ByteArray}(hs:ADn w [(t.way.length:Int)] out):
 Calls prog 114 #[.pointer (some ⟨pd,0,none⟩)] W fun e W'=>e=.returned (.string out)/\Below W.heap.size W W':=by
 have HT:=I (Kf db tb nv W hk.1);have HW:=I (o8 (w:=w) ht hg);have xu:=hg.way;have Yn:=FO.DC.lt;have ii:=hk.1.lt;have c0:=FO.DC.cell 0;have d0:=hk.1.cell 0;simp at c0 d0;have HS:=I hs;have xo:=I hC.DI;clear ht hg FO hk hC hs;generalize C7 t.way=xs at*;generalize t.way.length=n at*;go_in;go_wp2_with fail
 refine HT.out.mono ?_;rintro e' w1 ⟨rfl,rfl⟩;go_wp2_with fail
 refine HW.out.mono ?_;rintro e' w2 ⟨A2,c2,rfl,h2,DK⟩;have Nr:=I DK;have Nh:=I (DJ.new w2 3 #[.int .i64 (n:Int)]);have HY:=I (HS.out (w2.alloc (.cells #[.int .i64 (n:Int)] 3)) (some ⟨w2.heap.size,0,none⟩) 1 (xo.out.trans ((Nr.out.alloc Nr.out.size _).mono xo.out.size)) ⟨rfl,fun _=>⟨_,rfl,Nh.out.lt,fun j v hj=>by
  rcases j with _|j
  ·cases hj;exact Nh.out.cell 0
  ·simp at hj⟩⟩)
 clear h2 DK c0 d0;go_wp2_with fail
 refine HY.out.mono ?_;rintro e' w3 ⟨rfl,DT⟩;have Df:=I (Below.C9 (Nr.out.alloc Nr.out.size _) DT);clear DT;go_wp2;go_ret;exact⟨rfl,Df.out⟩
theorem aH(l m:List Dg):Du (l++m)=Du l++Du m:=by
 induction l with
 |nil=>rfl
 |cons x l ih=>simp[Du,ih]
theorem KW(l:List Dg)(x:Dg):Du (l++[x])=Du l++Ie x:=by
 rw[aH];simp[Du]
theorem Ja:∀l:List Dg,∀u∈Du l,u.oneCell'=true
 | [],u,hu=>by cases hu
 |c::l,u,hu=>by
  rcases Au.1 hu with h|h
  ·simp only[Ie,AR,CT,CU]at h
   rcases h with rfl|rfl|rfl|rfl|rfl<;>rfl
  ·exact Ja l u h
theorem cC(w:World)(t:TypeId)(x:Dg):Reads (w.alloc (.cells #[.string x.1,.int .i64 (LY x),.int .i64 (Eb x),.int .i64 (JM x),.int .i64 (Jy x)] t)) (w.heap.size+1) 5 (some ⟨w.heap.size,0,none⟩) 1 (Ie x):=by
 have hB:=DJ.new w t #[.string x.1,.int .i64 (LY x),.int .i64 (Eb x),.int .i64 (JM x),.int .i64 (Jy x)];exact⟨rfl,fun _=>⟨_,rfl,by simp,fun j v hj=>by
  have hj5:j<5:=(CQ.1 hj).1;rcases j with _|_|_|_|_|j
  ·cases hj;exact hB.cell 0
  ·cases hj;exact hB.cell 1
  ·cases hj;exact hB.cell 2
  ·cases hj;exact hB.cell 3
  ·cases hj;exact hB.cell 4
  ·omega⟩⟩
theorem FN.Lk{w W w9 w2:World}{F:Nat->Nat}{db c c9:Nat}{A A9:Option Addr}{L:List Dg}{x:Dg}(h:FN F W db (.pointer none) A c ⟨none,L⟩)(hC:EA w W F)(Ei:Below W.heap.size W w9)(DL:w9.ownsRow W.heap.size 108 5 (.slice A9 (L.length+1) c9) (L.length+1) (Du L++Ie x))(DK:Below w9.heap.size w9 w2)
 (h5:(L++[x]).length<=5) (hx:x.1.size<=maxLen):ZK w F W db ⟨none,L++[x]⟩ (w2.setCell ⟨db,1,none⟩ (.slice A9 (L.length+1) c9)):=by
 have hs9:=Ei.size;have WP:=DK.size;have NA:Below W.heap.size W w2:=Below.C9 Ei DK;have K0:Kept (fun k=>F k=32) W w2:=.DU NA;have c2:=hC.DM (c:=32) (by omega) K0;have m2:=DN.DM hC K0;have b1:=m2.DC hC (c':=31) (by omega) (by omega) h.DC;have K:Kept (fun k=>DM F W w2 32 k=31) w2 (w2.setCell ⟨db,1,none⟩ (.slice A9 (L.length+1) c9)):=(AH _ w2).setCell (a:=⟨db,1,none⟩) (.inl b1.2) _;have ER:(w2.setCell ⟨db,1,none⟩ (.slice A9 (L.length+1) c9)).heap.size=w2.heap.size:=by simp[World.setCell]
 have m:DN (fun c=>c=31) (DM F W w2 32) w2 (DM F W w2 32) (w2.setCell ⟨db,1,none⟩ (.slice A9 (L.length+1) c9)):=⟨K,fun _ _=>rfl,fun k hl h0=>absurd (c2.hi k h0) (by omega)⟩;have hR:IW (DM F W w2 32) 32 w2 5 (L++[x]).length A9 (Du (L++[x])):=by
  rw[KW,AN,BJ];refine⟨((Reads.DR DL).below DK AB).more DK.size,fun _ a ha=>?_⟩;subst ha;have:=DL.lt a.block rfl;exact FV this.1 (by omega)
 have el:(L++[x]).length=L.length+1:=by simp
 refine⟨DM F W w2 32,.pointer none,A9,c9,⟨c2.lo,fun k hk=>by rw[ER];exact c2.hi k hk,c2.DI.setCell (p:=⟨db,1,none⟩) (c2.lo db (by rw[b1.2];omega)) _⟩,(m2.mono fun c hc=>.inr (.inr hc)).trans (m.mono fun c hc=>.inr (.inl hc)),⟨?_,b1.2⟩,m.read c2 (by omega) (by omega) hR,h5,fun y hy=>?_,rfl,fun k e=>?_⟩
 ·have:=b1.1.De 1 (.slice A9 (L.length+1) c9)
  simp only[el]
  simpa using this
 ·rcases Au.1 hy with hy|hy
  ·exact h.ids y hy
  ·rcases Ai.1 hy with rfl
   exact hx
 ·have hn:=h.Hz.2 k
  unfold Go.Proofs.YthiplgekjgffkaaGreatDoor.DM at e;split at e
  ·exact Yj e
  ·exact hn e
def Ek.Pq(s:Ek)(x:Dg):Int:=match s.T with|some _=>5|none=>Ev (s.L++[x])
def Ek.Lk(s:Ek)(x:Dg):Ek:=if s.Pq x=0 then ⟨none,s.L++[x]⟩else s
theorem jh{w W:World}{F:Nat->Nat}{pd pc db c:Nat}{A:Option Addr}{tv:Value}{s:Ek}{x:Dg}(hC:EA w W F)(FO:Gi F W pd 37 #[.pointer (some ⟨db,0,none⟩)])(mh:Gi F W pc 108 #[.string x.1,.int .i64 (LY x),.int .i64 (Eb x),.int .i64 (JM x),.int .i64 (Jy x)])(hx:x.1.size<=maxLen)(h:FN F W db tv A c s):
 Calls prog 111 #[.pointer (some ⟨pd,0,none⟩),.pointer (some ⟨pc,0,none⟩)] W fun e W'=>ID (s.Pq x) ⟨#[111,107]⟩ e/\ZK w F W db (s.Lk x) W':=by
 have Yn:=FO.DC.lt;have ii:=h.DC.1.lt;have lpc:=mh.DC.lt;have c0:=FO.DC.cell 0;have d0:=h.DC.1.cell 0;have d1:=h.DC.1.cell 1;simp at c0 d0 d1;have HH:=I h;obtain⟨st,L⟩:=s;have ht:=h.Hz;cases st with
 |some t=>
  obtain⟨tb,rfl,-⟩:=ht;have hE:(Ek.mk (some t) L).Pq x=5:=rfl;have hS:(Ek.mk (some t) L).Lk x=⟨some t,L⟩:=by unfold Ek.Lk;rw[hE,AC (by decide)]
  rw[hE,hS];have Df:=I (show ID 5 ⟨#[111,107]⟩ (Dr 5)/\ZK w F W db ⟨some t,L⟩ W from⟨.inr ⟨by decide,rfl⟩,h.Tg hC⟩);clear h FO hC HH hE hS mh;go_in;go_wp2_with fail
  refine(Ia 5 _).mono ?_;rintro e' w1 ⟨rfl,rfl⟩;simp only[Dr];go_wp2;exact⟨rfl,Df.out⟩
 |none=>
  obtain⟨i0,hi,Fq,FZ,Fe⟩:=AO Ru;obtain⟨rfl,hn⟩:=ht;have hE:(Ek.mk none L).Pq x=Ev (L++[x]):=rfl;have HC:=I hC;have HX:=I hx;have HB:=I h.DC.1;have tz:L.length<=5:=h.Er;have R:=I (show Reads W W.heap.size 5 A L.length (Du L)from h.Jp.1);have H1:=I (Ja L);have H2:=I (show∀u∈Ie x,u.oneCell'=true by have:=Ja [x];simpa [Du] using this);have Pi:=I (fun w'=>cC w' 108 x);have HI:=I (show∀y∈L++[x],y.1.size<=maxLen from fun y hy=>by
   rcases Au.1 hy with hy|hy
   ·exact h.ids y hy
   ·rcases Ai.1 hy with rfl
    exact hx)
  have HBP:=I FO.DC;have HBC:=I mh.DC;have HS:=I (show∀w',Below W.heap.size W w'->(Below W.heap.size W w'/\w'.cell? ⟨pd,0,none⟩=some (.pointer (some ⟨db,0,none⟩))/\w'.cell? ⟨db,1,none⟩=some (.slice A L.length c)/\w'.cell? ⟨pc,0,none⟩=some (.string x.1)/\w'.cell? ⟨pc,1,none⟩=some (.int .i64 (LY x))/\w'.cell? ⟨pc,2,none⟩=some (.int .i64 (Eb x))/\w'.cell? ⟨pc,3,none⟩=some (.int .i64 (JM x))/\w'.cell? ⟨pc,4,none⟩=some (.int .i64 (Jy x)))from
   fun w' hb=>⟨hb,(HBP.out.below hb Yn).cell 0,(HB.out.below hb ii).cell 1,(HBC.out.below hb lpc).cell 0,(HBC.out.below hb lpc).cell 1,(HBC.out.below hb lpc).cell 2,(HBC.out.below hb lpc).cell 3,(HBC.out.below hb lpc).cell 4⟩)
  have Ko:=I (fun(A9:Option Addr) (c9:Nat) (w9:World) (ho:w9.ownsRow W.heap.size 108 5 (.slice A9 (L.length+1) c9) (L.length+1) (Du L++Ie x))=>
   show Calls prog 112 #[.slice A9 (L.length+1) c9] w9 (Sa w9 (L++[x]))by
    have hr:=Reads.DR ho;have:=Zm A9 c9 (L++[x]) HI.out w9 (by rw[KW,AN,BJ];exact hr)
    rwa [AN,BJ]at this)
  have hS:(Ek.mk none L).Lk x=if Ev (L++[x])=0 then ⟨none,L++[x]⟩else ⟨none,L⟩:=rfl
  clear h FO hC mh hx;simp only at d1;rw[hE,hS];clear hE hS;generalize hqq:(if Ev (L++[x])=0 then (⟨none,L++[x]⟩:Ek)else ⟨none,L⟩)=qq;have HQ:=I hqq;clear hqq;generalize hee:Ev (L++[x])=ee;have HE:=I hee;clear hee;go_in;go_wp2_with fail
  go_region_held3 (fun w'=>Below W.heap.size W w'/\w'.cell? ⟨pd,0,none⟩=some (.pointer (some ⟨db,0,none⟩))/\w'.cell? ⟨db,1,none⟩=some (.slice A L.length c)/\w'.cell? ⟨pc,0,none⟩=some (.string x.1)/\w'.cell? ⟨pc,1,none⟩=some (.int .i64 (LY x))/\w'.cell? ⟨pc,2,none⟩=some (.int .i64 (Eb x))/\w'.cell? ⟨pc,3,none⟩=some (.int .i64 (JM x))/\w'.cell? ⟨pc,4,none⟩=some (.int .i64 (Jy x)))
   ((refine HS.out _ ?_;first|exact Kh|exact(Below.alloc hL8 hL8.size _)|exact hL8|(with_reducible exact AA)|(with_reducible exact AA.drew)|exact AA.drew.alloc AB _))
   (first
   |((refine FE (by rfl) _ _ _ (by rfl) _ 108 i0 _ 5 48 underlying28 hi Fq FZ Fe rfl (by decide) (.slice none 0 0) 0 [] (by rfl) (AX _ _ _ _) _ _ _ _ _ (by rfl) (R.out.below (AK (by assumption)) AB) H1.out (by unfold maxLen;omega) (by omega) AB ?_;intro v8 w8 ng Rr;obtain⟨A8,c8,rfl⟩:=Cz ng;have hL8:Below W.heap.size W w8:=Below.C9 (AK (by assumption)) Rr;have ho8:=DX ng (CW (AK (by assumption)));simp only[CH,Cm]at ho8⊢))
   |((refine FE (by rfl) _ _ _ (by rfl) W.heap.size 108 i0 _ 5 48 underlying28 hi Fq FZ Fe rfl (by decide) _ _ _ (by rfl) (ho8.alloc _) _ _ _ _ _ (by rfl) (Pi.out _) H2.out (by unfold maxLen;omega) (by omega) (by exact CW (AK (by assumption))) ?_;intro v9 w9 Db Ei;obtain⟨A9,c9,rfl⟩:=Cz Db;have Kh:Below W.heap.size W w9:=Cb (AK (by assumption)) Ei))
   |((refine FE (by rfl) _ _ _ (by rfl) W.heap.size 108 i0 _ 5 48 underlying28 hi Fq FZ Fe rfl (by decide) _ _ _ (by rfl) ho8 _ _ _ _ _ (by rfl) ((Pi.out _).drew.below Rr (by simp)) H2.out (by unfold maxLen;omega) (by omega) (by exact CW (AK (by assumption))) ?_;intro v9 w9 Db Ei;obtain⟨A9,c9,rfl⟩:=Cz Db;have Kh:Below W.heap.size W w9:=Cb (AK (by assumption)) Ei)))
  all_goals
   have L9:=I Kh;have O9:=I Db;clear hL8 Kh ng Db ho8 Rr Ei;rename_i hheld;clear hheld;have HN9:=I (Ko.out A9 c9 w9 O9.out);go_wp2_with fail
   refine HN9.out.mono ?_;rintro e' w2 (⟨h0,tb,rfl,GA⟩|⟨h0,rfl,DK⟩)
   ·have Nr:=I (show Below w9.heap.size w9 w2 from GA.choose_spec.1.DI)
    have BW:=I (Below.C9 L9.out Nr.out);have Df:=I (HH.out.Lk HC.out L9.out O9.out Nr.out (Is h0).1 HX.out);have e0:ee=0:=HE.out.symm.trans h0;have eq:qq=⟨none,L++[x]⟩:=by rw[<-HQ.out,AD h0]
    subst e0 eq;have AIA:pd<w2.heap.size:=AJ Yn BW.out.size;have AG9:db<w2.heap.size:=AJ ii BW.out.size;have q0:=(HBP.out.below BW.out Yn).cell 0;have z1:=(HB.out.below BW.out ii).frozen 1;have q1:=(HB.out.below BW.out ii).cell 1;simp at q0 q1;clear h0 GA c0 d0 d1 HQ HE;go_wp2_with fail
    refine(L6 _).mono ?_;rintro e' w3 ⟨rfl,rfl⟩;go_wp2;go_ret;exact⟨.inl ⟨rfl,rfl⟩,Df.out⟩
   ·have Df:=I ((HH.out.Tg HC.out).more (Below.C9 L9.out DK))
    have eq:qq=⟨none,L⟩:=by rw[<-HQ.out,AC h0]
    subst eq;have HZ:=I (show ee≠0 from HE.out▸h0);have e1:=HE.out;clear DK c0 d0 d1;go_wp2_with fail
    refine(Lu _ (by first|exact HZ.out|exact h0) _).mono ?_;rintro e' w3 ⟨rfl,rfl⟩;simp only[Dr];go_wp2;exact⟨rfl,.inr ⟨HZ.out,by rw[<-e1];rfl⟩,Df.out⟩
structure Yi(w W:World)(wb:Nat)(A:Option Addr)(c:Nat)(l:List ByteArray)(i:Nat):Prop where
 Nu:ZN W wb A l.length c i
 rd:Reads W W.heap.size 1 A l.length (C7 l)
 Je:∀a,A=some a->a.block≠wb
 cap:l.length<=c/\c<=maxLen
 DI:Below w.heap.size w W
 low:w.heap.size<=wb
theorem Yi.kept{w W W':World}{wb c i j:Nat}{A:Option Addr}{l:List ByteArray}(h:Yi w W wb A c l i)(hk:Kept (fun x=>x=wb) W W')(hw:ZN W' wb A l.length c j):Yi w W' wb A c l j:=
 ⟨hw,(hk.reads h.rd (fun _ a ha e=>h.Je a ha e)).more hk.size,h.Je,h.cap,h.DI.trans (hk.below (B:=w.heap.size) (fun k e=>by rw[e];exact h.low) h.DI.size),h.low⟩
theorem Yi.below{w W W':World}{wb c i:Nat}{A:Option Addr}{l:List ByteArray}(h:Yi w W wb A c l i)(hb:Below W.heap.size W W'):Yi w W' wb A c l i:=
 ⟨h.Nu.below hb h.Nu.lt,(h.rd.below hb AB).more hb.size,h.Je,h.cap,h.DI.trans (hb.mono h.DI.size),h.low⟩
theorem AEc{w W:World}{wb c i:Nat}{A:Option Addr}{l:List ByteArray}(h:Yi w W wb A c l i)(x:ByteArray)(hx:l[i]? =some x):
 Calls prog 85 #[.pointer (some ⟨wb,0,none⟩)] W fun e W'=>e=.returned (.string x)/\Kept (fun y=>y=wb) W W'/\Yi w W' wb A c l (i+1):=by
 obtain⟨hi,he⟩:=CQ.1 hx;subst he;exact(wn wb A l.length c i l rfl h.cap.1 h.cap.2 hi W h.Nu h.rd h.Je).mono fun e W' ⟨h1,h2,h3⟩=>⟨h1,h2,h.kept h2 h3⟩
theorem wF{w W:World}{wb c:Nat}{A:Option Addr}{l:List ByteArray}(h:Yi w W wb A c l l.length):
 Calls prog 26 #[.pointer (some ⟨wb,0,none⟩)] W fun x W'=>x=.returned (.tuple #[])/\Below W.heap.size W W':=AAv wb A l.length c W h.Nu
def Bx(W:World)(wb b:Nat)(T:TypeId)(cs:Array Value):Prop:=DJ W b T cs/\b≠wb
theorem Bx.kept{W W':World}{wb b:Nat}{T:TypeId}{cs:Array Value}(h:Bx W wb b T cs)(hk:Kept (fun x=>x=wb) W W'):Bx W' wb b T cs:=⟨hk.DC h.1 h.2,h.2⟩
theorem Bx.box{w W W2 W3:World}{F:Nat->Nat}{wb b:Nat}{T:TypeId}{cs:Array Value}(h:Bx W2 wb b T cs)(hC:EA w W F)(hb:W.heap.size<=b)(DT:Below W2.heap.size W2 W3):Gi F W3 b T cs:=by
 refine⟨h.1.below DT h.1.lt,?_⟩;by_cases h0:F b=0
 ·exact h0
 ·exact absurd (hC.hi b h0) (by omega)
theorem Below.O5{w W:World}{o:Obj}(h:Below w.heap.size w W):Below w.heap.size w (W.alloc o):=h.alloc h.size _
theorem XZ:¬VX 0:=by unfold VX EK;omega
theorem ZK.PX{w W W3 W4 W5:World}{F:Nat->Nat}{db b:Nat}{s:Ek}(h:ZK w F W3 db s W4)(hC:EA w W F)(DT:Below W.heap.size W W3)(hb:W.heap.size<=b)(hl:b<W3.heap.size)(hk:Kept (fun x=>x=b) W4 W5):ZK w F W db s W5:=by
 obtain⟨F',tv,A,c,c1,m,d⟩:=h;have f0:F b=0:=by
  by_cases h0:F b=0
  ·exact h0
  ·exact absurd (hC.hi b h0) (by omega)
 have f1:F' b=0:=(m.Nz b hl).trans f0;have m5:DN (fun c=>c=0) F' W4 F' W5:=⟨hk.mono (fun k e=>.inl (by rw[e];exact f1)),fun _ _=>rfl,fun k hl h0=>absurd (c1.hi k h0) (by omega)⟩;have hw:=hC.DI.size;refine⟨F',tv,A,c,⟨c1.lo,fun k h0=>AJ (c1.hi k h0) hk.size,c1.DI.trans (hk.below (B:=w.heap.size) (fun k e=>by rw[e];omega) c1.DI.size)⟩,⟨((Kept.DU DT).then m.kept (fun k e=>.inl e)).then hk (fun k e=>.inr (by rw[e];exact hb)),fun k h1=>m.Nz k (AJ h1 DT.size),fun k h1 h0=>?_⟩,d.other c1 m5 (fun c e=>by rw[e];exact XZ)⟩;by_cases h3:W3.heap.size<=k
 ·exact m.new k h3 h0
 ·rw[m.Nz k (by omega)]at h0
  exact absurd (hC.hi k h0) (by omega)
theorem ZK.wC{w W W3 W4:World}{F:Nat->Nat}{db b:Nat}{s:Ek}{T:TypeId}{cs:Array Value}(h:ZK w F W3 db s W4)(hC:EA w W F)(hb:W.heap.size<=b)(hk:DJ W3 b T cs):DJ W4 b T cs:=by
 obtain⟨F',tv,A,c,c1,m,d⟩:=h;refine m.kept.DC hk (fun e=>?_);have f0:F b=0:=by
  by_cases h0:F b=0
  ·exact h0
  ·exact absurd (hC.hi b h0) (by omega)
 rw[f0]at e;exact XZ e
def pieces(s:ByteArray):List ByteArray:=Lib.splitB ⟨#[32]⟩ 0 (Lib.countB s ⟨#[32]⟩) s
def Mf(x:ByteArray):Bool:= !(x.toList== [])
def GM(s:ByteArray):List ByteArray:=(pieces s).filter Mf
theorem PB(s:ByteArray)(m:Int)(w:World)(hs:s.size<4294967281)(hm:w.cell? ⟨0,0,none⟩=some (.int .i64 m))(c:UInt8):
 Calls prog 8 #[.string s,.string ⟨#[c]⟩] w fun e w'=>e=.returned (.slice (some ⟨w.heap.size,0,none⟩) (Lib.splitB ⟨#[c]⟩ 0 (Lib.countB s ⟨#[c]⟩) s).length (Lib.splitB ⟨#[c]⟩ 0 (Lib.countB s ⟨#[c]⟩) s).length)/\w'=w.alloc (.cells ((Lib.splitB ⟨#[c]⟩ 0 (Lib.countB s ⟨#[c]⟩) s).map Value.string).toArray 9):=by
 have h:=Tryz.strings_Split s ⟨#[c]⟩ m w hs hm (Cr 1);rw[Lib.splitB_all ⟨#[c]⟩ (Cr 1) 0 _ s rfl];exact h
theorem Y1(w:World)(t:TypeId)(l:List ByteArray):Reads (w.alloc (.cells (l.map Value.string).toArray t)) (w.heap.size+1) 1 (some ⟨w.heap.size,0,none⟩) l.length (C7 l):=by
 refine⟨by simp[C7],fun _=>⟨_,rfl,by simp,fun j u hj=>?_⟩⟩;obtain⟨hl,rfl⟩:=CQ.1 hj;simp only[C7,Ak]at hl;have h:=(DJ.new w t (l.map Value.string).toArray).cell j;have e:(⟨w.heap.size,0,none⟩:Addr).add j=⟨w.heap.size,j,none⟩:=by rcases j with _|j<;>simp[Addr.add]
 rw[e,h];simp[C7,hl]
theorem fk(x:ByteArray):(pieces x).length<=x.size+1:=by
 have h1:=AUZ ⟨#[32]⟩ 0 (Lib.countB x ⟨#[32]⟩) x;have h2:=Lib.countB_le ⟨#[32]⟩ (Cr 1) x.size x AB;unfold pieces;omega
theorem Za(ps:List ByteArray)(k:Nat)(h:k<ps.length)(b:Bool)(hb:((ps[k]'h).toList== [])=b):(ps.take (k+1)).filter Mf=(ps.take k).filter Mf++(if b then []else [ps[k]'h]):=by
 rw[Af h,List.filter_append];congr 1;have e:Mf (ps[k]'h)= !b:=by unfold Mf;rw[hb]
 cases b<;>simp[List.filter,e]
theorem Mu(w:World)(t:TypeId)(a:ByteArray):Reads (w.alloc (.cells #[.string a] t)) (w.heap.size+1) 1 (some ⟨w.heap.size,0,none⟩) 1 (C7 [a]):=Y1 w t [a]
theorem YL(l:List ByteArray):∀u∈C7 l,u.oneCell'=true:=by
 intro u hu;simp only[C7,BD]at hu;obtain⟨s,_,rfl⟩:=hu;rfl
theorem lz{w:World}{B n size:Nat}{e:TypeId}{v:Value}{xs:List Value}(h:w.ownsRow 0 e size v n xs)(hB:∀k,v.ownBlock=some k->B<=k):w.ownsRow B e size v n xs:=by
 refine⟨h.1,?_⟩;rcases h.2 with hn|⟨g,cap,cur,rfl,hb,rest⟩
 ·exact .inl hn
 ·exact .inr ⟨g,cap,cur,rfl,hB g rfl,rest⟩
theorem J9.isB{w W:World}{F:Nat->Nat}{b:Nat}{p v:Value}{bs:List Value}(h:J9 F W b p v bs)(hC:EA w W F):Lib.IsBuilderF 44 5 w.heap.size b bs W:=by
 have hb:Lib.BuilderAtF 44 5 w.heap.size b p bs W:=⟨hC.lo b (by rw[h.DC.2];omega),v,h.DC.1,World.ownsRowF_of (lz h.row (fun k hk=>hC.lo k (by rw[h.Jj k hk];omega))),h.ne⟩;rcases h.p with rfl|rfl
 ·exact .inl hb
 ·exact .inr hb
theorem YZ:¬VX 33:=by unfold VX EK;omega
theorem Ps(l:List UInt8):(Lib.byteCells l).length=l.length:=by simp[Lib.byteCells]
theorem Pv(l m:List UInt8):Lib.byteCells (l++m)=Lib.byteCells l++Lib.byteCells m:=by simp[Lib.byteCells]
def VU(F:Nat->Nat)(W:World)(tv:Value):Option DQ->Prop
 |none=>tv=.pointer none/\∀k,¬Fl (F k)
 |some t=>∃tb,tv=.pointer (some ⟨tb,0,none⟩)/\bQ F W tb t/\Dt t
def fK(c:Nat):Prop:=Fl c\/c=41\/c=42
structure H6(F:Nat->Nat)(W:World)(db:Nat)(tv:Value)(A:Option Addr)(c:Nat)(s:Ek):Prop where
 DC:Nx F 41 W db 30 #[tv,.slice A s.L.length c]
 Jp:IW F 42 W 5 s.L.length A (Du s.L)
 Er:s.L.length<=5
 ids:∀x∈s.L,x.1.size<=maxLen
 Hz:VU F W tv s.T
def Jm(w:World)(F:Nat->Nat)(W:World)(db:Nat)(s:Ek)(W':World):Prop:=∃F' tv A c,EA w W' F'/\DN fK F W F' W'/\H6 F' W' db tv A c s
section
variable{w W W' W1 W2:World}{F F':Nat->Nat}{P:Nat->Prop}{tb db c:Nat}{A:Option Addr}{tv:Value}{t:DQ}{s:Ek}
theorem Js:¬Fl 0:=by unfold Fl;omega
theorem NU:¬Fl 41:=by unfold Fl;omega
theorem YT:¬Fl 42:=by unfold Fl;omega
theorem DN.yE(m:DN P F W F' W')(hC:EA w W F)(hP:∀c,P c->¬Fl c)(h:∀k,¬Fl (F k)):∀k,¬Fl (F' k):=fun k e=>by
 by_cases hl:W.heap.size<=k
 ·exact hP _ (m.new k hl (fun e0=>by rw[e0]at e;exact Js e)) e
 ·rw[m.Nz k (by omega)]at e
  exact h k e
theorem VU.other{tv:Value}{T:Option DQ}(ht:VU F W tv T)(hC:EA w W F)(m:DN P F W F' W')(hP:∀c,P c->¬Fl c):VU F' W' tv T:=by
 unfold VU at ht⊢;split
 ·exact⟨ht.1,m.yE hC hP ht.2⟩
 ·obtain⟨tb,h1,h2,h3⟩:=ht
  exact⟨tb,h1,h2.other hC m hP h3.Er,h3⟩
theorem H6.other(h:H6 F W db tv A c s)(hC:EA w W F)(m:DN P F W F' W')(hP:∀c,P c->¬fK c):H6 F' W' db tv A c s:=by
 have hn:∀c,fK c->¬P c:=fun c h1 h2=>hP c h2 h1;exact⟨m.DC hC (by omega) (hn 41 (.inr (.inl rfl))) h.DC,m.read hC (by omega) (hn 42 (.inr (.inr rfl))) h.Jp,h.Er,h.ids,h.Hz.other hC m (fun c h4 h5=>hP c h4 (.inl h5))⟩
theorem H6.below(h:H6 F W db tv A c s)(hC:EA w W F)(hb:Below W.heap.size W W1):H6 F W1 db tv A c s:=
 h.other hC (.below (P:=fun _=>False) hC hb) (fun _ h=>h.elim)
theorem H6.pO{t':DQ}{L:List Dg}(h:H6 F W db (.pointer (some ⟨tb,0,none⟩)) A c ⟨some t,L⟩)(hC:EA w W F)(k:J5 w F W tb t' W')(hg:Dt t'):Jm w F W db ⟨some t',L⟩ W':=by
 obtain⟨F',h1,h2,h3⟩:=k;exact⟨F',_,A,c,h1,h2.mono fun c h=>.inl h,h2.DC hC (by omega) NU h.DC,h2.read hC (by omega) YT h.Jp,h.Er,h.ids,tb,rfl,h3,hg⟩
theorem Jm.from_(h:Jm w F W1 db s W2)(hC:EA w W F)(hb:Below W.heap.size W W1):Jm w F W db s W2:=by
 obtain⟨F',tv,A,c,h1,h2,h3⟩:=h;exact⟨F',tv,A,c,h1,DN.trans (.below hC hb) h2,h3⟩
theorem Jm.more(h:Jm w F W db s W1)(hb:Below W1.heap.size W1 W2):Jm w F W db s W2:=by
 obtain⟨F',tv,A,c,h1,h2,h3⟩:=h;exact⟨F',tv,A,c,h1.below hb,h2.trans (.below h1 hb),h3.below h1 hb⟩
theorem H6.zL(h:H6 F W db tv A c s)(hC:EA w W F):Jm w F W db s W:=⟨F,tv,A,c,hC,.refl hC,h⟩
theorem H6.back(h:H6 F W db tv A c s)(hC:EA w W F)(hb:Below W.heap.size W W1):Jm w F W db s W1:=(h.zL hC).more hb
theorem bQ.p6{G:Nat->Nat}(h:bQ F W tb t)(hG:∀k c,Fl c->(F k=c↔G k=c))(h5:t.L.length<=5):bQ G W tb t:=by
 obtain⟨db,nv,wv,bs,r⟩:=h;have p:∀c,(6<=c/\c<=9)->Fl c:=fun c a=>.inl a;have zr:∀c,Fl c->(fun k=>F k=c)=fun k=>G k=c:=fun c hc=>funext fun k=>propext (hG k c hc);refine⟨db,nv,wv,bs,⟨r.DC.1,(hG _ 6 (p 6 (by omega))).1 r.DC.2⟩,⟨r.Jp.1,fun k hk=>(hG _ 7 (p 7 (by omega))).1 (r.Jp.2 k hk)⟩,r.Qk,(hG _ 8 (p 8 (by omega))).1 r.YI,⟨r.way.1,fun k hk=>(hG _ 9 (p 9 (by omega))).1 (r.way.2 k hk)⟩,r.len,fun i hi SJ=>?_⟩;have:=r.node i hi SJ;have h10:i<10:=by omega
 rw[zr (20+i) (.inr (by omega))]at this;exact this
theorem Zd(hC:EA w W F)(hn:∀k,¬Fl (F k))(k:J5 W (fun _=>0) W tb t W2)(hg:Dt t):J5 w F W tb t W2:=by
 obtain⟨F2,c2,m2,r2⟩:=k;have q2:∀k,F2 k=0\/(W.heap.size<=k/\Fl (F2 k)):=fun k=>by
  by_cases hl:W.heap.size<=k
  ·by_cases h0:F2 k=0
   ·exact .inl h0
   ·exact .inr ⟨hl,m2.new k hl h0⟩
  ·exact .inl (m2.Nz k (by omega))
 obtain⟨G,hG⟩:∃G:Nat->Nat,∀k,G k=if k<W.heap.size then F k else F2 k:=⟨_,fun _=>rfl⟩
 have WP:=c2.DI.size;refine⟨G,⟨fun k h0=>?_,fun k h0=>?_,Below.C9 hC.DI c2.DI⟩,⟨Kept.DU c2.DI,fun k hk=>by rw[hG,AD hk],fun k hk h0=>?_⟩,r2.p6 (fun k c hc=>?_) hg.Er⟩
 ·rw[hG]at h0
  split at h0
  ·exact hC.lo k h0
  ·exact AG hC.DI.size (c2.lo k h0)
 ·rw[hG]at h0
  split at h0
  ·exact AJ (hC.hi k h0) WP
  ·exact c2.hi k h0
 ·rw[hG]at h0⊢
  rw[AC (by omega)]at h0⊢;exact(q2 k).elim (fun e=>absurd e h0) (fun e=>e.2)
 ·rw[hG]
  split
  ·next hl=>
   constructor
   ·intro e
    rcases q2 k with h|h
    ·rw[h]at e;exact absurd (e▸hc) Js
    ·omega
   ·intro e
    exact absurd (show Fl (F k)by rw[e];exact hc) (hn k)
  ·exact Iff.rfl
theorem EA.rz(hC:EA w W F)(hb:F db=41)(i:Nat)(v:Value):EA w (W.setCell ⟨db,i,none⟩ v) F/\DN (fun c=>c=41) F W F (W.setCell ⟨db,i,none⟩ v):=by
 have K:Kept (fun k=>F k=41) W (W.setCell ⟨db,i,none⟩ v):=(AH _ W).setCell (a:=⟨db,i,none⟩) (.inl hb) _;have ER:(W.setCell ⟨db,i,none⟩ v).heap.size=W.heap.size:=by simp[World.setCell]
 exact⟨⟨hC.lo,fun k hk=>by rw[ER];exact hC.hi k hk,hC.DI.setCell (p:=⟨db,i,none⟩) (hC.lo db (by rw[hb];omega)) _⟩,K,fun _ _=>rfl,fun k hl h0=>absurd (hC.hi k h0) (by omega)⟩
theorem H6.Lk{L L1:List Dg}{A1:Option Addr}{c1:Nat}{w1:World}(h:H6 F W db tv A c ⟨s.T,L⟩)(hC:EA w W F)(ho:w1.ownsRow W.heap.size 108 5 (.slice A1 L1.length c1) L1.length (Du L1))(C6:Below W.heap.size W w1)
 (h5:L1.length<=5) (hi:∀x∈L1,x.1.size<=maxLen) (DK:Below w1.heap.size w1 W2):Jm w F W db ⟨s.T,L1⟩ (W2.setCell ⟨db,1,none⟩ (.slice A1 L1.length c1)):=by
 have NA:Below W.heap.size W W2:=Below.C9 C6 DK;have K0:Kept (fun k=>F k=42) W W2:=.DU NA;have c2:=hC.DM (c:=42) (by omega) K0;have m2:=DN.DM hC K0;have b1:=m2.DC hC (c':=41) (by omega) (by omega) h.DC;have t1:=h.Hz.other hC m2 (fun c e=>by rw[e];exact YT);obtain⟨c3,m3⟩:=c2.rz b1.2 1 (.slice A1 L1.length c1);have Ld:=C6.size;have WP:=DK.size;have hR:IW (Go.Proofs.YthiplgekjgffkaaGreatDoor.DM F W W2 42) 42 W2 5 L1.length A1 (Du L1):=by
  refine⟨((Reads.DR ho).below DK AB).more DK.size,fun _ a ha=>?_⟩;subst ha;have:=ho.lt a.block rfl;exact FV this.1 (by omega)
 refine⟨_,tv,A1,c1,c3,(m2.mono fun c hc=>.inr (.inr hc)).trans (m3.mono fun c hc=>.inr (.inl hc)),⟨?_,b1.2⟩,m3.read c2 (by omega) (by omega) hR,h5,hi,t1.other c2 m3 (fun c e=>by rw[e];exact NU)⟩;have:=b1.1.De 1 (.slice A1 L1.length c1)
 simpa using this
theorem H6.started{L:List Dg}{A1:Option Addr}{c1:Nat}{w1:World}(h:H6 F W db (.pointer none) A c ⟨none,L⟩)(hC:EA w W F)(ho:w1.ownsRow W.heap.size 108 5 (.slice A1 L.length c1) L.length (Du L))(C6:Below W.heap.size W w1)(k:J5 w1 (fun _=>0) w1 tb t W2)(hg:Dt t):
 Jm w F W db ⟨some t,L⟩ ((W2.setCell ⟨db,1,none⟩ (.slice A1 L.length c1)).setCell ⟨db,0,none⟩ (.pointer (some ⟨tb,0,none⟩))):=by
 have K0:Kept (fun k=>F k=42) W w1:=.DU C6;have c2:=hC.DM (c:=42) (by omega) K0;have m2:=DN.DM hC K0;have hR:IW (Go.Proofs.YthiplgekjgffkaaGreatDoor.DM F W w1 42) 42 w1 5 L.length A1 (Du L):=by
  refine⟨Reads.DR ho,fun _ a ha=>?_⟩;subst ha;have:=ho.lt a.block rfl;exact FV this.1 (by omega)
 have b1:=m2.DC hC (c':=41) (by omega) (by omega) h.DC;obtain⟨F3,c3,m3,r3⟩:=Zd c2 (m2.yE hC (fun c e=>by rw[e];exact YT) h.Hz.2) k hg;have b3:=m3.DC c2 (c':=41) (by omega) NU b1;have R3:=m3.read c2 (by omega) YT hR;obtain⟨c4,m4⟩:=c3.rz b3.2 1 (.slice A1 L.length c1);obtain⟨c5,m5⟩:=c4.rz b3.2 0 (.pointer (some ⟨tb,0,none⟩));have p41:∀c,c=41->¬Fl c:=fun c e=>by rw[e];exact NU
 refine⟨F3,_,A1,c1,c5,(((m2.mono fun c hc=>.inr (.inr hc)).trans (m3.mono fun c hc=>.inl hc)).trans (m4.mono fun c hc=>.inr (.inl hc))).trans (m5.mono fun c hc=>.inr (.inl hc)),⟨?_,b3.2⟩,m5.read c4 (by omega) (by omega) (m4.read c3 (by omega) (by omega) R3),h.Er,h.ids,tb,rfl,(r3.other c3 m4 p41 hg.Er).other c4 m5 p41 hg.Er,hg⟩;have:=(b3.1.De 1 (.slice A1 L.length c1)).De 0 (.pointer (some ⟨tb,0,none⟩))
 simpa using this
end
def FF(er:Int)(out:ByteArray):ByteArray:=if er=0 then out else FG er.toNat
theorem VH:∀(l:List Dg)(ids:List ByteArray),0<=Gv ids l/\Gv ids l<100
 | [],_=>by unfold Gv;decide
 |a::l,ids=>by
  unfold Gv;split
  ·split
   ·decide
   ·exact VH l _
  ·unfold IX
   split
   ·split<;>decide
   ·decide
theorem PQ(l:List Dg):0<=Ev l/\Ev l<100:=by
 unfold Ev;split
 ·decide
 ·exact VH l []
section
variable{w W:World}{F:Nat->Nat}{rb c:Nat}{A:Option Addr}{tv:Value}{s:Ek}
def AGV(s:ByteArray):Prop:=s.toList≠ [110,111,100,101]/\s.toList≠ [115,116,97,114,116]
theorem NB{L:List Dg}(hC:EA w W F)(h:H6 F W rb tv A c ⟨none,L⟩)(wd:ByteArray)(hw:AGV wd)(N S:Value):
 Calls prog 18 #[.pointer (some ⟨rb,0,none⟩),.string wd,N,S] W fun e W'=>e=.returned (.string (FG 4))/\Jm w F W rb ⟨none,L⟩ W':=by
 obtain⟨rfl,-⟩:=h.Hz;have d0:=h.DC.1.cell 0;have lr:=h.DC.1.lt;simp at d0;have q1:(wd.toList== [110,111,100,101])=false:=by simpa using hw.1
 have q2:(wd.toList== [115,116,97,114,116])=false:=by simpa using hw.2
 have HF:=I (El 4 (by decide));have Df:=I (h.zL hC);clear h hC hw;go_in;go_wp2_with fail
 refine(HF.out _).mono ?_;rintro e' w1 ⟨rfl,rfl⟩;go_wp2;go_ret;exact⟨rfl,Df.out⟩
theorem bU{t:DQ}{L:List Dg}(hC:EA w W F)(h:H6 F W rb tv A c ⟨some t,L⟩)(wd:ByteArray)(hw:wd=⟨#[110,111,100,101]⟩\/wd=⟨#[115,116,97,114,116]⟩)(N S:Value):
 Calls prog 18 #[.pointer (some ⟨rb,0,none⟩),.string wd,N,S] W fun e W'=>e=.returned (.string (FG 5))/\Jm w F W rb ⟨some t,L⟩ W':=by
 obtain⟨tb,rfl,-⟩:=h.Hz;have d0:=h.DC.1.cell 0;have lr:=h.DC.1.lt;simp at d0;have HF:=I (El 5 (by decide));have Df:=I (h.zL hC);clear h hC;rcases hw with rfl|rfl;all_goals
  go_in;go_wp2_with fail
  refine(HF.out _).mono ?_;rintro e' w1 ⟨rfl,rfl⟩;go_wp2;go_ret;exact⟨rfl,Df.out⟩
theorem nB{L:List Dg}(hC:EA w W F)(h:H6 F W rb tv A c ⟨none,L⟩)(N S:Value):
 Calls prog 18 #[.pointer (some ⟨rb,0,none⟩),.string ⟨#[115,116,97,114,116]⟩,N,S] W fun e W'=>e=.returned (.string (FF (Ev L) ⟨#[111,107]⟩))/\Jm w F W rb (Ek.mk none L).started W':=by
 obtain⟨rfl,Ix⟩:=h.Hz;have d0:=h.DC.1.cell 0;have d1:=h.DC.1.cell 1;have lr:=h.DC.1.lt;simp at d0 d1;have h5:=h.Er;have cF:=h.ids;simp only at h5 cF;have P7:=I (V5 A c L.length W.heap.size (Du L) (by omega) (Ja L) W h.Jp.1 AB);have oz:=I (fun A1 c1 (hc:L.length<=c1/\c1<=maxLen) W1 hr=>Ww A1 c1 L hc cF W1 hr);have HH:=I h;have HC:=I hC;have HF:=I (fun k (hk:k<100) w'=>El k hk w');have HB:=I (fun w'=>h.back (W1:=w') hC);have Un:=I (fun w' (hb:Below W.heap.size W w')=>h.DC.1.below hb h.DC.1.lt);have HE:=I (PQ L);clear h hC Ix;go_in;go_wp2_with fail
 refine P7.out.mono ?_;rintro e' w1 ⟨A1,c1,rfl,VJ,C6⟩;have O1:=I VJ;have B1:=I C6;clear VJ C6;have ix:=I (oz.out A1 c1 (Ec O1.out) w1 (Reads.DR O1.out));go_wp2_with fail
 refine ix.out.mono ?_;rintro e' w2 hx;rcases hx with⟨h0,tb,rfl,k⟩|⟨h0,rfl,DK⟩
 ·have h12:=k
  obtain⟨F9,c9,-,-⟩:=h12;have B2:=I (Below.C9 B1.out c9.DI);have ld:=I (show FF (Ev L) ⟨#[111,107]⟩=⟨#[111,107]⟩/\(Ek.mk none L).started=⟨some (DQ.start L),L⟩from⟨by unfold FF;rw[AD h0],AD (show(Ek.mk none L).Kz=0 from h0)⟩);have Df:=I (HH.out.started HC.out O1.out B1.out k (Dt.gS h5 (Is h0).2));clear c9 k h0;have lr2:rb<w2.heap.size:=AJ lr B2.out.size;have z0:=(Un.out w2 B2.out).frozen 0;have z1:=(Un.out w2 B2.out).frozen 1;have z3:=((Un.out w2 B2.out).De 1 (.slice A1 L.length c1)).frozen 0;have y1:=(Un.out w2 B2.out).cell 1;have y0:=((Un.out w2 B2.out).De 1 (.slice A1 L.length c1)).cell 0;simp at y0 y1;have lr3:rb<(w2.setCell ⟨rb,1,none⟩ (.slice A1 L.length c1)).heap.size:=by simpa [World.setCell] using lr2
  go_wp2;go_ret;exact⟨by rw[ld.out.1];rfl,by rw[ld.out.2];exact Df.out⟩
 ·have B2:=I (Below.C9 B1.out DK)
  obtain⟨k,hk⟩:∃k:Nat,Ev L=(k:Int):=⟨(Ev L).toNat,by have:=HE.out;omega⟩;have ld:=I (show FF (Ev L) ⟨#[111,107]⟩=FG k/\(Ek.mk none L).started=⟨none,L⟩from⟨by unfold FF;rw[AC h0,hk];rfl,AC (show¬(Ek.mk none L).Kz=0 from h0)⟩);have HK:=I (show k<100 by have:=HE.out;omega);rw[hk]at h0;have e1:((k:Int) != 0)=true:=by simpa using h0
  rw[hk];clear DK h0;go_wp2_with fail
  refine(HF.out k HK.out _).mono ?_;rintro e' w3 ⟨rfl,rfl⟩;go_wp2;go_ret;exact⟨by rw[ld.out.1];rfl,by rw[ld.out.2];exact HB.out _ B2.out⟩
theorem wI{L:List Dg}(hC:EA w W F)(h:H6 F W rb tv A c ⟨none,L⟩)(id:ByteArray)(ev ca le:Int)(hid:id.size<=maxLen){An As:Option Addr}{cn cs:Nat}(hn:Reads W W.heap.size 1 An 3 [.int .i64 ev,.int .i64 ca,.int .i64 le])(hs:Reads W W.heap.size 1 As 1 [.string id]):
 Calls prog 18 #[.pointer (some ⟨rb,0,none⟩),.string ⟨#[110,111,100,101]⟩,.slice An 3 cn,.slice As 1 cs] W fun e W'=>e=.returned (.string (FF (Ev (L++[(id,0,ev,ca,le)])) ⟨#[111,107]⟩))/\Jm w F W rb ((Ek.mk none L).Lk (id,0,ev,ca,le)) W':=by
 obtain⟨i0,hi,Fq,FZ,Fe⟩:=AO Ru;obtain⟨rfl,Ix⟩:=h.Hz;obtain⟨gn,on,rfl,Mm,Pj⟩:=hn.addr (by decide);obtain⟨gs,os,rfl,hgs,EO⟩:=hs.addr (by decide);have n0:=Pj 0 (.int .i64 ev) rfl;have n1:=Pj 1 (.int .i64 ca) rfl;have n2:=Pj 2 (.int .i64 le) rfl;have s0:=EO 0 (.string id) rfl;simp only[AW]at n0 s0;have d0:=h.DC.1.cell 0;have d1:=h.DC.1.cell 1;have lr:=h.DC.1.lt;simp at d0 d1;have h5:=h.Er;simp only at h5;have HI:=I (show∀y∈L++[(id,0,ev,ca,le)],y.1.size<=maxLen from fun y hy=>by
  rcases Au.1 hy with hy|hy
  ·exact h.ids y hy
  ·rcases Ai.1 hy with rfl
   exact hid)
 have P7:=I (V5 A c L.length W.heap.size (Du L) (by omega) (Ja L) W h.Jp.1 AB);have HH:=I h;have HC:=I hC;have HF:=I (fun k (hk:k<100) w'=>El k hk w');have HB:=I (fun w'=>h.back (W1:=w') hC);have Un:=I (fun w' (hb:Below W.heap.size W w')=>h.DC.1.below hb h.DC.1.lt);have HE:=I (PQ (L++[(id,0,ev,ca,le)]));have H2:=I (show∀u∈Ie (id,0,ev,ca,le),u.oneCell'=true by have:=Ja [(id,0,ev,ca,le)];simpa [Du] using this);have Pi:=I (fun w'=>cC w' 108 (id,0,ev,ca,le));have Ko:=I (fun(A9:Option Addr) (c9:Nat) (w9:World) (ho:w9.ownsRow W.heap.size 108 5 (.slice A9 (L.length+1) c9) (L.length+1) (Du L++Ie (id,0,ev,ca,le)))=>
  show Calls prog 58 #[.slice A9 (L.length+1) c9] w9 (Sr w9 (L++[(id,0,ev,ca,le)]))by
   have hr:=Reads.DR ho;have:=Ww A9 c9 (L++[(id,0,ev,ca,le)]) (by rw[AN,BJ];exact Ec ho) HI.out w9 (by rw[KW,AN,BJ];exact hr)
   rwa [AN,BJ]at this)
 clear h hC Ix hn hs Pj EO;go_in;go_wp2_with fail
 refine P7.out.mono ?_;rintro e' w1 ⟨A1,c1,rfl,VJ,C6⟩;have O1:=I VJ;have B1:=I C6;have HS:=I (show∀w',Below W.heap.size W w'->(Below W.heap.size W w'/\w'.cell? ⟨gs,os,none⟩=some (.string id)/\w'.cell? ⟨gn,on,none⟩=some (.int .i64 ev)/\w'.cell? ⟨gn,on+1,none⟩=some (.int .i64 ca)/\w'.cell? ⟨gn,on+2,none⟩=some (.int .i64 le))from
  fun w' hb=>⟨hb,(hb.cell hgs).trans s0,(hb.cell Mm).trans n0,(hb.cell Mm).trans n1,(hb.cell Mm).trans n2⟩)
 have pY:=C6.size;clear VJ C6;go_wp2_with fail
 go_region_held3 (fun w'=>Below W.heap.size W w'/\w'.cell? ⟨gs,os,none⟩=some (.string id)/\w'.cell? ⟨gn,on,none⟩=some (.int .i64 ev)/\w'.cell? ⟨gn,on+1,none⟩=some (.int .i64 ca)/\w'.cell? ⟨gn,on+2,none⟩=some (.int .i64 le))
  ((refine HS.out _ ?_;first|exact Kh|exact B1.out|exact B1.out.drew|exact B1.out.drew.alloc B1.out.size _))
  ((refine FE (by rfl) _ _ _ (by rfl) W.heap.size 108 i0 _ 5 48 underlying28 hi Fq FZ Fe rfl (by decide) _ _ _ (by rfl) (O1.out.drew.alloc _) _ _ _ _ _ (by rfl) (Pi.out _) H2.out (by unfold maxLen;omega) (by omega) (by exact CW (AK (by assumption))) ?_;intro v9 w9 Db Ei;obtain⟨A9,c9,rfl⟩:=Cz Db;have Kh:Below W.heap.size W w9:=Cb (AK (by assumption)) Ei))
 all_goals
  have L9:=I Kh;have O9:=I Db;clear Kh Db Ei;rename_i hheld;clear hheld;have HN9:=I (Ko.out A9 c9 w9 O9.out);go_wp2_with fail
  refine HN9.out.mono ?_;rintro e' w2 (⟨h0,tb,rfl,GA⟩|⟨h0,rfl,DK⟩)
  ·have Nr:=I (show Below w9.heap.size w9 w2 from GA.choose_spec.1.DI)
   have BW:=I (Below.C9 L9.out Nr.out);have Df:=I (HH.out.Lk (L1:=L++[(id,0,ev,ca,le)]) (s:=⟨none,L⟩) HC.out (by rw[KW,AN,BJ];exact O9.out) L9.out (Is h0).1 HI.out Nr.out);rw[AN,BJ]at Df;have ld:=I (show FF (Ev (L++[(id,0,ev,ca,le)])) ⟨#[111,107]⟩=⟨#[111,107]⟩/\(Ek.mk none L).Lk (id,0,ev,ca,le)=⟨none,L++[(id,0,ev,ca,le)]⟩from⟨by unfold FF;rw[AD h0],AD (show(Ek.mk none L).Pq (id,0,ev,ca,le)=0 from h0)⟩);have lr2:rb<w2.heap.size:=AJ lr BW.out.size;have z1:=(Un.out w2 BW.out).frozen 1;have y1:=(Un.out w2 BW.out).cell 1;simp at y1;clear h0 GA;go_wp2
   go_ret;exact⟨by rw[ld.out.1];rfl,by rw[ld.out.2];exact Df.out⟩
  ·have BW:=I (Below.C9 L9.out DK)
   obtain⟨k,hk⟩:∃k:Nat,Ev (L++[(id,0,ev,ca,le)])=(k:Int):=⟨(Ev (L++[(id,0,ev,ca,le)])).toNat,by have:=HE.out;omega⟩;have ld:=I (show FF (Ev (L++[(id,0,ev,ca,le)])) ⟨#[111,107]⟩=FG k/\(Ek.mk none L).Lk (id,0,ev,ca,le)=⟨none,L⟩from⟨by unfold FF;rw[AC h0,hk];rfl,AC (show¬(Ek.mk none L).Pq (id,0,ev,ca,le)=0 from h0)⟩);have HK:=I (show k<100 by have:=HE.out;omega);rw[hk]at h0;have e1:((k:Int) != 0)=true:=by simpa using h0
   rw[hk];clear DK h0;go_wp2_with fail
   refine(HF.out k HK.out _).mono ?_;rintro e' w3 ⟨rfl,rfl⟩;go_wp2;go_ret;exact⟨by rw[ld.out.1];rfl,by rw[ld.out.2];exact HB.out _ BW.out⟩
end
theorem sY{N:List Dm}{er:Int}(hN:N.length<=100)(hs:er=0->∀p∈N,IC p)(he:0<=er/\er<100):∀(W:World)(A:Option Addr)(c:Nat),Reads W W.heap.size 3 A N.length (Da N)->
 Calls prog 59 #[.slice A N.length c,.int .i64 er] W fun x W'=>x=.returned (.string (FF er (FC N)))/\Below W.heap.size W W':=fun W A c hr=>by
 unfold FF;by_cases h0:er=0
 ·subst h0
  exact jZ A c _ N rfl hN (hs rfl) W hr
 ·obtain⟨k,rfl⟩:=Bo he.1
  rw[AC h0];exact(lQ A c _ k (by omega) (by omega) W).mono fun e W' ⟨a,b⟩=>⟨a,b▸AA⟩
theorem yI{er:Int}(he:0<=er/\er<100):∀(W:World),Calls prog 44 #[.int .i64 er,.slice none 0 0] W fun x W'=>x=.returned (.string (FF er ⟨#[111,107]⟩))/\W=W':=fun W=>by
 unfold FF;by_cases h0:er=0
 ·subst h0
  exact Up none 0 0 [] rfl (by decide) (by simp) W Reads.none_
 ·obtain⟨k,rfl⟩:=Bo he.1
  rw[AC h0];exact cG none 0 0 k (by omega) (by omega) W
section
variable{w W:World}{F:Nat->Nat}{rb c:Nat}{A:Option Addr}{tv:Value}{s:Ek}
theorem wj{t:DQ}{L:List Dg}{g:Int}(hC:EA w W F)(h:H6 F W rb tv A c ⟨some t,L⟩)(hN:(t.Fb g).length<=100)(hs:t.D8 g=0->∀p∈t.Fb g,IC p)(he:0<=t.D8 g/\t.D8 g<100){An As:Option Addr}{cn cs ns:Nat}(hn:IW F 0 W 1 1 An [.int .i64 g]):
 Calls prog 18 #[.pointer (some ⟨rb,0,none⟩),.string ⟨#[116,105,99,107]⟩,.slice An 1 cn,.slice As ns cs] W fun e W'=>e=.returned (.string (FF (t.D8 g) (FC (t.Fb g))))/\Jm w F W rb ⟨some (t.DP g),L⟩ W':=by
 obtain⟨tb,rfl,ht,hg⟩:=h.Hz;obtain⟨gn,on,rfl,Mm,Pj⟩:=hn.1.addr (by decide);have mn:F gn=0:=hn.2 (by decide) _ rfl;have n0:=Pj 0 (.int .i64 g) rfl;simp only[AW]at n0;have d0:=h.DC.1.cell 0;have lr:=h.DC.1.lt;simp at d0;have HM:=I (show∀W1,Below W.heap.size W W1->Calls prog 60 #[.pointer (some ⟨tb,0,none⟩),.int .i64 g] W1 fun e W'=>∃A c,e=.returned (.tuple #[.slice A (t.Fb g).length c,.int .i64 (t.D8 g)])/\Reads W' W'.heap.size 3 A (t.Fb g).length (Da (t.Fb g))/\J5 w F W tb (t.DP g) W' from fun W1 hb=>by
  obtain⟨_,_,_,_,k⟩:=ht;exact(eo (k.below hC hb hg.Er) (hC.below hb) hg g).mono fun e W' ⟨A,c,q1,q2,q3⟩=>⟨A,c,q1,Reads.DR q2,q3.from hC hb⟩)
 have HY:=I (sY hN hs he);have cq:=I (fun W2 (k:J5 w F W tb (t.DP g) W2)=>h.pO hC k (hg.DP g));have HS:=I (show∀w',Kept (fun k=>Fl (F k)) W w'->(w'.cell? ⟨rb,0,none⟩=some (.pointer (some ⟨tb,0,none⟩))/\w'.cell? ⟨gn,on,none⟩=some (.int .i64 g))from fun w' k=>⟨k.cell d0 (fun e=>NU (by have e':Fl (F rb):=e;rwa [h.DC.2]at e')),k.cell n0 (fun e=>Js (by have e':Fl (F gn):=e;rwa [mn]at e'))⟩);clear ht hC h hg Pj hn hN hs he;generalize t.D8 g=er at*;generalize t.Fb g=N at*;generalize t.DP g=t' at*;go_in;go_wp2_with fail
 go_region_held3 (fun w'=>w'.cell? ⟨rb,0,none⟩=some (.pointer (some ⟨tb,0,none⟩))/\w'.cell? ⟨gn,on,none⟩=some (.int .i64 g))
  ((refine HS.out _ ?_;first|(with_reducible exact Im)|(with_reducible exact AH _ _)|(with_reducible exact(AH _ _).drew)))
  (first
  |(go_at_call 60;(with_reducible refine(HM.out _ ?ia).mono ?_);(case ia=>first|(with_reducible exact AA)|(with_reducible exact AA.drew));rintro e' w2 ⟨A2,c2,rfl,hr,GA⟩;have H2:=I GA;have R2:=I hr;have Im:=GA.choose_spec.2.1.kept;clear GA hr)
  |(go_at_call 59;(with_reducible refine(HY.out _ _ _ R2.out).mono ?_);rintro e' w3 ⟨rfl,DT⟩;have Im:Kept (fun k=>Fl (F k)) W w3:=Im.step DT;have H3:=I DT;clear DT))
 all_goals
  have Df:=I ((cq.out _ H2.out).more H3.out);clear Im;go_wp2;go_ret;exact⟨rfl,Df.out⟩
theorem pa{t:DQ}{L:List Dg}{i z:Int}(hC:EA w W F)(h:H6 F W rb tv A c ⟨some t,L⟩)(hN:(t.Ge i z).length<=100)(hs:t.Ha i z=0->∀p∈t.Ge i z,IC p)(he:0<=t.Ha i z/\t.Ha i z<100){An As:Option Addr}{cn cs ns:Nat}(hn:IW F 0 W 1 2 An [.int .i64 i,.int .i64 z]):
 Calls prog 18 #[.pointer (some ⟨rb,0,none⟩),.string ⟨#[98,114,105,110,103]⟩,.slice An 2 cn,.slice As ns cs] W fun e W'=>e=.returned (.string (FF (t.Ha i z) (FC (t.Ge i z))))/\Jm w F W rb ⟨some (t.brought i z),L⟩ W':=by
 obtain⟨tb,rfl,ht,hg⟩:=h.Hz;obtain⟨gn,on,rfl,Mm,Pj⟩:=hn.1.addr (by decide);have mn:F gn=0:=hn.2 (by decide) _ rfl;have n0:=Pj 0 (.int .i64 i) rfl;have n1:=Pj 1 (.int .i64 z) rfl;simp only[AW]at n0;have d0:=h.DC.1.cell 0;have lr:=h.DC.1.lt;simp at d0;have HM:=I (show∀W1,Below W.heap.size W W1->Calls prog 61 #[.pointer (some ⟨tb,0,none⟩),.int .i64 i,.int .i64 z] W1 fun e W'=>∃A c,e=.returned (.tuple #[.slice A (t.Ge i z).length c,.int .i64 (t.Ha i z)])/\Reads W' W'.heap.size 3 A (t.Ge i z).length (Da (t.Ge i z))/\J5 w F W tb (t.brought i z) W' from fun W1 hb=>by
  obtain⟨_,_,_,_,k⟩:=ht;exact(eg (k.below hC hb hg.Er) (hC.below hb) hg i z).mono fun e W' ⟨A,c,q1,q2,q3⟩=>⟨A,c,q1,Reads.DR q2,q3.from hC hb⟩)
 have HY:=I (sY hN hs he);have cq:=I (fun W2 (k:J5 w F W tb (t.brought i z) W2)=>h.pO hC k (hg.brought i z));have HS:=I (show∀w',Kept (fun k=>Fl (F k)) W w'->(w'.cell? ⟨rb,0,none⟩=some (.pointer (some ⟨tb,0,none⟩))/\w'.cell? ⟨gn,on,none⟩=some (.int .i64 i)/\w'.cell? ⟨gn,on+1,none⟩=some (.int .i64 z))from fun w' k=>⟨k.cell d0 (fun e=>NU (by have e':Fl (F rb):=e;rwa [h.DC.2]at e')),k.cell n0 (fun e=>Js (by have e':Fl (F gn):=e;rwa [mn]at e')),k.cell n1 (fun e=>Js (by have e':Fl (F gn):=e;rwa [mn]at e'))⟩);clear ht hC h hg Pj hn hN hs he;generalize t.Ha i z=er at*;generalize t.Ge i z=N at*;generalize t.brought i z=t' at*;go_in
 go_wp2_with fail
 go_region_held3 (fun w'=>w'.cell? ⟨rb,0,none⟩=some (.pointer (some ⟨tb,0,none⟩))/\w'.cell? ⟨gn,on,none⟩=some (.int .i64 i)/\w'.cell? ⟨gn,on+1,none⟩=some (.int .i64 z))
  ((refine HS.out _ ?_;first|(with_reducible exact Im)|(with_reducible exact AH _ _)|(with_reducible exact(AH _ _).drew)))
  (first
  |(go_at_call 61;(with_reducible refine(HM.out _ ?ia).mono ?_);(case ia=>first|(with_reducible exact AA)|(with_reducible exact AA.drew));rintro e' w2 ⟨A2,c2,rfl,hr,GA⟩;have H2:=I GA;have R2:=I hr;have Im:=GA.choose_spec.2.1.kept;clear GA hr)
  |(go_at_call 59;(with_reducible refine(HY.out _ _ _ R2.out).mono ?_);rintro e' w3 ⟨rfl,DT⟩;have Im:Kept (fun k=>Fl (F k)) W w3:=Im.step DT;have H3:=I DT;clear DT))
 all_goals
  have Df:=I ((cq.out _ H2.out).more H3.out);clear Im;go_wp2;go_ret;exact⟨rfl,Df.out⟩
theorem wM{t:DQ}{L:List Dg}{i:Int}(hC:EA w W F)(h:H6 F W rb tv A c ⟨some t,L⟩)(he:0<=t.KE i/\t.KE i<100){An As:Option Addr}{cn cs ns:Nat}(hn:IW F 0 W 1 1 An [.int .i64 i]):
 Calls prog 18 #[.pointer (some ⟨rb,0,none⟩),.string ⟨#[108,111,115,101]⟩,.slice An 1 cn,.slice As ns cs] W fun e W'=>e=.returned (.string (FF (t.KE i) ⟨#[111,107]⟩))/\Jm w F W rb ⟨some (t.lost i),L⟩ W':=by
 obtain⟨tb,rfl,ht,hg⟩:=h.Hz;obtain⟨gn,on,rfl,Mm,Pj⟩:=hn.1.addr (by decide);have mn:F gn=0:=hn.2 (by decide) _ rfl;have n0:=Pj 0 (.int .i64 i) rfl;simp only[AW]at n0;have d0:=h.DC.1.cell 0;have lr:=h.DC.1.lt;simp at d0;have HM:=I (show∀W1,Below W.heap.size W W1->Calls prog 62 #[.pointer (some ⟨tb,0,none⟩),.int .i64 i] W1 fun e W'=>e=.returned (.int .i64 (t.KE i))/\J5 w F W tb (t.lost i) W' from fun W1 hb=>by
  obtain⟨_,_,_,_,k⟩:=ht;exact(mC (k.below hC hb hg.Er) (hC.below hb) hg i).mono fun e W' ⟨q1,q3⟩=>⟨q1,q3.from hC hb⟩)
 have HY:=I (yI he);have cq:=I (fun W2 (k:J5 w F W tb (t.lost i) W2)=>h.pO hC k (hg.lost i));have HS:=I (show∀w',Kept (fun k=>Fl (F k)) W w'->(w'.cell? ⟨rb,0,none⟩=some (.pointer (some ⟨tb,0,none⟩))/\w'.cell? ⟨gn,on,none⟩=some (.int .i64 i))from fun w' k=>⟨k.cell d0 (fun e=>NU (by have e':Fl (F rb):=e;rwa [h.DC.2]at e')),k.cell n0 (fun e=>Js (by have e':Fl (F gn):=e;rwa [mn]at e'))⟩);clear ht hC h hg Pj hn he;generalize t.KE i=er at*;generalize t.lost i=t' at*;go_in;go_wp2_with fail
 go_region_held3 (fun w'=>w'.cell? ⟨rb,0,none⟩=some (.pointer (some ⟨tb,0,none⟩))/\w'.cell? ⟨gn,on,none⟩=some (.int .i64 i))
  ((refine HS.out _ ?_;first|(with_reducible exact Im)|(with_reducible exact AH _ _)|(with_reducible exact(AH _ _).drew)))
  (first
  |(go_at_call 62;(with_reducible refine(HM.out _ ?ia).mono ?_);(case ia=>first|(with_reducible exact AA)|(with_reducible exact AA.drew));rintro e' w2 ⟨rfl,GA⟩;have H2:=I GA;have Im:=GA.choose_spec.2.1.kept;clear GA)
  |(go_at_call 44;(with_reducible refine(HY.out _).mono ?_);rintro e' w3 ⟨rfl,rfl⟩))
 all_goals
  have Df:=I (cq.out _ H2.out);clear Im;go_wp2;go_ret;exact⟨rfl,Df.out⟩
theorem vN{t:DQ}{L:List Dg}{i:Int}(hC:EA w W F)(h:H6 F W rb tv A c ⟨some t,L⟩)(he:0<=t.KB i/\t.KB i<100){An As:Option Addr}{cn cs ns:Nat}(hn:IW F 0 W 1 1 An [.int .i64 i]):
 Calls prog 18 #[.pointer (some ⟨rb,0,none⟩),.string ⟨#[115,116,111,112]⟩,.slice An 1 cn,.slice As ns cs] W fun e W'=>e=.returned (.string (FF (t.KB i) ⟨#[111,107]⟩))/\Jm w F W rb ⟨some (t.Ey i),L⟩ W':=by
 obtain⟨tb,rfl,ht,hg⟩:=h.Hz;obtain⟨gn,on,rfl,Mm,Pj⟩:=hn.1.addr (by decide);have mn:F gn=0:=hn.2 (by decide) _ rfl;have n0:=Pj 0 (.int .i64 i) rfl;simp only[AW]at n0;have d0:=h.DC.1.cell 0;have lr:=h.DC.1.lt;simp at d0;have HM:=I (show∀W1,Below W.heap.size W W1->Calls prog 63 #[.pointer (some ⟨tb,0,none⟩),.int .i64 i] W1 fun e W'=>e=.returned (.int .i64 (t.KB i))/\J5 w F W tb (t.Ey i) W' from fun W1 hb=>by
  obtain⟨_,_,_,_,k⟩:=ht;exact(lP (k.below hC hb hg.Er) (hC.below hb) hg.Er i).mono fun e W' ⟨q1,q3⟩=>⟨q1,q3.from hC hb⟩)
 have HY:=I (yI he);have cq:=I (fun W2 (k:J5 w F W tb (t.Ey i) W2)=>h.pO hC k (hg.Ey i));have HS:=I (show∀w',Kept (fun k=>Fl (F k)) W w'->(w'.cell? ⟨rb,0,none⟩=some (.pointer (some ⟨tb,0,none⟩))/\w'.cell? ⟨gn,on,none⟩=some (.int .i64 i))from fun w' k=>⟨k.cell d0 (fun e=>NU (by have e':Fl (F rb):=e;rwa [h.DC.2]at e')),k.cell n0 (fun e=>Js (by have e':Fl (F gn):=e;rwa [mn]at e'))⟩);clear ht hC h hg Pj hn he;generalize t.KB i=er at*;generalize t.Ey i=t' at*;go_in;go_wp2_with fail
 go_region_held3 (fun w'=>w'.cell? ⟨rb,0,none⟩=some (.pointer (some ⟨tb,0,none⟩))/\w'.cell? ⟨gn,on,none⟩=some (.int .i64 i))
  ((refine HS.out _ ?_;first|(with_reducible exact Im)|(with_reducible exact AH _ _)|(with_reducible exact(AH _ _).drew)))
  (first
  |(go_at_call 63;(with_reducible refine(HM.out _ ?ia).mono ?_);(case ia=>first|(with_reducible exact AA)|(with_reducible exact AA.drew));rintro e' w2 ⟨rfl,GA⟩;have H2:=I GA;have Im:=GA.choose_spec.2.1.kept;clear GA)
  |(go_at_call 44;(with_reducible refine(HY.out _).mono ?_);rintro e' w3 ⟨rfl,rfl⟩))
 all_goals
  have Df:=I (cq.out _ H2.out);clear Im;go_wp2;go_ret;exact⟨rfl,Df.out⟩
end
structure Gl(w:World):Prop where
 tab:Lib.TabIs prog w "internal/strconv.uint64pow10" .u64 Lib.pow10Tab
 max:∃m,w.cell? ⟨0,0,none⟩=some (.int .i64 m)
 syn:∃ev,w.cell? ⟨8,0,none⟩=some ev/\(ev=.nilIface\/∃te pe,ev=.iface te pe)
 rng:∃ev,w.cell? ⟨9,0,none⟩=some ev/\(ev=.nilIface\/∃te pe,ev=.iface te pe)
theorem lu{w W:World}(h:Lib.TabIs prog w "internal/strconv.uint64pow10" .u64 Lib.pow10Tab)(hb:Below w.heap.size w W):Lib.TabIs prog W "internal/strconv.uint64pow10" .u64 Lib.pow10Tab:=by
 have Mm:Tryz.prog.globalNamed "internal/strconv.uint64pow10" =some 5:=by kernel_rfl
 unfold Lib.TabIs World.var? at h⊢;rw[Mm]at h⊢;simp only[Option.bind_some]at h⊢;have DG:5<w.heap.size:=by
  rcases Ah 5 w.heap.size with h'|h'
  ·exact h'
  ·rw[AUL h']at h;cases h
 rw[hb.block _ DG];exact h
theorem Gl.below{w W:World}(h:Gl w)(hb:Below w.heap.size w W):Gl W:=by
 obtain⟨h1,⟨m,h2⟩,⟨e1,h3,k3⟩,⟨e2,h4,k4⟩⟩:=h;exact⟨lu h1 hb,⟨m,(hb.cell (Cd _ _ h2)).trans h2⟩,⟨e1,(hb.cell (Cd _ _ h3)).trans h3,k3⟩,⟨e2,(hb.cell (Cd _ _ h4)).trans h4,k4⟩⟩
theorem VC{w:World}(k:Nat)(hk:k<9223372036854775808)(G:Gl w):Calls prog 23 #[.int .i64 (k:Int)] w fun e w'=>e=.returned (.string (Fi k))/\Below w.heap.size w w':=by
 have h:=Tryz.strconv_Itoa (k:Int) (by omega) (by omega) w G.tab;refine h.mono ?_;rintro e w' ⟨rfl,j,os,rfl⟩;rw[Lib.itoa_nonneg];refine⟨rfl,⟨rfl,rfl,rfl,?_,fun i hi=>?_⟩⟩
 ·simp[Go.Sort.grow,World.drewN]
 ·simp only[Go.Sort.grow,World.drewN]
  rw[Array.getElem?_append_left hi]
def iA(s:ByteArray)(w:World)(e:Ending)(w':World):Prop:=((∃k,Hw s=some k/\e=.returned (.int .i64 (k:Int)))\/(Hw s=none/\e=Dr 11))/\Below w.heap.size w w'
theorem Yw{w w':World}(h:w'=w\/∃t,w'=Lib.bytesWorld w 5 t):Below w.heap.size w w':=by
 rcases h with rfl|⟨t,rfl⟩
 ·exact AA
 ·exact Lib.bytesWorld_below w _ t
theorem VI{s:ByteArray}(hn:Hw s=none){w:World}(HA:Hid (Calls prog 202 #[.string s] w fun e w'=>(∃(n:Int)(te:TypeId)(pe:Value),e=.returned (.tuple #[.int .i64 n,.iface te pe]))/\Below w.heap.size w w')):
 Calls prog 166 #[.string s] w (iA s w):=by
 have HN:=I hn;clear hn;go_in;go_wp2_with fail
 refine HA.out.mono ?_;rintro e' w1 ⟨⟨n,te,pe,rfl⟩,C6⟩;have HB:=I C6;clear C6;go_wp2_with fail
 refine(Ia 11 _).mono ?_;rintro e' w2 ⟨rfl,rfl⟩;simp only[Dr];go_wp2;exact⟨rfl,.inr ⟨HN.out,rfl⟩,HB.out⟩
theorem gG{s:ByteArray}{n:Int}(hn:Hw s=none)(hs:s.size<=1048576)(hx:n<0\/12<s.size){w:World}(HA:Hid (Calls prog 202 #[.string s] w fun e w'=>e=.returned (.tuple #[.int .i64 n,.nilIface])/\Below w.heap.size w w')):
 Calls prog 166 #[.string s] w (iA s w):=by
 have HN:=I hn;clear hn;by_cases h0:n<0
 ·clear hx
  go_in;go_wp2_with fail
  refine HA.out.mono ?_;rintro e' w1 ⟨rfl,C6⟩;have HB:=I C6;clear C6;go_wp2_with fail
  refine(Ia 11 _).mono ?_;rintro e' w2 ⟨rfl,rfl⟩;simp only[Dr];go_wp2;exact⟨rfl,.inr ⟨HN.out,rfl⟩,HB.out⟩
 ·have h12:(12:Int)<(s.size:Int):=by omega
  have h0':(0:Int)<=n:=by omega
  clear hx;go_in;go_wp2_with fail
  refine HA.out.mono ?_;rintro e' w1 ⟨rfl,C6⟩;have HB:=I C6;clear C6;go_wp2_with fail
  refine(Ia 11 _).mono ?_;rintro e' w2 ⟨rfl,rfl⟩;simp only[Dr];go_wp2;exact⟨rfl,.inr ⟨HN.out,rfl⟩,HB.out⟩
theorem Xi{s:ByteArray}{k:Nat}(hk:k<9223372036854775808)(hs:s.size<=12)(b:Bool)(hb:(s.toList==(Fi k).toList)=b)(hn:Hw s=if b then some k else none){w:World}(G:Gl w)(HA:Hid (Calls prog 202 #[.string s] w fun e w'=>e=.returned (.tuple #[.int .i64 (k:Int),.nilIface])/\Below w.heap.size w w')):
 Calls prog 166 #[.string s] w (iA s w):=by
 have HN:=I hn;have HG:=I G;have HI:=I (fun w' (G':Gl w')=>VC (w:=w') k hk G');have h12:¬(12:Int)<(s.size:Int):=by omega
 have h0:¬(k:Int)<0:=by omega
 clear hn G hk;generalize Fi k=t at*;have C6:(s.toList != t.toList)= !b:=by rw[<-hb];rfl
 cases b with
 |true=>
  go_in;go_wp2_with fail
  refine HA.out.mono ?_;rintro e' w1 ⟨rfl,Ei⟩;have HB:=I Ei;clear Ei;go_wp2_with fail
  refine(HI.out w1 (HG.out.below HB.out)).mono ?_;rintro e' w2 ⟨rfl,Ei⟩;have Nr:=I (Below.C9 HB.out Ei);clear Ei;go_wp2;go_ret;exact⟨.inl ⟨k,HN.out,rfl⟩,Nr.out⟩
 |false=>
  go_in;go_wp2_with fail
  refine HA.out.mono ?_;rintro e' w1 ⟨rfl,Ei⟩;have HB:=I Ei;clear Ei;go_wp2_with fail
  refine(HI.out w1 (HG.out.below HB.out)).mono ?_;rintro e' w2 ⟨rfl,Ei⟩;have Nr:=I (Below.C9 HB.out Ei);clear Ei;go_wp2_with fail
  refine(Ia 11 _).mono ?_;rintro e' w2 ⟨rfl,rfl⟩;simp only[Dr];go_wp2;exact⟨rfl,.inr ⟨HN.out,rfl⟩,Nr.out⟩
theorem dO(a b:ByteArray):(a.toList==b.toList)=true↔a=b:=by
 rw[CF];constructor
 ·intro h
  rw[CD,CD]at h;apply CC;apply ASZ;exact h
 ·rintro rfl;rfl
theorem Su{s:ByteArray}(hs:s.size<=1048576){w:World}(G:Gl w):Calls prog 166 #[.string s] w (iA s w):=by
 have hl:s.data.toList.length=s.size:=by rw[At];rfl
 have nT:∀k,Hw s=some k->Lib.atoiAll s.data.toList=.ok (k:Int):=fun k hk=>by
  obtain⟨h1,h2,h3,h4⟩:=Kc hk;rw[Lib.atoiAll_short _ (by omega),cY h3];rfl
 cases ha:Lib.atoiAll s.data.toList;case range=>
  have hn:Hw s=none:=by
   cases h:Hw s with
   |none=>rfl
   |some k=>rw[nT k h]at ha;cases ha
  obtain⟨ev,h1,h2⟩:=G.rng;refine VI hn (I ((Tryz.strconv_Atoi_range s (by omega) ha ev w h1 h2).mono ?_));rintro e w' ⟨N,rfl,-,-,hb⟩;exact⟨⟨_,_,_,rfl⟩,hb⟩
 case ok v=>
  have HA:=I ((Tryz.strconv_Atoi_ok s (by omega) v ha w).mono fun e w' ⟨h1,h2⟩=>(show e=Ending.returned (.tuple #[.int .i64 v,.nilIface])/\Below w.heap.size w w' from⟨h1,Yw h2⟩));by_cases hx:v<0\/12<s.size
  ·have hn:Hw s=none:=by
    cases h:Hw s with
    |none=>rfl
    |some k=>
     have:=nT k h;rw[ha]at this;injection this with this
     have:=(Kc h).1;omega
   exact gG hn hs hx HA
  ·obtain⟨k,rfl⟩:∃k:Nat,v=(k:Int):=⟨v.toNat,by omega⟩
   have XD:Lib.atoi s.data.toList=some (k:Int):=by
    rw[Lib.atoiAll_short _ (by omega)]at ha;cases h:Lib.atoi s.data.toList with
    |none=>rw[h]at ha;cases ha
    |some j=>rw[h]at ha;injection ha with ha;rw[ha]
   have hk:k<9223372036854775808:=by
    have:=wL XD;have h2:10^s.data.toList.length<=10^12:=Ax (by decide) (by omega);omega
   cases hb:(s.toList==(Fi k).toList)with
   |true=>
    have e:=(dO _ _).1 hb;refine Xi hk (by omega) true hb ?_ G HA;rw[AD rfl];unfold Hw;rw[AD (by omega),e,jo,ff];simp
   |false=>
    refine Xi hk (by omega) false hb ?_ G HA;rw[AC (by decide)];cases h:Hw s with
    |none=>rfl
    |some j=>
     obtain⟨h1,h2,h3,h4⟩:=Kc h;rw[cY h3]at XD;injection XD with XD
     have e:j=k:=by omega
     subst e;rw[h2]at hb;simp at hb
 have hn:Hw s=none:=by
  cases h:Hw s with
  |none=>rfl
  |some k=>rw[nT k h]at ha;cases ha
 obtain⟨ev,h1,h2⟩:=G.syn;refine VI hn (I ((Go.Proofs.Any.strconv_Atoi_syntax Tryz.VN s (by omega) ha ev w h1 h2).mono ?_));rintro e w' ⟨N,rfl,-,-,hb⟩;exact⟨⟨_,_,_,rfl⟩,hb⟩
