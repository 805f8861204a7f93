/- The desk: what a line as -/
import Derived.Test.YthiplgekjgffkaaGreatDoorM52
set_option maxRecDepth 100000
set_option maxHeartbeats 99000000
set_option linter.all false
namespace Go.Proofs.YthiplgekjgffkaaGreatDoor
open Go.Proofs.Tryz
open Go.RowKit Go.Lib
section
variable{w W:World}{F:Nat->Nat}{db c cn wb:Nat}{A An:Option Addr}{tv:Value}{s:Ek}{r:List ByteArray}{x0:ByteArray}
theorem MT(hC:EA w W F)(h:FN F W db tv An cn s)(hs:Ml s){W1:World}(hb:Below W.heap.size W W1)(J3:W.heap.size<=wb):
 (∀(hw:WF w W1 wb A c ⟨#[97,115,107]⟩ r [78,83] 0 Jz),Calls prog 30 #[.pointer (some ⟨db,0,none⟩),.string ⟨#[97,115,107]⟩,.pointer (some ⟨wb,0,none⟩)] W1 (OA w F db wb A c ⟨#[97,115,107]⟩ r [78,83] (Dl [78,83] r Jz=none) (fun st a=>∃(i:Nat),∃(id:ByteArray),st=⟨[i],[],[id],[]⟩/\a=s.EG (Ti i id)) W1))/\
 (∀(hw:WF w W1 wb A c ⟨#[106,111,105,110]⟩ r [78,83,78] 0 Jz),Calls prog 30 #[.pointer (some ⟨db,0,none⟩),.string ⟨#[106,111,105,110]⟩,.pointer (some ⟨wb,0,none⟩)] W1 (OA w F db wb A c ⟨#[106,111,105,110]⟩ r [78,83,78] (Dl [78,83,78] r Jz=none) (fun st a=>∃(i th:Nat),∃(id:ByteArray),st=⟨[i,th],[],[id],[]⟩/\a=s.EG (Nd i id th)) W1))/\
 (∀(hw:WF w W1 wb A c ⟨#[119,97,121]⟩ r [] 0 Jz),Calls prog 30 #[.pointer (some ⟨db,0,none⟩),.string ⟨#[119,97,121]⟩,.pointer (some ⟨wb,0,none⟩)] W1 (OA w F db wb A c ⟨#[119,97,121]⟩ r [] (Dl [] r Jz=none) (fun st a=>st=⟨[],[],[],[]⟩/\a=s.EG Zk) W1))/\
 (∀(hw:WF w W1 wb A c ⟨#[115,116,97,114,116]⟩ r [] 0 Jz),Calls prog 30 #[.pointer (some ⟨db,0,none⟩),.string ⟨#[115,116,97,114,116]⟩,.pointer (some ⟨wb,0,none⟩)] W1 (OA w F db wb A c ⟨#[115,116,97,114,116]⟩ r [] (Dl [] r Jz=none) (fun st a=>st=⟨[],[],[],[]⟩/\a=s.P3) W1))/\
 (∀(hw:WF w W1 wb A c ⟨#[110,111,100,101]⟩ r [83,78,78,78] 0 Jz),Calls prog 30 #[.pointer (some ⟨db,0,none⟩),.string ⟨#[110,111,100,101]⟩,.pointer (some ⟨wb,0,none⟩)] W1 (OA w F db wb A c ⟨#[110,111,100,101]⟩ r [83,78,78,78] (Dl [83,78,78,78] r Jz=none) (fun st a=>∃(ev ca le:Nat),∃(id:ByteArray),st=⟨[ev,ca,le],[],[id],[]⟩/\a=s.Ux (id,0,ev,ca,le)) W1)):=by
 refine⟨fun hw=>?_,fun hw=>?_,fun hw=>?_,fun hw=>?_,fun hw=>?_⟩;all_goals
  have HC:=I hC;have HD:=I h;have HG:=I hs;have HB:=I hb;have B0:=I (show Bx (W1.alloc (.cells #[.pointer (some ⟨db,0,none⟩)] 37)) wb W1.heap.size 37 #[.pointer (some ⟨db,0,none⟩)]from⟨DJ.new _ _ _,fun e=>by have:=hw.at_.Nu.lt;omega⟩);have ZL:=I J3;have YE:=I hw.at_.Nu.lt;have D1:=I (hw.below (AA.alloc AB (.cells #[.pointer (some ⟨db,0,none⟩)] 37)));have K1:=I ((AH (fun x=>x=wb) W1).alloc (.cells #[.pointer (some ⟨db,0,none⟩)] 37));clear hC h hs hb hw J3;go_in
 ·go_wp2_with fail
  refine(UO D1.out rfl).mono ?_;rintro e' w2 ⟨Et,⟨v,st,rfl,⟨i,rfl,-,rfl⟩,GV⟩|⟨rfl,hp⟩⟩
  rotate_left
  ·have Df:=I (K1.out.trans Et)
   have HP:=I hp;clear Et hp;simp only[Dr];go_wp2;exact⟨rfl,Df.out,.inl ⟨rfl,HP.out⟩⟩
  have K2:=I (K1.out.trans Et);have B1:=I (B0.out.kept Et);have D2:=I GV;clear Et GV;go_wp2_with fail
  refine(sP D2.out rfl).mono ?_;rintro e' w3 ⟨IG,⟨v,st,rfl,⟨id,rfl,AHk,rfl⟩,Wn⟩|⟨rfl,hp⟩⟩
  rotate_left
  ·have Df:=I (K2.out.trans IG)
   have HP:=I hp;clear IG hp;simp only[Dr];go_wp2;exact⟨rfl,Df.out,.inl ⟨rfl,HP.out⟩⟩
  have K3:=I (K2.out.trans IG);have B2:=I (B1.out.kept IG);have D3:=I Wn;clear IG Wn;go_wp2;go_ret;have Wa:=I (AH (fun x=>x=wb) w3);have U5:=I (Wa.out.alloc (.cells #[.int .i64 i] 3));have Rh:=I (show Bx (w3.alloc (.cells #[.int .i64 i] 3)) wb (w3.heap.size) 3 #[.int .i64 i]from⟨by have:=DJ.new w3 3 #[.int .i64 i];simpa using this,fun e=>by have:=D3.out.at_.Nu.lt;omega⟩);have pL:=I (U5.out.alloc (.cells #[.string id] 9));have sn:=I (show Bx ((w3.alloc (.cells #[.int .i64 i] 3)).alloc (.cells #[.string id] 9)) wb (w3.heap.size+1) 9 #[.string id]from⟨by have:=DJ.new (w3.alloc (.cells #[.int .i64 i] 3)) 9 #[.string id];simpa using this,fun e=>by have:=D3.out.at_.Nu.lt;omega⟩)
  have Rh:=I (Rh.out.kept ((AH (fun x=>x=wb) _).alloc (.cells #[.string id] 9)));have KA:=I (K3.out.trans pL.out);have S6:=I (B2.out.kept pL.out);have DA:=I (D3.out.below (show Below w3.heap.size w3 ((w3.alloc (.cells #[.int .i64 i] 3)).alloc (.cells #[.string id] 9))from by refine Below.O5 ?_;refine Below.O5 ?_;exact AA));refine⟨KA.out,.inr ⟨_,_,_,rfl,DA.out,fun W3 DT=>?_⟩⟩;have NA:Below W.heap.size W W3:=(HB.out.trans (KA.out.below (B:=W.heap.size) (fun k e=>by rw[e];exact ZL.out) HB.out.size)).trans (DT.mono (AG HB.out.size KA.out.size));have SV:=HC.out.below NA;have YA:=HD.out.below HC.out NA;have FO:=S6.out.box HC.out HB.out.size DT
  have ct:=Rh.out.box HC.out (AG HB.out.size K3.out.size) DT;have hp2:=sn.out.box HC.out (AG (AG HB.out.size K3.out.size) (ATh _ _)) DT;refine⟨BH func126 (by kernel_rfl) rfl,?_⟩;exact(vp DA.out.gl SV YA HG.out FO ct hp2).mono fun e W4 x=>⟨_,⟨i,id,rfl,rfl⟩,LK _ (fun t=>gJ t _ _),x⟩
 ·go_wp2_with fail
  refine(UO D1.out rfl).mono ?_;rintro e' w2 ⟨Et,⟨v,st,rfl,⟨i,rfl,-,rfl⟩,GV⟩|⟨rfl,hp⟩⟩
  rotate_left
  ·have Df:=I (K1.out.trans Et)
   have HP:=I hp;clear Et hp;simp only[Dr];go_wp2;exact⟨rfl,Df.out,.inl ⟨rfl,HP.out⟩⟩
  have K2:=I (K1.out.trans Et);have B1:=I (B0.out.kept Et);have D2:=I GV;clear Et GV;go_wp2_with fail
  refine(sP D2.out rfl).mono ?_;rintro e' w3 ⟨IG,⟨v,st,rfl,⟨id,rfl,AHk,rfl⟩,Wn⟩|⟨rfl,hp⟩⟩
  rotate_left
  ·have Df:=I (K2.out.trans IG)
   have HP:=I hp;clear IG hp;simp only[Dr];go_wp2;exact⟨rfl,Df.out,.inl ⟨rfl,HP.out⟩⟩
  have K3:=I (K2.out.trans IG);have B2:=I (B1.out.kept IG);have D3:=I Wn;clear IG Wn;go_wp2_with fail
  refine(UO D3.out rfl).mono ?_;rintro e' w4 ⟨LZ,⟨v,st,rfl,⟨th,rfl,-,rfl⟩,yC⟩|⟨rfl,hp⟩⟩
  rotate_left
  ·have Df:=I (K3.out.trans LZ)
   have HP:=I hp;clear LZ hp;simp only[Dr];go_wp2;exact⟨rfl,Df.out,.inl ⟨rfl,HP.out⟩⟩
  have K4:=I (K3.out.trans LZ);have B3:=I (B2.out.kept LZ);have D4:=I yC;clear LZ yC;go_wp2;go_ret;have Wa:=I (AH (fun x=>x=wb) w4);have U5:=I (Wa.out.alloc (.cells #[.int .i64 i] 3));have Rh:=I (show Bx (w4.alloc (.cells #[.int .i64 i] 3)) wb (w4.heap.size) 3 #[.int .i64 i]from⟨by have:=DJ.new w4 3 #[.int .i64 i];simpa using this,fun e=>by have:=D4.out.at_.Nu.lt;omega⟩);have pL:=I (U5.out.alloc (.cells #[.string id] 9));have sn:=I (show Bx ((w4.alloc (.cells #[.int .i64 i] 3)).alloc (.cells #[.string id] 9)) wb (w4.heap.size+1) 9 #[.string id]from⟨by have:=DJ.new (w4.alloc (.cells #[.int .i64 i] 3)) 9 #[.string id];simpa using this,fun e=>by have:=D4.out.at_.Nu.lt;omega⟩)
  have Rh:=I (Rh.out.kept ((AH (fun x=>x=wb) _).alloc (.cells #[.string id] 9)));have KA3:=I (pL.out.alloc (.cells #[.int .i64 th] 3));have BB3:=I (show Bx (((w4.alloc (.cells #[.int .i64 i] 3)).alloc (.cells #[.string id] 9)).alloc (.cells #[.int .i64 th] 3)) wb (w4.heap.size+2) 3 #[.int .i64 th]from⟨by have:=DJ.new ((w4.alloc (.cells #[.int .i64 i] 3)).alloc (.cells #[.string id] 9)) 3 #[.int .i64 th];simpa using this,fun e=>by have:=D4.out.at_.Nu.lt;omega⟩);have Rh:=I (Rh.out.kept ((AH (fun x=>x=wb) _).alloc (.cells #[.int .i64 th] 3)));have sn:=I (sn.out.kept ((AH (fun x=>x=wb) _).alloc (.cells #[.int .i64 th] 3)));have KA:=I (K4.out.trans KA3.out)
  have S6:=I (B3.out.kept KA3.out);have DA:=I (D4.out.below (show Below w4.heap.size w4 (((w4.alloc (.cells #[.int .i64 i] 3)).alloc (.cells #[.string id] 9)).alloc (.cells #[.int .i64 th] 3))from by refine Below.O5 ?_;refine Below.O5 ?_;refine Below.O5 ?_;exact AA));refine⟨KA.out,.inr ⟨_,_,_,rfl,DA.out,fun W3 DT=>?_⟩⟩;have NA:Below W.heap.size W W3:=(HB.out.trans (KA.out.below (B:=W.heap.size) (fun k e=>by rw[e];exact ZL.out) HB.out.size)).trans (DT.mono (AG HB.out.size KA.out.size));have SV:=HC.out.below NA;have YA:=HD.out.below HC.out NA;have FO:=S6.out.box HC.out HB.out.size DT;have ct:=Rh.out.box HC.out (AG HB.out.size K4.out.size) DT;have hp2:=sn.out.box HC.out (AG (AG HB.out.size K4.out.size) (ATh _ _)) DT
  have UG:=BB3.out.box HC.out (AG (AG HB.out.size K4.out.size) (ATh _ _)) DT;refine⟨BH func128 (by kernel_rfl) rfl,?_⟩;exact(rI DA.out.gl SV YA HG.out FO ct hp2 UG).mono fun e W4 x=>⟨_,⟨i,th,id,rfl,rfl⟩,LK _ (fun t=>UU t _ _ _),x⟩
 ·go_wp2
  go_ret;have KA:=I K1.out;have S6:=I B0.out;have DA:=I D1.out;refine⟨KA.out,.inr ⟨_,_,_,rfl,DA.out,fun W3 DT=>?_⟩⟩;have NA:Below W.heap.size W W3:=(HB.out.trans (KA.out.below (B:=W.heap.size) (fun k e=>by rw[e];exact ZL.out) HB.out.size)).trans (DT.mono (AG HB.out.size KA.out.size));have SV:=HC.out.below NA;have YA:=HD.out.below HC.out NA;have FO:=S6.out.box HC.out HB.out.size DT;refine⟨BH func114 (by kernel_rfl) rfl,?_⟩;exact(ud DA.out.gl SV YA HG.out FO).mono fun e W4 x=>⟨_,⟨rfl,rfl⟩,LK _ (fun t=>(by decide:(0:Int)<=0/\(0:Int)<100)),x⟩
 ·go_wp2
  go_ret;have KA:=I K1.out;have S6:=I B0.out;have DA:=I D1.out;refine⟨KA.out,.inr ⟨_,_,_,rfl,DA.out,fun W3 DT=>?_⟩⟩;have NA:Below W.heap.size W W3:=(HB.out.trans (KA.out.below (B:=W.heap.size) (fun k e=>by rw[e];exact ZL.out) HB.out.size)).trans (DT.mono (AG HB.out.size KA.out.size));have SV:=HC.out.below NA;have YA:=HD.out.below HC.out NA;have FO:=S6.out.box HC.out HB.out.size DT;refine⟨BH func113 (by kernel_rfl) rfl,?_⟩;exact(eT SV FO YA).mono fun e W4 x=>⟨_,⟨rfl,rfl⟩,XT s,x⟩
 ·go_wp2_with fail
  refine(sP D1.out rfl).mono ?_;rintro e' w2 ⟨Et,⟨v,st,rfl,⟨id,rfl,AL1,rfl⟩,GV⟩|⟨rfl,hp⟩⟩
  rotate_left
  ·have Df:=I (K1.out.trans Et)
   have HP:=I hp;clear Et hp;simp only[Dr];go_wp2;exact⟨rfl,Df.out,.inl ⟨rfl,HP.out⟩⟩
  have K2:=I (K1.out.trans Et);have B1:=I (B0.out.kept Et);have D2:=I GV;clear Et GV;go_wp2_with fail
  refine(UO D2.out rfl).mono ?_;rintro e' w3 ⟨IG,⟨v,st,rfl,⟨ev,rfl,-,rfl⟩,Wn⟩|⟨rfl,hp⟩⟩
  rotate_left
  ·have Df:=I (K2.out.trans IG)
   have HP:=I hp;clear IG hp;simp only[Dr];go_wp2;exact⟨rfl,Df.out,.inl ⟨rfl,HP.out⟩⟩
  have K3:=I (K2.out.trans IG);have B2:=I (B1.out.kept IG);have D3:=I Wn;clear IG Wn;go_wp2_with fail
  refine(UO D3.out rfl).mono ?_;rintro e' w4 ⟨LZ,⟨v,st,rfl,⟨ca,rfl,-,rfl⟩,yC⟩|⟨rfl,hp⟩⟩
  rotate_left
  ·have Df:=I (K3.out.trans LZ)
   have HP:=I hp;clear LZ hp;simp only[Dr];go_wp2;exact⟨rfl,Df.out,.inl ⟨rfl,HP.out⟩⟩
  have K4:=I (K3.out.trans LZ);have B3:=I (B2.out.kept LZ);have D4:=I yC;clear LZ yC;go_wp2_with fail
  refine(UO D4.out rfl).mono ?_;rintro e' w5 ⟨NV,⟨v,st,rfl,⟨le,rfl,-,rfl⟩,hd5⟩|⟨rfl,hp⟩⟩
  rotate_left
  ·have Df:=I (K4.out.trans NV)
   have HP:=I hp;clear NV hp;simp only[Dr];go_wp2;exact⟨rfl,Df.out,.inl ⟨rfl,HP.out⟩⟩
  have K5:=I (K4.out.trans NV);have B4:=I (B3.out.kept NV);have D5:=I hd5;clear NV hd5;go_wp2;go_ret;have Wa:=I (AH (fun x=>x=wb) w5);have U5:=I (Wa.out.alloc (.cells #[.string id,.int .i64 0,.int .i64 ev,.int .i64 ca,.int .i64 le] 108));have Rh:=I (show Bx (w5.alloc (.cells #[.string id,.int .i64 0,.int .i64 ev,.int .i64 ca,.int .i64 le] 108)) wb (w5.heap.size) 108 #[.string id,.int .i64 0,.int .i64 ev,.int .i64 ca,.int .i64 le]from⟨by have:=DJ.new w5 108 #[.string id,.int .i64 0,.int .i64 ev,.int .i64 ca,.int .i64 le];simpa using this,fun e=>by have:=D5.out.at_.Nu.lt;omega⟩);have KA:=I (K5.out.trans U5.out);have S6:=I (B4.out.kept U5.out)
  have DA:=I (D5.out.below (show Below w5.heap.size w5 (w5.alloc (.cells #[.string id,.int .i64 0,.int .i64 ev,.int .i64 ca,.int .i64 le] 108))from by refine Below.O5 ?_;exact AA));refine⟨KA.out,.inr ⟨_,_,_,rfl,DA.out,fun W3 DT=>?_⟩⟩;have NA:Below W.heap.size W W3:=(HB.out.trans (KA.out.below (B:=W.heap.size) (fun k e=>by rw[e];exact ZL.out) HB.out.size)).trans (DT.mono (AG HB.out.size KA.out.size));have SV:=HC.out.below NA;have YA:=HD.out.below HC.out NA;have FO:=S6.out.box HC.out HB.out.size DT;have ct:=Rh.out.box HC.out (AG HB.out.size K5.out.size) DT;refine⟨BH func111 (by kernel_rfl) rfl,?_⟩;exact(jh (x:=(id,0,ev,ca,le)) SV FO ct (show id.size<=maxLen by unfold maxLen;omega) YA).mono fun e W4 x=>⟨_,⟨ev,ca,le,id,rfl,rfl⟩,bJ s _,x⟩
end
def lI(l:List Nat):List Int:=l.map fun(n:Nat)=>(n:Int)
theorem J2(l:List Nat):(lI l).length=l.length:=Ak ..
theorem cI(l:List Nat):DF (lI l)=ET l:=by simp[DF,lI,ET]
def nR(wd:ByteArray)(s:Ek)(st:Np)(a:mq):Prop:=∃l ns f,st=⟨ns,l,[],[]⟩/\1<=l.length/\VQ wd (lI l) ns f a.1 a.2.1/\a.2.2=s
def Yb(W:World)(wb:Nat)(Al:Option Addr)(l:List Nat):Prop:=Reads W W.heap.size 1 Al l.length (ET l)/\∀a,Al=some a->a.block≠wb
theorem Yb.kept{W W':World}{wb:Nat}{Al:Option Addr}{l:List Nat}(h:Yb W wb Al l)(hk:Kept (fun x=>x=wb) W W'):Yb W' wb Al l:=⟨(hk.reads h.1 (fun _ a ha=>h.2 a ha)).more hk.size,h.2⟩
theorem Yb.of{W W0:World}{wb cl:Nat}{Al:Option Addr}{l:List Nat}(h:W.ownsRow W0.heap.size 3 1 (.slice Al l.length cl) l.length (ET l))(hw:wb<W0.heap.size):Yb W wb Al l:=⟨Reads.DR h,fun a ha e=>by
 subst ha;have:=(h.lt a.block rfl).1;omega⟩
theorem Yh{w W3:World}{F:Nat->Nat}{db cn pl cl wb:Nat}{ps ns:List Nat}{An Al:Option Addr}{tv:Value}{s:Ek}{l:List Nat}{wd:ByteArray}{f:FuncId}(G:Gl w)(hC:EA w W3 F)(hD:FN F W3 db tv An cn s)(hr:Yb W3 wb Al l)(hc:l.length<=cl/\cl<=maxLen)(hl:DJ W3 pl 53 #[.slice Al l.length cl])(hb:eX W3 ps ns)(h1:1<=l.length)(hv:∃er out,VQ wd (lI l) ns f er out):
 Calls prog f (iQ pl ps) W3 fun e W4=>∃a:mq,nR wd s ⟨ns,l,[],[]⟩ a/\(0<=a.1/\a.1<100)/\Pk w F W3 db a e W4:=by
 obtain⟨er,out,hv⟩:=hv;have h:=hv.pro W3 Al cl pl ps (G.below hC.DI) (by rw[J2,cI];exact hr.1) (by rw[J2];exact hc) (by rw[J2];exact hl) hb;exact h.mono fun e W4 ⟨q1,q2⟩=>⟨(er,out,s),⟨l,ns,f,rfl,h1,hv,rfl⟩,hv.bd,q1,(hD.Tg hC).more q2⟩
section
variable{w W:World}{F:Nat->Nat}{db c cn wb:Nat}{A An:Option Addr}{tv:Value}{s:Ek}{r:List ByteArray}
theorem rJ{x:ByteArray}(hx:x=⟨#[115,117,109,115]⟩\/x=⟨#[109,101,97,110]⟩\/x=⟨#[115,112,114,101,97,100]⟩)(hC:EA w W F)(h:FN F W db tv An cn s){W1:World}(hb:Below W.heap.size W W1)(J3:W.heap.size<=wb)(hw:WF w W1 wb A c x r [76] 0 Jz):
 Calls prog 29 #[.string x,.pointer (some ⟨wb,0,none⟩)] W1 (OA w F db wb A c x r [76] (Dl [76] r Jz=none) (nR x s) W1):=by
 rcases hx with rfl|rfl|rfl;all_goals
  have HC:=I hC;have HD:=I h;have HB:=I hb;have ZL:=I J3;have YE:=I hw.at_.Nu.lt;have D1:=I hw;clear hC h hb hw J3;go_in;go_wp2_with fail
  refine(rZ D1.out rfl).mono ?_;rintro e' w2 ⟨Et,⟨v,st,rfl,⟨l,ho,NK,I4,-,rfl⟩,GV⟩|⟨rfl,hp⟩⟩
  rotate_left
  ·have Df:=I Et
   have HP:=I hp;clear Et hp;simp only[Dr];go_wp2;exact⟨rfl,Df.out,.inl ⟨rfl,HP.out⟩⟩
  obtain⟨Al,cl,rfl⟩:=Cz ho;have CAP:=I (Ec ho);have R2:=I ((Yb.of ho YE.out).kept ((AH _ w2).alloc (.cells #[.slice Al l.length cl] 53)));have K2:=I (Et.alloc (.cells #[.slice Al l.length cl] 53));have B2:=I (show Bx (w2.alloc (.cells #[.slice Al l.length cl] 53)) wb w2.heap.size 53 #[.slice Al l.length cl]from⟨DJ.new _ _ _,fun e=>by have:=GV.at_.Nu.lt;omega⟩);have D2:=I (GV.below (AA.alloc AB (.cells #[.slice Al l.length cl] 53)));have WP:w2.heap.size<=(w2.alloc (.cells #[.slice Al l.length cl] 53)).heap.size:=by simp
  obtain⟨pl,oM⟩:∃pl,pl=w2.heap.size:=⟨_,rfl⟩;have mc:=I (show W.heap.size<=pl from by rw[oM];exact AG HB.out.size Et.size);clear Et ho GV;go_wp2;go_ret;have Wa:=I (AH (fun x=>x=wb) (w2.alloc (.cells #[.slice Al l.length cl] 53)));have KA:=I (K2.out.trans Wa.out);have S6:=I (B2.out.kept Wa.out);have RA:=I (R2.out.kept Wa.out);have DA:=I (D2.out.below (show Below (w2.alloc (.cells #[.slice Al l.length cl] 53)).heap.size (w2.alloc (.cells #[.slice Al l.length cl] 53)) (w2.alloc (.cells #[.slice Al l.length cl] 53))from by exact AA));refine⟨KA.out,.inr ⟨_,_,_,rfl,DA.out,fun W3 DT=>?_⟩⟩;have NA:Below W.heap.size W W3:=(HB.out.trans (KA.out.below (B:=W.heap.size) (fun k e=>by rw[e];exact ZL.out) HB.out.size)).trans (DT.mono (AG HB.out.size KA.out.size))
  first
   |refine⟨BH func92 (by kernel_rfl) rfl,?_⟩
   |refine⟨BH func95 (by kernel_rfl) rfl,?_⟩
   |refine⟨BH func97 (by kernel_rfl) rfl,?_⟩
  have q1:1<=(lI l).length:=by rw[J2];exact NK
  have q2:(lI l).length<=65537:=by rw[J2];exact I4
  refine Yh (pl:=w2.heap.size) (ps:=[]) (ns:=[]) DA.out.gl (HC.out.below NA) (HD.out.below HC.out NA) (RA.out.kept (.DU DT)) CAP.out (S6.out.1.below DT S6.out.1.lt) trivial NK ?_;first|exact uB q1 q2|exact xC q1 q2|exact lf q1 q2
theorem xd{x:ByteArray}(hx:x=⟨#[99,97,110,116,101,108,108,105]⟩\/x=⟨#[102,97,100,101]⟩)(hC:EA w W F)(h:FN F W db tv An cn s){W1:World}(hb:Below W.heap.size W W1)(J3:W.heap.size<=wb)(hw:WF w W1 wb A c x r [76,78] 0 Jz):
 Calls prog 29 #[.string x,.pointer (some ⟨wb,0,none⟩)] W1 (OA w F db wb A c x r [76,78] (Dl [76,78] r Jz=none) (nR x s) W1):=by
 rcases hx with rfl|rfl;all_goals
  have HC:=I hC;have HD:=I h;have HB:=I hb;have ZL:=I J3;have YE:=I hw.at_.Nu.lt;have D1:=I hw;clear hC h hb hw J3;go_in;go_wp2_with fail
  refine(rZ D1.out rfl).mono ?_;rintro e' w2 ⟨Et,⟨v,st,rfl,⟨l,ho,NK,I4,-,rfl⟩,GV⟩|⟨rfl,hp⟩⟩
  rotate_left
  ·have Df:=I Et
   have HP:=I hp;clear Et hp;simp only[Dr];go_wp2;exact⟨rfl,Df.out,.inl ⟨rfl,HP.out⟩⟩
  obtain⟨Al,cl,rfl⟩:=Cz ho;have CAP:=I (Ec ho);have R2:=I ((Yb.of ho YE.out).kept ((AH _ w2).alloc (.cells #[.slice Al l.length cl] 53)));have K2:=I (Et.alloc (.cells #[.slice Al l.length cl] 53));have B2:=I (show Bx (w2.alloc (.cells #[.slice Al l.length cl] 53)) wb w2.heap.size 53 #[.slice Al l.length cl]from⟨DJ.new _ _ _,fun e=>by have:=GV.at_.Nu.lt;omega⟩);have D2:=I (GV.below (AA.alloc AB (.cells #[.slice Al l.length cl] 53)));have WP:w2.heap.size<=(w2.alloc (.cells #[.slice Al l.length cl] 53)).heap.size:=by simp
  obtain⟨pl,oM⟩:∃pl,pl=w2.heap.size:=⟨_,rfl⟩;have mc:=I (show W.heap.size<=pl from by rw[oM];exact AG HB.out.size Et.size);clear Et ho GV;go_wp2_with fail
  refine(UO D2.out rfl).mono ?_;rintro e' w3 ⟨IG,⟨v,st,rfl,⟨a,rfl,-,rfl⟩,Wn⟩|⟨rfl,hp⟩⟩
  rotate_left
  ·have Df:=I (K2.out.trans IG)
   have HP:=I hp;clear IG hp;simp only[Dr];go_wp2;exact⟨rfl,Df.out,.inl ⟨rfl,HP.out⟩⟩
  have K3:=I (K2.out.trans IG);have B3:=I (B2.out.kept IG);have R3:=I (R2.out.kept IG);have D3:=I Wn;clear IG Wn;go_wp2;go_ret;have Wa:=I (AH (fun x=>x=wb) w3);have U5:=I (Wa.out.alloc (.cells #[.int .i64 a] 3));have Rh:=I (show Bx (w3.alloc (.cells #[.int .i64 a] 3)) wb (w3.heap.size) 3 #[.int .i64 a]from⟨by have:=DJ.new w3 3 #[.int .i64 a];simpa using this,fun e=>by have:=D3.out.at_.Nu.lt;omega⟩);have KA:=I (K3.out.trans U5.out);have S6:=I (B3.out.kept U5.out);have RA:=I (R3.out.kept U5.out);have DA:=I (D3.out.below (show Below w3.heap.size w3 (w3.alloc (.cells #[.int .i64 a] 3))from by refine Below.O5 ?_;exact AA))
  refine⟨KA.out,.inr ⟨_,_,_,rfl,DA.out,fun W3 DT=>?_⟩⟩;have NA:Below W.heap.size W W3:=(HB.out.trans (KA.out.below (B:=W.heap.size) (fun k e=>by rw[e];exact ZL.out) HB.out.size)).trans (DT.mono (AG HB.out.size KA.out.size));first
   |refine⟨BH func102 (by kernel_rfl) rfl,?_⟩
   |refine⟨BH func104 (by kernel_rfl) rfl,?_⟩
  have q1:1<=(lI l).length:=by rw[J2];exact NK
  have q2:(lI l).length<=65537:=by rw[J2];exact I4
  refine Yh (pl:=w2.heap.size) (ps:=[w3.heap.size]) (ns:=[a]) DA.out.gl (HC.out.below NA) (HD.out.below HC.out NA) (RA.out.kept (.DU DT)) CAP.out (S6.out.1.below DT S6.out.1.lt) ⟨Rh.out.1.below DT Rh.out.1.lt,trivial⟩ NK ?_;first|exact wl q1 q2 a|exact vD q1 q2 a
theorem om{x:ByteArray}(hx:x=⟨#[114,97,110,107]⟩\/x=⟨#[108,101,118,101,108]⟩\/x=⟨#[119,104,101,110]⟩)(hC:EA w W F)(h:FN F W db tv An cn s){W1:World}(hb:Below W.heap.size W W1)(J3:W.heap.size<=wb)(hw:WF w W1 wb A c x r [76,78,78] 0 Jz):
 Calls prog 29 #[.string x,.pointer (some ⟨wb,0,none⟩)] W1 (OA w F db wb A c x r [76,78,78] (Dl [76,78,78] r Jz=none) (nR x s) W1):=by
 rcases hx with rfl|rfl|rfl;all_goals
  have HC:=I hC;have HD:=I h;have HB:=I hb;have ZL:=I J3;have YE:=I hw.at_.Nu.lt;have D1:=I hw;clear hC h hb hw J3;go_in;go_wp2_with fail
  refine(rZ D1.out rfl).mono ?_;rintro e' w2 ⟨Et,⟨v,st,rfl,⟨l,ho,NK,I4,-,rfl⟩,GV⟩|⟨rfl,hp⟩⟩
  rotate_left
  ·have Df:=I Et
   have HP:=I hp;clear Et hp;simp only[Dr];go_wp2;exact⟨rfl,Df.out,.inl ⟨rfl,HP.out⟩⟩
  obtain⟨Al,cl,rfl⟩:=Cz ho;have CAP:=I (Ec ho);have R2:=I ((Yb.of ho YE.out).kept ((AH _ w2).alloc (.cells #[.slice Al l.length cl] 53)));have K2:=I (Et.alloc (.cells #[.slice Al l.length cl] 53));have B2:=I (show Bx (w2.alloc (.cells #[.slice Al l.length cl] 53)) wb w2.heap.size 53 #[.slice Al l.length cl]from⟨DJ.new _ _ _,fun e=>by have:=GV.at_.Nu.lt;omega⟩);have D2:=I (GV.below (AA.alloc AB (.cells #[.slice Al l.length cl] 53)));have WP:w2.heap.size<=(w2.alloc (.cells #[.slice Al l.length cl] 53)).heap.size:=by simp
  obtain⟨pl,oM⟩:∃pl,pl=w2.heap.size:=⟨_,rfl⟩;have mc:=I (show W.heap.size<=pl from by rw[oM];exact AG HB.out.size Et.size);clear Et ho GV;go_wp2_with fail
  refine(UO D2.out rfl).mono ?_;rintro e' w3 ⟨IG,⟨v,st,rfl,⟨a,rfl,-,rfl⟩,Wn⟩|⟨rfl,hp⟩⟩
  rotate_left
  ·have Df:=I (K2.out.trans IG)
   have HP:=I hp;clear IG hp;simp only[Dr];go_wp2;exact⟨rfl,Df.out,.inl ⟨rfl,HP.out⟩⟩
  have K3:=I (K2.out.trans IG);have B3:=I (B2.out.kept IG);have R3:=I (R2.out.kept IG);have D3:=I Wn;clear IG Wn;go_wp2_with fail
  refine(UO D3.out rfl).mono ?_;rintro e' w4 ⟨LZ,⟨v,st,rfl,⟨b,rfl,-,rfl⟩,yC⟩|⟨rfl,hp⟩⟩
  rotate_left
  ·have Df:=I (K3.out.trans LZ)
   have HP:=I hp;clear LZ hp;simp only[Dr];go_wp2;exact⟨rfl,Df.out,.inl ⟨rfl,HP.out⟩⟩
  have K4:=I (K3.out.trans LZ);have B4:=I (B3.out.kept LZ);have R4:=I (R3.out.kept LZ);have D4:=I yC;clear LZ yC;go_wp2;go_ret;have Wa:=I (AH (fun x=>x=wb) w4);have U5:=I (Wa.out.alloc (.cells #[.int .i64 a] 3));have Rh:=I (show Bx (w4.alloc (.cells #[.int .i64 a] 3)) wb (w4.heap.size) 3 #[.int .i64 a]from⟨by have:=DJ.new w4 3 #[.int .i64 a];simpa using this,fun e=>by have:=D4.out.at_.Nu.lt;omega⟩);have pL:=I (U5.out.alloc (.cells #[.int .i64 b] 3));have sn:=I (show Bx ((w4.alloc (.cells #[.int .i64 a] 3)).alloc (.cells #[.int .i64 b] 3)) wb (w4.heap.size+1) 3 #[.int .i64 b]from⟨by have:=DJ.new (w4.alloc (.cells #[.int .i64 a] 3)) 3 #[.int .i64 b];simpa using this,fun e=>by have:=D4.out.at_.Nu.lt;omega⟩)
  have Rh:=I (Rh.out.kept ((AH (fun x=>x=wb) _).alloc (.cells #[.int .i64 b] 3)));have KA:=I (K4.out.trans pL.out);have S6:=I (B4.out.kept pL.out);have RA:=I (R4.out.kept pL.out);have DA:=I (D4.out.below (show Below w4.heap.size w4 ((w4.alloc (.cells #[.int .i64 a] 3)).alloc (.cells #[.int .i64 b] 3))from by refine Below.O5 ?_;refine Below.O5 ?_;exact AA));refine⟨KA.out,.inr ⟨_,_,_,rfl,DA.out,fun W3 DT=>?_⟩⟩;have NA:Below W.heap.size W W3:=(HB.out.trans (KA.out.below (B:=W.heap.size) (fun k e=>by rw[e];exact ZL.out) HB.out.size)).trans (DT.mono (AG HB.out.size KA.out.size));first
   |refine⟨BH func100 (by kernel_rfl) rfl,?_⟩
   |refine⟨BH func106 (by kernel_rfl) rfl,?_⟩
   |refine⟨BH func109 (by kernel_rfl) rfl,?_⟩
  have q1:1<=(lI l).length:=by rw[J2];exact NK
  have q2:(lI l).length<=65537:=by rw[J2];exact I4
  refine Yh (pl:=w2.heap.size) (ps:=[w4.heap.size,w4.heap.size+1]) (ns:=[a,b]) DA.out.gl (HC.out.below NA) (HD.out.below HC.out NA) (RA.out.kept (.DU DT)) CAP.out (S6.out.1.below DT S6.out.1.lt) ⟨Rh.out.1.below DT Rh.out.1.lt,sn.out.1.below DT sn.out.1.lt,trivial⟩ NK ?_;first|exact xE q1 q2 a b|exact qr q1 q2 a b|exact u9 q1 q2 a b
end
theorem Qd(er:Int)(l:List Nat)(k:Nat)(hk:l.length=k)(h3:k<=100)(hs:∀k∈l,k<2^128)(t:TypeId)(cs:Array Value)(hc:cs=(Ex l).toArray)(w:World)(g:Nat)(hg:g=w.heap.size):
 Calls prog 27 #[.int .i64 er,.slice (some ⟨g,0,none⟩) k k] (w.alloc (.cells cs t)) fun x w'=>ID er (EJ l) x/\Below w.heap.size w w':=by
 subst hg hc;have hb:=(AQ w.heap.size w).alloc AB (.cells (Ex l).toArray t);by_cases he:er=0
 ·subst he
  have hl:(Ex l).length=k*2:=by
   rw[<-hk];clear hk hs hb;induction l with
   |nil=>rfl
   |cons a l ih=>rw[show Ex (a::l)=.int .u64 (DB a):: .int .u64 (DE a)::Ex l from by simp[Ex]];simp[ih];omega
  have hr:Reads (w.alloc (.cells (Ex l).toArray t)) (w.alloc (.cells (Ex l).toArray t)).heap.size 2 (some ⟨w.heap.size,0,none⟩) k (Ex l):=by
   obtain⟨-,h2⟩:=JU w t (Ex l);refine⟨hl,fun hn=>?_⟩;exact h2 (by rw[hl];omega)
  exact(jg _ k k l hk h3 hs _ hr).mono fun x w' ⟨h1,h2⟩=>⟨.inl ⟨rfl,h1⟩,Below.C9 hb h2⟩
 ·exact(kY er he _ _).mono fun x w' ⟨h1,h2⟩=>⟨.inr ⟨he,h1⟩,h2▸hb⟩
section
variable{W:World}{ah al bh bl er:Int}
theorem gR(x:Nat)(hx:x<2^128):
 (∀(HR:Bh W 74 #[.agg #[.int .u64 ah,.int .u64 al],.agg #[.int .u64 bh,.int .u64 bl]] (· =.returned (.tuple #[.agg #[.int .u64 (DB x),.int .u64 (DE x)],.int .i64 er]))),Calls prog 73 #[.agg #[.int .u64 ah,.int .u64 al],.agg #[.int .u64 bh,.int .u64 bl]] W fun e W'=>ID er (EJ [x]) e/\Below W.heap.size W W')/\
 (∀(HR:Bh W 76 #[.agg #[.int .u64 ah,.int .u64 al],.agg #[.int .u64 bh,.int .u64 bl]] (· =.returned (.tuple #[.agg #[.int .u64 (DB x),.int .u64 (DE x)],.int .i64 er]))),Calls prog 75 #[.agg #[.int .u64 ah,.int .u64 al],.agg #[.int .u64 bh,.int .u64 bl]] W fun e W'=>ID er (EJ [x]) e/\Below W.heap.size W W')/\
 (∀(HR:Bh W 78 #[.agg #[.int .u64 ah,.int .u64 al],.agg #[.int .u64 bh,.int .u64 bl]] (· =.returned (.tuple #[.agg #[.int .u64 (DB x),.int .u64 (DE x)],.int .i64 er]))),Calls prog 77 #[.agg #[.int .u64 ah,.int .u64 al],.agg #[.int .u64 bh,.int .u64 bl]] W fun e W'=>ID er (EJ [x]) e/\Below W.heap.size W W'):=by
 refine⟨fun HR=>?_,fun HR=>?_,fun HR=>?_⟩;all_goals
  have HB:=I (((AQ W.heap.size W).alloc AB (.cells #[.int .u64 ah,.int .u64 al] 57)).alloc (by simp) (.cells #[.int .u64 bh,.int .u64 bl] 57));have Tx:=I (HR _ HB.out);have HG:=I (fun w' g hg=>Qd er [x] 1 rfl (by decide) (by intro k hk;rcases Ai.1 hk with rfl;exact hx) 57 #[.int .u64 (DB x),.int .u64 (DE x)] rfl w' g hg);generalize EJ [x]=out at*;generalize DB x=xh at*;generalize DE x=xl at*;clear HR hx
 ·go_in
  go_wp2_with fail
  refine Tx.out.mono ?_;rintro e' w1 ⟨rfl,C6⟩;have Ii:=I ((Below.C9 HB.out C6).alloc (Below.C9 HB.out C6).size (.cells #[.int .u64 xh,.int .u64 xl] 57));clear C6;go_wp2_with fail
  refine(HG.out (w1.alloc _) _ (by simp)).mono ?_;rintro e' w2 ⟨⟨hz,rfl⟩|⟨hz,rfl⟩,DK⟩;all_goals
   have Df:=I (Below.C9 Ii.out DK);have HZ:=I hz;clear hz DK
  ·go_wp2
   go_ret;exact⟨.inl ⟨HZ.out,rfl⟩,Df.out⟩
  ·simp only[Dr]
   go_wp2;exact⟨rfl,.inr ⟨HZ.out,rfl⟩,Df.out⟩
 ·go_in
  go_wp2_with fail
  refine Tx.out.mono ?_;rintro e' w1 ⟨rfl,C6⟩;have Ii:=I ((Below.C9 HB.out C6).alloc (Below.C9 HB.out C6).size (.cells #[.int .u64 xh,.int .u64 xl] 57));clear C6;go_wp2_with fail
  refine(HG.out (w1.alloc _) _ (by simp)).mono ?_;rintro e' w2 ⟨⟨hz,rfl⟩|⟨hz,rfl⟩,DK⟩;all_goals
   have Df:=I (Below.C9 Ii.out DK);have HZ:=I hz;clear hz DK
  ·go_wp2
   go_ret;exact⟨.inl ⟨HZ.out,rfl⟩,Df.out⟩
  ·simp only[Dr]
   go_wp2;exact⟨rfl,.inr ⟨HZ.out,rfl⟩,Df.out⟩
 ·go_in
  go_wp2_with fail
  refine Tx.out.mono ?_;rintro e' w1 ⟨rfl,C6⟩;have Ii:=I ((Below.C9 HB.out C6).alloc (Below.C9 HB.out C6).size (.cells #[.int .u64 xh,.int .u64 xl] 57));clear C6;go_wp2_with fail
  refine(HG.out (w1.alloc _) _ (by simp)).mono ?_;rintro e' w2 ⟨⟨hz,rfl⟩|⟨hz,rfl⟩,DK⟩;all_goals
   have Df:=I (Below.C9 Ii.out DK);have HZ:=I hz;clear hz DK
  ·go_wp2
   go_ret;exact⟨.inl ⟨HZ.out,rfl⟩,Df.out⟩
  ·simp only[Dr]
   go_wp2;exact⟨rfl,.inr ⟨HZ.out,rfl⟩,Df.out⟩
theorem yQ(x y:Nat)(hx:x<2^128)(hy:y<2^128)(HR:Bh W 80 #[.agg #[.int .u64 ah,.int .u64 al],.agg #[.int .u64 bh,.int .u64 bl]] (· =.returned (.tuple #[.agg #[.int .u64 (DB x),.int .u64 (DE x)],.agg #[.int .u64 (DB y),.int .u64 (DE y)],.int .i64 er]))):
 Calls prog 79 #[.agg #[.int .u64 ah,.int .u64 al],.agg #[.int .u64 bh,.int .u64 bl]] W fun e W'=>ID er (EJ [x,y]) e/\Below W.heap.size W W':=by
 have HB:=I (((AQ W.heap.size W).alloc AB (.cells #[.int .u64 ah,.int .u64 al] 57)).alloc (by simp) (.cells #[.int .u64 bh,.int .u64 bl] 57));have Tx:=I (HR _ HB.out);have HG:=I (fun w' g hg=>Qd er [x,y] 2 rfl (by decide) (by intro k hk;simp only[AR,CT,CU]at hk;rcases hk with rfl|rfl;exact hx;exact hy) 57 #[.int .u64 (DB x),.int .u64 (DE x),.int .u64 (DB y),.int .u64 (DE y)] rfl w' g hg);generalize EJ [x,y]=out at*;generalize DB x=xh at*;generalize DE x=xl at*;generalize DB y=yh at*;generalize DE y=yl at*;clear HR hx hy;go_in;go_wp2_with fail
 refine Tx.out.mono ?_;rintro e' w1 ⟨rfl,C6⟩;have Ii:=I (((Below.C9 HB.out C6).alloc (Below.C9 HB.out C6).size (.cells #[.int .u64 xh,.int .u64 xl] 57)).alloc (by have:=(Below.C9 HB.out C6).size;simp;omega) (.cells #[.int .u64 yh,.int .u64 yl] 57));clear C6;go_wp2_with fail
 refine(HG.out ((w1.alloc _).alloc _) _ (by simp)).mono ?_;rintro e' w2 ⟨⟨hz,rfl⟩|⟨hz,rfl⟩,DK⟩;all_goals
  have Df:=I (Below.C9 Ii.out DK);have HZ:=I hz;clear hz DK
 ·go_wp2
  go_ret;exact⟨.inl ⟨HZ.out,rfl⟩,Df.out⟩
 ·simp only[Dr]
  go_wp2;exact⟨rfl,.inr ⟨HZ.out,rfl⟩,Df.out⟩
theorem sA{v:Int}{out:ByteArray}(HR:Bh W 83 #[.agg #[.int .u64 ah,.int .u64 al],.agg #[.int .u64 bh,.int .u64 bl]] (· =.returned (.tuple #[.int .i64 v,.int .i64 er])))(HO:QD W v er out):
 Calls prog 81 #[.agg #[.int .u64 ah,.int .u64 al],.agg #[.int .u64 bh,.int .u64 bl]] W fun e W'=>ID er out e/\Below W.heap.size W W':=by
 have HB:=I (((AQ W.heap.size W).alloc AB (.cells #[.int .u64 ah,.int .u64 al] 57)).alloc (by simp) (.cells #[.int .u64 bh,.int .u64 bl] 57));have Tx:=I (HR _ HB.out);have ZJ:=I HO;clear HR HO;go_in;go_wp2_with fail
 refine Tx.out.mono ?_;rintro e' w1 ⟨rfl,C6⟩;have Ii:=I (Below.C9 HB.out C6);clear C6;go_wp2_with fail
 refine(ZJ.out w1 Ii.out).mono ?_;rintro e' w2 ⟨⟨hz,rfl⟩|⟨hz,rfl⟩,DK⟩;all_goals
  have Df:=I (Below.C9 Ii.out DK);have HZ:=I hz;clear hz DK
 ·go_wp2
  go_ret;exact⟨.inl ⟨HZ.out,rfl⟩,Df.out⟩
 ·simp only[Dr]
  go_wp2;exact⟨rfl,.inr ⟨HZ.out,rfl⟩,Df.out⟩
end
def LG(wd:ByteArray)(a b:Nat):Int×ByteArray:=
 if wd=⟨#[115,117,109]⟩then (NR (a+b),EJ [JE (a+b)])else if wd=⟨#[108,101,115,115]⟩then (Zw a b,EJ [a-b])else if wd=⟨#[116,105,109,101,115]⟩then (NR (a*b),EJ [JE (a*b)])
 else if b=0 then (6,EJ [0,0])else if wd=⟨#[100,105,118]⟩then (0,EJ [a/b,a%b])else if a<b then (4,GF 0)else (0,GF (Nat.log2 (a/b):Nat))
theorem oV(n:Nat):FF (NR n) (EJ [JE n])=Om n:=by
 unfold FF NR JE Om;by_cases h:n<2^128
 ·rw[AD h,AD h,AD rfl,AD h]
 ·rw[AC h,AC h,AC (by decide),AC h];rfl
theorem ko(wd:ByteArray)(a b:Nat):FF (LG wd a b).1 (LG wd a b).2=Hf wd a b:=by
 unfold LG Hf;split
 ·exact oV _
 ·split
  ·unfold FF Zw
   by_cases h:b<=a
   ·rw[AD h,AD rfl,AC (by omega)]
   ·rw[AC h,AC (show¬(7:Int)=0 by decide),AD (by omega)];rfl
  ·split
   ·exact oV _
   ·split
    ·rfl
    ·split
     ·rfl
     ·split
      ·rfl
      ·rfl
theorem qd{x:Nat}(h:x<2^128):Nat.log2 x<9223372036854775808:=by
 by_cases hz:x=0
 ·subst hz;decide
 ·have:=(Nat.log2_lt hz).2 h
  omega
theorem qV(wd:ByteArray)(a b:Nat):0<=(LG wd a b).1/\(LG wd a b).1<100:=by
 unfold LG NR Zw
 repeat' split
 all_goals simp
theorem U3{l:List Nat}(hl:l.length<=2)(hs:∀k∈l,k<2^128):IV (EJ l):=by
 have:=Lw l hs l.length AB;rw[Ap]at this;exact⟨nG l,by omega⟩
theorem YQ(n:Nat):IV (Om n):=by
 unfold Om;split
 ·next h=>exact U3 (by simp) (by intro k hk;rcases Ai.1 hk with rfl;exact h)
 ·exact Ht 2 (by decide)
theorem iT{wd:ByteArray}{a b:Nat}(ha:a<2^128)(hb:b<2^128):IV (Hf wd a b):=by
 unfold Hf;split
 ·exact YQ _
 ·split
  ·split
   ·exact Ht 7 (by decide)
   ·exact U3 (by simp) (by intro k hk;rcases Ai.1 hk with rfl;omega)
  ·split
   ·exact YQ _
   ·split
    ·exact Ht 6 (by decide)
    ·split
     ·exact U3 (by simp) (by
       intro k hk;simp only[AR,CT,CU]at hk;rcases hk with rfl|rfl
       ·exact Bk (Bu _ _) ha
       ·exact Bk (Nat.mod_le _ _) ha)
     ·split
      ·exact Ht 4 (by decide)
      ·exact T9 _ (by simp) (by intro k hk;rcases Ai.1 hk with rfl;exact qd (Bk (Bu _ _) ha))
theorem jw{wd:ByteArray}(hw:ag wd):∃f,uo wd.data.toList=some f/\(∀args w,(callFunc f args).run prog w=.ok (.enter f args) w)/\∀a b:Nat,a<2^128->b<2^128->∀W,Gl W->
 Calls prog f #[.agg #[.int .u64 (DB a),.int .u64 (DE a)],.agg #[.int .u64 (DB b),.int .u64 (DE b)]] W fun e W'=>ID (LG wd a b).1 (LG wd a b).2 e/\Below W.heap.size W W':=by
 rcases hw with rfl|rfl|rfl|rfl|rfl
 ·exact⟨73,by decide+kernel,BH func73 (by kernel_rfl) rfl,fun a b ha hb W G=>(gR _ (ZE _)).1 (fun W' _=>KZ _ _ _ _ a b (WN.mk' a ha) (WN.mk' b hb) W')⟩
 ·exact⟨75,by decide+kernel,BH func75 (by kernel_rfl) rfl,fun a b ha hb W G=>(gR _ (by omega)).2.1 (fun W' _=>Rd _ _ _ _ a b (WN.mk' a ha) (WN.mk' b hb) W')⟩
 ·exact⟨77,by decide+kernel,BH func77 (by kernel_rfl) rfl,fun a b ha hb W G=>(gR _ (ZE _)).2.2 (fun W' _=>Xs a b ha hb W')⟩
 ·refine⟨79,by decide+kernel,BH func79 (by kernel_rfl) rfl,fun a b ha hb W G=>?_⟩
  by_cases h0:b=0
  ·subst h0
   exact yQ 0 0 (by decide) (by decide) (fun W' _=>div_zero a ha W')
  ·have e:LG ⟨#[100,105,118]⟩ a b=(0,EJ [a/b,a%b]):=by unfold LG;rw[AC (by simp),AC (by simp),AC (by simp),AC h0,AD rfl]
   rw[e];exact yQ _ _ (Bk (Bu _ _) ha) (Bk (Nat.mod_le _ _) ha) (fun W' _=>Tz a b ha hb (by omega) W')
 ·refine⟨81,by decide+kernel,BH func81 (by kernel_rfl) rfl,fun a b ha hb W G=>?_⟩
  by_cases h0:b=0
  ·subst h0
   exact sA (v:=0) (er:=6) (fun W' _=>mH a W') (Gq (by decide) _)
  ·obtain⟨k,hk⟩:=Q0 a b ha
   by_cases m8:a<b
   ·have e:LG ⟨#[104,97,108,118,101]⟩ a b=(4,GF 0):=by unfold LG;rw[AC (by simp),AC (by simp),AC (by simp),AC h0,AC (by simp),AD m8]
    rw[e];have LO:=Jd hk m8;subst LO;exact sA (v:=0) (fun W' _=>Yv a b _ ha hb (by omega) hk W') (Gq (by decide) _)
   ·have e:LG ⟨#[104,97,108,118,101]⟩ a b=(0,GF (Nat.log2 (a/b):Nat)):=by unfold LG;rw[AC (by simp),AC (by simp),AC (by simp),AC h0,AC (by simp),AC m8]
    rw[e];have LO:=Z1 hk h0 m8;subst LO;have Xv:=qd (Bk (Bu a b) ha);exact sA (fun W' _=>by have:=Yv a b _ ha hb (by omega) hk W';rwa [Qs,AC (by omega)]at this) (KQ G ⟨by omega,by omega⟩)
def Gm(w:World)(F:Nat->Nat)(W:World)(db:Nat)(X:ByteArray->Ek->Prop)(e:Ending)(W':World):Prop:=∃o s',e=.returned (.string o)/\X o s'/\ZK w F W db s' W'
def AAz(b:Bool):FuncId:=if b then 29 else 30
def zZ(b:Bool)(db wb:Nat)(s0:ByteArray):Array Value:=if b then #[.string s0,.pointer (some ⟨wb,0,none⟩)]else #[.pointer (some ⟨db,0,none⟩),.string s0,.pointer (some ⟨wb,0,none⟩)]
def Lx:List (List UInt8):=[[115,117,109,115],[109,101,97,110],[115,112,114,101,97,100],[114,97,110,107],[99,97,110,116,101,108,108,105],[102,97,100,101],[108,101,118,101,108],[119,104,101,110]]
theorem Vw{a:Act}{W:World}{b:Nat}{x:Value}(h4:a.tmps.getD 4 undef=.pointer (some ⟨b,0,none⟩))(c0:W.cell? ⟨b,0,none⟩=some x)(hx:∃s,x=.string s):(results Tryz.f10 a.tmps).run prog W=.ok x W:=by
 have r9:a.tmps[4]?.getD undef=.pointer (some ⟨b,0,none⟩):=by simpa using h4
 obtain⟨s,rfl⟩:=hx;simp[results,results10,r9,go_sem,c0]
theorem IY{a:Act}{b k:Nat}{w4:World}{R:Ending->World->Prop}(hk:k<100)(hK:DJ w4 b 9 #[.string ⟨#[]⟩])(h4:a.tmps.getD 4 undef=.pointer (some ⟨b,0,none⟩))(hd:a.defers=[{target:=.fn (.func 22) #[.pointer (some ⟨b,0,none⟩)],args:=#[]}])
 (hR:∀GQ,Kept (fun i=>i=b) w4 GQ->R (.returned (.string (FG k))) GQ):
 bodyPostD prog Tryz.f10 R (Exit.panic [{v:=.iface 67 (.agg #[.int .i64 (k:Int)]),recovered:=false}]) a w4:=by
 show Leaves _ _ a.tmps R a.defers _ _;rw[hd];refine leaves_cons (f:=22) (args:=#[.pointer (some ⟨b,0,none⟩)]) (by simp) (by simp[go_sem]) ?_;refine(Tc b ⟨#[]⟩ k hk w4 hK).mono ?_;rintro e u' GQ ⟨rfl,rfl,NV,Eh⟩;exact⟨_,Vw h4 ((Eh.cell 0).trans rfl) ⟨_,rfl⟩,hR _ NV⟩
theorem Tw{a:Act}{b:Nat}{w4:World}{out:ByteArray}{R:Ending->World->Prop}(hK:DJ w4 b 9 #[.string out])(h4:a.tmps.getD 4 undef=.pointer (some ⟨b,0,none⟩))(hd:a.defers=[{target:=.fn (.func 22) #[.pointer (some ⟨b,0,none⟩)],args:=#[]}])
 (hR:R (.returned (.string out)) w4):
 bodyPostD prog Tryz.f10 R Exit.ret a w4:=by
 show Leaves _ _ a.tmps R a.defers _ _;rw[hd];refine leaves_cons (f:=22) (args:=#[.pointer (some ⟨b,0,none⟩)]) (by simp) (by simp[go_sem]) ?_;refine(dx ⟨b,0,none⟩ _).mono ?_;rintro e u' GQ ⟨rfl,rfl,rfl⟩;exact⟨_,Vw h4 ((hK.cell 0).trans rfl) ⟨_,rfl⟩,hR⟩
theorem Qf{w W:World}{F:Nat->Nat}{db c cn:Nat}{A An:Option Addr}{tv:Value}{s:Ek}{s0:ByteArray}{r:List ByteArray}{fs:List UInt8}{B:Prop}{P:Np->mq->Prop}{X:ByteArray->Ek->Prop}(isv:Bool)(G:Gl w)(hC:EA w W F)(h:FN F W db tv An cn s)(hr:Reads W W.heap.size 1 A (s0::r).length (C7 (s0::r)))(hc:(s0::r).length<=c/\c<=maxLen)
 (ER:∀x∈r,x.size<=65536) (PR:s0.size<=maxLen) (ye:uo s0.data.toList=none) (WK:(s0.toList== [114,111,111,116])=false) (hv:if isv then∃u∈Lx,s0=⟨u.toArray⟩else∀u∈Lx,(s0.toList==u)=false)
 (hA:∀(W1:World)(wb:Nat),Below W.heap.size W W1->W.heap.size<=wb->WF w W1 wb A c s0 r fs 0 Jz->Calls prog (AAz isv) (zZ isv db wb s0) W1 (OA w F db wb A c s0 r fs B P W1))
 (hB:B->X (FG 11) s) (hN:Dl fs r Jz=none->X (FG 11) s) (hP:∀st a,Dl fs r Jz=some st->P st a->X (FF a.1 a.2.1) a.2.2):
 Calls prog 10 #[.pointer (some ⟨db,0,none⟩),.slice A (s0::r).length c] W (Gm w F W db X):=by
 have tE:∀(fn:Fn)(first cap:Array Value)(w:World),(Instr.makeFunc fn first cap).run prog w=.ok (.func fn first cap) w:=fun _ _ _ _=>rfl;obtain⟨g,off,rfl,hg,EO⟩:=hr.addr (by simp);have c0:=EO 0 (.string s0) (by simp[C7]);have HC:=I hC;have HD:=I h;have HR:=I hr;have HA:=I hA;have HB:=I hB;have HN:=I hN;have HP:=I hP;have ey:=I ER;have HG:=I G;have HS0:=I PR;have ma:=I ye;have hlen:(0:Int)<((s0::r).length:Int):=by simp only[AP];omega
 have ZO:=I hc;have B0:=I (((AQ W.heap.size W).alloc AB (.cells #[.string ⟨#[]⟩] 9)).alloc (by simp) (.cells #[.slice (some ⟨g,off,none⟩) (s0::r).length c,.int .i64 1] 72));have K0:=I (show DJ ((W.alloc (.cells #[.string ⟨#[]⟩] 9)).alloc (.cells #[.slice (some ⟨g,off,none⟩) (s0::r).length c,.int .i64 1] 72)) W.heap.size 9 #[.string ⟨#[]⟩]from(DJ.new _ _ _).alloc _);have V0:=I (show ZN ((W.alloc (.cells #[.string ⟨#[]⟩] 9)).alloc (.cells #[.slice (some ⟨g,off,none⟩) (s0::r).length c,.int .i64 1] 72)) (W.heap.size+1) (some ⟨g,off,none⟩) (s0::r).length c 1 from by have:=DJ.new (W.alloc (.cells #[.string ⟨#[]⟩] 9)) 72 #[.slice (some ⟨g,off,none⟩) (s0::r).length c,.int .i64 1];unfold ZN;simpa using this)
 simp only[AW]at c0;clear hC h hr hA EO hc hB hN hP ER G PR ye;generalize hn:(s0::r).length=n at*;have fU:=I hn;clear hn
 go_enter_defers func10,ntmps10
 go_wp2_with fail
 refine(Ry s0 HS0.out _).mono ?_;rintro e' w1 ⟨rfl,C6⟩;rw[ma.out];have B1:=I (Below.C9 B0.out C6);have K1:=I (K0.out.below C6 K0.out.lt);have V1:=I (show ZN w1 _ _ _ _ _ from V0.out.below C6 V0.out.lt);have WA:=I (show WF w w1 (W.heap.size+1) (some ⟨g,off,none⟩) c s0 r fs 0 Jz from⟨⟨by rw[fU.out];exact V1.out,by rw[fU.out];exact(HR.out.below B1.out AB).more B1.out.size,fun a ha=>by injection ha with ha;subst ha;simp;omega,by rw[fU.out];exact ZO.out,HC.out.DI.trans (B1.out.mono HC.out.DI.size),AG HC.out.DI.size (Br _)⟩,.start,ey.out,HG.out⟩);have HAA:=I (HA.out w1 (W.heap.size+1) B1.out (Br _) WA.out);clear C6 c0
 cases isv with
 |false=>
  have e1:=hv [115,117,109,115] (by simp[Lx]);have e2:=hv [109,101,97,110] (by simp[Lx]);have e3:=hv [115,112,114,101,97,100] (by simp[Lx]);have e4:=hv [114,97,110,107] (by simp[Lx]);have e5:=hv [99,97,110,116,101,108,108,105] (by simp[Lx]);have e6:=hv [102,97,100,101] (by simp[Lx]);have e7:=hv [108,101,118,101,108] (by simp[Lx]);have e8:=hv [119,104,101,110] (by simp[Lx]);clear hv;simp only[AAz,zZ,AT9,if_false]at HAA;simp only[zM,Option.isSome];go_wp2_with fail
  refine HAA.out.mono ?_;clear e1 e2 e3 e4 e5 e6 e7 e8 HAA;rintro e' w2 ⟨Et,⟨rfl,hb⟩|⟨fn,xA,st,rfl,ZU,sy⟩⟩
  ·have K2:=I (Et.DC K1.out (fun e=>by have e':W.heap.size=W.heap.size+1:=e;omega))
   have Df:=I (fun GQ (NV:Kept (fun i=>i=W.heap.size) w2 GQ)=>show Gm w F W db X (.returned (.string (FG 11))) GQ from⟨_,_,rfl,HB.out hb,(HD.out.Tg HC.out).more ((B1.out.trans (Et.below (B:=W.heap.size) (fun k e=>by rw[e];exact Br _) B1.out.size)).trans (NV.below (B:=W.heap.size) (fun k e=>by rw[e];exact AB) (AG B1.out.size Et.size)))⟩);clear Et hb;simp only[Dr];go_wp2;exact IY (k:=11) (by decide) K2.out rfl rfl Df.out
  ·have K2:=I (Et.DC K1.out (fun e=>by have e':W.heap.size=W.heap.size+1:=e;omega))
   have B2:=I (B1.out.trans (Et.below (B:=W.heap.size) (fun k e=>by rw[e];exact Br _) B1.out.size));have ut:=I ZU;have Y4:=I sy;clear Et ZU sy;by_cases hl:r.length=fs.length
   ·have Yd:=I (wF (show Yi w w2 (W.heap.size+1) (some ⟨g,off,none⟩) c _ _ from by have:=ut.out.at_;rwa [<-hl]at this))
    have GB:=I (ut.out.pre.fin rfl hl);clear hl;go_wp2_with fail
    refine Yd.out.mono ?_;rintro e' w3 ⟨rfl,DT⟩;have K3:=I (K2.out.below DT K2.out.lt);have B3:=I (Below.C9 B2.out DT);obtain⟨hen,Sk⟩:=Y4.out w3 DT;have P7:=I Sk;clear DT Sk;go_wp2_with fail
    refine P7.out.mono ?_;rintro e' w4 ⟨a,vf,hJ,⟨hz,rfl⟩|⟨hz,rfl⟩,GA⟩
    ·have K4:=I (GA.wC HC.out AB K3.out)
     have XX:=HP.out st a GB.out vf;rw[FF,AD hz]at XX;have Df:=I (show Gm w F W db X _ _ from⟨_,_,rfl,XX,GA.PX HC.out B3.out AB K3.out.lt ((AH (fun x=>x=W.heap.size) w4).setCell (a:=⟨W.heap.size,0,none⟩) (.inl rfl) (.string a.2.1))⟩);have BK:=I (K4.out.De 0 (.string a.2.1));have k0:=K4.out.cell 0;have z0:=K4.out.frozen 0;have l0:=K4.out.lt;simp at k0;clear GA hz XX vf hJ;go_wp2;exact Tw (b:=W.heap.size) (by simpa using BK.out) rfl rfl Df.out
    ·have K4:=I (GA.wC HC.out AB K3.out)
     have XX:=HP.out st a GB.out vf;rw[FF,AC hz]at XX;obtain⟨k,hk⟩:∃k:Nat,a.1=(k:Int):=⟨a.1.toNat,by omega⟩;rw[hk,Bp]at XX;have LO:k<100:=by omega
     have Df:=I (fun GQ (NV:Kept (fun i=>i=W.heap.size) w4 GQ)=>show Gm w F W db X (.returned (.string (FG k))) GQ from⟨_,_,rfl,XX,GA.PX HC.out B3.out AB K3.out.lt NV⟩);rw[hk];clear GA hz XX vf hJ hk;simp only[Dr];go_wp2;exact IY LO K4.out rfl rfl Df.out
   ·have Yd:=I (Y6 (W.heap.size+1) (some ⟨g,off,none⟩) (s0::r).length c (fs.length+1) (by simp only[AP];omega) w2 ut.out.at_.Nu)
    have XX:=HN.out (ut.out.pre.long rfl hl);clear hl;go_wp2_with fail
    refine Yd.out.mono ?_;rintro e' w3 ⟨rfl,DT⟩;have K3:=I (K2.out.below DT K2.out.lt);have Df:=I (fun GQ (NV:Kept (fun i=>i=W.heap.size) w3 GQ)=>show Gm w F W db X (.returned (.string (FG 11))) GQ from⟨_,_,rfl,XX,(HD.out.Tg HC.out).more ((Below.C9 B2.out DT).trans (NV.below (B:=W.heap.size) (fun k e=>by rw[e];exact AB) (AG B2.out.size DT.size)))⟩);clear DT XX;simp only[Dr];go_wp2;exact IY (k:=11) (by decide) K3.out rfl rfl Df.out
 |true=>
  obtain⟨u,hu,rfl⟩:=hv;simp only[Lx,AR,CT,CU]at hu;simp only[AAz,zZ,if_true]at HAA;simp only[zM,Option.isSome];rcases hu with rfl|rfl|rfl|rfl|rfl|rfl|rfl|rfl;all_goals
   go_wp2_with fail
   refine HAA.out.mono ?_;clear HAA;rintro e' w2 ⟨Et,⟨rfl,hb⟩|⟨fn,xA,st,rfl,ZU,sy⟩⟩
   ·have K2:=I (Et.DC K1.out (fun e=>by have e':W.heap.size=W.heap.size+1:=e;omega))
    have Df:=I (fun GQ (NV:Kept (fun i=>i=W.heap.size) w2 GQ)=>show Gm w F W db X (.returned (.string (FG 11))) GQ from⟨_,_,rfl,HB.out hb,(HD.out.Tg HC.out).more ((B1.out.trans (Et.below (B:=W.heap.size) (fun k e=>by rw[e];exact Br _) B1.out.size)).trans (NV.below (B:=W.heap.size) (fun k e=>by rw[e];exact AB) (AG B1.out.size Et.size)))⟩);clear Et hb;simp only[Dr];go_wp2;exact IY (k:=11) (by decide) K2.out rfl rfl Df.out
   ·have K2:=I (Et.DC K1.out (fun e=>by have e':W.heap.size=W.heap.size+1:=e;omega))
    have B2:=I (B1.out.trans (Et.below (B:=W.heap.size) (fun k e=>by rw[e];exact Br _) B1.out.size));have ut:=I ZU;have Y4:=I sy;clear Et ZU sy;by_cases hl:r.length=fs.length
    ·have Yd:=I (wF (show Yi w w2 (W.heap.size+1) (some ⟨g,off,none⟩) c _ _ from by have:=ut.out.at_;rwa [<-hl]at this))
     have GB:=I (ut.out.pre.fin rfl hl);clear hl;go_wp2_with fail
     refine Yd.out.mono ?_;rintro e' w3 ⟨rfl,DT⟩;have K3:=I (K2.out.below DT K2.out.lt);have B3:=I (Below.C9 B2.out DT);obtain⟨hen,Sk⟩:=Y4.out w3 DT;have P7:=I Sk;clear DT Sk;go_wp2_with fail
     refine P7.out.mono ?_;rintro e' w4 ⟨a,vf,hJ,⟨hz,rfl⟩|⟨hz,rfl⟩,GA⟩
     ·have K4:=I (GA.wC HC.out AB K3.out)
      have XX:=HP.out st a GB.out vf;rw[FF,AD hz]at XX;have Df:=I (show Gm w F W db X _ _ from⟨_,_,rfl,XX,GA.PX HC.out B3.out AB K3.out.lt ((AH (fun x=>x=W.heap.size) w4).setCell (a:=⟨W.heap.size,0,none⟩) (.inl rfl) (.string a.2.1))⟩);have BK:=I (K4.out.De 0 (.string a.2.1));have k0:=K4.out.cell 0;have z0:=K4.out.frozen 0;have l0:=K4.out.lt;simp at k0;clear GA hz XX vf hJ;go_wp2;exact Tw (b:=W.heap.size) (by simpa using BK.out) rfl rfl Df.out
     ·have K4:=I (GA.wC HC.out AB K3.out)
      have XX:=HP.out st a GB.out vf;rw[FF,AC hz]at XX;obtain⟨k,hk⟩:∃k:Nat,a.1=(k:Int):=⟨a.1.toNat,by omega⟩;rw[hk,Bp]at XX;have LO:k<100:=by omega
      have Df:=I (fun GQ (NV:Kept (fun i=>i=W.heap.size) w4 GQ)=>show Gm w F W db X (.returned (.string (FG k))) GQ from⟨_,_,rfl,XX,GA.PX HC.out B3.out AB K3.out.lt NV⟩);rw[hk];clear GA hz XX vf hJ hk;simp only[Dr];go_wp2;exact IY LO K4.out rfl rfl Df.out
    ·have Yd:=I (Y6 (W.heap.size+1) (some ⟨g,off,none⟩) (_::r).length c (fs.length+1) (by simp only[AP];omega) w2 ut.out.at_.Nu)
     have XX:=HN.out (ut.out.pre.long rfl hl);clear hl;go_wp2_with fail
     refine Yd.out.mono ?_;rintro e' w3 ⟨rfl,DT⟩;have K3:=I (K2.out.below DT K2.out.lt);have Df:=I (fun GQ (NV:Kept (fun i=>i=W.heap.size) w3 GQ)=>show Gm w F W db X (.returned (.string (FG 11))) GQ from⟨_,_,rfl,XX,(HD.out.Tg HC.out).more ((Below.C9 B2.out DT).trans (NV.below (B:=W.heap.size) (fun k e=>by rw[e];exact AB) (AG B2.out.size DT.size)))⟩);clear DT XX;simp only[Dr];go_wp2;exact IY (k:=11) (by decide) K3.out rfl rfl Df.out
theorem Sv{w W:World}{F:Nat->Nat}{db c cn:Nat}{A An:Option Addr}{tv:Value}{s:Ek}{s0:ByteArray}{r:List ByteArray}{X:ByteArray->Ek->Prop}(G:Gl w)(hC:EA w W F)(h:FN F W db tv An cn s)(hr:Reads W W.heap.size 1 A (s0::r).length (C7 (s0::r)))(hc:(s0::r).length<=c/\c<=maxLen)
 (ER:∀x∈r,x.size<=65536) (PR:s0.size<=maxLen) (hw:ag s0)
 (hN:Dl [87,87] r Jz=none->X (FG 11) s) (hP:∀a b:Nat,a<2^128->b<2^128->Dl [87,87] r Jz=some ⟨[],[],[],[a,b]⟩->X (Hf s0 a b) s):
 Calls prog 10 #[.pointer (some ⟨db,0,none⟩),.slice A (s0::r).length c] W (Gm w F W db X):=by
 obtain⟨f,ye,hen,hf⟩:=jw hw;have HF:=I hf;clear hf hw;have tE:∀(fn:Fn)(first cap:Array Value)(w:World),(Instr.makeFunc fn first cap).run prog w=.ok (.func fn first cap) w:=fun _ _ _ _=>rfl;obtain⟨g,off,rfl,hg,EO⟩:=hr.addr (by simp);have c0:=EO 0 (.string s0) (by simp[C7]);have HC:=I hC;have HD:=I h;have HR:=I hr;have HN:=I hN;have HP:=I hP;have ey:=I ER;have HG:=I G;have HS0:=I PR;have ma:=I ye;have hlen:(0:Int)<((s0::r).length:Int):=by simp only[AP];omega
 have ZO:=I hc;have B0:=I (((AQ W.heap.size W).alloc AB (.cells #[.string ⟨#[]⟩] 9)).alloc (by simp) (.cells #[.slice (some ⟨g,off,none⟩) (s0::r).length c,.int .i64 1] 72));have K0:=I (show DJ ((W.alloc (.cells #[.string ⟨#[]⟩] 9)).alloc (.cells #[.slice (some ⟨g,off,none⟩) (s0::r).length c,.int .i64 1] 72)) W.heap.size 9 #[.string ⟨#[]⟩]from(DJ.new _ _ _).alloc _);have V0:=I (show ZN ((W.alloc (.cells #[.string ⟨#[]⟩] 9)).alloc (.cells #[.slice (some ⟨g,off,none⟩) (s0::r).length c,.int .i64 1] 72)) (W.heap.size+1) (some ⟨g,off,none⟩) (s0::r).length c 1 from by have:=DJ.new (W.alloc (.cells #[.string ⟨#[]⟩] 9)) 72 #[.slice (some ⟨g,off,none⟩) (s0::r).length c,.int .i64 1];unfold ZN;simpa using this)
 simp only[AW]at c0;clear hC h hr EO hc hN hP ER G PR ye;generalize hn:(s0::r).length=n at*;have fU:=I hn;clear hn
 go_enter_defers func10,ntmps10
 go_wp2_with fail
 refine(Ry s0 HS0.out _).mono ?_;rintro e' w1 ⟨rfl,C6⟩;rw[ma.out];have B1:=I (Below.C9 B0.out C6);have K1:=I (K0.out.below C6 K0.out.lt);have V1:=I (show ZN w1 _ _ _ _ _ from V0.out.below C6 V0.out.lt);have WA:=I (show WF w w1 (W.heap.size+1) (some ⟨g,off,none⟩) c s0 r [87,87] 0 Jz from⟨⟨by rw[fU.out];exact V1.out,by rw[fU.out];exact(HR.out.below B1.out AB).more B1.out.size,fun a ha=>by injection ha with ha;subst ha;simp;omega,by rw[fU.out];exact ZO.out,HC.out.DI.trans (B1.out.mono HC.out.DI.size),AG HC.out.DI.size (Br _)⟩,.start,ey.out,HG.out⟩);clear C6 c0;simp only[zM,Option.isSome];go_wp2_with fail
 refine(fF WA.out rfl).mono ?_;rintro e' w2 ⟨Et,⟨v,st,rfl,⟨a,rfl,ha,rfl⟩,GV⟩|⟨rfl,hp⟩⟩
 rotate_left
 ·have K2:=I (Et.DC K1.out (fun e=>by have e':W.heap.size=W.heap.size+1:=e;omega))
  have XX:=HN.out hp;have Df:=I (fun GQ (NV:Kept (fun i=>i=W.heap.size) w2 GQ)=>show Gm w F W db X (.returned (.string (FG 11))) GQ from⟨_,_,rfl,XX,(HD.out.Tg HC.out).more ((B1.out.trans (Et.below (B:=W.heap.size) (fun k e=>by rw[e];exact Br _) B1.out.size)).trans (NV.below (B:=W.heap.size) (fun k e=>by rw[e];exact AB) (AG B1.out.size Et.size)))⟩);clear Et hp XX;simp only[Dr];go_wp2;exact IY (k:=11) (by decide) K2.out rfl rfl Df.out
 have K2:=I (Et.DC K1.out (fun e=>by have e':W.heap.size=W.heap.size+1:=e;omega));have B2:=I (B1.out.trans (Et.below (B:=W.heap.size) (fun k e=>by rw[e];exact Br _) B1.out.size));have D2:=I GV;clear Et GV;go_wp2_with fail
 refine(fF D2.out rfl).mono ?_;rintro e' w3 ⟨IG,⟨v,st,rfl,⟨b,rfl,hb,rfl⟩,Wn⟩|⟨rfl,hp⟩⟩
 rotate_left
 ·have K3:=I (IG.DC K2.out (fun e=>by have e':W.heap.size=W.heap.size+1:=e;omega))
  have XX:=HN.out hp;have Df:=I (fun GQ (NV:Kept (fun i=>i=W.heap.size) w3 GQ)=>show Gm w F W db X (.returned (.string (FG 11))) GQ from⟨_,_,rfl,XX,(HD.out.Tg HC.out).more ((B2.out.trans (IG.below (B:=W.heap.size) (fun k e=>by rw[e];exact Br _) B2.out.size)).trans (NV.below (B:=W.heap.size) (fun k e=>by rw[e];exact AB) (AG B2.out.size IG.size)))⟩);clear IG hp XX;simp only[Dr];go_wp2;exact IY (k:=11) (by decide) K3.out rfl rfl Df.out
 have K3:=I (IG.DC K2.out (fun e=>by have e':W.heap.size=W.heap.size+1:=e;omega));have B3:=I (B2.out.trans (IG.below (B:=W.heap.size) (fun k e=>by rw[e];exact Br _) B2.out.size));have D3:=I Wn;clear IG Wn;have KA:=I ((K3.out.alloc (.cells #[.int .u64 (DB a),.int .u64 (DE a)] 57)).alloc (.cells #[.int .u64 (DB b),.int .u64 (DE b)] 57));have BA:=I (Below.C9 (Below.C9 B3.out (AA.alloc AB (.cells #[.int .u64 (DB a),.int .u64 (DE a)] 57))) (AA.alloc AB (.cells #[.int .u64 (DB b),.int .u64 (DE b)] 57)));have DA:=I (D3.out.below (show Below w3.heap.size w3 ((w3.alloc (.cells #[.int .u64 (DB a),.int .u64 (DE a)] 57)).alloc (.cells #[.int .u64 (DB b),.int .u64 (DE b)] 57))from Below.O5 (Below.O5 AA)))
 have kc:=I (show DJ ((w3.alloc (.cells #[.int .u64 (DB a),.int .u64 (DE a)] 57)).alloc (.cells #[.int .u64 (DB b),.int .u64 (DE b)] 57)) (w3.heap.size) 57 #[.int .u64 (DB a),.int .u64 (DE a)]from by have:=((DJ.new w3 57 #[.int .u64 (DB a),.int .u64 (DE a)]).alloc (.cells #[.int .u64 (DB b),.int .u64 (DE b)] 57));simpa using this);have BV1:=I (show DJ ((w3.alloc (.cells #[.int .u64 (DB a),.int .u64 (DE a)] 57)).alloc (.cells #[.int .u64 (DB b),.int .u64 (DE b)] 57)) (w3.heap.size+1) 57 #[.int .u64 (DB b),.int .u64 (DE b)]from by have:=(DJ.new (w3.alloc (.cells #[.int .u64 (DB a),.int .u64 (DE a)] 57)) 57 #[.int .u64 (DB b),.int .u64 (DE b)]);simpa using this)
 by_cases hl:r.length=2
 ·have Yd:=I (wF (show Yi w ((w3.alloc (.cells #[.int .u64 (DB a),.int .u64 (DE a)] 57)).alloc (.cells #[.int .u64 (DB b),.int .u64 (DE b)] 57)) (W.heap.size+1) (some ⟨g,off,none⟩) c _ _ from by have:=DA.out.at_;rwa [show 0+1+1+1=(s0::r).length by simp only[AP];omega]at this))
  have GB:=I (DA.out.pre.fin rfl hl);clear hl;go_wp2_with fail
  refine Yd.out.mono ?_;rintro e' w5 ⟨rfl,Eh⟩;have K5:=I (KA.out.below Eh KA.out.lt);have B5:=I (Below.C9 BA.out Eh);have x00:=(kc.out.below Eh kc.out.lt).cell 0;have x01:=(kc.out.below Eh kc.out.lt).cell 1;have y0:=(kc.out.below Eh kc.out.lt).lt;simp at x00 x01;have x10:=(BV1.out.below Eh BV1.out.lt).cell 0;have x11:=(BV1.out.below Eh BV1.out.lt).cell 1;have y1:=(BV1.out.below Eh BV1.out.lt).lt;simp at x10 x11;clear Eh;have P7:=I (HF.out a b ha hb w5 (HG.out.below (HC.out.DI.trans (B5.out.mono HC.out.DI.size))));have XX:=HP.out a b ha hb GB.out;rw[<-ko]at XX;have hJ:=qV s0 a b;generalize LG s0 a b=z at*;obtain⟨er,out⟩:=z;go_wp2_with fail
  refine P7.out.mono ?_;rintro e' w8 ⟨⟨hz,rfl⟩|⟨hz,rfl⟩,Rr⟩
  ·rw[FF,AD hz]at XX
   clear hz hJ;have K8:=I (K5.out.below Rr K5.out.lt);have Df:=I (show Gm w F W db X _ _ from⟨_,_,rfl,XX,(HD.out.Tg HC.out).more (((Below.C9 B5.out Rr)).setCell (p:=⟨W.heap.size,0,none⟩) AB (.string out))⟩);have BK:=I (K8.out.De 0 (.string out));have k0:=K8.out.cell 0;have z0:=K8.out.frozen 0;have l0:=K8.out.lt;simp at k0;clear Rr XX;go_wp2;exact Tw (b:=W.heap.size) (by simpa using BK.out) rfl rfl Df.out
  ·rw[FF,AC hz]at XX
   obtain⟨k,rfl⟩:∃k:Nat,er=(k:Int):=⟨er.toNat,by omega⟩;rw[Bp]at XX;have LO:k<100:=by omega
   have K8:=I (K5.out.below Rr K5.out.lt);have Df:=I (fun GQ (NV:Kept (fun i=>i=W.heap.size) w8 GQ)=>show Gm w F W db X (.returned (.string (FG k))) GQ from⟨_,_,rfl,XX,(HD.out.Tg HC.out).more ((Below.C9 B5.out Rr).trans (NV.below (B:=W.heap.size) (fun k e=>by rw[e];exact AB) (AG B5.out.size Rr.size)))⟩);clear hz hJ Rr XX;simp only[Dr];go_wp2;exact IY LO K8.out rfl rfl Df.out
 ·have Yd:=I (Y6 (W.heap.size+1) (some ⟨g,off,none⟩) (s0::r).length c (0+1+1+1) (by simp only[AP];omega) _ DA.out.at_.Nu)
  have XX:=HN.out (DA.out.pre.long rfl hl);clear hl;go_wp2_with fail
  refine Yd.out.mono ?_;rintro e' w9 ⟨rfl,Ei⟩;have K9:=I (KA.out.below Ei KA.out.lt);have Df:=I (fun GQ (NV:Kept (fun i=>i=W.heap.size) w9 GQ)=>show Gm w F W db X (.returned (.string (FG 11))) GQ from⟨_,_,rfl,XX,(HD.out.Tg HC.out).more ((Below.C9 BA.out Ei).trans (NV.below (B:=W.heap.size) (fun k e=>by rw[e];exact AB) (AG BA.out.size Ei.size)))⟩);clear Ei XX;simp only[Dr];go_wp2;exact IY (k:=11) (by decide) K9.out rfl rfl Df.out
theorem Z6{w W:World}{F:Nat->Nat}{db c cn:Nat}{A An:Option Addr}{tv:Value}{s:Ek}{s0:ByteArray}{r:List ByteArray}{X:ByteArray->Ek->Prop}(G:Gl w)(hC:EA w W F)(h:FN F W db tv An cn s)(hr:Reads W W.heap.size 1 A (s0::r).length (C7 (s0::r)))(hc:(s0::r).length<=c/\c<=maxLen)
 (ER:∀x∈r,x.size<=65536) (PR:s0.size<=maxLen) (hw:s0=⟨#[114,111,111,116]⟩)
 (hN:Dl [87] r Jz=none->X (FG 11) s) (hP:∀a rt:Nat,a<2^128->Rt.Mo a rt->Dl [87] r Jz=some ⟨[],[],[],[a]⟩->X (Om rt) s):
 Calls prog 10 #[.pointer (some ⟨db,0,none⟩),.slice A (s0::r).length c] W (Gm w F W db X):=by
 have ye:uo s0.data.toList=none:=by rw[hw];decide+kernel
 have HW:=I hw;clear hw;have tE:∀(fn:Fn)(first cap:Array Value)(w:World),(Instr.makeFunc fn first cap).run prog w=.ok (.func fn first cap) w:=fun _ _ _ _=>rfl;obtain⟨g,off,rfl,hg,EO⟩:=hr.addr (by simp);have c0:=EO 0 (.string s0) (by simp[C7]);have HC:=I hC;have HD:=I h;have HR:=I hr;have HN:=I hN;have HP:=I hP;have ey:=I ER;have HG:=I G;have HS0:=I PR;have ma:=I ye;have hlen:(0:Int)<((s0::r).length:Int):=by simp only[AP];omega
 have ZO:=I hc;have B0:=I (((AQ W.heap.size W).alloc AB (.cells #[.string ⟨#[]⟩] 9)).alloc (by simp) (.cells #[.slice (some ⟨g,off,none⟩) (s0::r).length c,.int .i64 1] 72));have K0:=I (show DJ ((W.alloc (.cells #[.string ⟨#[]⟩] 9)).alloc (.cells #[.slice (some ⟨g,off,none⟩) (s0::r).length c,.int .i64 1] 72)) W.heap.size 9 #[.string ⟨#[]⟩]from(DJ.new _ _ _).alloc _);have V0:=I (show ZN ((W.alloc (.cells #[.string ⟨#[]⟩] 9)).alloc (.cells #[.slice (some ⟨g,off,none⟩) (s0::r).length c,.int .i64 1] 72)) (W.heap.size+1) (some ⟨g,off,none⟩) (s0::r).length c 1 from by have:=DJ.new (W.alloc (.cells #[.string ⟨#[]⟩] 9)) 72 #[.slice (some ⟨g,off,none⟩) (s0::r).length c,.int .i64 1];unfold ZN;simpa using this)
 simp only[AW]at c0;clear hC h hr EO hc hN hP ER G PR ye;generalize hn:(s0::r).length=n at*;have fU:=I hn;clear hn
 go_enter_defers func10,ntmps10
 go_wp2_with fail
 refine(Ry s0 HS0.out _).mono ?_;rintro e' w1 ⟨rfl,C6⟩;rw[ma.out];have B1:=I (Below.C9 B0.out C6);have K1:=I (K0.out.below C6 K0.out.lt);have V1:=I (show ZN w1 _ _ _ _ _ from V0.out.below C6 V0.out.lt);have WA:=I (show WF w w1 (W.heap.size+1) (some ⟨g,off,none⟩) c s0 r [87] 0 Jz from⟨⟨by rw[fU.out];exact V1.out,by rw[fU.out];exact(HR.out.below B1.out AB).more B1.out.size,fun a ha=>by injection ha with ha;subst ha;simp;omega,by rw[fU.out];exact ZO.out,HC.out.DI.trans (B1.out.mono HC.out.DI.size),AG HC.out.DI.size (Br _)⟩,.start,ey.out,HG.out⟩);clear C6 c0;obtain rfl:=HW.out;clear HW;simp only[zM,Option.isSome];go_wp2_with fail
 refine(fF WA.out rfl).mono ?_;rintro e' w2 ⟨Et,⟨v,st,rfl,⟨a,rfl,ha,rfl⟩,GV⟩|⟨rfl,hp⟩⟩
 rotate_left
 ·have K2:=I (Et.DC K1.out (fun e=>by have e':W.heap.size=W.heap.size+1:=e;omega))
  have XX:=HN.out hp;have Df:=I (fun GQ (NV:Kept (fun i=>i=W.heap.size) w2 GQ)=>show Gm w F W db X (.returned (.string (FG 11))) GQ from⟨_,_,rfl,XX,(HD.out.Tg HC.out).more ((B1.out.trans (Et.below (B:=W.heap.size) (fun k e=>by rw[e];exact Br _) B1.out.size)).trans (NV.below (B:=W.heap.size) (fun k e=>by rw[e];exact AB) (AG B1.out.size Et.size)))⟩);clear Et hp XX;simp only[Dr];go_wp2;exact IY (k:=11) (by decide) K2.out rfl rfl Df.out
 have K2:=I (Et.DC K1.out (fun e=>by have e':W.heap.size=W.heap.size+1:=e;omega));have B2:=I (B1.out.trans (Et.below (B:=W.heap.size) (fun k e=>by rw[e];exact Br _) B1.out.size));have D2:=I GV;clear Et GV;have KA:=I (K2.out.alloc (.cells #[.int .u64 (DB a),.int .u64 (DE a)] 57));have BA:=I (Below.C9 B2.out (AA.alloc AB (.cells #[.int .u64 (DB a),.int .u64 (DE a)] 57)));have DA:=I (D2.out.below (show Below w2.heap.size w2 (w2.alloc (.cells #[.int .u64 (DB a),.int .u64 (DE a)] 57))from Below.O5 AA));have kc:=I (show DJ (w2.alloc (.cells #[.int .u64 (DB a),.int .u64 (DE a)] 57)) (w2.heap.size) 57 #[.int .u64 (DB a),.int .u64 (DE a)]from by have:=(DJ.new w2 57 #[.int .u64 (DB a),.int .u64 (DE a)]);simpa using this)
 by_cases hl:r.length=1
 ·have Yd:=I (wF (show Yi w (w2.alloc (.cells #[.int .u64 (DB a),.int .u64 (DE a)] 57)) (W.heap.size+1) (some ⟨g,off,none⟩) c _ _ from by have:=DA.out.at_;rwa [show 0+1+1=((⟨#[114,111,111,116]⟩:ByteArray)::r).length by simp only[AP];omega]at this))
  have GB:=I (DA.out.pre.fin rfl hl);clear hl;go_wp2_with fail
  refine Yd.out.mono ?_;rintro e' w4 ⟨rfl,EL⟩;have K4:=I (KA.out.below EL KA.out.lt);have B4:=I (Below.C9 BA.out EL);have x00:=(kc.out.below EL kc.out.lt).cell 0;have x01:=(kc.out.below EL kc.out.lt).cell 1;have y0:=(kc.out.below EL kc.out.lt).lt;simp at x00 x01;clear EL;obtain⟨rt,xi⟩:=Rt.TM a;have AIS:=Rt.Yg xi ha;have HRT:=I (wX a rt ha xi w4);have XX:=HP.out a rt ha xi GB.out;have er:Om rt=EJ [rt]:=AD (by omega);rw[er]at XX;have e0:DB rt=0:=by unfold DB;omega
  have e1:DE rt=(rt:Int):=by unfold DE;omega
  have HGR:=I (fun w' g hg=>Qd 0 [rt] 1 rfl (by decide) (by intro k hk;rcases Ai.1 hk with rfl;omega) 57 #[.int .u64 0,.int .u64 (rt:Int)] (by show _=(#[.int .u64 (DB rt),.int .u64 (DE rt)]:Array Value);rw[e0,e1]) w' g hg);clear e0 e1 er xi AIS ha;generalize EJ [rt]=out at*;go_wp2_with fail
  refine HRT.out.mono ?_;rintro e' w7 ⟨rfl,Pp⟩;have K7:=I (K4.out.below Pp K4.out.lt);have B7:=I (Below.C9 B4.out Pp);clear Pp;go_wp2_with fail
  refine(HGR.out w7 _ rfl).mono ?_;rintro e' w8 ⟨⟨hz,rfl⟩|⟨hz,rfl⟩,Rr⟩
  ·clear hz
   have K8:=I (K7.out.below Rr K7.out.lt);have Df:=I (show Gm w F W db X _ _ from⟨_,_,rfl,XX,(HD.out.Tg HC.out).more (((Below.C9 B7.out Rr)).setCell (p:=⟨W.heap.size,0,none⟩) AB (.string out))⟩);have BK:=I (K8.out.De 0 (.string out));have k0:=K8.out.cell 0;have z0:=K8.out.frozen 0;have l0:=K8.out.lt;simp at k0;clear Rr XX;go_wp2;exact Tw (b:=W.heap.size) (by simpa using BK.out) rfl rfl Df.out
  ·exact absurd rfl hz
 ·have Yd:=I (Y6 (W.heap.size+1) (some ⟨g,off,none⟩) ((⟨#[114,111,111,116]⟩:ByteArray)::r).length c (0+1+1) (by simp only[AP];omega) _ DA.out.at_.Nu)
  have XX:=HN.out (DA.out.pre.long rfl hl);clear hl;go_wp2_with fail
  refine Yd.out.mono ?_;rintro e' w9 ⟨rfl,Ei⟩;have K9:=I (KA.out.below Ei KA.out.lt);have Df:=I (fun GQ (NV:Kept (fun i=>i=W.heap.size) w9 GQ)=>show Gm w F W db X (.returned (.string (FG 11))) GQ from⟨_,_,rfl,XX,(HD.out.Tg HC.out).more ((Below.C9 BA.out Ei).trans (NV.below (B:=W.heap.size) (fun k e=>by rw[e];exact AB) (AG BA.out.size Ei.size)))⟩);clear Ei XX;simp only[Dr];go_wp2;exact IY (k:=11) (by decide) K9.out rfl rfl Df.out
inductive Ky(X:Ek->List ByteArray->ByteArray->Ek->Prop):List ByteArray->List UInt8->Ek->Prop
 |nil:Ky X [] [] ⟨none,[]⟩
 |skip {r:List ByteArray} {o:List UInt8} {s:Ek} {x:ByteArray} (k:Ky X r o s) (h:GM x=[]\/∃l,GM x=⟨#[35]⟩::l):Ky X (r++[x]) o s
 |say {r:List ByteArray} {o:List UInt8} {s s':Ek} {x a o1:ByteArray} {l:List ByteArray} (k:Ky X r o s) (h:GM x=a::l) (ha:(a.toList== [35])=false) (h1:X s (a::l) o1 s'):Ky X (r++[x]) (o++o1.data.toList++[10]) s'
def I0(sc:ByteArray):List ByteArray:=Lib.splitB ⟨#[10]⟩ 0 (Lib.countB sc ⟨#[10]⟩) sc
def EI(sc:ByteArray):List ByteArray:=if (I0 sc).getLast? =some ByteArray.empty then (I0 sc).dropLast else I0 sc
theorem gi(sc:ByteArray):I0 sc≠ []:=by
 have:=O7 10 sc.data.toList;unfold I0;rw[NM];intro e;have h:=Ae List.length e;rw[Ak]at h;simp at h;rw[h]at this;simp at this
theorem cJ(sc:ByteArray):(I0 sc).length<=sc.size+1:=by
 have h1:=AUZ ⟨#[10]⟩ 0 (Lib.countB sc ⟨#[10]⟩) sc;have h2:=Lib.countB_le ⟨#[10]⟩ (Cr 1) sc.size sc AB;unfold I0;omega
theorem W7(c:UInt8)(s:ByteArray):∀x∈Lib.splitB ⟨#[c]⟩ 0 (Lib.countB s ⟨#[c]⟩) s,x.size<=s.size:=by
 intro p hp;rw[NM]at hp;obtain⟨q,hq,rfl⟩:=BD.1 hp;have:=On c _ q hq;rw[At]at this;exact this
theorem YH(x:ByteArray):∀a∈GM x,a.size<=x.size:=fun a ha=>W7 32 x a (List.mem_filter.1 ha).1
theorem St(sc:ByteArray):(∃L,EI sc=L/\I0 sc=L++[ByteArray.empty])\/(∃L y,EI sc=L++[y]/\I0 sc=L++[y]/\(y.toList== [])=false):=by
 obtain⟨L,y,h⟩:∃L y,I0 sc=L++[y]:=⟨_,_,(List.dropLast_concat_getLast (gi sc)).symm⟩;unfold EI;rw[h];by_cases hy:y=ByteArray.empty
 ·subst hy
  exact .inl ⟨L,by simp,rfl⟩
 ·refine .inr ⟨L,y,by simp[hy],rfl,?_⟩
  rw[CV];intro e;apply hy;rw[CD]at e;apply CC;apply ASZ;exact e
theorem hash_eq{a:ByteArray}(h:(a.toList== [35])=true):a=⟨#[35]⟩:=by
 rw[CF,CD]at h;apply CC;apply ASZ;exact h
def pQ(X:Ek->List ByteArray->ByteArray->Ek->Prop):Prop:=∀(w W:World)(F:Nat->Nat)(db c cn:Nat)(A An:Option Addr)(tv:Value)(s:Ek)(a:ByteArray)(l:List ByteArray),Gl w->Ml s->EA w W F->FN F W db tv An cn s->Reads W W.heap.size 1 A (a::l).length (C7 (a::l))->(a::l).length<=c/\c<=maxLen->
 (∀x∈a::l,x.size<=65536)->(a::l).length<=65537->Calls prog 10 #[.pointer (some ⟨db,0,none⟩),.slice A (a::l).length c] W (Gm w F W db fun o s'=>X s (a::l) o s'/\Ml s'/\IV o)
def dV(X:Ek->List ByteArray->ByteArray->Ek->Prop)(w:World)(db bb:Nat)(L:List ByteArray)(j:Nat)(wr:World):Prop:=
 ∃F s o tv An cn p v,Ky X (L.take j) o s/\o.length<=20001*j/\Ml s/\EA w wr F/\FN F wr db tv An cn s/\J9 F wr bb p v (Lib.byteCells o)
theorem dV.start(X:Ek->List ByteArray->ByteArray->Ek->Prop)(w:World)(L:List ByteArray):
 dV X w w.heap.size (w.heap.size+1) L 0 ((w.alloc (.cells #[.pointer none,.slice none 0 0] 40)).alloc (.cells #[.pointer none,.slice none 0 0] 44)):=by
 obtain⟨F,hF⟩:∃F:Nat->Nat,F=fun k=>if k=w.heap.size then 31 else if k=w.heap.size+1 then 33 else 0:=⟨_,rfl⟩
 have f1:F w.heap.size=31:=by rw[hF];simp
 have f2:F (w.heap.size+1)=33:=by rw[hF];simp
 have f3:∀k,F k≠0->k=w.heap.size\/k=w.heap.size+1:=fun k h=>by
  rw[hF]at h;simp only at h;split at h
  ·next e=>exact .inl e
  ·split at h
   ·next e=>exact .inr e
   ·exact absurd rfl h
 have b1:DJ ((w.alloc (.cells #[.pointer none,.slice none 0 0] 40)).alloc (.cells #[.pointer none,.slice none 0 0] 44)) w.heap.size 40 #[.pointer none,.slice none 0 0]:=(DJ.new _ _ _).alloc _;have b2:DJ ((w.alloc (.cells #[.pointer none,.slice none 0 0] 40)).alloc (.cells #[.pointer none,.slice none 0 0] 44)) (w.heap.size+1) 44 #[.pointer none,.slice none 0 0]:=by
  have:=DJ.new (w.alloc (.cells #[.pointer none,.slice none 0 0] 40)) 44 #[.pointer none,.slice none 0 0]
  simpa using this
 refine⟨F,⟨none,[]⟩,[],.pointer none,none,0,.pointer none,.slice none 0 0,.nil,AM _,⟨fun t h=>by cases h⟩,⟨fun k h=>?_,fun k h=>?_,(AA.alloc AB _).alloc (by simp) _⟩,⟨⟨b1,f1⟩,⟨Reads.none_,fun h=>absurd h (AT6 0)⟩,AM _,by simp,rfl,fun k e=>?_⟩,⟨⟨b2,f2⟩,AX _ _ _ _,(fun k hk=>by cases hk),(fun e=>by cases e),.inl rfl⟩⟩
 ·rcases f3 k h with e|e<;>omega
 ·rcases f3 k h with e|e<;>(simp;omega)
 ·by_cases h0:F k=0
  ·rw[h0]at e;exact PS e
  ·rcases f3 k h0 with h|h
   ·rw[h,f1]at e;exact Rf e
   ·rw[h,f2]at e
    unfold EK at e;omega
theorem iC(X:Ek->List ByteArray->ByteArray->Ek->Prop)(HX0:pQ X)(sc:ByteArray)(hs:sc.size<=1048576)(w:World)(G:Gl w):
 Calls prog 4 #[.string sc] w fun e w'=>Below w.heap.size w w'/\((65536<sc.size\/200<(EI sc).length)/\e=.returned (.string ⟨#[101,114,114,111,114,32,50,10]⟩)\/sc.size<=65536/\(EI sc).length<=200/\∃O s',Ky X (EI sc) O s'/\O.length<=20001*200/\e=.returned (.string ⟨O.toArray⟩)):=by
 obtain⟨m,hm⟩:=G.max;have HG:=I G;have HX:=I HX0;have Wr:=I (PB sc m w (by omega) hm 10);have WQ:=I (W7 10 sc);have hrl:=cJ sc;have me:0<w.heap.size:=Cd w ⟨0,0,none⟩ hm;have HM:=I hm;obtain⟨LL,km⟩:∃LL,LL=EI sc:=⟨_,rfl⟩;rw[<-km];have BK:=I (DJ.new w 9 ((I0 sc).map Value.string).toArray);change Hid (Calls _ _ _ _ fun e w'=>e=.returned (.slice (some ⟨w.heap.size,0,none⟩) (I0 sc).length (I0 sc).length)/\w'=w.alloc (.cells ((I0 sc).map Value.string).toArray 9))at Wr;change Hid (∀x∈I0 sc,x.size<=sc.size)at WQ;have mL:=I (show∀(j:Nat)(h:j<(I0 sc).length),(w.alloc (.cells ((I0 sc).map Value.string).toArray 9)).cell? ⟨w.heap.size,j,none⟩=some (.string ((I0 sc)[j]'h))from fun j h=>(BK.out.cell j).trans (by simp[h]))
 obtain⟨ws,jC⟩:∃ws,ws=w.alloc (.cells ((I0 sc).map Value.string).toArray 9):=⟨_,rfl⟩;rw[<-jC]at Wr mL;have ER:w.heap.size<ws.heap.size:=by rw[jC];simp
 have BS:=I (show Below w.heap.size w ws from by rw[jC];exact AA.alloc AB _);have HCE:Hid (∀(j:Nat)(h:j<LL.length),ws.cell? ⟨w.heap.size,j,none⟩=some (.string (LL[j]'h))):=I fun j h=>by
  rcases St sc with⟨L,h1,h2⟩|⟨L,y,h1,h2,h3⟩
  ·obtain rfl:=km.trans h1
   rw[mL.out j (by rw[h2];simp;omega)];simp only[h2];rw[AUY h]
  ·obtain rfl:=km.trans (h1.trans h2.symm)
   exact mL.out j h
 have HLX:Hid (∀x∈LL,x.size<=sc.size):=I fun x hx=>by
  rcases St sc with⟨L,h1,h2⟩|⟨L,y,h1,h2,h3⟩
  ·obtain rfl:=km.trans h1
   exact WQ.out x (by rw[h2];exact List.mem_append_left _ hx)
  ·obtain rfl:=km.trans (h1.trans h2.symm)
   exact WQ.out x hx
 obtain⟨n,hn⟩:∃n,n=LL.length:=⟨_,rfl⟩;have fU:=I hn;have R0:=I (dV.start X ws LL);have ADq:(∃cap,(I0 sc).length=n+1/\cap=n+1/\ws.cell? ⟨w.heap.size,n,none⟩=some (.string ByteArray.empty))\/∃y,n=(I0 sc).length/\1<=n/\(y.toList== [])=false/\ws.cell? ⟨w.heap.size,n- 1,none⟩=some (.string y):=by
  rcases St sc with⟨L,h1,h2⟩|⟨L,y,h1,h2,h3⟩
  ·obtain rfl:=km.trans h1
   have hl:(I0 sc).length=n+1:=by rw[h2,hn];simp
   refine .inl ⟨_,hl,rfl,?_⟩;rw[mL.out n (by omega)];simp only[h2,hn];rw[AUX AB];simp
  ·have hl:(I0 sc).length=n:=by rw[hn,km,h1,h2]
   have I4:(L++[y]).length=n:=by rw[<-h2];exact hl
   have Y5:n=L.length+1:=by rw[<-I4];simp
   refine .inr ⟨y,hl.symm,by omega,h3,?_⟩;rw[mL.out (n- 1) (by omega)];simp only[h2];rw[AUX (by omega)];simp
 have Jw:=hn;clear jC hn km G hm HX0 BK mL WQ;generalize (I0 sc).length=q at*;by_cases O6:65536<sc.size\/200<n
 ·have HBG:=I (show 65536<sc.size\/200<LL.length from by rw[<-Jw];exact O6)
  clear Jw;rcases ADq with⟨cap,rfl,rfl,lc⟩|⟨y,rfl,Hc,hy,lc⟩;all_goals
   by_cases WP:(65536:Int)<(sc.size:Int)
   ·clear O6
    go_in;go_wp2_with fail
    refine Wr.out.mono ?_;rintro e' w1 ⟨rfl,rfl⟩;go_wp2;go_ret;exact⟨BS.out,.inl ⟨HBG.out,rfl⟩⟩
   ·have sw:(200:Int)<(n:Int):=by omega
    clear O6;go_in;go_wp2_with fail
    refine Wr.out.mono ?_;rintro e' w1 ⟨rfl,rfl⟩;go_wp2;go_ret;exact⟨BS.out,.inl ⟨HBG.out,rfl⟩⟩
 ·have hsc:(sc.size:Int)<=65536:=by omega
  have AKb:(n:Int)<=200:=by omega
  have AC0:=I (show sc.size<=65536 by omega);have hng:=I (show n<=200 by omega);clear O6 hs Jw;rcases ADq with⟨cap,rfl,rfl,lc⟩|⟨y,rfl,Hc,hy,lc⟩;all_goals
   go_in;go_wp2_with fail
   refine Wr.out.mono ?_;rintro e' w1 ⟨rfl,rfl⟩;go_wp2_with fail
   go_loopw [38] (fun iv wr=>∃j:Nat,j<=n/\iv=.int .i64 (j:Int)/\dV X w1 w1.heap.size (w1.heap.size+1) LL j wr) (fun iv _=>n- (RowKit.intOf iv).toNat)
   case atStart=>exact⟨0,AM _,rfl,R0.out⟩
   case round=>
    obtain⟨j,hj,rfl,hrel⟩:=hrel;obtain⟨wo,rfl⟩:∃wo,wo=wr:=⟨_,rfl⟩;obtain⟨F,s,o,tv,An,cn,p,v,vj,hol,hgs,hC,hD,hB⟩:=hrel;have HCH:=I vj;have HGS:=I hgs;have HOL:=I hol;have HC:=I hC;have HD:=I hD;have Un:=I hB;have BO:=I hC.DI;have hso:w1.heap.size<=wo.heap.size:=hC.DI.size;have ii:=hD.DC.1.lt;have lbb:=hB.DC.1.lt;clear R0 vj hgs hol hC hD hB;by_cases DG:j<n
    ·have IJ:j<LL.length:=by rw[<-fU.out];exact DG
     have cj:=(BO.out.cell (p:=⟨w.heap.size,j,none⟩) ER).trans (HCE.out j IJ);have lw:w.heap.size<wo.heap.size:=by omega
     have HXS:=I (AG (HLX.out _ (AL IJ)) AC0.out);have T6:=I (Af IJ);generalize LL[j]'IJ=x at*;clear IJ;have HM2:=I ((BO.out.cell (p:=⟨0,0,none⟩) (Bk (AM _) ER)).trans ((BS.out.cell (p:=⟨0,0,none⟩) me).trans HM.out));have Rp:=I (PB x m wo (by have:=HXS.out;omega) HM2.out 32);have hnp:=fk x;have gP:=HXS.out;have HWO:=I (show GM x=(pieces x).filter Mf from rfl);have ZO:=I (show∀(k:Nat)(h:k<(pieces x).length),(wo.alloc (.cells ((pieces x).map Value.string).toArray 9)).cell? ⟨wo.heap.size,k,none⟩=some (.string ((pieces x)[k]'h))from fun k h=>((DJ.new wo 9 ((pieces x).map Value.string).toArray).cell k).trans (by simp[h]))
     change Hid (Calls _ _ _ _ fun e w'=>e=.returned (.slice (some ⟨wo.heap.size,0,none⟩) (pieces x).length (pieces x).length)/\w'=wo.alloc (.cells ((pieces x).map Value.string).toArray 9))at Rp;obtain⟨wi,oo⟩:∃wi,wi=wo.alloc (.cells ((pieces x).map Value.string).toArray 9):=⟨_,rfl⟩;rw[<-oo]at Rp ZO;have hzi:wo.heap.size<wi.heap.size:=by rw[oo];simp
     have BI:=I (show Below wo.heap.size wo wi from by rw[oo];exact AA.alloc AB _);clear oo;generalize pieces x=ps at*;have APX:(ps.length:Int)<=65537:=by omega
     go_wp2_with fail
     refine Rp.out.mono ?_;rintro e' w2 ⟨rfl,rfl⟩;go_wp2_with fail
     obtain⟨i0,hi,Fq,FZ,Fe⟩:=AO LM;go_loopw [9,45] (fun av iv wr=>∃(k:Nat)(M:List ByteArray),k<=ps.length/\iv=.int .i64 (k:Int)/\Hid (M=(ps.take k).filter Mf)/\wr.ownsRow w2.heap.size 9 1 av M.length (C7 M)/\Below w2.heap.size w2 wr) (fun _ iv _=>ps.length- (RowKit.intOf iv).toNat)
     case atStart=>exact⟨0,[],AM _,rfl,I rfl,AX _ _ _ _,AA⟩
     case round=>
      obtain⟨k,M,hk,rfl,gy,DL,qf⟩:=hrel;obtain⟨w3,rfl⟩:∃w3,w3=wr:=⟨_,rfl⟩;obtain⟨A3,c3,rfl⟩:=Cz DL;have HOW:=I DL;have im:=I qf;have hz3:w2.heap.size<=w3.heap.size:=qf.size;have hM:=AUa Mf (ps.take k);rw[<-gy.out,AV]at hM;clear DL qf;by_cases Et:k<ps.length
      ·have ck:=(im.out.cell (p:=⟨wo.heap.size,k,none⟩) hzi).trans (ZO.out k Et)
       have HFT:=I (Za ps k Et);generalize ps[k]'Et=a at*;cases hb:(a.toList== [])with
       |true=>
        have Y4:=I (show M=(ps.take (k+1)).filter Mf by rw[HFT.out true hb,<-gy.out];simp);clear HFT;go_wp2;exact⟨⟨k+1,M,by omega,by simp,Y4,HOW.out,im.out⟩,by simp[RowKit.intOf];omega⟩
       |false=>
        have Y4:=I (show M++[a]=(ps.take (k+1)).filter Mf by rw[HFT.out false hb,<-gy.out];simp);have iS:=I (Mu w3 9 a);have H1:=I (YL [a]);clear HFT;go_wp2_with (at_builtin;refine EU _ rfl _ _ 31 rfl w2.heap.size 9 i0 _ 1 16 underlying31 hi Fq FZ Fe rfl (by decide) _ _ _ rfl (HOW.out.alloc _) _ _ 1 _ _ rfl iS.out H1.out ?c1 ?c2 ?c3 ?_)
        case c1=>unfold maxLen;omega
        case c2=>omega
        case c3=>first|omega|(simp;omega)
        intro v9 w9 Db Ei;have Df:=I (show w9.ownsRow w2.heap.size 9 1 v9 (M++[a]).length (C7 (M++[a]))by rw[AN,BJ,Iq];exact Db);have FB:=I ((im.out.alloc hz3 _).trans Ei);clear Db Ei;go_wp2;exact⟨⟨k+1,M++[a],by omega,by simp,Y4,Df.out,FB.out⟩,by simp[RowKit.intOf];omega⟩
      ·obtain rfl:k=ps.length:=by omega
       have Y4:=I (show GM x=M by rw[HWO.out,gy.out,Ap]);have dI:=I (show Below wo.heap.size wo w3 from Below.C9 BI.out im.out);have ANB:w1.heap.size<w3.heap.size:=by omega
       have AO3:w1.heap.size+1<w3.heap.size:=by omega
       have mr:=I (YH x);have hML:M.length<=65537:=by omega
       rw[Y4.out]at mr;clear hM cj ZO hzi hz3 lw;cases M with
       |nil=>
        have Df:=I (show dV X w1 w1.heap.size (w1.heap.size+1) LL (j+1) w3 from⟨F,s,o,tv,An,cn,p,v,by rw[T6.out];exact .skip HCH.out (.inl Y4.out),by have:=HOL.out;omega,HGS.out,HC.out.below dI.out,HD.out.below HC.out dI.out,Un.out.below HC.out dI.out⟩);go_wp2;exact⟨⟨j+1,by omega,by simp,Df.out⟩,by simp[RowKit.intOf];omega⟩
       |cons a l=>
        obtain⟨g9,c9,vC,Ei,iI,hn9,hm9,eK⟩:=Eu HOW.out (by simp);have q0:=eK 0 (.string a) rfl;injection vC with hA9 AJD hc9
        subst hA9 hc9;have hl9:(0:Int)<((a::l).length:Int):=by simp only[AP];omega
        have hl8:(((a::l).length:Int)==0)=false:=by simp only[AP,CV];omega
        cases hb:(a.toList== [35])with
        |true=>
         have Df:=I (show dV X w1 w1.heap.size (w1.heap.size+1) LL (j+1) w3 from⟨F,s,o,tv,An,cn,p,v,by rw[T6.out];exact .skip HCH.out (.inr ⟨l,by rw[Y4.out,hash_eq hb]⟩),by have:=HOL.out;omega,HGS.out,HC.out.below dI.out,HD.out.below HC.out dI.out,Un.out.below HC.out dI.out⟩);generalize (a::l).length=n9 at*;clear eK;go_wp2;exact⟨⟨j+1,by omega,by simp,Df.out⟩,by simp[RowKit.intOf];omega⟩
        |false=>
         have HAN:=I (HX.out w1 w3 F w1.heap.size _ cn _ An tv s a l (HG.out.below BS.out) HGS.out (HC.out.below dI.out) (HD.out.below HC.out dI.out) (Reads.DR HOW.out) (Ec HOW.out) (fun y hy=>AG (mr.out y hy) HXS.out) hML);have tU:=I hb;generalize (a::l).length=n9 at*;clear eK hML;go_wp2_with fail
         refine HAN.out.mono ?_;rintro e' w4 ⟨o1,s',rfl,⟨hX1,Ld,N7⟩,F4,tv4,A4,c4,hC4,m4,d4⟩;have pY:o1.data.toList.length=o1.size:=by rw[At];rfl
         have Yx:=N7.2;have ABm:=I (show Ky X (LL.take (j+1)) (o++o1.data.toList++[10]) s' from by rw[T6.out];exact .say HCH.out Y4.out tU.out hX1);have zi:=I Ld;have C4:=I hC4;have D4:=I d4;have B4:=I ((Un.out.below HC.out dI.out).other (HC.out.below dI.out) m4 YZ);have hol:=HOL.out;clear hC4 m4 d4 q0 hX1 Ld N7;go_wp2_with fail
         refine(vJ B4.out C4.out o1 (by rw[Ps];omega)).mono ?_;rintro e' w5 ⟨rfl,F5,v5,hC5,m5,b5⟩;have C5:=I hC5;have D5:=I (D4.out.other C4.out m5 (fun c e=>by rw[e];exact YZ));have B5:=I b5;clear hC5 m5 b5;go_wp2_with fail
         refine(tu B5.out C5.out 10 (by rw[AN,Ps,Lib.strCells_length];omega)).mono ?_;rintro e' w6 ⟨rfl,F6,v6,hC6,m6,b6⟩;have Df:=I (show dV X w1 w1.heap.size (w1.heap.size+1) LL (j+1) w6 from⟨F6,s',_,tv4,A4,c4,_,v6,ABm.out,by rw[AN,AN,BJ];omega,zi.out,hC6,D5.out.other C5.out m6 (fun c e=>by rw[e];exact YZ),by rw[Pv,Pv];exact b6⟩);clear hC6 m6 b6 hol Yx pY;go_wp2;exact⟨⟨j+1,by omega,by simp,Df.out⟩,by simp[RowKit.intOf];omega⟩
    ·obtain rfl:j=n:=by omega
     have ABm:=I (show Ky X LL o s from by have:=HCH.out;rwa [fU.out,Ap]at this);have GB:=I (Tryz.Builder_String_any_k w1.heap.size (w1.heap.size+1) o wo (Un.out.isB HC.out) hso);go_wp2_with fail
     refine GB.out.mono ?_;rintro e' w9 ⟨rfl,-,Ei,-⟩;have Df:=I (BS.out.trans ((BO.out.trans Ei).mono (Nat.le_of_lt ER)));clear Ei;go_wp2;go_ret;exact⟨Df.out,.inr ⟨AC0.out,by rw[<-fU.out];exact hng.out,_,_,ABm.out,by have:=HOL.out;have:=hng.out;omega,rfl⟩⟩
def RL(s:Ek)(l:List ByteArray)(o:ByteArray)(s':Ek):Prop:=∀(w W:World)(F:Nat->Nat)(rb c cn:Nat)(A An:Option Addr)(tv:Value)(m:Int),W.cell? ⟨0,0,none⟩=some (.int .i64 m)->EA w W F->H6 F W rb tv An cn s->Reads W W.heap.size 1 A l.length (C7 l)->
 Calls prog 6 #[.pointer (some ⟨rb,0,none⟩),.slice A l.length c] W (py fun o' W'=>o'=o/\Jm w F W rb s' W')
section
variable{s s':Ek}{a o:ByteArray}{r:List ByteArray}{st:Np}
theorem qg(hn:JI a r=none)(ER:∀x∈r,x.size<=65536)(hl:r.length<=65536)(s:Ek):RL s (a::r) (FG 11) s:=fun w W F rb c cn A An tv m hm hC hD hr=>
 yG rb A c a r W m hm hr ER hl _ (fun _ W' hb=>⟨rfl,hD.back hC hb⟩) (fun st GR=>by rw[hn]at GR;cases GR)
theorem jH(GR:JI a r=some st)(ER:∀x∈r,x.size<=65536)(hl:r.length<=65536)
 (H:∀(w W:World)(F:Nat->Nat)(rb cn:Nat)(An:Option Addr)(tv:Value),EA w W F->H6 F W rb tv An cn s->∀W' nv lv sv gv,L4 W W' nv lv sv gv st->ACW rb a st nv lv sv gv W' fun o' W''=>o'=o/\Jm w F W rb s' W''):RL s (a::r) o s':=fun w W F rb c cn A An tv m hm hC hD hr=>
 yG rb A c a r W m hm hr ER hl _ (fun h=>by rw[GR]at h;cases h) (fun st2 h2 W' nv lv sv gv h4=>by
  rw[GR]at h2;cases h2;exact H w W F rb cn An tv hC hD W' nv lv sv gv h4)
theorem Xg{w W W':World}{F:Nat->Nat}{e:TypeId}{size n c:Nat}{A:Option Addr}{xs:List Value}(hC:EA w W F)(h:W'.ownsRow W.heap.size e size (.slice A n c) n xs):IW F 0 W' size n A xs:=
 ⟨Reads.DR h,fun _ a ha=>by
   subst ha;have:=(h.lt a.block rfl).1;by_cases h0:F a.block=0
   ·exact h0
   ·have:=hC.hi _ h0
    omega⟩
theorem ua{x y:Nat}(hw:ag a)(GR:JI a r=some ⟨[],[],[],[x,y]⟩)(hx:x<2^128)(hy:y<2^128)(ER:∀x∈r,x.size<=65536)(hl:r.length<=65536)(s:Ek):RL s (a::r) (Hf a x y) s:=
 jH GR ER hl fun w W F rb cn An tv hC hD W' nv lv sv gv h4=>⟨fun _=>by
  obtain⟨Ag,cg,rfl⟩:=Cz h4.g;exact(ea a hw x y hx hy Ag cg W' (Reads.DR h4.g)).mono fun e W2 ⟨q1,q2⟩=>⟨_,q1,rfl,hD.back hC (Below.C9 h4.DI q2)⟩,fun h=>(by cases h),fun h=>(by cases h)⟩
theorem xL{x rt:Nat}(GR:JI ⟨#[114,111,111,116]⟩ r=some ⟨[],[],[],[x]⟩)(hx:x<2^128)(xi:Rt.Mo x rt)(ER:∀x∈r,x.size<=65536)(hl:r.length<=65536)(s:Ek):RL s (⟨#[114,111,111,116]⟩::r) (Om rt) s:=
 jH GR ER hl fun w W F rb cn An tv hC hD W' nv lv sv gv h4=>⟨fun _=>by
  obtain⟨Ag,cg,rfl⟩:=Cz h4.g;exact(bx x rt hx xi Ag cg 1 (by decide) [] W' (by rw[CP];exact Reads.DR h4.g)).mono fun e W2 ⟨q1,q2⟩=>⟨_,q1,rfl,hD.back hC (Below.C9 h4.DI q2)⟩,fun h=>(by cases h),fun h=>(by cases h)⟩
theorem AAo{l ns:List Nat}(GR:JI a r=some ⟨ns,l,[],[]⟩)(h1:1<=l.length)(hv:zU a (lI l) ns o)(ER:∀x∈r,x.size<=65536)(hl:r.length<=65536)(s:Ek):RL s (a::r) o s:=
 jH GR ER hl fun w W F rb cn An tv hC hD W' nv lv sv gv h4=>⟨fun h=>absurd rfl h,fun _ _=>by
  obtain⟨Al,cl,rfl⟩:=Cz h4.l;obtain⟨Nn,cn2,rfl⟩:=Cz h4.n;have h:=hv W' Al Nn cl cn2 (by rw[J2,cI];exact Reads.DR h4.l) (Reads.DR h4.n) (by rw[J2];exact Ec h4.l);rw[J2]at h;exact h.mono fun e W2 ⟨q1,q2⟩=>⟨_,q1,rfl,hD.back hC (Below.C9 h4.DI q2)⟩,fun _ h=>by have h':l=[]:=h;rw[h']at h1;cases h1⟩
theorem NZ{ns:List Nat}{ss:List ByteArray}(GR:JI a r=some ⟨ns,[],ss,[]⟩)(ER:∀x∈r,x.size<=65536)(hl:r.length<=65536)
 (H:∀(w W:World)(F:Nat->Nat)(rb cn:Nat)(An:Option Addr)(tv:Value),EA w W F->H6 F W rb tv An cn s->∀(Nn Ss:Option Addr)(c1 c2:Nat),IW F 0 W 1 ns.length Nn (ET ns)->IW F 0 W 1 ss.length Ss (C7 ss)->
   Calls prog 18 #[.pointer (some ⟨rb,0,none⟩),.string a,.slice Nn ns.length c1,.slice Ss ss.length c2] W fun e W'=>e=.returned (.string o)/\Jm w F W rb s' W'):RL s (a::r) o s':=
 jH GR ER hl fun w W F rb cn An tv hC hD W' nv lv sv gv h4=>⟨fun h=>absurd rfl h,fun _ h=>absurd rfl h,fun _ _=>by
  obtain⟨Nn,c1,rfl⟩:=Cz h4.n;obtain⟨Ss,c2,rfl⟩:=Cz h4.s;exact(H w W' F rb cn An tv (hC.below h4.DI) (hD.below hC h4.DI) Nn Ss c1 c2 (Xg hC h4.n) (Xg hC h4.s)).mono fun e W2 ⟨q1,q2⟩=>⟨_,q1,rfl,q2.from_ hC h4.DI⟩⟩
end
theorem YN{N:List Dm}(hn:N.length<=40)(hs:∀p∈N,IC p/\JK p.1=true):IV (FC N):=by
 have:=L8 N (fun p hp=>(hs p hp).1) N.length AB;rw[Ap]at this;exact⟨oB hs,by omega⟩
theorem Yo:IV jz:=⟨by unfold Nl jz;decide,by decide⟩
theorem fE{er:Int}{o:ByteArray}(h:0<=er/\er<100)(ho:IV o):IV (FF er o):=by
 unfold FF;split
 ·exact ho
 ·exact Ht _ (by omega)
theorem NH(t:DQ)(L:List Dg)(f:DQ->Int×ByteArray×DQ):(Ek.mk (some t) L).EG f=((f t).1,(f t).2.1,⟨some (f t).2.2,L⟩):=rfl
theorem Kp{s:Ek}{f:DQ->Int×ByteArray×DQ}(hs:Ml s)(h:∀t,Dt t->JB t->(0<=(f t).1/\(f t).1<100)/\IV (f t).2.1/\Dt (f t).2.2/\JB (f t).2.2):Ml (s.EG f).2.2/\IV (FF (s.EG f).1 (s.EG f).2.1):=by
 obtain⟨T,L⟩:=s;cases T with
 |none=>exact⟨hs,Ht 4 (by decide)⟩
 |some t=>
  obtain⟨g,u⟩:=hs.Fo t rfl;obtain⟨h1,h2,h3,h4⟩:=h t g u;exact⟨⟨fun t' e=>by cases e;exact⟨h3,h4⟩⟩,fE h1 h2⟩
section
variable{s:Ek}{r:List ByteArray}
theorem vY{k:Nat}(hs:Ml s)(GR:JI ⟨#[116,105,99,107]⟩ r=some ⟨[k],[],[],[]⟩)(ER:∀x∈r,x.size<=65536)(hl:r.length<=65536):RL s (⟨#[116,105,99,107]⟩::r) (FF (s.EG (Sw k)).1 (s.EG (Sw k)).2.1) (s.EG (Sw k)).2.2:=by
 obtain⟨T,L⟩:=s;refine NZ GR ER hl fun w W F rb cn An tv hC hD Nn Ss c1 c2 hn YJ=>?_;cases T with
 |none=>exact NB hC hD _ ⟨by decide+kernel,by decide+kernel⟩ _ _
 |some t=>
  obtain⟨g,u⟩:=hs.Fo t rfl;exact wj hC hD (AG (U0 g k) (by decide)) (fun _ p hp=>(VL u g k p hp).1) (U4 t k) hn
end
section
variable{s:Ek}{r:List ByteArray}
theorem rE{i z:Nat}(hs:Ml s)(GR:JI ⟨#[98,114,105,110,103]⟩ r=some ⟨[i,z],[],[],[]⟩)(ER:∀x∈r,x.size<=65536)(hl:r.length<=65536):RL s (⟨#[98,114,105,110,103]⟩::r) (FF (s.EG (PH i z)).1 (s.EG (PH i z)).2.1) (s.EG (PH i z)).2.2:=by
 obtain⟨T,L⟩:=s;refine NZ GR ER hl fun w W F rb cn An tv hC hD Nn Ss c1 c2 hn YJ=>?_;cases T with
 |none=>exact NB hC hD _ ⟨by decide+kernel,by decide+kernel⟩ _ _
 |some t=>
  obtain⟨g,u⟩:=hs.Fo t rfl;exact pa hC hD (AG (Kb u g i z).1 (by decide)) (fun _ p hp=>((Kb u g i z).2 p hp).1) (SF t i z) hn
theorem vS{i:Nat}(hs:Ml s)(GR:JI ⟨#[108,111,115,101]⟩ r=some ⟨[i],[],[],[]⟩)(ER:∀x∈r,x.size<=65536)(hl:r.length<=65536):RL s (⟨#[108,111,115,101]⟩::r) (FF (s.EG (TA i)).1 (s.EG (TA i)).2.1) (s.EG (TA i)).2.2:=by
 obtain⟨T,L⟩:=s;refine NZ GR ER hl fun w W F rb cn An tv hC hD Nn Ss c1 c2 hn YJ=>?_;cases T with
 |none=>exact NB hC hD _ ⟨by decide+kernel,by decide+kernel⟩ _ _
 |some t=>exact wM hC hD (WH t i) hn
theorem uq{i:Nat}(hs:Ml s)(GR:JI ⟨#[115,116,111,112]⟩ r=some ⟨[i],[],[],[]⟩)(ER:∀x∈r,x.size<=65536)(hl:r.length<=65536):RL s (⟨#[115,116,111,112]⟩::r) (FF (s.EG (S5 i)).1 (s.EG (S5 i)).2.1) (s.EG (S5 i)).2.2:=by
 obtain⟨T,L⟩:=s;refine NZ GR ER hl fun w W F rb cn An tv hC hD Nn Ss c1 c2 hn YJ=>?_;cases T with
 |none=>exact NB hC hD _ ⟨by decide+kernel,by decide+kernel⟩ _ _
 |some t=>exact vN hC hD (Uo t i) hn
theorem yx(hs:Ml s)(GR:JI ⟨#[119,97,121]⟩ r=some ⟨[],[],[],[]⟩)(ER:∀x∈r,x.size<=65536)(hl:r.length<=65536):RL s (⟨#[119,97,121]⟩::r) (FF (s.EG Zk).1 (s.EG Zk).2.1) (s.EG Zk).2.2:=by
 obtain⟨T,L⟩:=s;refine NZ GR ER hl fun w W F rb cn An tv hC hD Nn Ss c1 c2 hn YJ=>?_;cases T with
 |none=>exact NB hC hD _ ⟨by decide+kernel,by decide+kernel⟩ _ _
 |some t=>exact ABc hC hD _ _
theorem qo(hs:Ml s)(GR:JI ⟨#[115,116,97,114,116]⟩ r=some ⟨[],[],[],[]⟩)(ER:∀x∈r,x.size<=65536)(hl:r.length<=65536):RL s (⟨#[115,116,97,114,116]⟩::r) (FF s.P3.1 s.P3.2.1) s.P3.2.2:=by
 obtain⟨T,L⟩:=s;refine NZ GR ER hl fun w W F rb cn An tv hC hD Nn Ss c1 c2 hn YJ=>?_;cases T with
 |none=>exact nB hC hD _ _
 |some t=>exact bU hC hD _ (.inr rfl) _ _
theorem xN{id:ByteArray}{ev ca le:Nat}(hs:Ml s)(GR:JI ⟨#[110,111,100,101]⟩ r=some ⟨[ev,ca,le],[],[id],[]⟩)(hid:id.size<=maxLen)(ER:∀x∈r,x.size<=65536)(hl:r.length<=65536):RL s (⟨#[110,111,100,101]⟩::r) (FF (s.Ux (id,0,ev,ca,le)).1 (s.Ux (id,0,ev,ca,le)).2.1) (s.Ux (id,0,ev,ca,le)).2.2:=by
 obtain⟨T,L⟩:=s;refine NZ GR ER hl fun w W F rb cn An tv hC hD Nn Ss c1 c2 hn YJ=>?_;cases T with
 |none=>exact wI hC hD id ev ca le hid hn.1 YJ.1
 |some t=>exact bU hC hD _ (.inl rfl) _ _
theorem wy{i th:Nat}{id:ByteArray}(hs:Ml s)(GR:JI ⟨#[106,111,105,110]⟩ r=some ⟨[i,th],[],[id],[]⟩)(ER:∀x∈r,x.size<=65536)(hl:r.length<=65536):RL s (⟨#[106,111,105,110]⟩::r) (FF (s.EG (Nd i id th)).1 (s.EG (Nd i id th)).2.1) (s.EG (Nd i id th)).2.2:=by
 obtain⟨T,L⟩:=s;refine NZ GR ER hl fun w W F rb cn An tv hC hD Nn Ss c1 c2 hn YJ=>?_;cases T with
 |none=>exact NB hC hD _ ⟨by decide+kernel,by decide+kernel⟩ _ _
 |some t=>
  obtain⟨g,u⟩:=hs.Fo t rfl;cases hv:t.FH (i:Int)with
  |false=>
   have e:Nd i id th t=(4,FC [],t):=by unfold Nd DQ.FA DQ.Fa DQ.Dy;rw[hv];rfl
   rw[NH,e];exact gp hC hD _ (.inl ⟨rfl,rfl⟩) i hv hn _
  |true=>
   obtain⟨k,bj,hk,-⟩:=Fu hv;obtain rfl:i=k:=by omega
   have hb:=UU t (i:Int) id th;have hN:=OT u g (i:Int) id th;have e1:t.FA (i:Int) id th=(t.L[i]'hk).1.FA id th:=by unfold DQ.FA;rw[AD hv,DQ.JS hk]
   have e2:t.Fa (i:Int) id th=(t.L[i]'hk).1.Fa id th:=by unfold DQ.Fa;rw[AD hv,DQ.JS hk]
   have e3:t.Dy (i:Int) id th=t.node i ((t.L[i]'hk).1.Dy id th):=by unfold DQ.Dy;rw[AD hv,DQ.JS hk,Bp]
   have e:Nd i id th t=((t.L[i]'hk).1.FA id th,FC ((t.L[i]'hk).1.Fa id th),t.node i ((t.L[i]'hk).1.Dy id th)):=by unfold Nd;rw[e1,e2,e3]
   rw[NH,e];rw[e1]at hb;rw[e2]at hN;exact tt hC hD i hv hk id th (AG hN.1 (by decide)) (fun _ p hp=>(hN.2 p hp).1) hb hn YJ
theorem ADs{i:Nat}{id:ByteArray}(hs:Ml s)(GR:JI ⟨#[97,115,107]⟩ r=some ⟨[i],[],[id],[]⟩)(ER:∀x∈r,x.size<=65536)(hl:r.length<=65536):RL s (⟨#[97,115,107]⟩::r) (FF (s.EG (Ti i id)).1 (s.EG (Ti i id)).2.1) (s.EG (Ti i id)).2.2:=by
 obtain⟨T,L⟩:=s;refine NZ GR ER hl fun w W F rb cn An tv hC hD Nn Ss c1 c2 hn YJ=>?_;cases T with
 |none=>exact NB hC hD _ ⟨by decide+kernel,by decide+kernel⟩ _ _
 |some t=>
  obtain⟨g,u⟩:=hs.Fo t rfl;cases hv:t.FH (i:Int)with
  |false=>
   have e:Ti i id t=(4,GF 0,t):=by unfold Ti DQ.li DQ.Pw;rw[hv];rfl
   rw[NH,e];exact gp hC hD _ (.inr ⟨rfl,rfl⟩) i hv hn _
  |true=>
   obtain⟨k,bj,hk,-⟩:=Fu hv;obtain rfl:i=k:=by omega
   have hb:=gJ t (i:Int) id;have e1:t.li (i:Int) id=Lh (t.L[i]'hk).1.D id:=by unfold DQ.li;rw[AD hv,DQ.JS hk]
   have e2:t.Pw (i:Int) id=(t.L[i]'hk).1.lv id:=by unfold DQ.Pw;rw[AD hv,DQ.JS hk]
   have e:Ti i id t=(Lh (t.L[i]'hk).1.D id,GF ((t.L[i]'hk).1.lv id),t):=by unfold Ti;rw[e1,e2]
   rw[NH,e];rw[e1]at hb;exact zv hC hD i hv hk id (fun _=>yq (g.Fo _ (AL hk)) id) hb hn YJ
end
theorem qy:∀u∈Lx,u∈FT.map Prod.fst:=by decide+kernel
theorem Uy(x:List UInt8):∀(L:List (List UInt8×List UInt8))(a:List UInt8×Bool),(a.2=true\/∃p∈L,p.1=x)->(L.foldl (fun a p=>if p.1=x then (p.2,true)else a) a).2=true
 | [],a,h=>by
   rcases h with h|⟨p,hp,-⟩
   ·exact h
   ·cases hp
 |p::L,a,h=>by
  rw[List.foldl_cons];apply Uy x L;by_cases hp:p.1=x
  ·exact .inl (by rw[AD hp])
  ·rw[AC hp]
   rcases h with h|⟨q,hq,e⟩
   ·exact .inl h
   ·rcases AR.1 hq with rfl|hq
    ·exact absurd e hp
    ·exact .inr ⟨q,hq,e⟩
theorem bV:∀(fs:List UInt8)(xs:List ByteArray)(st UA:Np),Dl fs xs st=some UA->∀x∈UA.s,x∈st.s\/x∈xs
 | [],[],st,UA,h,x,hx=>by cases h;exact .inl hx
 | [],y::xs,st,UA,h,x,hx=>by cases h
 |f::fs,[],st,UA,h,x,hx=>by cases h
 |f::fs,y::xs,st,UA,h,x,hx=>by
  unfold Dl at h;cases hs:Gy f y st with
  |none=>rw[hs]at h;cases h
  |some st1=>
   rw[hs]at h;rcases bV fs xs st1 UA h x hx with h1|h1
   ·have hm:x∈st.s\/x=y:=by
     unfold Gy at hs;split at hs
     ·cases hs
      rcases Au.1 h1 with h1|h1
      ·exact .inl h1
      ·exact .inr (Ai.1 h1)
     ·split at hs
      ·split at hs
       ·cases hs;exact .inl h1
       ·cases hs
      ·split at hs
       ·split at hs
        ·cases hs;exact .inl h1
        ·cases hs
       ·cases hn:Gx (Lf y)with
        |none=>rw[hn]at hs;cases hs
        |some l=>rw[hn]at hs;cases hs;exact .inl h1
    rcases hm with h2|rfl
    ·exact .inl h2
    ·exact .inr (Ay ..)
   ·exact .inr (Am _ h1)
def XQ(s:Ek)(l:List ByteArray)(o:ByteArray)(s':Ek):Prop:=RL s l o s'/\Ml s'/\IV o
def y9(a:mq):Prop:=Ml a.2.2/\IV (FF a.1 a.2.1)
section
variable{s:Ek}{r:List ByteArray}
theorem xR(k:Int)(hs:Ml s):y9 (s.EG (Sw k)):=Kp (f:=Sw k) hs fun t g u=>⟨U4 t k,YN (U0 g k) (VL u g k),g.DP k,u.DP k⟩
theorem oP(i j:Int)(hs:Ml s):y9 (s.EG (PH i j)):=Kp (f:=PH i j) hs fun t g u=>⟨SF t i j,YN (AG (Kb u g i j).1 (by decide)) (Kb u g i j).2,g.brought i j,u.brought i j⟩
theorem uk(i:Int)(hs:Ml s):y9 (s.EG (TA i)):=Kp (f:=TA i) hs fun t g u=>⟨WH t i,Yo,g.lost i,u.lost i⟩
theorem ug(i:Int)(hs:Ml s):y9 (s.EG (S5 i)):=Kp (f:=S5 i) hs fun t g u=>⟨Uo t i,Yo,g.Ey i,u.Ey i⟩
theorem AAh(hs:Ml s):y9 (s.EG (Zk)):=Kp (f:=Zk) hs fun t g u=>⟨(by decide:(0:Int)<=0/\(0:Int)<100),T9 _ (by simp) (by intro k hk;rcases Ai.1 hk with rfl;have:=g.way;omega),g,u⟩
theorem AAL(i:Int)(id:ByteArray)(hs:Ml s):y9 (s.EG (Ti i id)):=Kp (f:=Ti i id) hs fun t g u=>⟨gJ t i id,Ju (oi g i id).2,g,u⟩
theorem tW(i:Int)(id:ByteArray)(th:Int)(hs:Ml s):y9 (s.EG (Nd i id th)):=Kp (f:=Nd i id th) hs fun t g u=>⟨UU t i id th,YN (AG (OT u g i id th).1 (by decide)) (OT u g i id th).2,g.Dy i id th,u.Dy g i id th⟩
theorem pu(hs:Ml s):Ml s.P3.2.2/\IV (FF s.P3.1 s.P3.2.1):=by
 refine⟨?_,fE (XT s) Yo⟩;show Ml s.started;unfold Ek.started;split
 ·next h=>
  refine⟨fun t e=>?_⟩;cases e;unfold Ek.Kz at h;split at h
  ·cases h
  ·obtain⟨h5,hg⟩:=Is h
   exact⟨Dt.gS h5 hg,JB.start s.L⟩
 ·exact hs
theorem uj(x:Dg)(hs:Ml s):Ml (s.Ux x).2.2/\IV (FF (s.Ux x).1 (s.Ux x).2.1):=by
 refine⟨?_,fE (bJ s x) Yo⟩;show Ml (s.Lk x);unfold Ek.Lk;split
 ·exact⟨fun t e=>by cases e⟩
 ·exact hs
end
theorem qI{a:ByteArray}(h:∀p∈FT,p.1≠a.data.toList)(x:List UInt8)(hx:x∈FT.map Prod.fst):(a.toList==x)=false:=by
 rw[CV,CD];obtain⟨p,hp,rfl⟩:=BD.1 hx;exact fun e=>h p hp e.symm
theorem xt:pQ XQ:=by
 intro w W F db c cn A An tv s a l G hs hC hD hr hc ER jJ;have hz:∀x∈l,x.size<=65536:=fun x hx=>ER x (Am _ hx);have hl:l.length<=65536:=by simp only[AP]at jJ;omega
 have ha0:a.size<=maxLen:=by have:=ER a (Ay ..);unfold maxLen;omega
 have key:∀ {X:ByteArray->Ek->Prop}{e:Ending}{W':World},(∀o s',X o s'->XQ s (a::l) o s')->Gm w F W db X e W'->Gm w F W db (fun o s'=>XQ s (a::l) o s'/\Ml s'/\IV o) e W':=fun hX ⟨o,s',h1,h2,h3⟩=>⟨o,s',h1,⟨hX _ _ h2,(hX _ _ h2).2.1,(hX _ _ h2).2.2⟩,h3⟩;rcases aX a.data.toList with Na|⟨p,hp,hpa,Na⟩
 ·have Ix:∀p∈FT,p.1≠a.data.toList:=fun p hp e=>by
   have:=Uy a.data.toList FT ([],false) (.inr ⟨p,hp,e⟩);have AGb:(FT.foldl (fun a_1 p=>if p.1=a.data.toList then (p.2,true)else a_1) ([],false))=([],false):=Na;rw[AGb]at this;cases this
  have Fg:XQ s (a::l) (FG 11) s:=⟨qg (by unfold JI;rw[Na];exact AC (fun h=>by cases h.1)) hz hl s,hs,Ht 11 (by decide)⟩;have hw:=qI Ix;have hwk:uo a.data.toList=none:=by
   have GI:∀x∈FT.map Prod.fst,a.data.toList≠x:=fun x hx e=>by
    obtain⟨p,hp,rfl⟩:=BD.1 hx;exact Ix p hp e.symm
   unfold uo Rc;rw[AC (GI _ (by decide+kernel)),AC (GI _ (by decide+kernel)),AC (GI _ (by decide+kernel)),AC (GI _ (by decide+kernel)),AC (GI _ (by decide+kernel))]
  refine(Qf (X:=fun o s'=>XQ s (a::l) o s') (B:=True) (fs:=[]) (P:=fun _ _=>False) false G hC hD hr hc hz ha0 hwk (hw _ (by decide+kernel)) (fun u hu=>hw u (qy u hu)) (fun W1 wb hb J3 tL=>vG W1 True trivial [] _ (hw _ (by decide+kernel)) (hw _ (by decide+kernel)) (hw _ (by decide+kernel)) (hw _ (by decide+kernel)) (hw _ (by decide+kernel)) (hw _ (by decide+kernel)) (hw _ (by decide+kernel)) (hw _ (by decide+kernel)) (hw _ (by decide+kernel)) tL.at_.Nu.lt) (fun _=>Fg) (fun _=>Fg) (fun _ _ _ h=>h.elim)).mono fun e W' h=>key (fun _ _ h=>h) h
 ·obtain rfl:a=⟨p.1.toArray⟩:=by
   apply CC;apply ASZ;exact hpa.symm
  have Mg:JI ⟨p.1.toArray⟩ l=Dl p.2 l Jz:=wz Na;have Fg:Dl p.2 l Jz=none->XQ s (⟨p.1.toArray⟩::l) (FG 11) s:=fun h=>⟨qg (Mg.trans h) hz hl s,hs,Ht 11 (by decide)⟩;have LW:ag ⟨p.1.toArray⟩->p.2=[87,87]->Calls prog 10 #[.pointer (some ⟨db,0,none⟩),.slice A ((⟨p.1.toArray⟩:ByteArray)::l).length c] W (Gm w F W db fun o s'=>XQ s (⟨p.1.toArray⟩::l) o s'):=fun hw h2=>by
   rw[h2]at Mg Fg;exact Sv G hC hD hr hc hz ha0 hw Fg (fun x y hx hy h=>⟨ua hw (Mg.trans h) hx hy hz hl s,hs,iT hx hy⟩)
  have LV:∀(hA:∀(W1:World)(wb:Nat),Below W.heap.size W W1->W.heap.size<=wb->WF w W1 wb A c ⟨p.1.toArray⟩ l p.2 0 Jz->Calls prog 29 #[.string ⟨p.1.toArray⟩,.pointer (some ⟨wb,0,none⟩)] W1 (OA w F db wb A c ⟨p.1.toArray⟩ l p.2 (Dl p.2 l Jz=none) (nR ⟨p.1.toArray⟩ s) W1))(hk:uo p.1=none)(WK:((⟨p.1.toArray⟩:ByteArray).toList== [114,111,111,116])=false)(hv:p.1∈Lx),
   Calls prog 10 #[.pointer (some ⟨db,0,none⟩),.slice A ((⟨p.1.toArray⟩:ByteArray)::l).length c] W (Gm w F W db fun o s'=>XQ s (⟨p.1.toArray⟩::l) o s'):=fun hA hk WK hv=>
   Qf (X:=fun o s'=>XQ s (⟨p.1.toArray⟩::l) o s') true G hC hD hr hc hz ha0 hk WK ⟨p.1,hv,rfl⟩ hA Fg Fg (fun st b GR ⟨l2,ns,f,e1,h1,hq,e2⟩=>by
    subst e1;rw[e2];exact⟨AAo (Mg.trans GR) h1 hq.ref hz hl s,hs,hq.ok⟩)
  have LA:∀ {P:Np->mq->Prop}(hA:∀(W1:World)(wb:Nat),Below W.heap.size W W1->W.heap.size<=wb->WF w W1 wb A c ⟨p.1.toArray⟩ l p.2 0 Jz->Calls prog 30 #[.pointer (some ⟨db,0,none⟩),.string ⟨p.1.toArray⟩,.pointer (some ⟨wb,0,none⟩)] W1 (OA w F db wb A c ⟨p.1.toArray⟩ l p.2 (Dl p.2 l Jz=none) P W1))(hk:uo p.1=none)(WK:((⟨p.1.toArray⟩:ByteArray).toList== [114,111,111,116])=false)(hv:∀u∈Lx,((⟨p.1.toArray⟩:ByteArray).toList==u)=false)
   (hP:∀st b,Dl p.2 l Jz=some st->P st b->XQ s (⟨p.1.toArray⟩::l) (FF b.1 b.2.1) b.2.2),
   Calls prog 10 #[.pointer (some ⟨db,0,none⟩),.slice A ((⟨p.1.toArray⟩:ByteArray)::l).length c] W (Gm w F W db fun o s'=>XQ s (⟨p.1.toArray⟩::l) o s'):=fun hA hk WK hv hP=>
   Qf (X:=fun o s'=>XQ s (⟨p.1.toArray⟩::l) o s') false G hC hD hr hc hz ha0 hk WK hv hA Fg Fg hP
  refine Calls.mono (R:=Gm w F W db fun o s'=>XQ s (⟨p.1.toArray⟩::l) o s') ?_ (fun e W' h=>key (fun _ _ h=>h) h);clear key hpa Na;simp only[FT,AR,CT,CU]at hp;rcases hp with rfl|rfl|rfl|rfl|rfl|rfl|rfl|rfl|rfl|rfl|rfl|rfl|rfl|rfl|rfl|rfl|rfl|rfl|rfl|rfl|rfl|rfl|rfl
  ·exact LW (.inl rfl) rfl
  ·exact LW (.inr (.inl rfl)) rfl
  ·exact LW (.inr (.inr (.inl rfl))) rfl
  ·exact LW (.inr (.inr (.inr (.inl rfl)))) rfl
  ·exact LW (.inr (.inr (.inr (.inr rfl)))) rfl
  ·exact Z6 G hC hD hr hc hz ha0 rfl Fg (fun x rt hx xi h=>⟨xL (Mg.trans h) hx xi hz hl s,hs,YQ rt⟩)
  ·exact LV (fun W1 wb hb J3 hw=>rJ (.inl rfl) hC hD hb J3 hw) (by decide+kernel) (by decide+kernel) (by decide+kernel)
  ·exact LV (fun W1 wb hb J3 hw=>rJ (.inr (.inl rfl)) hC hD hb J3 hw) (by decide+kernel) (by decide+kernel) (by decide+kernel)
  ·exact LV (fun W1 wb hb J3 hw=>rJ (.inr (.inr rfl)) hC hD hb J3 hw) (by decide+kernel) (by decide+kernel) (by decide+kernel)
  ·exact LV (fun W1 wb hb J3 hw=>om (.inl rfl) hC hD hb J3 hw) (by decide+kernel) (by decide+kernel) (by decide+kernel)
  ·exact LV (fun W1 wb hb J3 hw=>xd (.inl rfl) hC hD hb J3 hw) (by decide+kernel) (by decide+kernel) (by decide+kernel)
  ·exact LV (fun W1 wb hb J3 hw=>xd (.inr rfl) hC hD hb J3 hw) (by decide+kernel) (by decide+kernel) (by decide+kernel)
  ·exact LV (fun W1 wb hb J3 hw=>om (.inr (.inl rfl)) hC hD hb J3 hw) (by decide+kernel) (by decide+kernel) (by decide+kernel)
  ·exact LV (fun W1 wb hb J3 hw=>om (.inr (.inr rfl)) hC hD hb J3 hw) (by decide+kernel) (by decide+kernel) (by decide+kernel)
  ·exact LA (fun W1 wb hb J3 hw=>(MT hC hD hs hb J3).2.2.2.2 hw) (by decide+kernel) (by decide+kernel) (by decide+kernel) (fun st b GR ⟨ev,ca,le,id,e1,e2⟩=>by
    subst e1 e2;exact⟨xN hs (Mg.trans GR) (by have h:=hz id ((bV _ _ _ _ GR id (Ai.2 rfl)).resolve_left (fun h=>by cases h));unfold maxLen;omega) hz hl,uj _ hs⟩)
  ·exact LA (fun W1 wb hb J3 hw=>(MT hC hD hs hb J3).2.2.2.1 hw) (by decide+kernel) (by decide+kernel) (by decide+kernel) (fun st b GR ⟨e1,e2⟩=>by
    subst e1 e2;exact⟨qo hs (Mg.trans GR) hz hl,pu hs⟩)
  ·exact LA (fun W1 wb hb J3 hw=>(NG hC hD hs hb J3).1 hw) (by decide+kernel) (by decide+kernel) (by decide+kernel) (fun st b GR ⟨g,e1,e2⟩=>by
    subst e1 e2;exact⟨vY hs (Mg.trans GR) hz hl,xR g hs⟩)
  ·exact LA (fun W1 wb hb J3 hw=>(NG hC hD hs hb J3).2.1 hw) (by decide+kernel) (by decide+kernel) (by decide+kernel) (fun st b GR ⟨i,j,e1,e2⟩=>by
    subst e1 e2;exact⟨rE hs (Mg.trans GR) hz hl,oP i j hs⟩)
  ·exact LA (fun W1 wb hb J3 hw=>(MT hC hD hs hb J3).2.1 hw) (by decide+kernel) (by decide+kernel) (by decide+kernel) (fun st b GR ⟨i,th,id,e1,e2⟩=>by
    subst e1 e2;exact⟨wy hs (Mg.trans GR) hz hl,tW i id th hs⟩)
  ·exact LA (fun W1 wb hb J3 hw=>(NG hC hD hs hb J3).2.2.1 hw) (by decide+kernel) (by decide+kernel) (by decide+kernel) (fun st b GR ⟨i,e1,e2⟩=>by
    subst e1 e2;exact⟨vS hs (Mg.trans GR) hz hl,uk i hs⟩)
  ·exact LA (fun W1 wb hb J3 hw=>(NG hC hD hs hb J3).2.2.2 hw) (by decide+kernel) (by decide+kernel) (by decide+kernel) (fun st b GR ⟨i,e1,e2⟩=>by
    subst e1 e2;exact⟨uq hs (Mg.trans GR) hz hl,ug i hs⟩)
  ·exact LA (fun W1 wb hb J3 hw=>(MT hC hD hs hb J3).1 hw) (by decide+kernel) (by decide+kernel) (by decide+kernel) (fun st b GR ⟨i,id,e1,e2⟩=>by
    subst e1 e2;exact⟨ADs hs (Mg.trans GR) hz hl,AAL i id hs⟩)
  ·exact LA (fun W1 wb hb J3 hw=>(MT hC hD hs hb J3).2.2.1 hw) (by decide+kernel) (by decide+kernel) (by decide+kernel) (fun st b GR ⟨e1,e2⟩=>by
    subst e1 e2;exact⟨yx hs (Mg.trans GR) hz hl,AAh hs⟩)
def J6(l:List UInt8):ByteArray:=⟨l.toArray⟩
theorem Uf(x:ByteArray):J6 x.data.toList=x:=by
 apply CC;apply ASZ;rfl
def Pm(cur:List UInt8):List UInt8->List (List UInt8)
 | []=>if cur=[]then []else [cur]
 |b::l=>if b=32 then (if cur=[]then []else [cur])++Pm [] l else Pm (cur++[b]) l
def neW(x:List UInt8):Bool:= !decide (x=[])
theorem gH:∀(l cur h:List UInt8)(t:List (List UInt8)),Jt 32 l=h::t->Pm cur l=((cur++h)::t).filter neW
 | [],cur,h,t,e=>by
   simp only[Jt]at e;injection e with e1 e2
   subst e1 e2;unfold Pm neW;by_cases hc:cur=[]<;>simp[hc]
 |b::l,cur,h,t,e=>by
  unfold Jt at e;unfold Pm;by_cases hb:b=32
  ·rw[AD hb]at e
   rw[AD hb];injection e with e1 e2
   subst e1;cases hs:Jt 32 l with
   |nil=>have:=O7 32 l;rw[hs]at this;simp at this
   |cons h2 t2=>
    rw[gH l [] h2 t2 hs,<-e2,hs];unfold neW;by_cases hc:cur=[]<;>simp[hc,List.filter_cons]
  ·rw[AC hb]at e
   rw[AC hb];cases hs:Jt 32 l with
   |nil=>have:=O7 32 l;rw[hs]at this;simp at this
   |cons h2 t2=>
    rw[hs]at e;injection e with e1 e2
    subst e1 e2;rw[gH l (cur++[b]) h2 t2 hs];simp
theorem nD(l:List UInt8):Mf (J6 l)=neW l:=by
 unfold Mf neW J6;rw[CD];by_cases h:l=[]
 ·subst h;rfl
 ·simp only[h,decide_false,Bool.not_false]
  rw[Bool.not_eq_true',CV]
  simpa using h
theorem eu(x:ByteArray):GM x=(Pm [] x.data.toList).map J6:=by
 unfold GM pieces;rw[NM];cases hs:Jt 32 x.data.toList with
 |nil=>have:=O7 32 x.data.toList;rw[hs]at this;simp at this
 |cons h t=>
  rw[gH _ [] h t hs,Cm];show((h::t).map J6).filter Mf=_;rw[List.filter_map];congr 1;apply List.filter_congr;intro y _;exact nD y
theorem bp(c:UInt8):∀l:List UInt8,Jt c l=if (Ga c l).2.2=true then (Ga c l).1::Jt c (Ga c l).2.1 else [(Ga c l).1]
 | []=>rfl
 |b::l=>by
  have ih:=bp c l;have e:Jt c (b::l)=if b=c then []::Jt c l else match Jt c l with| []=>[[b]]|h::t=>(b::h)::t:=rfl
  by_cases h:b=c
  ·rw[e,AD h]
   have e2:Ga c (b::l)=([],l,true):=by unfold Ga;rw[AD h]
   rw[e2,AD rfl]
  ·rw[e,AC h,ih]
   have e2:Ga c (b::l)=(b::(Ga c l).1,(Ga c l).2):=by
    conv=>lhs;unfold Ga
    rw[AC h]
   rw[e2];cases hf:(Ga c l).2.2 with
   |true=>rw[AD rfl,AD rfl]
   |false=>rw[AC (by decide),AC (by decide)]
theorem ij(c:UInt8):∀l:List UInt8,(Ga c l).2.2=false->(Ga c l).1=l/\(Ga c l).2.1=[]
 | [],_=>⟨rfl,rfl⟩
 |b::l,h=>by
  unfold Ga at h⊢;by_cases hb:b=c
  ·rw[AD hb]at h;cases h
  ·rw[AC hb]at h⊢
   obtain⟨h1,h2⟩:=ij c l h;exact⟨by rw[h1],h2⟩
theorem bc(c:UInt8):∀l:List UInt8,l≠ []->(Ga c l).2.1.length<l.length/\(Ga c l).1.length<=l.length
 | [],h=>absurd rfl h
 |b::l,_=>by
  unfold Ga;by_cases hb:b=c
  ·rw[AD hb];simp
  ·rw[AC hb]
   cases l with
   |nil=>simp[Ga]
   |cons d l=>
    obtain⟨h1,h2⟩:=bc c (d::l) (by simp);simp only[AP]at*;omega
theorem Xz:EI ByteArray.empty=[]:=by decide+kernel
theorem lW(T:ByteArray)(h:T.data.toList≠ []):EI T=J6 (Ga 10 T.data.toList).1::EI (J6 (Ga 10 T.data.toList).2.1):=by
 have e:=bp 10 T.data.toList;cases hf:(Ga 10 T.data.toList).2.2 with
 |true=>
  rw[hf,AD rfl]at e;have h1:I0 T=J6 (Ga 10 T.data.toList).1::I0 (J6 (Ga 10 T.data.toList).2.1):=by
   unfold I0;rw[NM,NM,e];rfl
  have GI:=gi (J6 (Ga 10 T.data.toList).2.1);unfold EI;rw[h1];cases hr:I0 (J6 (Ga 10 T.data.toList).2.1)with
  |nil=>exact absurd hr GI
  |cons a l=>
   rw[List.getLast?_cons_cons,List.dropLast_cons_cons];split<;>rfl
 |false=>
  rw[hf,AC (by decide)]at e;obtain⟨h1,h2⟩:=ij 10 _ hf;have hr:I0 T=[T]:=by
   unfold I0;rw[NM,e,h1];show [J6 T.data.toList]=_;rw[Uf]
  rw[h1,h2,Uf];show EI T=T::EI ByteArray.empty;rw[Xz];unfold EI;rw[hr,AC];intro k;simp at k;rw[k]at h;exact h rfl
def Ou:List ByteArray->Bool
 | []=>false
 |a::_=> !(a.toList== [35])
def rowsOf(L:List ByteArray):List (List ByteArray):=(L.map GM).filter Ou
theorem OI(L:List ByteArray)(x:ByteArray):rowsOf (L++[x])=rowsOf L++(if Ou (GM x)=true then [GM x]else []):=by
 unfold rowsOf;rw[BP,List.filter_append];congr 1;cases h:Ou (GM x)<;>simp[h]
theorem Wz(sc:ByteArray):(EI sc).length<=sc.size+1:=by
 have:=cJ sc;unfold EI;split
 ·rw[List.length_dropLast];omega
 ·exact this
structure Mc(w0 W:World)(v:Value)(Ls:List (List ByteArray))(hs:List Value):Prop where
 row:W.ownsRow w0.heap.size 31 1 v Ls.length hs
 rows:∀(j:Nat)(l:List ByteArray),Ls[j]? =some l->∃A c,hs[j]? =some (.slice A l.length c)/\W.ownsRow w0.heap.size 9 1 (.slice A l.length c) l.length (C7 l)
theorem Mc.start(w W:World):Mc w W (.slice none 0 0) [] []:=⟨AX _ _ _ _,fun j l h=>by cases h⟩
theorem Mc.below{w0 W W':World}{v:Value}{Ls:List (List ByteArray)}{hs:List Value}(h:Mc w0 W v Ls hs)(hb:Below W.heap.size W W'):Mc w0 W' v Ls hs:=
 ⟨Ef h.row hb,fun j l hj=>by
   obtain⟨A,c,h1,h2⟩:=h.rows j l hj;exact⟨A,c,h1,Ef h2 hb⟩⟩
theorem Mc.push{w0 W W':World}{v v':Value}{Ls:List (List ByteArray)}{hs:List Value}{A:Option Addr}{c:Nat}{l:List ByteArray}(h:Mc w0 W v Ls hs)(hl:W.ownsRow w0.heap.size 9 1 (.slice A l.length c) l.length (C7 l))(ho:W'.ownsRow w0.heap.size 31 1 v' (Ls.length+1) (hs++[.slice A l.length c]))(hg:W.grownBy W' v.ownBlock):Mc w0 W' v' (Ls++[l]) (hs++[.slice A l.length c]):=by
 have hlen:hs.length=Ls.length:=by have:=h.row.1;omega
 refine⟨by rw[AN,BJ];exact ho,fun j k hj=>?_⟩;by_cases DG:j<Ls.length
 ·rw[ATc DG]at hj
  obtain⟨A2,c2,h1,h2⟩:=h.rows j k hj;exact⟨A2,c2,by rw[ATc (by omega)];exact h1,FP h2 hg (GJ h2 h.row (by decide))⟩
 ·rw[ASz (by omega)]at hj
  have tI:j-Ls.length=0:=by
   rcases Ac (j-Ls.length)with h0|h0
   ·exact h0
   ·rw[ATM (by simp;omega)]at hj;cases hj
  rw[tI]at hj;cases hj;exact⟨A,c,by rw[ASz (by omega),hlen,tI];rfl,FP hl hg (GJ hl h.row (by decide))⟩
theorem vO:(Tryz.prog.info? 31).map (fun i=>(i.zero,i.size,i.bytes))=some (some (.slice none 0 0),1,24):=by kernel_rfl
theorem tr(s:ByteArray)(i:Nat)(h:i<s.data.toList.length)(cur:List UInt8):J6 cur++s.extract i (i+1)=J6 (cur++[s.data.toList[i]'h]):=by
 apply CC;apply ASZ;rw[ByteArray.data_append,ATz];show cur++_=cur++_;congr 1;rw[ByteArray.data_extract,Array.toList_extract,List.extract_eq_drop_take];rw[Bz h];simp
theorem ABt(cur l:List UInt8)(i:Nat)(h:i<l.length)(hb:(l[i]'h)=32):Pm cur (l.drop i)=(if cur=[]then []else [cur])++Pm [] (l.drop (i+1)):=by
 rw[Bz h,hb]
 conv=>lhs;unfold Pm
 rw[AD rfl]
theorem zm(cur l:List UInt8)(i:Nat)(h:i<l.length)(hb:(l[i]'h)≠32):Pm cur (l.drop i)=Pm (cur++[l[i]'h]) (l.drop (i+1)):=by
 rw[Bz h]
 conv=>lhs;unfold Pm
 rw[AC hb]
theorem tV(cur l:List UInt8):Pm cur (l.drop l.length)=(if cur=[]then []else [cur])++[]:=by
 rw[ASr,CP];rfl
def AIi:Value->Nat| .string s=>s.size|_=>0
theorem gL(sc:ByteArray)(hs:sc.size<=1048576)(w:World)(m:Int)(hm:w.cell? ⟨0,0,none⟩=some (.int .i64 m)):
 Calls prog 5 #[.string sc] w fun e w'=>Below w.heap.size w w'/\∃v hs,e=.returned (.tuple #[v,.bool (decide ((EI sc).length<=200))])/\Mc w w' v (rowsOf (EI sc)) hs:=by
 have HM:=I hm;have me:0<w.heap.size:=Cd w ⟨0,0,none⟩ hm;have HLL:=I (Wz sc);obtain⟨i0,hi,Fq,FZ,Fe⟩:=AO LM;obtain⟨j0,kj,kz0,kz1,kz2⟩:=AO vO;clear hm;go_in;go_wp2;go_loopw [0,4,5] (fun tv ov nv wr=>∃(T:ByteArray)(D:List ByteArray)(hs:List Value),tv=.string T/\T.size<=sc.size/\nv=.int .i64 (D.length:Int)/\Hid (EI sc=D++EI T)/\Hid (Mc w wr ov (rowsOf D) hs)/\Hid (Below w.heap.size w wr)) (fun tv _ _ _=>AIi tv)
 case atStart=>exact⟨sc,[],[],rfl,AB,rfl,I rfl,I (Mc.start _ _),I AA⟩
 case round=>
  obtain⟨T,D,hs,rfl,hT,rfl,dr,iS,N4⟩:=hrel;obtain⟨wo,rfl⟩:∃wo,wo=wr:=⟨_,rfl⟩;obtain⟨q,hq⟩:∃q,q=(rowsOf D).length:=⟨_,rfl⟩;obtain⟨Ao,co,ke⟩:=Cz iS.out.row;rw[<-hq]at ke;subst ke;have HQ:=I hq;clear hq;have hDl:=HLL.out;rw[dr.out,AN]at hDl;cases hb:(T.toList== [])with
  |true=>
   have tA:T=ByteArray.empty:=by
    rw[CF,CD]at hb;apply CC;apply ASZ;exact hb
   have kN:=I (show EI sc=D from by rw[dr.out,tA,Xz,CP]);clear tA;have hd:decide ((D.length:Int)<=200)=decide ((EI sc).length<=200):=by rw[kN.out];exact decide_eq_decide.2 ⟨fun h=>by omega,fun h=>by omega⟩
   have Ua:=I hd;clear hd;go_wp2;refine AF (v:=.tuple #[.slice Ao q co,.bool (decide ((D.length:Int)<=200))]) (by simp[results,results5,go_sem]) rfl ⟨N4.out,_,_,by rw[Ua.out],by rw[kN.out];exact iS.out⟩
  |false=>
   have hTn:T.data.toList≠ []:=by
    rw[CV,CD]at hb;exact hb
   have HLC:=I (lW T hTn);have Sk:=bc 10 T.data.toList hTn;have hTl:T.data.toList.length=T.size:=by rw[At];rfl
   have qY:=I (Tryz.strings_Cut T ⟨#[10]⟩ m wo (by omega) ((N4.out.cell (p:=⟨0,0,none⟩) me).trans HM.out));have ec:Lib.cut T.data.toList [10]=_:=ZF 10 _;rw[show(⟨#[10]⟩:ByteArray).data.toList=[10]from rfl,ec]at qY;rw[hTl]at Sk;obtain⟨xb,hxb⟩:∃xb:ByteArray,xb=⟨(Ga 10 T.data.toList).1.toArray⟩:=⟨_,rfl⟩;obtain⟨yb,hyb⟩:∃yb:ByteArray,yb=⟨(Ga 10 T.data.toList).2.1.toArray⟩:=⟨_,rfl⟩;have gP:xb.size<=T.size:=by rw[hxb];exact Sk.2
   have hys:yb.size<T.size:=by rw[hyb];exact Sk.1
   change Hid (EI T=⟨(Ga 10 T.data.toList).1.toArray⟩::EI ⟨(Ga 10 T.data.toList).2.1.toArray⟩)at HLC;rw[<-hxb,<-hyb]at qY HLC;generalize (Ga 10 T.data.toList).2.2=fd at*;clear hxb hyb Sk hTl hTn ec;have kN:=I (show EI sc=(D++[xb])++EI yb from by rw[dr.out,HLC.out];simp);have HWS:=I (eu xb);have hsl:xb.data.toList.length=xb.size:=by rw[At];rfl
   have yN:=I hsl;clear hsl HLC;go_wp2_with fail
   refine qY.out.mono ?_;rintro e' w2 ⟨rfl,dn,rfl⟩;obtain⟨w3,Tj⟩:∃w3,w3=wo.drewN dn:=⟨_,rfl⟩;have AHa:=I (show Mc w w3 _ _ _ from Tj▸iS.out.below (Ba AA _));have AEC:=I (show Below w.heap.size w w3 from Tj▸Ba N4.out _);rw[<-Tj];clear Tj;go_wp2_with fail
   go_loopw [9,10,11] (fun wv cv iv wr=>∃(i:Nat)(ws:List (List UInt8))(cur:List UInt8),i<=xb.size+1/\iv=.int .i64 (i:Int)/\cv=.string (J6 cur)/\cur.length<=i/\ws.length<=i/\Hid ((i<=xb.size->Pm [] xb.data.toList=ws++Pm cur (xb.data.toList.drop i))/\(i=xb.size+1->Pm [] xb.data.toList=ws))/\Hid (wr.ownsRow w3.heap.size 9 1 wv ws.length (C7 (ws.map J6)))/\Hid (Below w3.heap.size w3 wr)) (fun _ _ iv _=>xb.size+1- (RowKit.intOf iv).toNat)
   case atStart=>exact⟨0,[],[],AM _,rfl,rfl,AB,AB,I ⟨fun _=>rfl,fun h=>by omega⟩,I (AX _ _ _ _),I AA⟩
   case round=>
    obtain⟨i,ws,cur,ay,rfl,rfl,hcu,AMl,HSC,HOW,im⟩:=hrel;obtain⟨w4,rfl⟩:∃w4,w4=wr:=⟨_,rfl⟩;obtain⟨qw,sU⟩:∃q,q=ws.length:=⟨_,rfl⟩;obtain⟨Aw,cw,hwv⟩:=Cz HOW.out;rw[<-sU]at hwv HOW;subst hwv;by_cases DG:i<xb.size
    ·have WY:i<xb.data.toList.length:=by rw[yN.out];exact DG
     have HX1:=I (tr xb i WY cur);have HC1:=I (zm cur xb.data.toList i WY);have ZT:=I (ABt cur xb.data.toList i WY);have hxi:xb[i]'DG=xb.data.toList[i]'WY:=by rw[Array.getElem_toList];rfl
     generalize xb.data.toList[i]'WY=b at*;by_cases h32:b=32
     ·have hbn:((b.toNat:Int) != 32)=false:=by rw[h32];rfl
      cases vn:(J6 cur).toList.isEmpty with
      |true=>
       have Wf:cur=[]:=by rw[J6,CD]at vn;simpa using vn
       subst Wf;have Df:=I (show(i+1<=xb.size->Pm [] xb.data.toList=ws++Pm [] (xb.data.toList.drop (i+1)))/\(i+1=xb.size+1->Pm [] xb.data.toList=ws)from⟨fun _=>by rw[HSC.out.1 (by omega),ZT.out h32,AD rfl];rfl,fun h=>by omega⟩);go_wp2;exact⟨⟨i+1,ws,[],by omega,by simp,rfl,AM _,by omega,Df,by rw[<-sU];exact HOW,im⟩,by simp[RowKit.intOf];omega⟩
      |false=>
       have Wf:cur≠ []:=by
        intro e;subst e;rw[J6,CD]at vn;cases vn
       have Df:=I (show(i+1<=xb.size->Pm [] xb.data.toList=(ws++[cur])++Pm [] (xb.data.toList.drop (i+1)))/\(i+1=xb.size+1->Pm [] xb.data.toList=ws++[cur])from⟨fun _=>by rw[HSC.out.1 (by omega),ZT.out h32,AC Wf];simp,fun h=>by omega⟩);have HO:=I (HOW.out.alloc (.cells #[.string (J6 cur)] 9));have xu:(ws++[cur]).length=qw+1:=by rw[AN,BJ,sU]
       have vM:=I (im.out.alloc im.out.size (.cells #[.string (J6 cur)] 9));have HMP:=I (show C7 ((ws++[cur]).map J6)=C7 (ws.map J6)++C7 [J6 cur]from by simp[C7]);have YE:=I xu;have hqi:qw<=i:=by omega
       clear xu sU;have Pi:=I (Mu w4 9 (J6 cur));go_wp2_with (at_builtin;refine EU _ rfl _ _ 31 rfl w3.heap.size 9 i0 _ 1 16 underlying31 hi Fq FZ Fe rfl (by decide) _ _ _ rfl HO.out _ _ 1 _ _ rfl Pi.out (YL [J6 cur]) ?c1 ?c2 ?c3 ?_)
       case c1=>unfold maxLen;omega
       case c2=>omega
       case c3=>have:=vM.out.size;simpa using this
       intro v9 w9 Qn Ei;have H9:=I (show w9.ownsRow w3.heap.size 9 1 v9 (ws++[cur]).length (C7 ((ws++[cur]).map J6))from by rw[YE.out,HMP.out];exact Qn);have m9:=I (vM.out.trans Ei);have xu:=YE.out;clear Qn Ei;go_wp2;exact⟨⟨i+1,ws++[cur],[],by omega,by simp,rfl,AM _,by omega,Df,H9,m9⟩,by simp[RowKit.intOf];omega⟩
     ·have hbn:((b.toNat:Int) != 32)=true:=by
       rw[bne_iff_ne];intro e;exact h32 (CY.1 (show b.toNat=32 by omega))
      have Df:=I (show(i+1<=xb.size->Pm [] xb.data.toList=ws++Pm (cur++[b]) (xb.data.toList.drop (i+1)))/\(i+1=xb.size+1->Pm [] xb.data.toList=ws)from⟨fun _=>by rw[HSC.out.1 (by omega),HC1.out h32],fun h=>by omega⟩);have EO:(J6 cur).size=cur.length:=rfl;have hes:(xb.extract i (i+1)).size<=1:=by rw[CI];omega
      have hA:∀w,(ABV (J6 cur) (xb.extract i (i+1))).run prog w=.ok (.string (J6 cur++xb.extract i (i+1))) w:=fun w=>AUM w _ _ (by omega);have Sk:(cur++[b]).length=cur.length+1:=by rw[AN,BJ]
      have P7:=I Sk;clear Sk EO hes;go_wp2;have Sk:=P7.out;exact⟨⟨i+1,ws,cur++[b],by omega,by simp,by rw[HX1.out],by omega,by omega,Df,by rw[<-sU];exact HOW,im⟩,by simp[RowKit.intOf];omega⟩
    ·by_cases heq:i=xb.size
     ·have HC3:=I (show Pm cur (xb.data.toList.drop i)=(if cur=[]then []else [cur])++[]from by rw[heq,<-yN.out];exact tV cur _)
      have hle:(i:Int)<=(xb.size:Int):=by omega
      have LU:xb.size<=i:=by omega
      clear heq;cases vn:(J6 cur).toList.isEmpty with
      |true=>
       have Wf:cur=[]:=by rw[J6,CD]at vn;simpa using vn
       subst Wf;have Df:=I (show(i+1<=xb.size->Pm [] xb.data.toList=ws++Pm [] (xb.data.toList.drop (i+1)))/\(i+1=xb.size+1->Pm [] xb.data.toList=ws)from⟨fun h=>by omega,fun _=>by rw[HSC.out.1 (by omega),HC3.out,AD rfl];simp⟩);go_wp2;exact⟨⟨i+1,ws,[],by omega,by simp,rfl,AM _,by omega,Df,by rw[<-sU];exact HOW,im⟩,by simp[RowKit.intOf];omega⟩
      |false=>
       have Wf:cur≠ []:=by
        intro e;subst e;rw[J6,CD]at vn;cases vn
       have Df:=I (show(i+1<=xb.size->Pm [] xb.data.toList=(ws++[cur])++Pm [] (xb.data.toList.drop (i+1)))/\(i+1=xb.size+1->Pm [] xb.data.toList=ws++[cur])from⟨fun h=>by omega,fun _=>by rw[HSC.out.1 (by omega),HC3.out,AC Wf];simp⟩);have HO:=I (HOW.out.alloc (.cells #[.string (J6 cur)] 9));have xu:(ws++[cur]).length=qw+1:=by rw[AN,BJ,sU]
       have vM:=I (im.out.alloc im.out.size (.cells #[.string (J6 cur)] 9));have HMP:=I (show C7 ((ws++[cur]).map J6)=C7 (ws.map J6)++C7 [J6 cur]from by simp[C7]);have YE:=I xu;have hqi:qw<=i:=by omega
       clear xu sU;have Pi:=I (Mu w4 9 (J6 cur));go_wp2_with (at_builtin;refine EU _ rfl _ _ 31 rfl w3.heap.size 9 i0 _ 1 16 underlying31 hi Fq FZ Fe rfl (by decide) _ _ _ rfl HO.out _ _ 1 _ _ rfl Pi.out (YL [J6 cur]) ?c1 ?c2 ?c3 ?_)
       case c1=>unfold maxLen;omega
       case c2=>omega
       case c3=>have:=vM.out.size;simpa using this
       intro v9 w9 Qn Ei;have H9:=I (show w9.ownsRow w3.heap.size 9 1 v9 (ws++[cur]).length (C7 ((ws++[cur]).map J6))from by rw[YE.out,HMP.out];exact Qn);have m9:=I (vM.out.trans Ei);have xu:=YE.out;clear Qn Ei;go_wp2;exact⟨⟨i+1,ws++[cur],[],by omega,by simp,rfl,AM _,by omega,Df,H9,m9⟩,by simp[RowKit.intOf];omega⟩
     ·have HWF:=I (show GM xb=ws.map J6 from by rw[HWS.out,HSC.out.2 (by omega)])
      have hgt:¬(i:Int)<=(xb.size:Int):=by omega
      have WQ:=I (OI D xb);have ACn:(D++[xb]).length=D.length+1:=by rw[AN,BJ]
      have rM:=I ACn;have yt:(ws.map J6).length=qw:=by rw[Ak,sU]
      have AAu:=I (AHa.out.below im.out);have wD:=I (Below.C9 AEC.out im.out);have HYS:=I hys;have hTY:yb.size<=sc.size:=by omega
      clear ACn sU HSC DG heq;generalize ws.map J6=M at*;cases M with
      |nil=>
       have Df:=I (show rowsOf (D++[xb])=rowsOf D from by rw[WQ.out,HWF.out];simp[Ou]);obtain rfl:qw=0:=by simpa using yt.symm
       clear yt hys;go_wp2;exact⟨⟨yb,D++[xb],hs,rfl,hTY,by rw[rM.out];simp,kN,by rw[Df.out];exact AAu,wD⟩,HYS.out⟩
      |cons a l=>
       obtain⟨g9,c9,vC,Ei,iI,hn9,hm9,eK⟩:=Eu HOW.out (by rw[<-yt];simp);have q0:=eK 0 (.string a) rfl;injection vC with hA9 AJD hc9
       subst hA9 hc9;have hl9:(0:Int)<(qw:Int):=by rw[<-yt];simp only[AP];omega
       have HWM:=I yt;cases hbh:(a.toList== [35])with
       |true=>
        have Df:=I (show rowsOf (D++[xb])=rowsOf D from by rw[WQ.out,HWF.out];simp[Ou,hbh]);clear eK yt hys;go_wp2;exact⟨⟨yb,D++[xb],hs,rfl,hTY,by rw[rM.out];simp,kN,by rw[Df.out];exact AAu,wD⟩,HYS.out⟩
       |false=>
        have Df:=I (show rowsOf (D++[xb])=rowsOf D++[a::l]from by rw[WQ.out,HWF.out];simp[Ou,hbh]);have HA4:=I ((AQ w4.heap.size w4).alloc AB (.cells #[.slice (some ⟨g9,0,none⟩) qw cw] 31));have tY:=I (AAu.out.below HA4.out);have HOX:=I (show(w4.alloc (.cells #[.slice (some ⟨g9,0,none⟩) qw cw] 31)).ownsRow w.heap.size 9 1 (.slice (some ⟨g9,0,none⟩) (a::l).length cw) (a::l).length (C7 (a::l))from by rw[HWM.out];exact GL (Ef HOW.out HA4.out) AEC.out.size);have ADP:=I (show(w4.alloc (.cells #[.slice (some ⟨g9,0,none⟩) qw cw] 31)).ownsRow w.heap.size 31 1 (.slice Ao q co) q hs from by rw[HQ.out];rw[<-HQ.out];exact HQ.out▸tY.out.row);have Pi:=I (QQ w4 31 (.slice (some ⟨g9,0,none⟩) qw cw))
        have hqD:q<=1048577:=by
         have:=AUa Ou (D.map GM);rw[HQ.out];unfold rowsOf;rw[Ak]at this;omega
        clear eK yt hys;go_wp2_with (at_builtin;refine Dd _ rfl _ _ 23 rfl w.heap.size 31 j0 _ 1 24 underlying23 kj kz0 kz1 kz2 rfl (by decide) _ _ _ rfl ADP.out _ _ 1 _ _ rfl Pi.out (by intro u hu;simp at hu;subst hu;rfl) ?c1 ?c2 ?c3 ?_)
        case c1=>unfold maxLen;omega
        case c2=>omega
        case c3=>have:=tY.out;have:=HA4.out.size;have:=wD.out.size;simp;omega
        intro v9 w9 Qn QC AIN;have HRF:=I (Mc.push (v':=v9) (W':=w9) tY.out HOX.out (by rw[HWM.out,<-HQ.out];exact Qn) QC);have II:=Below.C9 wD.out HA4.out;have HBF:=I (show Below w.heap.size w w9 from II.trans ((Sc QC).below (fun k hk=>(ADP.out.lt k hk).1) II.size));clear II;clear Qn QC AIN;go_wp2;exact⟨⟨yb,D++[xb],_,rfl,hTY,by rw[rM.out];simp,kN,by rw[Df.out];exact HRF,HBF⟩,HYS.out⟩
inductive OJ(X:Ek->List ByteArray->ByteArray->Ek->Prop):Ek->List (List ByteArray)->List UInt8->Ek->Prop
 |done (s:Ek):OJ X s [] [] s
 |say {s s1 s':Ek} {l:List ByteArray} {r:List (List ByteArray)} {o1:ByteArray} {o:List UInt8} (h:X s l o1 s1) (k:OJ X s1 r o s'):OJ X s (l::r) (o1.data.toList++10::o) s'
theorem Ky.steps{X:Ek->List ByteArray->ByteArray->Ek->Prop}{L:List ByteArray}{O:List UInt8}{s:Ek}(h:Ky X L O s):∀(r2:List (List ByteArray))(o2:List UInt8)(s2:Ek),OJ X s r2 o2 s2->OJ X ⟨none,[]⟩ (rowsOf L++r2) (O++o2) s2:=by
 induction h with
 |nil=>exact fun r2 o2 s2 k=>k
 | @skip r o s x k h ih=>
   intro r2 o2 s2 k2;have:Ou (GM x)=false:=by
    rcases h with h|⟨l,h⟩<;>rw[h]
    ·rfl
    ·show(!((⟨#[35]⟩:ByteArray).toList== [35]))=false
     decide+kernel
   rw[OI,this];simp only[AT9,if_false,CP];exact ih r2 o2 s2 k2
 | @say r o s s' x a o1 l k h ha h1 ih=>
   intro r2 o2 s2 k2;have:Ou (GM x)=true:=by rw[h];simp[Ou,ha]
   rw[OI,AD this,h];have:=ih ((a::l)::r2) (o1.data.toList++10::o2) s2 (.say h1 k2)
   simpa using this
theorem zR(o1:ByteArray)(h:Nl o1)(o:List UInt8):Ga 10 (o1.data.toList++10::o)=(o1.data.toList,o,true):=by
 unfold Nl at h;generalize o1.data.toList=l at*;induction l with
 |nil=>simp[Ga]
 |cons b l ih=>
  have hb:b≠10:=fun e=>h (by rw[e];exact Ay ..);have ih:=ih (fun e=>h (Am _ e));show Ga 10 (b::(l++10::o))=_
  conv=>lhs;unfold Ga
  rw[AC hb,ih]
def um:List ByteArray:=[⟨#[115,117,109]⟩,⟨#[50]⟩,⟨#[51]⟩]
def okT:ByteArray:=⟨#[111,107,32,53]⟩
def X3(s:Ek)(l:List ByteArray)(o:ByteArray)(s':Ek):Prop:=l=um->o=okT
theorem ap:Dl [87,87] [⟨#[50]⟩,⟨#[51]⟩] Jz=some ⟨[],[],[],[2,3]⟩:=by
 have e1:Dc.FY ⟨#[50]⟩=0:=by decide+kernel
 have e2:Dc.FY ⟨#[51]⟩=0:=by decide+kernel
 have v1:Dc.GG ⟨#[50]⟩=2:=by decide+kernel
 have v2:Dc.GG ⟨#[51]⟩=3:=by decide+kernel
 have s1:∀st:Np,Gy 87 ⟨#[50]⟩ st=some {st with g:=st.g++[2]}:=fun st=>by unfold Gy;rw[AC (by decide),AD rfl,AD e1,v1]
 have s2:∀st:Np,Gy 87 ⟨#[51]⟩ st=some {st with g:=st.g++[3]}:=fun st=>by unfold Gy;rw[AC (by decide),AD rfl,AD e2,v2]
 simp only[Dl,s1,s2,Option.bind_some];rfl
theorem ADK:pQ X3:=by
 intro w W F db c cn A An tv s a l G hs hC hD hr hc ER jJ;by_cases h:a::l=um
 ·unfold um at h
  injection h with h1 h2
  subst h1 h2;refine(Sv (X:=fun o s'=>o=okT/\Ml s'/\IV o) G hC hD hr hc (fun x hx=>ER x (Am _ hx)) (by decide+kernel) (.inl rfl) (fun h=>by rw[ap]at h;cases h) (fun x y hx hy hp=>?_)).mono ?_
  ·rw[ap]at hp
   injection hp with hp
   injection hp with _ _ _ hp
   injection hp with e1 hp
   injection hp with e2 hp
   subst e1 e2;exact⟨by decide+kernel,hs,iT hx hy⟩
  ·rintro e W' ⟨o,s',h1,⟨h2,h3,h4⟩,h5⟩
   exact⟨o,s',h1,⟨fun _=>h2,h3,h4⟩,h5⟩
 ·refine(xt w W F db c cn A An tv s a l G hs hC hD hr hc ER jJ).mono ?_
  rintro e W' ⟨o,s',h1,⟨-,h3,h4⟩,h5⟩;exact⟨o,s',h1,⟨fun e=>absurd e h,h3,h4⟩,h5⟩
def ur:ByteArray:=⟨#[115,117,109,32,50,32,51,10]⟩
theorem uu(w:World)(G:Gl w):Calls prog 4 #[.string ur] w fun e w'=>e=.returned (.string ⟨#[111,107,32,53,10]⟩)/\Below w.heap.size w w':=by
 refine(iC X3 ADK ur (by decide+kernel) w G).mono ?_;rintro e w' ⟨hb,⟨h|h,-⟩|⟨-,-,O,s',vj,-,rfl⟩⟩
 ·exact absurd h (by decide+kernel)
 ·exact absurd h (by decide+kernel)
 ·refine⟨?_,hb⟩
  have hr:rowsOf (EI ur)=[um]:=by decide+kernel
  have GR:=vj.steps [] [] s' (.done s');rw[hr,CP,CP]at GR;cases GR with
  |say h k=>
   cases k;have:=h rfl;subst this;rfl
def rO(w0:World)(rb:Nat)(R:List (List ByteArray))(sE:Ek)(j:Nat)(o:List UInt8)(wr:World):Prop:=
 ∃F s tv A c,o.length<=20001*200/\OJ XQ s (R.drop j) o sE/\EA w0 wr F/\H6 F wr rb tv A c s
theorem rO.start(w:World)(R:List (List ByteArray))(sE:Ek)(o:List UInt8)(ho:o.length<=20001*200)(h:OJ XQ ⟨none,[]⟩ R o sE):
 rO w w.heap.size R sE 0 o (w.alloc (.cells #[.pointer none,.slice none 0 0] 30)):=by
 obtain⟨F,hF⟩:∃F:Nat->Nat,F=fun k=>if k=w.heap.size then 41 else 0:=⟨_,rfl⟩
 have f1:F w.heap.size=41:=by rw[hF];simp
 have f3:∀k,F k≠0->k=w.heap.size:=fun k h=>by
  rw[hF]at h;simp only at h;split at h
  ·next e=>exact e
  ·exact absurd rfl h
 refine⟨F,⟨none,[]⟩,.pointer none,none,0,ho,h,⟨fun k h=>by rw[f3 k h];exact AB,fun k h=>by rw[f3 k h];simp,AA.alloc AB _⟩,⟨⟨DJ.new _ _ _,f1⟩,⟨Reads.none_,fun h=>absurd h (AT6 0)⟩,AM _,by simp,rfl,fun k e=>?_⟩⟩;by_cases h0:F k=0
 ·rw[h0]at e;exact Js e
 ·rw[f3 k h0,f1]at e;exact NU e
theorem We(sc:ByteArray)(hs:sc.size<=1048576)(w:World)(G:Gl w):Calls prog 3 #[.string sc] w fun e w'=>e=.returned (.bool true)/\Below w.heap.size w w':=by
 obtain⟨m,hm⟩:=G.max;have HM:=I hm;have HG:=I G;have me:0<w.heap.size:=Cd w ⟨0,0,none⟩ hm;have HRU:=I (iC XQ xt sc hs w G);have yA:=I (fun w' (hb:Below w.heap.size w w')=>gL sc hs w' m ((hb.cell (p:=⟨0,0,none⟩) me).trans hm));clear hm G;go_in;go_wp2_with fail
 refine HRU.out.mono ?_;rintro e' w1 ⟨C6,⟨Fg,rfl⟩|⟨h1,h2,O,s',vj,hO,rfl⟩⟩
 ·have B1:=I C6
  clear C6;go_wp2_with fail
  refine(yA.out w1 B1.out).mono ?_;rintro e' w2 ⟨DK,v,WP,rfl,-⟩;have B2:=I (Below.C9 B1.out DK);clear DK;generalize oH:decide ((EI sc).length<=200)=bb;by_cases hz:(65536:Int)<(sc.size:Int)
  ·clear Fg oH
   go_wp2;go_ret;exact⟨rfl,B2.out⟩
  ·have hbf:bb=false:=by
    rw[<-oH,ATI];omega
   subst hbf;clear Fg oH;go_wp2;go_ret;exact⟨rfl,B2.out⟩
 ·have B1:=I C6
  have HCH:=I (show OJ XQ ⟨none,[]⟩ (rowsOf (EI sc)) O s' from by have:=vj.steps [] [] s' (.done s');simpa using this);have HO:=I hO;have hz:¬(65536:Int)<(sc.size:Int):=by omega
  have hbt:decide ((EI sc).length<=200)=true:=by simpa using h2
  have HBT:=I hbt;clear C6 vj hO h1 h2 hbt;go_wp2_with fail
  refine(yA.out w1 B1.out).mono ?_;rintro e' w2 ⟨DK,v,WP,rfl,WK⟩;rw[HBT.out];have B2:=I (Below.C9 B1.out DK);have iS:=I WK;clear DK WK;have hrl:(rowsOf (EI sc)).length<=1048577:=by
   have h1:=AUa Ou ((EI sc).map GM);have h2:=Wz sc;unfold rowsOf;rw[Ak]at h1;omega
  generalize rowsOf (EI sc)=R at*;obtain⟨Av,cv,rfl⟩:=Cz iS.out.row;obtain⟨n,hn⟩:∃n,n=R.length:=⟨_,rfl⟩;have HN:=I hn;rw[<-hn]at hrl⊢;clear hn;have R0:=I (rO.start w2 R s' O HO.out HCH.out);go_wp2_with fail
  go_loopw [3,33] (fun gv iv wr=>∃(j:Nat)(o:List UInt8),j<=n/\iv=.int .i64 (j:Int)/\gv=.string (J6 o)/\rO w2 w2.heap.size R s' j o wr) (fun _ iv _=>n- (RowKit.intOf iv).toNat)
  case atStart=>exact⟨0,O,AM _,rfl,rfl,R0.out⟩
  case round=>
   obtain⟨j,o,hj,rfl,rfl,hrel⟩:=hrel;obtain⟨wo,rfl⟩:∃wo,wo=wr:=⟨_,rfl⟩;obtain⟨F,s,tv,A,c,hol,GR,hC,hD⟩:=hrel;have HOL:=I hol;have HC:=I hC;have HD:=I hD;have BO:=I hC.DI;have GB:=I GR;clear R0 hol GR hC hD;by_cases DG:j<n
   ·have IJ:j<R.length:=by rw[<-HN.out];exact DG
    have hdr:=Bz IJ;have Ql:R[j]? =some (R[j]'IJ):=AU IJ;generalize R[j]'IJ=l at*;obtain⟨Al,cl,hh,DL⟩:=iS.out.rows j l Ql;obtain⟨g,off,hAv,hg,EO⟩:=(Reads.DR iS.out.row).addr (by omega);subst hAv;have ck:=(BO.out.cell (p:=⟨g,off+j,none⟩) hg).trans (EO j _ hh);have lg:g<wo.heap.size:=AJ hg BO.out.size;have GR:=GB.out;rw[hdr]at GR;cases GR with
    | @say _ s1 _ _ _ o1 o2 hx k=>
      have HK:=I k;have mx:=I (hx.1 w2 wo F w2.heap.size cl c Al A tv m ((BO.out.cell (p:=⟨0,0,none⟩) (AJ me B2.out.size)).trans ((B2.out.cell (p:=⟨0,0,none⟩) me).trans HM.out)) HC.out HD.out (((Reads.DR DL).below BO.out AB).more BO.out.size));have HCT:=I (zR o1 hx.2.2.1 o2);have WL:=HOL.out;rw[AN,AP]at WL;have HO2:=I (show o2.length<=20001*200 by omega);have ey:=I (show(J6 (o1.data.toList++10::o2)).size<4294967281 from by show(o1.data.toList++10::o2).length<_;rw[AN,AP];omega);clear k hx EO hh DL Ql hdr WL GB;go_wp2_with fail
      refine mx.out.mono ?_;rintro e' w3 ⟨oq,rfl,hoq,F3,tv3,A3,c3,SV,m3,YA⟩;have hoq:=hoq.symm;subst hoq;have C3:=I SV;have D3:=I YA;have qY:=I (Tryz.strings_Cut (J6 (o1.data.toList++10::o2)) ⟨#[10]⟩ m w3 ey.out ((SV.DI.cell (p:=⟨0,0,none⟩) (AJ me B2.out.size)).trans ((B2.out.cell (p:=⟨0,0,none⟩) me).trans HM.out)));have ec:Lib.cut (J6 (o1.data.toList++10::o2)).data.toList [10]=_:=(ZF 10 _).trans HCT.out;rw[show(⟨#[10]⟩:ByteArray).data.toList=[10]from rfl,ec]at qY;change Hid (Calls _ _ _ _ fun e w'=>e=.returned (.tuple #[.string (J6 o1.data.toList),.string (J6 o2),.bool true])/\∃n,w'=w3.drewN n)at qY;rw[Uf]at qY;clear SV m3 YA ec;go_wp2_with fail
      refine qY.out.mono ?_;rintro e' w4 ⟨rfl,dn,rfl⟩;have Df:=I (show rO w2 w2.heap.size R s' (j+1) o2 (w3.drewN dn)from⟨F3,s1,tv3,A3,c3,HO2.out,HK.out,C3.out.below (Ba AA dn),D3.out.below C3.out (Ba AA dn)⟩);obtain⟨w5,hw5⟩:∃w5,w5=w3.drewN dn:=⟨_,rfl⟩;rw[<-hw5]at Df⊢;clear hw5;go_wp2;exact⟨⟨j+1,o2,by omega,by simp,rfl,Df.out⟩,by simp[RowKit.intOf];omega⟩
   ·obtain rfl:j=n:=by omega
    have GR:=GB.out;rw[HN.out,ASr]at GR;cases GR;have WQ:=I (uu wo (HG.out.below (Below.C9 B2.out BO.out)));have BF:=I (Below.C9 B2.out BO.out);have he:(J6 []).toList.isEmpty=true:=by decide+kernel
    clear GB;simp only[ur]at WQ;go_wp2_with fail
    refine WQ.out.mono ?_;rintro e' w5 ⟨rfl,Eh⟩;have Df:=I (Below.C9 BF.out Eh);clear Eh;go_wp2;go_ret;exact⟨rfl,Df.out⟩
