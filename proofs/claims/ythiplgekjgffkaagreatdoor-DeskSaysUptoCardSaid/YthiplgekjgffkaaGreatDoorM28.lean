/- peers -/
import Derived.Test.YthiplgekjgffkaaGreatDoorM27
set_option maxRecDepth 100000
set_option maxHeartbeats 99000000
set_option linter.all false
namespace Go.Proofs.YthiplgekjgffkaaGreatDoor
open Go.Proofs.Tryz
open Go.RowKit Go.Lib
def NQ(e:Int)(w:World)(x:Ending)(w':World):Prop:=x=.returned (.tuple #[.slice none 0 0,.bool false,.int .i64 e])/\Below w.heap.size w w'
def Ob(A0:Option Addr)(l0:List C8)(D:List D0)(n:Nat)(is:Bool)(w:World)(x:Ending)(w':World):Prop:=
 ∃A c l',x=.returned (.tuple #[.slice A n c,.bool is,.int .i64 0])/\l'.map Prod.fst=D/\Dq w' w'.heap.size A n l'/\Below w.heap.size w w'/\(n<=c/\c<=maxLen)/\Ki w A0 l0 A l'
def fN(d:D0)(m:Int):D0:=(d.1,(d.2.1.1,d.2.1.2.1,m),d.2.2)
def YX(d:D0)(inc seq x now:Int):D0:=(d.1,(inc,seq,d.2.1.2.2),d.2.2.1,Ir d.2.2.1 d.2.2.2.1 x,now)
theorem O0{b:ByteArray}{inc seq:Int}(h:Em b inc seq=0):MQ inc seq:=by
 unfold Em at h;split at h
 ·split at h
  ·rename_i h2;exact h2
  ·simp at h
 ·simp at h
theorem il{l l':List C8}(h:l'.map Prod.fst=l.map Prod.fst)(k:Nat)(hk:k<l.length)(RO:k<l'.length):(l'[k]'RO).1=(l[k]'hk).1:=by
 have e1:(l'.map Prod.fst)[k]? =some (l'[k]'RO).1:=by rw[ATJ,AU RO];rfl
 have e2:(l.map Prod.fst)[k]? =some (l[k]'hk).1:=by rw[ATJ,AU hk];rfl
 rw[h,e2]at e1;injection e1 with e1
 exact e1.symm
theorem Hj.gate{w:World}{g cap n:Nat}{l:List C8}(h:Hj w g cap n l)(k:Nat)(hk:k<l.length)(i s d:Int)(p':C8)(hp:p'=(((l[k]'hk).1.1,(i,s,d),(l[k]'hk).1.2.2),(l[k]'hk).2)):
 Hj (((w.setCell ⟨g,k*7+1,none⟩ (.int .i64 i)).setCell ⟨g,k*7+1+1,none⟩ (.int .i64 s)).setCell ⟨g,k*7+1+2,none⟩ (.int .i64 d)) g cap n (l.set k p'):=by
 have h1:=h.De k 1 (.int .i64 i) (((l[k]'hk).1.1,(i,(l[k]'hk).1.2.1.2.1,(l[k]'hk).1.2.1.2.2),(l[k]'hk).1.2.2),(l[k]'hk).2) hk (by decide) rfl;have h2:=h1.De k 2 (.int .i64 s) (((l[k]'hk).1.1,(i,s,(l[k]'hk).1.2.1.2.2),(l[k]'hk).1.2.2),(l[k]'hk).2) (by simpa using hk) (by decide) (by rw[ASY];rfl);have h3:=h2.De k 3 (.int .i64 d) p' (by simpa using hk) (by decide) (by rw[ASY,hp];rfl);rw[ASq,ASq]at h3;exact h3
theorem Hj.win{w:World}{g cap n:Nat}{l:List C8}(h:Hj w g cap n l)(k:Nat)(hk:k<l.length)(cp:Int)(A:Option Addr)(c:Nat)(v:List Int)(p':C8)(hp:p'=(((l[k]'hk).1.1,(l[k]'hk).1.2.1,cp,v,(l[k]'hk).1.2.2.2.2),A,c)):
 Hj ((w.setCell ⟨g,k*7+4,none⟩ (.int .i64 cp)).setCell ⟨g,k*7+4+1,none⟩ (.slice A v.length c)) g cap n (l.set k p'):=by
 have h1:=h.De k 4 (.int .i64 cp) (((l[k]'hk).1.1,(l[k]'hk).1.2.1,cp,(l[k]'hk).1.2.2.2),(l[k]'hk).2) hk (by decide) rfl;have h2:=h1.De k 5 (.slice A v.length c) p' (by simpa using hk) (by decide) (by rw[ASY,hp];rfl);rw[ASq]at h2;exact h2
theorem Hj.xm{w:World}{g cap n:Nat}{l:List C8}(h:Hj w g cap n l)(k:Nat)(hk:k<l.length)(x:Int)(p':C8)(hp:p'=(((l[k]'hk).1.1,(l[k]'hk).1.2.1,(l[k]'hk).1.2.2.1,(l[k]'hk).1.2.2.2.1,x),(l[k]'hk).2)):
 Hj (w.setCell ⟨g,k*7+6,none⟩ (.int .i64 x)) g cap n (l.set k p'):=
 h.De k 6 (.int .i64 x) p' hk (by decide) (by rw[hp];rfl)
theorem Dq.sB{w:World}{g cap n H:Nat}{l:List C8}(h:Hj w g cap n l)(hv:Dz H w l)(hid:∀p∈l,(pid p).size<=maxLen):Dq w w.heap.size (some ⟨g,0,none⟩) n l:=
 ⟨h.1,h.reads,hv.ok hid⟩
theorem UB{l:List C8}(h:∀p∈l,(pid p).size<=maxLen)(k:Nat)(p':C8)(hp:(pid p').size<=maxLen):∀p∈l.set k p',(pid p).size<=maxLen:=fun q hq=>by
 rcases Cc hq with hq|rfl
 ·exact h q hq
 ·exact hp
theorem Dz.at_{H:Nat}{w:World}{l:List C8}{g:Nat}(h:Dz H w l)(hb:∃cur,DJ w g 187 cur)(j:Nat)(v:Value):Dz H (w.setCell ⟨g,j,none⟩ v) l:=by
 obtain⟨cur,hb⟩:=hb;exact h.De hb (by decide) j v
theorem fS{w:World}{g:Nat}(hb:∃cur,DJ w g 187 cur)(j:Nat)(v:Value):∃cur,DJ (w.setCell ⟨g,j,none⟩ v) g 187 cur:=by
 obtain⟨cur,hb⟩:=hb;exact⟨_,hb.De j v⟩
theorem Dz.at3{H:Nat}{w:World}{l:List C8}{g:Nat}(h:Dz H w l)(hb:∃cur,DJ w g 187 cur)(i j k:Nat)(u v x:Value):Dz H (((w.setCell ⟨g,i,none⟩ u).setCell ⟨g,j,none⟩ v).setCell ⟨g,k,none⟩ x) l:=
 ((h.at_ hb i u).at_ (fS hb i u) j v).at_ (fS (fS hb i u) j v) k x
theorem zB(A:Option Addr)(c B n:Nat)(l:List C8)(hm:n<=maxLen)(JR:ByteArray)(VV:JR.size<=maxLen)(inc seq now:Int)(w:World)(hp:Dq w B A n l)(hB:B<=w.heap.size)(he:GH l=0):
 (∀(e0:Int),∀(hb:Em JR inc seq=e0),∀(hz:e0≠0),Calls prog 216 #[.slice A n c,.agg #[.string JR,.int .i64 inc,.int .i64 seq],.int .i64 now] w (NQ e0 w))/\
 (∀(hb:Em JR inc seq=0),∀(hn:now<0\/1073741824<now),Calls prog 216 #[.slice A n c,.agg #[.string JR,.int .i64 inc,.int .i64 seq],.int .i64 now] w (NQ 1 w)):=by
 refine⟨fun e0 hb hz=>?_,fun hb hn=>?_⟩;all_goals
  have HP:=I hp;have FK:=I hB;have HN:=I hp.len;have E:=I ((AI w).lay #[.string JR,.int .i64 inc,.int .i64 seq] 226);clear hp hB;have HE:=I he;have N4:=I hb;clear he hb;go_in;go_wp2_with fail
  refine(Lp A c B n l hm _ HE.out _ (HP.out.below E.out.DI FK.out) (AG FK.out E.out.DI.size)).mono ?_;rintro e' w1 ⟨rfl,C6⟩;have E1:=I (E.out.below C6);clear C6;have z0:=E1.out.hd.cell 0;have z1:=E1.out.hd.cell 1;have z2:=E1.out.hd.cell 2;simp at z0 z1 z2;go_wp2_with fail
  refine(Ks JR VV inc seq _).mono ?_;rw[N4.out];rintro e' w2 ⟨rfl,DK⟩;have E2:=I (E1.out.below DK);clear DK z0 z1 z2;have z0:=E2.out.hd.cell 0;have z1:=E2.out.hd.cell 1;have z2:=E2.out.hd.cell 2;simp at z0 z1 z2
 ·go_wp2
  all_goals first
   |(exfalso;omega)
   |(refine AF (v:=.tuple #[.slice none 0 0,.bool false,.int .i64 e0]) (by simp[results,results216,go_sem]) rfl ⟨rfl,E2.out.DI⟩)
 ·go_wp2
  all_goals first
   |(exfalso;omega)
   |(refine AF (v:=.tuple #[.slice none 0 0,.bool false,.int .i64 1]) (by simp[results,results216,go_sem]) rfl ⟨rfl,E2.out.DI⟩)
theorem js(A:Option Addr)(c B n:Nat)(l:List C8)(hm:n<=maxLen)(JR:ByteArray)(VV:JR.size<=maxLen)(inc seq now:Int)(w:World)(hp:Dq w B A n l)(hB:B<=w.heap.size)(he:GH l=0)(hb:Em JR inc seq=0)(J0:0<=now)(Hc:now<=1073741824)(Ix:∀j,(hj:j<l.length)->pid (l[j]'hj)≠JR):
 Calls prog 216 #[.slice A n c,.agg #[.string JR,.int .i64 inc,.int .i64 seq],.int .i64 now] w (NQ 4 w):=by
 obtain⟨h6,GN,Jr⟩:=En he;have Qg:n<=6:=by rw[<-hp.len];exact h6
 obtain⟨i0,Pr,-,-,Pz⟩:=Rw A c B n l Jr JR Ix hp.len (by omega);have HF:=I Pz;clear Pz Ix GN Jr;have HP:=I hp;have FK:=I hB;have HN:=I hp.len;have E:=I ((AI w).lay #[.string JR,.int .i64 inc,.int .i64 seq] 226);clear hp hB;have HE:=I he;have N4:=I hb;clear he hb;go_in;go_wp2_with fail
 refine(Lp A c B n l hm _ HE.out _ (HP.out.below E.out.DI FK.out) (AG FK.out E.out.DI.size)).mono ?_;rintro e' w1 ⟨rfl,C6⟩;have E1:=I (E.out.below C6);clear C6;have z0:=E1.out.hd.cell 0;have z1:=E1.out.hd.cell 1;have z2:=E1.out.hd.cell 2;simp at z0 z1 z2;go_wp2_with fail
 refine(Ks JR VV inc seq _).mono ?_;rw[N4.out];rintro e' w2 ⟨rfl,DK⟩;have E2:=I (E1.out.below DK);clear DK z0 z1 z2;have z0:=E2.out.hd.cell 0;have z1:=E2.out.hd.cell 1;have z2:=E2.out.hd.cell 2;simp at z0 z1 z2;go_wp2_with fail
 refine(HF.out _ (HP.out.below E2.out.DI FK.out) (AG FK.out E2.out.DI.size)).mono ?_;rintro e' w3 ⟨rfl,DT⟩;have E3:=I (E2.out.below DT);clear DT z0 z1 z2;go_wp2;all_goals first
  |(exfalso;omega)
  |(refine AF (v:=.tuple #[.slice none 0 0,.bool false,.int .i64 4]) (by simp[results,results216,go_sem]) rfl ⟨rfl,E3.out.DI⟩)
theorem Qa(A:Option Addr)(c B n:Nat)(l:List C8)(hm:n<=maxLen)(JR:ByteArray)(VV:JR.size<=maxLen)(inc seq now:Int)(w:World)(hp:Dq w B A n l)(hB:B<=w.heap.size)(he:GH l=0)(hb:Em JR inc seq=0)(J0:0<=now)(Hc:now<=1073741824)(k:Nat)(hk:k<l.length)(hid:pid (l[k]'hk)=JR):
 (∀(DG:now<Do (l[k]'hk)),Calls prog 216 #[.slice A n c,.agg #[.string JR,.int .i64 inc,.int .i64 seq],.int .i64 now] w (NQ 1 w))/\
 (∀(LU:Do (l[k]'hk)<=now),∀(Nw:¬GC (LS (l[k]'hk)) (LR (l[k]'hk)) inc seq),Calls prog 216 #[.slice A n c,.agg #[.string JR,.int .i64 inc,.int .i64 seq],.int .i64 now] w (Ob A l ((l.map Prod.fst).set k (fN (l[k]'hk).1 (min (Iz (l[k]'hk)+1) 1073741824))) n false w))/\
 (∀(LU:Do (l[k]'hk)<=now),∀(Nw:GC (LS (l[k]'hk)) (LR (l[k]'hk)) inc seq),Calls prog 216 #[.slice A n c,.agg #[.string JR,.int .i64 inc,.int .i64 seq],.int .i64 now] w (Ob A l ((l.map Prod.fst).set k (YX (l[k]'hk).1 inc seq (min (now-Do (l[k]'hk)) 16777216) now)) n true w)):=by
 refine⟨fun DG=>?a,fun LU Nw=>?b,fun LU Nw=>?c⟩
 case' c=>
  have HGE:=I LU;have Zn:=I Nw;clear LU Nw
 case' b=>
  have HGE:=I LU;have Zn:=I Nw;clear LU Nw
 case' a=>
  have HLT:=I DG;clear DG
 all_goals
  obtain⟨h6,GN,Jr⟩:=En he;have Qg:n<=6:=by rw[<-hp.len];exact h6
  have Pz:=Wp A c B n l Jr k hk (by omega);rw[hid]at Pz;have HF:=I Pz;have MH:∀p∈l,(DZ p).length<=64:=fun p hp=>dQ (GN p hp);have hgk:=GN _ (AL hk);have HGK:=I hgk;have zz:=I MH;have ABW:=I (fun p hq=>((hp.ok p hq).2.2.2:(pid p).size<=maxLen));have Te:k<n:=by rw[<-hp.len];exact hk
  clear Pz GN Jr hgk MH hid;have HP:=I hp;have FK:=I hB;have HN:=I hp.len;have E:=I ((AI w).lay #[.string JR,.int .i64 inc,.int .i64 seq] 226);clear hp hB;have HE:=I he;have N4:=I hb;clear he hb;go_in;go_wp2_with fail
  refine(Lp A c B n l hm _ HE.out _ (HP.out.below E.out.DI FK.out) (AG FK.out E.out.DI.size)).mono ?_;rintro e' w1 ⟨rfl,C6⟩;have E1:=I (E.out.below C6);clear C6;have z0:=E1.out.hd.cell 0;have z1:=E1.out.hd.cell 1;have z2:=E1.out.hd.cell 2;simp at z0 z1 z2;go_wp2_with fail
  refine(Ks JR VV inc seq _).mono ?_;rw[N4.out];rintro e' w2 ⟨rfl,DK⟩;have E2:=I (E1.out.below DK);clear DK z0 z1 z2;have z0:=E2.out.hd.cell 0;have z1:=E2.out.hd.cell 1;have z2:=E2.out.hd.cell 2;simp at z0 z1 z2;go_wp2_with fail
  refine(HF.out _ (HP.out.below E2.out.DI FK.out) (AG FK.out E2.out.DI.size)).mono ?_;rintro e' w3 ⟨rfl,DT⟩;have E3:=I (E2.out.below DT);clear DT z0 z1 z2;go_wp2_with fail
  refine(XB A c B n l (by omega) zz.out _ (HP.out.below E3.out.DI FK.out) (AG FK.out E3.out.DI.size)).mono ?_;rintro e' w4 ⟨A4,c4,l4,rfl,mZ,DL,uN,EL⟩;have nP:l4.length=n:=by have:=Ae List.length mZ;simpa [HN.out] using this
  obtain⟨g,rfl,eW,He,Eg⟩:=Hj.DR DL (by omega) nP;have E4:=I (E3.out.below EL);have sw:=E3.out.DI.size;have LZ:k<l4.length:=by omega
  have hq:=il mZ k hk LZ;have cF:∀p∈l4,(pid p).size<=maxLen:=fun p hp4=>by
   obtain⟨j,hj,rfl⟩:=AS6 hp4;have:=il mZ j (by have:=HN.out;omega) hj;show(l4[j]'hj).1.1.size<=maxLen;rw[this];exact ABW.out _ (AL (by have:=HN.out;omega))
  have pc:=Eg.cells k LZ;have AAN:=I (show I5 (l4[k]'LZ)by have:=HGK.out;unfold I5 at this⊢;rw[show pid (l4[k]'LZ)=pid (l[k]'hk)from Ae (·.1) hq,show LS (l4[k]'LZ)=LS (l[k]'hk)from Ae (·.2.1.1) hq,show LR (l4[k]'LZ)=LR (l[k]'hk)from Ae (·.2.1.2.1) hq,show Iz (l4[k]'LZ)=Iz (l[k]'hk)from Ae (·.2.1.2.2) hq,show Ed (l4[k]'LZ)=Ed (l[k]'hk)from Ae (·.2.2.1) hq,show DZ (l4[k]'LZ)=DZ (l[k]'hk)from Ae (·.2.2.2.1) hq,show Do (l4[k]'LZ)=Do (l[k]'hk)from Ae (·.2.2.2.2) hq];exact this);have MP:=I mZ;have RW:=I Eg;have VO:=I (show Dz w.heap.size w4 l4 from fun p hp=>DX (uN p hp) sw)
  have IDS:=I cF;have HQ:=I hq;have SS:w.heap.size+1<=g:=by have:=E3.out.hd.lt;omega
  clear mZ DL uN EL Eg cF eW hq;generalize Wm:l4[k]'LZ=p at*;have dE:=I Wm;clear Wm;obtain⟨c0,c1,c2,c3,dD,c5,c6⟩:=pc
 ·have DG:now<Do p:=by have:=HLT.out;rw[show Do p=Do (l[k]'hk)from Ae (·.2.2.2.2) HQ.out];exact this
  go_wp2;all_goals first
   |(exfalso;omega)
   |(refine AF (v:=.tuple #[.slice none 0 0,.bool false,.int .i64 1]) (by simp[results,results216,go_sem]) rfl ⟨rfl,E4.out.DI⟩)
 ·have LU:Do p<=now:=by have:=HGE.out;rw[show Do p=Do (l[k]'hk)from Ae (·.2.2.2.2) HQ.out];exact this
  have Nw:¬GC (LS p) (LR p) inc seq:=by have:=Zn.out;rw[show LS p=LS (l[k]'hk)from Ae (·.2.1.1) HQ.out,show LR p=LR (l[k]'hk)from Ae (·.2.1.2.1) HQ.out];exact this
  obtain⟨m,Nc⟩:∃m,min (Iz p+1) 1073741824=m:=⟨_,rfl⟩;have T6:=I (qD (LS p) (LR p) (Iz p) inc seq AAN.out.2.1 (O0 N4.out) Nw m Nc);have gy:=I Nc;clear Nw Nc;have z0:=E4.out.hd.cell 0;have z1:=E4.out.hd.cell 1;have z2:=E4.out.hd.cell 2;simp at z0 z1 z2;have f1:=RW.out.frozen (k*7+1);have f2:=RW.out.frozen (k*7+2);have f3:=RW.out.frozen (k*7+3)
  go_upto_region 17 with fail
  go_region_law (go_simp;go_at_call 253;(with_reducible refine(T6.out _).mono ?_);rintro e' w9 ⟨rfl,Ei⟩;have Rr:Below w4.heap.size w4 w9:=Below.C9 (by repeat (with_reducible first|exact AA|refine AE ?_)) Ei;have R9:=RW.out.below Rr He;have pc:=R9.cells k LZ;have g1:=R9.frozen (k*7+1);have g2:=R9.frozen (k*7+2);have g3:=R9.frozen (k*7+3);(rw[dE.out]at pc);obtain⟨d0,d1,d2,d3,d4,d5,d6⟩:=pc)
  all_goals
   have e0:p=l4[k]'LZ:=dE.out.symm;have V9:=VO.out.below Rr;have DL:=V9 p (by rw[e0];exact AL LZ);have RG:=R9.gate k LZ (LS p) (LR p) m ((p.1.1,(LS p,LR p,m),p.1.2.2),p.2) (by rw[<-e0]);have VG:=(V9.upd (k:=k) (p':=((p.1.1,(LS p,LR p,m),p.1.2.2),p.2)) DL).at3 R9.DC (k*7+1) (k*7+1+1) (k*7+1+2) (.int .i64 (LS p)) (.int .i64 (LR p)) (.int .i64 m);have ACr:=((((E4.out.DI.trans (Rr.mono E4.out.DI.size)).setCell (p:=⟨g,k*7+1,none⟩) (by show w.heap.size<=g;omega) (.int .i64 (LS p))).setCell (p:=⟨g,k*7+1+1,none⟩) (by show w.heap.size<=g;omega) (.int .i64 (LR p))).setCell (p:=⟨g,k*7+1+2,none⟩) (by show w.heap.size<=g;omega) (.int .i64 m));have PG:=I (Dq.sB RG VG (UB IDS.out k _ (by have:=IDS.out p (by rw[e0];exact AL LZ);exact this)))
   have BG:=I ACr;have np:(l4.set k ((p.1.1,(LS p,LR p,m),p.1.2.2),p.2)).map Prod.fst=(l.map Prod.fst).set k (fN (l[k]'hk).1 (min (Iz (l[k]'hk)+1) 1073741824)):=by
    rw[Ck,MP.out,<-HQ.out];have:Iz (l[k]'hk)=Iz p:=(Ae (·.2.1.2.2) HQ.out).symm;rw[this,gy.out];rfl
   have MD:=I np;have KG:=I (Si (A0:=A) (l0:=l) (w:=w) (show w.heap.size<=g by omega) VG);clear np ACr RG VG DL V9 R9 Rr Ei d0 d1 d2 d3 d4 d5 d6 g1 g2 g3 e0;go_wp2;refine AF (v:=.tuple #[.slice (some ⟨g,0,none⟩) n c4,.bool false,.int .i64 0]) (by simp[results,results216,go_sem]) rfl ⟨_,_,_,rfl,MD.out,PG.out,BG.out,⟨RW.out.2.1,RW.out.2.2.1⟩,KG.out⟩
 ·have LU:Do p<=now:=by have:=HGE.out;rw[show Do p=Do (l[k]'hk)from Ae (·.2.2.2.2) HQ.out];exact this
  have Nw:GC (LS p) (LR p) inc seq:=by have:=Zn.out;rw[show LS p=LS (l[k]'hk)from Ae (·.2.1.1) HQ.out,show LR p=LR (l[k]'hk)from Ae (·.2.1.2.1) HQ.out];exact this
  have T6:=I (qc (LS p) (LR p) (Iz p) inc seq AAN.out.2.1 (O0 N4.out) Nw);have RV:=AAN.out;clear Nw;have z0:=E4.out.hd.cell 0;have z1:=E4.out.hd.cell 1;have z2:=E4.out.hd.cell 2;simp at z0 z1 z2;have f1:=RW.out.frozen (k*7+1);have f2:=RW.out.frozen (k*7+2);have f3:=RW.out.frozen (k*7+3);have z8:0<=Do p:=RV.2.2.2.1;obtain⟨x,hx⟩:∃x,min (now-Do p) 16777216=x:=⟨_,rfl⟩;have HWX:=I (show wi x 0 16777216=true from DW.2 (by omega));have HWN:=I RV.2.2.1;have HX:=I hx;clear hx RV
  go_upto_region 17 with fail
  go_region_law (go_simp;go_at_call 253;(with_reducible refine(T6.out _).mono ?_);rintro e' w9 ⟨rfl,Ei⟩;have Rr:Below w4.heap.size w4 w9:=Below.C9 (by repeat (with_reducible first|exact AA|refine AE ?_)) Ei;have R9:=RW.out.below Rr He;have pc:=R9.cells k LZ;have g1:=R9.frozen (k*7+1);have g2:=R9.frozen (k*7+2);have g3:=R9.frozen (k*7+3);(rw[dE.out]at pc);obtain⟨d0,d1,d2,d3,d4,d5,d6⟩:=pc)
  all_goals
   have e0:p=l4[k]'LZ:=dE.out.symm;have V9:=VO.out.below Rr;have DL:=V9 p (by rw[e0];exact AL LZ);have RG:=I (R9.gate k LZ inc seq (Iz p) ((p.1.1,(inc,seq,Iz p),p.1.2.2),p.2) (by rw[<-e0]));have VG:=I ((V9.upd (k:=k) (p':=((p.1.1,(inc,seq,Iz p),p.1.2.2),p.2)) DL).at3 R9.DC (k*7+1) (k*7+1+1) (k*7+1+2) (.int .i64 inc) (.int .i64 seq) (.int .i64 (Iz p)));have BG:=I ((((E4.out.DI.trans (Rr.mono E4.out.DI.size)).setCell (p:=⟨g,k*7+1,none⟩) (by show w.heap.size<=g;omega) (.int .i64 inc)).setCell (p:=⟨g,k*7+1+1,none⟩) (by show w.heap.size<=g;omega) (.int .i64 seq)).setCell (p:=⟨g,k*7+1+2,none⟩) (by show w.heap.size<=g;omega) (.int .i64 (Iz p)));clear e0 DL V9 R9 Rr Ei d0 d1 d2 d3 d4 d5 d6 g1 g2 g3 c0 c1 c2 c3 dD c5 c6 z0 z1 z2 f1 f2 f3
   go_upto_region 19 with fail
   generalize hWG:World.setCell (World.setCell (World.setCell w9 _ _) _ _) _ _=wg at*;clear hWG;have hkg:k<(l4.set k ((p.1.1,(inc,seq,Iz p),p.1.2.2),p.2)).length:=by simpa using LZ
   have hgg:=RG.out.lt;have pc:=RG.out.cells k hkg;rw[ASY]at pc;have g4:=RG.out.frozen (k*7+4);have g5:=RG.out.frozen (k*7+5);have g6:=RG.out.frozen (k*7+6);obtain⟨d0,d1,d2,d3,d4,d5,d6⟩:=pc;have ke:=VG.out ((p.1.1,(inc,seq,Iz p),p.1.2.2),p.2) (List.mem_set LZ _);have hoc:=Ec ke;have HRV:=I (Reads.DR ke);have hwx:min (IntKind.i64.wrap (now-Do p)) 16777216=x:=by rw[show IntKind.i64.wrap (now-Do p)=now-Do p by rw[Aj];omega];exact HX.out
   have HPU:=I (show∀w',Below wg.heap.size wg w'->Calls prog 254 #[.agg #[.int .i64 (Ed p),Tb p],.int .i64 (min (IntKind.i64.wrap (now-Do p)) 16777216)] w' (cK (Ed p) (Ir (Ed p) (DZ p) x) w')
    from fun w' h=>by
     rw[hwx];exact oN (Ed p) x p.2.1 p.2.2 wg.heap.size (DZ p) hoc.1 hoc.2 HWN.out HWX.out w' (HRV.out.below h AB) h.size)
   have d4':wg.cell? ⟨g,k*7+4,none⟩=some (.int .i64 (Ed p)):=d4;have d5':wg.cell? ⟨g,k*7+5,none⟩=some (Tb p):=d5;have d6':wg.cell? ⟨g,k*7+6,none⟩=some (.int .i64 (Do p)):=d6;clear ke hoc d0 d1 d2 d3 d4 d5 d6 hwx;go_region_law (go_simp;go_at_call 254;(with_reducible refine(HPU.out _ (by repeat (with_reducible first|exact AA|refine AE ?_))).mono ?_);rintro e' uC ⟨A5,uM,rfl,Xe,AEi⟩;have Ra:Below wg.heap.size wg uC:=Below.C9 (by repeat (with_reducible first|exact AA|refine AE ?_)) AEi;have R10:=RG.out.below Ra hgg;have q4:=R10.frozen (k*7+4);have q5:=R10.frozen (k*7+5);have q6:=R10.frozen (k*7+6);have pc:=R10.cells k hkg;obtain⟨t0,t1,t2,t3,t4,t5,t6⟩:=pc)
   all_goals
    have R18:=R10.win k hkg (Ed p) A5 uM (Ir (Ed p) (DZ p) x) ((p.1.1,(inc,seq,Iz p),Ed p,Ir (Ed p) (DZ p) x,Do p),A5,uM) (by rw[ASY]);have R20:=I (R18.xm k (by simpa using LZ) now ((p.1.1,(inc,seq,Iz p),Ed p,Ir (Ed p) (DZ p) x,now),A5,uM) (by rw[ASY]));have V20:=I ((((VG.out.below Ra).upd (k:=k) (p':=((p.1.1,(inc,seq,Iz p),Ed p,Ir (Ed p) (DZ p) x,Do p),A5,uM)) (DX Xe BG.out.size)).upd (k:=k) (p':=((p.1.1,(inc,seq,Iz p),Ed p,Ir (Ed p) (DZ p) x,now),A5,uM)) (DX Xe BG.out.size)).at3 R10.DC (k*7+4) (k*7+4+1) (k*7+6) (.int .i64 (Ed p)) (.slice A5 (Ir (Ed p) (DZ p) x).length uM) (.int .i64 now))
    have B20:=I ((((BG.out.trans (Ra.mono BG.out.size)).setCell (p:=⟨g,k*7+4,none⟩) (by show w.heap.size<=g;omega) (.int .i64 (Ed p))).setCell (p:=⟨g,k*7+4+1,none⟩) (by show w.heap.size<=g;omega) (.slice A5 (Ir (Ed p) (DZ p) x).length uM)).setCell (p:=⟨g,k*7+6,none⟩) (by show w.heap.size<=g;omega) (.int .i64 now));have vQ:(pid p).size<=maxLen:=IDS.out p (by rw[<-dE.out];exact AL LZ);have P20:=I (Dq.sB R20.out V20.out (UB (UB (UB IDS.out k _ (by exact vQ)) k _ (by exact vQ)) k _ (by exact vQ)));have np:((((l4.set k ((p.1.1,(inc,seq,Iz p),p.1.2.2),p.2)).set k ((p.1.1,(inc,seq,Iz p),Ed p,Ir (Ed p) (DZ p) x,Do p),A5,uM)).set k ((p.1.1,(inc,seq,Iz p),Ed p,Ir (Ed p) (DZ p) x,now),A5,uM))).map Prod.fst=(l.map Prod.fst).set k (YX (l[k]'hk).1 inc seq (min (now-Do (l[k]'hk)) 16777216) now):=by
     rw[ASq,ASq,Ck,MP.out,<-HQ.out];have:Do (l[k]'hk)=Do p:=(Ae (·.2.2.2.2) HQ.out).symm;rw[this,HX.out];rfl
    have MD:=I np;clear np R18 R10 Xe AEi Ra t0 t1 t2 t3 d4' d5' d6' g4 g5 g6 vQ;go_wp2;refine AF (v:=.tuple #[.slice (some ⟨g,0,none⟩) n c4,.bool true,.int .i64 0]) (by simp[results,results216,go_sem]) rfl ⟨_,_,_,rfl,MD.out,P20.out,B20.out,⟨RW.out.2.1,RW.out.2.2.1⟩,Si (by omega) V20.out⟩
def ACT:=fun A c B n l hm JR VV inc seq now w hp hB he hb J0 Hc k hk hid=>(Qa A c B n l hm JR VV inc seq now w hp hB he hb J0 Hc k hk hid).1
def rT:=fun A c B n l hm JR VV inc seq now w hp hB he hb J0 Hc k hk hid=>(Qa A c B n l hm JR VV inc seq now w hp hB he hb J0 Hc k hk hid).2.1
def oK:=fun A c B n l hm JR VV inc seq now w hp hB he hb J0 Hc k hk hid=>(Qa A c B n l hm JR VV inc seq now w hp hB he hb J0 Hc k hk hid).2.2
theorem Hj.all{w:World}{g cap n:Nat}{l:List C8}(h:Hj w g cap n l)(k:Nat)(hk:k<l.length)(p':C8):
 Hj (((((((w.setCell ⟨g,k*7,none⟩ (.string (pid p'))).setCell ⟨g,k*7+1,none⟩ (.int .i64 (LS p'))).setCell ⟨g,k*7+2,none⟩ (.int .i64 (LR p'))).setCell ⟨g,k*7+3,none⟩ (.int .i64 (Iz p'))).setCell ⟨g,k*7+4,none⟩ (.int .i64 (Ed p'))).setCell ⟨g,k*7+5,none⟩ (Tb p')).setCell ⟨g,k*7+6,none⟩ (.int .i64 (Do p'))) g cap n (l.set k p'):=by
 have h0:=h.De k 0 (.string (pid p')) ((p'.1.1,(l[k]'hk).1.2),(l[k]'hk).2) hk (by decide) rfl;have h1:=h0.gate k (by simpa using hk) (LS p') (LR p') (Iz p') ((p'.1.1,p'.1.2.1,(l[k]'hk).1.2.2),(l[k]'hk).2) (by rw[ASY]);have h2:=h1.win k (by simpa using hk) (Ed p') p'.2.1 p'.2.2 (DZ p') ((p'.1.1,p'.1.2.1,p'.1.2.2.1,p'.1.2.2.2.1,(l[k]'hk).1.2.2.2.2),p'.2) (by rw[ASY]);have h3:=h2.xm k (by simpa using hk) (Do p') p' (by rw[ASY]);rw[ASq,ASq,ASq]at h3;exact h3
theorem LD{w W:World}{B g k:Nat}(h:Below B w W)(hg:B<=g)(p':C8):
 Below B w (((((((W.setCell ⟨g,k*7,none⟩ (.string (pid p'))).setCell ⟨g,k*7+1,none⟩ (.int .i64 (LS p'))).setCell ⟨g,k*7+2,none⟩ (.int .i64 (LR p'))).setCell ⟨g,k*7+3,none⟩ (.int .i64 (Iz p'))).setCell ⟨g,k*7+4,none⟩ (.int .i64 (Ed p'))).setCell ⟨g,k*7+5,none⟩ (Tb p')).setCell ⟨g,k*7+6,none⟩ (.int .i64 (Do p'))):=
 ((((((h.setCell hg _).setCell hg _).setCell hg _).setCell hg _).setCell hg _).setCell hg _).setCell hg _
theorem fq{w:World}{B:Nat}{l:List C8}(h:∀p∈l,Hn w B p)(k:Nat)(p':C8)(hp:Hn w B p'):∀p∈l.set k p',Hn w B p:=fun q hq=>by
 rcases Cc hq with hq|rfl
 ·exact h q hq
 ·exact hp
theorem AAE(A:Option Addr)(c B n:Nat)(l:List C8)(hm:n<=maxLen)(JR:ByteArray)(inc seq now:Int)(w:World)(hp:Dq w B A n l)(hB:B<=w.heap.size)(e0:Int)(hb:Em JR inc seq=e0)(hz:e0≠0):
 Calls prog 191 #[.slice A n c,.agg #[.string JR,.int .i64 inc,.int .i64 seq],.int .i64 now] w (NQ e0 w):=by
 have N4:=I hb;clear hb;have HP:=I hp;have FK:=I hB;have HN:=I hp.len;have E:=I ((AI w).lay #[.string JR,.int .i64 inc,.int .i64 seq] 226);clear hp hB;go_in;go_wp2_with fail
 refine(PL JR inc seq _).mono ?_;rw[N4.out];rintro e' w2 ⟨rfl,DK⟩;have E2:=I (E.out.below DK);clear DK;have z0:=E2.out.hd.cell 0;have z1:=E2.out.hd.cell 1;have z2:=E2.out.hd.cell 2;simp at z0 z1 z2;go_wp2;all_goals first
  |(exfalso;omega)
  |(refine AF (v:=.tuple #[.slice none 0 0,.bool false,.int .i64 e0]) (by simp[results,results191,go_sem]) rfl ⟨rfl,E2.out.DI⟩)
theorem dN(A:Option Addr)(c B n:Nat)(l:List C8)(hm:n<=maxLen)(JR:ByteArray)(inc seq now:Int)(w:World)(hp:Dq w B A n l)(hB:B<=w.heap.size)(hb:Em JR inc seq=0)(J0:0<=now)(Hc:now<=1073741824)(Ix:∀j,(hj:j<l.length)->pid (l[j]'hj)≠JR):
 Calls prog 191 #[.slice A n c,.agg #[.string JR,.int .i64 inc,.int .i64 seq],.int .i64 now] w (NQ 4 w):=by
 have HWT:=I (show wi now 0 1073741824=true from DW.2 ⟨J0,Hc⟩);have HF:=I (LC A c B n l JR Ix hm);clear Ix;have N4:=I hb;clear hb;have HP:=I hp;have FK:=I hB;have HN:=I hp.len;have E:=I ((AI w).lay #[.string JR,.int .i64 inc,.int .i64 seq] 226);clear hp hB;go_in;go_wp2_with fail
 refine(PL JR inc seq _).mono ?_;rw[N4.out];rintro e' w2 ⟨rfl,DK⟩;have E2:=I (E.out.below DK);clear DK;have z0:=E2.out.hd.cell 0;have z1:=E2.out.hd.cell 1;have z2:=E2.out.hd.cell 2;simp at z0 z1 z2;go_wp2_with fail
 refine(JX now _).mono ?_;rw[HWT.out];rintro e' w' ⟨rfl,rfl⟩;go_wp2_with fail
 refine(HF.out _ (HP.out.below E2.out.DI FK.out) (AG FK.out E2.out.DI.size)).mono ?_;rintro e' w3 ⟨rfl,DT⟩;have E3:=I (E2.out.below DT);clear DT z0 z1 z2;go_wp2;all_goals first
  |(exfalso;omega)
  |(refine AF (v:=.tuple #[.slice none 0 0,.bool false,.int .i64 4]) (by simp[results,results191,go_sem]) rfl ⟨rfl,E3.out.DI⟩)
theorem OB(A:Option Addr)(c B n:Nat)(l:List C8)(hm:n<=maxLen)(JR:ByteArray)(inc seq now:Int)(w:World)(hp:Dq w B A n l)(hB:B<=w.heap.size)(hb:Em JR inc seq=0)(J0:0<=now)(Hc:now<=1073741824)(GN:∀p∈l,I5 p)(Jr:oC l)(Qg:n<=6)(k:Nat)(hk:k<l.length)(hid:pid (l[k]'hk)=JR):
 (∀(DG:now<Do (l[k]'hk)),Calls prog 191 #[.slice A n c,.agg #[.string JR,.int .i64 inc,.int .i64 seq],.int .i64 now] w (NQ 1 w))/\
 (∀(LU:Do (l[k]'hk)<=now),∀(Nw:¬GC (LS (l[k]'hk)) (LR (l[k]'hk)) inc seq),Calls prog 191 #[.slice A n c,.agg #[.string JR,.int .i64 inc,.int .i64 seq],.int .i64 now] w (Ob A l ((l.map Prod.fst).set k (fN (l[k]'hk).1 (min (Iz (l[k]'hk)+1) 1073741824))) n false w))/\
 (∀(LU:Do (l[k]'hk)<=now),∀(Nw:GC (LS (l[k]'hk)) (LR (l[k]'hk)) inc seq),Calls prog 191 #[.slice A n c,.agg #[.string JR,.int .i64 inc,.int .i64 seq],.int .i64 now] w (Ob A l ((l.map Prod.fst).set k (YX (l[k]'hk).1 inc seq (min (now-Do (l[k]'hk)) 16777216) now)) n true w)):=by
 refine⟨fun DG=>?_,fun LU Nw=>?_,fun LU Nw=>?_⟩;all_goals
  have HWT:=I (show wi now 0 1073741824=true from DW.2 ⟨J0,Hc⟩);have Pz:=Mp A c B n l k hk (fun j hj VD=>rF Jr hj hk VD) hm;rw[hid]at Pz;have HF:=I Pz;have HGK:=I (GN _ (AL hk));have uO:=I (hp.ok _ (AL hk));have Te:k<n:=by rw[<-hp.len];exact hk
  clear Pz GN Jr hid;have N4:=I hb;clear hb;have HP:=I hp;have FK:=I hB;have HN:=I hp.len;have E:=I ((AI w).lay #[.string JR,.int .i64 inc,.int .i64 seq] 226);clear hp hB;go_in;go_wp2_with fail
  refine(PL JR inc seq _).mono ?_;rw[N4.out];rintro e' w2 ⟨rfl,DK⟩;have E2:=I (E.out.below DK);clear DK;have z0:=E2.out.hd.cell 0;have z1:=E2.out.hd.cell 1;have z2:=E2.out.hd.cell 2;simp at z0 z1 z2;go_wp2_with fail
  refine(JX now _).mono ?_;rw[HWT.out];rintro e' w' ⟨rfl,rfl⟩;go_wp2_with fail
  refine(HF.out _ (HP.out.below E2.out.DI FK.out) (AG FK.out E2.out.DI.size)).mono ?_;rintro e' w3 ⟨rfl,DT⟩;have E3:=I (E2.out.below DT);have uL:B<=w3.heap.size:=AG FK.out E3.out.DI.size;obtain⟨b,off,rfl,hb,EO⟩:=(HP.out.below E3.out.DI FK.out).addr (by omega);obtain⟨c0,c1,c2,c3,c4,c5,c6⟩:=EO k hk;generalize Wm:l[k]'hk=p at*;have dE:=I Wm;have FI:b<w3.heap.size:=AJ hb uL;clear DT z0 z1 z2 EO Wm
 ·go_wp2
  all_goals first
   |(exfalso;omega)
   |(refine AF (v:=.tuple #[.slice none 0 0,.bool false,.int .i64 1]) (by simp[results,results191,go_sem]) rfl ⟨rfl,E3.out.DI.alloc E3.out.DI.size _⟩)
 ·obtain⟨m,Nc⟩:∃m,min (Iz p+1) 1073741824=m:=⟨_,rfl⟩
  have T6:=I (ls (LS p) (LR p) (Iz p) inc seq HGK.out.2.1 (O0 N4.out) Nw m Nc);have gy:=I Nc;clear Nw Nc;have q0:w.heap.size<w3.heap.size:=E3.out.hd.lt;have E4:=I (E3.out.lay (Dp p).toArray 187);simp only[Dp]at E4;have z0:=E3.out.hd.cell 0;have z1:=E3.out.hd.cell 1;have z2:=E3.out.hd.cell 2;simp at z0 z1 z2;go_wp2_with fail
  refine(T6.out _).mono ?_;rintro e' w5 ⟨rfl,Eh⟩;have E5:=I (E4.out.below Eh);have K5:=I (((E5.out.hd.De 1 (.int .i64 (LS p))).De 2 (.int .i64 (LR p))).De 3 (.int .i64 m));have B5:=I (E5.out.DI);clear Eh z0 z1 z2;have x0:=E5.out.hd.cell 0;have x1:=E5.out.hd.cell 1;have x2:=E5.out.hd.cell 2;have x3:=E5.out.hd.cell 3;have x4:=E5.out.hd.cell 4;have x5:=E5.out.hd.cell 5;have x6:=E5.out.hd.cell 6;simp at x0 x1 x2 x3 x4 x5 x6;have f1:=E5.out.hd.frozen 1;have f2:=E5.out.hd.frozen 2;have f3:=E5.out.hd.frozen 3;have q5:=E5.out.hd.lt;simp at K5;have K6:=I (K5.out.alloc (.cells #[.int .i64 (LS p),.int .i64 (LR p),.int .i64 m] 185));have Tj:w.heap.size<=w3.heap.size:=E3.out.DI.size
  have B6:=I (((B5.out.setCell (p:=⟨w3.heap.size,1,none⟩) Tj (.int .i64 (LS p))).setCell (p:=⟨w3.heap.size,2,none⟩) Tj (.int .i64 (LR p))).setCell (p:=⟨w3.heap.size,3,none⟩) Tj (.int .i64 m));have B7:=I (B6.out.alloc B6.out.size (.cells #[.int .i64 (LS p),.int .i64 (LR p),.int .i64 m] 185));go_wp2_with fail
  clear x0 x1 x2 x3 x4 x5 x6 f1 f2 f3 c0 c1 c2 c3 c4 c5 c6 B6 B5 K5 E4 E5;refine(Od b off c B n l (by omega) (by omega) _ (HP.out.below B7.out FK.out) (AG FK.out B7.out.size)).mono ?_;rintro e' w9 ⟨A9,c9,rfl,Db,Ei⟩;have hl:=HN.out;obtain⟨g,rfl,eW,He,Eg⟩:=Hj.DR Db (by omega) hl;have K9:=I (K6.out.below Ei K6.out.lt);have B9:=I (B7.out.trans (Ei.mono B7.out.size));have RW:=I Eg;have pc:=Eg.cells k hk;obtain⟨y0,y1,y2,y3,y4,y5,y6⟩:=pc;have f0:=Eg.frozen (k*7);have f1:=Eg.frozen (k*7+1);have f2:=Eg.frozen (k*7+2);have f3:=Eg.frozen (k*7+3);have f4:=Eg.frozen (k*7+4);have f5:=Eg.frozen (k*7+5);have f6:=Eg.frozen (k*7+6);have SS:w.heap.size<=g:=AG B7.out.size eW
  have x0:=K9.out.cell 0;have x1:=K9.out.cell 1;have x2:=K9.out.cell 2;have x3:=K9.out.cell 3;have x4:=K9.out.cell 4;have x5:=K9.out.cell 5;have x6:=K9.out.cell 6;simp at x0 x1 x2 x3 x4 x5 x6;clear Db Ei Eg K6 K9 B7 eW;go_wp2;have BF:=LD (k:=k) B9.out SS ((p.1.1,(LS p,LR p,m),p.1.2.2),p.2);have RF:=RW.out.all k hk ((p.1.1,(LS p,LR p,m),p.1.2.2),p.2);have N7:=fq (fun q hq=>((HP.out.ok q hq).below BF FK.out).more (AG FK.out BF.size)) k ((p.1.1,(LS p,LR p,m),p.1.2.2),p.2) (Hn.more (Hn.below (show Hn w B ((p.1.1,(LS p,LR p,m),p.1.2.2),p.2)from uO.out) BF FK.out) (AG FK.out BF.size));have np:(l.set k ((p.1.1,(LS p,LR p,m),p.1.2.2),p.2)).map Prod.fst=(l.map Prod.fst).set k (fN (l[k]'hk).1 (min (Iz (l[k]'hk)+1) 1073741824)):=by
   rw[Ck,dE.out];rw[gy.out];rfl
  refine AF (v:=.tuple #[.slice (some ⟨g,0,none⟩) n c9,.bool false,.int .i64 0]) (by simp[results,results191,go_sem]) rfl ⟨_,_,_,rfl,np,⟨RF.1,RF.reads,N7⟩,BF,⟨RF.2.1,RF.2.2.1⟩,Sb SS (fun hl a ha=>.inr ⟨p,by rw[<-dE.out];exact AL hk,hl,ha⟩)⟩
 ·have T6:=I (kF (LS p) (LR p) (Iz p) inc seq HGK.out.2.1 (O0 N4.out) Nw)
  obtain⟨x,hx⟩:∃x,min (now-Do p) 16777216=x:=⟨_,rfl⟩;have RV:=HGK.out;have z8:0<=Do p:=RV.2.2.2.1;have HWN:=I RV.2.2.1;have MH:=dQ RV;have HX:=I hx;have HWX:=I (show 0<=x/\x<=16777216 by omega);clear Nw RV hx;have q0:w.heap.size<w3.heap.size:=E3.out.hd.lt;have E4:=I (E3.out.lay (Dp p).toArray 187);simp only[Dp]at E4;have z0:=E3.out.hd.cell 0;have z1:=E3.out.hd.cell 1;have z2:=E3.out.hd.cell 2;simp at z0 z1 z2;go_wp2_with fail
  refine(T6.out _).mono ?_;rintro e' w5 ⟨rfl,Eh⟩;have E5:=I (E4.out.below Eh);have K5:=I (((E5.out.hd.De 1 (.int .i64 inc)).De 2 (.int .i64 seq)).De 3 (.int .i64 (Iz p)));have B5:=I (E5.out.DI);clear Eh z0 z1 z2;have x0:=E5.out.hd.cell 0;have x1:=E5.out.hd.cell 1;have x2:=E5.out.hd.cell 2;have x3:=E5.out.hd.cell 3;have x4:=E5.out.hd.cell 4;have x5:=E5.out.hd.cell 5;have x6:=E5.out.hd.cell 6;simp at x0 x1 x2 x3 x4 x5 x6;have f1:=E5.out.hd.frozen 1;have f2:=E5.out.hd.frozen 2;have f3:=E5.out.hd.frozen 3;have q5:=E5.out.hd.lt;simp at K5;have K6:=I (K5.out.alloc (.cells #[.int .i64 inc,.int .i64 seq,.int .i64 (Iz p)] 185));have Tj:w.heap.size<=w3.heap.size:=E3.out.DI.size
  have B6:=I (((B5.out.setCell (p:=⟨w3.heap.size,1,none⟩) Tj (.int .i64 inc)).setCell (p:=⟨w3.heap.size,2,none⟩) Tj (.int .i64 seq)).setCell (p:=⟨w3.heap.size,3,none⟩) Tj (.int .i64 (Iz p)));have B7:=I (B6.out.alloc B6.out.size (.cells #[.int .i64 inc,.int .i64 seq,.int .i64 (Iz p)] 185))
  go_upto_region 15 with fail
  clear x0 x1 x2 x3 x4 x5 x6 f1 f2 f3 c0 c1 c2 c3 c4 c5 c6 B6 B5 K5 E4 E5;generalize hW6:World.alloc (World.setCell (World.setCell (World.setCell w5 _ _) _ _) _ _) _=w6 at*;clear hW6;have k6:=K6.out.lt;have hs6:=B7.out.size;obtain⟨i0,hi,Fq,FZ,Fe⟩:=AO Jo;have hwx:min (IntKind.i64.wrap (now-Do p)) 16777216=x:=by rw[show IntKind.i64.wrap (now-Do p)=now-Do p by rw[Aj];omega];exact HX.out
  have HWW:=I hwx;have HOW:=I (uO.out.below B7.out FK.out);have hB6:B<=w6.heap.size:=AG FK.out hs6;have P7:=I (show∀X,Below w6.heap.size w6 X->Calls prog 231 #[Tb p] X (Qt (DZ p) w6.heap.size X)
   from fun X h=>(MX p.2.1 p.2.2 B (DZ p).length (DZ p) rfl (by omega) X (HOW.out.1.below h hB6) (AG hB6 h.size)).mono fun e GQ ⟨A2,c2,h1,h2,h3⟩=>⟨A2,c2,h1,DX h2 h.size,h3⟩)
  have HS:=I (show∀w',Below w6.heap.size w6 w'->(Below w6.heap.size w6 w'/\w'.cell? ⟨w3.heap.size,5,none⟩=some (Tb p)/\w'.cell? ⟨w3.heap.size,6,none⟩=some (.int .i64 (Do p)))
   from fun w' h=>⟨h,(K6.out.below h k6).cell 5,(K6.out.below h k6).cell 6⟩)
  have Pb:=I (JD [min (IntKind.i64.wrap (now-Do p)) 16777216]);have Pi:=I (fun w'=>PI w' 3 (min (IntKind.i64.wrap (now-Do p)) 16777216));clear hwx;go_region_held3 (fun w'=>Below w6.heap.size w6 w'/\w'.cell? ⟨w3.heap.size,5,none⟩=some (Tb p)/\w'.cell? ⟨w3.heap.size,6,none⟩=some (.int .i64 (Do p)))
   ((refine HS.out _ ?_;repeat (with_reducible first|exact Kh|exact YO|exact AA|refine Below.Gh ?_|refine AE ?_)))
   (first
     |(go_at_call 231;(with_reducible refine(P7.out _ ?hb).mono ?_);(case hb=>repeat (with_reducible first|exact AA|refine Below.Gh ?_|refine AE ?_));rintro e' w7 ⟨A4,dD,rfl,JP,EL⟩;have YO:Below w6.heap.size w6 w7:=Below.C9 (by repeat (with_reducible first|exact AA|refine Below.Gh ?_|refine AE ?_)) EL)
     |((refine FE (by rfl) _ _ _ (by rfl) w6.heap.size 3 i0 (.int .i64 0) 1 8 underlying53 hi Fq FZ Fe rfl (by decide) _ _ _ (by rfl) (JP.alloc _) _ _ 1 _ _ (by rfl) (Pi.out _) Pb.out (by unfold maxLen;omega) (by omega) (by exact CW (AK (by assumption))) ?_;intro v9 w9 Db Ei;obtain⟨A9,c9,rfl⟩:=Cz Db;have Kh:Below w6.heap.size w6 w9:=Cb (by repeat (with_reducible first|exact YO|refine Below.Gh ?_|refine AE ?_)) Ei))
     |((refine FE (by rfl) _ _ _ (by rfl) w6.heap.size 3 i0 (.int .i64 0) 1 8 underlying53 hi Fq FZ Fe rfl (by decide) _ _ _ (by rfl) JP _ _ 1 _ _ (by rfl) ((Pi.out _).drew.below EL (by simp)) Pb.out (by unfold maxLen;omega) (by omega) (by exact CW (AK (by assumption))) ?_;intro v9 w9 Db Ei;obtain⟨A9,c9,rfl⟩:=Cz Db;have Kh:Below w6.heap.size w6 w9:=Cb (by repeat (with_reducible first|exact YO|refine Below.Gh ?_|refine AE ?_)) Ei)))
  all_goals
   rename_i hheld;have K9:=I (K6.out.below Kh k6);have B9:=I (B7.out.trans (Kh.mono B7.out.size));have hs9:=Kh.size;obtain⟨g9,c9',vC,APA,AMj,APY,AOL,-⟩:=Eu Db (by omega);injection vC with Rq yS tH
   subst Rq tH;have OW9:=I (show w9.ownsRow w6.heap.size 3 1 (.slice (some ⟨g9,0,none⟩) ((DZ p).length+1) c9) ((DZ p).length+1) (DF (DZ p++[x]))by have:=Db;rw[HWW.out]at this;simpa [DF] using this);clear hheld Kh Db P7 HS Pb Pi K6 B7 HOW yS;have x4:=K9.out.cell 4;have x5:=K9.out.cell 5;have x6:=K9.out.cell 6;have f5:=K9.out.frozen 5;have f6:=K9.out.frozen 6;simp at x4 x5 x6;obtain⟨w0,w1',w2',w3'⟩:=GZ HWN.out;have W3':=I w3';clear w3';have hlen:(DZ p).length<=64:=by omega
   by_cases DG:((DZ p).length:Int)<Ed p
   ·have hmx:max 0 (((DZ p).length:Int)+1-Ed p)=0:=by omega
    have HL:=I (show Ir (Ed p) (DZ p) x=DZ p++[x]from AD DG);go_wp2_with fail
    obtain⟨L,hL⟩:∃L,Ir (Ed p) (DZ p) x=L:=⟨_,rfl⟩;have hLl:(DZ p).length+1=L.length:=by rw[<-hL,HL.out];simp
    have LE:=I hL;have LL:=I hLl;have K10:=I (show DJ ((w9.setCell ⟨w3.heap.size,5,none⟩ (.slice (some ⟨g9,0,none⟩) ((DZ p).length+1) (c9))).setCell ⟨w3.heap.size,6,none⟩ (.int .i64 now)) w3.heap.size 187 (Dp ((pid p,(inc,seq,Iz p),Ed p,L,now),some ⟨g9,0,none⟩,c9)).toArray by
     have:=(K9.out.De 5 (.slice (some ⟨g9,0,none⟩) ((DZ p).length+1) (c9))).De 6 (.int .i64 now)
     simpa [Dp,hLl] using this)
    have nI:=I (DV (DV OW9.out (a:=⟨w3.heap.size,5,none⟩) k6 (.slice (some ⟨g9,0,none⟩) ((DZ p).length+1) (c9))) (a:=⟨w3.heap.size,6,none⟩) k6 (.int .i64 now));have kR:=I ((B9.out.setCell (p:=⟨w3.heap.size,5,none⟩) Tj (.slice (some ⟨g9,0,none⟩) ((DZ p).length+1) (c9))).setCell (p:=⟨w3.heap.size,6,none⟩) Tj (.int .i64 now));clear hL hLl x4 x5 x6 f5 f6 K9 OW9 B9 hmx;generalize rm:World.setCell (World.setCell w9 _ _) _ _=uC at*;have AHi:w9.heap.size=uC.heap.size:=by rw[<-rm];simp[World.setCell]
    clear rm;have RD:=I (show Reads uC uC.heap.size 1 (some ⟨g9,0,none⟩) L.length (DF L)by
     have h0:=Reads.DR nI.out;rw[<-LL.out,<-LE.out,HL.out];exact h0)
    clear nI;refine(Od b off c B n l (by omega) (by omega) _ (HP.out.below kR.out FK.out) (AG FK.out kR.out.size)).mono ?_;rintro e' w11 ⟨A11,c11,rfl,UR,Ra⟩;have hl:=HN.out;obtain⟨g,rfl,eW,He,Eg⟩:=Hj.DR UR (by omega) hl;have aO:=I (K10.out.below Ra K10.out.lt);have B11:=I (kR.out.trans (Ra.mono kR.out.size));have zX:=I Ra;have RW:=I Eg;have pc:=Eg.cells k hk;obtain⟨y0,y1,y2,y3,y4,y5,y6⟩:=pc;have f0:=Eg.frozen (k*7);have f1:=Eg.frozen (k*7+1);have f2:=Eg.frozen (k*7+2);have f3:=Eg.frozen (k*7+3);have f4:=Eg.frozen (k*7+4);have f5:=Eg.frozen (k*7+5);have f6:=Eg.frozen (k*7+6);have SS:w.heap.size<=g:=AG kR.out.size eW
    have HHG:=I eW;have x0:=aO.out.cell 0;have x1:=aO.out.cell 1;have x2:=aO.out.cell 2;have x3:=aO.out.cell 3;have x4:=aO.out.cell 4;have x5:=aO.out.cell 5;have x6:=aO.out.cell 6;simp[Dp]at x0 x1 x2 x3 x4 x5 x6;clear UR Ra Eg K10 aO kR eW;go_wp2;have BF:=LD (k:=k) B11.out SS ((pid p,(inc,seq,Iz p),Ed p,L,now),some ⟨g9,0,none⟩,c9);have BC:=LD (k:=k) zX.out HHG.out ((pid p,(inc,seq,Iz p),Ed p,L,now),some ⟨g9,0,none⟩,c9);have RF:=RW.out.all k hk ((pid p,(inc,seq,Iz p),Ed p,L,now),some ⟨g9,0,none⟩,c9);have N7:=fq (fun q hq=>((HP.out.ok q hq).below BF FK.out).more (AG FK.out BF.size)) k ((pid p,(inc,seq,Iz p),Ed p,L,now),some ⟨g9,0,none⟩,c9)
     ⟨(RD.out.below BC AB).more BC.size,by show L.length<=c9;rw[<-LL.out];omega,by show c9<=maxLen;omega,uO.out.2.2.2⟩
    have np:(l.set k ((pid p,(inc,seq,Iz p),Ed p,L,now),some ⟨g9,0,none⟩,c9)).map Prod.fst=(l.map Prod.fst).set k (YX (l[k]'hk).1 inc seq (min (now-Do (l[k]'hk)) 16777216) now):=by
     rw[Ck,dE.out,HX.out,<-LE.out];rfl
    refine AF (v:=.tuple #[.slice (some ⟨g,0,none⟩) n c11,.bool true,.int .i64 0]) (by simp[results,results191,go_sem]) rfl ⟨_,_,_,rfl,np,⟨RF.1,RF.reads,N7⟩,BF,⟨RF.2.1,RF.2.2.1⟩,Sb SS (fun _ a ha=>.inl (by cases ha;show w.heap.size<=g9;omega))⟩
   ·have Qi:¬c9=1:=by omega
    have hmx:max 0 (((DZ p).length:Int)+1-Ed p)=1:=by omega
    have HL:=I (show Ir (Ed p) (DZ p) x=(DZ p++[x]).drop 1 from(AC DG).trans (by
     cases hq:DZ p with
     |nil=>rw[hq]at DG;simp at DG;omega
     |cons a t=>rfl))
    go_wp2_with fail
    obtain⟨L,hL⟩:∃L,Ir (Ed p) (DZ p) x=L:=⟨_,rfl⟩;have hLl:(DZ p).length=L.length:=by rw[<-hL,HL.out];simp
    have LE:=I hL;have LL:=I hLl;have K10:=I (show DJ ((w9.setCell ⟨w3.heap.size,5,none⟩ (.slice (some ⟨g9,1,none⟩) ((DZ p).length) (c9- 1))).setCell ⟨w3.heap.size,6,none⟩ (.int .i64 now)) w3.heap.size 187 (Dp ((pid p,(inc,seq,Iz p),Ed p,L,now),some ⟨g9,1,none⟩,c9- 1)).toArray by
     have:=(K9.out.De 5 (.slice (some ⟨g9,1,none⟩) ((DZ p).length) (c9- 1))).De 6 (.int .i64 now)
     simpa [Dp,hLl] using this)
    have nI:=I (DV (DV OW9.out (a:=⟨w3.heap.size,5,none⟩) k6 (.slice (some ⟨g9,1,none⟩) ((DZ p).length) (c9- 1))) (a:=⟨w3.heap.size,6,none⟩) k6 (.int .i64 now));have kR:=I ((B9.out.setCell (p:=⟨w3.heap.size,5,none⟩) Tj (.slice (some ⟨g9,1,none⟩) ((DZ p).length) (c9- 1))).setCell (p:=⟨w3.heap.size,6,none⟩) Tj (.int .i64 now));clear hL hLl x4 x5 x6 f5 f6 K9 OW9 B9 hmx;generalize rm:World.setCell (World.setCell w9 _ _) _ _=uC at*;have AHi:w9.heap.size=uC.heap.size:=by rw[<-rm];simp[World.setCell]
    clear rm;have RD:=I (show Reads uC uC.heap.size 1 (some ⟨g9,1,none⟩) L.length (DF L)by
     have h0:=Reads.DR nI.out;rw[<-LL.out,<-LE.out,HL.out];have h1:=h0.cut (k:=1) (cap:=c9) (by omega) (by omega);rw[AC Qi]at h1
     simpa [DF,Addr.add] using h1)
    clear nI;refine(Od b off c B n l (by omega) (by omega) _ (HP.out.below kR.out FK.out) (AG FK.out kR.out.size)).mono ?_;rintro e' w11 ⟨A11,c11,rfl,UR,Ra⟩;have hl:=HN.out;obtain⟨g,rfl,eW,He,Eg⟩:=Hj.DR UR (by omega) hl;have aO:=I (K10.out.below Ra K10.out.lt);have B11:=I (kR.out.trans (Ra.mono kR.out.size));have zX:=I Ra;have RW:=I Eg;have pc:=Eg.cells k hk;obtain⟨y0,y1,y2,y3,y4,y5,y6⟩:=pc;have f0:=Eg.frozen (k*7);have f1:=Eg.frozen (k*7+1);have f2:=Eg.frozen (k*7+2);have f3:=Eg.frozen (k*7+3);have f4:=Eg.frozen (k*7+4);have f5:=Eg.frozen (k*7+5);have f6:=Eg.frozen (k*7+6);have SS:w.heap.size<=g:=AG kR.out.size eW
    have HHG:=I eW;have x0:=aO.out.cell 0;have x1:=aO.out.cell 1;have x2:=aO.out.cell 2;have x3:=aO.out.cell 3;have x4:=aO.out.cell 4;have x5:=aO.out.cell 5;have x6:=aO.out.cell 6;simp[Dp]at x0 x1 x2 x3 x4 x5 x6;clear UR Ra Eg K10 aO kR eW;go_wp2;have BF:=LD (k:=k) B11.out SS ((pid p,(inc,seq,Iz p),Ed p,L,now),some ⟨g9,1,none⟩,c9- 1);have BC:=LD (k:=k) zX.out HHG.out ((pid p,(inc,seq,Iz p),Ed p,L,now),some ⟨g9,1,none⟩,c9- 1);have RF:=RW.out.all k hk ((pid p,(inc,seq,Iz p),Ed p,L,now),some ⟨g9,1,none⟩,c9- 1);have N7:=fq (fun q hq=>((HP.out.ok q hq).below BF FK.out).more (AG FK.out BF.size)) k ((pid p,(inc,seq,Iz p),Ed p,L,now),some ⟨g9,1,none⟩,c9- 1)
     ⟨(RD.out.below BC AB).more BC.size,by show L.length<=c9- 1;rw[<-LL.out];omega,by show c9- 1<=maxLen;omega,uO.out.2.2.2⟩
    have np:(l.set k ((pid p,(inc,seq,Iz p),Ed p,L,now),some ⟨g9,1,none⟩,c9- 1)).map Prod.fst=(l.map Prod.fst).set k (YX (l[k]'hk).1 inc seq (min (now-Do (l[k]'hk)) 16777216) now):=by
     rw[Ck,dE.out,HX.out,<-LE.out];rfl
    refine AF (v:=.tuple #[.slice (some ⟨g,0,none⟩) n c11,.bool true,.int .i64 0]) (by simp[results,results191,go_sem]) rfl ⟨_,_,_,rfl,np,⟨RF.1,RF.reads,N7⟩,BF,⟨RF.2.1,RF.2.2.1⟩,Sb SS (fun _ a ha=>.inl (by cases ha;show w.heap.size<=g9;omega))⟩
def zT:=fun A c B n l hm JR inc seq now w hp hB hb J0 Hc GN Jr Qg k hk hid=>(OB A c B n l hm JR inc seq now w hp hB hb J0 Hc GN Jr Qg k hk hid).1
def jS:=fun A c B n l hm JR inc seq now w hp hB hb J0 Hc GN Jr Qg k hk hid=>(OB A c B n l hm JR inc seq now w hp hB hb J0 Hc GN Jr Qg k hk hid).2.1
def kK:=fun A c B n l hm JR inc seq now w hp hB hb J0 Hc GN Jr Qg k hk hid=>(OB A c B n l hm JR inc seq now w hp hB hb J0 Hc GN Jr Qg k hk hid).2.2
