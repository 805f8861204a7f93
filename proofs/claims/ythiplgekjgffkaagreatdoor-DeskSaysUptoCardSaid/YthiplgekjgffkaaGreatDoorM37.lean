/- slices -/
import Derived.Test.YthiplgekjgffkaaGreatDoorM36
import Derived.Test.YthiplgekjgffkaaGreatDoorM28
set_option maxRecDepth 100000
set_option maxHeartbeats 99000000
set_option linter.all false
namespace Go.Proofs.YthiplgekjgffkaaGreatDoor
open Go.Proofs.Tryz
open Go.RowKit Go.Lib
def ABX(s:Dm):Value:=.agg (Gf s).toArray
def TP(P:Dm->Bool)(S:List Dm):Int:=match S.findIdx? P with|some k=>(k:Int)|none=> -1
def Gb(id:ByteArray)(th:Int)(p:Dm):Bool:=mE p.1 id&&(p.2.1==th)
def Zr(c1 c2:Nat)(P:Dm->Bool)(w:World):Prop:=∀(p:Dm)(W:World),Below w.heap.size w W->Calls prog 220 #[ABX p,.pointer (some ⟨c1,0,none⟩),.pointer (some ⟨c2,0,none⟩)] W fun e w'=>e=.returned (.bool (P p))/\Below W.heap.size W w'
theorem ll(c1 c2:Nat)(P:Dm->Bool)(g cap n:Nat)(S:List Dm)(hm:n<=1000)(w:World)(hs:JL 182 w g cap n S)(hc:Zr c1 c2 P w):
 Calls prog 255 #[.slice (some ⟨g,0,none⟩) n cap,.func (.func 220) #[] #[.pointer (some ⟨c1,0,none⟩),.pointer (some ⟨c2,0,none⟩)]] w fun e w'=>e=.returned (.int .i64 (TP P S))/\Below w.heap.size w w':=by
 have HS:=I hs;have HN:=I hs.1;have HC:=I hc;have He:=hs.lt;have r6:=hs.2.1;have Jq:=hs.2.2.1;unfold maxLen at Jq;unfold Zr at HC;simp only[ABX,Gf]at HC;obtain⟨r,hr⟩:∃r,TP P S=r:=⟨_,rfl⟩;rw[hr];have HR:=I hr;clear hs hc hr;go_in;go_wp2_with fail
 go_loopw [8] (fun iv wr=>∃k:Nat,k<=n/\iv=.int .i64 (k:Int)/\(∀j,(hj:j<S.length)->j<k->P (S[j]'hj)=false)/\Below w.heap.size w wr) (fun iv _=>n- (RowKit.intOf iv).toNat)
 case atStart=>exact⟨0,by omega,rfl,fun j _ h=>absurd h (Nat.not_lt_zero j),AA⟩
 case round=>
  obtain⟨k,hk,rfl,GI,FI⟩:=hrel;obtain⟨wo,rfl⟩:∃wo,wo=wr:=⟨_,rfl⟩;have BL:=I FI;have NE:=I GI;clear FI GI;by_cases DG:k<n
  ·have ES:k<S.length:=by rw[HN.out];exact DG
   obtain⟨d0,d1,d2⟩:=(HS.out.below BL.out He).cells k ES;have ob:g<wo.heap.size:=AJ He BL.out.size;generalize TJ:S[k]'ES=p at*;have sx:=I TJ;clear TJ;go_wp2_with fail
   refine(HC.out p _ BL.out).mono ?_;rintro e' w1 ⟨rfl,C6⟩;have UC:=I (BL.out.trans (C6.mono BL.out.size));clear C6;cases hq:P p
   ·have Ko:=I (show∀j,(hj:j<S.length)->j<k+1->P (S[j]'hj)=false from fun j hj h=>by
     rcases AUT.1 h with h|rfl
     ·exact NE.out j hj h
     ·rw[sx.out];exact hq)
    clear hq;go_wp2;exact⟨⟨k+1,by omega,by simp,Ko.out,UC.out⟩,by simp[RowKit.intOf];omega⟩
   ·have hrk:r=(k:Int):=by
     rw[<-HR.out];unfold TP;have:S.findIdx? P=some k:=by
      rw[AUU];exact⟨ES,by rw[sx.out];exact hq,fun j hj=>by rw[NE.out j (by omega) hj];decide⟩
     rw[this]
    subst hrk;clear hq;go_wp2;go_ret;exact⟨rfl,UC.out⟩
  ·have hrn:r= -1:=by
    rw[<-HR.out];unfold TP;have:S.findIdx? P=none:=by
     rw[AUV];intro x hx;obtain⟨j,hj,rfl⟩:=AS6 hx;rw[NE.out j hj (by have:=HN.out;omega)]
    rw[this]
   subst hrn;go_wp2;go_ret;exact⟨rfl,BL.out⟩
theorem ly(c1 c2:Nat)(w:World):
 Calls prog 255 #[.slice none 0 0,.func (.func 220) #[] #[.pointer (some ⟨c1,0,none⟩),.pointer (some ⟨c2,0,none⟩)]] w fun e w'=>e=.returned (.int .i64 (-1))/\Below w.heap.size w w':=by
 go_in;go_wp2_with fail
 go_loop [8] (fun iv=>iv=.int .i64 0) (fun iv=>0)
 case atStart=>rfl
 case round=>
  obtain rfl:=hrel;go_wp2;go_ret;exact⟨rfl,AA⟩
theorem k7(c1 c2:Nat)(P:Dm->Bool)(sv:Value)(S:List Dm)(hm:S.length<=1000)(w:World)(hs:Ib w sv S)(hc:Zr c1 c2 P w):
 Calls prog 255 #[sv,.func (.func 220) #[] #[.pointer (some ⟨c1,0,none⟩),.pointer (some ⟨c2,0,none⟩)]] w fun e w'=>e=.returned (.int .i64 (TP P S))/\Below w.heap.size w w':=by
 rcases hs with⟨rfl,rfl⟩|⟨g,cap,n,rfl,h⟩
 ·exact ly c1 c2 w
 ·exact ll c1 c2 P g cap n S (by rw[<-h.1];exact hm) w h hc
theorem Vs(c1 c2:Nat)(P:Dm->Bool)(sv:Value)(S:List Dm)(hm:S.length<=1000)(w:World)(hs:Ib w sv S)(hc:Zr c1 c2 P w):
 Calls prog 219 #[sv,.func (.func 220) #[] #[.pointer (some ⟨c1,0,none⟩),.pointer (some ⟨c2,0,none⟩)]] w fun e w'=>e=.returned (.bool (decide (0<=TP P S)))/\Below w.heap.size w w':=by
 have HI:=I (k7 c1 c2 P sv S hm w hs hc);have hn:=hs.own;obtain⟨A,c,rfl⟩:=Cz hn;generalize TP P S=r at*;clear hn hs hc;go_in;go_wp2_with fail
 refine HI.out.mono ?_;rintro e' w1 ⟨rfl,C6⟩;have B1:=I C6;clear C6;go_wp2;go_ret;exact⟨rfl,B1.out⟩
theorem Oo(c1 c2:Nat)(id:ByteArray)(th:Int)(w:World)(h1:DJ w c1 9 #[.string id])(h2:DJ w c2 3 #[.int .i64 th]):Zr c1 c2 (Gb id th) w:=by
 intro p W hW;have x1:=(h1.below hW h1.lt).cell 0;have x2:=(h2.below hW h2.lt).cell 0;simp at x1 x2;have NK:=AJ h1.lt hW.size;have I4:=AJ h2.lt hW.size;have E:=I ((AI W).lay (Gf p).toArray 182);simp only[Gf]at E;obtain⟨pi,pt,pb⟩:=p;unfold Gb ABX Gf;clear hW h1 h2;cases hq:mE pi id
 ·have hq2:(pi.toList==id.toList)=false:=hq
  clear hq;go_in;go_wp2;go_ret;exact⟨rfl,E.out.DI⟩
 ·have hq2:(pi.toList==id.toList)=true:=hq
  clear hq;go_in;go_wp2;go_ret;exact⟨rfl,E.out.DI⟩
def Dh.drop(s:Dh):Dh:={s with drops:=min (s.drops+1) 1073741824}
def FW(D:List D0)(k:Nat)(i q now:Int):List D0:=match D[k]? with|some d=>D.set k (YX d i q (min (now-d.2.2.2.2) 16777216) now)|none=>D
def LH(D:List D0)(k:Nat):List D0:=match D[k]? with|some d=>D.set k (fN d (min (d.2.1.2.2+1) 1073741824))|none=>D
def MC(D:List D0)(k:Nat)(i q:Int):Bool:=match D[k]? with|some d=>decide (GC d.2.1.1 d.2.1.2.1 i q)|none=>false
inductive HK|no(e:Int)|Nz(k:Nat)|new(k:Nat)(i q:Int)
def Dh.kind(s:Dh)(x:ByteArray):HK:=
 if (Fm x).2.2.2≠0 then .no (Fm x).2.2.2 else match idxOf s.D (Fm x).1 with
 |none=>.no 4
 |some k=>if MC s.D k (Fm x).2.1 (Fm x).2.2.1=true then .new k (Fm x).2.1 (Fm x).2.2.1 else .Nz k
def Dh.Iy(s:Dh)(x:ByteArray):Int:=match s.kind x with| .no e=>e| .Nz _=>5| .new _ _ _=>0
def Dh.mid(s:Dh)(x:ByteArray):Dh:=match s.kind x with| .no _=>s.drop| .Nz k=>{s with D:=LH s.D k,drops:=min (s.drops+1) 1073741824}| .new k i q=>{s with D:=FW s.D k i q s.now}
def Dh.heard(s:Dh)(x:ByteArray):Dh:=if s.Iy x=0 then (s.mid x).tell else s.mid x
def Dh.J8(s:Dh)(x:ByteArray):List Dm:=if s.Iy x=0 then (s.mid x).notes else []
theorem Di.drop{s:Dh}(h:Di s):Di s.drop:=
 ⟨h.id,h.cfg,h.Nm,h.Ny,h.bL,by have:=h.Ku;show 0<=min (s.drops+1) 1073741824;omega,by show min (s.drops+1) 1073741824<=1073741824;omega,h.ps,h.pv,h.eight,h.th⟩
theorem oD{D:List D0}{k:Nat}{d':D0}(h:TV D)(hk:k<D.length)(hid:d'.1=(D[k]'hk).1)(hg:Qp d'):TV (D.set k d'):=by
 refine⟨by rw[ASl];exact h.yF,fun d hd=>?_,?_⟩
 ·rcases Cc hd with hd|rfl
  ·exact h.Fo d hd
  ·exact hg
 ·have hp:=h.asc
  rw[List.pairwise_iff_getElem]at hp⊢;intro i j hi hj nE;rw[ASl]at hi hj;have e:∀i,(hi:i<D.length)->((D.set k d')[i]'(by rw[ASl];exact hi)).1=(D[i]'hi).1:=fun i hi=>by
   rw[CJ];split
   ·rename_i h;subst h;exact hid
   ·rfl
  have:=hp i j hi hj nE;unfold nN at this⊢;rw[e i hi,e j hj];exact this
theorem sX{cap x:Int}{v:List Int}(hw:Ih cap v=0)(h1:1<=v.length)(hx:wi x 0 16777216=true):Ih cap (Ir cap v x)=0/\1<=(Ir cap v x).length:=by
 obtain⟨c0,c1,c2,c3⟩:=GZ hw;have ZM:IM x=false:=by unfold IM;rw[hx];rfl
 have Gg:∀y∈v,IM y=false:=by
  unfold EZ at c3;split at c3
  ·cases c3
  split at c3
  ·cases c3
  ·rename_i h;simpa using h
 have main:∀u:List Int,(∀y∈u,IM y=false)->(u.length:Int)<=cap->Ih cap u=0:=fun u hu hl=>by
  unfold Ih;rw[AD (DW.2 ⟨c0,c1⟩),AC (by omega)];unfold EZ;rw[AC (by omega),AC (by simpa using hu)]
 unfold Ir;split
 ·rename_i h
  exact⟨main _ (fun y hy=>by rcases Au.1 hy with hy|hy;exact Gg y hy;rw[Ai.1 hy];exact ZM) (by simp;omega),by simp⟩
 ·rename_i h
  exact⟨main _ (fun y hy=>by rcases Au.1 hy with hy|hy;exact Gg y (List.mem_of_mem_tail hy);rw[Ai.1 hy];exact ZM) (by simp;omega),by simp⟩
theorem sM{d:D0}{i q now:Int}(h:Qp d)(h1:1<=d.2.2.2.1.length)(hb:MQ i q)(hl:d.2.2.2.2<=now)(h0:0<=now)(hn:now<=1073741824):Qp (YX d i q (min (now-d.2.2.2.2) 16777216) now)/\1<=(YX d i q (min (now-d.2.2.2.2) 16777216) now).2.2.2.1.length:=by
 obtain⟨g1,g2,g3,g4,g5⟩:=h;have hp:=sX (cap:=d.2.2.1) (x:=min (now-d.2.2.2.2) 16777216) (v:=d.2.2.2.1) g3 h1 (DW.2 ⟨by omega,by omega⟩);refine⟨⟨g1,?_,hp.1,h0,hn⟩,hp.2⟩;show GO i q d.2.1.2.2;unfold GO MQ at*;have e:GO d.2.1.1 d.2.1.2.1 d.2.1.2.2:=g2;unfold GO at e;omega
theorem r7{d:D0}(h:Qp d):Qp (fN d (min (d.2.1.2.2+1) 1073741824)):=by
 obtain⟨g1,g2,g3,g4,g5⟩:=h;refine⟨g1,?_,g3,g4,g5⟩;show GO d.2.1.1 d.2.1.2.1 (min (d.2.1.2.2+1) 1073741824);have e:GO d.2.1.1 d.2.1.2.1 d.2.1.2.2:=g2;unfold GO at e⊢;omega
theorem kG{b:ByteArray}{i q:Int}(h:Em b i q=0):MQ i q:=O0 h
theorem Di.mid{s:Dh}(h:Di s)(x:ByteArray):Di (s.mid x):=by
 unfold Dh.mid Dh.kind;by_cases he:(Fm x).2.2.2≠0
 ·rw[AD he];exact h.drop
 rw[AC he];have hz:(Fm x).2.2.2=0:=Cn.1 he;cases hi:idxOf s.D (Fm x).1 with
 |none=>exact h.drop
 |some k=>
  obtain⟨hk,h1,h2⟩:=Hk hi;have ek:s.D[k]? =some (s.D[k]'hk):=AU hk;have hm:=AL hk;have La:=h.ps.Fo _ hm;have hpv:=h.pv _ hm;by_cases hn:MC s.D k (Fm x).2.1 (Fm x).2.2.1=true
  ·show Di (match (if MC s.D k (Fm x).2.1 (Fm x).2.2.1=true then HK.new k (Fm x).2.1 (Fm x).2.2.1 else HK.Nz k)with| .no _=>s.drop| .Nz k=>_| .new k i q=>_)
   rw[AD hn];have e:FW s.D k (Fm x).2.1 (Fm x).2.2.1 s.now=s.D.set k (YX (s.D[k]'hk) (Fm x).2.1 (Fm x).2.2.1 (min (s.now- (s.D[k]'hk).2.2.2.2) 16777216) s.now):=by unfold FW;rw[ek]
   have Mm:=sM La hpv.1 (kG (SP hz)) hpv.2 h.Nm h.Ny;refine⟨h.id,h.cfg,h.Nm,h.Ny,h.bL,h.Ku,h.MJ,?_,?_,h.eight,h.th⟩
   ·show TV (FW _ _ _ _ _);rw[e];exact oD h.ps hk rfl Mm.1
   ·show∀d∈FW _ _ _ _ _,_
    rw[e];intro d hd;rcases Cc hd with hd|rfl
    ·exact h.pv d hd
    ·exact⟨Mm.2,Ct _⟩
  ·show Di (match (if MC s.D k (Fm x).2.1 (Fm x).2.2.1=true then HK.new k (Fm x).2.1 (Fm x).2.2.1 else HK.Nz k)with| .no _=>s.drop| .Nz k=>_| .new k i q=>_)
   rw[AC hn];have e:LH s.D k=s.D.set k (fN (s.D[k]'hk) (min ((s.D[k]'hk).2.1.2.2+1) 1073741824)):=by unfold LH;rw[ek]
   have GV:=h.drop;refine⟨h.id,h.cfg,h.Nm,h.Ny,h.bL,GV.Ku,GV.MJ,?_,?_,h.eight,h.th⟩
   ·show TV (LH _ _);rw[e];exact oD h.ps hk rfl (r7 La)
   ·show∀d∈LH _ _,_
    rw[e];intro d hd;rcases Cc hd with hd|rfl
    ·exact h.pv d hd
    ·exact hpv
theorem Di.heard{s:Dh}(h:Di s)(x:ByteArray):Di (s.heard x):=by
 unfold Dh.heard;split
 ·exact(h.mid x).tell
 ·exact h.mid x
def MK(X:Nat->Prop)(b:Nat)(s':Dh)(N:List Dm)(er:Int)(w:World)(e:Ending)(w':World):Prop:=
 ∃A c,e=.returned (.tuple #[.slice A N.length c,.int .i64 er])/\w'.ownsRow w.heap.size 173 3 (.slice A N.length c) N.length (Da N)/\FM (grow X w w') w' b s'/\Kept X w w'
theorem MK.no{X:Nat->Prop}{b:Nat}{s':Dh}{er:Int}{w w':World}(h:FM (grow X w w') w' b s')(hk:Kept X w w'):MK X b s' [] er w (.returned (.tuple #[.slice none 0 0,.int .i64 er])) w':=
 ⟨none,0,rfl,AX _ _ _ _,h,hk⟩
theorem Tt{X:Nat->Prop}{w w1 w2:World}(h:w1.heap.size<=w2.heap.size):∀k,grow X w w1 k->grow X w w2 k:=fun k hk=>⟨hk.1,AJ hk.2 h⟩
theorem Vr{l:List C8}{D:List D0}{id:ByteArray}(hm:l.map Prod.fst=D)(h:idxOf D id=none):∀j,(hj:j<l.length)->pid (l[j]'hj)≠id:=by
 subst hm;intro j hj e;exact Ot h j (by simpa using hj) (by simpa using e)
theorem M6{w W:World}{A A':Option Addr}{l l':List C8}(h:Ki W A l A' l')(hs:w.heap.size<=W.heap.size):Ki w A l A' l':=fun P hP h0=>h P (fun k hk=>hP k (AG hs hk)) h0
section
variable{X:Nat->Prop}{w:World}{b pn pc:Nat}{A:Option Addr}{sv:Value}{l:List C8}{s:Dh}
theorem AA0(h:Ft X w b A pn pc sv l s)(hg:Di s)(x:ByteArray){id:ByteArray}{i q er:Int}(he:Fm x=(id,i,q,er))(hz:er≠0):
 Calls prog 180 #[.pointer (some ⟨b,0,none⟩),.string x] w (MK X b s.drop [] er w):=by
 have HH:=I h;have HG:=I hg;have HX:=I h.dJ;have FI:=h.DC.lt;have fh:=hg.Ku;have N8:=hg.MJ;have J0:=hg.Nm;have Hc:=hg.Ny;have HE:=I he;have HD:=I (fun W=>jA x W);simp only[he]at HD;clear h hg he;go_in;go_wp2_with fail
 refine(HD.out _).mono ?_;rintro e' w1 ⟨rfl,C6⟩;have N1:=I (C0.below HH.out C6);have B1:=I C6;have Ld:=C6.size;clear C6;have E1:=I (B1.out.alloc Ld (.cells #[.string id,.int .i64 i,.int .i64 q] 226));have N2:=I (C0.below HH.out E1.out);have Hi:=N2.out.DC.lt;have b7:=N2.out.DC.cell 7;have f7:=N2.out.DC.frozen 7;simp[ED]at b7 f7;have NS:=I (C0.set (mk':=ED s.c s.now s.seq (min (s.drops+1) 1073741824)) N2.out 7 (.int .i64 (min (s.drops+1) 1073741824)) rfl);have KS:=I ((Kept.DU (X:=X) E1.out).setCell (a:=⟨b,7,none⟩) (.inl HH.out.xb) (.int .i64 (min (s.drops+1) 1073741824)));clear N1 B1;go_wp2;all_goals first
  |(exfalso;omega)
  |(refine AF (v:=.tuple #[.slice none 0 0,.int .i64 er]) (by simp[results,results180,go_sem]) rfl ?_;exact .no (C0.at_ (C0.grow NS.out)) KS.out)
theorem UW(h:Ft X w b A pn pc sv l s)(hg:Di s)(x:ByteArray){id:ByteArray}{i q:Int}(he:Fm x=(id,i,q,0))(hb:Em id i q=0):
 (∀(Ix:idxOf s.D id=none),Calls prog 180 #[.pointer (some ⟨b,0,none⟩),.string x] w (MK X b s.drop [] 4 w))/\
 (∀(k:Nat),∀(hk:k<s.D.length),∀(QK:(s.D[k]'hk).1=id),∀(Nw:¬GC (s.D[k]'hk).2.1.1 (s.D[k]'hk).2.1.2.1 i q),Calls prog 180 #[.pointer (some ⟨b,0,none⟩),.string x] w (MK X b {s with D:=LH s.D k,drops:=min (s.drops+1) 1073741824} [] 5 w))/\
 (∀(k:Nat),∀(hk:k<s.D.length),∀(QK:(s.D[k]'hk).1=id),∀(Nw:GC (s.D[k]'hk).2.1.1 (s.D[k]'hk).2.1.2.1 i q),∀(Ka:Di {s with D:=FW s.D k i q s.now}),Calls prog 180 #[.pointer (some ⟨b,0,none⟩),.string x] w (MK X b (Dh.tell {s with D:=FW s.D k i q s.now}) (Dh.notes {s with D:=FW s.D k i q s.now}) 0 w)):=by
 refine⟨fun Ix=>?_,fun k hk QK Nw=>?_,fun k hk QK Nw Ka=>?_⟩;all_goals
  have HH:=I h;have HG:=I hg;have HX:=I h.dJ;have FI:=h.DC.lt;have fh:=hg.Ku;have N8:=hg.MJ;have J0:=hg.Nm;have Hc:=hg.Ny;have HB:=I hb;have Nc:pn<=maxLen:=AG h.room.1 h.room.2;have Rs:GH l=0:=by rw[Kr,h.map];exact hg.ps.zero
  have HD:=I (fun W=>jA x W);simp only[he]at HD
 ·have gz:=I (show∀W,Below w.heap.size w W->Calls prog 216 #[.slice A pn pc,.agg #[.string id,.int .i64 i,.int .i64 q],.int .i64 s.now] W (NQ 4 W)from fun W hw=>js A pc w.heap.size pn l Nc id (by unfold maxLen;have:=(Fw HB.out).1;omega) i q s.now W (h.Fj.below hw AB) hw.size Rs hb J0 Hc (Vr h.map Ix))
  clear h hg he hb Rs Ix;go_in;go_wp2_with fail
  refine(HD.out _).mono ?_;rintro e' w1 ⟨rfl,C6⟩;have N1:=I (C0.below HH.out C6);have B1:=I C6;have Ld:=C6.size;clear C6;have eB:id.size<=8:=(Fw HB.out).1;have E1:=I ((AI w1).lay #[.string id,.int .i64 i,.int .i64 q] 226);have N2:=I (C0.below N1.out E1.out.DI);have BW:=I (B1.out.trans (E1.out.DI.mono Ld))
  go_upto_region 18 with fail
  generalize IK:World.alloc w1 _=w2 at*;have je:w2.heap.size=w1.heap.size+1:=by rw[<-IK];simp
  clear IK;have Hi:=N2.out.DC.lt;have HS:=I (show∀w',Below w2.heap.size w2 w'->(Below w2.heap.size w2 w'/\w'.cell? ⟨b,8,none⟩=some (.slice A pn pc)/\w'.cell? ⟨b,5,none⟩=some (.int .i64 s.now)/\w'.cell? ⟨w1.heap.size,0,none⟩=some (.string id)/\w'.cell? ⟨w1.heap.size,1,none⟩=some (.int .i64 i)/\w'.cell? ⟨w1.heap.size,2,none⟩=some (.int .i64 q))
   from fun w' h=>⟨h,(N2.out.DC.below h Hi).cell 8,(N2.out.DC.below h Hi).cell 5,(E1.out.below h).hd.cell 0,(E1.out.below h).hd.cell 1,(E1.out.below h).hd.cell 2⟩)
  have HP:=I (fun W (hw:Below w2.heap.size w2 W)=>gz.out W (BW.out.trans (hw.mono (by omega))));go_region_held3 (fun w'=>Below w2.heap.size w2 w'/\w'.cell? ⟨b,8,none⟩=some (.slice A pn pc)/\w'.cell? ⟨b,5,none⟩=some (.int .i64 s.now)/\w'.cell? ⟨w1.heap.size,0,none⟩=some (.string id)/\w'.cell? ⟨w1.heap.size,1,none⟩=some (.int .i64 i)/\w'.cell? ⟨w1.heap.size,2,none⟩=some (.int .i64 q))
   ((refine HS.out _ ?_;repeat (with_reducible first|exact G8|exact AA|refine Below.Gh ?_|refine AE ?_)))
   ((go_at_call 216;(with_reducible refine(HP.out _ ?ia).mono ?_);(case ia=>repeat (with_reducible first|exact AA|refine Below.Gh ?_|refine AE ?_));rintro e' w3 ⟨rfl,DT⟩;have G8:Below w2.heap.size w2 w3:=Below.C9 (by repeat (with_reducible first|exact AA|refine Below.Gh ?_|refine AE ?_)) DT))
  all_goals
   have E3:=I (BW.out.trans (G8.mono (by omega)));have N3:=I (C0.below HH.out E3.out);have aM:=N3.out.DC.lt;have b7:=N3.out.DC.cell 7;have f7:=N3.out.DC.frozen 7;simp[ED]at b7 f7;have NS:=I (C0.set (mk':=ED s.c s.now s.seq (min (s.drops+1) 1073741824)) N3.out 7 (.int .i64 (min (s.drops+1) 1073741824)) rfl);have KS:=I ((Kept.DU (X:=X) E3.out).setCell (a:=⟨b,7,none⟩) (.inl HH.out.xb) (.int .i64 (min (s.drops+1) 1073741824)));clear G8 DT;go_wp2;refine AF (v:=.tuple #[.slice none 0 0,.int .i64 4]) (by simp[results,results180,go_sem]) rfl ?_;exact .no (C0.at_ (C0.grow NS.out)) KS.out
 ·have ES:k<l.length:=by have e:=Ae List.length h.map;rw[Ak]at e;omega
  have hD:s.D[k]'hk=(l[k]'ES).1:=by simp only[<-h.map,Ce]
  have VY:(s.D[k]'hk).2.2.2.2<=s.now:=(hg.pv _ (AL hk)).2;have FO:pid (l[k]'ES)=id:=by rw[<-QK,hD]
  have gz:=I (show∀W,Below w.heap.size w W->Calls prog 216 #[.slice A pn pc,.agg #[.string id,.int .i64 i,.int .i64 q],.int .i64 s.now] W (Ob A l (LH s.D k) pn false W)from fun W hw=>by have hh:=rT A pc w.heap.size pn l Nc id (by unfold maxLen;have:=(Fw HB.out).1;omega) i q s.now W (h.Fj.below hw AB) hw.size Rs hb J0 Hc k ES FO (by show(l[k]'ES).1.2.2.2.2<=s.now;rw[<-hD];exact VY) (by show¬GC (l[k]'ES).1.2.1.1 (l[k]'ES).1.2.1.2.1 i q;rw[<-hD];exact Nw);rw[h.map]at hh;simp only[Iz]at hh;rw[<-hD]at hh;unfold LH;rw[AU hk];exact hh);clear h hg he hb Rs QK Nw hD VY FO;go_in;go_wp2_with fail
  refine(HD.out _).mono ?_;rintro e' w1 ⟨rfl,C6⟩;have N1:=I (C0.below HH.out C6);have B1:=I C6;have Ld:=C6.size;clear C6;have eB:id.size<=8:=(Fw HB.out).1;have E1:=I ((AI w1).lay #[.string id,.int .i64 i,.int .i64 q] 226);have N2:=I (C0.below N1.out E1.out.DI);have BW:=I (B1.out.trans (E1.out.DI.mono Ld))
  go_upto_region 18 with fail
  generalize IK:World.alloc w1 _=w2 at*;have je:w2.heap.size=w1.heap.size+1:=by rw[<-IK];simp
  clear IK;have Hi:=N2.out.DC.lt;have HS:=I (show∀w',Below w2.heap.size w2 w'->(Below w2.heap.size w2 w'/\w'.cell? ⟨b,8,none⟩=some (.slice A pn pc)/\w'.cell? ⟨b,5,none⟩=some (.int .i64 s.now)/\w'.cell? ⟨w1.heap.size,0,none⟩=some (.string id)/\w'.cell? ⟨w1.heap.size,1,none⟩=some (.int .i64 i)/\w'.cell? ⟨w1.heap.size,2,none⟩=some (.int .i64 q))
   from fun w' h=>⟨h,(N2.out.DC.below h Hi).cell 8,(N2.out.DC.below h Hi).cell 5,(E1.out.below h).hd.cell 0,(E1.out.below h).hd.cell 1,(E1.out.below h).hd.cell 2⟩)
  have HP:=I (fun W (hw:Below w2.heap.size w2 W)=>gz.out W (BW.out.trans (hw.mono (by omega))));go_region_held3 (fun w'=>Below w2.heap.size w2 w'/\w'.cell? ⟨b,8,none⟩=some (.slice A pn pc)/\w'.cell? ⟨b,5,none⟩=some (.int .i64 s.now)/\w'.cell? ⟨w1.heap.size,0,none⟩=some (.string id)/\w'.cell? ⟨w1.heap.size,1,none⟩=some (.int .i64 i)/\w'.cell? ⟨w1.heap.size,2,none⟩=some (.int .i64 q))
   ((refine HS.out _ ?_;repeat (with_reducible first|exact G8|exact AA|refine Below.Gh ?_|refine AE ?_)))
   ((go_at_call 216;(with_reducible refine(HP.out _ ?ia).mono ?_);(case ia=>repeat (with_reducible first|exact AA|refine Below.Gh ?_|refine AE ?_));rintro e' w3 ⟨A3,c3,l3,rfl,Vk,UG,DT,Th,IG⟩;have G8:Below w2.heap.size w2 w3:=Below.C9 (by repeat (with_reducible first|exact AA|refine Below.Gh ?_|refine AE ?_)) DT))
  all_goals
   have E3:=I (BW.out.trans (G8.mono (by omega)));have aM:b<w3.heap.size:=by have:=E3.out.size;omega
   have N3:=I (C0.below HH.out E3.out);have ox:=I (M6 IG (by have:=BW.out.size;first|exact this|(simp;omega)));have NT:=I (C0.Pe (mk':=ED s.c s.now s.seq s.drops) (i:=8) HH.out E3.out UG Vk Th ox.out rfl);have KT:=I ((Kept.DU (X:=X) E3.out).setCell (a:=⟨b,8,none⟩) (.inl HH.out.xb) (.slice A3 pn c3));have f8:=N3.out.DC.frozen 8;have b7:=NT.out.DC.cell 7;have f7:=NT.out.DC.frozen 7;simp[ED]at b7 f7 f8;have NS:=I (C0.set (mk':=ED s.c s.now s.seq (min (s.drops+1) 1073741824)) NT.out 7 (.int .i64 (min (s.drops+1) 1073741824)) rfl);have KS:=I (KT.out.setCell (a:=⟨b,7,none⟩) (.inl HH.out.xb) (.int .i64 (min (s.drops+1) 1073741824)))
   clear G8 DT Vk UG Th IG;go_wp2;refine AF (v:=.tuple #[.slice none 0 0,.int .i64 5]) (by simp[results,results180,go_sem]) rfl ?_;exact .no (Fs.wide (C0.at_ NS.out) (Tt (by simp[World.setCell])) (fun k hk=>hk.2)) KS.out
 ·have ES:k<l.length:=by have e:=Ae List.length h.map;rw[Ak]at e;omega
  have hD:s.D[k]'hk=(l[k]'ES).1:=by simp only[<-h.map,Ce]
  have VY:(s.D[k]'hk).2.2.2.2<=s.now:=(hg.pv _ (AL hk)).2;have FO:pid (l[k]'ES)=id:=by rw[<-QK,hD]
  have gz:=I (show∀W,Below w.heap.size w W->Calls prog 216 #[.slice A pn pc,.agg #[.string id,.int .i64 i,.int .i64 q],.int .i64 s.now] W (Ob A l (FW s.D k i q s.now) pn true W)from fun W hw=>by have hh:=oK A pc w.heap.size pn l Nc id (by unfold maxLen;have:=(Fw HB.out).1;omega) i q s.now W (h.Fj.below hw AB) hw.size Rs hb J0 Hc k ES FO (by show(l[k]'ES).1.2.2.2.2<=s.now;rw[<-hD];exact VY) (by show GC (l[k]'ES).1.2.1.1 (l[k]'ES).1.2.1.2.1 i q;rw[<-hD];exact Nw);rw[h.map]at hh;simp only[Do]at hh;rw[<-hD]at hh;unfold FW;rw[AU hk];exact hh);clear h hg he hb Rs QK Nw hD VY FO;have HG2:=I Ka;clear Ka;go_in
  go_wp2_with fail
  refine(HD.out _).mono ?_;rintro e' w1 ⟨rfl,C6⟩;have N1:=I (C0.below HH.out C6);have B1:=I C6;have Ld:=C6.size;clear C6;have eB:id.size<=8:=(Fw HB.out).1;have E1:=I ((AI w1).lay #[.string id,.int .i64 i,.int .i64 q] 226);have N2:=I (C0.below N1.out E1.out.DI);have BW:=I (B1.out.trans (E1.out.DI.mono Ld))
  go_upto_region 18 with fail
  generalize IK:World.alloc w1 _=w2 at*;have je:w2.heap.size=w1.heap.size+1:=by rw[<-IK];simp
  clear IK;have Hi:=N2.out.DC.lt;have HS:=I (show∀w',Below w2.heap.size w2 w'->(Below w2.heap.size w2 w'/\w'.cell? ⟨b,8,none⟩=some (.slice A pn pc)/\w'.cell? ⟨b,5,none⟩=some (.int .i64 s.now)/\w'.cell? ⟨w1.heap.size,0,none⟩=some (.string id)/\w'.cell? ⟨w1.heap.size,1,none⟩=some (.int .i64 i)/\w'.cell? ⟨w1.heap.size,2,none⟩=some (.int .i64 q))
   from fun w' h=>⟨h,(N2.out.DC.below h Hi).cell 8,(N2.out.DC.below h Hi).cell 5,(E1.out.below h).hd.cell 0,(E1.out.below h).hd.cell 1,(E1.out.below h).hd.cell 2⟩)
  have HP:=I (fun W (hw:Below w2.heap.size w2 W)=>gz.out W (BW.out.trans (hw.mono (by omega))));go_region_held3 (fun w'=>Below w2.heap.size w2 w'/\w'.cell? ⟨b,8,none⟩=some (.slice A pn pc)/\w'.cell? ⟨b,5,none⟩=some (.int .i64 s.now)/\w'.cell? ⟨w1.heap.size,0,none⟩=some (.string id)/\w'.cell? ⟨w1.heap.size,1,none⟩=some (.int .i64 i)/\w'.cell? ⟨w1.heap.size,2,none⟩=some (.int .i64 q))
   ((refine HS.out _ ?_;repeat (with_reducible first|exact G8|exact AA|refine Below.Gh ?_|refine AE ?_)))
   ((go_at_call 216;(with_reducible refine(HP.out _ ?ia).mono ?_);(case ia=>repeat (with_reducible first|exact AA|refine Below.Gh ?_|refine AE ?_));rintro e' w3 ⟨A3,c3,l3,rfl,Vk,UG,DT,Th,IG⟩;have G8:Below w2.heap.size w2 w3:=Below.C9 (by repeat (with_reducible first|exact AA|refine Below.Gh ?_|refine AE ?_)) DT))
  all_goals
   have E3:=I (BW.out.trans (G8.mono (by omega)));have aM:b<w3.heap.size:=by have:=E3.out.size;omega
   have N3:=I (C0.below HH.out E3.out);have ox:=I (M6 IG (by have:=BW.out.size;first|exact this|(simp;omega)));have NT:=I (show Ft (grow X w w3) (w3.setCell ⟨b,8,none⟩ (.slice A3 pn c3)) b A3 pn c3 sv l3 {s with D:=FW s.D k i q s.now}from C0.Pe (mk':=ED s.c s.now s.seq s.drops) (i:=8) HH.out E3.out UG Vk Th ox.out rfl);have KT:=I ((Kept.DU (X:=X) E3.out).setCell (a:=⟨b,8,none⟩) (.inl HH.out.xb) (.slice A3 pn c3));have f8:=N3.out.DC.frozen 8;have ER:(w3.setCell ⟨b,8,none⟩ (.slice A3 pn c3)).heap.size=w3.heap.size:=by simp[World.setCell]
   have Tj:=E3.out.size;clear G8 DT Vk UG Th IG;go_wp2_with fail
   refine(Va NT.out HG2.out).mono ?_;rintro e' w6 ⟨A6,c6,rfl,Iv,Qg,UQ⟩;have Df:=I (show MK X b (Dh.tell {s with D:=FW s.D k i q s.now}) (Dh.notes {s with D:=FW s.D k i q s.now}) 0 w (.returned (.tuple #[.slice A6 (Dh.notes {s with D:=FW s.D k i q s.now}).length c6,.int .i64 0])) w6 from
    ⟨A6,c6,rfl,DX Iv (by rw[ER];exact Tj),Fs.wide (C0.at_ Qg) (Tt (by have:=UQ.size;rw[ER]at this;exact this)) (fun k hk=>hk.2),KT.out.then UQ (fun k hk=>hk.1)⟩)
   clear Iv Qg UQ;go_wp2;exact AF (v:=.tuple #[.slice A6 (Dh.notes {s with D:=FW s.D k i q s.now}).length c6,.int .i64 0]) (by simp[results,results180,go_sem]) rfl Df.out
theorem rP(h:Ft X w b A pn pc sv l s)(hg:Di s)(x:ByteArray):
 Calls prog 180 #[.pointer (some ⟨b,0,none⟩),.string x] w (MK X b (s.heard x) (s.J8 x) (s.Iy x) w):=by
 have hgm:=hg.mid x;obtain⟨id,i,q,er,he⟩:∃id i q er,Fm x=(id,i,q,er):=⟨_,_,_,_,rfl⟩;unfold Dh.heard Dh.J8 Dh.Iy;unfold Dh.mid at hgm⊢;have X8:s.kind x=if er≠0 then .no er else match idxOf s.D id with|none=>.no 4|some k=>if MC s.D k i q=true then .new k i q else .Nz k:=by unfold Dh.kind;rw[he];try rfl
 by_cases hz:er≠0
 ·rw[AD hz]at X8
  rw[X8];show Calls _ _ _ _ (MK X b (if er=0 then s.drop.tell else s.drop) (if er=0 then s.drop.notes else []) er w);rw[AC hz,AC hz];exact AA0 h hg x he hz
 have hz:=Cn.1 hz;subst hz;rw[AC (by simp)]at X8;have hb:Em id i q=0:=by have:=SP (s:=x) (by rw[he]);rw[he]at this;exact this
 cases hi:idxOf s.D id with
 |none=>
  rw[hi]at X8;rw[X8];show Calls _ _ _ _ (MK X b (if (4:Int)=0 then s.drop.tell else s.drop) (if (4:Int)=0 then s.drop.notes else []) 4 w);rw[AC (by decide),AC (by decide)];exact(UW h hg x he hb).1 hi
 |some k=>
  rw[hi]at X8;obtain⟨hk,h1,h2⟩:=Hk hi;have fr:MC s.D k i q=decide (GC (s.D[k]'hk).2.1.1 (s.D[k]'hk).2.1.2.1 i q):=by unfold MC;rw[AU hk]
  by_cases hn:GC (s.D[k]'hk).2.1.1 (s.D[k]'hk).2.1.2.1 i q
  ·have Uv:s.kind x=.new k i q:=by rw[X8];show(if MC s.D k i q=true then HK.new k i q else HK.Nz k)=_;rw[fr,AD (by simpa using hn)]
   rw[Uv]at hgm⊢;exact(UW h hg x he hb).2.2 k hk h1 hn hgm
  ·have Uv:s.kind x=.Nz k:=by rw[X8];show(if MC s.D k i q=true then HK.new k i q else HK.Nz k)=_;rw[fr,AC (by simpa using hn)]
   rw[Uv];exact(UW h hg x he hb).2.1 k hk h1 hn
end
theorem Vy:(Tryz.prog.info? 9).map (fun i=>(i.zero,i.size,i.bytes))=some (some (.string ByteArray.empty),1,16):=by kernel_rfl
theorem az:∀u∈(Value.cells (.string ByteArray.empty)).toList,u.oneCell'=true:=by decide
def bg(n:Nat)(xs:List Value)(w:World)(e:Ending)(w':World):Prop:=∃A c,e=.returned (.slice A n c)/\w'.ownsRow w.heap.size 9 1 (.slice A n c) n xs/\Below w.heap.size w w'
theorem sN(n:Nat)(hm:n<=100000)(w:World):Calls prog 192 #[.slice none 0 0,.int .i64 n] w (bg 0 [] w):=by
 obtain⟨i0,hi,Fq,FZ,Fe⟩:=AO Vy;rcases Ac n with h|h
 ·subst h
  go_in;go_wp2;go_ret;exact⟨none,0,rfl,AX _ _ _ _,AA⟩
 ·have J0:0<(n:Int):=by omega
  have uU:∀ty,(Builtin.append_ #[31,3] ty #[.slice none 0 0,.int .i64 (n:Int)]).run prog w=_:=fun ty=>
   run_append_nil_zeros w 31 3 ty 9 i0 _ .i64 .i64 underlying31 underlying3 hi Fq n h (by rw[FZ];decide) (by omega) (by rw[Fe];omega)
  have LU:=grownCap_ge w n 0 9;have hle:=AUN w n 0 9 (by unfold maxLen;omega);generalize grownCap w n 0 9=G at*;have hO:(w.drew.alloc (.cells (Builtin.zeroCells (Value.cells (.string ByteArray.empty)) n++Builtin.zeroCells (Value.cells (.string ByteArray.empty)) (G-n)) 9)).ownsRow w.heap.size 9 1 (.slice (some ⟨w.heap.size,0,none⟩) 0 G) 0 []:=
   World.ownsRow_made w.drew _ G AB hle (by simp only[Array.size_append,ATw];rw[show(Value.cells (.string ByteArray.empty)).size=1 from rfl];omega)
  have HO:=I hO;clear hO;unfold maxLen at hle;go_in;go_wp2_with (at_builtin;refine AUO _ rfl _ _ _ _ rfl _ _ rfl rfl _ _ (uU _) ?_)
  all_goals (go_ret;exact⟨_,_,rfl,HO.out,AA.drew.alloc AB _⟩)
abbrev nM:=Option Addr×Nat×Nat×List Value
def AAy(s:nM):Value:=.slice s.1 s.2.1 s.2.2.1
def Ma(ss:List nM):Nat:=(ss.map (·.2.1)).sum
theorem Vh(ss:List nM)(k:Nat)(h:k<ss.length):Ma (ss.take (k+1))=Ma (ss.take k)+(ss[k]'h).2.1:=by
 unfold Ma;rw[Af h,BP,List.sum_append];simp
theorem Zj:∀(ss:List nM)(m:Nat),(∀s∈ss,s.2.1<=m)->Ma ss<=ss.length*m
 | [],m,_=>by simp[Ma]
 |s::ss,m,h=>by
  have:=Zj ss m (fun x hx=>h x (Am _ hx));have h1:=h s (by simp);unfold Ma at*;simp only[CN,List.sum_cons,AP,Cp];omega
theorem fa(ss:List nM)(B bs:Nat)(hl:ss.length<=4)(w:World)(YJ:∀s∈ss,Reads w B 1 s.1 s.2.1 s.2.2.2/\(∀u∈s.2.2.2,u.oneCell'=true)/\s.2.1<=1000)(hB:B<=w.heap.size)
 (hb:DJ w bs 31 (ss.map AAy).toArray) (kk:Nat) (XA:kk=ss.length) (nn:Nat) (hnn:Ma ss=nn) (xs:List Value) (gP:ss.flatMap (·.2.2.2)=xs):
 Calls prog 146 #[.slice (some ⟨bs,0,none⟩) kk kk] w (bg nn xs w):=by
 obtain⟨i0,hi,Fq,FZ,Fe⟩:=AO Vy;have HSS:=I YJ;have HB:=I hb;have FK:=I hB;have HK:=I XA;have HX:=I gP;have Gg:∀k,Ma (ss.take k)<=4000:=fun k=>by
  have h1:=Zj (ss.take k) 1000 (fun s hs=>(YJ s (Be hs)).2.2);have h2:(ss.take k).length<=4:=AG (List.length_take_le' ..) hl;omega
 have YM:=I Gg;have hnb:nn<=4000:=by have:=Gg ss.length;rw[AY AB,hnn]at this;exact this
 have HN:=I hnn;have p0:=hb.lt;have ES:kk<=4:=by omega
 clear YJ hb hB XA gP Gg hnn;go_in;go_wp2_with fail
 go_loop [3,11] (fun s i=>∃k:Nat,k<=kk/\i=.int .i64 (k:Int)/\s=.int .i64 ((Ma (ss.take k):Nat):Int)) (fun _ i=>kk- (RowKit.intOf i).toNat)
 case atStart=>exact⟨0,by omega,rfl,rfl⟩
 case round=>
  obtain⟨k,hk,rfl,rfl⟩:=hrel;by_cases DG:k<kk
  ·have Nq:k<ss.length:=by rw[<-HK.out];exact DG
   have c0:=HB.out.cell k;simp[Nq,AAy]at c0;have hs:=Vh ss k Nq;have h1:=YM.out k;have h2:=YM.out (k+1);have HS:=I hs;have h3:(ss[k]'Nq).2.1<=1000:=(HSS.out _ (AL Nq)).2.2;generalize Ma (ss.take k)=S at*;generalize ss[k]'Nq=s at*;clear hs h2;go_wp2;all_goals first
    |(exfalso;omega)
    |exact⟨⟨k+1,by omega,by simp,by rw[HS.out];simp⟩,by simp[RowKit.intOf];omega⟩
  ·obtain rfl:k=kk:=by omega
   have ub:Ma (ss.take k)=nn:=by rw[AY (by rw[HK.out];exact AB)];exact HN.out
   rw[ub];clear ub;go_wp2_with fail
   refine(sN nn (by omega) w).mono ?_;rintro e' w2 ⟨A,c,rfl,ho,DK⟩;have B2:=I DK;have HO:=I ho;clear DK ho;go_wp2_with fail
   go_loopw [6,27] (fun v i wr=>∃(j:Nat)(A:Option Addr)(c m:Nat),j<=k/\i=.int .i64 (j:Int)/\v=.slice A m c/\m=Ma (ss.take j)/\wr.ownsRow w.heap.size 9 1 (.slice A m c) m ((ss.take j).flatMap (·.2.2.2))/\Below w.heap.size w wr) (fun _ i _=>k- (RowKit.intOf i).toNat)
   case atStart=>exact⟨0,A,c,0,by omega,rfl,rfl,rfl,HO.out,B2.out⟩
   case round=>
    obtain⟨j,A',c',m,hj,rfl,rfl,hm,DL,qf⟩:=hrel;have HW:=I qf;have HOW:=I DL;have HM:=I hm;have zt:m<=4000:=by rw[hm];exact YM.out j
    have HBR:=I (HB.out.below qf p0);have p0':=HBR.out.lt;clear qf DL hm B2 HO;by_cases hjt:j<k
    ·have Nq:j<ss.length:=by rw[<-HK.out];exact hjt
     have c0:=HBR.out.cell j;simp[Nq,AAy]at c0;have tX:=HSS.out _ (AL Nq);have R1:=I (tX.1.below HW.out FK.out);have O1:=I tX.2.1;have h3:=tX.2.2;have HS:=I (Vh ss j Nq);have HT:=I (Af Nq);clear tX;generalize ss[j]'Nq=s at*;go_wp2_with (at_builtin;refine EU _ rfl _ _ 31 rfl w.heap.size 9 i0 (.string ByteArray.empty) 1 16 underlying31 hi Fq FZ Fe rfl (by decide) _ _ _ rfl HOW.out _ _ _ _ _ rfl R1.out O1.out ?c1 ?c2 ?c3 ?_)
     case c1=>unfold maxLen;omega
     case c2=>omega
     case c3=>exact HW.out.size
     intro v' w3 L7 DT;obtain⟨A3,c3,rfl⟩:=Cz L7;have O3:=I (show w3.ownsRow w.heap.size 9 1 (.slice A3 (m+s.2.1) c3) (m+s.2.1) ((ss.take (j+1)).flatMap (·.2.2.2))by rw[HT.out,ATx];simpa using L7);have B3:=I (HW.out.trans DT);clear L7 DT;go_wp2;exact⟨⟨j+1,A3,c3,m+s.2.1,by omega,by simp,rfl,by rw[HS.out,HM.out],O3.out,B3.out⟩,by simp[RowKit.intOf];omega⟩
    ·obtain rfl:j=k:=by omega
     have ub:m=nn:=by rw[HM.out,AY (by rw[HK.out];exact AB)];exact HN.out
     subst ub;have OX:=I (show wr.ownsRow w.heap.size 9 1 (.slice A' m c') m xs by have:=HOW.out;rw[AY (by rw[HK.out];exact AB),HX.out]at this;exact this);clear HOW;go_wp2;go_ret;exact⟨_,_,rfl,OX.out,HW.out⟩
def AHZ(base g cap n:Nat)(xs:List Value)(w:World)(e:Ending)(w':World):Prop:=e=.returned (.slice (some ⟨g,0,none⟩) n cap)/\w'.ownsRow base 9 1 (.slice (some ⟨g,0,none⟩) n cap) n xs/\w.grownBy w' (some g)
theorem eJ(base g cap n i:Nat)(xs:List Value)(fr:i<n)(QR:∀u∈xs,u.oneCell'=true)(w:World)(DL:w.ownsRow base 9 1 (.slice (some ⟨g,0,none⟩) n cap) n xs):
 Calls prog 181 #[.slice (some ⟨g,0,none⟩) n cap,.int .i64 i,.int .i64 ((i:Int)+1)] w (AHZ base g cap (n- 1) (xs.take (i*1)++xs.drop ((i+1)*1)) w):=by
 obtain⟨i0,hi,Fq,FZ,Fe⟩:=AO Vy;obtain⟨d,rfl⟩:∃d,n=i+1+d:=⟨n- (i+1),by omega⟩;have dy:=Ec DL;have eR:=DL.1;have EC:=DL.cells (g:=g) rfl;have HO:=I (Yr DL (show i<=i+1+d by omega));have ONE:=I (show∀u∈xs.drop ((i+1)*1),u.oneCell'=true from fun u hu=>QR u (Cx hu));have j8:=dy.2;have Qj:=dy.1;unfold maxLen at j8;have kS:=I (show∀j u,(xs.drop ((i+1)*1))[j]? =some u->w.cell? ((⟨g,i+1,none⟩:Addr).add j)=some u by
  intro j u hj;rw[ATD]at hj;have:=EC _ u hj;have I1:((⟨g,i+1,none⟩:Addr)).add j=(⟨g,0,none⟩:Addr).add ((i+1)*1+j):=by unfold Addr.add;(repeat' split)<;>simp_all
  rw[I1];exact this)
 have HN0:=I (show d=0->xs.drop ((i+1)*1)=[]from fun h=>by subst h;exact Cu (by rw[eR];omega));have bo:=I (show(xs.drop ((i+1)*1)).length=d*1 by rw[CX,eR];omega);clear EC QR DL dy eR;rw[show i+1+d- 1=i+d by omega];generalize xs.take (i*1)=xa at*;generalize xs.drop ((i+1)*1)=xb at*;have e1:((i:Int)+1).toNat=i+1:=by omega
 have GI:¬((i:Int)=(i:Int)+1):=by omega
 have C6:(i:Int)+1<=(i:Int)+1+d:=by omega
 have DK:(0:Int)<=(i:Int)+1:=by omega
 have DT:(i:Int)<=cap:=by omega
 have hci:¬(cap=i):=by omega
 have hcd:¬(cap=i+d):=by omega
 have EL:(i:Int)<=(i:Int)+1:=by omega
 have close:∀(W w1 w2:World),W.os=w.os->W.tape=w.tape->W.output=w.output->W.heap=w.heap->W.grownBy w1 (some g)->w1.grownBy w2 (some g)->w.grownBy w2 (some g):=fun W w1 w2 h1 h2 h3 h4 h5 h6=>
  Px ⟨h5.os.trans h1,h5.tape.trans h2,h5.output.trans h3,by rw[<-h4];exact h5.size,fun k hk hn=>(h5.block k (by rw[h4];exact hk) hn).trans (by rw[h4])⟩ h6
 have CL:=I close;clear close;by_cases hc:cap=i+1
 ·obtain rfl:d=0:=by omega
  subst hc;have HX0:=I (HN0.out rfl);go_in;go_wp2_with fail
  go_region_law ((refine Lq (by rfl) _ _ _ (by rfl) base 9 i0 1 underlying31 hi FZ g i (i+1) xa (by rfl) HO.out _ 0 _ xb (by rfl) bo.out (by intro j u hj;rw[HX0.out]at hj;cases hj) ONE.out (by omega) ?_;intro w1 I9 UY))
  all_goals
   have Pb:=I I9;have HG1:=I UY;clear I9 UY;go_wp2_with ((refine Mh (by rfl) _ _ (by rfl) 9 i0 _ 1 underlying31 hi Fq rfl az base g (i+0) (i+1) (xa++xb) Pb.out _ _ _ (by rfl) ?c0 ?c1 ?_);(case c0=>first|exact AB|omega);(case c1=>omega);intro w2 Ng fO)
   go_ret;exact⟨rfl,Ng,CL.out w.drew w1 w2 rfl rfl rfl rfl HG1.out fO⟩
 ·have AOF:¬(cap=i+1+d/\d=0):=by omega
  go_in;go_wp2_with fail
  go_region_law ((refine Lq (by rfl) _ _ _ (by rfl) base 9 i0 1 underlying31 hi FZ g i cap xa (by rfl) HO.out _ d _ xb (by rfl) bo.out kS.out ONE.out (by omega) ?_;intro w1 I9 UY))
  all_goals
   have Pb:=I I9;have HG1:=I UY;clear I9 UY;go_wp2_with ((refine Mh (by rfl) _ _ (by rfl) 9 i0 _ 1 underlying31 hi Fq rfl az base g (i+d) cap (xa++xb) Pb.out _ _ _ (by rfl) ?c0 ?c1 ?_);(case c0=>first|exact AB|omega);(case c1=>omega);intro w2 Ng fO)
   go_ret;exact⟨rfl,Ng,CL.out w.drew w1 w2 rfl rfl rfl rfl HG1.out fO⟩
