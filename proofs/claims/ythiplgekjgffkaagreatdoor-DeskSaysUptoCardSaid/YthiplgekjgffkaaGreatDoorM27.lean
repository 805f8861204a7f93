/- peers -/
import Derived.Test.YthiplgekjgffkaaGreatDoorM22
import Derived.Lib.OwnKind
set_option maxRecDepth 100000
set_option maxHeartbeats 99000000
set_option linter.all false
namespace Go.Proofs.YthiplgekjgffkaaGreatDoor
open Go.Proofs.Tryz
open Go.RowKit Go.Lib
theorem Wu:(Tryz.prog.info? 187).map (fun i=>(i.zero,i.size,i.bytes))=some (some (.agg #[.string ByteArray.empty,.int .i64 0,.int .i64 0,.int .i64 0,.int .i64 0,.slice none 0 0,.int .i64 0]),7,80):=by kernel_rfl
theorem bZ{w:World}{H H' n n' s s':Nat}{e e':TypeId}{v v':Value}{xs ys:List Value}(h:w.ownsRow H e s v n xs)(h':w.ownsRow H' e' s' v' n' ys)(GI:e≠e')(b:Nat)(hb:v.ownBlock=some b):v'.ownBlock≠some b:=by
 intro tT;obtain⟨c,fz,h1⟩:=ownsRow_kind h b hb;obtain⟨c',fz',h2⟩:=ownsRow_kind h' b tT;rw[h1]at h2;injection h2 with h2
 injection h2 with _ h3
 exact GI h3
theorem Ul{w:World}{H n s g:Nat}{e t:TypeId}{v:Value}{xs:List Value}{cs:Array Value}(h:w.ownsRow H e s v n xs)(hb:DJ w g t cs)(GI:e≠t):v.ownBlock≠some g:=by
 intro hv;obtain⟨c,fz,h1⟩:=ownsRow_kind h g hv;have h2:w.heap[g]? =some (.cells cs t (0,0)):=hb;rw[h1]at h2;injection h2 with h2
 injection h2 with _ h3
 exact GI h3
def Dz(H:Nat)(w:World)(l:List C8):Prop:=∀p∈l,w.ownsRow H 3 1 (Tb p) (DZ p).length (DF (DZ p))
section
variable{H n:Nat}{w w':World}{l:List C8}
theorem Dz.nil:Dz H w []:=fun p hp=>by cases hp
theorem Dz.alloc(h:Dz H w l)(o:Obj):Dz H (w.alloc o) l:=fun p hp=>(h p hp).alloc o
theorem Dz.below(h:Dz H w l)(hb:Below w.heap.size w w'):Dz H w' l:=fun p hp=>Ef (h p hp) hb
theorem Dz.snoc{p:C8}(h:Dz H w l)(hp:w.ownsRow H 3 1 (Tb p) (DZ p).length (DF (DZ p))):Dz H w (l++[p]):=fun q hq=>by
 rcases Au.1 hq with hq|hq
 ·exact h q hq
 ·obtain rfl:=Ai.1 hq
  exact hp
theorem Dz.De(h:Dz H w l){g:Nat}{t:TypeId}{cs:Array Value}(hb:DJ w g t cs)(GI:3≠t)(i:Nat)(v:Value):Dz H (w.setCell ⟨g,i,none⟩ v) l:=fun p hp=>
 ownsRow_setCell_other (h p hp) (a:=⟨g,i,none⟩) (Ul (h p hp) hb GI) v
theorem Dz.kept{u:Value}{H' m:Nat}{xs:List Value}{s:Nat}{t:TypeId}(h:Dz H w l)(hu:w.ownsRow H' t s u m xs)(ht:t≠3)(hg:w.grownBy w' u.ownBlock):Dz H w' l:=fun p hp=>by
 refine(h p hp).kept hg ?_;cases hq:(Tb p).ownBlock with
 |none=>exact .inl rfl
 |some b=>exact .inr fun e=>bZ hu (h p hp) ht b e.symm hq
end
theorem eN(w:World)(e:TypeId)(p:C8):Reads (w.alloc (.cells (Dp p).toArray e)) (w.heap.size+1) 7 (some ⟨w.heap.size,0,none⟩) 1 (Dn [p]):=
 ⟨rfl,fun _=>⟨_,rfl,by simp,fun j u hj=>by
   have hc:=(DJ.new w e (Dp p).toArray).cell j;have I1:(⟨w.heap.size,0,none⟩:Addr).add j=⟨w.heap.size,j,none⟩:=by unfold Addr.add;split<;>simp_all
   rw[I1,hc,<-hj];simp[Dn]⟩⟩
def AAg(l:List C8)(n:Nat)(w:World)(e:Ending)(w':World):Prop:=
 ∃A c l',e=.returned (.slice A n c)/\l'.map Prod.fst=l.map Prod.fst/\w'.ownsRow w.heap.size 187 7 (.slice A n c) n (Dn l')/\Dz w.heap.size w' l'/\Below w.heap.size w w'
theorem XB(A:Option Addr)(c B n:Nat)(l:List C8)(hm:n<=1000)(MH:∀p∈l,(DZ p).length<=64)(w:World)(hp:Dq w B A n l)(hB:B<=w.heap.size):
 Calls prog 247 #[.slice A n c] w (AAg l n w):=by
 obtain⟨i0,hi,Fq,FZ,Fe⟩:=AO Wu;have HP:=I hp;have FK:=I hB;have HN:=I hp.len;have zz:=I MH;clear hp hB MH;go_in;go_wp2_with fail
 go_loopw [3,8] (fun v iv wr=>∃(k:Nat)(l':List C8),k<=n/\iv=.int .i64 (k:Int)/\l'.map Prod.fst=(l.take k).map Prod.fst/\wr.ownsRow w.heap.size 187 7 v k (Dn l')/\Dz w.heap.size wr l'/\Below w.heap.size w wr) (fun _ iv _=>n- (RowKit.intOf iv).toNat)
 case atStart=>exact⟨0,[],by omega,rfl,rfl,⟨rfl,.inl ⟨rfl,rfl⟩⟩,Dz.nil,AA⟩
 case round=>
  obtain⟨k,l',hk,rfl,AEP,DL,uN,FI⟩:=hrel;obtain⟨wo,rfl⟩:∃wo,wo=wr:=⟨_,rfl⟩;obtain⟨A1,c1,rfl⟩:=Cz DL;have MP:=I AEP;have OW:=I DL;have VO:=I uN;have BL:=I FI;clear AEP DL uN FI;by_cases DG:k<n
  ·have ES:k<l.length:=by rw[HN.out];exact DG
   have HPW:=I (HP.out.below BL.out FK.out);obtain⟨b,off,rfl,hb,EO⟩:=HPW.out.addr (by omega);obtain⟨c0,c1',c2,c3,c4,c5,c6⟩:=EO k ES;have N7:=HPW.out.ok _ (AL ES);have AN2:=zz.out _ (AL ES);have oG:(l.take (k+1)).map Prod.fst=(l.take k).map Prod.fst++[(l[k]'ES).1]:=by rw[Af ES,BP];rfl
   have uL:B<=wo.heap.size:=AG FK.out BL.out.size;generalize l[k]'ES=p at*;have TK:=I oG;have E:=I ((AI wo).lay (Dp p).toArray 187);have P7:=I (fun w hr hB=>MX p.2.1 p.2.2 B (DZ p).length (DZ p) rfl (by omega) w hr hB);have OK:=I N7;simp only[Dp]at E;clear EO oG N7;go_wp2_with fail
   refine(P7.out _ (OK.out.1.below E.out.DI uL) (AG uL E.out.DI.size)).mono ?_;rintro e' w1 ⟨A4,dD,rfl,JP,EL⟩;have E1:=I (E.out.below EL);have OW1:=I (Ef (OW.out.alloc _) EL);have VO1:=I ((VO.out.alloc _).below EL);have OV:=I (DX JP (by have:=BL.out.size;simp;omega:w.heap.size<=_));have UC:=I (BL.out.trans (E1.out.DI.mono BL.out.size));clear JP EL;have x0:=E1.out.hd.cell 0;have x1:=E1.out.hd.cell 1;have x2:=E1.out.hd.cell 2;have x3:=E1.out.hd.cell 3;have x4:=E1.out.hd.cell 4;have x5:=E1.out.hd.cell 5;have x6:=E1.out.hd.cell 6;have f5:=E1.out.hd.frozen 5;simp at x0 x1 x2 x3 x4 x5 x6
   go_upto_region 6 with fail
   have K2:=I (show DJ (w1.setCell ⟨wo.heap.size,5,none⟩ (.slice A4 (DZ p).length dD)) wo.heap.size 187 (Dp (p.1,A4,dD)).toArray by simpa [Dp] using E1.out.hd.De 5 (.slice A4 (DZ p).length dD));have tQ:=I (ownsRow_setCell_other OW1.out (a:=⟨wo.heap.size,5,none⟩) (fun e=>by have:=(OW.out.lt _ e).2;simp at this) (.slice A4 (DZ p).length dD));have VO2:=I (VO1.out.De E1.out.hd (by decide) 5 (.slice A4 (DZ p).length dD));have OV2:=I (ownsRow_setCell_other OV.out (a:=⟨wo.heap.size,5,none⟩) (Ul OV.out E1.out.hd (by decide)) (.slice A4 (DZ p).length dD));have tS:=I (UC.out.setCell (p:=⟨wo.heap.size,5,none⟩) (by have:=BL.out.size;exact this) (.slice A4 (DZ p).length dD))
   clear x0 x1 x2 x3 x4 x5 x6 f5 E E1 OW1 VO1 OV UC;generalize IK:w1.setCell _ _=w2 at*;clear IK;have x0:=K2.out.cell 0;have x1:=K2.out.cell 1;have x2:=K2.out.cell 2;have x3:=K2.out.cell 3;have x4:=K2.out.cell 4;have x5:=K2.out.cell 5;have x6:=K2.out.cell 6;simp[Dp]at x0 x1 x2 x3 x4 x5 x6;go_wp2_with (at_builtin;refine Dd _ rfl _ _ 167 rfl w.heap.size 187 i0 _ 7 80 underlying167 hi Fq FZ Fe rfl (by decide) _ _ _ rfl (tQ.out.alloc _) _ _ 1 _ _ rfl (eN w2 _ (p.1,A4,dD)) (IP [(p.1,A4,dD)]) ?c1 ?c2 ?c3 ?_)
   case c1=>unfold maxLen;omega
   case c2=>omega
   case c3=>have:=tS.out.size;simp;omega
   intro v3 w3 JN Nk tF;obtain⟨A3,c3',rfl⟩:=Cz JN;have VO3:=I (((VO2.out.snoc (p:=(p.1,A4,dD)) OV2.out).alloc _).kept (tQ.out.alloc _) (by decide) Nk);have BL3:=I ((tS.out.alloc tS.out.size _).grown Nk (by have:=tS.out.size;simp;omega) (fun k hk=>(tQ.out.lt k hk).1));have O3:=I (show w3.ownsRow w.heap.size 187 7 (.slice A3 (k+1) c3') (k+1) (Dn (l'++[(p.1,A4,dD)]))by rw[QA];exact JN);have M3:=I (show(l'++[(p.1,A4,dD)]).map Prod.fst=(l.take (k+1)).map Prod.fst by rw[TK.out,BP,MP.out];rfl);clear JN Nk tF x0 x1 x2 x3 x4 x5 x6 tQ VO2 OV2 tS K2;go_wp2;exact⟨⟨k+1,l'++[(p.1,A4,dD)],by omega,by simp,M3.out,O3.out,VO3.out,BL3.out⟩,by simp[RowKit.intOf];omega⟩
  ·obtain rfl:k=n:=by omega
   have mZ:l'.map Prod.fst=l.map Prod.fst:=by rw[MP.out,AY (by rw[HN.out];exact AB)]
   have MM:=I mZ;clear mZ;go_wp2;go_ret;exact⟨A1,c1,l',rfl,MM.out,OW.out,VO.out,BL.out⟩
theorem Vv:∀(l:List C8)(k j:Nat)(v:Value)(p':C8)(h:k<l.length),j<7->(Dp (l[k]'h)).set j v=Dp p'->(Dn l).set (k*7+j) v=Dn (l.set k p')
 | [],k,j,v,p',h,_,_=>by simp at h
 |p::l,0,j,v,p',_,hj,hp=>by
  simp only[Dn,ATU];rw[ASu,CH,List.set_append_left _ _ (by rw[Fx];exact hj)];rw[<-hp];rfl
 |p::l,k+1,j,v,p',h,hj,hp=>by
  simp only[Dn,AUQ];rw[ATT _ _ (by rw[Fx];omega),Fx,show(k+1)*7+j- 7=k*7+j by omega,Vv l k j v p' (by simpa using h) hj (by simpa using hp)]
def Hj(w:World)(g cap n:Nat)(l:List C8):Prop:=l.length=n/\n<=cap/\cap<=maxLen/\∃cur,DJ w g 187 cur/\cur.size=cap*7/\cur.toList.take (n*7)=Dn l
section
variable{w w':World}{g cap n H:Nat}{l:List C8}
theorem Hj.DR{A:Option Addr}{c:Nat}(h:w.ownsRow H 187 7 (.slice A n c) n (Dn l))(hn:0<n)(hl:l.length=n):∃g,A=some ⟨g,0,none⟩/\H<=g/\g<w.heap.size/\Hj w g c n l:=by
 rcases h.2 with⟨_,h0⟩|⟨g,cap,cur,hv,WJ,hg,Qj,hmc,ER,hx⟩
 ·omega
 ·injection hv with h1 h2 h3
  subst h1 h3;exact⟨g,rfl,WJ,(ASx.1 hg).1,hl,Qj,hmc,cur,hg,ER,hx⟩
theorem Hj.DC(h:Hj w g cap n l):∃cur,DJ w g 187 cur:=by
 obtain⟨h0,h1,h2,cur,h3,h4,h5⟩:=h;exact⟨cur,h3⟩
theorem Hj.lt(h:Hj w g cap n l):g<w.heap.size:=by
 obtain⟨cur,hc⟩:=h.DC;exact hc.lt
theorem Hj.frozen(h:Hj w g cap n l)(j:Nat):w.frozen? ⟨g,j,none⟩=false:=by
 obtain⟨cur,hc⟩:=h.DC;exact hc.frozen j
theorem Hj.cells(h:Hj w g cap n l)(k:Nat)(hk:k<l.length):yT w g (k*7) (l[k]'hk):=by
 obtain⟨h0,h1,h2,cur,h3,h4,h5⟩:=h;have at':∀j v,j<7->(Dp (l[k]'hk))[j]? =some v->w.cell? ⟨g,k*7+j,none⟩=some v:=fun j v hj hv=>by
  rw[h3.cell,<-hv,<-Sq l k j hk hj,<-h5,ASo,AD (by omega)];simp
 exact⟨at' 0 _ (by decide) rfl,at' 1 _ (by decide) rfl,at' 2 _ (by decide) rfl,at' 3 _ (by decide) rfl,at' 4 _ (by decide) rfl,at' 5 _ (by decide) rfl,at' 6 _ (by decide) rfl⟩
theorem Hj.De(h:Hj w g cap n l)(k j:Nat)(v:Value)(p':C8)(hk:k<l.length)(hj:j<7)(hp:(Dp (l[k]'hk)).set j v=Dp p'):Hj (w.setCell ⟨g,k*7+j,none⟩ v) g cap n (l.set k p'):=by
 obtain⟨h0,h1,h2,cur,h3,h4,h5⟩:=h;exact⟨by simpa using h0,h1,h2,_,h3.De (k*7+j) v,by simpa using h4,by rw[<-Vv l k j v p' hk hj hp,<-h5,AUR,List.take_set]⟩
theorem Hj.below(h:Hj w g cap n l){B:Nat}(hb:Below B w w')(hg:g<B):Hj w' g cap n l:=by
 obtain⟨h0,h1,h2,cur,h3,h4,h5⟩:=h;exact⟨h0,h1,h2,cur,h3.below hb hg,h4,h5⟩
theorem Hj.reads(h:Hj w g cap n l):Reads w w.heap.size 7 (some ⟨g,0,none⟩) n (Dn l):=by
 have DG:=h.lt;obtain⟨h0,h1,h2,cur,h3,h4,h5⟩:=h;refine⟨by rw[M5,h0],fun hn=>⟨_,rfl,DG,fun j u hu=>?_⟩⟩;have I1:(⟨g,0,none⟩:Addr).add j=⟨g,j,none⟩:=by unfold Addr.add;split<;>simp_all
 have hj:j<n*7:=by
  have:=(CQ.1 hu).1;rw[M5,h0]at this;exact this
 rw[I1,h3.cell,<-hu,<-h5,ASo,AD hj];simp
theorem Dz.ok(h:Dz H w l)(hid:∀p∈l,(pid p).size<=maxLen):∀p∈l,Hn w w.heap.size p:=fun p hp=>by
 have hr:=h p hp;have hc:=Ec hr;exact⟨Reads.DR hr,hc.1,hc.2,hid p hp⟩
theorem Dz.upd(h:Dz H w l){k:Nat}{p':C8}(hp:w.ownsRow H 3 1 (Tb p') (DZ p').length (DF (DZ p'))):Dz H w (l.set k p'):=fun q hq=>by
 rcases Cc hq with hq|rfl
 ·exact h q hq
 ·exact hp
end
theorem Below.Gh{w W:World}{o:Obj}(h:Below w.heap.size w W):Below w.heap.size w (W.alloc o):=h.alloc h.size _
theorem Below.C9{w X W:World}(h:Below w.heap.size w X)(h2:Below X.heap.size X W):Below w.heap.size w W:=h.trans (h2.mono h.size)
def Qq(A:Option Addr)(l:List C8)(P:Nat->Prop):Prop:=(0<l.length->∀a,A=some a->P a.block)/\∀p∈l,0<(DZ p).length->∀a,p.2.1=some a->P a.block
def Ki(w:World)(A0:Option Addr)(l0:List C8)(A:Option Addr)(l:List C8):Prop:=∀P:Nat->Prop,(∀k,w.heap.size<=k->P k)->Qq A0 l0 P->Qq A l P
theorem Si{w w':World}{g:Nat}{l l0:List C8}{A0:Option Addr}(hg:w.heap.size<=g)(hv:Dz w.heap.size w' l):Ki w A0 l0 (some ⟨g,0,none⟩) l:=fun P hP _=>
 ⟨fun _ a ha=>by cases ha;exact hP _ hg,fun p hp _ a ha=>hP _ ((hv p hp).lt a.block (by simp only[Tb,ha,Value.ownBlock])).1⟩
theorem Sb{w:World}{g k:Nat}{l:List C8}{A0:Option Addr}{p':C8}(hg:w.heap.size<=g)(hp:0<(DZ p').length->∀a,p'.2.1=some a->w.heap.size<=a.block\/∃q∈l,0<(DZ q).length/\q.2.1=some a):Ki w A0 l (some ⟨g,0,none⟩) (l.set k p'):=fun P hP h0=>
 ⟨fun _ a ha=>by cases ha;exact hP _ hg,fun p od hl a ha=>by
   rcases Cc od with h|rfl
   ·exact h0.2 p h hl a ha
   ·rcases hp hl a ha with h|⟨q,hq,hql,hqa⟩
    ·exact hP _ h
    ·exact h0.2 q hq hql a hqa⟩
def Ir(cap:Int)(l:List Int)(x:Int):List Int:=if (l.length:Int)<cap then l++[x]else l.tail++[x]
def cK(cap:Int)(l:List Int)(w:World)(e:Ending)(w':World):Prop:=
 ∃A c,e=.returned (.tuple #[.agg #[.int .i64 cap,.slice A l.length c],.int .i64 0])/\w'.ownsRow w.heap.size 3 1 (.slice A l.length c) l.length (DF l)/\Below w.heap.size w w'
theorem oN(cap x:Int)(A:Option Addr)(c B:Nat)(l:List Int)(hc:l.length<=c)(hm:c<=maxLen)(Jq:Ih cap l=0)(hx:wi x 0 16777216=true)(w:World)(hr:Reads w B 1 A l.length (DF l))(hB:B<=w.heap.size):
 Calls prog 254 #[.agg #[.int .i64 cap,.slice A l.length c],.int .i64 x] w (cK cap (Ir cap l x) w):=by
 obtain⟨c0,c1,c2,c3⟩:=GZ Jq;unfold Ir;by_cases DG:(l.length:Int)<cap
 ·rw[AD DG]
  refine(lG cap x A c B l.length l rfl hc hm Jq DG hx w hr hB).mono ?_;rintro e w' ⟨A',c',rfl,h1,h2⟩;exact⟨A',c',by simp,by simpa using h1,h2⟩
 ·rw[AC DG]
  cases l with
  |nil=>simp at DG;omega
  |cons y t=>
   have dy:cap=(t.length:Int)+1:=by simp at DG c2;omega
   subst dy;have hr':Reads w B 1 A (t.length+1) (DF (y::t)):=hr;obtain⟨d,rfl⟩:∃d,c=d+1:=⟨c- 1,by simp at hc;omega⟩;by_cases hd:1<=d
   ·refine(lS x y A B t.length d t rfl hd (by simpa using hc) hm Jq hx w hr' hB).mono ?_
    rintro e w' ⟨A',c',rfl,h1,h2⟩;exact⟨A',c',by simp,by simpa using h1,h2⟩
   ·have fh:d=0:=by omega
    subst fh;have ht:t=[]:=List.length_eq_zero_iff.1 (by simpa using hc);subst ht;refine(fl x y A B [] rfl (by simpa using Jq) hx w hr' hB).mono ?_;rintro e w' ⟨A',c',rfl,h1,h2⟩;exact⟨A',c',by simp,by simpa using h1,h2⟩
structure Kept(X:Nat->Prop)(w w':World):Prop where
 os:w'.os=w.os
 tape:w'.tape=w.tape
 output:w'.output=w.output
 size:w.heap.size<=w'.heap.size
 block:∀k,k<w.heap.size->¬X k->w'.heap[k]? =w.heap[k]?
section
variable{X Y:Nat->Prop}{w w1 w2:World}
theorem Kept.refl(X:Nat->Prop)(w:World):Kept X w w:=⟨rfl,rfl,rfl,AB,fun _ _ _=>rfl⟩
theorem Kept.trans(h:Kept X w w1)(k:Kept X w1 w2):Kept X w w2:=
 ⟨k.os.trans h.os,k.tape.trans h.tape,k.output.trans h.output,AG h.size k.size,fun i hi hx=>(k.block i (AJ hi h.size) hx).trans (h.block i hi hx)⟩
theorem Kept.then(h:Kept X w w1)(k:Kept Y w1 w2)(hy:∀i,Y i->X i\/w.heap.size<=i):Kept X w w2:=
 ⟨k.os.trans h.os,k.tape.trans h.tape,k.output.trans h.output,AG h.size k.size,fun i hi hx=>(k.block i (AJ hi h.size) (fun hyi=>(hy i hyi).elim hx (fun LU=>by omega))).trans (h.block i hi hx)⟩
theorem Kept.mono(h:Kept X w w1)(hx:∀i,X i->Y i\/w.heap.size<=i):Kept Y w w1:=
 ⟨h.os,h.tape,h.output,h.size,fun i hi hy=>h.block i hi (fun hxi=>(hx i hxi).elim hy (fun LU=>by omega))⟩
theorem Kept.DU(h:Below w.heap.size w w1):Kept X w w1:=⟨h.os,h.tape,h.output,h.size,fun i hi _=>h.block i hi⟩
theorem Kept.step(h:Kept X w w1)(k:Below w1.heap.size w1 w2):Kept X w w2:=h.trans (.DU k)
theorem Kept.drew(h:Kept X w w1):Kept X w w1.drew:=⟨h.os,h.tape,h.output,h.size,h.block⟩
theorem Kept.alloc(h:Kept X w w1)(o:Obj):Kept X w (w1.alloc o):=h.step (AA.alloc AB o)
theorem Kept.setCell(h:Kept X w w1){a:Addr}(ha:X a.block\/w.heap.size<=a.block)(u:Value):Kept X w (w1.setCell a u):=
 ⟨h.os,h.tape,h.output,AG h.size (by simp[World.setCell]),fun i hi hx=>(ATi w1 a u i (fun e=>by rcases ha with ha|ha;exact hx (e▸ha);omega)).trans (h.block i hi hx)⟩
theorem Kept.grown{r:Option Nat}(h:Kept X w w1)(hg:w1.grownBy w2 r)(hr:∀k,r=some k->X k\/w.heap.size<=k):Kept X w w2:=
 ⟨hg.os.trans h.os,hg.tape.trans h.tape,hg.output.trans h.output,AG h.size hg.size,fun i hi hx=>(hg.block i (AJ hi h.size) (fun e=>(hr i e.symm).elim hx (fun LU=>by omega))).trans (h.block i hi hx)⟩
theorem Kept.DC{g:Nat}{t:TypeId}{cs:Array Value}(h:Kept X w w1)(hb:DJ w g t cs)(hx:¬X g):DJ w1 g t cs:=(h.block g hb.lt hx).trans hb
theorem Kept.below{B:Nat}(h:Kept X w w1)(hx:∀k,X k->B<=k)(hB:B<=w.heap.size):Below B w w1:=
 ⟨h.os,h.tape,h.output,h.size,fun k hk=>h.block k (by omega) (fun hxk=>by have:=hx k hxk;omega)⟩
theorem Kept.cell{a:Addr}{u:Value}(h:Kept X w w1)(hc:w.cell? a=some u)(hx:¬X a.block):w1.cell? a=some u:=by
 have hb:=Cd w a hc;rw[AUP (w:=w) (h.block a.block hb hx)];exact hc
theorem Kept.reads{B size n:Nat}{A:Option Addr}{xs:List Value}(h:Kept X w w1)(hr:Reads w B size A n xs)(hx:0<n->∀a,A=some a->¬X a.block):Reads w1 B size A n xs:=
 ⟨hr.1,fun hn=>by
   obtain⟨ad,e,hb,hc⟩:=hr.2 hn;exact⟨ad,e,hb,fun j u hu=>h.cell (hc j u hu) (by rw[KO];exact hx hn ad e)⟩⟩
theorem Kept.own{base:Nat}{e:TypeId}{size n:Nat}{v:Value}{xs:List Value}(h:Kept X w w1)(ho:w.ownsRow base e size v n xs)(hx:∀k,v.ownBlock=some k->¬X k):w1.ownsRow base e size v n xs:=by
 refine⟨ho.1,?_⟩;rcases ho.2 with hn|⟨g,cap,cur,rfl,hb,hg,rest⟩
 ·exact .inl hn
 ·exact .inr ⟨g,cap,cur,rfl,hb,(h.block g (ASx.1 hg).1 (hx g rfl)).trans hg,rest⟩
theorem Kept.Fj{A:Option Addr}{n B:Nat}{l:List C8}(h:Kept X w w1)(hp:Dq w B A n l)(hx:Qq A l (fun k=>¬X k)):Dq w1 B A n l:=
 ⟨hp.1,h.reads hp.2.1 (fun hn=>hx.1 (by rw[hp.1];exact hn)),fun p hm=>by
   obtain⟨h1,h2⟩:=hp.2.2 p hm;exact⟨h.reads h1 (hx.2 p hm),h2⟩⟩
end
theorem Qq.mono{A:Option Addr}{l:List C8}{P Q:Nat->Prop}(h:Qq A l P)(hpq:∀k,P k->Q k):Qq A l Q:=
 ⟨fun hl a ha=>hpq _ (h.1 hl a ha),fun p hp hl a ha=>hpq _ (h.2 p hp hl a ha)⟩
theorem Qq.and{A:Option Addr}{l:List C8}{P Q:Nat->Prop}(h:Qq A l P)(h':Qq A l Q):Qq A l (fun k=>P k/\Q k):=
 ⟨fun hl a ha=>⟨h.1 hl a ha,h'.1 hl a ha⟩,fun p hp hl a ha=>⟨h.2 p hp hl a ha,h'.2 p hp hl a ha⟩⟩
theorem Dq.DC{w:World}{A:Option Addr}{n B:Nat}{l:List C8}(hp:Dq w B A n l):Qq A l (fun k=>k<B):=
 ⟨fun hl a ha=>by
   obtain⟨ad,e,hb,_⟩:=hp.2.1.2 (by rw[<-hp.1];exact hl);rw[ha]at e;injection e with e
   rw[e];exact hb,fun p hm hl a ha=>by
   obtain⟨ad,e,hb,_⟩:=(hp.2.2 p hm).1.2 hl;rw[ha]at e;injection e with e
   rw[e];exact hb⟩
abbrev Dm:=ByteArray×Int×Bool
def Gf(s:Dm):List Value:=[.string s.1,.int .i64 s.2.1,.bool s.2.2]
def Da:List Dm->List Value
 | []=>[]
 |p::l=>Gf p++Da l
theorem Il(p:Dm):(Gf p).length=3:=rfl
theorem QP:∀l:List Dm,(Da l).length=l.length*3
 | []=>rfl
 |p::l=>by simp only[Da,AN,Il,AP,QP l];omega
theorem Kk(l m:List Dm):Da (l++m)=Da l++Da m:=by
 induction l with
 |nil=>rfl
 |cons x l ih=>simp[Da,ih]
theorem SC:∀(l:List Dm)(k j:Nat)(h:k<l.length),j<3->(Da l)[k*3+j]? =(Gf (l[k]'h))[j]?
 | [],k,j,h,_=>by simp at h
 |p::l,0,j,_,hj=>by
  rw[ASu,CH];simp only[Da];rw[ATc (by rw[Il];exact hj)];rfl
 |p::l,k+1,j,h,hj=>by
  simp only[Da];rw[ASz (by rw[Il];omega),Il,show(k+1)*3+j- 3=k*3+j by omega,SC l k j (by simpa using h) hj];rfl
theorem lB(p:Dm):∀u∈Gf p,u.oneCell'=true:=by
 intro u hu;simp only[Gf,AR,CT,CU]at hu;rcases hu with rfl|rfl|rfl<;>rfl
theorem In(l:List Dm):∀u∈Da l,u.oneCell'=true:=by
 induction l with
 |nil=>intro u hu;cases hu
 |cons p l ih=>
  intro u hu;rcases Au.1 hu with hu|hu
  ·exact lB p u hu
  ·exact ih u hu
theorem Ug:∀(l:List Dm)(k j:Nat)(v:Value)(p':Dm)(h:k<l.length),j<3->(Gf (l[k]'h)).set j v=Gf p'->(Da l).set (k*3+j) v=Da (l.set k p')
 | [],k,j,v,p',h,_,_=>by simp at h
 |p::l,0,j,v,p',_,hj,hp=>by
  simp only[Da,ATU];rw[ASu,CH,List.set_append_left _ _ (by rw[Il];exact hj)];rw[<-hp];rfl
 |p::l,k+1,j,v,p',h,hj,hp=>by
  simp only[Da,AUQ];rw[ATT _ _ (by rw[Il];omega),Il,show(k+1)*3+j- 3=k*3+j by omega,Ug l k j v p' (by simpa using h) hj (by simpa using hp)]
def ACZ(w:World)(b off:Nat)(p:Dm):Prop:=
 w.cell? ⟨b,off,none⟩=some (.string p.1)/\w.cell? ⟨b,off+1,none⟩=some (.int .i64 p.2.1)/\w.cell? ⟨b,off+2,none⟩=some (.bool p.2.2)
def JL(t:TypeId)(w:World)(g cap n:Nat)(l:List Dm):Prop:=l.length=n/\n<=cap/\cap<=maxLen/\∃cur,DJ w g t cur/\cur.size=cap*3/\cur.toList.take (n*3)=Da l
section
variable{t:TypeId}{w w':World}{g cap n base:Nat}{l:List Dm}
theorem JL.own(h:JL t w g cap n l)(hb:base<=g):w.ownsRow base t 3 (.slice (some ⟨g,0,none⟩) n cap) n (Da l):=by
 obtain⟨h0,h1,h2,cur,h3,h4,h5⟩:=h;exact⟨by rw[QP,h0],.inr ⟨g,cap,cur,rfl,hb,h3,h1,h2,h4,h5⟩⟩
theorem JL.DC(h:JL t w g cap n l):∃cur,DJ w g t cur:=by
 obtain⟨h0,h1,h2,cur,h3,h4,h5⟩:=h;exact⟨cur,h3⟩
theorem JL.lt(h:JL t w g cap n l):g<w.heap.size:=by
 obtain⟨cur,hc⟩:=h.DC;exact hc.lt
theorem JL.frozen(h:JL t w g cap n l)(j:Nat):w.frozen? ⟨g,j,none⟩=false:=by
 obtain⟨cur,hc⟩:=h.DC;exact hc.frozen j
theorem JL.cells(h:JL t w g cap n l)(k:Nat)(hk:k<l.length):ACZ w g (k*3) (l[k]'hk):=by
 obtain⟨h0,h1,h2,cur,h3,h4,h5⟩:=h;have at':∀j v,j<3->(Gf (l[k]'hk))[j]? =some v->w.cell? ⟨g,k*3+j,none⟩=some v:=fun j v hj hv=>by
  rw[h3.cell,<-hv,<-SC l k j hk hj,<-h5,ASo,AD (by omega)];simp
 exact⟨at' 0 _ (by decide) rfl,at' 1 _ (by decide) rfl,at' 2 _ (by decide) rfl⟩
theorem JL.AH3(h:JL t w g cap n l)(k:Nat)(b:Bool)(hk:k<l.length):JL t (w.setCell ⟨g,k*3+2,none⟩ (.bool b)) g cap n (l.set k ((l[k]'hk).1,(l[k]'hk).2.1,b)):=by
 obtain⟨h0,h1,h2,cur,h3,h4,h5⟩:=h;exact⟨by simpa using h0,h1,h2,_,h3.De (k*3+2) (.bool b),by simpa using h4,by rw[<-Ug l k 2 (.bool b) _ hk (by decide) rfl,<-h5,AUR,List.take_set]⟩
theorem JL.kept{X:Nat->Prop}(h:JL t w g cap n l)(hk:Kept X w w')(hx:¬X g):JL t w' g cap n l:=by
 obtain⟨h0,h1,h2,cur,h3,h4,h5⟩:=h;exact⟨h0,h1,h2,cur,hk.DC h3 hx,h4,h5⟩
theorem JL.below(h:JL t w g cap n l){B:Nat}(hb:Below B w w')(hg:g<B):JL t w' g cap n l:=by
 obtain⟨h0,h1,h2,cur,h3,h4,h5⟩:=h;exact⟨h0,h1,h2,cur,h3.below hb hg,h4,h5⟩
end
open Go.Maps (Keyed)
theorem QO{P:Program}{e:TypeId}(he:P.underlying e=some .bool){v:Value}{z:DataW Unit×List MemPlace}(h:plainElem P e v=some z):∃x,v=.bool x/\z=(.lit (.bool x),[]):=by
 unfold plainElem at h;rw[he]at h;cases v<;>simp at h
 exact⟨_,rfl,h.symm⟩
def EM(P:Program)(k e:TypeId)(w:World)(b n:Nat)(m:Lit->Bool):Prop:=
 ∃D:DataW Unit,w.ownsMap P k (plainElem P e) b n D/\Maps.IsMap D/\∀kl,D.atKey kl (.lit (.bool false))=.lit (.bool (m kl))
section
variable{P:Program}{k e t:TypeId}{w w':World}{b n:Nat}{m:Lit->Bool}
theorem EM.made(w:World):EM P k e (w.alloc (.map #[] 0)) w.heap.size 0 (fun _=>false):=
 ⟨.map [],World.ownsMap_made _ _ _ _,Maps.isMap_empty,fun kl=>rfl⟩
theorem EM.lt(h:EM P k e w b n m):b<w.heap.size:=by
 obtain⟨D,h,_⟩:=h;exact h.lt
theorem EM.kept{X:Nat->Prop}(h:EM P k e w b n m)(hk:Kept X w w')(hx:¬X b):EM P k e w' b n m:=by
 obtain⟨D,h,h2⟩:=h;have hl:=h.lt;obtain⟨es,clock,hb,h3⟩:=h;exact⟨D,⟨es,clock,(hk.block b hl hx).trans hb,h3⟩,h2⟩
theorem EM.below(h:EM P k e w b n m)(hb:Below w.heap.size w w'):EM P k e w' b n m:=h.kept (X:=fun _=>False) (.DU hb) (fun h=>h)
theorem EM.look(h:EM P k e w b n m)(K:Keyed P k)(ht:P.underlying t=some (.map k e))(he:P.underlying e=some .bool)(hz:(zeroValue e).run P w=.ok (.bool false) w){key:Value}{kl:Lit}(Pd:keyOf P k key=some kl):
 (Instr.lookup t (.map (some b)) key false).run P w=.ok (.bool (m kl)) w:=by
 obtain⟨D,h,_,h3⟩:=h;obtain⟨v,ps,J7,hv⟩:=h.lookup K ht hz (plainElem_bool he false) Pd;obtain⟨x,rfl,hx⟩:=QO he hv;simp only[Prod.mk.injEq]at hx;have h4:=h3 kl;rw[hx.1]at h4;have:x=m kl:=by simpa using h4
 rw[<-this];exact J7
theorem EM.store(h:EM P k e w b n m)(K:Keyed P k)(ht:P.underlying t=some (.map k e))(he:P.underlying e=some .bool)(hn:n<maxLen){key:Value}{kl:Lit}(Pd:keyOf P k key=some kl)(x:Bool){m':Lit->Bool}(dG:m' kl=x)(cM:∀q,q≠kl->m' q=m q):
 ∃w',(Instr.mapUpdate t (.map (some b)) key (.bool x)).run P w=.ok () w'/\EM P k e w' b (n+1) m'/\w.grownBy w' (some b):=by
 obtain⟨D,h,h2,h3⟩:=h;obtain⟨w',J7,DL,hg⟩:=h.update K ht hn Pd (plainElem_bool he x);refine⟨w',J7,⟨_,DL,h2.put _ _,fun q=>?_⟩,hg⟩;rcases Classical.em (q=kl)with hq|hq
 ·subst hq
  rw[dG,Maps.atKey_put_same h2 (K.key Pd)]
 ·rw[cM q hq,AUS hq,h3 q]
end
section
variable{P:Program}(w:World){ops:Array Oper}{rest:List Oper}{o:Oper}{a:Act}{Q:Exit->Act->World->Prop}
theorem QU(hg:o.guard=none)(mm x:Operand)(t:TypeId)(xO:o.op=Op.lookup t mm x false)
 (k e:TypeId) (K:Keyed P k) (ht:P.underlying t=some (.map k e)) (he:P.underlying e=some .bool) (hz:(zeroValue e).run P w=.ok (.bool false) w) (b n:Nat) (m:Lit->Bool)
 (hm:a.eval mm=.map (some b)) (DL:EM P k e w b n m) (key:Value) (kl:Lit) (hx:a.eval x=key) (Pd:keyOf P k key=some kl)
 (hK:wpList P ops Q rest (a.put o.dst (.bool (m kl))) w):
 wpList P ops Q (o::rest) a w:=by
 refine ASh hg fun K' hK'=>?_;have J7:=DL.look K ht he hz Pd;unfold Oper.wp;simp[execOp,xO,hm,hx,J7,Result.andThen];exact hK' _ _ hK
theorem MG(hg:o.guard=none)(mm x v:Operand)(t:TypeId)(xO:o.op=Op.mapUpdate t mm x v)
 (k e:TypeId) (K:Keyed P k) (ht:P.underlying t=some (.map k e)) (he:P.underlying e=some .bool) (b n:Nat) (m:Lit->Bool)
 (hm:a.eval mm=.map (some b)) (DL:EM P k e w b n m) (hn:n<maxLen) (key:Value) (kl:Lit) (xx:Bool) (hx:a.eval x=key) (hv:a.eval v=.bool xx) (Pd:keyOf P k key=some kl) (m':Lit->Bool) (dG:m' kl=xx) (cM:∀q,q≠kl->m' q=m q)
 (hK:∀w',EM P k e w' b (n+1) m'->w.grownBy w' (some b)->wpList P ops Q rest (a.put o.dst undef) w'):
 wpList P ops Q (o::rest) a w:=by
 refine ASh hg fun K' hK'=>?_;obtain⟨w',J7,r1,r2⟩:=DL.store K ht he hn Pd xx dG cM;unfold Oper.wp;simp[execOp,xO,hm,hx,hv,J7,Result.andThen];exact hK' _ _ (hK w' r1 r2)
end
theorem Xb:∀a:List UInt8,Op.bytesLess a a=false
 | []=>rfl
 |a::x=>by
  have h:¬a<a:=fun h=>by have:=Bj.1 h;omega
  simp[Op.bytesLess,h,Xb x]
theorem TG:∀a b c:List UInt8,Op.bytesLess a b=true->Op.bytesLess b c=true->Op.bytesLess a c=true
 |_,[],_,h,_=>by simp[Op.bytesLess]at h
 |_,_::_,[],_,h=>by simp[Op.bytesLess]at h
 | [],_::_,_::_,_,_=>rfl
 |a::x,b::y,c::z,h1,h2=>by
  simp only[Op.bytesLess,Bool.or_eq_true,Bf,CG,CF]at h1 h2⊢;rcases h1 with h1|⟨rfl,h1⟩
  ·rcases h2 with h2|⟨rfl,h2⟩
   ·left
    have:=Bj.1 h1;have:=Bj.1 h2;exact Bj.2 (by omega)
   ·exact .inl h1
  ·rcases h2 with h2|⟨rfl,h2⟩
   ·exact .inl h2
   ·exact .inr ⟨rfl,TG x y z h1 h2⟩
theorem Sj(a:ByteArray):Ea a a=false:=Xb _
theorem MA{a b c:ByteArray}(h1:Ea a b=true)(h2:Ea b c=true):Ea a c=true:=TG _ _ _ h1 h2
def I5(p:C8):Prop:=JK (pid p)=true/\GO (LS p) (LR p) (Iz p)/\Ih (Ed p) (DZ p)=0/\0<=Do p/\Do p<=1073741824
theorem gT{p:C8}(h:Kw p=0):I5 p:=by
 unfold Kw at h;split at h
 ·rename_i h1
  split at h
  ·rename_i h2
   split at h
   ·rename_i h3
    split at h
    ·rename_i h4
     exact⟨h1,h2,h3,(DW.1 h4).1,(DW.1 h4).2⟩
    ·simp at h
   ·contradiction
  ·simp at h
 ·simp at h
theorem YB:∀(l:List C8)(a:ByteArray),Ov a l=0->(∀p∈l,I5 p/\Ea a (pid p)=true)/\∀i j,(hi:i<l.length)->(hj:j<l.length)->i<j->Ea (pid (l[i]'hi)) (pid (l[j]'hj))=true
 | [],a,_=>⟨fun p hp=>(by cases hp),fun i j hi=>by simp at hi⟩
 |p::l,a,h=>by
  unfold Ov at h;by_cases h1:Kw p=0
  ·rw[AD h1]at h
   by_cases h2:Ea a (pid p)=true
   ·rw[AD h2]at h
    obtain⟨i1,i2⟩:=YB l (pid p) h;refine⟨fun q hq=>?_,fun i j hi hj nE=>?_⟩
    ·rcases AR.1 hq with rfl|hq
     ·exact⟨gT h1,h2⟩
     ·exact⟨(i1 q hq).1,MA h2 (i1 q hq).2⟩
    ·obtain⟨j,rfl⟩:∃j',j=j'+1:=⟨j- 1,by omega⟩
     cases i with
     |zero=>exact(i1 _ (AL (by simpa using hj))).2
     |succ i=>exact i2 i j (by simpa using hi) (by simpa using hj) (by omega)
   ·rw[AC h2]at h;simp at h
  ·rw[AC h1]at h;contradiction
def oC(l:List C8):Prop:=∀i j,(hi:i<l.length)->(hj:j<l.length)->i<j->Ea (pid (l[i]'hi)) (pid (l[j]'hj))=true
theorem En{l:List C8}(h:GH l=0):l.length<=6/\(∀p∈l,I5 p)/\oC l:=by
 unfold GH at h;split at h
 ·simp at h
 ·obtain⟨h1,h2⟩:=YB l _ h
  exact⟨by omega,fun p hp=>(h1 p hp).1,h2⟩
theorem dQ{p:C8}(h:I5 p):(DZ p).length<=64:=by have:=GZ h.2.2.1;omega
theorem rF{l:List C8}(h:oC l){i j:Nat}(hi:i<l.length)(hj:j<l.length)(nE:i<j):pid (l[i]'hi)≠pid (l[j]'hj):=fun e=>by
 have:=h i j hi hj nE;rw[e,Sj]at this;cases this
section
variable(A:Option Addr)(c B n:Nat)(l:List C8)
theorem Wp(ha:oC l)(k:Nat)(hk:k<l.length)(hm:n<=1000)(w:World)(hp:Dq w B A n l)(hB:B<=w.heap.size):
 Calls prog 245 #[.slice A n c,.string (pid (l[k]'hk))] w fun e w'=>e=.returned (.tuple #[.int .i64 (k:Int),.bool true])/\Below w.heap.size w w':=by
 refine YG A c B n l _ k true (by have:=hp.len;omega) hm (fun j hj VD=>ha j k hj hk VD) (fun j hj VD=>?_) ⟨fun _=>⟨hk,rfl⟩,fun _=>rfl⟩ w hp hB;rcases Ah k j with h|h
 ·cases hq:Ea (pid (l[j]'hj)) (pid (l[k]'hk))
  ·rfl
  ·have:=MA hq (ha k j hk hj h)
   rw[Sj]at this;cases this
 ·have:j=k:=by omega
  subst this;exact Sj _
theorem Xc(p:Nat->Bool):∀m,∃i0,i0<=m/\(∀j,j<i0->p j=true)/\(i0=m\/p i0=false)
 |0=>⟨0,AB,fun j h=>absurd h (by omega),.inl rfl⟩
 |m+1=>by
  obtain⟨i0,h1,h2,h3⟩:=Xc p m;rcases h3 with rfl|h3
  ·cases hq:p i0
   ·exact⟨i0,by omega,h2,.inr hq⟩
   ·exact⟨i0+1,AB,fun j hj=>by
     by_cases h:j=i0
     ·subst h;exact hq
     ·exact h2 j (by omega),.inl rfl⟩
  ·exact⟨i0,by omega,h2,.inr h3⟩
theorem Rw(ha:oC l)(id:ByteArray)(Ix:∀j,(hj:j<l.length)->pid (l[j]'hj)≠id)(jJ:l.length=n)(hm:n<=1000):
 ∃i0,i0<=n/\(∀j,(hj:j<l.length)->j<i0->Ea (pid (l[j]'hj)) id=true)/\(∀j,(hj:j<l.length)->i0<=j->Ea (pid (l[j]'hj)) id=false)/\∀(w:World)(hp:Dq w B A n l)(hB:B<=w.heap.size),
  Calls prog 245 #[.slice A n c,.string id] w fun e w'=>e=.returned (.tuple #[.int .i64 (i0:Int),.bool false])/\Below w.heap.size w w':=by
 obtain⟨i0,h1,h2,h3⟩:=Xc (fun j=>if hj:j<l.length then Ea (pid (l[j]'hj)) id else true) n;have Vj:∀j,(hj:j<l.length)->j<i0->Ea (pid (l[j]'hj)) id=true:=fun j hj hji=>by
  have:=h2 j hji
  rwa [dif_pos hj]at this
 have bK:∀j,(hj:j<l.length)->i0<=j->Ea (pid (l[j]'hj)) id=false:=fun j hj nE=>by
  rcases h3 with rfl|h3
  ·omega
  ·have hi:i0<l.length:=by omega
   simp only[dif_pos hi]at h3;rcases Ah i0 j with h|h
   ·cases hq:Ea (pid (l[j]'hj)) id
    ·rfl
    ·have:=MA (ha i0 j hi hj h) hq
     rw[h3]at this;cases this
   ·have:j=i0:=by omega
    subst this;exact h3
 refine⟨i0,h1,Vj,bK,fun w hp hB=>YG A c B n l id i0 false h1 hm Vj bK ⟨fun h=>(by cases h),fun⟨hj,h⟩=>absurd h (Ix i0 hj)⟩ w hp hB⟩
end
abbrev Dg:=ByteArray×Int×Int×Int×Int
abbrev LY(c:Dg):Int:=c.2.1
abbrev Eb(c:Dg):Int:=c.2.2.1
abbrev JM(c:Dg):Int:=c.2.2.2.1
abbrev Jy(c:Dg):Int:=c.2.2.2.2
def Gj(c:Dg):Prop:=0<=LY c/\LY c<=2147483647/\1<=Eb c/\Eb c<=16777216/\1<=JM c/\JM c<=64/\1<=Jy c/\Jy c<=16777216
def nj(least now:Int)(d:D0):Int:=((Lv.YV (Pw d.2.2.2.1.length (s1 d.2.2.2.1) (s2 d.2.2.2.1) least).toNat d.2.2.2.1.length (s1 d.2.2.2.1) (now-d.2.2.2.2):Nat):Int)
def uQ(least now:Int)(d:D0):Prop:=KC d.2.2.1 least d.2.2.2.1=0/\0<=now-d.2.2.2.2/\now-d.2.2.2.2<=1073741824
def fnd(D:List D0)(id:ByteArray):Option D0:=D.find? (fun d=>decide (d.1=id))
def va(least now:Int)(D:List D0)(id:ByteArray):Int:=match fnd D id with|some d=>nj least now d|none=>0
def Lh(D:List D0)(id:ByteArray):Int:=match fnd D id with|some _=>0|none=>4
theorem T5{N S Q least:Int}(hs:Gn N S Q=0)(hN:1<=N)(h0:1<=least)(h1:least<=16777216):((Pw N S Q least).toNat:Int)=Pw N S Q least:=by
 have h2:1<=N*least:=by have:=BT hN h0 (by omega) (by omega);omega
 have h3:0<=cQ N least:=by unfold cQ;exact Bq (by omega) (by omega)
 unfold Pw;split<;>omega
def Hb(f:ByteArray->Int)(s:Dm):Bool:=decide (s.2.1<=f s.1)
def Id(f:ByteArray->Int)(S:List Dm):List Dm:=S.map fun s=>(s.1,s.2.1,Hb f s)
def Gu(f:ByteArray->Int)(S:List Dm):List Dm:=S.filterMap fun s=>if Hb f s=s.2.2 then none else some (s.1,s.2.1,Hb f s)
theorem Rl(f:ByteArray->Int)(S:List Dm)(k:Nat)(h:k<S.length):Gu f (S.take (k+1))=Gu f (S.take k)++(if Hb f (S[k]'h)=(S[k]'h).2.2 then []else [((S[k]'h).1,(S[k]'h).2.1,Hb f (S[k]'h))]):=by
 unfold Gu;rw[Af h,List.filterMap_append];congr 1;by_cases he:Hb f (S[k]'h)=(S[k]'h).2.2
 ·simp[he]
 ·simp[he]
theorem LJ(f:ByteArray->Int)(S:List Dm):(Gu f S).length<=S.length:=List.length_filterMap_le _ _
def Fz(f:ByteArray->Int)(S:List Dm)(k:Nat):List Dm:=Id f (S.take k)++S.drop k
theorem MB(f:ByteArray->Int)(S:List Dm)(k:Nat):(Fz f S k).length=S.length:=by unfold Fz Id;simp;omega
theorem TH(f:ByteArray->Int)(S:List Dm)(k:Nat)(h:S.length<=k):Fz f S k=Id f S:=by unfold Fz;rw[AY h,Cu h,CP]
theorem bv(f:ByteArray->Int)(S:List Dm)(k:Nat)(h:k<S.length):(Fz f S k)[k]? =some (S[k]'h):=by
 have hl:(Id f (S.take k)).length=k:=by unfold Id;simp;omega
 unfold Fz;rw[ASz (by omega),hl,ATS,ATD,AW,AU h]
theorem M0(f:ByteArray->Int)(S:List Dm)(k:Nat)(h:k<S.length)(h':k<(Fz f S k).length):(Fz f S k)[k]'h'=S[k]'h:=by
 have:=bv f S k h;rw[AU h']at this;injection this
theorem RM(f:ByteArray->Int)(S:List Dm)(k:Nat)(h:k<S.length):Fz f S (k+1)=(Fz f S k).set k ((S[k]'h).1,(S[k]'h).2.1,Hb f (S[k]'h)):=by
 have hl:(Id f (S.take k)).length=k:=by unfold Id;simp;omega
 have e1:Id f (S.take (k+1))=Id f (S.take k)++[((S[k]'h).1,(S[k]'h).2.1,Hb f (S[k]'h))]:=by
  unfold Id;rw[Af h,BP];rfl
 unfold Fz;rw[ATT _ _ (by omega),hl,ATS,Bz h,e1,Cs];rfl
theorem Ys(f:ByteArray->Int)(S:List Dm)(k:Nat)(h:k<S.length)(he:Hb f (S[k]'h)=(S[k]'h).2.2):Fz f S (k+1)=Fz f S k:=by
 rw[RM f S k h,he];have h':k<(Fz f S k).length:=by rw[MB];exact h
 have:=M0 f S k h h';rw[<-this];exact List.set_getElem_self h'
def mE(a b:ByteArray):Bool:=a.toList==b.toList
theorem PU(a b:ByteArray):mE a b=true↔a=b:=by
 unfold mE;constructor
 ·intro h
  have:=eq_of_beq h;rw[Bl,Bl]at this;exact CC (ATZ.1 this)
 ·intro h;rw[h];simp
theorem YP{a b:ByteArray}(h:a≠b):mE a b=false:=by
 cases hq:mE a b
 ·rfl
 ·exact absurd ((PU a b).1 hq) h
def ED(c:Dg)(now seq drops:Int)(pv sv:Value):Array Value:=#[.string c.1,.int .i64 (LY c),.int .i64 (Eb c),.int .i64 (JM c),.int .i64 (Jy c),.int .i64 now,.int .i64 seq,.int .i64 drops,pv,sv]
theorem qu(p:C8)(cb:Nat)(id:ByteArray)(W:World)(hc:W.cell? ⟨cb,0,none⟩=some (.string id)):
 Calls prog 218 #[lJ p,.pointer (some ⟨cb,0,none⟩)] W fun e w'=>e=.returned (.bool (mE (pid p) id))/\Below W.heap.size W w':=by
 have E:=I ((AI W).lay (Dp p).toArray 187);simp only[Dp]at E;have hl:=Cd W _ hc;simp at hl;unfold lJ Dp;go_in;go_wp2;go_ret;exact⟨rfl,E.out.DI⟩
theorem cU(A:Option Addr)(c B n:Nat)(l:List C8)(id:ByteArray)(cb:Nat)(r:Int)(hm:n<=1000)
 (hr:(∃k,∃hk:k<l.length,pid (l[k]'hk)=id/\(∀j,(hj:j<l.length)->j<k->pid (l[j]'hj)≠id)/\r=(k:Int))\/((∀j,(hj:j<l.length)->pid (l[j]'hj)≠id)/\r= -1)) (w:World) (hp:Dq w B A n l) (hB:B<=w.heap.size) (hc:w.cell? ⟨cb,0,none⟩=some (.string id)):
 Calls prog 217 #[.slice A n c,.func (.func 218) #[] #[.pointer (some ⟨cb,0,none⟩)]] w fun e w'=>e=.returned (.int .i64 r)/\Below w.heap.size w w':=by
 have HP:=I hp;have FK:=I hB;have HN:=I hp.len;have HR:=I hr;have HC:=I hc;have Sk:=Cd w _ hc;simp at Sk;have sk:=I (fun p W hc=>qu p cb id W hc);simp only[lJ,Dp]at sk;clear hp hB hr hc;go_in;go_wp2_with fail
 go_loopw [8] (fun iv wr=>∃k:Nat,k<=n/\iv=.int .i64 (k:Int)/\(∀j,(hj:j<l.length)->j<k->pid (l[j]'hj)≠id)/\Below w.heap.size w wr) (fun iv _=>n- (RowKit.intOf iv).toNat)
 case atStart=>exact⟨0,by omega,rfl,fun j _ h=>absurd h (Nat.not_lt_zero j),AA⟩
 case round=>
  obtain⟨k,hk,rfl,GI,FI⟩:=hrel;obtain⟨wo,rfl⟩:∃wo,wo=wr:=⟨_,rfl⟩;have BL:=I FI;have NE:=I GI;clear FI GI;by_cases DG:k<n
  ·have ES:k<l.length:=by rw[HN.out];exact DG
   have uL:B<=wo.heap.size:=AG FK.out BL.out.size;have HPW:=I (HP.out.below BL.out FK.out);obtain⟨b,off,rfl,hb,EO⟩:=HPW.out.addr (by omega);obtain⟨c0,c1,c2,c3,c4,c5,c6⟩:=EO k ES;have HCW:=I (show wo.cell? ⟨cb,0,none⟩=some (.string id)from(BL.out.cell (p:=⟨cb,0,none⟩) Sk).trans HC.out);have dE:=I (rfl:l[k]'ES=l[k]'ES);generalize TJ:l[k]'ES=p at*;have sx:=I TJ;clear EO TJ dE;go_wp2_with fail
   refine(sk.out p _ HCW.out).mono ?_;rintro e' w1 ⟨rfl,C6⟩;have UC:=I (BL.out.trans (C6.mono BL.out.size));clear C6;cases hq:mE (pid p) id
   ·have Ko:=I (show∀j,(hj:j<l.length)->j<k+1->pid (l[j]'hj)≠id from fun j hj h=>by
     rcases AUT.1 h with h|rfl
     ·exact NE.out j hj h
     ·rw[sx.out];intro e;rw[(PU _ _).2 e]at hq;cases hq)
    clear hq;go_wp2;exact⟨⟨k+1,by omega,by simp,Ko.out,UC.out⟩,by simp[RowKit.intOf];omega⟩
   ·have hrk:r=(k:Int):=by
     have Qh:=(PU _ _).1 hq;rcases HR.out with⟨k',RO,h1,h2,rfl⟩|⟨h1,rfl⟩
     ·rcases ASd k k' with h|h|h
      ·exact absurd (sx.out▸Qh) (h2 k ES h)
      ·rw[h]
      ·exact absurd h1 (NE.out k' RO h)
     ·exact absurd (sx.out▸Qh) (h1 k ES)
    subst hrk;clear hq;go_wp2;go_ret;exact⟨rfl,UC.out⟩
  ·have hrn:r= -1:=by
    rcases HR.out with⟨k',RO,h1,h2,rfl⟩|⟨h1,rfl⟩
    ·exact absurd h1 (NE.out k' RO (by have:=HN.out;omega))
    ·rfl
   subst hrn;go_wp2;go_ret;exact⟨rfl,BL.out⟩
def Pc(k e:Int)(w:World)(x:Ending)(w':World):Prop:=x=.returned (.tuple #[.int .i64 k,.int .i64 e])/\Below w.heap.size w w'
theorem zV(p:C8)(least now:Int)(N7:uQ least now p.1)(B:Nat)(w:World)(hp:Hn w B p)(hB:B<=w.heap.size):
 Calls prog 107 #[.agg #[.int .i64 (Ed p),Tb p],.int .i64 least,.int .i64 (now-Do p)] w (Pc (nj least now p.1) 0 w):=by
 obtain⟨h1,h2,h3⟩:=N7;obtain⟨rA,j7,NK,Hc⟩:=QV h1;have hle:=(GZ rA).2.2.2;have IE:Gn ((DZ p).length:Int) (s1 (DZ p)) (s2 (DZ p))=0:=IZ _ hle;have Jw:(1:Int)<=((DZ p).length:Int):=by have:1<=(DZ p).length:=Hc;omega
 exact dW (Ed p) least (now-Do p) p.2.1 p.2.2 B (DZ p).length (DZ p) rfl h1 _ _ rfl rfl _ (T5 IE Jw j7 NK).symm h2 h3 hp.2.1 hp.2.2.1 w hp.1 hB
theorem nZ(b n cp:Nat)(A:Option Addr)(c:Dg)(now seq drops:Int)(sv:Value)(l:List C8)(hm:n<=1000)(id:ByteArray)(Ix:∀j,(hj:j<l.length)->pid (l[j]'hj)≠id)(w:World)
 (hb:DJ w b 244 (ED c now seq drops (.slice A n cp) sv)) (hp:Dq w w.heap.size A n l):
 Calls prog 182 #[.pointer (some ⟨b,0,none⟩),.string id] w (Pc 0 4 w):=by
 have E:=I ((AI w).lay #[.string id] 9);have HP:=I (hp.below E.out.DI AB);have b8:=hb.cell 8;have FI:=hb.lt;simp[ED]at b8;have HI:=I (cU A cp w.heap.size n l id w.heap.size (-1) hm (.inr ⟨Ix,rfl⟩) (w.alloc (.cells #[.string id] 9)) HP.out (by simp) (E.out.hd.cell 0));clear hb hp Ix;go_in;go_wp2_with fail
 refine HI.out.mono ?_;rintro e' w1 ⟨rfl,C6⟩;have E1:=I (E.out.below C6);clear C6;go_wp2;refine AF (v:=.tuple #[.int .i64 0,.int .i64 4]) (by simp[results,results182,go_sem]) rfl ⟨rfl,E1.out.DI⟩
theorem ot(b n cp:Nat)(A:Option Addr)(c:Dg)(now seq drops:Int)(sv:Value)(l:List C8)(hm:n<=1000)(id:ByteArray)(k:Nat)(hk:k<l.length)(hid:pid (l[k]'hk)=id)(ph:∀j,(hj:j<l.length)->j<k->pid (l[j]'hj)≠id)
 (N7:uQ (Jy c) now (l[k]'hk).1) (h0:0<=now) (h1:now<=1073741824) (w:World)
 (hb:DJ w b 244 (ED c now seq drops (.slice A n cp) sv)) (hp:Dq w w.heap.size A n l):
 Calls prog 182 #[.pointer (some ⟨b,0,none⟩),.string id] w (Pc (nj (Jy c) now (l[k]'hk).1) 0 w):=by
 obtain⟨p,Wm⟩:∃p,l[k]'hk=p:=⟨_,rfl⟩;have dE:=I Wm;rw[Wm]at N7⊢;have E:=I ((AI w).lay #[.string id] 9);have FI:=hb.lt;have HB:=I hb;have HP:=I (hp.below E.out.DI AB);have gz:=I hp;have b8:=hb.cell 8;simp[ED]at b8;have Te:k<n:=by rw[<-hp.len];exact hk
 have HI:=I (cU A cp w.heap.size n l id w.heap.size k hm (.inl ⟨k,hk,hid,ph,rfl⟩) (w.alloc (.cells #[.string id] 9)) HP.out (by simp) (E.out.hd.cell 0));have HK:=I N7;have HL:=I hp.len;clear hb hp hid ph N7 Wm;go_in;go_wp2_with fail
 refine HI.out.mono ?_;rintro e' w1 ⟨rfl,C6⟩;have E1:=I (E.out.below C6);clear C6 b8;have HP1:=I (gz.out.below E1.out.DI AB);have Ii:=I (HB.out.below E1.out.DI FI);obtain⟨pb,off,rfl,tN,EO⟩:=HP1.out.addr (by omega);have ZH:=EO k hk;have Yx:=gz.out.ok _ (AL hk);rw[dE.out]at ZH Yx;have OK:=I Yx;obtain⟨c0,c1,c2,c3,c4,c5,c6⟩:=ZH;have pY:=E1.out.DI.size;clear Yx;have b8:=Ii.out.cell 8;simp[ED]at b8;clear EO;have E2:=I (E1.out.lay (Dp p).toArray 187);simp only[Dp]at E2;have oM:=tN;have uZ:=Ii.out.lt
 go_upto_region 23 with fail
 have OK2:=I (OK.out.below E2.out.DI AB);have Nr:=I (HB.out.below E2.out.DI FI);generalize IK:World.alloc w1 _=w2 at*;have je:w1.heap.size+1=w2.heap.size:=by rw[<-IK];simp
 clear IK;have x4:=Nr.out.cell 4;have x5:=Nr.out.cell 5;have y4:=E2.out.hd.cell 4;have y5:=E2.out.hd.cell 5;have y6:=E2.out.hd.cell 6;simp[ED]at x4 x5 y4 y5 y6;have Ly:=I (show∀W,Below w2.heap.size w2 W->Calls prog 107 #[.agg #[.int .i64 (Ed p),Tb p],.int .i64 (Jy c),.int .i64 (now-Do p)] W (Pc (nj (Jy c) now p.1) 0 W)from fun W h=>
  zV p (Jy c) now HK.out _ W (OK2.out.below h (by have:=E2.out.DI.size;omega)) (AG E2.out.DI.size h.size))
 have w1x:IntKind.i64.wrap (now-Do p)=now-Do p:=by have:=HK.out.2.1;have:=HK.out.2.2;rw[Aj];simp only[Do];omega
 have HS:=I (show∀w',Below w2.heap.size w2 w'->(Below w2.heap.size w2 w'/\w'.cell? ⟨b,4,none⟩=some (.int .i64 (Jy c))/\w'.cell? ⟨b,5,none⟩=some (.int .i64 now)/\w'.cell? ⟨w1.heap.size,4,none⟩=some (.int .i64 (Ed p))/\w'.cell? ⟨w1.heap.size,5,none⟩=some (Tb p)/\w'.cell? ⟨w1.heap.size,6,none⟩=some (.int .i64 (Do p)))
  from fun w' h=>⟨h,(Nr.out.below h (by have:=Nr.out.lt;omega)).cell 4,(Nr.out.below h (by have:=Nr.out.lt;omega)).cell 5,(E2.out.below h).hd.cell 4,(E2.out.below h).hd.cell 5,(E2.out.below h).hd.cell 6⟩)
 go_region_held3 (fun w'=>Below w2.heap.size w2 w'/\w'.cell? ⟨b,4,none⟩=some (.int .i64 (Jy c))/\w'.cell? ⟨b,5,none⟩=some (.int .i64 now)/\w'.cell? ⟨w1.heap.size,4,none⟩=some (.int .i64 (Ed p))/\w'.cell? ⟨w1.heap.size,5,none⟩=some (Tb p)/\w'.cell? ⟨w1.heap.size,6,none⟩=some (.int .i64 (Do p)))
  ((refine HS.out _ ?_;repeat (with_reducible first|exact G8|exact AA|refine Below.Gh ?_|refine AE ?_)))
  ((go_at_call 107;(with_reducible refine(Ly.out _ ?ia).mono ?_);(case ia=>repeat (with_reducible first|exact AA|refine Below.Gh ?_|refine AE ?_));rintro e' w3 ⟨rfl,DT⟩;have G8:Below w2.heap.size w2 w3:=Below.C9 (by repeat (with_reducible first|exact AA|refine Below.Gh ?_|refine AE ?_)) DT))
 all_goals
  have EV:=I (E2.out.DI.trans (G8.mono E2.out.DI.size));clear G8 DT;go_wp2;refine AF (v:=.tuple #[.int .i64 (nj (Jy c) now p.1),.int .i64 0]) (by simp[results,results182,go_sem]) rfl ⟨rfl,EV.out⟩
theorem Od(b off c B n:Nat)(l:List C8)(hm:n<=1000)(hn:0<n)(w:World)(hp:Dq w B (some ⟨b,off,none⟩) n l)(hB:B<=w.heap.size):
 Calls prog 232 #[.slice (some ⟨b,off,none⟩) n c] w fun e w'=>∃A' c',e=.returned (.slice A' n c')/\w'.ownsRow w.heap.size 187 7 (.slice A' n c') n (Dn l)/\Below w.heap.size w w':=by
 obtain⟨i0,hi,Fq,FZ,Fe⟩:=AO Wu;have kC:=fun w=>AS0 (P:=prog) w 167 187 (some ⟨b,off,none⟩) n c 0 0 underlying167;have DL:(w.alloc (.cells #[] 187)).ownsRow w.heap.size 187 7 (.slice (some ⟨w.heap.size,0,none⟩) 0 0) 0 []:=
  ⟨rfl,.inr ⟨w.heap.size,0,#[],rfl,AB,Ci w _,AB,by unfold maxLen;omega,rfl,rfl⟩⟩
 have HO:=I DL;have HRA:=I (hp.row.alloc hB (.cells #[] 187));clear hp hB DL;go_in;go_wp2_with (at_builtin;refine EU _ rfl _ _ 167 rfl w.heap.size 187 i0 _ 7 80 underlying167 hi Fq FZ Fe rfl (by decide) _ _ _ rfl HO.out _ _ _ _ _ rfl HRA.out (IP l) ?c1 ?c2 ?c3 ?_)
 case c1=>unfold maxLen;omega
 case c2=>omega
 case c3=>simp
 intro v' w2 Ng DK;obtain⟨A2,c2,rfl⟩:=Cz Ng;go_wp2;go_ret;exact⟨A2,c2,rfl,Ng,(AA.alloc AB _).trans DK⟩
def AH:=@Go.Proofs.YthiplgekjgffkaaGreatDoor.Kept.refl
