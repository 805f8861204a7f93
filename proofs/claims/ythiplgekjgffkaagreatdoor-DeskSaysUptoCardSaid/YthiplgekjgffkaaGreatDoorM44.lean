/- The program's town: Tick -/
import Derived.Test.YthiplgekjgffkaaGreatDoorM43
set_option maxRecDepth 100000
set_option maxHeartbeats 99000000
set_option linter.all false
namespace Go.Proofs.YthiplgekjgffkaaGreatDoor
open Go.Proofs.Tryz
open Go.RowKit Go.Lib
theorem kV{P:Program}{f:FuncId}{args:Array Value}{w:World}{n:Nat}{v:Value}
 (h:Calls P f args (w.drewN n) fun e w'=>e=.returned v/\w.drewN n=w'):Calls P f args (w.drewN n) fun e GQ=>e=.returned v/\∃m,GQ=w.drewN m:=
 h.mono fun _ _ ⟨he,hm⟩=>⟨he,n,hm.symm⟩
theorem Xn{t:DQ}{g:Int}(g1:1<=g)(g2:g<=1000){p:PM}(hp:p∈t.L)(hb:Hr g p=true):t.D8 g=2:=by
 unfold DQ.D8;rw[AC (by omega),AD (ATE.2 ⟨p,hp,hb⟩)]
theorem sF{f:PM->Bool}{l:List PM}(h:∀p∈l,f p=false):¬l.any f=true:=fun e=>by
 obtain⟨p,hp,hf⟩:=ATE.1 e;rw[h p hp]at hf;cases hf
theorem Vp{t:DQ}{g:Int}(g1:1<=g)(g2:g<=1000)(hp:∀p∈t.L,Hr g p=false)(hf:1000<t.way.length+FX g t.L):t.D8 g=10:=by
 unfold DQ.D8;rw[AC (by omega),AC (sF hp),AD hf]
theorem Z8{t:DQ}{g:Int}(g1:1<=g)(g2:g<=1000)(hp:∀p∈t.L,Hr g p=false)(hf:¬1000<t.way.length+FX g t.L):t.D8 g=0:=by
 unfold DQ.D8;rw[AC (by omega),AC (sF hp),AC hf]
theorem VZ{s:Dh}{g:Int}(g1:1<=g)(g2:g<=1000):s.D8 g=if 1073741824<s.now+g\/64<=g/Eb s.c then 2 else 0:=by
 unfold Dh.D8;rw[AC (by omega)]
section
variable{w W W' wr w2:World}{F:Nat->Nat}{tb ca:Nat}{Aa:Option Addr}{nv dv wv ov:Value}{bs:List Nat}{t:DQ}{g:Int}{k:Nat}
theorem Ds.err{er:Int}(h:Ds F W tb Aa ca nv dv wv bs t)(hC:EA w W F)(h5:t.L.length<=5)(hb:Below W.heap.size W W')(he:t.D8 g=er)(hz:er≠0):dH w F W tb (t.DP g) (t.Fb g) (t.D8 g) (.returned (.tuple #[.slice none 0 0,.int .i64 er])) W':=by
 unfold DQ.DP DQ.Fb;rw[he,AC hz,AC hz];exact⟨none,0,rfl,AX _ _ _ _,F,hC.below hb,DN.below hC hb,_,_,_,_,_,_,h.below hC hb h5⟩
theorem Oi.fin(h:Oi w F W tb Aa ca nv dv bs t g t.L.length ov wr)(he:t.D8 g=0):dH w F W tb (t.DP g) (t.Fb g) (t.D8 g) (.returned (.tuple #[ov,.int .i64 0])) wr:=by
 obtain⟨F1,wv,h⟩:=h;have e1:t.mid g t.L.length=t.DP g:=by
  rw[DQ.ip t g _ AB];unfold DQ.DP;rw[AD he]
 have e2:t.Ho g t.L.length=t.Fb g:=by
  unfold DQ.Ho DQ.Fb;rw[AD he,Ap]
 have ho:=h.out;have ht:=h.Nj;rw[e2]at ho;rw[e1]at ht;rw[he];obtain⟨A,c,rfl⟩:=Cz ho;exact⟨A,c,rfl,ho,F1,h.Jj,h.gZ,_,_,_,_,_,_,ht⟩
theorem Oi.start(h:Ds F W tb Aa ca nv dv wv bs t)(hC:EA w W F)(h5:t.L.length<=5)(hb:Below W.heap.size W W'):Oi w F W tb Aa ca nv dv bs t g 0 (.slice none 0 0) W':=
 ⟨F,wv,hC.below hb,DN.below hC hb,by rw[DQ.cr];exact h.below hC hb h5,by unfold DQ.Ho;exact AX _ _ _ _,fun x hx=>by cases hx⟩
theorem Ds.cells(h:Ds F W tb Aa ca nv dv wv bs t):tb<W.heap.size/\W.cell? ⟨tb,0,none⟩=some (.slice Aa t.L.length ca)/\W.cell? ⟨tb,1,none⟩=some nv/\W.cell? ⟨tb,2,none⟩=some dv/\W.cell? ⟨tb,3,none⟩=some wv:=
 ⟨h.DC.1.lt,h.DC.1.cell 0,h.DC.1.cell 1,h.DC.1.cell 2,h.DC.1.cell 3⟩
theorem Ds.every(h:Ds F W tb Aa ca nv dv wv bs t)(hk:k<t.L.length):∃ba off,Aa=some ⟨ba,off,none⟩/\ba<W.heap.size/\W.cell? ⟨ba,off+k*5+2,none⟩=some (.int .i64 (Eb (t.L[k]'hk).1.c)):=by
 obtain⟨ba,off,e,hb,hc⟩:=h.all.1.U9 (by omega) (by decide);refine⟨ba,off,e,hb,?_⟩;have:=hc (k*5+2) (.int .i64 (Eb (t.L[k]'hk).1.c)) (by
  rw[P8 _ k 2 (by simpa using hk) (by decide)];simp[Ie])
 rw[<-Bv]at this;exact this
theorem X9:∀(l:List PM),(∀p∈l,Di p.1/\Hr g p=false)->FX g l<=100*l.length
 | [],_=>by simp[FX]
 |p::l,h=>by
  have h1:=X9 l (fun q hq=>h q (Am _ hq));obtain⟨h2,h3⟩:=h p (Ay ..);have h4:=gD h2 g;unfold Hr at h3;simp only[FX,AP];cases hd:p.2 with
  |true=>simp;omega
  |false=>
   have he:p.1.D8 g=0:=by simpa [hd] using h3
   unfold Dh.tkM at h4;rw[AD he]at h4;simp;omega
theorem Io(hg:Dt t)(hp:∀p∈t.L.take k,Hr g p=false):FX g (t.L.take k)<=500:=by
 have h1:=X9 (g:=g) (t.L.take k) (fun p h=>⟨hg.Fo p (Be h),hp p h⟩);have h2:(t.L.take k).length<=5:=AG (by rw[AV];exact Nat.min_le_right _ _) hg.Er;omega
theorem TE:(t.mid g k).way.length=t.way.length+FX g (t.L.take k):=by
 show(t.way++(t.L.take k).flatMap (Ic g)).length=_;rw[AN,QZ]
theorem iB(hg:Dt t)(hp:∀p∈t.L,Hr g p=false):(t.Ho g k).length<=40:=by
 have h1:=Y8 (f:=GX g) (t.L.take k) (fun p h=>Vd (hg.Fo p (Be h)) (hp p (Be h)));have h2:(t.L.take k).length<=5:=AG (by rw[AV];exact Nat.min_le_right _ _) hg.Er;unfold DQ.Ho;omega
theorem Sz.three{F2:Nat->Nat}{T:List ByteArray}{N:List Dm}{tv xv:Value}{L':List PM}{w3:World}(h:Sz w F W tb Aa ca nv dv bs t g k F2 wv ov tv xv T N w2 L')(Nk:w2.grownBy w3 wv.ownBlock):
 w3.ownsRow W.heap.size 173 3 ov (t.Ho g k).length (Da (t.Ho g k))/\w3.ownsRow 0 173 3 xv N.length (Da N)/\DJ w3 tb 213 #[.slice Aa L'.length ca,nv,dv,wv]/\W.heap.size<=w3.heap.size:=by
 have k3:Kept (fun x=>F2 x=5) w2 w3:=(AH _ _).grown Nk (fun x e=>.inl (h.Nj.way.2 x e));exact⟨k3.own h.out (fun x e hx=>by have:=h.oc x e;omega),k3.own h.nts (fun x e hx=>by have:=h.nc x e;omega),k3.DC h.Nj.DC.1 (fun hx=>by have:=h.Nj.DC.2;omega),AG h.gZ.kept.size Nk.size⟩
theorem Sz.four{F2:Nat->Nat}{T:List ByteArray}{N:List Dm}{tv xv:Value}{L':List PM}{w3 w4:World}(h:Sz w F W tb Aa ca nv dv bs t g k F2 wv ov tv xv T N w2 L')(Nk:w2.grownBy w3 wv.ownBlock)(RV:w3.grownBy w4 ov.ownBlock):
 DJ w4 tb 213 #[.slice Aa L'.length ca,nv,dv,wv]:=by
 obtain⟨h1,_,h2,_⟩:=h.three Nk;have k4:Kept (fun x=>ov.ownBlock=some x) w3 w4:=(AH _ _).grown RV (fun x e=>.inl e);exact k4.DC h2 (fun hx=>by have:=h.oc tb hx;have:=h.Nj.DC.2;omega)
theorem lF(h:Ds F W tb Aa ca nv dv wv bs t)(g:Int)(hg:g<1\/1000<g):
 Calls prog 119 #[.pointer (some ⟨tb,0,none⟩),.int .i64 g] W fun e W'=>e=.returned (.tuple #[.slice none 0 0,.int .i64 1])/\W=W':=by
 clear h;rcases hg with hg|hg
 ·go_in
  go_wp2
  go_ret2
  exact⟨rfl,rfl⟩
 ·have h1:1<=g:=by omega
  go_in;go_wp2
  go_ret2
  exact⟨rfl,rfl⟩
theorem qX(h:Ds F W tb Aa ca nv dv wv bs t)(hC:EA w W F)(hg:Dt t)(g:Int)(g1:1<=g)(g2:g<=1000):
 Calls prog 119 #[.pointer (some ⟨tb,0,none⟩),.int .i64 g] W (dH w F W tb (t.DP g) (t.Fb g) (t.D8 g)):=by
 obtain⟨in0,fr,nh,ro,d8⟩:=AO PJ;obtain⟨is0,his,AAC,AAF,AAH⟩:=AO LM;have h5:=hg.Er;have wG:=hg.way;have H:=I h;have HC:=I hC;have HG:=I hg;obtain⟨QX,b0,b1,b2,b3⟩:=h.cells;obtain⟨An,cn,Ad,cd,rfl,rfl⟩:=h.lens;obtain⟨Aw,cw,rfl⟩:=Cz h.way.1;have QE:=I (fun er W' (hb:Below W.heap.size W W') (he:t.D8 g=er) (hz:er≠0)=>h.err (w:=w) hC h5 hb he hz);have QS:=I (fun W' (hb:Below W.heap.size W W')=>Oi.start (w:=w) (g:=g) h hC h5 hb);have QF:=I (fun ov wr he (hk:Oi w F W tb Aa ca (.slice An t.L.length cn) (.slice Ad t.L.length cd) bs t g t.L.length ov wr)=>hk.fin he);generalize hQ:dH w F W tb (t.DP g) (t.Fb g) (t.D8 g)=Q at*
 clear hQ h hC hg;obtain⟨mf,tE⟩:∃mf:Nat->Nat,mf=fun k=>t.way.length+FX g (t.L.take k):=⟨_,rfl⟩
 have i6:=I (fun k=>congrFun tE k);have sr:t.way.length=mf 0:=by rw[tE];simp[FX]
 clear tE;have N8:decide (g<1)=false:=by rw[Bc];omega
 have GV:decide (1000<g)=false:=by rw[Bc];omega
 have Wn:decide (1<=g)=true:=by rw[ATg];omega
 have hn5:(t.L.length:Int)<=5:=by omega
 go_in;go_wp2_with fail
 go_loopw [6,32] (fun mv iv wr=>∃k:Nat,k<=t.L.length/\iv=.int .i64 (k:Int)/\mv=.int .i64 (mf k:Int)/\(∀p∈t.L.take k,Hr g p=false)/\Below W.heap.size W wr) (fun _ iv _=>t.L.length- (RowKit.intOf iv).toNat)
 case atStart=>exact⟨0,AM _,rfl,rfl,by simp,AA⟩
 case round=>
  obtain⟨k,hk,rfl,rfl,GN,DY⟩:=hrel;obtain⟨wo,rfl⟩:∃wo,wo=wr:=⟨_,rfl⟩;have GD:=I GN;have BW:=I DY;clear GN DY;have HO:=I (H.out.below HC.out BW.out h5);clear b0 b1 b2 b3;obtain⟨AGT,b0,b1,b2,b3⟩:=HO.out.cells;have KEEP:=I (show∀W',Below wo.heap.size wo W'->(∀hk:k<t.L.length,Hr g (t.L[k]'hk)=false)->k<t.L.length->∃k':Nat,k'<=t.L.length/\Value.int .i64 ((k:Int)+1)=.int .i64 (k':Int)/\Value.int .i64 (mf (k+1):Int)=.int .i64 (mf k':Int)/\(∀p∈t.L.take k',Hr g p=false)/\Below W.heap.size W W' from fun W' hb Fg DG=>
   ⟨k+1,by omega,by simp,rfl,fun p hp=>by
     rw[Af DG]at hp;rcases Au.1 hp with hp|hp
     ·exact GD.out p hp
     ·rw[Ai.1 hp];exact Fg DG,Below.C9 BW.out hb⟩)
  by_cases DG:k<t.L.length
  ·have hb:k<bs.length:=by rw[H.out.len];exact DG
   have mr:=I (show mf (k+1)=mf k+(if (t.L[k]'DG).2=true then 0 else (t.L[k]'DG).1.many g)by rw[i6.out,i6.out,TL g t.L k DG];omega);obtain⟨gn,uc,gd,cd',e1,e2,Hc,Jw,vV,pZ,Mm,La,-,c1,c2,c3⟩:=HO.out.at_ DG;simp only[Cf]at e1 e2;obtain⟨rfl,-,rfl⟩:=e1;obtain⟨rfl,-,rfl⟩:=e2;obtain⟨ba,off,rfl,tJ,cE⟩:=HO.out.every DG;unfold maxLen at Jw pZ;have vL:(0:Int)<=(k:Int):=by omega
   have oA:(k:Int)<(t.L.length:Int):=by omega
   have eI:=I (HG.out.Fo _ (AL DG));have HME:=I (AL DG);have Zn:=I (show∀W',Below wo.heap.size wo W'->Calls prog 178 #[.pointer (some ⟨bs[k]'hb,0,none⟩)] W' fun e w'=>e=.returned (.int .i64 (t.L[k]'DG).1.now)/\W'=w' from fun W' tT=>by
    obtain⟨_,_,_,_,_,hn⟩:=(HO.out.below (HC.out.below BW.out) tT h5).node k hb DG;exact v7 hn)
   have zw:=I (fun W' tT Fg=>KEEP.out W' tT Fg DG);clear KEEP;generalize bs[k]'hb=b at*;cases Mn:(t.L[k]'DG).2 with
   |true=>
    rw[Mn]at c2;have TY:=mr.out;rw[Mn]at TY;simp only[if_true,AW]at TY;have K3:=I (zw.out wo AA (fun _=>by unfold Hr;rw[Mn];rfl));rw[TY]at K3;clear Mn TY mr zw;go_wp2;exact⟨K3.out,by simp[RowKit.intOf];omega⟩
   |false=>
    rw[Mn]at c2;have TY:=mr.out;rw[Mn,AC (by decide)]at TY;have rc:=eI.out.Nm;have AJF:=eI.out.Ny;have xF:=eI.out.cfg;unfold Gj at xF;obtain⟨-,-,zq,Xu,-⟩:=xF;have HB:=I (show Hr g (t.L[k]'DG)=decide (1073741824<(t.L[k]'DG).1.now+g\/64<=g/Eb (t.L[k]'DG).1.c)from by
     unfold Hr;rw[Mn,VZ g1 g2];by_cases q:1073741824<(t.L[k]'DG).1.now+g\/64<=g/Eb (t.L[k]'DG).1.c
     ·rw[AD q];simp[q]
     ·rw[AC q];simp[q])
    have QB:=I (fun(hb:Hr g (t.L[k]'DG)=true)=>QE.out 2 wo BW.out (Xn g1 g2 HME.out hb) (by decide));unfold Dh.many at TY;have AAd:=I TY;clear TY mr Mn;generalize (t.L[k]'DG).1.now=nw at*;generalize Eb (t.L[k]'DG).1.c=ev at*;by_cases q1:1073741824<nw+g
    ·have Q1:=I (QB.out (by rw[HB.out,ATg];exact .inl q1))
     go_wp2_with fail
     refine(Zn.out _ AA).mono ?_;rintro e' w' ⟨rfl,rfl⟩;go_wp2;exact Q1.out
    by_cases q2:64<=g/ev
    ·have Q1:=I (QB.out (by rw[HB.out,ATg];exact .inr q2))
     have q1':nw+g<=1073741824:=by omega
     clear q1;go_wp2_with fail
     refine(Zn.out _ AA).mono ?_;rintro e' w' ⟨rfl,rfl⟩;go_wp2;exact Q1.out
    have q1':nw+g<=1073741824:=by omega
    have q2':g/ev<64:=by omega
    have hJ:Hr g (t.L[k]'DG)=false:=by rw[HB.out,Bc];omega
    have qM:=I hJ;clear q1 q2 hJ;go_wp2_with fail
    refine(Zn.out _ AA).mono ?_;rintro e' w' ⟨rfl,rfl⟩;go_wp2_with fail
    have AAn:0<=nw/ev:=AS7 rc (by omega);have AAU:nw/ev<=(nw+g)/ev:=ATf (by omega) (by omega);have AAB:(nw+g)/ev<=nw+g:=AS8 _ (by omega);have AH1:IntKind.i64.wrap (nw+g)=nw+g:=by rw[Aj];omega
    have AGO:(nw+g).tdiv ev=(nw+g)/ev:=Cw (by omega);have ANJ:nw.tdiv ev=nw/ev:=Cw rc;have PO:mf k<=1500:=by rw[i6.out];have:=Io HG.out GD.out;omega
    have zD:mf (k+1)<=1500:=by
     rw[i6.out];have:=Io (k:=k+1) HG.out (fun p hp=>by
      rw[Af DG]at hp;rcases Au.1 hp with hp|hp
      ·exact GD.out p hp
      ·rw[Ai.1 hp];exact qM.out)
     omega
    generalize (nw+g)/ev=qa at*;generalize nw/ev=qb at*;have TY:=AAd.out;have AGw:IntKind.i64.wrap qa=qa:=by rw[Aj];omega
    have AOE:IntKind.i64.wrap qb=qb:=by rw[Aj];omega
    have AGe:IntKind.i64.wrap (qa-qb)=qa-qb:=by rw[Aj];omega
    have AIq:IntKind.i64.wrap ((mf k:Int)+(qa-qb))=(mf (k+1):Int):=by rw[Aj];omega
    clear TY AAn AAU AAB PO zD
    go_quiet ((go_at_call 178;exact kV (Zn.out _ (Ba AA _))))
    have K3:=I (zw.out (wo.drewN nq) (Ba AA nq) (fun _=>qM.out));go_wp2;exact⟨K3.out,by simp[RowKit.intOf];omega⟩
  ·obtain rfl:k=t.L.length:=by omega
   have Gg:∀p∈t.L,Hr g p=false:=fun p hp=>GD.out p (by rw[Ap];exact hp);have o9:=i6.out t.L.length;rw[Ap]at o9;by_cases hf:1000<mf t.L.length
   ·have Q1:=I (QE.out 10 wo BW.out (Vp g1 g2 Gg (by rw[<-o9];exact hf)) (by decide))
    clear Gg o9;have sy:(1000:Int)<(mf t.L.length:Int):=by omega
    generalize mf t.L.length=mm at*;go_wp2;exact Q1.out
   ·have HE:=I (Z8 g1 g2 Gg (by rw[<-o9];exact hf))
    have T0:=I (QS.out wo BW.out);have sy:(mf t.L.length:Int)<=1000:=by omega
    have dF:=I Gg;clear Gg o9;generalize mf t.L.length=mm at*;go_wp2_with fail
    go_loopw [10,84] (fun ov iv wr=>∃(k:Nat)(o:Value),k<=t.L.length/\iv=.int .i64 (k:Int)/\o=ov/\Oi w F W tb Aa ca (.slice An t.L.length cn) (.slice Ad t.L.length cd) bs t g k o wr) (fun _ iv _=>t.L.length- (RowKit.intOf iv).toNat)
    case atStart=>exact⟨0,_,AM _,rfl,rfl,T0.out⟩
    case round=>
     obtain⟨k,ov,hk,rfl,rfl,oG⟩:=hrel;obtain⟨wp,rfl⟩:∃wp,wp=wr:=⟨_,rfl⟩;have TR:=I oG;obtain⟨F1,wv1,tO⟩:=oG;have TS:=I tO;obtain⟨Aw1,cw1,rfl⟩:=Cz TS.out.Nj.way.1;clear tO b0 b1 b2 b3 T0;obtain⟨AHS,b0,b1,b2,b3⟩:=TS.out.Nj.cells;by_cases DG:k<t.L.length
     ·have Tl:k<(t.mid g k).L.length:=by rw[DQ.Hg];exact DG
      have hb:k<bs.length:=by rw[H.out.len];exact DG
      have XD:=DQ.Vt t g k k DG AB;obtain⟨gn,uc,gd,cd',e1,e2,Hc,Jw,vV,pZ,Mm,La,-,c1,c2,c3⟩:=TS.out.Nj.at_ Tl;rw[DQ.Hg]at e1 e2 Hc vV;rw[XD]at c2;simp only[Cf]at e1 e2;obtain⟨rfl,-,rfl⟩:=e1;obtain⟨rfl,-,rfl⟩:=e2;unfold maxLen at Jw pZ;have vL:(0:Int)<=(k:Int):=by omega
      have oA:(k:Int)<(t.L.length:Int):=by omega
      have eI:=I (HG.out.Fo _ (AL DG));have HBF:=I (dF.out _ (AL DG));have Pn:=TS.out.Nj.node k hb Tl;rw[XD]at Pn;have kS:=I Pn;clear Pn XD;cases Mn:(t.L[k]'DG).2 with
      |true=>
       rw[Mn]at c2;have K3:=I (TR.out.skip DG Mn);clear Mn;go_wp2;exact⟨⟨k+1,_,by omega,by simp,rfl,K3.out⟩,by simp[RowKit.intOf];omega⟩
      |false=>
       rw[Mn]at c2;have wH:=I (show(t.L[k]'DG).1.D8 g=0 by have:=HBF.out;unfold Hr at this;simpa [Mn] using this);have Ua:=I Mn;clear Mn;have T6:=I (show Calls prog 179 #[.pointer (some ⟨bs[k]'hb,0,none⟩),.int .i64 g] wp (fun e w'=>∃A1 c1 A2 c2,e=.returned (.tuple #[.slice A1 ((t.L[k]'DG).1.many g) c1,.slice A2 ((t.L[k]'DG).1.DP g).notes.length c2,.int .i64 0])/\w'.ownsRow wp.heap.size 9 1 (.slice A1 ((t.L[k]'DG).1.many g) c1) ((t.L[k]'DG).1.many g) (C7 (Ff (t.L[k]'DG).1.c (t.L[k]'DG).1.seq ((t.L[k]'DG).1.many g)))/\
        Sz w F W tb Aa ca (.slice (some ⟨gn,0,none⟩) t.L.length cn) (.slice (some ⟨gd,0,none⟩) t.L.length cd) bs t g k (DM F1 wp w' (10+k)) (.slice Aw1 (t.mid g k).way.length cw1) ov (.slice A1 ((t.L[k]'DG).1.many g) c1) (.slice A2 ((t.L[k]'DG).1.DP g).notes.length c2) (Ff (t.L[k]'DG).1.c (t.L[k]'DG).1.seq ((t.L[k]'DG).1.many g)) ((t.L[k]'DG).1.DP g).notes w' ((t.mid g k).L.set k (((t.L[k]'DG).1.DP g).tell,false)))from by
        obtain⟨_,_,_,_,_,hn⟩:=kS.out;refine(xG hn eI.out g wH.out).mono fun e w' hh=>?_;obtain⟨A1,c1,A2,c2,k1,k2,k3,k4,k5⟩:=hh;exact⟨A1,c1,A2,c2,k1,k2,TS.out.node h5 DG Ua.out (by rw[ME];exact k2) k3 (C0.at_ (C0.grow k4)) k5 rfl⟩)
       have HMY:=I (show(t.L[k]'DG).1.many g<=100 by have:=gD eI.out g;unfold Dh.tkM at this;rw[AD wH.out]at this;exact this);have yn:=I (show((t.L[k]'DG).1.DP g).notes.length<=8 from Mi (eI.out.DP wH.out));have YE:=I (show(t.mid g k).way.length<=1500 by rw[TE];have:=Io (k:=k) HG.out (fun p hp=>dF.out p (Be hp));omega);have HML:=I (iB (k:=k) HG.out dF.out);have HE1:=I (show Ff (t.L[k]'DG).1.c (t.L[k]'DG).1.seq ((t.L[k]'DG).1.many g)=Ic g (t.L[k]'DG)by unfold Ic;rw[AC (by rw[Ua.out];decide)]);have HE2:=I (show((t.L[k]'DG).1.DP g).notes=GX g (t.L[k]'DG)by unfold GX;rw[AC (by rw[Ua.out];decide)])
       have HE3:=I (show(((t.L[k]'DG).1.DP g).tell,false)=KI g (t.L[k]'DG)by unfold KI;rw[AC (by rw[Ua.out];decide)]);have HE4:=I (ME (t.L[k]'DG).1.c (t.L[k]'DG).1.seq ((t.L[k]'DG).1.many g));clear kS wH HBF TR;generalize bs[k]'hb=b at*;generalize Ff (t.L[k]'DG).1.c (t.L[k]'DG).1.seq ((t.L[k]'DG).1.many g)=TT at*;generalize ((t.L[k]'DG).1.DP g).notes=NN at*;generalize ((t.L[k]'DG).1.DP g).tell=s1 at*;generalize (t.L[k]'DG).1.many g=mm1 at*;go_wp2_with fail
       refine T6.out.mono ?_;rintro e' w2 ⟨A1,d1,A2,d2,rfl,Et,Tf⟩;have TX:=I (Reads.DR Et);have MD:=I Tf;obtain⟨AIc,q0,q1,q2,q3⟩:=Tf.Nj.cells;clear Et Tf c1 c2 c3 b0 b1 b2 b3;go_wp2_with (at_builtin;refine Dd _ rfl _ _ 31 rfl 0 9 is0 (.string ByteArray.empty) 1 16 underlying31 his AAC AAF AAH rfl (by decide) _ (t.mid g k).way.length (C7 (t.mid g k).way) rfl MD.out.Nj.way.1 w2.heap.size A1 mm1 d1 (C7 TT) rfl TX.out (Iu TT) ?c1 ?c2 (AM _) ?_)
       case c1=>have:=YE.out;have:=HMY.out;unfold maxLen;omega
       case c2=>have:=YE.out;have:=HMY.out;omega
       intro wv3 w3 JN Nk DT;obtain⟨Aw3,cw3,rfl⟩:=Cz JN;have O3:=I JN;have G3:=I Nk;have B3:=I DT;have T3:=I (MD.out.three Nk);have NX:=I (Reads.DR T3.out.2.1);clear JN Nk DT q0 q1 q2 q3;go_wp2_with (at_builtin;refine Dd _ rfl _ _ 112 rfl W.heap.size 173 in0 (.agg #[.string ByteArray.empty,.int .i64 0,.bool false]) 3 32 underlying112 fr nh ro d8 rfl (by decide) _ (t.Ho g k).length (Da (t.Ho g k)) rfl T3.out.1 w3.heap.size A2 NN.length d2 (Da NN) rfl NX.out (In NN) ?c3 ?c4 T3.out.2.2.2 ?_)
       case c3=>have:=HML.out;have:=yn.out;unfold maxLen;omega
       case c4=>have:=HML.out;have:=yn.out;omega
       intro ov4 w4 Tp RV EL;have Df:=I (MD.out.app h5 DG (by rw[HE4.out];exact O3.out) G3.out B3.out Tp RV EL HE1.out HE2.out HE3.out);have wU:=MD.out.four G3.out RV;have AIZ:=wU.lt;have z3:=wU.cell 3;have zf:=wU.frozen 3;simp at z3;clear Tp RV EL wU;go_wp2;exact⟨⟨k+1,_,by omega,by simp,rfl,Df.out⟩,by simp[RowKit.intOf];omega⟩
     ·obtain rfl:k=t.L.length:=by omega
      have Q1:=I (QF.out ov wp HE.out TR.out);go_wp2;exact Q1.out
theorem lE(h:Ds F W tb Aa ca nv dv wv bs t)(hC:EA w W F)(hg:Dt t)(g:Int):
 Calls prog 119 #[.pointer (some ⟨tb,0,none⟩),.int .i64 g] W (dH w F W tb (t.DP g) (t.Fb g) (t.D8 g)):=by
 by_cases ha:g<1\/1000<g
 ·have he:t.D8 g=1:=by unfold DQ.D8;rw[AD ha]
  exact(lF h g ha).mono fun e W' ⟨k1,k2⟩=>by
   subst k1 k2;exact h.err hC hg.Er AA he (by decide)
 ·exact qX h hC hg g (by omega) (by omega)
end
def bQ(F:Nat->Nat)(W:World)(tb:Nat)(t:DQ):Prop:=∃db nv wv bs,Dj F W tb db nv wv bs t
def J5(w:World)(F:Nat->Nat)(W:World)(tb:Nat)(t':DQ)(W':World):Prop:=∃F',EA w W' F'/\DN Fl F W F' W'/\bQ F' W' tb t'
def RwE(w:World)(F:Nat->Nat)(W:World)(tb:Nat)(t':DQ)(er:Int)(e:Ending)(W':World):Prop:=e=.returned (.int .i64 er)/\J5 w F W tb t' W'
def kL(w:World)(F:Nat->Nat)(W:World)(tb:Nat)(t':DQ)(N:List Dm)(er:Int)(e:Ending)(W':World):Prop:=
 ∃A c,e=.returned (.tuple #[.slice A N.length c,.int .i64 er])/\W'.ownsRow W.heap.size 173 3 (.slice A N.length c) N.length (Da N)/\J5 w F W tb t' W'
theorem Vg{L:List PM}{k:Nat}{s:Dh}(hk:k<L.length):Jl (L.set k (s,true)) (.int .i64 (k:Int))=true:=by
 rw[a8 (by simpa using hk)];simp
theorem TW{L:List PM}{k:Nat}{s:Dh}(q:Lit)(hq:q≠ .int .i64 (k:Int)):Jl (L.set k (s,true)) q=Jl L q:=by
 cases q with
 |int κ i=>
  cases κ;case i64=>
   unfold Jl;by_cases h0:0<=i
   ·have GI:k≠i.toNat:=fun e=>hq (by rw[e];congr 1;omega)
    simp only[ATJ,List.getElem?_set_ne GI]
   ·simp[h0]
  all_goals rfl
 |_=>rfl
section
variable{w W W' W2:World}{F F':Nat->Nat}{tb db:Nat}{nv wv:Value}{bs:List Nat}{t t':DQ}
theorem Dj.xz(h:Dj F W tb db nv wv bs t)(hC:EA w W F):J5 w F W tb t W:=⟨F,hC,.refl hC,_,_,_,_,h⟩
theorem J5.from(hC:EA w W F)(hb:Below W.heap.size W W')(h:J5 w F W' tb t' W2):J5 w F W tb t' W2:=by
 obtain⟨F',h1,h2,h3⟩:=h;exact⟨F',h1,(DN.below hC hb).trans h2,h3⟩
theorem kL.from{N:List Dm}{er:Int}{e:Ending}(hC:EA w W F)(hb:Below W.heap.size W W')(h:kL w F W' tb t' N er e W2):kL w F W tb t' N er e W2:=by
 obtain⟨A,c,h1,h2,h3⟩:=h;exact⟨A,c,h1,GL h2 hb.size,h3.from hC hb⟩
theorem Dj.at_(h:Dj F W tb db nv wv bs t){k:Nat}(hk:k<t.L.length):∃gn cn,nv=.slice (some ⟨gn,0,none⟩) t.L.length cn/\t.L.length<=cn/\cn<=maxLen/\gn<W.heap.size/\F gn=7/\
 W.cell? ⟨gn,k,none⟩=some (.pointer (some ⟨bs[k]'(by rw[h.len];exact hk),0,none⟩)):=by
 obtain⟨gn,cn,rfl,-,Mm,Hc,Jw,Pj⟩:=Eu h.Jp.1 (by omega);have hb:k<bs.length:=by rw[h.len];exact hk
 exact⟨gn,cn,rfl,Hc,Jw,Mm,h.Jp.2 gn rfl,Pj k _ (by simp[IQ,hb])⟩
theorem Dj.cells(h:Dj F W tb db nv wv bs t):tb<W.heap.size/\W.cell? ⟨tb,0,none⟩=some nv/\W.cell? ⟨tb,1,none⟩=some (.map (some db))/\W.cell? ⟨tb,2,none⟩=some wv:=
 ⟨h.DC.1.lt,h.DC.1.cell 0,h.DC.1.cell 1,h.DC.1.cell 2⟩
theorem Dj.look(h:Dj F W tb db nv wv bs t){k:Nat}(hk:k<t.L.length)(h5:t.L.length<=5):(Instr.lookup 118 (.map (some db)) (.int .i64 (k:Int)) false).run prog W=.ok (.bool (t.L[k]'hk).2) W:=by
 have hw:(Lit.int .i64 (k:Int)).wf=true:=by
  have:=RowKit.wrap64_wf (k:Int)
  rwa [UN k (by omega)]at this
 have:=h.Qk.look (t:=118) (Go.Maps.int_keyed underlying3) underlying118 underlying4 (SX _) (Go.Maps.keyOf_int_mk underlying3 hw);rw[a8 hk]at this;exact this
theorem Gr(h:Dj F W tb db nv wv bs t)(h5:t.L.length<=5)(i:Int):
 Calls prog 64 #[.pointer (some ⟨tb,0,none⟩),.int .i64 i] W fun e W'=>e=.returned (.bool (t.FH i))/\W=W':=by
 obtain⟨QX,b0,b1,b2⟩:=h.cells;obtain⟨An,cn,rfl⟩:=Cz h.Jp.1;have hn5:(t.L.length:Int)<=5:=by omega
 cases oo:wi i 0 ((t.L.length:Int)- 1)with
 |false=>
  have hl:t.FH i=false:=by
   unfold DQ.FH;have:=Fc.1 oo;rcases this with e|e
   ·simp;intro h0;omega
   ·simp;intro _ h0;omega
  rw[hl];have Rn:=I oo;clear h hl oo;generalize t.L.length=n at*;go_in;go_wp2_with fail
  refine(Dv _ _ _ false Rn.out _).mono ?_;rintro e' w' ⟨rfl,rfl⟩;go_wp2;go_ret;exact⟨rfl,rfl⟩
 |true=>
  obtain⟨h0,h1⟩:=DW.1 oo;obtain⟨k,rfl⟩:=Bo h0;have hk:k<t.L.length:=by omega
  have Na:=h.look hk h5;rw[Oa hk];have Rn:=I oo;generalize (t.L[k]'hk).2=d at*;clear h oo;generalize t.L.length=n at*;go_in;go_wp2_with fail
  refine(Dv _ _ _ true Rn.out _).mono ?_;rintro e' w' ⟨rfl,rfl⟩;go_wp2;go_ret;exact⟨rfl,rfl⟩
theorem Dj.stop{k:Nat}(h:Dj F W tb db nv wv bs t)(hC:EA w W F)(h5:t.L.length<=5)(hk:k<t.L.length)(hd:(t.L[k]'hk).2=false)(hg:W.grownBy W' (some db))(hm:EM prog 3 4 W' db (JJ t.L+1) (Jl (t.L.set k ((t.L[k]'hk).1,true)))):
 J5 w F W tb ⟨t.L.set k ((t.L[k]'hk).1,true),t.way⟩ W':=by
 obtain⟨m,hC'⟩:=DN.grown hC hg h.YI (by decide);refine⟨F,hC',m.mono (fun c hc=>.inl (by omega)),db,nv,wv,bs,⟨m.DC hC (by decide) (by decide) h.DC,?_,?_,h.YI,m.row hC (by decide) (by decide) h.way,by simpa using h.len,fun j hj Mk=>?_⟩⟩
 ·simpa using m.row hC (c':=7) (by decide) (by decide) h.Jp
 ·show EM _ _ _ _ _ (JJ (t.L.set k ((t.L[k]'hk).1,true))) _
  rw[Xk t.L k _ hk hd];exact hm
 ·have Py:j<t.L.length:=by simpa using Mk
  have:FJ (fun x=>F x=20+j) W' (bs[j]'hj) (t.L[j]'Py).1:=m.hold hC (c':=20+j) (by omega) (by omega) (h.node j hj Py);by_cases e:j=k
  ·subst e
   simpa using this
  ·simpa [CJ,Ne.symm e] using this
theorem pV(h:Dj F W tb db nv wv bs t)(h5:t.L.length<=5)(i:Int)(hl:t.FH i=false):
 Calls prog 63 #[.pointer (some ⟨tb,0,none⟩),.int .i64 i] W fun e W'=>e=.returned (.int .i64 4)/\W=W':=by
 have Ly:=I (Gr h h5 i);rw[hl]at Ly;clear h hl;go_in;go_wp2_with fail
 refine Ly.out.mono ?_;rintro e' w' ⟨rfl,rfl⟩;go_wp2;go_ret;exact⟨rfl,rfl⟩
theorem oT(h:Dj F W tb db nv wv bs t)(hC:EA w W F)(h5:t.L.length<=5)(k:Nat)(hk:k<t.L.length)(hd:(t.L[k]'hk).2=false):
 Calls prog 63 #[.pointer (some ⟨tb,0,none⟩),.int .i64 (k:Int)] W fun e W'=>e=.returned (.int .i64 0)/\J5 w F W tb ⟨t.L.set k ((t.L[k]'hk).1,true),t.way⟩ W':=by
 have Ly:=I (Gr h h5 (k:Int));rw[Oa hk,hd]at Ly;have SH:=I (show Calls prog 64 #[.pointer (some ⟨tb,0,none⟩),.int .i64 (k:Int)] W fun e W'=>e=.returned (.bool true)/\W=W' from Ly.out);obtain⟨QX,b0,b1,b2⟩:=h.cells;have GB:=I (fun W' hg hm=>h.stop (W':=W') hC h5 hk hd hg hm);have HD:=I h.Qk;have hw:(Lit.int .i64 (k:Int)).wf=true:=by
  have:=RowKit.wrap64_wf (k:Int)
  rwa [UN k (by omega)]at this
 have HKY:=I (Go.Maps.keyOf_int_mk (P:=prog) underlying3 hw);have zi:=I (Vg (s:=(t.L[k]'hk).1) hk);have Rp:=I (fun q hq=>TW (L:=t.L) (k:=k) (s:=(t.L[k]'hk).1) q hq);have vq:=I (show JJ t.L<maxLen by have:=cf t.L;unfold maxLen;omega);generalize t.L.set k ((t.L[k]'hk).1,true)=L2 at*;clear h hd Ly hw;go_in;go_wp2_with fail
 refine SH.out.mono ?_;rintro e' w' ⟨rfl,rfl⟩;go_wp2_with (at_mapUpdate;refine MG _ rfl _ _ _ 118 rfl 3 4 (Go.Maps.int_keyed underlying3) underlying118 underlying4 db (JJ t.L) (Jl t.L) rfl HD.out vq.out (.int .i64 (k:Int)) (.int .i64 (k:Int)) true rfl rfl HKY.out (Jl L2) zi.out Rp.out ?_;intro w3 nu Nk;have Df:=I (GB.out w3 Nk nu);clear nu Nk)
 go_ret;exact⟨rfl,Df.out⟩
theorem lP(h:Dj F W tb db nv wv bs t)(hC:EA w W F)(h5:t.L.length<=5)(i:Int):
 Calls prog 63 #[.pointer (some ⟨tb,0,none⟩),.int .i64 i] W (RwE w F W tb (t.Ey i) (t.KB i)):=by
 unfold DQ.Ey DQ.KB;by_cases hl:t.FH i=true
 ·rw[AD hl,AD hl]
  obtain⟨k,rfl,hk,hd⟩:=Fu hl;rw[DQ.JS hk];exact oT h hC h5 k hk hd
 ·rw[AC hl,AC hl]
  exact(pV h h5 i (by simpa using hl)).mono fun e W' ⟨k1,k2⟩=>⟨k1,k2▸h.xz hC⟩
theorem Dj.pT{k:Nat}{s1:Dh}{N:List Dm}{er:Int}{e:Ending}(h:Dj F W tb db nv wv bs t)(hC:EA w W F)(h5:t.L.length<=5)(hk:k<t.L.length)(hd:(t.L[k]'hk).2=false)
 (hr:Iw (fun x=>F x=20+k) (bs[k]'(by rw[h.len];exact hk)) s1 N er W e W'):kL w F W tb (t.node k s1) N er e W':=by
 obtain⟨A,c,rfl,ho,hn,MR⟩:=hr;exact⟨A,c,rfl,ho,_,hC.DM (by omega) MR,(DN.DM hC MR).mono (fun c hc=>.inr (by omega)),_,_,_,_,h.Pe hC hk MR hn hd.symm⟩
theorem kM(h:Dj F W tb db nv wv bs t)(h5:t.L.length<=5)(hm:t.way.length<=1000)(i z:Int)(hi:(t.under i&&t.FH z)=false):
 Calls prog 61 #[.pointer (some ⟨tb,0,none⟩),.int .i64 i,.int .i64 z] W fun e W'=>e=.returned (.tuple #[.slice none 0 0,.int .i64 4])/\W=W':=by
 have Ly:=I (Gr h h5 z);obtain⟨QX,b0,b1,b2⟩:=h.cells;obtain⟨Aw,cw,rfl⟩:=Cz h.way.1;have dG:(t.way.length:Int)<=1000:=by omega
 cases hu:t.under i with
 |false=>
  have hw:wi i 0 ((t.way.length:Int)- 1)=false:=by
   rw[Fc];rcases L5 hu with e|e
   ·exact .inl e
   ·exact .inr (by omega)
  have Rn:=I hw;clear h hu hi hw;generalize t.way.length=m at*;go_in;go_wp2_with fail
  refine(Dv _ _ _ false Rn.out _).mono ?_;rintro e' w' ⟨rfl,rfl⟩;go_wp2
  go_ret2
  exact⟨rfl,rfl⟩
 |true=>
  have hl:t.FH z=false:=by simpa [hu] using hi
  have hw:wi i 0 ((t.way.length:Int)- 1)=true:=by
   obtain⟨j,rfl,hj,-⟩:=JY hu;rw[DW];omega
  rw[hl]at Ly;have Rn:=I hw;clear h hu hi hw hl;generalize t.way.length=m at*;go_in;go_wp2_with fail
  refine(Dv _ _ _ true Rn.out _).mono ?_;rintro e' w' ⟨rfl,rfl⟩;go_wp2_with fail
  refine Ly.out.mono ?_;rintro e' w' ⟨rfl,rfl⟩;go_wp2
  go_ret2
  exact⟨rfl,rfl⟩
theorem Dj.word(h:Dj F W tb db nv wv bs t){i:Nat}(hi:i<t.way.length):∃gw cw,wv=.slice (some ⟨gw,0,none⟩) t.way.length cw/\t.way.length<=cw/\cw<=maxLen/\gw<W.heap.size/\F gw=9/\W.cell? ⟨gw,i,none⟩=some (.string (t.way[i]'hi)):=by
 obtain⟨gw,cw,rfl,-,SS,h1,h2,hc⟩:=Eu h.way.1 (by omega);exact⟨gw,cw,rfl,h1,h2,SS,h.way.2 gw rfl,hc i _ (by simp[C7,hi])⟩
theorem lO(h:Dj F W tb db nv wv bs t)(hC:EA w W F)(h5:t.L.length<=5)(hm:t.way.length<=1000)(k:Nat)(hk:k<t.L.length)(hd:(t.L[k]'hk).2=false)(hg:Di (t.L[k]'hk).1)(i:Nat)(hi:i<t.way.length):
 Calls prog 61 #[.pointer (some ⟨tb,0,none⟩),.int .i64 (i:Int),.int .i64 (k:Int)] W (kL w F W tb (t.node k ((t.L[k]'hk).1.heard (t.way[i]'hi))) ((t.L[k]'hk).1.J8 (t.way[i]'hi)) ((t.L[k]'hk).1.Iy (t.way[i]'hi))):=by
 have Ly:=I (Gr h h5 (k:Int));rw[Oa hk,hd]at Ly;have SH:=I (show Calls prog 64 #[.pointer (some ⟨tb,0,none⟩),.int .i64 (k:Int)] W fun e W'=>e=.returned (.bool true)/\W=W' from Ly.out);obtain⟨QX,b0,b1,b2⟩:=h.cells;have hb:k<bs.length:=by rw[h.len];exact hk
 have HH:=I (show∀W1,Below W.heap.size W W1->∀e W',Iw (fun x=>F x=20+k) (bs[k]'hb) ((t.L[k]'hk).1.heard (t.way[i]'hi)) ((t.L[k]'hk).1.J8 (t.way[i]'hi)) ((t.L[k]'hk).1.Iy (t.way[i]'hi)) W1 e W'->kL w F W tb (t.node k ((t.L[k]'hk).1.heard (t.way[i]'hi))) ((t.L[k]'hk).1.J8 (t.way[i]'hi)) ((t.L[k]'hk).1.Iy (t.way[i]'hi)) e W' from fun W1 C6 e W' hr=>((h.below hC C6 h5).pT (hC.below C6) h5 hk hd hr).from hC C6);have HL:=I (show∀W1,Below W.heap.size W W1->Calls prog 145 #[.pointer (some ⟨bs[k]'hb,0,none⟩),.string (t.way[i]'hi)] W1 (Iw (fun x=>F x=20+k) (bs[k]'hb) ((t.L[k]'hk).1.heard (t.way[i]'hi)) ((t.L[k]'hk).1.J8 (t.way[i]'hi)) ((t.L[k]'hk).1.Iy (t.way[i]'hi)) W1)from fun W1 C6=>by
  obtain⟨_,_,_,_,_,hn⟩:=(h.below hC C6 h5).node k hb hk;exact lM hn hg _)
 obtain⟨gn,cn,rfl,Hc,Jw,Mm,hnF,c1⟩:=h.at_ hk;obtain⟨gw,cw,rfl,tL,ZU,SS,hfw,xp⟩:=h.word hi;have htF:=h.DC.2;unfold maxLen at Jw ZU;have HS:=I (show∀w',Kept (fun x=>F x=20+k) W w'->(w'.cell? ⟨tb,0,none⟩=some (.slice (some ⟨gn,0,none⟩) t.L.length cn)/\w'.cell? ⟨tb,2,none⟩=some (.slice (some ⟨gw,0,none⟩) t.way.length cw)/\w'.cell? ⟨gn,k,none⟩=some (.pointer (some ⟨bs[k]'hb,0,none⟩))/\w'.cell? ⟨gw,i,none⟩=some (.string (t.way[i]'hi)))from fun w' RO=>
  ⟨RO.cell b0 (fun e=>by have:F tb=20+k:=e;omega),RO.cell b2 (fun e=>by have:F tb=20+k:=e;omega),RO.cell c1 (fun e=>by have:F gn=20+k:=e;omega),RO.cell xp (fun e=>by have:F gw=20+k:=e;omega)⟩)
 have Rn:=I (show wi (i:Int) 0 ((t.way.length:Int)- 1)=true by rw[DW];omega);generalize hQ:kL w F W tb (t.node k ((t.L[k]'hk).1.heard (t.way[i]'hi))) ((t.L[k]'hk).1.J8 (t.way[i]'hi)) ((t.L[k]'hk).1.Iy (t.way[i]'hi))=Q at*;clear hQ Ly;generalize bs[k]'hb=b at*;clear h hd;generalize t.way[i]'hi=x at*;have vL:(0:Int)<=(k:Int):=by omega
 have oA:(k:Int)<(t.L.length:Int):=by omega
 have ii0:(0:Int)<=(i:Int):=by omega
 have ii1:(i:Int)<(t.way.length:Int):=by omega
 have dG:(t.way.length:Int)<=1000:=by omega
 go_in;go_wp2_with fail
 refine(Dv _ _ _ true Rn.out _).mono ?_;rintro e' w' ⟨rfl,rfl⟩;go_wp2_with fail
 refine SH.out.mono ?_;rintro e' w' ⟨rfl,rfl⟩;go_wp2_with fail
 go_region_held3 (fun w'=>w'.cell? ⟨tb,0,none⟩=some (.slice (some ⟨gn,0,none⟩) t.L.length cn)/\w'.cell? ⟨tb,2,none⟩=some (.slice (some ⟨gw,0,none⟩) t.way.length cw)/\w'.cell? ⟨gn,k,none⟩=some (.pointer (some ⟨b,0,none⟩))/\w'.cell? ⟨gw,i,none⟩=some (.string x))
  ((refine HS.out _ ?_;first|(with_reducible exact Im)|(with_reducible exact AH _ _)|(with_reducible exact(AH _ _).drew)))
  ((go_at_call 145;(with_reducible refine(HL.out _ ?ia).mono ?_);(case ia=>first|(with_reducible exact AA)|(with_reducible exact AA.drew));intro e' w2 hr;have H2:=I (HH.out _ (by first|(with_reducible exact AA)|(with_reducible exact AA.drew)) _ _ hr);have Im:Kept (fun x=>F x=20+k) W w2:=(by obtain⟨_,_,_,_,_,XA⟩:=hr;first|(with_reducible exact XA)|exact Kept.trans (AH _ _).drew XA);obtain⟨A2,c2',rfl,-⟩:=hr))
 all_goals
  clear Im;go_wp2;exact H2.out
theorem eg(h:Dj F W tb db nv wv bs t)(hC:EA w W F)(hg:Dt t)(i z:Int):
 Calls prog 61 #[.pointer (some ⟨tb,0,none⟩),.int .i64 i,.int .i64 z] W (kL w F W tb (t.brought i z) (t.Ge i z) (t.Ha i z)):=by
 unfold DQ.brought DQ.Ge DQ.Ha;by_cases hl:(t.under i&&t.FH z)=true
 ·rw[AD hl,AD hl,AD hl]
  simp only[Bf]at hl;obtain⟨j,rfl,hj,hw⟩:=JY hl.1;obtain⟨k,rfl,hk,hd⟩:=Fu hl.2;rw[DQ.JS hk,hw];exact lO h hC hg.Er hg.way k hk hd (hg.Fo _ (AL hk)) j hj
 ·rw[AC hl,AC hl,AC hl]
  exact(kM h hg.Er hg.way i z (by simpa using hl)).mono fun e W' ⟨k1,k2⟩=>⟨none,0,k1,AX _ _ _ _,k2▸h.xz hC⟩
