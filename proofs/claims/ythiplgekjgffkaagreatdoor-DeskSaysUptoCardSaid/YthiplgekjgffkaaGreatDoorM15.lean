/- slices of the package sl -/
import Derived.Test.YthiplgekjgffkaaGreatDoorM09
import Derived.Lib.AppendZerosOnto
import Derived.Lib.Overlaps
import Derived.Deep.DeepCutAuto
set_option maxRecDepth 100000
set_option maxHeartbeats 99000000
set_option linter.all false
namespace Go.Proofs.YthiplgekjgffkaaGreatDoor
def AUO:=@Go.Lib.wpList_append_run
open Go.Proofs.Tryz
open Go.RowKit Go.Lib
theorem Kl:(Tryz.prog.info? 187).map (fun i=>(i.zero,i.size,i.bytes))=some (some (.agg #[.string ByteArray.empty,.int .i64 0,.int .i64 0,.int .i64 0,.int .i64 0,.slice none 0 0,.int .i64 0]),7,80):=by kernel_rfl
def AES(n:Nat)(xs:List Value)(w:World)(e:Ending)(w':World):Prop:=∃A c,e=.returned (.slice A n c)/\w'.ownsRow w.heap.size 187 7 (.slice A n c) n xs/\Below w.heap.size w w'
theorem nJ(n:Nat)(hm:n<=100000)(w:World):Calls prog 259 #[.slice none 0 0,.int .i64 n] w (AES 0 [] w):=by
 obtain⟨i0,hi,Fq,FZ,Fe⟩:=AO Kl;rcases Ac n with h|h
 ·subst h
  go_in;go_wp2;go_ret;exact⟨none,0,rfl,AX _ _ _ _,AA⟩
 ·have J0:0<(n:Int):=by omega
  have uU:∀ty,(Builtin.append_ #[167,3] ty #[.slice none 0 0,.int .i64 (n:Int)]).run prog w=_:=fun ty=>
   run_append_nil_zeros w 167 3 ty 187 i0 _ .i64 .i64 underlying167 underlying3 hi Fq n h (by rw[FZ];decide) (by omega) (by rw[Fe];omega)
  have LU:=grownCap_ge w n 0 187;have hle:=AUN w n 0 187 (by unfold maxLen;omega);generalize grownCap w n 0 187=G at*;have hO:(w.drew.alloc (.cells (Builtin.zeroCells (Value.cells (.agg #[.string ByteArray.empty,.int .i64 0,.int .i64 0,.int .i64 0,.int .i64 0,.slice none 0 0,.int .i64 0])) n++Builtin.zeroCells (Value.cells (.agg #[.string ByteArray.empty,.int .i64 0,.int .i64 0,.int .i64 0,.int .i64 0,.slice none 0 0,.int .i64 0])) (G-n)) 187)).ownsRow w.heap.size 187 7 (.slice (some ⟨w.heap.size,0,none⟩) 0 G) 0 []:=
   World.ownsRow_made w.drew _ G AB hle (by simp only[Array.size_append,ATw];rw[show(Value.cells (.agg #[.string ByteArray.empty,.int .i64 0,.int .i64 0,.int .i64 0,.int .i64 0,.slice none 0 0,.int .i64 0])).size=7 from rfl];omega)
  have HO:=I hO;clear hO;unfold maxLen at hle;go_in;go_wp2_with (at_builtin;refine AUO _ rfl _ _ _ _ rfl _ _ rfl rfl _ _ (uU _) ?_)
  all_goals (go_ret;exact⟨_,_,rfl,HO.out,AA.drew.alloc AB _⟩)
abbrev kr:=Option Addr×Nat×Nat×List Value
def ABa(s:kr):Value:=.slice s.1 s.2.1 s.2.2.1
def Me(ss:List kr):Nat:=(ss.map (·.2.1)).sum
theorem VK(ss:List kr)(k:Nat)(h:k<ss.length):Me (ss.take (k+1))=Me (ss.take k)+(ss[k]'h).2.1:=by
 unfold Me;rw[Af h,BP,List.sum_append];simp
theorem Zi:∀(ss:List kr)(m:Nat),(∀s∈ss,s.2.1<=m)->Me ss<=ss.length*m
 | [],m,_=>by simp[Me]
 |s::ss,m,h=>by
  have:=Zi ss m (fun x hx=>h x (Am _ hx));have h1:=h s (by simp);unfold Me at*;simp only[CN,List.sum_cons,AP,Cp];omega
theorem d7(ss:List kr)(B bs:Nat)(hl:ss.length<=4)(w:World)(YJ:∀s∈ss,Reads w B 7 s.1 s.2.1 s.2.2.2/\(∀u∈s.2.2.2,u.oneCell'=true)/\s.2.1<=1000)(hB:B<=w.heap.size)
 (hb:DJ w bs 167 (ss.map ABa).toArray) (kk:Nat) (XA:kk=ss.length) (nn:Nat) (hnn:Me ss=nn) (xs:List Value) (gP:ss.flatMap (·.2.2.2)=xs):
 Calls prog 225 #[.slice (some ⟨bs,0,none⟩) kk kk] w (AES nn xs w):=by
 obtain⟨i0,hi,Fq,FZ,Fe⟩:=AO Kl;have HSS:=I YJ;have HB:=I hb;have FK:=I hB;have HK:=I XA;have HX:=I gP;have Gg:∀k,Me (ss.take k)<=4000:=fun k=>by
  have h1:=Zi (ss.take k) 1000 (fun s hs=>(YJ s (Be hs)).2.2);have h2:(ss.take k).length<=4:=AG (List.length_take_le' ..) hl;omega
 have YM:=I Gg;have hnb:nn<=4000:=by have:=Gg ss.length;rw[AY AB,hnn]at this;exact this
 have HN:=I hnn;have p0:=hb.lt;have ES:kk<=4:=by omega
 clear YJ hb hB XA gP Gg hnn;go_in;go_wp2_with fail
 go_loop [3,11] (fun s i=>∃k:Nat,k<=kk/\i=.int .i64 (k:Int)/\s=.int .i64 ((Me (ss.take k):Nat):Int)) (fun _ i=>kk- (intOf i).toNat)
 case atStart=>exact⟨0,by omega,rfl,rfl⟩
 case round=>
  obtain⟨k,hk,rfl,rfl⟩:=hrel;by_cases DG:k<kk
  ·have Nq:k<ss.length:=by rw[<-HK.out];exact DG
   have c0:=HB.out.cell k;simp[Nq,ABa]at c0;have hs:=VK ss k Nq;have h1:=YM.out k;have h2:=YM.out (k+1);have HS:=I hs;have h3:(ss[k]'Nq).2.1<=1000:=(HSS.out _ (AL Nq)).2.2;generalize Me (ss.take k)=S at*;generalize ss[k]'Nq=s at*;clear hs h2;go_wp2;all_goals first
    |(exfalso;omega)
    |exact⟨⟨k+1,by omega,by simp,by rw[HS.out];simp⟩,by simp[intOf];omega⟩
  ·obtain rfl:k=kk:=by omega
   have ub:Me (ss.take k)=nn:=by rw[AY (by rw[HK.out];exact AB)];exact HN.out
   rw[ub];clear ub;go_wp2_with fail
   refine(nJ nn (by omega) w).mono ?_;rintro e' w2 ⟨A,c,rfl,ho,DK⟩;have B2:=I DK;have HO:=I ho;clear DK ho;go_wp2_with fail
   go_loopw [6,27] (fun v i wr=>∃(j:Nat)(A:Option Addr)(c m:Nat),j<=k/\i=.int .i64 (j:Int)/\v=.slice A m c/\m=Me (ss.take j)/\wr.ownsRow w.heap.size 187 7 (.slice A m c) m ((ss.take j).flatMap (·.2.2.2))/\Below w.heap.size w wr) (fun _ i _=>k- (intOf i).toNat)
   case atStart=>exact⟨0,A,c,0,by omega,rfl,rfl,rfl,HO.out,B2.out⟩
   case round=>
    obtain⟨j,A',c',m,hj,rfl,rfl,hm,DL,qf⟩:=hrel;have HW:=I qf;have HOW:=I DL;have HM:=I hm;have zt:m<=4000:=by rw[hm];exact YM.out j
    have HBR:=I (HB.out.below qf p0);have p0':=HBR.out.lt;clear qf DL hm B2 HO;by_cases hjt:j<k
    ·have Nq:j<ss.length:=by rw[<-HK.out];exact hjt
     have c0:=HBR.out.cell j;simp[Nq,ABa]at c0;have tX:=HSS.out _ (AL Nq);have R1:=I (tX.1.below HW.out FK.out);have O1:=I tX.2.1;have h3:=tX.2.2;have HS:=I (VK ss j Nq);have HT:=I (Af Nq);clear tX;generalize ss[j]'Nq=s at*;go_wp2_with (at_builtin;refine EU _ rfl _ _ 167 rfl w.heap.size 187 i0 (.agg #[.string ByteArray.empty,.int .i64 0,.int .i64 0,.int .i64 0,.int .i64 0,.slice none 0 0,.int .i64 0]) 7 80 underlying167 hi Fq FZ Fe rfl (by decide) _ _ _ rfl HOW.out _ _ _ _ _ rfl R1.out O1.out ?c1 ?c2 ?c3 ?_)
     case c1=>unfold maxLen;omega
     case c2=>omega
     case c3=>exact HW.out.size
     intro v' w3 L7 DT;obtain⟨A3,c3,rfl⟩:=Cz L7;have O3:=I (show w3.ownsRow w.heap.size 187 7 (.slice A3 (m+s.2.1) c3) (m+s.2.1) ((ss.take (j+1)).flatMap (·.2.2.2))by rw[HT.out,ATx];simpa using L7);have B3:=I (HW.out.trans DT);clear L7 DT;go_wp2;exact⟨⟨j+1,A3,c3,m+s.2.1,by omega,by simp,rfl,by rw[HS.out,HM.out],O3.out,B3.out⟩,by simp[intOf];omega⟩
    ·obtain rfl:j=k:=by omega
     have ub:m=nn:=by rw[HM.out,AY (by rw[HK.out];exact AB)];exact HN.out
     subst ub;have OX:=I (show wr.ownsRow w.heap.size 187 7 (.slice A' m c') m xs by have:=HOW.out;rw[AY (by rw[HK.out];exact AB),HX.out]at this;exact this);clear HOW;go_wp2;go_ret;exact⟨_,_,rfl,OX.out,HW.out⟩
theorem Reads.oR{w:World}{g:Nat}{t:TypeId}{cs:Array Value}(h:DJ w g t cs)(size n:Nat)(hs:cs.size=n*size):Reads w (g+1) size (some ⟨g,0,none⟩) n cs.toList:=by
 refine⟨by simpa using hs,fun _=>⟨_,rfl,by simp,fun j u hj=>?_⟩⟩;have I1:(⟨g,0,none⟩:Addr).add j=⟨g,j,none⟩:=by unfold Addr.add;split<;>simp_all
 rw[I1,h.cell,<-hj];simp
theorem gm{w:World}{b:Nat}{t:TypeId}{vs:List Value}(h:DJ w b t vs.toArray)(j:Nat)(u:Value)(hj:vs[j]? =some u):w.cell? ((⟨b,0,none⟩:Addr).add j)=some u:=by
 have I1:(⟨b,0,none⟩:Addr).add j=⟨b,j,none⟩:=by unfold Addr.add;split<;>simp_all
 rw[I1,h.cell,<-hj];simp
theorem RE:(Tryz.prog.info? 187).map (·.size)=some 7:=by
 obtain⟨i0,hi,Fq,FZ,Fe⟩:=AO Kl;simp[hi,FZ]
theorem aJ(w:World):(Go.sizeOf 187).run prog w=.ok 7 w:=by
 obtain⟨i0,hi,Fq,FZ,Fe⟩:=AO Kl;simp[Go.sizeOf,typeInfo,hi,FZ]
theorem aj(w:World)(vb g off lb cb:Nat)(vs cur:Array Value)(hv:DJ w vb 187 vs)(hg:DJ w g 187 cur)(GI:vb≠g)(hc:cur.size≠0):
 (callFunc 281 #[.slice (some ⟨vb,0,none⟩) 1 1,.slice (some ⟨g,off,none⟩) lb cb]).run prog w=.ok (.value (.bool false)) w:=by
 rw[ATo func281 (by kernel_rfl) (by kernel_rfl) (by kernel_rfl) (e:=Extern.SlicesOverlaps.overlaps #[167,167] #[4]) (by kernel_rfl),
  Lib.run_overlaps_apart w 167 4 187 underlying167 7 aJ ⟨vb,0,none⟩ ⟨g,off,none⟩ 1 1 lb cb GI 187 187 vs.size cur.size
   (by unfold DJ at hv;simp[World.shape?,hv]) (by unfold DJ at hg;simp[World.shape?,hg]) hc (hv.frozen 0) (hv.frozen _)]
 rfl
theorem T7(A:Option Addr)(n c:Nat):(Value.slice A n c).ownBlock=A.map (·.block):=by cases A<;>rfl
def vv(A0:Option Addr)(base n:Nat)(xs:List Value)(w:World)(e:Ending)(w':World):Prop:=∃A c,e=.returned (.slice A n c)/\w'.ownsRow base 187 7 (.slice A n c) n xs/\w.grownBy w' (A0.map (·.block))
theorem ex(base n vb:Nat)(A:Option Addr)(c:Nat)(xs vs:List Value)(hn:n<=1000)(QR:∀u∈vs,u.oneCell'=true)(w:World)(DL:w.ownsRow base 187 7 (.slice A n c) n xs)(hv:DJ w vb 187 vs.toArray)(Ta:vs.length=7)(Gk:base<=w.heap.size):
 Calls prog 246 #[.slice A n c,.int .i64 n,.slice (some ⟨vb,0,none⟩) 1 1] w (vv A base (n+1) (xs++vs) w):=by
 obtain⟨i0,hi,Fq,FZ,Fe⟩:=AO Kl;have dy:=Ec DL;have j8:=dy.2;have Qj:=dy.1;unfold maxLen at j8;have hr:=Reads.oR hv 7 1 (by simp[Ta]);simp at hr;have HR:=I hr;have HO:=I DL;clear hr DL hv dy;have hz:¬((1:Int)=0):=by omega
 go_in;go_wp2_with (at_builtin;refine Dd _ (by rfl) _ _ 167 rfl base 187 i0 _ 7 80 underlying167 hi Fq FZ Fe rfl (by decide) (.slice A n _) n xs rfl HO.out _ _ _ _ _ rfl HR.out QR (by unfold maxLen;omega) (by omega) Gk ?_;intro v' w3 L7 DT _;obtain⟨A3,c3,rfl⟩:=Cz L7)
 all_goals
  rw[T7]at DT;have dI:=I DT;have HO3:=I L7;clear DT L7;go_ret;exact⟨A3,c3,rfl,HO3.out,dI.out⟩
theorem Zq(base g i d vb cap:Nat)(xs vs:List Value)(hd:0<d)(bu:i+d+1<=cap)(QR:∀u∈xs,u.oneCell'=true)(UX:∀u∈vs,u.oneCell'=true)(w:World)(DL:w.ownsRow base 187 7 (.slice (some ⟨g,0,none⟩) (i+d) cap) (i+d) xs)(hv:DJ w vb 187 vs.toArray)(Ta:vs.length=7)(GI:vb≠g):
 Calls prog 246 #[.slice (some ⟨g,0,none⟩) (i+d) cap,.int .i64 i,.slice (some ⟨vb,0,none⟩) 1 1] w (vv (some ⟨g,0,none⟩) base (i+d+1) (xs.take (i*7)++(vs++xs.drop (i*7))) w):=by
 obtain⟨i0,hi,Fq,FZ,Fe⟩:=AO Kl;have dy:=Ec DL;have j8:=dy.2;unfold maxLen at j8;have eR:=DL.1;obtain⟨cur,hg,WJ,EO,aG⟩:∃cur:Array Value,DJ w g 187 cur/\base<=g/\cur.size=cap*7/\cur.toList.take ((i+d)*7)=xs:=by
  rcases DL.2 with⟨h,_⟩|⟨g',AAa,cur,hv,h1,h2,h3,h4,h5,h6⟩
  ·cases h
  ·cases hv
   exact⟨cur,h2,h1,h5,h6⟩
 have EC:=DL.cells (g:=g) rfl;have OV:=I (fun lb cb=>aj w vb g ((i+1)*7) lb cb vs.toArray cur hv hg GI (by omega));have VY:(xs.drop (i*7)).length=d*7:=by rw[CX,eR];omega
 have HY:=I (show∀j u,(xs.drop (i*7))[j]? =some u->w.cell? ((⟨g,i*7,none⟩:Addr).add j)=some u by
  intro j u hj;rw[ATD]at hj;have:=EC _ u hj;have I1:((⟨g,i*7,none⟩:Addr)).add j=(⟨g,0,none⟩:Addr).add (i*7+j):=by unfold Addr.add;(repeat' split)<;>simp_all
  rw[I1];exact this)
 have AAm:=I (show(splice (splice cur.toList ((i+1)*7) (xs.drop (i*7))) (i*7) vs).take ((i+d+1)*7)=xs.take (i*7)++(vs++xs.drop (i*7))by
  have:=YF cur.toList (xs.drop (i*7)) vs (i*7) 7 Ta (by rw[VY,At,EO];omega);rw[VY,show i*7+7+d*7=(i+d+1)*7 by omega,show i*7+7=(i+1)*7 by omega]at this;rw[this,<-aG,ATY,ASb (by omega)])
 have HL:=I (show(xs.take (i*7)++(vs++xs.drop (i*7))).length=(i+d+1)*7 by simp only[AN,Ta,VY,AV,eR];omega);have ONE:=I (show∀u∈xs.drop (i*7),u.oneCell'=true from fun u hu=>QR u (Cx hu));have rM:=I VY;have yc:=I (show cur.toList.length=cap*7 by rw[At];exact EO);have HG:=I (show w.heap[g]? =some (.cells cur.toList.toArray 187 (0,0))by have:=hg;unfold DJ at this;simpa using this);have HV:=I hv;have AEQ:=hv.lt;generalize xs.take (i*7)++(vs++xs.drop (i*7))=ys at*;generalize xs.drop (i*7)=yd at*;generalize cur.toList=sK at*;clear EC DL dy eR hg aG EO VY QR hv;have b1:(0:Int)<=(i:Int)+1:=by omega
 have b2:(i:Int)+1<=(i:Int)+d+1:=by omega
 have b3:(i:Int)<=(i:Int)+d+1:=by omega
 have b4:((i:Int)+1).toNat=i+1:=by omega
 have b5:((i:Int)+d+1).toNat=i+d+1:=by omega
 have b6:(i:Int)+d+1<=cap:=by omega
 have b7:(0:Int)<=(i:Int)+d+1:=by omega
 have c1:¬cap=i:=by omega
 have c2:¬cap=i+1:=by omega
 have AG7:¬((i:Int)=(i:Int)+d):=by omega
 have hz:¬((1:Int)=0):=by omega
 have w1:IntKind.i64.wrap ((i:Int)+1)=(i:Int)+1:=by rw[Aj];omega
 have ke:=OV.out;go_in;go_wp2_with (simp only[ke])
 have hS0:Below 0 w w:=AA;go_region_held3 (fun w'=>Below 0 w w') ((first|exact Cl EL (AM _)|exact AA|exact AA.drew)) ((refine MF (by rfl) _ _ _ _ (by rfl) 187 7 underlying167 RE (by decide) _ _ _ _ _ _ (by rfl) (by rfl) g ((i+1)*7) sK 187 HG.out yd (by rw[rM.out];congr 1;simp only[Nat.min_def];split<;>omega) (fun _=>⟨rfl,_,rfl,fun j u hj=>HY.out j u hj⟩) (by rw[rM.out,yc.out];omega) ONE.out base w (by first|exact AA|exact AA.drew) WJ ?_;intro w4 RV EL ez))
 all_goals
  have HV4:=I (show DJ w4 vb 187 vs.toArray from(ez.block vb AEQ (by simpa using GI)).trans HV.out);have HC4:=I (gm HV4.out);have G4:=I RV.out;have B4:=I EL;have R4:=I (show w.grownBy w4 (some g)from⟨ez.os,ez.tape,ez.output,ez.size,ez.block⟩);have nP:=I (show(splice sK ((i+1)*7) yd).length=cap*7 by rw[ATy _ _ _ (by rw[rM.out,yc.out];omega),yc.out]);clear ez RV EL ke;go_wp2_with ((refine KM (by rfl) _ _ _ _ (by rfl) 187 7 underlying167 RE (by decide) _ _ _ _ _ _ (by rfl) (by rfl) g (i*7) _ 187 G4.out vs (by rw[Ta];simp only[Nat.min_def];split<;>omega) (fun _=>⟨rfl,_,rfl,HC4.out⟩) (by rw[Ta,nP.out];omega) UX base w B4.out WJ ?_);intro w5 hg5 Eh WZ)
  have G5:=I hg5.out;have R5:=I (Px R4.out WZ);clear hg5 Eh WZ;go_wp2;go_ret;refine⟨some ⟨g,0,none⟩,cap,rfl,⟨HL.out,.inr ⟨g,cap,_,rfl,WJ,G5.out,bu,by unfold maxLen;omega,?_,?_⟩⟩,R5.out⟩
  ·rw[Cv,ATy _ _ _ (by rw[Ta,nP.out];omega),nP.out]
  ·exact AAm.out
theorem Zy(base i d vb cap:Nat)(A:Option Addr)(xs vs:List Value)(hd:0<d)(hm:i+d<=1000)(Ix:¬i+d+1<=cap)(QR:∀u∈xs,u.oneCell'=true)(UX:∀u∈vs,u.oneCell'=true)(w:World)(DL:w.ownsRow base 187 7 (.slice A (i+d) cap) (i+d) xs)(hv:DJ w vb 187 vs.toArray)(Ta:vs.length=7)(Gk:base<=w.heap.size):
 Calls prog 246 #[.slice A (i+d) cap,.int .i64 i,.slice (some ⟨vb,0,none⟩) 1 1] w (vv A base (i+d+1) (xs.take (i*7)++(vs++xs.drop (i*7))) w):=by
 obtain⟨i0,hi,Fq,FZ,Fe⟩:=AO Kl;obtain⟨g,c',Rq,S0,He,Qj,j8,EC⟩:=Eu DL (by omega);injection Rq with Rq yS tH
 subst Rq tH;clear yS;obtain rfl:cap=i+d:=by omega
 unfold maxLen at j8;have eR:=DL.1;have VY:(xs.drop (i*7)).length=d*7:=by rw[CX,eR];omega
 have htl:(xs.take (i*7)).length=i*7:=by rw[AV,eR];omega
 have LU:=grownCap_ge w (i+(d+1)) (i+d) 187;have hle:=AUN w (i+(d+1)) (i+d) 187 (by unfold maxLen;omega);have uU:∀ty,(Builtin.append_ #[167,3] ty #[.slice (some ⟨g,0,none⟩) i (i+d),.int .i64 ((d+1:Nat):Int)]).run prog w=_:=fun ty=>
  run_append_grow_zeros w 167 3 ty 187 i0 _ .i64 .i64 underlying167 underlying3 hi Fq (some ⟨g,0,none⟩) i (i+d) (xs.take (i*7))
   (run_firstCells_some w.drew i0.size i ⟨g,0,none⟩ i (i+d) _ (by rw[htl,FZ]) (fun j u hj=>by
     have I1:(⟨g,0,none⟩:Addr).add j=⟨g,j,none⟩:=by(unfold Addr.add;split<;>simp_all)
     rw[I1];rw[ASo]at hj;split at hj
     ·exact EC j u hj
     ·cases hj)) (d+1) (by omega) (by rw[FZ];decide) (by omega) (by omega) (by rw[Fe];omega) (growslice_fits (by omega) (by rw[Fe];omega))
 rw[show i+(d+1)=i+d+1 from rfl]at LU hle;simp only[show i+(d+1)=i+d+1 from rfl]at uU;generalize grownCap w (i+d+1) (i+d) 187=G at*;obtain⟨zs,Ts⟩:∃zs:Array Value,zs=(xs.take (i*7)).toArray++Builtin.zeroCells (Value.cells (.agg #[.string ByteArray.empty,.int .i64 0,.int .i64 0,.int .i64 0,.int .i64 0,.slice none 0 0,.int .i64 0])) (d+1)++Builtin.zeroCells (Value.cells (.agg #[.string ByteArray.empty,.int .i64 0,.int .i64 0,.int .i64 0,.int .i64 0,.slice none 0 0,.int .i64 0])) (G- (i+d+1)):=⟨_,rfl⟩;rw[<-Ts]at uU;have hzl:zs.toList.length=G*7:=by
  rw[Ts,At];simp only[Array.size_append,ATw,Cv,htl];rw[show(Value.cells (.agg #[.string ByteArray.empty,.int .i64 0,.int .i64 0,.int .i64 0,.int .i64 0,.slice none 0 0,.int .i64 0])).size=7 from rfl];omega
 have hzt:zs.toList.take (i*7)=xs.take (i*7):=by
  rw[Ts,ATz,ATz,Cs];exact ATv htl
 have AAm:=I (show(splice (splice zs.toList (i*7) vs) ((i+1)*7) (xs.drop (i*7))).take ((i+d+1)*7)=xs.take (i*7)++(vs++xs.drop (i*7))by
  have:=eC zs.toList (xs.drop (i*7)) vs (i*7) 7 Ta (by rw[VY,hzl];omega);rw[VY,show i*7+7+d*7=(i+d+1)*7 by omega,show i*7+7=(i+1)*7 by omega]at this;rw[this,hzt])
 have HL:=I (show(xs.take (i*7)++(vs++xs.drop (i*7))).length=(i+d+1)*7 by simp only[AN,Ta,VY,htl];omega);have ONE:=I (show∀u∈xs.drop (i*7),u.oneCell'=true from fun u hu=>QR u (Cx hu));have rM:=I VY;have yc:=I hzl;have HG:=I (show(w.drew.alloc (.cells zs 187)).heap[w.heap.size]? =some (.cells zs.toList.toArray 187 (0,0))by have:=Ci w.drew (.cells zs 187);simpa using this);have HV:=I (show DJ (w.drew.alloc (.cells zs 187)) vb 187 vs.toArray from hv.drew.alloc _);have AEQ:=hv.lt;have HY:=I (show∀j u,(xs.drop (i*7))[j]? =some u->(w.drew.alloc (.cells zs 187)).cell? ((⟨g,i*7,none⟩:Addr).add j)=some u by
  intro j u hj;rw[ATD]at hj;have I1:((⟨g,i*7,none⟩:Addr)).add j=⟨g,i*7+j,none⟩:=by unfold Addr.add;split<;>simp_all
  rw[I1,Bm w.drew _ _ (by exact He)];exact EC _ u hj)
 rw[show((d+1:Nat):Int)=(i:Int)+d+1-i by omega]at uU;have HRZ:=I uU;generalize xs.take (i*7)++(vs++xs.drop (i*7))=ys at*;generalize xs.drop (i*7)=yd at*;clear Ts hzl hzt EC DL eR VY htl QR hv uU;generalize zs.toList=sK at*;have b0:(d:Int)+1=((d+1:Nat):Int):=by omega
 have AG7:¬((i:Int)=(i:Int)+d):=by omega
 have hz:¬((1:Int)=0):=by omega
 have c0:¬(d=0):=by omega
 have c1:¬(G=i):=by omega
 have c2:¬(G=i+1):=by omega
 have b1:(i:Int)<=(i:Int)+d+1:=by omega
 have b2:(0:Int)<=(i:Int)+1:=by omega
 have b3:(i:Int)+1<=(i:Int)+d+1:=by omega
 have b4:((i:Int)+1).toNat=i+1:=by omega
 have b5:(0:Int)<=(i:Int):=by omega
 have b6:(i:Int)<=(i:Int)+d:=by omega
 have b7:((i:Int)).toNat=i:=by omega
 have w1:IntKind.i64.wrap ((i:Int)+1)=(i:Int)+1:=by rw[Aj];omega
 have HC:=I (gm HV.out);go_in;go_wp2_with (first
  |(at_builtin;refine AUO _ rfl _ _ _ _ rfl _ _ rfl rfl _ _ (HRZ.out _) ?_)
  |(refine KM (by rfl) _ _ _ _ (by rfl) 187 7 underlying167 RE (by decide) _ _ _ _ _ _ (by rfl) (by rfl) w.heap.size (i*7) sK 187 HG.out vs (by rw[Ta];simp only[Nat.min_def];split<;>omega) (fun _=>⟨rfl,_,rfl,HC.out⟩) (by rw[Ta,yc.out];omega) UX base w (by first|exact((AQ base w).drew.alloc Gk _)|exact((AQ base w).alloc Gk _).drew) Gk ?_;intro w5 hg5 Eh WZ))
 all_goals
  have G5:=I hg5.out;have B5:=I Eh;have tP:=I (show(splice sK (i*7) vs).length=G*7 by rw[ATy _ _ _ (by rw[Ta,yc.out];omega),yc.out]);have HY5:=I (show∀j u,yd[j]? =some u->w5.cell? ((⟨g,i*7,none⟩:Addr).add j)=some u from fun j u hj=>by
   have h:=HY.out j u hj;have hq:=WZ.block g (by simp;omega) (by simp;omega);rw[AUP (w:=w.drew.alloc (.cells zs 187)) (by rw[KO];exact hq)];exact h)
  have R5:=I (show w.grownBy w5 (some g)from⟨WZ.os,WZ.tape,WZ.output,AG (by simp) WZ.size,fun k hk hn=>(WZ.block k (by simp;omega) (by simp;omega)).trans (Below.heap_alloc w.drew _ k hk)⟩);clear hg5 Eh WZ;have hS0:Below 0 w w5:=Cl B5.out (AM _);go_region_held3 (fun w'=>Below 0 w w') ((first|exact Cl XW (AM _)|exact hS0|exact hS0.drew)) ((refine MF (by rfl) _ _ _ _ (by rfl) 187 7 underlying167 RE (by decide) _ _ _ _ _ _ (by rfl) (by rfl) w.heap.size ((i+1)*7) _ 187 G5.out yd (by rw[rM.out];congr 1;simp only[Nat.min_def];split<;>omega) (fun _=>⟨rfl,_,rfl,fun j u hj=>HY5.out j u hj⟩) (by rw[rM.out,tP.out];omega) ONE.out base w (by first|exact B5.out|exact B5.out.drew) Gk ?_;intro w6 hg6 XW lY))
  all_goals
   have G6:=I hg6.out;have R6:=I (show w.grownBy w6 (some g)from⟨lY.os.trans R5.out.os,lY.tape.trans R5.out.tape,lY.output.trans R5.out.output,AG R5.out.size lY.size,fun k hk hn=>(lY.block k (AJ hk R5.out.size) (by simp;omega)).trans (R5.out.block k hk hn)⟩);clear hg6 XW lY;go_wp2;go_ret;refine⟨some ⟨w.heap.size,0,none⟩,G,rfl,⟨HL.out,.inr ⟨w.heap.size,G,_,rfl,Gk,G6.out,by omega,hle,?_,AAm.out⟩⟩,R6.out⟩;rw[Cv,ATy _ _ _ (by rw[rM.out,tP.out];omega),tP.out]
