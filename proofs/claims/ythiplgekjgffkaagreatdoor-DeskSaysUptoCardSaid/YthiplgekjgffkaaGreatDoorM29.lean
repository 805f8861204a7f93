/- (*node -/
import Derived.Test.YthiplgekjgffkaaGreatDoorM27
import Derived.Test.YthiplgekjgffkaaGreatDoorM09
set_option maxRecDepth 100000
set_option maxHeartbeats 99000000
set_option linter.all false
namespace Go.Proofs.YthiplgekjgffkaaGreatDoor
open Go.Proofs.Tryz
open Go.RowKit Go.Lib
theorem PJ:(Tryz.prog.info? 173).map (fun i=>(i.zero,i.size,i.bytes))=some (some (.agg #[.string ByteArray.empty,.int .i64 0,.bool false]),3,32):=by kernel_rfl
theorem Kd(w:World)(e:TypeId)(p:Dm):Reads (w.alloc (.cells (Gf p).toArray e)) (w.heap.size+1) 3 (some ⟨w.heap.size,0,none⟩) 1 (Da [p]):=
 ⟨rfl,fun _=>⟨_,rfl,by simp,fun j u hj=>by
   have hc:=(DJ.new w e (Gf p).toArray).cell j;have I1:(⟨w.heap.size,0,none⟩:Addr).add j=⟨w.heap.size,j,none⟩:=by unfold Addr.add;split<;>simp_all
   rw[I1,hc,<-hj];simp[Da]⟩⟩
theorem Kept.low{X:Nat->Prop}{w w1 w2:World}(h:Kept X w w1)(hb:Below w.heap.size w1 w2):Kept X w w2:=
 ⟨hb.os.trans h.os,hb.tape.trans h.tape,hb.output.trans h.output,AG h.size hb.size,fun k hk hx=>(hb.block k hk).trans (h.block k hk hx)⟩
def sW(g:Nat)(t:TypeId)(cap n:Nat)(S:List Dm)(N:List Dm)(w:World)(e:Ending)(w':World):Prop:=
 ∃A c,e=.returned (.slice A N.length c)/\w'.ownsRow w.heap.size 173 3 (.slice A N.length c) N.length (Da N)/\JL t w' g cap n S/\Kept (· =g) w w'
theorem du{f:ByteArray->Int}{S:List Dm}{k:Nat}(h:k<S.length)(he:Hb f (S[k]'h)=(S[k]'h).2.2):Gu f (S.take (k+1))=Gu f (S.take k):=by
 rw[Rl f S k h,AD he,CP]
theorem lH{f:ByteArray->Int}{S:List Dm}{k:Nat}(h:k<S.length)(he:Hb f (S[k]'h)≠(S[k]'h).2.2):Gu f (S.take (k+1))=Gu f (S.take k)++[((S[k]'h).1,(S[k]'h).2.1,Hb f (S[k]'h))]:=by
 rw[Rl f S k h,AC he]
theorem I8{w:World}{g i j:Nat}{v:Value}(h:i≠j):(w.setCell ⟨g,j,none⟩ v).cell? ⟨g,i,none⟩=w.cell? ⟨g,i,none⟩:=by
 rw[ATG _ _ _ _ (by intro h2;simp only[ATK]at h2;omega)]
def ML(f:ByteArray->Int)(S:List Dm)(g cap n:Nat)(w:World)(k:Nat)(v:Value)(wr:World):Prop:=
 wr.ownsRow w.heap.size 173 3 v (Gu f (S.take k)).length (Da (Gu f (S.take k)))/\JL 182 wr g cap n (Fz f S k)/\Kept (· =g) w wr
theorem ML.start(f:ByteArray->Int){S:List Dm}{g cap n:Nat}{w:World}(hs:JL 182 w g cap n S):ML f S g cap n w 0 (.slice none 0 0) w:=
 ⟨AX _ _ _ _,hs,AH _ _⟩
theorem ML.below{f:ByteArray->Int}{S:List Dm}{g cap n k:Nat}{w wr w1:World}{v:Value}(h:ML f S g cap n w k v wr)(hb:Below wr.heap.size wr w1):ML f S g cap n w k v w1:=
 ⟨Ef h.1 hb,h.2.1.below hb h.2.1.lt,h.2.2.step hb⟩
theorem ML.same{f:ByteArray->Int}{S:List Dm}{g cap n k:Nat}{w wr:World}{v:Value}(h:ML f S g cap n w k v wr)(hk:k<S.length)(he:Hb f (S[k]'hk)=(S[k]'hk).2.2):ML f S g cap n w (k+1) v wr:=by
 unfold ML;rw[du hk he,Ys f S k hk he];exact h
theorem ML.new{f:ByteArray->Int}{S:List Dm}{g cap n k:Nat}{w wr w1:World}{v v':Value}(h:ML f S g cap n w k v wr)(hg:g<w.heap.size)(hk:k<S.length)(he:Hb f (S[k]'hk)≠(S[k]'hk).2.2)(m:Bool)(hm:Hb f (S[k]'hk)=m)
 (ho:w1.ownsRow w.heap.size 173 3 v' ((Gu f (S.take k)).length+1) (Da (Gu f (S.take k))++Da [((S[k]'hk).1,(S[k]'hk).2.1,m)])) (hb:Below w.heap.size (wr.setCell ⟨g,k*3+2,none⟩ (.bool m)) w1):ML f S g cap n w (k+1) v' w1:=by
 unfold ML;subst hm;have RO:k<(Fz f S k).length:=by rw[MB];exact hk
 have e:=M0 f S k hk RO;refine⟨?_,?_,?_⟩
 ·rw[lH hk he,Kk,AN];exact ho
 ·rw[RM f S k hk]
  have:=h.2.1.AH3 k (Hb f (S[k]'hk)) RO;rw[e]at this;exact this.below hb hg
 ·exact(h.2.2.setCell (a:=⟨g,k*3+2,none⟩) (.inl rfl) _).low hb
theorem qn(b g cap n pn cp:Nat)(A:Option Addr)(c:Dg)(now seq drops:Int)(S:List Dm)(f:ByteArray->Int)(hn8:n<=8)(WJ:b≠g)(w:World)(hb:DJ w b 244 (ED c now seq drops (.slice A pn cp) (.slice (some ⟨g,0,none⟩) n cap)))
 (hs:JL 182 w g cap n S) (hf:∀W id,Kept (· =g) w W->∃er,Calls prog 182 #[.pointer (some ⟨b,0,none⟩),.string id] W (Pc (f id) er W)):
 Calls prog 214 #[.pointer (some ⟨b,0,none⟩)] w (sW g 182 cap n (Id f S) (Gu f S) w):=by
 obtain⟨i0,hi,Fq,FZ,Fe⟩:=AO PJ;have HB:=I hb;have HS:=I hs;have HF:=I hf;have HN:=I hs.1;have He:=hs.lt;have FI:=hb.lt;have Jq:=hs.2.2.1;have r6:=hs.2.1;unfold maxLen at Jq;have b9:=hb.cell 9;simp[ED]at b9;clear hb hs hf;go_in;go_wp2_with fail
 go_loopw [3,14] (fun v iv wr=>∃k:Nat,k<=n/\iv=.int .i64 (k:Int)/\ML f S g cap n w k v wr) (fun _ iv _=>n- (RowKit.intOf iv).toNat)
 case atStart=>exact⟨0,by omega,rfl,ML.start f HS.out⟩
 case round=>
  obtain⟨k,hk,rfl,hrel⟩:=hrel;obtain⟨wo,rfl⟩:∃wo,wo=wr:=⟨_,rfl⟩;have RL:=I hrel;clear hrel b9;obtain⟨Av,cv,rfl⟩:=Cz RL.out.1;have HBo:=I (RL.out.2.2.DC HB.out WJ);have b9:=HBo.out.cell 9;have AJB:=HBo.out.lt;simp[ED]at b9;by_cases DG:k<n
  ·have ZR:k<S.length:=by rw[HN.out];exact DG
   have hkM:k<(Fz f S k).length:=by rw[MB];exact ZR
   have EO:=RL.out.2.1.cells k hkM;rw[M0 f S k ZR hkM]at EO;have hfz:=RL.out.2.1.frozen (k*3+2);have ob:=RL.out.2.1.lt;obtain⟨er,Wd⟩:=HF.out wo (S[k]'ZR).1 RL.out.2.2;have Ly:=I Wd;have wO:=I (fun he=>RL.out.same ZR he);have Zn:=I (fun w0 v' w1 (h0:Below wo.heap.size wo w0) he m hm ho hb=>ML.new (w1:=w1) (v':=v') (RL.out.below h0) He ZR he m hm ho hb);have ni:=I (show Hb f (S[k]'ZR)=decide ((S[k]'ZR).2.1<=f (S[k]'ZR).1)from rfl);generalize S[k]'ZR=s at*;obtain⟨c0,c1,c2⟩:=EO;clear Wd;go_wp2_with fail
   refine Ly.out.mono ?_;rintro e' w1 ⟨rfl,C6⟩;have WM:=I (RL.out.below C6);have B1:=I C6;have d0:=(C6.cell (p:=⟨g,k*3,none⟩) ob).trans c0;have d1:=(C6.cell (p:=⟨g,k*3+1,none⟩) ob).trans c1;have d2:=(C6.cell (p:=⟨g,k*3+2,none⟩) ob).trans c2;have fz:=WM.out.2.1.frozen (k*3+2);have AIv:=C6.size;have AID:g<w1.heap.size:=by omega
   clear C6 c0 c1 c2 hfz;cases PO:decide (s.2.1<=f s.1)<;>cases vI:s.2.2
   case false.false|true.true=>
    have KEEP:=I ((wO.out (by rw[ni.out,PO,vI])).below B1.out);rw[vI]at d2;have hle:=PO;simp only[ATI,CG]at hle;clear vI PO;go_wp2;exact⟨⟨k+1,by omega,by simp,KEEP.out⟩,by simp[RowKit.intOf];omega⟩
   case false.true=>
    have Ko:=I (fun w0 v' w1 h0 ho hb=>Zn.out w0 v' w1 h0 (by rw[ni.out,PO,vI];decide) false (by rw[ni.out,PO]) ho hb);rw[vI]at d2;have hle:=PO;simp only[ATI,CG]at hle;clear vI hle
    go_upto_region 48 with fail
    have e0:=(I8 (w:=w1) (g:=g) (i:=k*3) (j:=k*3+2) (v:=.bool false) (by omega)).trans d0;have e1:=(I8 (w:=w1) (g:=g) (i:=k*3+1) (j:=k*3+2) (v:=.bool false) (by omega)).trans d1;have OWN:=I (DV WM.out.1 (a:=⟨g,k*3+2,none⟩) He (.bool false));have rA:=WM.out.2.2.size;have HNY:=I (fun v' w9 ho hb=>Ko.out w1 v' w9 B1.out ho hb);clear d0 d1 d2 fz;generalize IK:w1.setCell ⟨g,k*3+2,none⟩ (.bool false)=w2 at*;have WP:w1.heap.size=w2.heap.size:=by rw[<-IK];simp[World.setCell]
    clear IK;have YR:w.heap.size<=w2.heap.size:=by omega
    have Ka:g<w2.heap.size:=by omega
    have Pi:=I (fun w'=>Kd w' 173 (s.1,s.2.1,false));have Pb:=I (In [(s.1,s.2.1,false)]);have hL:=LJ f (S.take k);have NI:(S.take k).length<=8:=by rw[AV];omega
    have HS:=I (show∀w',Below w.heap.size w2 w'->(Below w.heap.size w2 w'/\w'.cell? ⟨g,k*3,none⟩=some (.string s.1)/\w'.cell? ⟨g,k*3+1,none⟩=some (.int .i64 s.2.1))from fun w' h=>⟨h,(h.cell (p:=⟨g,k*3,none⟩) He).trans e0,(h.cell (p:=⟨g,k*3+1,none⟩) He).trans e1⟩);go_region_held3 (fun w'=>Below w.heap.size w2 w'/\w'.cell? ⟨g,k*3,none⟩=some (.string s.1)/\w'.cell? ⟨g,k*3+1,none⟩=some (.int .i64 s.2.1))
     ((refine HS.out _ ?_;first|(with_reducible exact Kh)|(with_reducible exact AA)|(with_reducible exact AA.drew)|exact AA.alloc YR _|exact(AA.drew).alloc YR _))
     ((refine FE (by rfl) _ _ _ (by rfl) w.heap.size 173 i0 (.agg #[.string ByteArray.empty,.int .i64 0,.bool false]) 3 32 underlying112 hi Fq FZ Fe rfl (by decide) _ _ _ (by rfl) (OWN.out.drew.alloc _) _ _ 1 _ _ (by rfl) (Pi.out _) Pb.out (by unfold maxLen;omega) (by omega) (by simp;omega) ?_;intro v9 w9 Db Ei;obtain⟨A9,c9,rfl⟩:=Cz Db;have Kh:Below w.heap.size w2 w9:=Cb (by first|exact AA.alloc YR _|exact(AA.drew).alloc YR _) Ei))
    all_goals
     have KEEP:=I (HNY.out _ w9 Db Kh);clear Db Ei Kh;go_wp2;exact⟨⟨k+1,by omega,by simp,KEEP.out⟩,by simp[RowKit.intOf];omega⟩
   case true.false=>
    have Ko:=I (fun w0 v' w1 h0 ho hb=>Zn.out w0 v' w1 h0 (by rw[ni.out,PO,vI];decide) true (by rw[ni.out,PO]) ho hb);rw[vI]at d2;have hle:=PO;simp only[ATI,CG]at hle;clear vI PO
    go_upto_region 48 with fail
    have e0:=(I8 (w:=w1) (g:=g) (i:=k*3) (j:=k*3+2) (v:=.bool true) (by omega)).trans d0;have e1:=(I8 (w:=w1) (g:=g) (i:=k*3+1) (j:=k*3+2) (v:=.bool true) (by omega)).trans d1;have OWN:=I (DV WM.out.1 (a:=⟨g,k*3+2,none⟩) He (.bool true));have rA:=WM.out.2.2.size;have HNY:=I (fun v' w9 ho hb=>Ko.out w1 v' w9 B1.out ho hb);clear d0 d1 d2 fz;generalize IK:w1.setCell ⟨g,k*3+2,none⟩ (.bool true)=w2 at*;have WP:w1.heap.size=w2.heap.size:=by rw[<-IK];simp[World.setCell]
    clear IK;have YR:w.heap.size<=w2.heap.size:=by omega
    have Ka:g<w2.heap.size:=by omega
    have Pi:=I (fun w'=>Kd w' 173 (s.1,s.2.1,true));have Pb:=I (In [(s.1,s.2.1,true)]);have hL:=LJ f (S.take k);have NI:(S.take k).length<=8:=by rw[AV];omega
    have HS:=I (show∀w',Below w.heap.size w2 w'->(Below w.heap.size w2 w'/\w'.cell? ⟨g,k*3,none⟩=some (.string s.1)/\w'.cell? ⟨g,k*3+1,none⟩=some (.int .i64 s.2.1))from fun w' h=>⟨h,(h.cell (p:=⟨g,k*3,none⟩) He).trans e0,(h.cell (p:=⟨g,k*3+1,none⟩) He).trans e1⟩);go_region_held3 (fun w'=>Below w.heap.size w2 w'/\w'.cell? ⟨g,k*3,none⟩=some (.string s.1)/\w'.cell? ⟨g,k*3+1,none⟩=some (.int .i64 s.2.1))
     ((refine HS.out _ ?_;first|(with_reducible exact Kh)|(with_reducible exact AA)|(with_reducible exact AA.drew)|exact AA.alloc YR _|exact(AA.drew).alloc YR _))
     ((refine FE (by rfl) _ _ _ (by rfl) w.heap.size 173 i0 (.agg #[.string ByteArray.empty,.int .i64 0,.bool false]) 3 32 underlying112 hi Fq FZ Fe rfl (by decide) _ _ _ (by rfl) (OWN.out.drew.alloc _) _ _ 1 _ _ (by rfl) (Pi.out _) Pb.out (by unfold maxLen;omega) (by omega) (by simp;omega) ?_;intro v9 w9 Db Ei;obtain⟨A9,c9,rfl⟩:=Cz Db;have Kh:Below w.heap.size w2 w9:=Cb (by first|exact AA.alloc YR _|exact(AA.drew).alloc YR _) Ei))
    all_goals
     have KEEP:=I (HNY.out _ w9 Db Kh);clear Db Ei Kh;go_wp2;exact⟨⟨k+1,by omega,by simp,KEEP.out⟩,by simp[RowKit.intOf];omega⟩
  ·have Te:k=n:=by omega
   subst Te;have Gg:S.take k=S:=AY (by rw[HN.out];omega);have YY:=RL.out;unfold ML at YY;rw[Gg,TH f S k (by rw[HN.out];omega)]at YY;have HE:=I YY;rw[Gg];clear YY Gg;go_wp2;go_ret;exact⟨Av,cv,rfl,HE.out.1,HE.out.2.1,HE.out.2.2⟩
theorem aQ{w:World}{B n:Nat}{A:Option Addr}{l:List Dm}(h:Reads w B 3 A n (Da l))(hl:l.length=n)(hn:0<n):
 ∃b off,A=some ⟨b,off,none⟩/\b<B/\∀k,(hk:k<l.length)->ACZ w b (off+k*3) (l[k]'hk):=by
 obtain⟨b,off,e,hb,hc⟩:=h.U9 hn (by decide);refine⟨b,off,e,hb,fun k hk=>?_⟩;have at':∀j v,j<3->(Gf (l[k]'hk))[j]? =some v->w.cell? ⟨b,off+k*3+j,none⟩=some v:=fun j v hj hv=>by
  rw[Bv];exact hc _ _ ((SC l k j hk hj).trans hv)
 exact⟨at' 0 _ (by decide) rfl,at' 1 _ (by decide) rfl,at' 2 _ (by decide) rfl⟩
