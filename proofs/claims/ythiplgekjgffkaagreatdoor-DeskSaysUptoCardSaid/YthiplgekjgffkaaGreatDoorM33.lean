/- prod -/
import Derived.Test.YthiplgekjgffkaaGreatDoorM23
import Derived.Test.YthiplgekjgffkaaGreatDoorM14
set_option maxRecDepth 100000
set_option maxHeartbeats 99000000
set_option linter.all false
namespace Go.Proofs.YthiplgekjgffkaaGreatDoor
open Go.Proofs.Tryz
open Go.RowKit
def Rk(q r:Nat)(e:Int)(w:World)(x:Ending)(w':World):Prop:=
 x=.returned (.tuple #[.agg #[.int .u64 (DB q),.int .u64 (DE q)],.agg #[.int .u64 (DB r),.int .u64 (DE r)],.int .i64 e])/\Below w.heap.size w w'
theorem DJ.Fd{W:World}{g o:Nat}{t:TypeId}{cs:Array Value}{v:Value}(h:DJ W g t cs)(h2:cs[o]? =some v):W.cell? ⟨g,o,none⟩=some v:=(h.cell o).trans h2
theorem Ms{a:Act}{W:World}{g g':Nat}{x0 x1 y0 y1:Value}{e:Value}(h:Tryz.f80.results=#[.cell 4 57,.cell 5 57,.tmp 6])(h4:a.tmps.getD 4 undef=.pointer (some ⟨g,0,none⟩))(h5:a.tmps.getD 5 undef=.pointer (some ⟨g',0,none⟩))(h6:a.tmps.getD 6 undef=e)
 (c0:W.cell? ⟨g,0,none⟩=some x0) (c1:W.cell? ⟨g,1,none⟩=some x1) (c2:W.cell? ⟨g',0,none⟩=some y0) (c3:W.cell? ⟨g',1,none⟩=some y1):
 (results Tryz.f80 a.tmps).run prog W=.ok (.tuple #[.agg #[x0,x1],.agg #[y0,y1],e]) W:=by
 have r9:a.tmps[4]?.getD undef=.pointer (some ⟨g,0,none⟩):=by simpa using h4
 have h5':a.tmps[5]?.getD undef=.pointer (some ⟨g',0,none⟩):=by simpa using h5
 have h6':a.tmps[6]?.getD undef=e:=by simpa using h6
 simp[results,h,r9,h5',h6',go_sem,c0,c1,c2,c3]
theorem na{w0 W:World}{l:List (Nat×TypeId×Array Value)}{g:Nat}{t:TypeId}{cs:Array Value}(h:Env w0 W ((g,t,cs)::l))(hd:∀x∈l,x.1≠g)(i:Nat)(u:Value):
 Env w0 (W.setCell ⟨g,i,none⟩ u) ((g,t,cs.setIfInBounds i u)::l):=by
 have hg:=(h.2 _ (Ay ..)).1;refine⟨h.1.setCell hg _,fun x hx=>?_⟩;rcases AR.1 hx with rfl|hx
 ·exact⟨hg,h.hd.De i u⟩
 ·have:=h.2 x (Am _ hx)
  exact⟨this.1,this.2.Je (p:=⟨g,i,none⟩) (hd x hx) u⟩
theorem div_zero(a:Nat)(ha:a<2^128)(w:World):
 Calls prog 80 #[.agg #[.int .u64 (DB a),.int .u64 (DE a)],.agg #[.int .u64 0,.int .u64 0]] w (Rk 0 0 6 w):=by
 have E:=I (((((AI w).lay #[.int .u64 (DB a),.int .u64 (DE a)] 57).lay #[.int .u64 0,.int .u64 0] 57).lay #[.int .u64 0,.int .u64 0] 57).lay #[.int .u64 0,.int .u64 0] 57);generalize DB a=ah at*;generalize DE a=al at*;clear ha;go_in;go_wp2;refine AF (v:=.tuple #[.agg #[.int .u64 0,.int .u64 0],.agg #[.int .u64 0,.int .u64 0],.int .i64 6]) (by simp[results,results80,go_sem]) rfl ⟨rfl,?_⟩;first|exact E.out.DI|exact(((E.out.DI.setCell (by simp<;>omega) _).setCell (by simp<;>omega) _).setCell (by simp<;>omega) _).setCell (by simp<;>omega) _
theorem fZ(a b:Nat)(ha:a<2^128)(hb:b<2^128)(DG:a<b)(hp:0<DB b)(w:World):
 Calls prog 80 #[.agg #[.int .u64 (DB a),.int .u64 (DE a)],.agg #[.int .u64 (DB b),.int .u64 (DE b)]] w (Rk 0 a 0 w):=by
 have HC:=I (fun w'=>PF _ _ _ _ a b (WN.mk' a ha) (WN.mk' b hb) w');have YW:=Ub DG;obtain⟨a1,a2⟩:=Eo a ha;obtain⟨a3,a4⟩:=Fy a;obtain⟨b1,b2⟩:=Eo b hb;obtain⟨b3,b4⟩:=Fy b;have hhz:(DB b==0)=false:=by simp;omega
 generalize GU a b=cc at*;generalize ZV:DB a=ah at*;generalize ZS:DE a=al at*;generalize DB b=bh at*;generalize DE b=bl at*;have tU:=I ZV;have dF:=I ZS;have E:=I (((((AI w).lay #[.int .u64 ah,.int .u64 al] 57).lay #[.int .u64 bh,.int .u64 bl] 57).lay #[.int .u64 0,.int .u64 0] 57).lay #[.int .u64 0,.int .u64 0] 57);clear ZV ZS ha hb;simp only[Az]at E;go_in;go_wp2_with fail
 refine(HC.out _).mono ?_;rintro e' w1 ⟨rfl,C6⟩;have E1:=I (E.out.below C6);clear C6;have p0:=E1.out.hd.lt;have r0:=E1.out.hd.cell 0;have r1:=E1.out.hd.cell 1;have yi:=E1.out.hd.frozen 0;have yL:=E1.out.hd.frozen 1;have q0:=E1.out.tl.hd.cell 0;have q1:=E1.out.tl.hd.cell 1;have yO:=E1.out.tl.hd.frozen 0;have xe:=E1.out.tl.hd.frozen 1;have x0:=E1.out.tl.tl.tl.hd.cell 0;have x1:=E1.out.tl.tl.tl.hd.cell 1;simp at r0 r1 q0 q1 x0 x1 yi yL yO xe p0;go_wp2;go_region
 go_wp2;have B2:=((((E1.out.tl.hd.De 0 (.int .u64 0)).De 1 (.int .u64 0)).Je (p:=⟨w.heap.size+1+1+1,0,none⟩) (by simp) (.int .u64 ah)).Je (p:=⟨w.heap.size+1+1+1,1,none⟩) (by simp) (.int .u64 al)).drew;have B3:=((((E1.out.hd.Je (p:=⟨w.heap.size+1+1,0,none⟩) (by simp) (.int .u64 0)).Je (p:=⟨w.heap.size+1+1,1,none⟩) (by simp) (.int .u64 0)).De 0 (.int .u64 ah)).De 1 (.int .u64 al)).drew;refine AF (v:=.tuple #[.agg #[.int .u64 0,.int .u64 0],.agg #[.int .u64 ah,.int .u64 al],.int .i64 0]) (Ms results80 rfl rfl rfl (B2.Fd rfl) (B2.Fd rfl) (B3.Fd rfl) (B3.Fd rfl)) rfl ⟨?_,?_⟩
 ·rw[tU.out,dF.out];rfl
 ·exact((((E1.out.DI.setCell (by simp<;>omega) _).setCell (by simp<;>omega) _).setCell (by simp<;>omega) _).setCell (by simp<;>omega) _).drew
theorem gA(a b:Nat)(ha:a<2^128)(hb:b<2^128)(DG:a<b)(hp:DB b=0)(w:World):
 Calls prog 80 #[.agg #[.int .u64 (DB a),.int .u64 (DE a)],.agg #[.int .u64 (DB b),.int .u64 (DE b)]] w (Rk 0 a 0 w):=by
 have HC:=I (fun w'=>PF _ _ _ _ a b (WN.mk' a ha) (WN.mk' b hb) w');have YW:=Ub DG;obtain⟨a1,a2⟩:=Eo a ha;obtain⟨a3,a4⟩:=Fy a;obtain⟨b1,b2⟩:=Eo b hb;obtain⟨b3,b4⟩:=Fy b;have hlz:(DE b==0)=false:=by
  have:b<18446744073709551616:=by(unfold DB at hp;omega)
  unfold DE;simp;omega
 rw[hp]at HC⊢;clear hp b1 b2;generalize GU a b=cc at*;generalize ZV:DB a=ah at*;generalize ZS:DE a=al at*;generalize DE b=bl at*;have tU:=I ZV;have dF:=I ZS;have E:=I (((((AI w).lay #[.int .u64 ah,.int .u64 al] 57).lay #[.int .u64 0,.int .u64 bl] 57).lay #[.int .u64 0,.int .u64 0] 57).lay #[.int .u64 0,.int .u64 0] 57);clear ZV ZS ha hb;simp only[Az]at E;go_in;go_wp2_with fail
 refine(HC.out _).mono ?_;rintro e' w1 ⟨rfl,C6⟩;have E1:=I (E.out.below C6);clear C6;have p0:=E1.out.hd.lt;have r0:=E1.out.hd.cell 0;have r1:=E1.out.hd.cell 1;have yi:=E1.out.hd.frozen 0;have yL:=E1.out.hd.frozen 1;have q0:=E1.out.tl.hd.cell 0;have q1:=E1.out.tl.hd.cell 1;have yO:=E1.out.tl.hd.frozen 0;have xe:=E1.out.tl.hd.frozen 1;have x0:=E1.out.tl.tl.tl.hd.cell 0;have x1:=E1.out.tl.tl.tl.hd.cell 1;simp at r0 r1 q0 q1 x0 x1 yi yL yO xe p0;go_wp2;go_region
 go_wp2;have B2:=((((E1.out.tl.hd.De 0 (.int .u64 0)).De 1 (.int .u64 0)).Je (p:=⟨w.heap.size+1+1+1,0,none⟩) (by simp) (.int .u64 ah)).Je (p:=⟨w.heap.size+1+1+1,1,none⟩) (by simp) (.int .u64 al)).drew;have B3:=((((E1.out.hd.Je (p:=⟨w.heap.size+1+1,0,none⟩) (by simp) (.int .u64 0)).Je (p:=⟨w.heap.size+1+1,1,none⟩) (by simp) (.int .u64 0)).De 0 (.int .u64 ah)).De 1 (.int .u64 al)).drew;refine AF (v:=.tuple #[.agg #[.int .u64 0,.int .u64 0],.agg #[.int .u64 ah,.int .u64 al],.int .i64 0]) (Ms results80 rfl rfl rfl (B2.Fd rfl) (B2.Fd rfl) (B3.Fd rfl) (B3.Fd rfl)) rfl ⟨?_,?_⟩
 ·rw[tU.out,dF.out];rfl
 ·exact((((E1.out.DI.setCell (by simp<;>omega) _).setCell (by simp<;>omega) _).setCell (by simp<;>omega) _).setCell (by simp<;>omega) _).drew
theorem kU(a b:Nat)(hb:0<b)(FI:b<18446744073709551616)(ha:a<2^128):
 DB (a/b)=((a/18446744073709551616/b:Nat):Int)/\DE (a/b)=(((a/18446744073709551616%b*18446744073709551616+a%18446744073709551616)/b:Nat):Int)/\
  a%b=(a/18446744073709551616%b*18446744073709551616+a%18446744073709551616)%b:=by
 have hH:a/18446744073709551616<18446744073709551616:=by omega
 have e:a=18446744073709551616*(a/18446744073709551616)+a%18446744073709551616:=(CM a _).symm;have hL:a%18446744073709551616<18446744073709551616:=BN _ (by decide);generalize a/18446744073709551616=H at*;generalize a%18446744073709551616=L at*;subst e;have eH:=CM H b;have hr:=BN H hb;have hq:H/b<=H:=Bu H b;generalize H/b=Q at*;generalize H%b=R at*;have hx:(R*18446744073709551616+L)/b<18446744073709551616:=by
  rw[ASe hb];have:(R+1)*18446744073709551616<=b*18446744073709551616:=BU _ hr;rw[AZ 18446744073709551616 b];omega
 have e2:18446744073709551616*H+L=b*(18446744073709551616*Q)+(R*18446744073709551616+L):=by
  rw[<-eH,BM,ASw];omega
 rw[e2,ASc hb,ASv];generalize (R*18446744073709551616+L)/b=xx at*;refine⟨?_,?_,rfl⟩
 ·unfold DB;omega
 ·unfold DE;omega
theorem vB(a b:Nat)(ha:a<2^128)(FI:b<18446744073709551616)(h0:0<b)(LU:b<=a)(w:World):
 Calls prog 80 #[.agg #[.int .u64 (DB a),.int .u64 (DE a)],.agg #[.int .u64 0,.int .u64 (b:Int)]] w (Rk (a/b) (a%b) 0 w):=by
 have HC:=I (fun w'=>PF (DB a) (DE a) 0 (b:Int) a b (WN.mk' a ha) ⟨by unfold DB;omega,by unfold DE;omega,by omega⟩ w');have YW:=Ox LU;obtain⟨m1,m2,m3⟩:=kU a b h0 FI ha;have M1:=I m1;have M2:=I m2;have M3:=I m3;have ZV:DB a=((a/18446744073709551616:Nat):Int):=by unfold DB;rfl
 have ZS:DE a=((a%18446744073709551616:Nat):Int):=by unfold DE;rfl
 have hH:a/18446744073709551616<18446744073709551616:=by omega
 have hL:a%18446744073709551616<18446744073709551616:=BN _ (by decide);have hR:a/18446744073709551616%b<b:=BN _ h0;have HD:=I (fun w=>kq (a/18446744073709551616%b) (a%18446744073709551616) b hR hL FI w);have hlz:((b:Int)==0)=false:=by simp;omega
 rw[ZV,ZS];rw[ZV,ZS]at HC;clear m1 m2 m3 ZV ZS ha LU;have hmr:a%b<b:=BN _ h0;have HRZ:=I (show DB (a%b)=0/\DE (a%b)=((a%b:Nat):Int)from⟨by unfold DB;omega,by unfold DE;omega⟩);clear hmr;generalize GU a b=cc at*;generalize a/18446744073709551616=H at*;generalize a%18446744073709551616=L at*;have AMg:(0:Int)<=(b:Int):=by omega
 have E:=I (((((AI w).lay #[.int .u64 (H:Int),.int .u64 (L:Int)] 57).lay #[.int .u64 0,.int .u64 (b:Int)] 57).lay #[.int .u64 0,.int .u64 0] 57).lay #[.int .u64 0,.int .u64 0] 57);simp only[Az]at E;go_in;go_wp2_with fail
 refine(HC.out _).mono ?_;rintro e' w1 ⟨rfl,C6⟩;have E1:=I (E.out.below C6);clear C6 E;have p0:=E1.out.hd.lt;have r0:=E1.out.hd.cell 0;have r1:=E1.out.hd.cell 1;have yi:=E1.out.hd.frozen 0;have yL:=E1.out.hd.frozen 1;have q0:=E1.out.tl.hd.cell 0;have q1:=E1.out.tl.hd.cell 1;have yO:=E1.out.tl.hd.frozen 0;have xe:=E1.out.tl.hd.frozen 1;have x0:=E1.out.tl.tl.tl.hd.cell 0;have x1:=E1.out.tl.tl.tl.hd.cell 1;have y0:=E1.out.tl.tl.hd.cell 0;have y1:=E1.out.tl.tl.hd.cell 1;simp at r0 r1 q0 q1 x0 x1 y0 y1 yi yL yO xe p0;have hQb:H/b<=H:=Bu H b;have eq1:(H:Int)/(b:Int)=((H/b:Nat):Int):=(Int.natCast_ediv H b).symm;have eq2:(H:Int)%(b:Int)=((H%b:Nat):Int):=(Int.natCast_emod H b).symm
 generalize H/b=Q at*;generalize H%b=R at*;have eqw:IntKind.u64.wrap (Q:Int)=(Q:Int):=by rw[CA];omega
 have eR:(R*18446744073709551616+L)/b<18446744073709551616:=by
  rw[ASe h0];have:(R+1)*18446744073709551616<=b*18446744073709551616:=BU _ hR;rw[AZ 18446744073709551616 b];omega
 have hxr:(R*18446744073709551616+L)%b<b:=BN _ h0;generalize (R*18446744073709551616+L)/b=X at*;generalize (R*18446744073709551616+L)%b=Y at*;go_wp2;go_region
 rw[eq2];clear eq1 eq2 eqw;go_wp2_with fail
 refine(HD.out _).mono ?_;rintro e' w2 ⟨rfl,DK⟩;have E2:=I (E1.out.drew.below DK);clear DK p0 r0 r1 yi yL q0 q1 yO xe x0 x1 y0 y1 E1;have p0:=E2.out.hd.lt;have r0:=E2.out.hd.cell 0;have r1:=E2.out.hd.cell 1;have yi:=E2.out.hd.frozen 0;have yL:=E2.out.hd.frozen 1;have q0:=E2.out.tl.hd.cell 0;have q1:=E2.out.tl.hd.cell 1;have yO:=E2.out.tl.hd.frozen 0;have xe:=E2.out.tl.hd.frozen 1;simp at r0 r1 q0 q1 yi yL yO xe p0;go_wp2;have B2:=(((E2.out.tl.hd.De 0 (.int .u64 (Q:Int))).De 1 (.int .u64 (X:Int))).Je (p:=⟨w.heap.size+1+1+1,0,none⟩) (by simp) (.int .u64 0)).Je (p:=⟨w.heap.size+1+1+1,1,none⟩) (by simp) (.int .u64 (Y:Int));have B3:=(((E2.out.hd.Je (p:=⟨w.heap.size+1+1,0,none⟩) (by simp) (.int .u64 (Q:Int))).Je (p:=⟨w.heap.size+1+1,1,none⟩) (by simp) (.int .u64 (X:Int))).De 0 (.int .u64 0)).De 1 (.int .u64 (Y:Int))
 refine AF (v:=.tuple #[.agg #[.int .u64 (Q:Int),.int .u64 (X:Int)],.agg #[.int .u64 0,.int .u64 (Y:Int)],.int .i64 0]) (Ms results80 rfl rfl rfl (B2.Fd rfl) (B2.Fd rfl) (B3.Fd rfl) (B3.Fd rfl)) rfl ⟨?_,?_⟩
 ·rw[M1.out,M2.out,HRZ.out.1,HRZ.out.2,M3.out]
 ·exact(((E2.out.DI.setCell (by simp<;>omega) _).setCell (by simp<;>omega) _).setCell (by simp<;>omega) _).setCell (by simp<;>omega) _
theorem tj(a b:Nat)(ha:a<2^128)(hb:b<2^128)(MH:18446744073709551616<=b)(LU:b<=a)(w:World):
 Calls prog 80 #[.agg #[.int .u64 (DB a),.int .u64 (DE a)],.agg #[.int .u64 (DB b),.int .u64 (DE b)]] w (Rk (a/b) (a%b) 0 w):=by
 obtain⟨k,hk⟩:∃k,k+Bt.D6 b=Bt.D6 a:=⟨_,ATO (Lg.mB LU)⟩;have HC:=I (fun w'=>PF _ _ _ _ a b (WN.mk' a ha) (WN.mk' b hb) w');have HLA:=I (fun w'=>OY _ _ a (WN.mk' a ha) w');have tG:=I (fun w'=>OY _ _ b (WN.mk' b hb) w');have YW:=Ox LU;have HK:=I hk;have AMJ:=Lg.AGR ha MH hk;have FI:=Bt.Ew ha;have HUF:=I (fun i hi=>Lg.jG (a:=a) (b:=b) (k:=k) (i:=i) (by omega) ha hk hi);have GB:=I (Lg.start (a:=a) (b:=b) (k:=k) (by omega) hk);have HA:=I ha;have HB:=I hb;have zz:=I MH;have hhz:(DB b==0)=false:=by
  have:0<DB b:=by(unfold DB;omega)
  simp;omega
 generalize GU a b=cc at*;generalize ZV:DB a=ah at*;generalize ZS:DE a=al at*;generalize hbh:DB b=bh at*;generalize Hi:DE b=bl at*;have tU:=I ZV;have dF:=I ZS;have HBH:=I hbh;have Un:=I Hi;have HKI:=I (show((Bt.D6 a:Nat):Int)- (Bt.D6 b:Nat)=(k:Int)by omega);have oH:Bt.D6 b<=128:=by omega
 generalize Bt.D6 a=la at*;generalize Bt.D6 b=lb at*;clear ZV ZS hbh Hi ha hb MH LU hk;have E:=I (((((AI w).lay #[.int .u64 ah,.int .u64 al] 57).lay #[.int .u64 bh,.int .u64 bl] 57).lay #[.int .u64 0,.int .u64 0] 57).lay #[.int .u64 0,.int .u64 0] 57);simp only[Az]at E;go_in;go_wp2_with fail
 refine(HC.out _).mono ?_;rintro e' w1 ⟨rfl,C6⟩;have E1:=I (E.out.below C6);clear C6 E;have x0:=E1.out.tl.tl.tl.hd.cell 0;have x1:=E1.out.tl.tl.tl.hd.cell 1;have y0:=E1.out.tl.tl.hd.cell 0;have y1:=E1.out.tl.tl.hd.cell 1;simp at x0 x1 y0 y1
 go_upto_region 10 with fail
 have HS:=I (show∀w',Below w1.heap.size w1 w'->(Below w1.heap.size w1 w'/\w'.cell? ⟨w.heap.size,0,none⟩=some (.int .u64 ah)/\w'.cell? ⟨w.heap.size,1,none⟩=some (.int .u64 al)/\w'.cell? ⟨w.heap.size+1,0,none⟩=some (.int .u64 bh)/\w'.cell? ⟨w.heap.size+1,1,none⟩=some (.int .u64 bl))
  from fun w' h=>⟨h,(E1.out.below h).tl.tl.tl.hd.cell 0,(E1.out.below h).tl.tl.tl.hd.cell 1,(E1.out.below h).tl.tl.hd.cell 0,(E1.out.below h).tl.tl.hd.cell 1⟩)
 clear x0 x1 y0 y1;have Sm:True:=trivial;go_cut [11] (fun s11 wx=>s11=.int .i64 k/\Below w1.heap.size w1 wx)
 case first=>
  go_region_held3 (fun w'=>Below w1.heap.size w1 w'/\w'.cell? ⟨w.heap.size,0,none⟩=some (.int .u64 ah)/\w'.cell? ⟨w.heap.size,1,none⟩=some (.int .u64 al)/\w'.cell? ⟨w.heap.size+1,0,none⟩=some (.int .u64 bh)/\w'.cell? ⟨w.heap.size+1,1,none⟩=some (.int .u64 bl))
   ((refine HS.out _ ?_;repeat (with_reducible first|exact G8|exact NI|exact AA|refine AE ?_)))
   (first
     |(go_at_call 89;have _t:=Sm;(with_reducible refine(HLA.out _).mono ?_);rintro e' w2 ⟨rfl,DK⟩;have NI:Below w1.heap.size w1 w2:=Below.Ej (by repeat (with_reducible first|exact AA|refine AE ?_)) DK;clear Sm _t)
     |(go_at_call 89;(with_reducible refine(tG.out _).mono ?_);rintro e' w3 ⟨rfl,DT⟩;have G8:Below w1.heap.size w1 w3:=Below.Ej (by repeat (with_reducible first|exact NI|refine AE ?_)) DT))
  all_goals
   rename_i hheld;have DY:=hheld.1;clear hheld HS;go_wp2_with fail
   go_meet
   exact⟨by rw[HKI.out,Ca _ (by omega)],DY⟩
 case rest=>
  obtain⟨rfl,DY⟩:=hcut;have E2:=I (E1.out.below DY);clear DY HS E1 Sm;have E3:=I (show Env w wc [(w.heap.size,57,#[.int .u64 (DB a),.int .u64 (DE a)]),(w.heap.size+1,57,#[.int .u64 bh,.int .u64 bl]),(w.heap.size+1+1,57,#[.int .u64 0,.int .u64 0]),(w.heap.size+1+1+1,57,#[.int .u64 0,.int .u64 0])]by
   rw[tU.out,dF.out];exact E2.out.drop fun x hx=>by simp at hx⊢;rcases hx with h|h|h|h<;>simp[h])
  clear E2;go_wp2_with fail
  go_loopw [10,11] (fun qv nv wr=>∃j q r:Nat,j<=k+1/\nv=.int .i64 ((j:Int)- 1)/\qv=.int .u64 (q:Int)/\Lg.Inv a b j q r/\Env w wr [(w.heap.size,57,#[.int .u64 (DB r),.int .u64 (DE r)]),(w.heap.size+1,57,#[.int .u64 bh,.int .u64 bl]),(w.heap.size+1+1,57,#[.int .u64 0,.int .u64 0]),(w.heap.size+1+1+1,57,#[.int .u64 0,.int .u64 0])]) (fun _ nv _=>(intOf nv+1).toNat)
  case atStart=>exact⟨k+1,0,a,AB,by simp,rfl,GB.out,E3.out⟩
  case round=>
   obtain⟨j,q,r,hj,rfl,rfl,hinv,hE⟩:=hrel;have F:=I hE;have HI:=I hinv;obtain⟨tn,ADW⟩:=Lg.qlt hinv HA.out zz.out;clear hE hinv E3 GB;rcases Ac j with tI|tI
   ·subst tI
    obtain⟨d1,d2⟩:=Lg.done HI.out;have D1:=I d1;have D2:=I d2;clear d1 d2;have x0:=F.out.hd.cell 0;have x1:=F.out.hd.cell 1;have q0:=F.out.tl.tl.hd.cell 0;have q1:=F.out.tl.tl.hd.cell 1;have g0:=F.out.tl.tl.hd.frozen 0;have g1:=F.out.tl.tl.hd.frozen 1;have r0:=F.out.tl.tl.tl.hd.cell 0;have r1:=F.out.tl.tl.tl.hd.cell 1;have g2:=F.out.tl.tl.tl.hd.frozen 0;have g3:=F.out.tl.tl.tl.hd.frozen 1;simp at x0 x1 q0 q1 r0 r1 g0 g1 g2 g3;go_wp2;go_region
    go_wp2;have B2:=((((F.out.tl.tl.hd.De 0 (.int .u64 0)).De 1 (.int .u64 (q:Int))).Je (p:=⟨w.heap.size+1+1+1,0,none⟩) (by simp) (.int .u64 (DB r))).Je (p:=⟨w.heap.size+1+1+1,1,none⟩) (by simp) (.int .u64 (DE r))).drew;have B3:=((((F.out.tl.tl.tl.hd.Je (p:=⟨w.heap.size+1+1,0,none⟩) (by simp) (.int .u64 0)).Je (p:=⟨w.heap.size+1+1,1,none⟩) (by simp) (.int .u64 (q:Int))).De 0 (.int .u64 (DB r))).De 1 (.int .u64 (DE r))).drew;refine AF (v:=.tuple #[.agg #[.int .u64 0,.int .u64 (q:Int)],.agg #[.int .u64 (DB r),.int .u64 (DE r)],.int .i64 0]) (Ms results80 rfl rfl rfl (B2.Fd rfl) (B2.Fd rfl) (B3.Fd rfl) (B3.Fd rfl)) rfl ⟨?_,?_⟩
    ·rw[<-D1.out,<-D2.out]
     have t0:DB q=0:=by unfold DB;omega
     have t1:DE q=(q:Int):=by unfold DE;omega
     rw[t0,t1]
    ·exact((((F.out.DI.setCell (by simp<;>omega) _).setCell (by simp<;>omega) _).setCell (by simp<;>omega) _).setCell (by simp<;>omega) _).drew
   ·obtain⟨i,rfl⟩:∃i,j=i+1:=⟨j- 1,by omega⟩
    have e0:((i+1:Nat):Int)- 1=(i:Int):=by omega
    rw[e0];clear e0;have hik:i<=k:=by omega
    have hup:=HUF.out i hik;have zN:=I (fun w'=>iD bh bl b (i:Int) ⟨HBH.out.symm,Un.out.symm,HB.out⟩ (by omega) (by omega) w');have j4:b*2^((i:Int)).toNat%2^128=b*2^i:=by rw[Bp];exact B8 hup
    rw[j4]at zN;clear j4;have HSB:=I (fun w'=>Rd _ _ _ _ r (b*2^i) (WN.mk' r ADW) (WN.mk' (b*2^i) hup) w');have nQ:=I (show b*2^i<=r->Lg.Inv a b i (q ||| 2^i) (r-b*2^i)from Lg.more HI.out);have aW:=I (show r<b*2^i->Lg.Inv a b i q r from Lg.less HI.out);have ABo:2^i<18446744073709551616:=Bk (Ax (by omega) (show i<=63 by omega)) (by decide);have Tk:0<2^i:=Bi i;have HOR:=I (u64_or_nat q (2^i) tn ABo);have nL:=I (show b*2^i<=r->Zw r (b*2^i)=0 from fun h=>AD h);have pU:=I (show¬b*2^i<=r->Zw r (b*2^i)=7 from fun h=>AC h);generalize b*2^i=up at*;have x0:=F.out.hd.cell 0;have x1:=F.out.hd.cell 1
    have y0:=F.out.tl.hd.cell 0;have y1:=F.out.tl.hd.cell 1;simp at x0 x1 y0 y1
    go_upto_region 13 with fail
    have HS:=I (show∀w',Below wr.heap.size wr w'->(Below wr.heap.size wr w'/\w'.cell? ⟨w.heap.size,0,none⟩=some (.int .u64 (DB r))/\w'.cell? ⟨w.heap.size,1,none⟩=some (.int .u64 (DE r))/\w'.cell? ⟨w.heap.size+1,0,none⟩=some (.int .u64 bh)/\w'.cell? ⟨w.heap.size+1,1,none⟩=some (.int .u64 bl))
     from fun w' h=>⟨h,(F.out.below h).hd.cell 0,(F.out.below h).hd.cell 1,(F.out.below h).tl.hd.cell 0,(F.out.below h).tl.hd.cell 1⟩)
    clear x0 x1 y0 y1;generalize hse:Zw r up=se at*;have HSE:=I hse;clear hse;go_cut [12,13] (fun s12 s13 wx=>s13=.int .i64 se/\Got wr (r-up) s12 wx)
    case first=>
     go_region_held3 (fun w'=>Below wr.heap.size wr w'/\w'.cell? ⟨w.heap.size,0,none⟩=some (.int .u64 (DB r))/\w'.cell? ⟨w.heap.size,1,none⟩=some (.int .u64 (DE r))/\w'.cell? ⟨w.heap.size+1,0,none⟩=some (.int .u64 bh)/\w'.cell? ⟨w.heap.size+1,1,none⟩=some (.int .u64 bl))
      ((refine HS.out _ ?_;repeat (first|(with_reducible exact tz)|(with_reducible exact YO)|(with_reducible exact AA)|(with_reducible refine Below.al' ?_)|(with_reducible refine AE ?_)|((with_reducible refine AS3 ?_ ?_ _);rotate_left;·(first|omega|simp<;>omega)))))
      (first
        |(go_at_call 163;(with_reducible refine(zN.out _).mono ?_);rintro e' w4 ⟨rfl,EL⟩;have sJ:=EL.size;(try simp at sJ);obtain⟨zJ,hf4⟩:=S8 EL;(try simp only[Az,World.heap_drew]at zJ);(try simp only[Az,World.heap_drew]at hf4);(try (have Wb:=ASm sJ));(try (have bB:=ASn Wb));(try (have hu4:=Cy Wb));(try (have AEb:=Cy bB));(try (have AEY:=Cy hu4));have YO:Below wr.heap.size wr w4:=Below.Ej (by repeat (with_reducible first|exact AA|refine Below.al' ?_|refine AE ?_)) EL)
        |(go_at_call 76;(with_reducible refine(HSB.out _).mono ?_);rintro e' w5 ⟨rfl,Eh⟩;have Yf:=Eh.size;(try simp at Yf);obtain⟨hc5,x9⟩:=S8 Eh;(try simp only[Az,World.heap_drew]at hc5);(try simp only[Az,World.heap_drew]at x9);(try (have fV:=ASm Yf));(try (have vZ:=ASn fV));(try (have ZQ:=AJ Wb Yf));(try (have af:=AJ bB Yf));(try (have dq:=CB Wb fV));(try (have qm:=CB bB fV));(try (have hv5:=CB Wb vZ));(try (have zO:=CB bB vZ));have tz:Below wr.heap.size wr w5:=Below.Ej (by repeat (with_reducible first|exact YO|exact AA|refine Below.al' ?_|refine AE ?_)) Eh))
     all_goals
      rename_i hheld;have DY:=hheld.1;clear hheld HS;go_wp2_with fail
      go_meet
      refine⟨rfl,?_⟩;first
       |with_reducible exact xW DY
       |((with_reducible refine vA DY ?_);first|exact⟨_,_,(DJ.new _ _ _).below Eh (by(first|omega|simp<;>omega))⟩|exact⟨_,_,((DJ.new _ _ _).drew.below EL (by(first|omega|simp<;>omega))).below Eh (by(first|omega|simp<;>omega))⟩|exact⟨_,_,((DJ.new _ _ _).below EL (by(first|omega|simp<;>omega))).below Eh (by(first|omega|simp<;>omega))⟩)
    case rest=>
     obtain⟨rfl,g,rfl,DY,S0⟩:=hcut;have F2:=I (F.out.below DY);have d0:=S0.cell 0;have d1:=S0.cell 1;have x0:=F2.out.hd.cell 0;have x1:=F2.out.hd.cell 1;have f0:=F2.out.hd.frozen 0;have f1:=F2.out.hd.frozen 1;simp at d0 d1 x0 x1 f0 f1;have Qh:(2:Int)^i=((2^i:Nat):Int):=(ATX 2 i).symm;clear DY S0 HS zN HSB F HUF;by_cases hle:up<=r
     ·have PR:se=0:=nL.out hle
      subst PR;have HM:=I (nQ.out hle);have ik:=HOR.out;clear nQ aW hle nL pU HSE;generalize q ||| 2^i=q2 at*;generalize 2^i=pp at*;generalize r-up=r2 at*;have F3:=I (na (na F2.out (by simp;omega) 0 (.int .u64 (DB r2))) (by simp;omega) 1 (.int .u64 (DE r2))).drew;go_wp2;go_region
      go_wp2
      go_roundw
      case rel=>exact⟨i,q2,r2,by omega,by simp,rfl,HM.out,F3.out⟩
      case measure=>simp[intOf]
     ·have PR:se=7:=pU.out hle
      subst PR;have HM:=I (aW.out (by omega));clear nQ aW hle nL pU HSE Qh HOR;go_wp2
      go_roundw
      case rel=>exact⟨i,q,r,by omega,by simp,rfl,HM.out,F2.out⟩
      case measure=>simp[intOf]
theorem Tz(a b:Nat)(ha:a<2^128)(hb:b<2^128)(h0:0<b)(w:World):
 Calls prog 80 #[.agg #[.int .u64 (DB a),.int .u64 (DE a)],.agg #[.int .u64 (DB b),.int .u64 (DE b)]] w (Rk (a/b) (a%b) 0 w):=by
 rcases Ah a b with DG|LU
 ·rw[Cq DG,B8 DG]
  by_cases hp:0<DB b
  ·exact fZ a b ha hb DG hp w
  ·exact gA a b ha hb DG (by have:=(Eo b hb).1;omega) w
 ·rcases Ah b 18446744073709551616 with h|h
  ·have e0:DB b=0:=by unfold DB;omega
   have e1:DE b=(b:Int):=by unfold DE;omega
   rw[e0,e1];exact vB a b ha h h0 LU w
  ·exact tj a b ha hb h LU w
open Go.Lib
def Jb(l:List Nat):List Value:=l.map fun d=>Value.int .u8 ((48+d:Nat):Int)
theorem rQ{W:World}{g:Nat}{t:TypeId}{cs:Array Value}(ns:List Int)(h:DJ W g t cs)(EO:∀(j:Nat) v,(ns.map (Value.int .u8))[j]? =some v->cs[j]? =some v)(l c:Nat)(hl:l=ns.length):
 (convert 42 9 (.slice (some ⟨g,0,none⟩) l c)).run prog W=.ok (.string ⟨(ns.map u8).toArray⟩) W:=by
 subst hl;rw[run_convert_bytes_string W _ _ 5 _ _ _ underlying42 underlying5 underlying9];have hc:(loadCells ⟨g,0,none⟩ ns.length).run prog W=.ok (ns.map (Value.int .u8)).toArray W:=by
  have:=ATu (P:=prog) W ⟨g,0,none⟩ (ns.map (Value.int .u8)) (fun j v hv=>by
   have I1:(⟨g,0,none⟩:Addr).add j=⟨g,j,none⟩:=by unfold Addr.add;split<;>simp_all
   rw[I1,h.cell j];exact EO j v hv)
  simpa using this
 rw[run_bytesToString W ⟨g,0,none⟩ ns.length c ns hc,fold_push];rfl
theorem AAt(n:Nat):(⟨(((Dc.I3 n).reverse.map fun d=>((48+d:Nat):Int)).map u8).toArray⟩:ByteArray)=Dc.YK n:=by
 unfold Dc.YK;rw[AS4];congr 2
theorem aA{w w':World}{g B n:Nat}{t e:TypeId}{cs:Array Value}{v:Value}{xs:List Value}{o:Obj}(h:DJ w g t cs)(ho:w.ownsRow B e 1 v n xs)(hte:t≠e)(hg:(w.alloc o).grownBy w' v.ownBlock):DJ w' g t cs:=
 (hg.block g (h.alloc o).lt fun e'=>ownBlock_ne ho h hte e'.symm).trans (h.alloc o)
theorem oy{cur:Array Value}{D:List Nat}(hx:cur.toList.take (D.length*1)=Jb D)(k:Nat)(hk:k<D.length):cur[k]? =some (.int .u8 ((48+D.getD k 0:Nat):Int)):=by
 have h1:(Jb D)[k]? =some (.int .u8 ((48+D.getD k 0:Nat):Int)):=by simp[Jb,List.getD,hk]
 rw[<-hx,ASo,AD (by omega)]at h1
 simpa using h1
theorem jy{ds cur:Array Value}{D:List Nat}(hx:cur.toList.take (D.length*1)=Jb D)(hd:∀k,k<D.length->ds[k]? =cur[D.length- 1-k]?):
 ∀(j:Nat) v,((D.reverse.map fun d=>((48+d:Nat):Int)).map (Value.int .u8))[j]? =some v->ds[j]? =some v:=by
 intro j v hj;have IJ:j<D.length:=by
  have:=(CQ.1 hj).1
  simpa using this
 rw[hd j IJ,oy hx _ (by omega),<-hj,ATJ,ATJ,List.getElem?_reverse IJ];simp[List.getD,show D.length- 1-j<D.length by omega]
theorem wk:(Tryz.prog.info? 5).map (fun i=>(i.zero,i.size,i.bytes))=some (some (.int .u8 0),1,1):=by kernel_rfl
theorem kb(l:List Nat):∀u∈Jb l,u.oneCell'=true:=by
 intro u hu;obtain⟨x,_,rfl⟩:=BD.1 hu;rfl
theorem kH(w:World)(e:TypeId)(d:Nat):Reads (w.alloc (.cells #[.int .u8 ((48+d:Nat):Int)] e)) (w.heap.size+1) 1 (some ⟨w.heap.size,0,none⟩) 1 (Jb [d]):=
 ⟨rfl,fun _=>⟨_,rfl,by simp,fun j u hj=>by
   match j,hj with
   |0,hj=>simp[Jb]at hj;subst hj;exact(DJ.new w e #[.int .u8 ((48+d:Nat):Int)]).cell 0⟩⟩
theorem px(n:Nat)(hn:n<2^128)(w:World):
 Calls prog 88 #[.agg #[.int .u64 (DB n),.int .u64 (DE n)]] w fun e w'=>e=.returned (.string (Dc.YK n))/\Below w.heap.size w w':=by
 obtain⟨i0,hi,Fq,FZ,Fe⟩:=AO wk;have H39:=Dc.T8 hn;have tD:=I (show∀a,a<2^128->∀w,Calls prog 80 #[.agg #[.int .u64 (DB a),.int .u64 (DE a)],.agg #[.int .u64 0,.int .u64 10]] w fun e w'=>e=.returned (.tuple #[.agg #[.int .u64 (DB (a/10)),.int .u64 (DE (a/10))],.agg #[.int .u64 0,.int .u64 ((a%10:Nat):Int)],.int .i64 0])/\Below w.heap.size w w' from fun a ha w=>by
  have:=Tz a 10 ha (by decide) (by decide) w;have e1:DB 10=0:=by decide
  have e2:DE 10=10:=by decide
  have e3:DB (a%10)=0:=by unfold DB;omega
  have e4:DE (a%10)=((a%10:Nat):Int):=by unfold DE;omega
  unfold Rk at this;rw[e1,e2,e3,e4]at this;exact this)
 have E:=I ((AI w).lay #[.int .u64 (DB n),.int .u64 (DE n)] 57);have HN:=I hn;clear hn;go_in;go_wp2;go_loopw [3] (fun v wr=>∃(a:Nat)(pre:List Nat),a<2^128/\pre++Dc.I3 a=Dc.I3 n/\wr.ownsRow (w.heap.size+1) 5 1 v pre.length (Jb pre)/\DJ wr w.heap.size 57 #[.int .u64 (DB a),.int .u64 (DE a)]/\Below w.heap.size w wr) (fun v _=>40-lenOf v)
 case atStart=>exact⟨n,[],HN.out,rfl,⟨by simp[Jb],.inl ⟨rfl,rfl⟩⟩,by simpa using E.out.hd,E.out.DI⟩
 case round=>
  obtain⟨a,pre,ha,zQ,DL,Hh,DY⟩:=hrel;obtain⟨A1,c1,rfl⟩:=Cz DL;have hlen:pre.length+(Dc.I3 a).length=(Dc.I3 n).length:=by rw[<-zQ,AN]
  have GI:=Dc.Yp a;have hr9:a%10<10:=BN _ (by omega);have N8:=fun h:a<10=>Dc.Gs h;have GV:=fun h:10<=a=>Dc.Kq h;have PRE:=I zQ;have OW:=I DL;have BK:=I Hh;have BL:=I DY;have x0:=BK.out.cell 0;have x1:=BK.out.cell 1;have p0:=BK.out.lt;simp at x0 x1;have HD1:=I (tD.out a ha);have HA:=I ha;have HD2:=I N8;have HD3:=I GV;clear zQ DL Hh DY ha N8 GV;go_wp2_with fail
  refine(HD1.out _).mono ?_;rintro e' w1 ⟨rfl,C6⟩;have ct:=C6.size;have BK1:=I (BK.out.below C6 p0);have UC:=I (BL.out.trans (C6.mono BL.out.size));have OW1:=I (Ef OW.out C6);clear C6 x0 x1 BK BL OW HD1;have hw8:IntKind.u8.wrap ((a%10:Nat):Int)=((a%10:Nat):Int):=by rw[AS2];omega
  generalize hr:a%10=r at*;have wG:IntKind.u8.wrap (48+(r:Int))=((48+r:Nat):Int):=by rw[AS2];omega
  have HR:=I hr;clear hr;have q0:=Eo (a/10) (by have:=HA.out;omega);have q1:=Fy (a/10)
  go_upto_region 3 with fail
  have tQ:=I ((OW1.out.alloc (.cells #[.int .u64 (DB (a/10)),.int .u64 (DE (a/10))] 57)).alloc (.cells #[.int .u64 0,.int .u64 (r:Int)] 57));have BK2:=I ((BK1.out.alloc (.cells #[.int .u64 (DB (a/10)),.int .u64 (DE (a/10))] 57)).alloc (.cells #[.int .u64 0,.int .u64 (r:Int)] 57));have tS:=I ((UC.out.alloc UC.out.size (.cells #[.int .u64 (DB (a/10)),.int .u64 (DE (a/10))] 57)).alloc (by have:=UC.out.size;simp;omega) (.cells #[.int .u64 0,.int .u64 (r:Int)] 57));have K4:=I ((DJ.new w1 57 #[.int .u64 (DB (a/10)),.int .u64 (DE (a/10))]).alloc (.cells #[.int .u64 0,.int .u64 (r:Int)] 57));have K5:=I (DJ.new (w1.alloc (.cells #[.int .u64 (DB (a/10)),.int .u64 (DE (a/10))] 57)) 57 #[.int .u64 0,.int .u64 (r:Int)])
  have WP:w1.heap.size+1+1=((w1.alloc (.cells #[.int .u64 (DB (a/10)),.int .u64 (DE (a/10))] 57)).alloc (.cells #[.int .u64 0,.int .u64 (r:Int)] 57)).heap.size:=by simp
  simp only[Az]at K5;generalize IK:World.alloc (World.alloc w1 _) _=w2 at*;clear IK;have x1:=K5.out.cell 1;simp at x1;go_wp2_with (at_builtin;refine Dd _ rfl _ _ 42 rfl (w.heap.size+1) 5 i0 (.int .u8 0) 1 1 underlying42 hi Fq FZ Fe rfl (by decide) _ _ _ rfl (tQ.out.alloc _) _ _ 1 _ _ rfl (kH w2 _ r) (kb [r]) ?c1 ?c2 ?c3 ?_)
  case c1=>unfold maxLen;omega
  case c2=>omega
  case c3=>have:=BK2.out.lt;simp;omega
  intro v3 w3 JN Nk tF;have BK3:=I (aA BK2.out tQ.out (by decide) Nk);have K43:=I (aA K4.out tQ.out (by decide) Nk);have BL3:=I ((tS.out.alloc tS.out.size _).grown Nk (by have:=tS.out.size;simp;omega) (fun k hk=>by have:=(tQ.out.lt k hk).1;omega));obtain⟨A3,c3,rfl⟩:=Cz JN;have O3:=I JN;clear Nk tF JN x1 K4 K5 BK2 BK1 UC tS OW1 tQ;have x0:=K43.out.cell 0;have x1:=K43.out.cell 1;have y0:=BK3.out.cell 0;have y1:=BK3.out.cell 1;have f0:=BK3.out.frozen 0;have f1:=BK3.out.frozen 1;simp at x0 x1 y0 y1;have hrc:(pre++[r]).length=pre.length+1:=by simp
  have O3':=I (show w3.ownsRow (w.heap.size+1) 5 1 (.slice A3 (pre.length+1) c3) (pre.length+1) (Jb (pre++[r]))by simpa [Jb] using O3.out);clear O3;by_cases hq:a/10=0
  ·have hpn:pre++[r]=Dc.I3 n:=by
    have h1:=HD2.out (by omega);have h2:=PRE.out;have h3:=HR.out;rw[h1]at h2;rw[<-h2,show r=a by omega]
   have z0:DB (a/10)=0:=by rw[hq];decide
   have z1:DE (a/10)=0:=by rw[hq];decide
   rw[z0]at x0;rw[z1]at x1;rw[z0,z1];rw[hpn]at O3';have jJ:pre.length+1=(Dc.I3 n).length:=by rw[<-hpn];simp
   rw[jJ]at O3'⊢;clear hpn hrc hlen GI PRE HD2 HD3 hr9 hw8 wG q0 q1 z0 z1 HR;have hD1:=Dc.Yp n;have HTX:=I (AAt n);generalize hDN:Dc.I3 n=D at*;clear hDN;have OW4:=DV (DV O3'.out (a:=⟨w.heap.size,0,none⟩) (by simp) (.int .u64 0)) (a:=⟨w.heap.size,1,none⟩) (by simp) (.int .u64 0);have BL4:=I ((BL3.out.setCell (p:=⟨w.heap.size,0,none⟩) AB (.int .u64 0)).setCell (p:=⟨w.heap.size,1,none⟩) AB (.int .u64 0));rcases OW4.2 with⟨_,h0⟩|⟨g,cap,cur,hv,WJ,hg,Qj,hmc,ER,hx⟩
   ·omega
   injection hv with ZQ af dq
   subst ZQ dq;have HG:=I hg;have HX:=I hx;clear OW4 hg hx O3';go_wp2_with fail
   refine(uz g c3 D.length cur (by omega) (by omega) Qj (fun k hk=>⟨_,oy HX.out k hk⟩) _ HG.out).mono ?_;rintro e' w5 ⟨rfl,Eh,ds,NV,hs5,hd5⟩;have u5:=rQ (D.reverse.map fun d=>((48+d:Nat):Int)) NV (jy HX.out hd5) D.length c3 (by simp);rw[HTX.out]at u5;have BL5:=I (BL4.out.trans (Eh.mono (by omega)));clear hd5 NV Eh;go_wp2;go_ret;exact⟨rfl,BL5.out⟩
  ·have hnz:¬(DB (a/10)=0/\DE (a/10)=0):=by unfold DB DE;omega
   have FO:(pre++[r])++Dc.I3 (a/10)=Dc.I3 n:=by
    have h1:=HD3.out (by omega);rw[<-PRE.out,h1,Cs];rfl
   have PD:=I FO;have haq:a/10<2^128:=by have:=HA.out;omega
   have HAQ:=I haq;generalize a/10=q at*;have HE:=I (show∀W,DJ W w.heap.size 57 #[.int .u64 (DB q),.int .u64 (DE q)]->Below w.heap.size w W->W.ownsRow (w.heap.size+1) 5 1 (.slice A3 (pre.length+1) c3) (pre.length+1) (Jb (pre++[r]))->
    ∃(a:Nat)(ze:List Nat),a<2^128/\ze++Dc.I3 a=Dc.I3 n/\W.ownsRow (w.heap.size+1) 5 1 (.slice A3 (pre.length+1) c3) ze.length (Jb ze)/\DJ W w.heap.size 57 #[.int .u64 (DB a),.int .u64 (DE a)]/\Below w.heap.size w W
    from fun W h1 h2 h3=>⟨q,pre++[r],HAQ.out,PD.out,by rw[hrc];exact h3,h1,h2⟩)
   clear FO haq HA HR PRE HD2 HD3 PD HAQ hr9 hw8 wG;have HB:=I (show DJ ((w3.setCell ⟨w.heap.size,0,none⟩ (.int .u64 (DB q))).setCell ⟨w.heap.size,1,none⟩ (.int .u64 (DE q))) w.heap.size 57 #[.int .u64 (DB q),.int .u64 (DE q)]by simpa using (BK3.out.De 0 (.int .u64 (DB q))).De 1 (.int .u64 (DE q)));have HL:=I (show Below w.heap.size w ((w3.setCell ⟨w.heap.size,0,none⟩ (.int .u64 (DB q))).setCell ⟨w.heap.size,1,none⟩ (.int .u64 (DE q)))from(BL3.out.setCell AB _).setCell AB _);have HO:=I (DV (DV O3'.out (a:=⟨w.heap.size,0,none⟩) (by simp) (.int .u64 (DB q))) (a:=⟨w.heap.size,1,none⟩) (by simp) (.int .u64 (DE q)));generalize DB q=qh at*;generalize DE q=ql at*
   go_wp2;all_goals first
    |(exfalso;omega)
    |exact⟨HE.out _ HB.out HL.out HO.out,by simp[lenOf];omega⟩
    |(rename_i h0 h1;subst h0;exact⟨HE.out _ HB.out HL.out HO.out,by simp[lenOf];omega⟩)
theorem Qw(x:Nat)(h:x<18446744073709551616):DB x=0/\DE x=(x:Int):=⟨by unfold DB;omega,by unfold DE;omega⟩
theorem zc(a x:Nat)(ha:a<2^128)(hx:x<18446744073709551616)(h0:0<x)(w:World):
 Calls prog 80 #[.agg #[.int .u64 (DB a),.int .u64 (DE a)],.agg #[.int .u64 0,.int .u64 (x:Int)]] w (Rk (a/x) (a%x) 0 w):=by
 have:=Tz a x ha (by omega) h0 w;rw[(Qw x hx).1,(Qw x hx).2]at this;exact this
theorem oa(q x:Nat)(hq:q+x<2^128)(hx:x<18446744073709551616)(w:World):
 Calls prog 74 #[.agg #[.int .u64 (DB q),.int .u64 (DE q)],.agg #[.int .u64 0,.int .u64 (x:Int)]] w fun e w'=>
  e=.returned (.tuple #[.agg #[.int .u64 (DB (q+x)),.int .u64 (DE (q+x))],.int .i64 0])/\Below w.heap.size w w':=by
 have:=KZ (DB q) (DE q) 0 (x:Int) q x (WN.mk' q (by omega)) ⟨(Qw x hx).1.symm,(Qw x hx).2.symm,by omega⟩ w;rw[show JE (q+x)=q+x from AD hq,show NR (q+x)=0 from AD hq]at this;exact this
theorem half(s:Nat)(hs:s<2^128)(w:World):
 Calls prog 90 #[.agg #[.int .u64 (DB s),.int .u64 (DE s)],.int .i64 1] w fun e w'=>
  e=.returned (.tuple #[.agg #[.int .u64 (DB (s/2)),.int .u64 (DE (s/2))],.int .i64 0])/\Below w.heap.size w w':=by
 have:=vW (DB s) (DE s) s 1 (WN.mk' s hs) (by omega) (by omega) w;rw[show((1:Int)).toNat=1 from rfl,Nat.pow_one]at this;exact this
theorem wX(a r:Nat)(ha:a<2^128)(hr:Rt.Mo a r)(w:World):
 Calls prog 28 #[.agg #[.int .u64 (DB a),.int .u64 (DE a)]] w fun e w'=>e=.returned (.int .u64 (r:Int))/\Below w.heap.size w w':=by
 have HR:=I hr;have HA:=I ha;have hrl:=Rt.Yg hr ha;have bo:=I (fun w=>OY (DB a) (DE a) a (WN.mk' a ha) w);have qz:=I (fun x hx h0 w=>zc a x ha hx h0 w);have tG:=I (show a<2^Bt.D6 a from Bt.KY a);have hlen:=Bt.Ew ha;obtain⟨a1,a2⟩:=Eo a ha;obtain⟨a3,a4⟩:=Fy a;have E:=I ((AI w).lay #[.int .u64 (DB a),.int .u64 (DE a)] 57);by_cases hsm:a<2
 ·have h0:DB a=0:=by unfold DB;omega
  have h1:DE a=(a:Int):=by unfold DE;omega
  have HQ:=I (show a=r from Rt.Tn hr (by rcases (show a=0\/a=1 by omega)with h|h<;>subst h<;>decide) (by rcases (show a=0\/a=1 by omega)with h|h<;>subst h<;>decide));rw[h0,h1]at E⊢;have WP:(a:Int)<2:=by omega
  clear h0 h1 hr ha qz tG a1 a2 a3 a4;go_in;go_wp2;go_ret;exact⟨by rw[<-HQ.out];rfl,E.out.DI⟩
 ·have wO:=I (show 2<=a by omega)
  have AAX:(DB a==0&&decide (DE a<2))=false:=by
   by_cases h:DB a=0
   ·have:¬DE a<2:=by unfold DB at h;unfold DE;omega
    simp[this]
   ·simp[h]
  have ik:(¬DB a=0)\/(DB a=0/\¬DE a<2):=by unfold DB DE;omega
  clear hr ha hsm AAX;have HG:=I (show∀x:Nat,(Bt.D6 a<127->x=2^((Bt.D6 a+1)/2))->(¬Bt.D6 a<127->x=18446744073709551615)->0<x/\x<18446744073709551616/\a<(x+1)*(x+1)from fun x h1 h2=>by
   by_cases hl:Bt.D6 a<127
   ·rw[h1 hl]
    have hb:2^((Bt.D6 a+1)/2)<=2^63:=Ax (by omega) (by omega);exact⟨Bi _,by omega,Rt.rV tG.out⟩
   ·rw[h2 hl]
    exact⟨by omega,by omega,by have:=HA.out;omega⟩)
  generalize ZV:DB a=ah at*;generalize ZS:DE a=al at*;have tU:=I ZV;have dF:=I ZS;clear ZV ZS;rcases ik with hg|⟨hg,Ka⟩
  case' inl=>
   have S0:(ah==0)=false:=by simpa using hg
   clear hg
  case' inr=>
   have S0:(ah==0)=true:=by simp[hg]
   have HG0:=I hg;clear hg
  all_goals
   by_cases hl:Bt.D6 a<127
   ·go_in
    go_wp2_with fail
    refine(bo.out _).mono ?_;rintro e' w1 ⟨rfl,C6⟩;have E1:=I (E.out.below C6);clear C6 E;have x0:=E1.out.hd.cell 0;have x1:=E1.out.hd.cell 1;have p0:=E1.out.hd.lt;simp at x0 x1;have HGX:=I (HG.out (2^((Bt.D6 a+1)/2)) (fun _=>rfl) (fun h=>absurd hl h));generalize Bt.D6 a=la at*;go_wp2_with fail
    refine(bo.out _).mono ?_;rintro e' w2 ⟨rfl,DK⟩;have E2:=I (E1.out.below DK);clear DK x0 x1 p0;obtain⟨s0,s1,s2⟩:=HGX.out;obtain⟨xs,gP⟩:∃xs:Nat,xs=2^((la+1)/2):=⟨_,rfl⟩;rw[<-gP]at s0 s1 s2;have hh:((la:Int)+1)/2=(((la+1)/2:Nat):Int):=by omega
    have hxi:(2:Int)^((la+1)/2)=(xs:Int):=by rw[gP];exact(ATX 2 _).symm
    have hlb:(la+1)/2<=63:=by omega
    generalize (la+1)/2=I4 at*;go_wp2_with fail
    rw[hh];clear hh gP;go_wp2_with fail
    go_loopw [3] (fun v wr=>∃x:Nat,v=.int .u64 (x:Int)/\0<x/\x<18446744073709551616/\a<(x+1)*(x+1)/\Env w wr [(w.heap.size,57,#[.int .u64 ah,.int .u64 al])]) (fun v _=>(intOf v).toNat)
    case atStart=>exact⟨xs,rfl,s0,s1,s2,E2.out⟩
    case round=>
     obtain⟨x,rfl,ZM,yH,fP,hE⟩:=hrel;have F:=I hE;have HX2:=I fP;have hq:=Rt.gj ZM fP;have NW:=I (Rt.rv (a:=a) ZM);have NS:=I (Rt.S7 (a:=a) ZM);have tD:=I (qz.out x yH ZM);clear hE fP E2 s0 s1 s2;have hqx:a/x+x<2^128:=by omega
     have mV:=I (fun w=>oa (a/x) x hqx yH w);have HSH:=I (fun w=>half (a/x+x) hqx w);generalize a/x=q at*;generalize a%x=rr at*;have c0:=F.out.hd.cell 0;have c1:=F.out.hd.cell 1;have p0:=F.out.hd.lt;simp at c0 c1;go_wp2_with fail
     refine(tD.out _).mono ?_;rintro e' w3 ⟨rfl,DT⟩;have F3:=I (((F.out.below DT).lay #[.int .u64 (DB q),.int .u64 (DE q)] 57).lay #[.int .u64 (DB rr),.int .u64 (DE rr)] 57);clear DT c0 c1 p0 F;go_wp2_with fail
     refine(mV.out _).mono ?_;rintro e' w4 ⟨rfl,EL⟩;have F4:=I ((F3.out.below EL).lay #[.int .u64 (DB (q+x)),.int .u64 (DE (q+x))] 57);clear EL F3;go_wp2_with fail
     refine(HSH.out _).mono ?_;rintro e' w5 ⟨rfl,Eh⟩;have F5:=I ((F4.out.below Eh).lay #[.int .u64 (DB ((q+x)/2)),.int .u64 (DE ((q+x)/2))] 57);clear Eh F4 mV HSH tD;have F6:=I (show Env w _ [(w.heap.size,57,#[.int .u64 ah,.int .u64 al])]from F5.out.tl.tl.tl.tl);generalize (q+x)/2=h at*;by_cases GR:x<=h
     ·have tY:=I (show x=r from Rt.Tn HR.out (NS.out GR) HX2.out)
      have cL:0<DB h\/(DB h=0/\(x:Int)<=DE h):=by unfold DB DE;omega
      clear GR;rcases cL with hc|⟨hc,Rm⟩
      ·generalize DB h=hh at*
       generalize DE h=Vj at*;go_wp2;go_ret;exact⟨by rw[<-tY.out];rfl,F6.out.DI⟩
      ·rw[hc]
       rw[hc]at F6;generalize DE h=Vj at*;clear hc;go_wp2;go_ret;exact⟨by rw[<-tY.out];rfl,F6.out.DI⟩
     ·have hc:DB h=0:=by unfold DB;omega
      have Rm:DE h=(h:Int):=by unfold DE;omega
      have DG:(h:Int)<x:=by omega
      have hh0:0<h:=by
       rcases Ac h with e|e
       ·have:=NW.out;rw[e]at this;have:=wO.out;omega
       ·exact e
      have hh1:h<18446744073709551616:=by omega
      rw[hc,Rm];rw[hc,Rm]at F6;clear hc Rm GR;go_wp2
      go_roundw
      case rel=>exact⟨h,rfl,hh0,hh1,NW.out,F6.out⟩
      case measure=>simp[intOf];omega
   ·go_in
    go_wp2_with fail
    refine(bo.out _).mono ?_;rintro e' w1 ⟨rfl,C6⟩;have E1:=I (E.out.below C6);clear C6 E;have x0:=E1.out.hd.cell 0;have x1:=E1.out.hd.cell 1;have p0:=E1.out.hd.lt;simp at x0 x1;have HGX:=I (HG.out 18446744073709551615 (fun h=>absurd h hl) (fun _=>rfl));generalize Bt.D6 a=la at*;go_wp2_with fail
    clear x0 x1 p0;have E2:=I E1.out;obtain⟨s0,s1,s2⟩:=HGX.out;obtain⟨xs,gP⟩:∃xs:Nat,xs=18446744073709551615:=⟨_,rfl⟩;rw[<-gP]at s0 s1 s2;have hxi:(18446744073709551615:Int)=(xs:Int):=by omega
    clear gP;go_loopw [3] (fun v wr=>∃x:Nat,v=.int .u64 (x:Int)/\0<x/\x<18446744073709551616/\a<(x+1)*(x+1)/\Env w wr [(w.heap.size,57,#[.int .u64 ah,.int .u64 al])]) (fun v _=>(intOf v).toNat)
    case atStart=>exact⟨xs,by rw[<-hxi],s0,s1,s2,E2.out⟩
    case round=>
     obtain⟨x,rfl,ZM,yH,fP,hE⟩:=hrel;clear hxi;have F:=I hE;have HX2:=I fP;have hq:=Rt.gj ZM fP;have NW:=I (Rt.rv (a:=a) ZM);have NS:=I (Rt.S7 (a:=a) ZM);have tD:=I (qz.out x yH ZM);clear hE fP E2 s0 s1 s2;have hqx:a/x+x<2^128:=by omega
     have mV:=I (fun w=>oa (a/x) x hqx yH w);have HSH:=I (fun w=>half (a/x+x) hqx w);generalize a/x=q at*;generalize a%x=rr at*;have c0:=F.out.hd.cell 0;have c1:=F.out.hd.cell 1;have p0:=F.out.hd.lt;simp at c0 c1;go_wp2_with fail
     refine(tD.out _).mono ?_;rintro e' w3 ⟨rfl,DT⟩;have F3:=I (((F.out.below DT).lay #[.int .u64 (DB q),.int .u64 (DE q)] 57).lay #[.int .u64 (DB rr),.int .u64 (DE rr)] 57);clear DT c0 c1 p0 F;go_wp2_with fail
     refine(mV.out _).mono ?_;rintro e' w4 ⟨rfl,EL⟩;have F4:=I ((F3.out.below EL).lay #[.int .u64 (DB (q+x)),.int .u64 (DE (q+x))] 57);clear EL F3;go_wp2_with fail
     refine(HSH.out _).mono ?_;rintro e' w5 ⟨rfl,Eh⟩;have F5:=I ((F4.out.below Eh).lay #[.int .u64 (DB ((q+x)/2)),.int .u64 (DE ((q+x)/2))] 57);clear Eh F4 mV HSH tD;have F6:=I (show Env w _ [(w.heap.size,57,#[.int .u64 ah,.int .u64 al])]from F5.out.tl.tl.tl.tl);generalize (q+x)/2=h at*;by_cases GR:x<=h
     ·have tY:=I (show x=r from Rt.Tn HR.out (NS.out GR) HX2.out)
      have cL:0<DB h\/(DB h=0/\(x:Int)<=DE h):=by unfold DB DE;omega
      clear GR;rcases cL with hc|⟨hc,Rm⟩
      ·generalize DB h=hh at*
       generalize DE h=Vj at*;go_wp2;go_ret;exact⟨by rw[<-tY.out];rfl,F6.out.DI⟩
      ·rw[hc]
       rw[hc]at F6;generalize DE h=Vj at*;clear hc;go_wp2;go_ret;exact⟨by rw[<-tY.out];rfl,F6.out.DI⟩
     ·have hc:DB h=0:=by unfold DB;omega
      have Rm:DE h=(h:Int):=by unfold DE;omega
      have DG:(h:Int)<x:=by omega
      have hh0:0<h:=by
       rcases Ac h with e|e
       ·have:=NW.out;rw[e]at this;have:=wO.out;omega
       ·exact e
      have hh1:h<18446744073709551616:=by omega
      rw[hc,Rm];rw[hc,Rm]at F6;clear hc Rm GR;go_wp2
      go_roundw
      case rel=>exact⟨h,rfl,hh0,hh1,NW.out,F6.out⟩
      case measure=>simp[intOf];omega
