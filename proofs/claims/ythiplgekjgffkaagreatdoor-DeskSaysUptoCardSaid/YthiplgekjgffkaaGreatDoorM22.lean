/- prod -/
import Derived.Test.YthiplgekjgffkaaGreatDoorM21
import Derived.Test.YthiplgekjgffkaaGreatDoorM10
set_option maxRecDepth 100000
set_option maxHeartbeats 99000000
set_option linter.all false
namespace Go.Proofs.YthiplgekjgffkaaGreatDoor
open Go.Proofs.Tryz
open Go.RowKit
theorem bP(p q:Int)(x y:Nat)(hp:p=(x:Int))(hq:q=(y:Int))(hx:x<18446744073709551616)(hy:y<18446744073709551616)(w:World):
 Calls prog 160 #[.int .u64 p,.int .u64 q] w fun e w'=>e=.returned (.agg #[.int .u64 (DB (x*y)),.int .u64 (DE (x*y))])/\Below w.heap.size w w':=by
 subst hp hq;have h1:x*y<2^128:=by
  have:=BR (show x<=18446744073709551615 by omega) (show y<=18446744073709551615 by omega);omega
 have HM:=I (show∀w',Calls prog 200 #[.int .u64 (x:Int),.int .u64 (y:Int)] w' fun e GQ=>e=.returned (.tuple #[.int .u64 (DB (x*y)),.int .u64 (DE (x*y))])/\w'=GQ
  from fun w'=>(Tryz.bits_Mul64 x y hx hy w').mono fun e GQ ⟨h1,h2⟩=>⟨h1,h2.symm⟩)
 generalize x*y=z at*;obtain⟨b0,b1⟩:=Eo z h1;obtain⟨b2,b3⟩:=Fy z;clear h1;go_in;go_wp2_with fail
 refine(HM.out _).mono ?_;rintro e w' ⟨rfl,rfl⟩;go_wp2;refine AF (v:=.agg #[.int .u64 (DB z),.int .u64 (DE z)]) (by simp[results,results160,go_sem]) rfl ⟨rfl,?_⟩;exact AA.alloc AB _
theorem Po{B:Nat}{w X:World}{o o':Obj}(h:Below B w (X.alloc o))(hB:B<=X.heap.size):Below B w (X.alloc o'):=
 ⟨h.os,h.tape,h.output,by have:=h.size;simp at this⊢;omega,fun k hk=>by
   have:=h.block k hk;rw[ASp X o (by omega)]at this;rw[ASp X o' (by omega)];exact this⟩
theorem OS{B:Nat}{w X:World}{o1 o2 o1' o2':Obj}(h:Below B w ((X.alloc o1).alloc o2))(hB:B<=X.heap.size):Below B w ((X.alloc o1').alloc o2'):=
 ⟨h.os,h.tape,h.output,by have:=h.size;simp at this⊢;omega,fun k hk=>by
   have:=h.block k hk;rw[ASp _ o2 (by simp;omega),ASp X o1 (by omega)]at this;rw[ASp _ o2' (by simp;omega),ASp X o1' (by omega)];exact this⟩
theorem DJ.sV{w:World}{g:Nat}{t:TypeId}{cs:Array Value}(h:g=w.heap.size):DJ (w.alloc (.cells cs t)) g t cs:=by subst h;exact DJ.new _ _ _
theorem DJ.FU{W:World}{g o:Nat}{t:TypeId}{cs:Array Value}{v:Value}(h:DJ W g t cs)(h2:cs[o]? =some v):W.cell? ⟨g,o,none⟩=some v:=(h.cell o).trans h2
theorem TC{B:Nat}{w X:World}{o o':Obj}(h:Below B w (X.alloc o))(hB:B<=X.heap.size){p q:Addr}(hp:B<=p.block)(hq:B<=q.block)(u v:Value):Below B w (((X.setCell p u).setCell q v).alloc o'):=
 ⟨h.os,h.tape,h.output,by have:=h.size;simp at this⊢;omega,fun k hk=>by
   have:=h.block k hk;rw[ASp X o (by omega)]at this;rw[ASp _ o' (by simp;omega),ATi _ q v k (by omega),ATi _ p u k (by omega)];exact this⟩
theorem AA7(a b:Nat):a*b=a/18446744073709551616*b*18446744073709551616+a%18446744073709551616*b:=by
 have e:=CM a 18446744073709551616;have h:a/18446744073709551616*b*18446744073709551616+a%18446744073709551616*b=(18446744073709551616*(a/18446744073709551616)+a%18446744073709551616)*b:=by
  rw[BV,Nat.mul_right_comm,AZ (a/18446744073709551616) 18446744073709551616]
 rw[h,e]
def OU(W0:World)(x y:Nat)(s6 s7:Value)(wx:World):Prop:=
 ∃g g':Nat,s6=.pointer (some ⟨g,0,none⟩)/\s7=.pointer (some ⟨g',0,none⟩)/\Below W0.heap.size W0 wx/\wx.cell? ⟨g,0,none⟩=some (.int .u64 (DB x))/\wx.cell? ⟨g,1,none⟩=some (.int .u64 (DE x))/\wx.cell? ⟨g',0,none⟩=some (.int .u64 (DB y))/\wx.cell? ⟨g',1,none⟩=some (.int .u64 (DE y))
theorem MZ{W0 wx:World}{x y g g':Nat}(h:Below W0.heap.size W0 wx)(h0:wx.cell? ⟨g,0,none⟩=some (.int .u64 (DB x)))(h1:wx.cell? ⟨g,1,none⟩=some (.int .u64 (DE x)))(h2:wx.cell? ⟨g',0,none⟩=some (.int .u64 (DB y)))(h3:wx.cell? ⟨g',1,none⟩=some (.int .u64 (DE y))):
 OU W0 x y (.pointer (some ⟨g,0,none⟩)) (.pointer (some ⟨g',0,none⟩)) wx:=⟨g,g',rfl,rfl,h,h0,h1,h2,h3⟩
def Has(w:World)(g:Nat):Prop:=∃t a0 a1,DJ w g t #[a0,a1]
theorem DJ.Mj(w:World)(o:Obj)(t:TypeId)(cs:Array Value):DJ ((w.alloc o).alloc (.cells cs t)) (w.heap.size+1) t cs:=DJ.sV (by simp)
section
variable{W0 w5:World}{x y g g':Nat}{t t':TypeId}
theorem Xr(h:Below W0.heap.size W0 ((w5.alloc (.cells #[.int .u64 (DB x),.int .u64 (DE x)] t)).alloc (.cells #[.int .u64 (DB y),.int .u64 (DE y)] t'))):
 OU W0 x y (.pointer (some ⟨w5.heap.size,0,none⟩)) (.pointer (some ⟨w5.heap.size+1,0,none⟩)) ((w5.alloc (.cells #[.int .u64 (DB x),.int .u64 (DE x)] t)).alloc (.cells #[.int .u64 (DB y),.int .u64 (DE y)] t')):=
 MZ h (((DJ.new _ _ _).alloc _).FU rfl) (((DJ.new _ _ _).alloc _).FU rfl) ((DJ.Mj _ _ _ _).FU rfl) ((DJ.Mj _ _ _ _).FU rfl)
theorem XN(h:Below W0.heap.size W0 ((w5.alloc (.cells #[.int .u64 (DB y),.int .u64 (DE y)] t)).alloc (.cells #[.int .u64 (DB x),.int .u64 (DE x)] t'))):
 OU W0 x y (.pointer (some ⟨w5.heap.size+1,0,none⟩)) (.pointer (some ⟨w5.heap.size,0,none⟩)) ((w5.alloc (.cells #[.int .u64 (DB y),.int .u64 (DE y)] t)).alloc (.cells #[.int .u64 (DB x),.int .u64 (DE x)] t')):=
 MZ h ((DJ.Mj _ _ _ _).FU rfl) ((DJ.Mj _ _ _ _).FU rfl) (((DJ.new _ _ _).alloc _).FU rfl) (((DJ.new _ _ _).alloc _).FU rfl)
theorem Ws(h:Below W0.heap.size W0 (((w5.setCell ⟨g,0,none⟩ (.int .u64 (DB x))).setCell ⟨g,1,none⟩ (.int .u64 (DE x))).alloc (.cells #[.int .u64 (DB y),.int .u64 (DE y)] t')))(yW:Has w5 g):
 OU W0 x y (.pointer (some ⟨g,0,none⟩)) (.pointer (some ⟨w5.heap.size,0,none⟩)) (((w5.setCell ⟨g,0,none⟩ (.int .u64 (DB x))).setCell ⟨g,1,none⟩ (.int .u64 (DE x))).alloc (.cells #[.int .u64 (DB y),.int .u64 (DE y)] t')):=by
 obtain⟨t,a0,a1,hg⟩:=yW;exact MZ h ((((hg.De 0 _).De 1 _).alloc _).FU rfl) ((((hg.De 0 _).De 1 _).alloc _).FU rfl) ((DJ.sV (by simp)).FU rfl) ((DJ.sV (by simp)).FU rfl)
theorem XK(h:Below W0.heap.size W0 (((w5.setCell ⟨g,0,none⟩ (.int .u64 (DB y))).setCell ⟨g,1,none⟩ (.int .u64 (DE y))).alloc (.cells #[.int .u64 (DB x),.int .u64 (DE x)] t')))(yW:Has w5 g):
 OU W0 x y (.pointer (some ⟨w5.heap.size,0,none⟩)) (.pointer (some ⟨g,0,none⟩)) (((w5.setCell ⟨g,0,none⟩ (.int .u64 (DB y))).setCell ⟨g,1,none⟩ (.int .u64 (DE y))).alloc (.cells #[.int .u64 (DB x),.int .u64 (DE x)] t')):=by
 obtain⟨t,a0,a1,hg⟩:=yW;exact MZ h ((DJ.sV (by simp)).FU rfl) ((DJ.sV (by simp)).FU rfl) ((((hg.De 0 _).De 1 _).alloc _).FU rfl) ((((hg.De 0 _).De 1 _).alloc _).FU rfl)
theorem cu(h:Below W0.heap.size W0 ((((w5.setCell ⟨g,0,none⟩ (.int .u64 (DB x))).setCell ⟨g,1,none⟩ (.int .u64 (DE x))).setCell ⟨g',0,none⟩ (.int .u64 (DB y))).setCell ⟨g',1,none⟩ (.int .u64 (DE y))))(yW:Has w5 g)(AGm:Has w5 g')(GI:g≠g'):
 OU W0 x y (.pointer (some ⟨g,0,none⟩)) (.pointer (some ⟨g',0,none⟩)) ((((w5.setCell ⟨g,0,none⟩ (.int .u64 (DB x))).setCell ⟨g,1,none⟩ (.int .u64 (DE x))).setCell ⟨g',0,none⟩ (.int .u64 (DB y))).setCell ⟨g',1,none⟩ (.int .u64 (DE y))):=by
 obtain⟨t,a0,a1,hg⟩:=yW;obtain⟨t',b0,b1,ka⟩:=AGm;exact MZ h (((((hg.De 0 _).De 1 _).Je (p:=⟨g',0,none⟩) GI _).Je (p:=⟨g',1,none⟩) GI _).FU rfl) (((((hg.De 0 _).De 1 _).Je (p:=⟨g',0,none⟩) GI _).Je (p:=⟨g',1,none⟩) GI _).FU rfl)
  (((((ka.Je (p:=⟨g,0,none⟩) GI.symm _).Je (p:=⟨g,1,none⟩) GI.symm _).De 0 _).De 1 _).FU rfl) (((((ka.Je (p:=⟨g,0,none⟩) GI.symm _).Je (p:=⟨g,1,none⟩) GI.symm _).De 0 _).De 1 _).FU rfl)
end
namespace Lg
def Inv(a b j q r:Nat):Prop:=a=q*b+r/\r<b*2^j/\∃m,q=2^j*m
theorem start{a b k:Nat}(hb:0<b)(hk:k+Bt.D6 b=Bt.D6 a):Inv a b (k+1) 0 a:=by
 refine⟨by simp,?_,0,by simp⟩;have h1:=Bt.KY a;have h2:=(Bt.Hy b hb).1;have h3:1<=Bt.D6 b:=by rw[Bt.Hp _ hb];omega
 obtain⟨c,hc⟩:∃c,Bt.D6 b=c+1:=⟨_,(ATO h3).symm⟩;rw[hc,Ch]at h2;rw[<-hk,hc]at h1;have:2^c*2^(k+1)<=b*2^(k+1):=BU _ h2;rw[<-Bg,show c+(k+1)=k+(c+1)by omega]at this;omega
theorem more{a b i q r:Nat}(h:Inv a b (i+1) q r)(hle:b*2^i<=r):Inv a b i (q ||| 2^i) (r-b*2^i):=by
 obtain⟨h1,h2,m,h3⟩:=h;have ho:q ||| 2^i=q+2^i:=by
  rw[h3];exact(ATN (Nat.pow_lt_pow_right (by omega) (by omega)) m).symm
 refine⟨?_,?_,2*m+1,?_⟩
 ·rw[ho,BV,AZ (2^i) b];omega
 ·rw[Ar,<-Bd]at h2;omega
 ·rw[ho,h3,Ar,BM,ATC,Bd]
theorem less{a b i q r:Nat}(h:Inv a b (i+1) q r)(DG:r<b*2^i):Inv a b i q r:=by
 obtain⟨h1,h2,m,h3⟩:=h;exact⟨h1,DG,2*m,by rw[h3,Ar,Bd]⟩
theorem done{a b q r:Nat}(h:Inv a b 0 q r):q=a/b/\r=a%b:=by
 obtain⟨h1,h2,_⟩:=h;rw[Nat.pow_zero,ATC]at h2;have hb:0<b:=by omega
 rw[h1,AZ q b,ASc hb,Cq h2,ASv,B8 h2];exact⟨by omega,rfl⟩
theorem qlt{a b j q r:Nat}(h:Inv a b j q r)(ha:a<2^128)(hb:18446744073709551616<=b):q<18446744073709551616/\r<2^128:=by
 obtain⟨h1,h2,_⟩:=h;have:q*18446744073709551616<=q*b:=Bb _ hb;omega
theorem jG{a b k i:Nat}(hb:0<b)(ha:a<2^128)(hk:k+Bt.D6 b=Bt.D6 a)(hi:i<=k):b*2^i<2^128:=by
 have h1:=Bt.KY b;have h2:=Bt.Ew ha;have h3:b*2^i<2^Bt.D6 b*2^i:=Nat.mul_lt_mul_of_pos_right h1 (Bi i);rw[<-Bg]at h3;have h4:2^(Bt.D6 b+i)<=2^128:=Ax (by omega) (by omega);omega
theorem mB{a b:Nat}(h:b<=a):Bt.D6 b<=Bt.D6 a:=Bt.Ew (Bk h (Bt.KY a))
theorem AGR{a b k:Nat}(ha:a<2^128)(hb:18446744073709551616<=b)(hk:k+Bt.D6 b=Bt.D6 a):k<=63:=by
 have h1:=Bt.Ew ha;have h2:=Bt.Ya (n:=b) (k:=64) (by omega);omega
end Lg
theorem u64_or_nat(a b:Nat)(ha:a<18446744073709551616)(hb:b<18446744073709551616):bits .or .u64 (a:Int) (b:Int)=((a ||| b:Nat):Int):=by
 have hx:a ||| b<2^64:=ATd (by omega) (by omega);show IntKind.u64.wrap ((BitVec.ofInt 64 (a:Int) ||| BitVec.ofInt 64 (b:Int)).toNat:Int)=_;rw[BitVec.toNat_or,ASk a (by omega),ASk b (by omega),CA];omega
def Got(W0:World)(x:Nat)(s:Value)(wx:World):Prop:=∃g,s=.pointer (some ⟨g,0,none⟩)/\Below W0.heap.size W0 wx/\DJ wx g 57 #[.int .u64 (DB x),.int .u64 (DE x)]
theorem xW{W0 w5:World}{x:Nat}(h:Below W0.heap.size W0 (w5.alloc (.cells #[.int .u64 (DB x),.int .u64 (DE x)] 57))):
 Got W0 x (.pointer (some ⟨w5.heap.size,0,none⟩)) (w5.alloc (.cells #[.int .u64 (DB x),.int .u64 (DE x)] 57)):=⟨_,rfl,h,DJ.new _ _ _⟩
theorem vA{W0 w5:World}{x g:Nat}(h:Below W0.heap.size W0 ((w5.setCell ⟨g,0,none⟩ (.int .u64 (DB x))).setCell ⟨g,1,none⟩ (.int .u64 (DE x))))(hg:∃a0 a1,DJ w5 g 57 #[a0,a1]):
 Got W0 x (.pointer (some ⟨g,0,none⟩)) ((w5.setCell ⟨g,0,none⟩ (.int .u64 (DB x))).setCell ⟨g,1,none⟩ (.int .u64 (DE x))):=by
 obtain⟨a0,a1,hg⟩:=hg;exact⟨_,rfl,h,(hg.De 0 _).De 1 _⟩
theorem Below.al'{w W:World}{o:Obj}(h:Below w.heap.size w W):Below w.heap.size w (W.alloc o):=h.alloc h.size _
theorem Below.Ej{w X W:World}(h:Below w.heap.size w X)(h2:Below X.heap.size X W):Below w.heap.size w W:=h.trans (h2.mono h.size)
open Go.RowKit
theorem pC{a b:Nat}(h:b<a):0<GU a b:=by unfold GU;rw[AC (by omega),AD h];decide
theorem vu{a b:Nat}(h:a<=b):GU a b<=0:=by unfold GU;split<;>rename_i h1<;>first|decide|(rw[AC (by omega)];decide)
theorem mH(a:Nat)(w:World):
 Calls prog 83 #[.agg #[.int .u64 (DB a),.int .u64 (DE a)],.agg #[.int .u64 0,.int .u64 0]] w fun e w'=>e=.returned (.tuple #[.int .i64 0,.int .i64 6])/\Below w.heap.size w w':=by
 have E:=I (((AI w).lay #[.int .u64 (DB a),.int .u64 (DE a)] 57).lay #[.int .u64 0,.int .u64 0] 57);generalize DB a=ah at*;generalize DE a=al at*;go_in;go_wp2;refine AF (v:=.tuple #[.int .i64 0,.int .i64 6]) (by simp[results,results83,go_sem]) rfl ⟨rfl,E.out.DI⟩
theorem Jd{a b:Nat}{k:Int}(h:Rt.OD a b k)(m8:a<b):k= -1:=by
 rcases h with⟨h,_⟩|⟨n,_,h1,h2,_⟩
 ·exact h
 ·have:b*1<=b*2^n:=Bb _ (ATW)
  omega
theorem XC{a b n:Nat}{k:Int}(h:Rt.OD a b k)(h1:b*2^n<=a)(h2:a<b*2^(n+1)):k=(n:Int):=by
 rcases h with⟨h,h3⟩|⟨m,rfl,h3,h4,h5⟩
 ·exfalso
  have:b*1<=b*2^n:=Bb _ (ATW);rcases h3 with h3|h3
  ·subst h3;omega
  ·omega
 ·rcases ASd m n with e|e|e
  ·have:b*2^(m+1)<=b*2^n:=Bb _ (Ax (by omega) e)
   omega
  ·rw[e]
  ·have:b*2^(n+1)<=b*2^m:=Bb _ (Ax (by omega) e)
   omega
def Qs(k:Int):Value:=if k<0 then .tuple #[.int .i64 0,.int .i64 4]else .tuple #[.int .i64 k,.int .i64 0]
theorem Yv(a b:Nat)(kk:Int)(ha:a<2^128)(hb:b<2^128)(h0:0<b)(hk:Rt.OD a b kk)(w:World):
 Calls prog 83 #[.agg #[.int .u64 (DB a),.int .u64 (DE a)],.agg #[.int .u64 (DB b),.int .u64 (DE b)]] w fun e w'=>e=.returned (Qs kk)/\Below w.heap.size w w':=by
 have HLA:=I (fun w'=>OY _ _ a (WN.mk' a ha) w');have tG:=I (fun w'=>OY _ _ b (WN.mk' b hb) w');have HA:=I ha;have HB:=I hb;have H0:=I h0;have yP:=I hk;have hla:=Bt.Ew ha;have hlb:=Bt.Ew hb;have hnz:(DB b==0&&DE b==0)=false:=by
  by_cases h:DB b=0
  ·have:DE b≠0:=by unfold DB at h;unfold DE;omega
   simp[this]
  ·simp[h]
 have ik:((DB b==0)=false)\/((DB b==0)=true/\(DE b==0)=false):=by
  by_cases h:DB b=0
  ·have:DE b≠0:=by unfold DB at h;unfold DE;omega
   exact .inr ⟨by simp[h],by simpa using this⟩
  ·exact .inl (by simpa using h)
 have bo:=I (show((Bt.D6 a:Nat):Int)- (Bt.D6 b:Nat)=((Bt.D6 a:Nat):Int)- (Bt.D6 b:Nat)/\True from⟨rfl,trivial⟩);have ZL:=I (WN.mk' b hb);have HWA:=I (WN.mk' a ha);have E:=I (((AI w).lay #[.int .u64 (DB a),.int .u64 (DE a)] 57).lay #[.int .u64 (DB b),.int .u64 (DE b)] 57);have HLT:=I (Bt.KY a);have HBP:=I (Bt.Hy b h0);have AIG:=I (fun k (hk:k+Bt.D6 b=Bt.D6 a)=>Lg.jG (a:=a) (b:=b) (k:=k) (i:=k) h0 ha hk AB);have AGg:=I (fun k (hk:k+Bt.D6 b=Bt.D6 a) (h:0<a)=>(Rt.sD h0 h hk).1);have aW:=I (fun k (hk:k+1+Bt.D6 b=Bt.D6 a)=>Rt.jX (a:=a) (b:=b) (k:=k) h0 hk);have AMi:1<=Bt.D6 b:=by rw[Bt.Hp _ h0];omega
 have HZA:=I (show a=0->Bt.D6 a=0 from fun h=>by rw[h,Bt.Gz]);clear bo hnz ha hb h0 hk;generalize DB a=ah at*;generalize DE a=al at*;generalize DB b=bh at*;generalize DE b=bl at*;generalize Bt.D6 a=la at*;generalize Bt.D6 b=lb at*;simp only[Az]at E;rcases ik with hg|⟨hg,Ka⟩;all_goals
  go_in
  go_upto_region 3 with fail
  generalize dA:World.alloc (World.alloc w _) _=W0 at*;clear dA;have HS:=I (show∀w',Below W0.heap.size W0 w'->(Below W0.heap.size W0 w'/\w'.cell? ⟨w.heap.size,0,none⟩=some (.int .u64 ah)/\w'.cell? ⟨w.heap.size,1,none⟩=some (.int .u64 al)/\w'.cell? ⟨w.heap.size+1,0,none⟩=some (.int .u64 bh)/\w'.cell? ⟨w.heap.size+1,1,none⟩=some (.int .u64 bl))
   from fun w' h=>⟨h,(E.out.below h).tl.hd.cell 0,(E.out.below h).tl.hd.cell 1,(E.out.below h).hd.cell 0,(E.out.below h).hd.cell 1⟩)
  have Sm:True:=trivial;go_cut [6] (fun s6 wx=>s6=.int .i64 ((la:Int)-lb)/\Below W0.heap.size W0 wx)
  case first=>
   go_region_held3 (fun w'=>Below W0.heap.size W0 w'/\w'.cell? ⟨w.heap.size,0,none⟩=some (.int .u64 ah)/\w'.cell? ⟨w.heap.size,1,none⟩=some (.int .u64 al)/\w'.cell? ⟨w.heap.size+1,0,none⟩=some (.int .u64 bh)/\w'.cell? ⟨w.heap.size+1,1,none⟩=some (.int .u64 bl))
    ((refine HS.out _ ?_;repeat (with_reducible first|exact G8|exact NI|exact AA|refine AE ?_)))
    (first
      |(go_at_call 89;have _t:=Sm;(with_reducible refine(HLA.out _).mono ?_);rintro e' w2 ⟨rfl,DK⟩;have NI:Below W0.heap.size W0 w2:=Below.Ej (by repeat (with_reducible first|exact AA|refine AE ?_)) DK;clear Sm _t)
      |(go_at_call 89;(with_reducible refine(tG.out _).mono ?_);rintro e' w3 ⟨rfl,DT⟩;have G8:Below W0.heap.size W0 w3:=Below.Ej (by repeat (with_reducible first|exact NI|refine AE ?_)) DT))
   all_goals
    rename_i hheld;have DY:=hheld.1;clear hheld HS;go_wp2_with fail
    go_meet
    exact⟨by rw[Ca _ (by omega)],DY⟩
  case rest=>
   obtain⟨rfl,DY⟩:=hcut;have E2:=I (E.out.below DY);clear DY HS E Sm;by_cases YW:la<lb
   ·have m8:a<b:=by
     have h1:=HLT.out;have h2:=HBP.out.1;have h3:2^la<=2^(lb- 1):=Ax (by omega) (by omega);omega
    have HR:=I (show Qs kk=.tuple #[.int .i64 0,.int .i64 4]by rw[Jd yP.out m8];rfl);have LO:¬0<=(la:Int)-lb:=by omega
    have hcc:True:=trivial;generalize (la:Int)-lb=kz at*;have X8:decide ((0:Int)<=kz)=false:=by simpa using LO
    have Uv:decide (kz<(0:Int))=true:=by simp;omega
    clear YW m8;have zN:=I hcc;have sk:=I hcc
    go_upto_region 4 with fail
    have HS:=I (show∀w',Below wc.heap.size wc w'->(Below wc.heap.size wc w'/\w'.cell? ⟨w.heap.size,0,none⟩=some (.int .u64 ah)/\w'.cell? ⟨w.heap.size,1,none⟩=some (.int .u64 al)/\w'.cell? ⟨w.heap.size+1,0,none⟩=some (.int .u64 bh)/\w'.cell? ⟨w.heap.size+1,1,none⟩=some (.int .u64 bl))
     from fun w' h=>⟨h,(E2.out.below h).tl.hd.cell 0,(E2.out.below h).tl.hd.cell 1,(E2.out.below h).hd.cell 0,(E2.out.below h).hd.cell 1⟩)
    go_cut [24] (fun s24 wx=>s24=.bool false/\Below wc.heap.size wc wx)
    case first=>
     have x0:=E2.out.tl.hd.cell 0;have x1:=E2.out.tl.hd.cell 1;have y0:=E2.out.hd.cell 0;have y1:=E2.out.hd.cell 1;simp at x0 x1 y0 y1;go_region
     go_wp2_with fail
     go_meet
     exact⟨by simp[X8],AA.drew⟩
    case rest=>
     obtain⟨rfl,DY⟩:=hcut;have E3:=I (E2.out.below DY);clear DY HS E2;have Et:kz<0:=by omega
     go_wp2;refine AF (v:=.tuple #[.int .i64 0,.int .i64 4]) (by simp[results,results83,go_sem]) rfl ⟨by rw[HR.out],E3.out.DI⟩
   ·obtain⟨kn,Te⟩:∃kn,kn+lb=la:=⟨la-lb,by omega⟩
    have hkz:(la:Int)-lb=(kn:Int):=by omega
    rw[hkz];have hup:=AIG.out kn Te;have AHX:kn<=127:=by omega
    have xX:0<a:=by
     rcases Ac a with h|h
     ·have:=HZA.out h;omega
     ·exact h
    have HTP:=I (AGg.out kn Te xX);have lD:=I (show∀m,kn=m+1->b*2^m<=a from fun m hm=>aW.out m (by omega));have zN:=I (show∀w',Calls prog 163 #[.agg #[.int .u64 bh,.int .u64 bl],.int .i64 (kn:Int)] w' fun e GQ=>e=.returned (.agg #[.int .u64 (DB (b*2^kn)),.int .u64 (DE (b*2^kn))])/\Below w'.heap.size w' GQ from fun w'=>by
     have:=iD bh bl b (kn:Int) ZL.out (by omega) (by omega) w';rw[Bp,B8 hup]at this;exact this)
    have sk:=I (fun w'=>PF (DB (b*2^kn)) (DE (b*2^kn)) ah al (b*2^kn) a (WN.mk' _ hup) HWA.out w');have AOR:(0:Int)<=(kn:Int):=by omega
    clear hkz YW xX;by_cases hle:b*2^kn<=a
    ·have HR:=I (show Qs kk=.tuple #[.int .i64 (kn:Int),.int .i64 0]by rw[XC yP.out hle HTP.out];unfold Qs;rw[AC (by omega)])
     have hcc:=vu hle;generalize GU (b*2^kn) a=cc at*;clear hle;generalize DB (b*2^kn)=uh at*;generalize DE (b*2^kn)=ul at*
     go_upto_region 4 with fail
     have HS:=I (show∀w',Below wc.heap.size wc w'->(Below wc.heap.size wc w'/\w'.cell? ⟨w.heap.size,0,none⟩=some (.int .u64 ah)/\w'.cell? ⟨w.heap.size,1,none⟩=some (.int .u64 al)/\w'.cell? ⟨w.heap.size+1,0,none⟩=some (.int .u64 bh)/\w'.cell? ⟨w.heap.size+1,1,none⟩=some (.int .u64 bl))
      from fun w' h=>⟨h,(E2.out.below h).tl.hd.cell 0,(E2.out.below h).tl.hd.cell 1,(E2.out.below h).hd.cell 0,(E2.out.below h).hd.cell 1⟩)
     go_cut [24] (fun s24 wx=>s24=.bool false/\Below wc.heap.size wc wx)
     case first=>
      go_region_held3 (fun w'=>Below wc.heap.size wc w'/\w'.cell? ⟨w.heap.size,0,none⟩=some (.int .u64 ah)/\w'.cell? ⟨w.heap.size,1,none⟩=some (.int .u64 al)/\w'.cell? ⟨w.heap.size+1,0,none⟩=some (.int .u64 bh)/\w'.cell? ⟨w.heap.size+1,1,none⟩=some (.int .u64 bl))
       ((refine HS.out _ ?_;repeat (with_reducible first|exact tz|exact YO|exact AA|refine AE ?_)))
       (first
         |(go_at_call 163;(with_reducible refine(zN.out _).mono ?_);rintro e' w4 ⟨rfl,EL⟩;have YO:Below wc.heap.size wc w4:=Below.Ej (by repeat (with_reducible first|exact AA|refine AE ?_)) EL)
         |(go_at_call 161;(with_reducible refine(sk.out _).mono ?_);rintro e' w5 ⟨rfl,Eh⟩;have tz:Below wc.heap.size wc w5:=Below.Ej (by repeat (with_reducible first|exact YO|refine AE ?_)) Eh))
      all_goals
       rename_i hheld;have DY:=hheld.1;clear hheld HS;go_wp2_with fail
       go_meet
       exact⟨by simp[hcc],DY⟩
     case rest=>
      obtain⟨rfl,DY⟩:=hcut;have E3:=I (E2.out.below DY);clear DY HS E2;go_wp2;refine AF (v:=.tuple #[.int .i64 (kn:Int),.int .i64 0]) (by simp[results,results83,go_sem]) rfl ⟨by rw[HR.out],E3.out.DI⟩
    ·have hcc:=pC (show a<b*2^kn by omega)
     have yn:=I hle;generalize GU (b*2^kn) a=cc at*;clear hle;generalize DB (b*2^kn)=uh at*;generalize DE (b*2^kn)=ul at*
     go_upto_region 4 with fail
     have HS:=I (show∀w',Below wc.heap.size wc w'->(Below wc.heap.size wc w'/\w'.cell? ⟨w.heap.size,0,none⟩=some (.int .u64 ah)/\w'.cell? ⟨w.heap.size,1,none⟩=some (.int .u64 al)/\w'.cell? ⟨w.heap.size+1,0,none⟩=some (.int .u64 bh)/\w'.cell? ⟨w.heap.size+1,1,none⟩=some (.int .u64 bl))
      from fun w' h=>⟨h,(E2.out.below h).tl.hd.cell 0,(E2.out.below h).tl.hd.cell 1,(E2.out.below h).hd.cell 0,(E2.out.below h).hd.cell 1⟩)
     go_cut [24] (fun s24 wx=>s24=.bool true/\Below wc.heap.size wc wx)
     case first=>
      go_region_held3 (fun w'=>Below wc.heap.size wc w'/\w'.cell? ⟨w.heap.size,0,none⟩=some (.int .u64 ah)/\w'.cell? ⟨w.heap.size,1,none⟩=some (.int .u64 al)/\w'.cell? ⟨w.heap.size+1,0,none⟩=some (.int .u64 bh)/\w'.cell? ⟨w.heap.size+1,1,none⟩=some (.int .u64 bl))
       ((refine HS.out _ ?_;repeat (with_reducible first|exact tz|exact YO|exact AA|refine AE ?_)))
       (first
         |(go_at_call 163;(with_reducible refine(zN.out _).mono ?_);rintro e' w4 ⟨rfl,EL⟩;have YO:Below wc.heap.size wc w4:=Below.Ej (by repeat (with_reducible first|exact AA|refine AE ?_)) EL)
         |(go_at_call 161;(with_reducible refine(sk.out _).mono ?_);rintro e' w5 ⟨rfl,Eh⟩;have tz:Below wc.heap.size wc w5:=Below.Ej (by repeat (with_reducible first|exact YO|refine AE ?_)) Eh))
      all_goals
       rename_i hheld;have DY:=hheld.1;clear hheld HS;go_wp2_with fail
       go_meet
       exact⟨by simp[hcc],DY⟩
     case rest=>
      obtain⟨rfl,DY⟩:=hcut;have E3:=I (E2.out.below DY);clear DY HS E2;rcases Ac kn with hz|hz
      ·subst hz
       have HR:=I (show Qs kk=.tuple #[.int .i64 0,.int .i64 4]by rw[Jd yP.out (by have:=yn.out;simpa using this)];rfl);go_wp2;refine AF (v:=.tuple #[.int .i64 0,.int .i64 4]) (by simp[results,results83,go_sem]) rfl ⟨by rw[HR.out],E3.out.DI⟩
      ·obtain⟨m,rfl⟩:∃m,kn=m+1:=⟨kn- 1,by omega⟩
       have HR:=I (show Qs kk=.tuple #[.int .i64 (m:Int),.int .i64 0]by rw[XC yP.out (lD.out m rfl) (by have:=yn.out;omega)];unfold Qs;rw[AC (by omega)]);go_wp2;refine AF (v:=.tuple #[.int .i64 (m:Int),.int .i64 0]) (by simp[results,results83,go_sem]) rfl ⟨by rw[HR.out],E3.out.DI⟩
theorem ga(cap least since:Int)(A:Option Addr)(c B n:Nat)(l:List Int)(hn:l.length=n)(e:Int)(he:KC cap least l=e)(hz:e≠0)(hm:n<=maxLen)(w:World)(hr:Reads w B 1 A n (DF l))(hB:B<=w.heap.size):
 Calls prog 107 #[.agg #[.int .i64 cap,.slice A n c],.int .i64 least,.int .i64 since] w fun e' w'=>e'=.returned (.tuple #[.int .i64 0,.int .i64 e])/\Below w.heap.size w w':=by
 have HN:=I hn;have HE:=I he;have HC:=I (hr.alloc hB (.cells #[.int .i64 cap,.slice A n c] 148));have E:=I ((AI w).lay #[.int .i64 cap,.slice A n c] 148);have Rj:B<=(w.alloc (.cells #[.int .i64 cap,.slice A n c] 148)).heap.size:=by simp;omega
 clear hr hB he hn;go_in;go_wp2_with fail
 refine(NF _ _ _ _ _ n l HN.out _ HE.out hm _ HC.out Rj).mono ?_;rintro e' w1 ⟨rfl,C6⟩;have E1:=I (E.out.below C6);clear C6;go_wp2;refine AF (v:=.tuple #[.int .i64 0,.int .i64 e]) (by simp[results,results107,go_sem]) rfl ⟨rfl,E1.out.DI⟩
theorem qJ(cap least since:Int)(A:Option Addr)(c B n:Nat)(l:List Int)(hn:l.length=n)(he:KC cap least l=0)(ht:since<0\/1073741824<since)(hm:n<=maxLen)(w:World)(hr:Reads w B 1 A n (DF l))(hB:B<=w.heap.size):
 Calls prog 107 #[.agg #[.int .i64 cap,.slice A n c],.int .i64 least,.int .i64 since] w fun e' w'=>e'=.returned (.tuple #[.int .i64 0,.int .i64 1])/\Below w.heap.size w w':=by
 have HN:=I hn;have HE:=I he;have HC:=I (hr.alloc hB (.cells #[.int .i64 cap,.slice A n c] 148));have E:=I ((AI w).lay #[.int .i64 cap,.slice A n c] 148);have Rj:B<=(w.alloc (.cells #[.int .i64 cap,.slice A n c] 148)).heap.size:=by simp;omega
 clear hr hB he hn;go_in;go_wp2_with fail
 refine(NF _ _ _ _ _ n l HN.out _ HE.out hm _ HC.out Rj).mono ?_;rintro e' w1 ⟨rfl,C6⟩;have E1:=I (E.out.below C6);clear C6;go_wp2;all_goals first
  |(exfalso;omega)
  |exact AF (v:=.tuple #[.int .i64 0,.int .i64 1]) (by simp[results,results107,go_sem]) rfl ⟨rfl,E1.out.DI⟩
theorem dW(cap least since:Int)(A:Option Addr)(c B n:Nat)(l:List Int)(hn:l.length=n)(he:KC cap least l=0)(S Q:Int)(hS:s1 l=S)(hQ:s2 l=Q)(v:Nat)(hv:Pw n S Q least=v)(dB:0<=since)(Ur:since<=1073741824)(hc:n<=c)(hm:c<=maxLen)(w:World)(hr:Reads w B 1 A n (DF l))(hB:B<=w.heap.size):
 Calls prog 107 #[.agg #[.int .i64 cap,.slice A n c],.int .i64 least,.int .i64 since] w fun e' w'=>e'=.returned (.tuple #[.int .i64 (Lv.YV v n S since:Nat),.int .i64 0])/\Below w.heap.size w w':=by
 obtain⟨rA,j7,NK,Hc⟩:=QV he;have hle:=(GZ rA).2.2.2;rw[hn]at Hc;have IE:Gn n S Q=0:=by have:=IZ l hle;rw[hn,hS,hQ]at this;exact this
 obtain⟨g1,g2,g3,g4,g5,g6,g7,g8,g9,g10,g11,g12,g13,g14,g15,g16,g17,g18,g19⟩:=sR IE (by omega) j7 NK;rw[hv]at g8 g9;have d0:0<=(n:Int)*since:=Bq (by omega) dB;have d1:(n:Int)*since<=68719476736:=by
  have:=BT g1 Ur dB (by omega:(0:Int)<=64);omega
 have HN:=I hn;have HE:=I he;have lD:=I (fun(A:Option Addr) (w:World) (hr:Reads w B 1 A n (DF l)) (hB:B<=w.heap.size)=>by
  have:=eV cap least A c B n l hn hle Hc j7 NK S Q hS hQ hc hm w hr hB;rw[hv]at this;exact this)
 have HC:=I (hr.alloc hB (.cells #[.int .i64 cap,.slice A n c] 148));have E:=I ((AI w).lay #[.int .i64 cap,.slice A n c] 148);have Rj:B<=(w.alloc (.cells #[.int .i64 cap,.slice A n c] 148)).heap.size:=by simp;omega
 have hB3:B<(w.alloc (.cells #[.int .i64 cap,.slice A n c] 148)).heap.size:=by simp;omega
 clear hr hB hn he rA hle IE hv hS hQ;go_in;go_wp2_with fail
 refine(NF _ _ _ _ _ n l HN.out _ HE.out (by omega) _ HC.out Rj).mono ?_;rintro e' w1 ⟨rfl,C6⟩;have E1:=I (E.out.below C6);have R1:=I (HC.out.below C6 Rj);have hB4:B<=w1.heap.size:=AG Rj C6.size;have a0:=E1.out.hd.cell 0;have a1:=E1.out.hd.cell 1;have p0:=E1.out.hd.lt;simp at a0 a1 p0;clear C6 Rj hB3 HC E;go_wp2_with fail
 refine(lD.out _ _ R1.out hB4).mono ?_;rintro e' w2 ⟨rfl,DK⟩;have E2:=I ((E1.out.below DK).lay #[.int .i64 n,.int .i64 S,.int .i64 Q] 96);clear DK E1 R1 lD a0 a1 p0 hB4 HN HE;by_cases hd:(n:Int)*since-S<=0
 ·have HZ:=I (show Lv.YV v n S since=0 from Lv.iy v hd)
  go_wp2;refine AF (v:=.tuple #[.int .i64 (0:Nat),.int .i64 0]) (by simp[results,results107,go_sem]) rfl ⟨by rw[HZ.out],E2.out.DI⟩
 ·obtain⟨dn,yr⟩:=Bo (show 0<=(n:Int)*since-S by omega)
  have hdp:0<dn:=by omega
  have GV:dn<=68719476736:=by omega
  have un:dn*dn<=4722366482869645213696:=BR GV GV;have ZQ:1<=v:=by omega
  have af:v<=1152921504606846976:=by omega
  have Wr:=I (show Lv.YV v n S since=Nat.log2 ((v+dn*dn)/v)by
   unfold Lv.YV;rw[Lv.og v (by omega),yr];simp)
  have HL:=I (Lv.Z5 v dn (by omega));have HH:=I (show∀w,Calls prog 83 #[.agg #[.int .u64 (DB (v+dn*dn)),.int .u64 (DE (v+dn*dn))],.agg #[.int .u64 0,.int .u64 v]] w fun e w'=>e=.returned (.tuple #[.int .i64 (Lv.YV v n S since:Nat),.int .i64 0])/\Below w.heap.size w w' from fun w=>by
   have h:=Yv (v+dn*dn) v _ (by omega) (by omega) (by omega) HL.out w;rw[show DB v=0 by unfold DB;omega,show DE v=v by unfold DE;omega,show Qs ((Nat.log2 ((v+dn*dn)/v):Nat):Int)=.tuple #[.int .i64 (Nat.log2 ((v+dn*dn)/v):Nat),.int .i64 0]from AC (by omega),<-Wr.out]at h;exact h)
  have HDN:=I yr;have hdi:0<(n:Int)*since-S:=by omega
  clear yr Wr HL hd;go_wp2_with fail
  refine(bP _ _ dn dn (by rw[<-HDN.out];first|rfl|skip) (by rw[<-HDN.out];first|rfl|skip) (by omega) (by omega) _).mono ?_;rintro e' w3 ⟨rfl,DT⟩;have E3:=I (E2.out.below DT);clear DT E2;go_wp2_with fail
  refine(Og _ _ _ _ v (dn*dn) ⟨by unfold DB;omega,by unfold DE;omega,by omega⟩ (WN.mk' _ (by omega)) (by omega) _).mono ?_;rintro e' w4 ⟨rfl,EL⟩;have E4:=I ((E3.out.below EL).lay #[.int .u64 (DB (v+dn*dn)),.int .u64 (DE (v+dn*dn))] 57);clear EL E3;go_wp2_with fail
  refine(HH.out _).mono ?_;rintro e' w5 ⟨rfl,Eh⟩;go_wp2;refine AF (v:=.tuple #[.int .i64 (Lv.YV v n S since:Nat),.int .i64 0]) (by simp[results,results107,go_sem]) rfl ⟨rfl,(E4.out.below Eh).DI⟩
theorem Xy(cap least th:Int)(A:Option Addr)(c B n:Nat)(l:List Int)(hn:l.length=n)(e:Int)(he:KC cap least l=e)(hz:e≠0)(hm:n<=maxLen)(w:World)(hr:Reads w B 1 A n (DF l))(hB:B<=w.heap.size):
 Calls prog 110 #[.agg #[.int .i64 cap,.slice A n c],.int .i64 least,.int .i64 th] w fun e' w'=>e'=.returned (.tuple #[.int .i64 0,.int .i64 e])/\Below w.heap.size w w':=by
 have HN:=I hn;have HE:=I he;have HC:=I (hr.alloc hB (.cells #[.int .i64 cap,.slice A n c] 148));have E:=I ((AI w).lay #[.int .i64 cap,.slice A n c] 148);have Rj:B<=(w.alloc (.cells #[.int .i64 cap,.slice A n c] 148)).heap.size:=by simp;omega
 clear hr hB he hn;go_in;go_wp2_with fail
 refine(NF _ _ _ _ _ n l HN.out _ HE.out hm _ HC.out Rj).mono ?_;rintro e' w1 ⟨rfl,C6⟩;have E1:=I (E.out.below C6);clear C6;go_wp2;refine AF (v:=.tuple #[.int .i64 0,.int .i64 e]) (by simp[results,results110,go_sem]) rfl ⟨rfl,E1.out.DI⟩
theorem kQ(cap least th:Int)(A:Option Addr)(c B n:Nat)(l:List Int)(hn:l.length=n)(he:KC cap least l=0)(ht:th<1\/60<th)(hm:n<=maxLen)(w:World)(hr:Reads w B 1 A n (DF l))(hB:B<=w.heap.size):
 Calls prog 110 #[.agg #[.int .i64 cap,.slice A n c],.int .i64 least,.int .i64 th] w fun e' w'=>e'=.returned (.tuple #[.int .i64 0,.int .i64 1])/\Below w.heap.size w w':=by
 have HN:=I hn;have HE:=I he;have HC:=I (hr.alloc hB (.cells #[.int .i64 cap,.slice A n c] 148));have E:=I ((AI w).lay #[.int .i64 cap,.slice A n c] 148);have Rj:B<=(w.alloc (.cells #[.int .i64 cap,.slice A n c] 148)).heap.size:=by simp;omega
 clear hr hB he hn;go_in;go_wp2_with fail
 refine(NF _ _ _ _ _ n l HN.out _ HE.out hm _ HC.out Rj).mono ?_;rintro e' w1 ⟨rfl,C6⟩;have E1:=I (E.out.below C6);clear C6;go_wp2;all_goals first
  |(exfalso;omega)
  |exact AF (v:=.tuple #[.int .i64 0,.int .i64 1]) (by simp[results,results110,go_sem]) rfl ⟨rfl,E1.out.DI⟩
def yv(cap least:Int)(A:Option Addr)(n c:Nat)(f:Int->Nat)(w:World):Prop:=
 ∀s w',0<=s->s<=1073741824->Below w.heap.size w w'->Calls prog 107 #[.agg #[.int .i64 cap,.slice A n c],.int .i64 least,.int .i64 s] w' fun e' GQ=>e'=.returned (.tuple #[.int .i64 (f s:Nat),.int .i64 0])/\Below w'.heap.size w' GQ
theorem cN(cap least th:Int)(A:Option Addr)(c B n:Nat)(l:List Int)(hn:l.length=n)(he:KC cap least l=0)(f:Int->Nat)(h1:1<=th)(h2:th<=60)(hf:(f 1073741824:Int)<th)(hm:n<=maxLen)(w:World)(hr:Reads w B 1 A n (DF l))(hB:B<=w.heap.size)(ho:yv cap least A n c f w):
 Calls prog 110 #[.agg #[.int .i64 cap,.slice A n c],.int .i64 least,.int .i64 th] w fun e' w'=>e'=.returned (.tuple #[.int .i64 0,.int .i64 2])/\Below w.heap.size w w':=by
 have HN:=I hn;have HE:=I he;have HC:=I (hr.alloc hB (.cells #[.int .i64 cap,.slice A n c] 148));have E:=I ((AI w).lay #[.int .i64 cap,.slice A n c] 148);have Rj:B<=(w.alloc (.cells #[.int .i64 cap,.slice A n c] 148)).heap.size:=by simp;omega
 have HO:=I ho;clear hr hB he hn ho;go_in;go_wp2_with fail
 refine(NF _ _ _ _ _ n l HN.out _ HE.out hm _ HC.out Rj).mono ?_;rintro e' w1 ⟨rfl,C6⟩;have E1:=I (E.out.below C6);clear C6;have a0:=E1.out.hd.cell 0;have a1:=E1.out.hd.cell 1;have p0:=E1.out.hd.lt;simp at a0 a1 p0;go_wp2_with fail
 refine(HO.out _ _ (by omega) (by omega) E1.out.DI).mono ?_;rintro e' w2 ⟨rfl,DK⟩;have E2:=I (E1.out.below DK);clear DK;go_wp2;refine AF (v:=.tuple #[.int .i64 0,.int .i64 2]) (by simp[results,results110,go_sem]) rfl ⟨rfl,E2.out.DI⟩
theorem pM(cap least th:Int)(A:Option Addr)(c B n:Nat)(l:List Int)(hn:l.length=n)(he:KC cap least l=0)(f:Int->Nat)(tB:∀s t,s<=t->f s<=f t)(h1:1<=th)(h2:th<=60)(t:Int)(ht:Lv.Qv f th t)(hf:th<=(f 1073741824:Int))(hm:n<=maxLen)(w:World)(hr:Reads w B 1 A n (DF l))(hB:B<=w.heap.size)(ho:yv cap least A n c f w):
 Calls prog 110 #[.agg #[.int .i64 cap,.slice A n c],.int .i64 least,.int .i64 th] w fun e' w'=>e'=.returned (.tuple #[.int .i64 t,.int .i64 0])/\Below w.heap.size w w':=by
 have HN:=I hn;have HE:=I he;have HC:=I (hr.alloc hB (.cells #[.int .i64 cap,.slice A n c] 148));have E:=I ((AI w).lay #[.int .i64 cap,.slice A n c] 148);have Rj:B<=(w.alloc (.cells #[.int .i64 cap,.slice A n c] 148)).heap.size:=by simp;omega
 have HO:=I ho;have HT:=I ht;have HMO:=I tB;have HF:=I hf;clear hr hB he hn ho ht tB;go_in;go_wp2_with fail
 refine(NF _ _ _ _ _ n l HN.out _ HE.out hm _ HC.out Rj).mono ?_;rintro e' w1 ⟨rfl,C6⟩;have E1:=I (E.out.below C6);clear C6;have a0:=E1.out.hd.cell 0;have a1:=E1.out.hd.cell 1;have p0:=E1.out.hd.lt;simp at a0 a1 p0;go_wp2_with fail
 refine(HO.out _ _ (by omega) (by omega) E1.out.DI).mono ?_;rintro e' w2 ⟨rfl,DK⟩;have E2:=I (E1.out.below DK);clear DK a0 a1 p0 E1 E HC Rj;go_wp2_with fail
 clear hf;go_loopw [9,10] (fun lv hv wr=>∃lo hi:Int,lv=.int .i64 lo/\hv=.int .i64 hi/\ -1<=lo/\lo<hi/\hi<=1073741824/\(lo= -1\/(f lo:Int)<th)/\th<=(f hi:Int)/\
  Env w wr [(w.heap.size,148,#[.int .i64 cap,.slice A n c])]) (fun lv hv _=>(intOf hv-intOf lv).toNat)
 case atStart=>exact⟨-1,1073741824,rfl,rfl,by omega,by omega,by omega,.inl rfl,HF.out,E2.out⟩
 case round=>
  obtain⟨lo,hi,rfl,rfl,b0,b1,b2,Vj,bK,hE⟩:=hrel;have F:=I hE;have ux:=I Vj;have xk:=I bK;clear hE E2 Vj bK;have a0:=F.out.hd.cell 0;have a1:=F.out.hd.cell 1;have p0:=F.out.hd.lt;simp at a0 a1 p0;by_cases hg:1<hi-lo
  ·obtain⟨mid,Tf⟩:∃mid,mid=(lo+hi).tdiv 2:=⟨_,rfl⟩
   have sr:lo<mid/\mid<hi/\0<=mid:=by
    rw[Cw (by omega)]at Tf;omega
   obtain⟨m0,m1,m2⟩:=sr;go_wp2_with fail
   rw[<-Tf];have HMI:=I Tf;clear Tf;refine(HO.out _ _ (by omega) (by omega) F.out.DI).mono ?_;rintro e' w3 ⟨rfl,DT⟩;have F2:=I (F.out.below DT);clear DT a0 a1 p0 F;by_cases hq:th<=(f mid:Int)
   ·have HQ:=I hq
    go_wp2_with fail
    go_roundw
    case rel=>exact⟨lo,mid,rfl,rfl,by omega,by omega,by omega,ux.out,HQ.out,F2.out⟩
    case measure=>simp[intOf];omega
   ·have hq3:(f mid:Int)<th:=by omega
    have HQ:=I hq3;go_wp2_with fail
    go_roundw
    case rel=>exact⟨mid,hi,rfl,rfl,by omega,by omega,by omega,.inr HQ.out,xk.out,F2.out⟩
    case measure=>simp[intOf];omega
  ·have:hi=lo+1:=by omega
   subst this;have HTT:=I (Lv.U7 HMO.out HT.out ⟨by omega,xk.out,by
    rcases ux.out with h|h
    ·left;omega
    ·right;rw[show lo+1- 1=lo by omega];exact h⟩)
   go_wp2;refine AF (v:=.tuple #[.int .i64 (lo+1),.int .i64 0]) (by simp[results,results110,go_sem]) rfl ⟨by rw[HTT.out],F.out.DI⟩
def pX(least:Int)(A:Option Addr)(n c:Nat)(f:Int->Nat)(w:World):Prop:=
 ∀s w',0<=s->s<=4294967296->Below w.heap.size w w'->Calls prog 55 #[.slice A n c,.int .i64 least,.int .i64 s] w' fun e' GQ=>e'=.returned (.int .i64 (f s:Nat))/\Below w'.heap.size w' GQ
theorem Zs(least th:Int)(A:Option Addr)(c n:Nat)(f:Int->Nat)(hf:(f 1073741824:Int)<th)(w:World)(ho:pX least A n c f w):
 Calls prog 56 #[.slice A n c,.int .i64 least,.int .i64 th] w fun e' w'=>e'=.returned (.int .i64 (-1))/\Below w.heap.size w w':=by
 have HO:=I ho;clear ho;go_in;go_wp2_with fail
 refine(HO.out _ _ (by omega) (by omega) AA).mono ?_;rintro e' w1 ⟨rfl,C6⟩;go_wp2;refine AF (v:=.int .i64 (-1)) (by simp[results,results56,go_sem]) rfl ⟨rfl,C6⟩
theorem nU(least th:Int)(A:Option Addr)(c n:Nat)(f:Int->Nat)(tB:∀s t,s<=t->f s<=f t)(t:Int)(ht:Lv.Qv f th t)(hf:th<=(f 1073741824:Int))(w:World)(ho:pX least A n c f w):
 Calls prog 56 #[.slice A n c,.int .i64 least,.int .i64 th] w fun e' w'=>e'=.returned (.int .i64 t)/\Below w.heap.size w w':=by
 have HO:=I ho;have HT:=I ht;have HMO:=I tB;have HF:=I hf;clear ho tB ht;go_in;go_wp2_with fail
 refine(HO.out _ _ (by omega) (by omega) AA).mono ?_;rintro e' w1 ⟨rfl,C6⟩;have F0:=I C6;clear C6;go_wp2_with fail
 clear hf;go_loopw [7,8] (fun tv sv wr=>∃(x:Int)(st:Nat),tv=.int .i64 x/\sv=.int .i64 st/\0<=x/\x+2*st<=2147483648/\st<=1073741824/\(x=0\/(f (x- 1):Int)<th)/\(th<=(f (x+2*st- 1):Int)/\0<st\/th<=(f x:Int)/\st=0)/\(st=0\/∃k,st=2^k)/\Below w.heap.size w wr) (fun _ sv _=>(intOf sv).toNat)
 case atStart=>
  refine⟨0,1073741824,rfl,rfl,by omega,by omega,by omega,.inl rfl,.inl ⟨?_,by omega⟩,.inr ⟨30,by decide⟩,F0.out⟩;have h1:=HMO.out 1073741824 (0+2*((1073741824:Nat):Int)- 1) (by omega);have h2:=HF.out;omega
 case round=>
  obtain⟨x,st,rfl,rfl,b0,b1,b2,hx,hy,hk,hb⟩:=hrel;have F:=I hb;have HX:=I hx;have HY:=I hy;have HK:=I hk;clear hb F0 hx hy hk;by_cases hg:0<st
  ·have ha:0<=x+st- 1:=by omega
   have hY:th<=(f (x+2*st- 1):Int):=by
    rcases HY.out with h|h
    ·exact h.1
    ·omega
   have HYY:=I hY;obtain⟨h,hh⟩:∃h:Nat,h=st/2:=⟨_,rfl⟩;have GB:=I (show h=0/\st=1\/st=2*h/\0<h/\∃k,h=2^k by
    rcases HK.out with h0|⟨k,h0⟩
    ·omega
    ·cases k with
     |zero=>left;simp at h0;omega
     |succ k=>right;rw[Ar]at h0;have:h=2^k:=by omega
              exact⟨by omega,by rw[this];exact Bi k,k,this⟩)
   have hdiv:(st:Int)/2=(h:Int):=by omega
   have HD:=I hdiv;clear hY HY hdiv hh;go_wp2_with fail
   refine(HO.out _ _ (by omega) (by omega) F.out).mono ?_;rintro e' w3 ⟨rfl,DT⟩;have F2:=I (F.out.trans (DT.mono F.out.size));clear DT F;by_cases hq:(f (x+st- 1):Int)<th
   ·have HQ:=I hq
    go_wp2_with fail
    rw[HD.out]
    go_roundw
    case rel=>
     refine⟨x+st,h,rfl,rfl,by omega,?_,?_,.inr HQ.out,?_,?_,F2.out⟩
     ·rcases GB.out with h1|h1<;>omega
     ·rcases GB.out with h1|h1<;>omega
     ·rcases GB.out with⟨h1,h2⟩|⟨h1,h2,_⟩
      ·right;exact⟨by have:=HYY.out;rw[show x+2*(st:Int)- 1=x+st by omega]at this;exact this,h1⟩
      ·left;exact⟨by have:=HYY.out;rw[show x+2*(st:Int)- 1=x+st+2*h- 1 by omega]at this;exact this,h2⟩
     ·rcases GB.out with⟨h1,h2⟩|⟨h1,h2,h3⟩
      ·exact .inl h1
      ·exact .inr h3
    case measure=>simp[intOf];rcases GB.out with h1|h1<;>omega
   ·have hq2:th<=(f (x+st- 1):Int):=by omega
    have HQ:=I hq2;clear hq;go_wp2_with fail
    rw[HD.out]
    go_roundw
    case rel=>
     refine⟨x,h,rfl,rfl,by omega,?_,?_,HX.out,?_,?_,F2.out⟩
     ·rcases GB.out with h1|h1<;>omega
     ·rcases GB.out with h1|h1<;>omega
     ·rcases GB.out with⟨h1,h2⟩|⟨h1,h2,_⟩
      ·right;exact⟨by have:=HQ.out;rw[show x+(st:Int)- 1=x by omega]at this;exact this,h1⟩
      ·left;exact⟨by have:=HQ.out;rw[show x+(st:Int)- 1=x+2*h- 1 by omega]at this;exact this,h2⟩
     ·rcases GB.out with⟨h1,h2⟩|⟨h1,h2,h3⟩
      ·exact .inl h1
      ·exact .inr h3
    case measure=>simp[intOf];rcases GB.out with h1|h1<;>omega
  ·have GR:st=0:=by omega
   subst GR;have HTT:=I (Lv.U7 HMO.out HT.out ⟨b0,by
    rcases HY.out with h|h
    ·omega
    ·exact h.1,HX.out⟩)
   go_wp2;refine AF (v:=.int .i64 x) (by simp[results,results56,go_sem]) rfl ⟨by rw[HTT.out],F.out⟩
theorem Uj{a b:Nat}(h:a<=b):GU a b<=0:=by unfold GU;split<;>rename_i h1<;>first|decide|(rw[AC (by omega)];decide)
theorem Rz{a b:Nat}(h:b<a):0<GU a b:=by unfold GU;rw[AC (by omega),AD h];decide
theorem Reads.MI{w W:World}{n:Nat}{A:Option Addr}{xs:List Value}(h:Reads w w.heap.size 1 A n xs)(hb:Below w.heap.size w W):Reads W W.heap.size 1 A n xs:=(h.below hb AB).more hb.size
theorem iU(x:Nat)(hx:x<18446744073709551616)(w:World):Calls prog 35 #[.agg #[.int .u64 0,.int .u64 (x:Int)]] w (KU (fun l=>l=Bt.bits x) w):=by
 have:=Fv x (by omega) w;rw[show DB x=0 by unfold DB;omega,show DE x=(x:Int)by unfold DE;omega]at this;exact this
theorem cX(a b:Nat)(kk:Int)(ha:a<2^128)(hb:b<2^128)(hk:Rt.OD a b kk)(w:World):
 Calls prog 43 #[.agg #[.int .u64 (DB a),.int .u64 (DE a)],.agg #[.int .u64 (DB b),.int .u64 (DE b)]] w fun e w'=>e=.returned (.int .i64 kk)/\Below w.heap.size w w':=by
 have HA:=I ha;have HK:=I hk;have vM:=I (fun w=>Fv a ha w);have FK:=I (fun w=>Fv b hb w);have HLA:=I (show(Bt.bits a).length<=128 by rw[Bt.Ez];exact Bt.Ew ha);have tG:=I (show(Bt.bits b).length<=128/\(b=0->(Bt.bits b).length=0)/\(0<b->0<(Bt.bits b).length)by
  refine⟨by rw[Bt.Ez];exact Bt.Ew hb,fun h=>by rw[h,Bt.Ez,Bt.Gz],fun h=>by rw[Bt.Ez,Bt.Hp _ h];omega⟩)
 have E:=I (((AI w).lay #[.int .u64 (DB a),.int .u64 (DE a)] 57).lay #[.int .u64 (DB b),.int .u64 (DE b)] 57);simp only[Az]at E;generalize DB a=ah at*;generalize DE a=al at*;generalize DB b=bh at*;generalize DE b=bl at*;clear ha hb hk;go_in;go_wp2_with fail
 refine(FK.out _).mono ?_;rintro e' w1 ⟨A1,c1,l1,rfl,NK,VJ,C6⟩;have E1:=I (E.out.below C6);have R1:=I (Reads.DR VJ);have V1:=I (show Bt.val l1=b by rw[NK,Bt.FL]);rw[<-NK]at tG;have ix:=I tG.out;clear NK VJ C6 tG E;go_wp2_with fail
 go_loopw [5,6] (fun kv lv wr=>∃(j c:Nat)(A:Option Addr)(l:List Bool),kv=.int .i64 ((j:Int)- 1)/\lv=.slice A l.length c/\Bt.val l=b*2^j/\l.length=l1.length+j/\j<=128/\(0<j->0<b/\b*2^(j- 1)<=a)/\Reads wr wr.heap.size 1 A l.length (l.map Value.bool)/\
  Env w wr [(w.heap.size+1,57,#[.int .u64 bh,.int .u64 bl]),(w.heap.size,57,#[.int .u64 ah,.int .u64 al])]) (fun kv _ _=>(200-intOf kv).toNat)
 case atStart=>exact⟨0,c1,A1,l1,rfl,rfl,by rw[V1.out];simp,by simp,by omega,fun h=>by omega,R1.out,E1.out⟩
 case round=>
  obtain⟨j,c,A,l,rfl,rfl,hv,hl,hj,hle,hr,hE⟩:=hrel;have F:=I hE;have RL:=I hr;have HV:=I hv;have HLE:=I hle;clear hE hr hv hle E1 R1;have Hc:=ix.out.1;by_cases hz:b=0
  ·have h0:=ix.out.2.1 hz
   have tI:j=0:=by
    rcases Ac j with h|h
    ·exact h
    ·have:=(HLE.out h).1;omega
   have HQ:=I (show kk= -1 by
    rcases HK.out with⟨h,_⟩|⟨n,_,h,_⟩
    ·exact h
    ·omega)
   have j7:l.length=0:=by omega
   subst tI;rw[j7];clear h0 hz hl j7;go_wp2;go_ret;exact⟨by rw[HQ.out];rfl,F.out.DI⟩
  ·have NK:=ix.out.2.2 (by omega)
   have Tk:0<l.length:=by omega
   have hlb:l.length<=300:=by omega
   have x0:=F.out.tl.hd.cell 0;have x1:=F.out.tl.hd.cell 1;simp at x0 x1;have HZ:=I (show 0<b by omega);have HLL:=I hl;clear hz NK hl;go_wp2_with fail
   refine(vM.out _).mono ?_;rintro e' w2 ⟨A2,c2,l2,rfl,I4,WL,DK⟩;have F2:=I (F.out.below DK);have R2:=I (Reads.DR WL);have RL2:=I (RL.out.MI DK);have V2:=I (show Bt.val l2=a by rw[I4,Bt.FL]);have Jw:l2.length<=128:=by have:=HLA.out;rw[<-I4]at this;exact this
   clear I4 WL DK F RL x0 x1;go_wp2_with fail
   refine(Rb A A2 l l2 c c2 w2.heap.size (b*2^j) a w2 RL2.out R2.out (by omega) (by omega) HV.out V2.out).mono ?_;rintro e' w' ⟨rfl,rfl⟩;by_cases hle:b*2^j<=a
   ·have hc:=Uj hle
    have Yc:=I hle;have ALN:j<128:=by
     rcases Ah j 128 with h|h
     ·exact h
     ·have h1:2^128<=2^j:=Ax (by omega) h
      have h2:1*2^j<=b*2^j:=BU _ HZ.out;have:=HA.out;omega
    generalize GU (b*2^j) a=cc at*;clear hle;go_wp2_with fail
    refine(Xl A l c w2 RL2.out (by omega) 1 (by omega) (by omega)).mono ?_;rintro e' w3 ⟨A3,c3,l3,rfl,Y5,JN,DT⟩;have F3:=I (F2.out.below DT);have sQ:=I Y5;have R3:=I (Reads.DR JN);clear Y5 JN DT F2;go_wp2
    go_roundw
    case rel=>
     refine⟨j+1,c3,A3,l3,by simp,rfl,?_,?_,by omega,fun _=>⟨HZ.out,Yc.out⟩,R3.out,F3.out⟩
     ·rw[sQ.out,SY,HV.out,show(2:Nat)^(1:Int).toNat=2 from rfl,Ar,AZ 2,Bd]
     ·rw[sQ.out];simp;have:=HLL.out;omega
    case measure=>simp[intOf];omega
   ·have hc:=Rz (show a<b*2^j by omega)
    have HQ:=I (show kk=(j:Int)- 1 by
     rcases Ac j with h|h
     ·subst h
      rcases HK.out with⟨h1,_⟩|⟨n,_,_,h3,_⟩
      ·rw[h1];rfl
      ·have:b*2^0<=b*2^n:=Bb _ (Ax (by omega) (by omega))
       omega
     ·obtain⟨m,rfl⟩:∃m,j=m+1:=⟨j- 1,by omega⟩
      have h1:=(HLE.out h).2;rw[Ch]at h1;rcases HK.out with⟨h2,h3⟩|⟨n,rfl,_,h3,h4⟩
      ·exfalso
       have:b*1<=b*2^m:=Bb _ (ATW);have:=HZ.out;omega
      ·rcases ASd n m with e|e|e
       ·have:b*2^(n+1)<=b*2^m:=Bb _ (Ax (by omega) e)
        omega
       ·rw[e];omega
       ·have:b*2^(m+1)<=b*2^n:=Bb _ (Ax (by omega) e)
        omega)
    generalize GU (b*2^j) a=cc at*;clear hle;go_wp2;go_ret;exact⟨by rw[HQ.out];rfl,F2.out.DI⟩
theorem qe(a r:Nat)(ha:a<2^128)(hr:Rt.Mo a r)(w:World):
 Calls prog 39 #[.agg #[.int .u64 (DB a),.int .u64 (DE a)]] w fun e w'=>e=.returned (.int .u64 (r:Int))/\Below w.heap.size w w':=by
 have HR:=I hr;have HA:=I ha;have vM:=I (fun w=>Fv a ha w);have HLA:=I (show(Bt.bits a).length<=128 by rw[Bt.Ez];exact Bt.Ew ha);have AIP:(0+2^64)*(0+2^64)=2^128:=by decide
 have GB:=I (show Rt.Oc a 0 64 from⟨by omega,by omega,0,by simp⟩);clear AIP;have E:=I ((AI w).lay #[.int .u64 (DB a),.int .u64 (DE a)] 57);generalize DB a=ah at*;generalize DE a=al at*;clear hr ha;go_in;go_wp2;go_loopw [3,4] (fun xv iv wr=>∃j x:Nat,j<=64/\iv=.int .i64 ((j:Int)- 1)/\xv=.int .u64 (x:Int)/\x<18446744073709551616/\Rt.Oc a x j/\Env w wr [(w.heap.size,57,#[.int .u64 ah,.int .u64 al])]) (fun _ iv _=>(intOf iv+1).toNat)
 case atStart=>exact⟨64,0,by omega,rfl,rfl,by omega,GB.out,E.out⟩
 case round=>
  obtain⟨j,x,hj,rfl,rfl,hx,hinv,hE⟩:=hrel;have F:=I hE;have HI:=I hinv;clear hE hinv E GB;rcases Ac j with tI|tI
  ·subst tI
   have HQ:=I (show x=r from Rt.Tn HR.out HI.out.1 (by have:=HI.out.2.1;rw[Nat.pow_zero]at this;exact this));go_wp2;go_ret;exact⟨by rw[<-HQ.out];rfl,F.out.DI⟩
  ·obtain⟨i,rfl⟩:∃i,j=i+1:=⟨j- 1,by omega⟩
   have e0:((i+1:Nat):Int)- 1=(i:Int):=by omega
   rw[e0];clear e0;have ABo:2^i<18446744073709551616:=Bk (Ax (by omega) (show i<=63 by omega)) (by decide);have Qh:(2:Int)^i=((2^i:Nat):Int):=(ATX 2 i).symm;have IE:x+2^i<18446744073709551616:=by
    rw[<-Rt.pK HI.out.2.2];exact ATd (n:=64) (by omega) (by omega)
   have ik:bits .or .u64 (x:Int) ((2^i:Nat):Int)=((x+2^i:Nat):Int):=by rw[u64_or_nat x (2^i) hx ABo,Rt.pK HI.out.2.2]
   have HY:=I (show(x+2^i)*(x+2^i)<=a->Rt.Oc a (x+2^i) i from Rt.tg HI.out);have HN:=I (show a<(x+2^i)*(x+2^i)->Rt.Oc a x i from Rt.zj HI.out);have HBY:=I (fun w=>iU (x+2^i) IE w);generalize x+2^i=y at*;generalize 2^i=pp at*;have APQ:i<=63:=by omega
   go_wp2_with fail
   refine(HBY.out _).mono ?_;rintro e' w1 ⟨A1,c1,l1,rfl,NK,VJ,C6⟩;have F1:=I (F.out.below C6);have R1:=I (Reads.DR VJ);have V1:=I (show Bt.val l1=y by rw[NK,Bt.FL]);have Hc:l1.length<=64:=by rw[NK,Bt.Ez];exact Bt.Ew (by omega)
   clear NK VJ C6 ik Qh F HBY
   go_upto_region 7 with fail
   have HS:=I (show∀w',Below w1.heap.size w1 w'->(Below w1.heap.size w1 w'/\w'.cell? ⟨w.heap.size,0,none⟩=some (.int .u64 ah)/\w'.cell? ⟨w.heap.size,1,none⟩=some (.int .u64 al))
    from fun w' h=>⟨h,(F1.out.below h).hd.cell 0,(F1.out.below h).hd.cell 1⟩)
   go_cut [24] (fun s24 wx=>s24=.bool (decide (GU (y*y) a<=0))/\Below w1.heap.size w1 wx)
   case first=>
    go_region_held3 (fun w'=>Below w1.heap.size w1 w'/\w'.cell? ⟨w.heap.size,0,none⟩=some (.int .u64 ah)/\w'.cell? ⟨w.heap.size,1,none⟩=some (.int .u64 al))
     ((refine HS.out _ ?_;repeat (with_reducible first|exact YO|exact G8|exact NI|exact AA|refine AE ?_)))
     (first
       |(go_at_call 34;(with_reducible refine(LN A1 A1 l1 l1 c1 c1 _ (R1.out.MI (by repeat (with_reducible first|exact G8|exact AA|refine AE ?_))) (R1.out.MI (by repeat (with_reducible first|exact G8|exact AA|refine AE ?_))) (by omega) (by omega)).mono ?_);rintro e' w2 ⟨A2,c2,l2,rfl,I4,WL,DK⟩;have Yc:=I I4;have NI:Below w1.heap.size w1 w2:=Below.Ej (by repeat (with_reducible first|exact G8|exact AA|refine AE ?_)) DK;clear I4)
       |(go_at_call 35;(with_reducible refine(vM.out _).mono ?_);rintro e' w3 ⟨A3,c3,l3,rfl,Y5,JN,DT⟩;have sQ:=I Y5;have G8:Below w1.heap.size w1 w3:=Below.Ej (by repeat (with_reducible first|exact NI|exact AA|refine AE ?_)) DT;clear Y5)
       |(go_at_call 40;have af:Bt.val l2=y*y:=(by rw[Yc.out.1,Ap,V1.out]);have dq:Bt.val l3=a:=(by rw[sQ.out,Bt.FL]);have Jw:l2.length<=1000000:=(by have:=Yc.out.2.1;omega);have tF:l3.length<=1000000:=(by have:=HLA.out;rw[<-sQ.out]at this;omega);(with_reducible refine(Rb A2 A3 l2 l3 c2 c3 w3.heap.size (y*y) a w3 ((Reads.DR WL).MI (by first|exact DT|exact Below.Ej (by repeat (with_reducible first|exact AA|refine AE ?_)) DT)) (Reads.DR JN) Jw tF af dq).mono ?_);rintro e' wo ⟨rfl,rfl⟩))
    all_goals
     rename_i hheld;have DY:=hheld.1;clear hheld HS;go_wp2_with fail
     go_meet
     exact⟨rfl,DY⟩
   case rest=>
    obtain⟨rfl,DY⟩:=hcut;have F2:=I (F1.out.below DY);clear DY F1 HS R1;by_cases hle:y*y<=a
    ·have hc:=Uj hle
     have HI2:=I (HY.out hle);generalize GU (y*y) a=cc at*;clear hle HY HN;go_wp2
     go_roundw
     case rel=>exact⟨i,y,by omega,by simp,rfl,IE,HI2.out,F2.out⟩
     case measure=>simp[intOf]
    ·have hc:=Rz (show a<y*y by omega)
     have HI2:=I (HN.out (by omega));generalize GU (y*y) a=cc at*;clear hle HY HN;go_wp2
     go_roundw
     case rel=>exact⟨i,x,by omega,by simp,rfl,hx,HI2.out,F2.out⟩
     case measure=>simp[intOf]
