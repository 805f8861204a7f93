/- wide -/
import Derived.Test.YthiplgekjgffkaaGreatDoorM05
import Derived.Shelf.Spec.BitsCarry
set_option maxRecDepth 100000
set_option maxHeartbeats 99000000
set_option linter.all false
namespace Go.Proofs.YthiplgekjgffkaaGreatDoor
open Go.Proofs.Tryz
open Go.RowKit
theorem gu(x y b:Int)(hx:0<=x)(hy:0<=y)(hy':y<=18446744073709551615)(Jg:0<=b)(hb:b<=1)(w:World):
 (callFunc 159 #[.int .u64 x,.int .u64 y,.int .u64 b]).run prog w=.ok (.value (.tuple #[.int .u64 (d64 x y b),.int .u64 (iV x y b)])) w:=by
 obtain⟨x,rfl⟩:=Bo hx;obtain⟨y,rfl⟩:=Bo hy;obtain⟨b,rfl⟩:=Bo Jg;have e1:(((x+18446744073709551616-y-b)%18446744073709551616:Nat):Int)=((x:Int)-y-b)%18446744073709551616:=by omega
 have e2:((if x<y+b then 1 else 0:Nat):Int)=if (x:Int)<y+b then 1 else 0:=by split<;>split<;>omega
 unfold d64 iV;rw[<-e1,<-e2];rw[ATo func159 (by kernel_rfl) (by kernel_rfl) (by kernel_rfl) (e:=sub64Entry) (by kernel_rfl),run_sub64 x y b (by omega)];rfl
theorem k8(a b:Nat)(h:b<=a):d64 (DE a) (DE b) 0=DE (a-b)/\d64 (DB a) (DB b) (iV (DE a) (DE b) 0)=DB (a-b)%18446744073709551616/\
 (iV (DB a) (DB b) (iV (DE a) (DE b) 0)=0):=by
 unfold d64 iV DB DE;refine⟨by omega,by split<;>omega,by split<;>split<;>omega⟩
theorem bY(ah al bh bl:Int)(a b:Nat)(ha:WN ah al a)(hb:WN bh bl b)(h:b<=a)(w:World):
 Calls prog 76 #[.agg #[.int .u64 ah,.int .u64 al],.agg #[.int .u64 bh,.int .u64 bl]] w fun e w'=>
  e=.returned (.tuple #[.agg #[.int .u64 (DB (a-b)),.int .u64 (DE (a-b))],.int .i64 0])/\Below w.heap.size w w':=by
 obtain⟨rfl,rfl,ha⟩:=ha;obtain⟨rfl,rfl,hb⟩:=hb;obtain⟨e1,e2,e3⟩:=k8 a b h;obtain⟨a1,a2⟩:=Eo a ha;obtain⟨a3,a4⟩:=Fy a;obtain⟨b1,b2⟩:=Eo b hb;obtain⟨b3,b4⟩:=Fy b;obtain⟨k0,k1⟩:=sL (DE a) (DE b) 0;have hm:=Eo (a-b) (by omega);rw[show DB (a-b)%18446744073709551616=DB (a-b)by omega]at e2;have E1:=I e1;have E2:=I e2;have hk:iV (DB a) (DB b) (iV (DE a) (DE b) 0)<=0:=by omega
 clear e1 e2 e3 ha hb h hm;go_in;go_wp2_with (first|simp only[gu (DE a) (DE b) 0 a3 b3 b4 (Ct 0) (by decide)]|simp only[gu (DB a) (DB b) _ a1 b1 b2 k0 k1])
 rw[E1.out,E2.out];refine AF (v:=.tuple #[.agg #[.int .u64 (DB (a-b)),.int .u64 (DE (a-b))],.int .i64 0]) (by simp[results,results76,go_sem]) rfl ⟨rfl,?_⟩;exact((AA.alloc AB _).alloc (by simp) _).alloc (by simp;omega) _
theorem WU(ah al bh bl:Int)(a b:Nat)(ha:WN ah al a)(hb:WN bh bl b)(h:a<b)(w:World):
 Calls prog 76 #[.agg #[.int .u64 ah,.int .u64 al],.agg #[.int .u64 bh,.int .u64 bl]] w fun e w'=>
  e=.returned (.tuple #[.agg #[.int .u64 0,.int .u64 0],.int .i64 7])/\Below w.heap.size w w':=by
 obtain⟨rfl,rfl,ha⟩:=ha;obtain⟨rfl,rfl,hb⟩:=hb;obtain⟨a1,a2⟩:=Eo a ha;obtain⟨a3,a4⟩:=Fy a;obtain⟨b1,b2⟩:=Eo b hb;obtain⟨b3,b4⟩:=Fy b;obtain⟨k0,k1⟩:=sL (DE a) (DE b) 0;have hk:0<iV (DB a) (DB b) (iV (DE a) (DE b) 0):=by
  unfold iV DB DE;split<;>split<;>omega
 clear ha hb h;go_in;go_wp2_with (first|simp only[gu (DE a) (DE b) 0 a3 b3 b4 (Ct 0) (by decide)]|simp only[gu (DB a) (DB b) _ a1 b1 b2 k0 k1])
 refine AF (v:=.tuple #[.agg #[.int .u64 0,.int .u64 0],.int .i64 7]) (by simp[results,results76,go_sem]) rfl ⟨rfl,?_⟩;exact((AA.alloc AB _).alloc (by simp) _).alloc (by simp;omega) _
theorem Rd(ah al bh bl:Int)(a b:Nat)(ha:WN ah al a)(hb:WN bh bl b)(w:World):
 Calls prog 76 #[.agg #[.int .u64 ah,.int .u64 al],.agg #[.int .u64 bh,.int .u64 bl]] w fun e w'=>
  e=.returned (.tuple #[.agg #[.int .u64 (DB (a-b)),.int .u64 (DE (a-b))],.int .i64 (Zw a b)])/\Below w.heap.size w w':=by
 unfold Zw;by_cases h:b<=a
 ·rw[AD h];exact bY ah al bh bl a b ha hb h w
 ·rw[AC h]
  have e:a-b=0:=by omega
  rw[e];exact WU ah al bh bl a b ha hb (by omega) w
