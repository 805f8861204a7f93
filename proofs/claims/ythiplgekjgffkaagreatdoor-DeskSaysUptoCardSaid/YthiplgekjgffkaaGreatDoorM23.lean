/- math/bits -/
import Derived.Test.YthiplgekjgffkaaGreatDoorM22
set_option maxRecDepth 100000
set_option maxHeartbeats 99000000
set_option linter.all false
namespace Go.Proofs.YthiplgekjgffkaaGreatDoor
open Go.Proofs.Tryz
open Go.RowKit
theorem ACk(y s:Nat)(hy:y<18446744073709551616)(hs:s+Bt.D6 y=64)(w:World):
 Calls prog 201 #[.int .u64 y] w fun e w'=>e=.returned (.int .i64 s)/\w=w':=by
 have hb:Lib.bitLen y=Bt.D6 y:=Oy y (by omega);have HB:=I hb;have DK:Lib.bitLen y<=64:=by omega
 have HS:=I (show(64:Int)- (Lib.bitLen y:Int)=(s:Int)by omega);clear hb hs;go_in;go_wp2_with (go_at_call 165;refine(Tryz.bits_Len64 _ _ (by omega) (by omega)).mono ?_;rintro e w' ⟨rfl,rfl⟩)
 go_ret;exact⟨D7 (by simpa using HS.out),rfl⟩
theorem Zt(l y:Nat)(hl:l<18446744073709551616)(hy:y<18446744073709551616)(h0:0<y)(w:World):
 Calls prog 162 #[.int .u64 0,.int .u64 l,.int .u64 y] w fun e w'=>e=.returned (.tuple #[.int .u64 (l/y:Nat),.int .u64 (l%y:Nat)])/\Below w.heap.size w w':=by
 have hyz:((y:Int)==0)=false:=by simp;omega
 have hy0:(0:Int)<(y:Int):=by omega
 go_in;go_wp2
 go_quiet (fail)
 go_wp2;have e1:IntKind.u64.wrap ((l:Int)/(y:Int))=((l/y:Nat):Int):=by
  have h1:l/y<=l:=Bu l y;rw[show(l:Int)/(y:Int)=((l/y:Nat):Int)by simp,CA];generalize l/y=q at*;omega
 have e2:(l:Int)%(y:Int)=((l%y:Nat):Int):=by simp
 rw[e1,e2];refine AF (v:=.tuple #[.int .u64 (l/y:Nat),.int .u64 (l%y:Nat)]) (by simp[results,results162,go_sem]) rfl ⟨rfl,Ba AA _⟩
theorem S3(u y1:Nat)(hy:0<y1)(hu:u<18446744073709551616):
 ∃q r:Nat,q=u/y1/\r=u%y1/\IntKind.u64.wrap ((u:Int)/(y1:Int))=(q:Int)/\IntKind.u64.wrap ((u:Int)-IntKind.u64.wrap ((q:Int)*(y1:Int)))=(r:Int):=by
 have h1:u/y1<=u:=Bu u y1;have h2:=CM u y1;have h3:=BN u hy;refine⟨u/y1,u%y1,rfl,rfl,?_,?_⟩
 ·rw[show(u:Int)/(y1:Int)=((u/y1:Nat):Int)by simp,CA]
  generalize u/y1=q at*;omega
 ·rw[show((u/y1:Nat):Int)*(y1:Int)=((y1*(u/y1):Nat):Int)by rw[AZ,AS5],CA,CA]
  generalize y1*(u/y1)=p at*;omega
def Dig(u Y d:Nat)(q:Nat):Prop:=q<4294967296/\q*Y<=u*4294967296+d/\u*4294967296+d-q*Y<Y
def ri:Nat:=4294967296
theorem Tu{r y:Nat}(h:r<4294967296)(hy:2147483648<=y):ri- (r+y)<ri-r:=by unfold ri;omega
theorem SB{u Y d q:Nat}(h:q<4294967296/\q*Y<=u*4294967296+d/\u*4294967296+d-q*Y<Y):Dig u Y d q:=h
theorem jc(h l y s:Nat)(hh:0<h)(hhy:h<y)(hl:l<18446744073709551616)(hy:y<18446744073709551616)(hs:s+Bt.D6 y=64)(AEh:s<64):
 ∃Y y1 y0 u v d1 d0:Nat,y*2^s=Y/\Y=y1*4294967296+y0/\(h*18446744073709551616+l)*2^s=(u*4294967296+d1)*4294967296+d0/\Kn.Ok u y1 y0 d1/\d0<4294967296/\Y<18446744073709551616/\9223372036854775808<=Y/\
  IntKind.u64.wrap ((y:Int)*2^s)=(Y:Int)/\(Y:Int)/4294967296=(y1:Int)/\bits BinOp.and IntKind.u64 (Y:Int) 4294967295=(y0:Int)/\
  bits BinOp.or IntKind.u64 (IntKind.u64.wrap ((h:Int)*2^s)) ((l:Int)/2^(64-s))=(u:Int)/\IntKind.u64.wrap ((l:Int)*2^s)=(v:Int)/\(v:Int)/4294967296=(d1:Int)/\bits BinOp.and IntKind.u64 (v:Int) 4294967295=(d0:Int):=by
 have hp:0<2^s:=Bi s;obtain⟨b1,b2⟩:=Bt.Hy y (by omega);have e64:2^s*2^Bt.D6 y=18446744073709551616:=by rw[<-Bg,hs]
 have e63:2^s*2^(Bt.D6 y- 1)=9223372036854775808:=by
  have:s+(Bt.D6 y- 1)=63:=by omega
  rw[<-Bg,this]
 have hY1:y*2^s<18446744073709551616:=by
  rw[<-e64,AZ];exact Nat.mul_lt_mul_of_pos_left b2 hp
 have hY0:9223372036854775808<=y*2^s:=by
  rw[<-e63,AZ y];exact Bb _ b1
 have hH:h*2^s+2^s<=y*2^s:=by
  have:=BU (2^s) (show h+1<=y by omega);rw[Cp]at this;exact this
 obtain⟨p1,p2⟩:=Sg l s (by omega);have AIz:=pq s (by omega);have Vj:l/2^(64-s)<2^s:=by
  rw[ASe (Bi _),AIz];exact hl
 have j4:h*2^s%2^s=0:=Nat.mul_mod_left _ _;have hw:∀x:Nat,IntKind.u64.wrap ((x:Int)*2^s)=((x*2^s%18446744073709551616:Nat):Int):=fun x=>by
  rw[show(x:Int)*2^s=((x*2^s:Nat):Int)by simp,RI]
 have xj:∀x:Nat,x<18446744073709551616->bits BinOp.and IntKind.u64 (x:Int) 4294967295=((x%4294967296:Nat):Int):=fun x hx=>by
  have:=u64_and_nat x 4294967295 hx (by omega);rw[show x &&& 4294967295=x%4294967296 from Nat.and_two_pow_sub_one_eq_mod x 32]at this
  simpa using this
 have ik:bits BinOp.or IntKind.u64 (IntKind.u64.wrap ((h:Int)*2^s)) ((l:Int)/2^(64-s))=((h*2^s+l/2^(64-s):Nat):Int):=by
  rw[hw,show(l:Int)/2^(64-s)=((l/2^(64-s):Nat):Int)by simp,B8 (by omega),u64_or_nat _ _ (by omega) (by omega),nat_join s _ _ j4 Vj]
 have hdm:=CM (l*2^s) 18446744073709551616;refine⟨y*2^s,y*2^s/4294967296,y*2^s%4294967296,h*2^s+l/2^(64-s),l*2^s%18446744073709551616,l*2^s%18446744073709551616/4294967296,l*2^s%18446744073709551616%4294967296,rfl,by omega,?_,⟨by omega,by omega,by omega,by omega,by omega⟩,by omega,hY1,hY0,?_,by omega,xj _ hY1,ik,hw l,by omega,xj _ (by omega)⟩
 ·rw[BV,Nat.mul_right_comm,<-p1]
  omega
 ·rw[hw y,B8 hY1]
theorem jY(h l y s:Nat)(hh:0<h)(hhy:h<y)(hl:l<18446744073709551616)(hy:y<18446744073709551616)(hs:s+Bt.D6 y=64)(w:World):
 Calls prog 162 #[.int .u64 h,.int .u64 l,.int .u64 y] w fun e w'=>e=.returned (.tuple #[.int .u64 ((h*18446744073709551616+l)/y:Nat),.int .u64 ((h*18446744073709551616+l)%y:Nat)])/\Below w.heap.size w w':=by
 have hyz:((y:Int)==0)=false:=by simp;omega
 have hhz:((h:Int)==0)=false:=by simp;omega
 have HS:=I hs;have AEh:s<64:=by
  have:=Bt.Ya (n:=y) (k:=0) (by simp;omega);omega
 obtain⟨Y,y1,y0,u,v,d1,d0,w1,w2,w3,N7,fh,hY1,hY0,e1,e2,e3,e4,e5,e6,e7⟩:=jc h l y s hh hhy hl hy hs AEh;have W1:=I w1;have W2:=I w2;have W3:=I w3;have uO:=I N7;obtain⟨k0,k1,k2,k3,k4⟩:=N7;have hu:u<18446744073709551616:=by omega
 have ANv:((y1:Int)==0)=false:=by simp;omega
 have AMY:(0:Int)<(y1:Int):=by omega
 clear hs w1 w2 w3 k4;obtain⟨qs,rs,jb,hrs,e8,e9⟩:=S3 u y1 (by omega) hu;have HI1:=I (show Kn.Inv u y1 y0 d1 qs rs by rw[jb,hrs];exact Kn.start uO.out);have fL:=uO;have hu1:=hu;have hr1:rs<4294967296:=by rw[hrs];have:=BN u (show 0<y1 by omega);omega
 clear jb hrs;go_in
 go_upto_block 0 with(go_at_call 201;refine(ACk _ s (by omega) HS.out _).mono ?_;rintro e w' ⟨rfl,rfl⟩)
 go_cut [15,16] (fun a _ wx=>wx=w/\∃q:Nat,a=.int .u64 q/\Dig u (y1*4294967296+y0) d1 q)
 case first=>
  have HY1:=I k0;have AAA:=I (show 2147483648<=(y1:Int)/\(y1:Int)<4294967296/\(y0:Int)<4294967296/\(d1:Int)<4294967296 by omega);have HHR:=I hr1;have HHU:=I hu1;have yP:=I (show y0<4294967296/\d1<4294967296 from⟨fL.out.2.2.1,fL.out.2.2.2.1⟩);clear k0 k1 k2 k3 hu hu1 hr1 fh hY1 hY0 hl hy;go_wp2_with fail
  go_loop [15,16] (fun a b=>∃q r:Nat,a=.int .u64 q/\b=.int .u64 r/\Kn.Inv u y1 y0 d1 q r/\r<4294967296) (fun _ b=>ri- (intOf b).toNat)
  case atStart=>exact⟨_,_,rfl,rfl,HI1.out,HHR.out⟩
  case round=>
   obtain⟨q,r,rfl,rfl,hinv,hr⟩:=hrel;have yV:=I hinv;have HT:=I (Kn.test fL.out hinv);obtain⟨bq,br⟩:=Kn.bds fL.out hinv HHU.out;obtain⟨g0,g1,g2,g3⟩:=AAA.out;obtain⟨n0,n1⟩:=yP.out;have bqi:(q:Int)<=8589934591:=by omega
   have bri:(r:Int)<4294967296:=by omega
   have yA:=I hr;clear hinv;by_cases hA:u*4294967296+d1<q*(y1*4294967296+y0)
   ·have YU:=Kn.pos hA
    have HN:=I (Kn.next yV.out hA);have HD:=I (fun hs=>Kn.done fL.out HN.out (Kn.stop fL.out HN.out hs));have ik:=HT.out.2 hA;have mz:(1:Int)<=(q:Int):=by omega
    clear hA;have xB:=I (show((q- 1:Nat):Int)=(q:Int)- 1 by omega);by_cases O6:4294967296<=q
    ·have hbi:(4294967296:Int)<=(q:Int):=by omega
     clear ik;by_cases bH:4294967296<=r+y1
     ·have Ua:=I (SB (HD.out bH).2)
      have Th:(4294967296:Int)<=(r:Int)+(y1:Int):=by omega
      clear bH O6 hr bq br n0 n1 YU;go_wp2_with fail
      go_meet
      exact⟨rfl,q- 1,by rw[xB.out],Ua.out⟩
     ·have Th:decide ((4294967296:Int)<=(r:Int)+(y1:Int))=false:=Bc (by omega)
      have jU:=I (show r+y1<4294967296 by omega);clear bH O6 hr bq br n0 n1 YU;go_wp2;go_round
      case rel=>exact⟨q- 1,r+y1,by rw[xB.out],by simp,HN.out,jU.out⟩
      case measure=>exact Tu yA.out HY1.out
    ·have DG:4294967296*r+d1<q*y0:=by omega
     have jb:q<4294967296:=by omega
     have tN:q*y0<=4294967295*4294967295:=BR (by omega) (by omega);have mh:(q:Int)*(y0:Int)=((q*y0:Nat):Int):=(AS5 q y0).symm;clear ik O6;generalize q*y0=P at*;have hbi:decide ((4294967296:Int)<=(q:Int))=false:=Bc (by omega);have AAQ:decide (4294967296*(r:Int)+(d1:Int)<(P:Int))=true:=decide_eq_true (by omega);have zS:(P:Int)<=18446744065119617025:=by omega
     by_cases bH:4294967296<=r+y1
     ·have Ua:=I (SB (HD.out bH).2)
      have Th:(4294967296:Int)<=(r:Int)+(y1:Int):=by omega
      clear bH DG jb tN hr bq br n0 n1 YU;go_wp2_with fail
      go_meet
      exact⟨rfl,q- 1,by rw[xB.out],Ua.out⟩
     ·have Th:decide ((4294967296:Int)<=(r:Int)+(y1:Int))=false:=Bc (by omega)
      have jU:=I (show r+y1<4294967296 by omega);clear bH DG jb tN hr bq br n0 n1 YU;go_wp2;go_round
      case rel=>exact⟨q- 1,r+y1,by rw[xB.out],by simp,HN.out,jU.out⟩
      case measure=>exact Tu yA.out HY1.out
   ·have Ua:=I (SB (Kn.done fL.out yV.out hA).2)
    have Ix:¬(4294967296<=q\/4294967296*r+d1<q*y0):=fun h=>hA (HT.out.1 h);have jb:q<4294967296:=by omega
    have DG:q*y0<=4294967296*r+d1:=by omega
    have mh:(q:Int)*(y0:Int)=((q*y0:Nat):Int):=(AS5 q y0).symm;clear Ix hA;generalize q*y0=P at*;have zS:(P:Int)<=18446744073709551615:=by omega
    have hbi:decide ((4294967296:Int)<=(q:Int))=false:=Bc (by omega);have AAQ:decide (4294967296*(r:Int)+(d1:Int)<(P:Int))=false:=Bc (by omega);clear jb DG hr bq br n0 n1;go_wp2_with fail
    go_meet
    exact⟨rfl,q,rfl,Ua.out⟩
 case rest=>
  obtain⟨rfl,q1,rfl,zy⟩:=hcut;obtain⟨j1,j2,j3⟩:=zy;have hYe:=W2.out;obtain⟨R,hR⟩:∃R,R=u*4294967296+d1-q1*(y1*4294967296+y0):=⟨_,rfl⟩;have hR2:q1*Y+R=u*4294967296+d1:=by rw[hYe];omega
  have jU:=I hR2;have hRY:R<y1*4294967296+y0:=by omega
  have AA6:R<18446744073709551616:=by omega
  have e10:IntKind.u64.wrap (IntKind.u64.wrap (IntKind.u64.wrap ((u:Int)*4294967296)+(d1:Int))-IntKind.u64.wrap ((q1:Int)*(Y:Int)))=(R:Int):=by
   rw[show(q1:Int)*(Y:Int)=((q1*Y:Nat):Int)from(AS5 q1 Y).symm];simp only[CA];clear HI1 e8 e9 e1 e2 e3 e4 e5 e6 e7;generalize q1*Y=P at*;omega
  obtain⟨qs2,rs2,AC7,ABL,e11,e12⟩:=S3 R y1 (by omega) AA6;have HI2:=I (show Kn.Inv R y1 y0 d0 qs2 rs2 by rw[AC7,ABL];exact Kn.start ⟨k0,k1,k2,fh,hRY⟩);have fW:=I (show Kn.Ok R y1 y0 d0 from⟨k0,k1,k2,fh,hRY⟩);have ADm:rs2<4294967296:=by rw[ABL];have:=BN R (show 0<y1 by omega);omega
  have HJ:=I j1;have HRR:=I hRY;clear AC7 ABL j1 j2 j3 hYe hR hR2 hRY
  go_upto_block 2 with fail
  go_cut [18,16] (fun a _ wx=>wx=wc/\∃q:Nat,a=.int .u64 q/\Dig R (y1*4294967296+y0) d0 q)
  case first=>
   have HY1:=I k0;have AAA:=I (show 2147483648<=(y1:Int)/\(y1:Int)<4294967296/\(y0:Int)<4294967296/\(d0:Int)<4294967296 by omega);have HHR:=I ADm;have HHU:=I AA6;have yP:=I (show y0<4294967296/\d0<4294967296 from⟨fW.out.2.2.1,fW.out.2.2.2.1⟩);clear k0 k1 k2 k3 hu hu1 hr1 fh hY1 hY0 hl hy AA6 ADm;go_wp2_with fail
   go_loop [18,16] (fun a b=>∃q r:Nat,a=.int .u64 q/\b=.int .u64 r/\Kn.Inv R y1 y0 d0 q r/\r<4294967296) (fun _ b=>ri- (intOf b).toNat)
   case atStart=>exact⟨_,_,rfl,rfl,HI2.out,HHR.out⟩
   case round=>
    obtain⟨q,r,rfl,rfl,hinv,hr⟩:=hrel;have yV:=I hinv;have HT:=I (Kn.test fW.out hinv);obtain⟨bq,br⟩:=Kn.bds fW.out hinv HHU.out;obtain⟨g0,g1,g2,g3⟩:=AAA.out;obtain⟨n0,n1⟩:=yP.out;have bqi:(q:Int)<=8589934591:=by omega
    have bri:(r:Int)<4294967296:=by omega
    have yA:=I hr;clear hinv;by_cases hA:R*4294967296+d0<q*(y1*4294967296+y0)
    ·have YU:=Kn.pos hA
     have HN:=I (Kn.next yV.out hA);have HD:=I (fun hs=>Kn.done fW.out HN.out (Kn.stop fW.out HN.out hs));have ik:=HT.out.2 hA;have mz:(1:Int)<=(q:Int):=by omega
     clear hA;have xB:=I (show((q- 1:Nat):Int)=(q:Int)- 1 by omega);by_cases O6:4294967296<=q
     ·have hbi:(4294967296:Int)<=(q:Int):=by omega
      clear ik;by_cases bH:4294967296<=r+y1
      ·have Ua:=I (SB (HD.out bH).2)
       have Th:(4294967296:Int)<=(r:Int)+(y1:Int):=by omega
       clear bH O6 hr bq br n0 n1 YU;go_wp2_with fail
       go_meet
       exact⟨rfl,q- 1,by rw[xB.out],Ua.out⟩
      ·have Th:decide ((4294967296:Int)<=(r:Int)+(y1:Int))=false:=Bc (by omega)
       have jU:=I (show r+y1<4294967296 by omega);clear bH O6 hr bq br n0 n1 YU;go_wp2;go_round
       case rel=>exact⟨q- 1,r+y1,by rw[xB.out],by simp,HN.out,jU.out⟩
       case measure=>exact Tu yA.out HY1.out
     ·have DG:4294967296*r+d0<q*y0:=by omega
      have jb:q<4294967296:=by omega
      have tN:q*y0<=4294967295*4294967295:=BR (by omega) (by omega);have mh:(q:Int)*(y0:Int)=((q*y0:Nat):Int):=(AS5 q y0).symm;clear ik O6;generalize q*y0=P at*;have hbi:decide ((4294967296:Int)<=(q:Int))=false:=Bc (by omega);have AAQ:decide (4294967296*(r:Int)+(d0:Int)<(P:Int))=true:=decide_eq_true (by omega);have zS:(P:Int)<=18446744065119617025:=by omega
      by_cases bH:4294967296<=r+y1
      ·have Ua:=I (SB (HD.out bH).2)
       have Th:(4294967296:Int)<=(r:Int)+(y1:Int):=by omega
       clear bH DG jb tN hr bq br n0 n1 YU;go_wp2_with fail
       go_meet
       exact⟨rfl,q- 1,by rw[xB.out],Ua.out⟩
      ·have Th:decide ((4294967296:Int)<=(r:Int)+(y1:Int))=false:=Bc (by omega)
       have jU:=I (show r+y1<4294967296 by omega);clear bH DG jb tN hr bq br n0 n1 YU;go_wp2;go_round
       case rel=>exact⟨q- 1,r+y1,by rw[xB.out],by simp,HN.out,jU.out⟩
       case measure=>exact Tu yA.out HY1.out
    ·have Ua:=I (SB (Kn.done fW.out yV.out hA).2)
     have Ix:¬(4294967296<=q\/4294967296*r+d0<q*y0):=fun h=>hA (HT.out.1 h);have jb:q<4294967296:=by omega
     have DG:q*y0<=4294967296*r+d0:=by omega
     have mh:(q:Int)*(y0:Int)=((q*y0:Nat):Int):=(AS5 q y0).symm;clear Ix hA;generalize q*y0=P at*;have zS:(P:Int)<=18446744073709551615:=by omega
     have hbi:decide ((4294967296:Int)<=(q:Int))=false:=Bc (by omega);have AAQ:decide (4294967296*(r:Int)+(d0:Int)<(P:Int))=false:=Bc (by omega);clear jb DG hr bq br n0 n1;go_wp2_with fail
     go_meet
     exact⟨rfl,q,rfl,Ua.out⟩
  case rest=>
   obtain⟨rfl,q0,rfl,zy⟩:=hcut;obtain⟨j1,j2,j3⟩:=zy;obtain⟨t1,t2⟩:=Kn.two (N:=(h*18446744073709551616+l)*2^s) (Y:=y1*4294967296+y0) (u:=u) (d1:=d1) (d0:=d0) (q1:=q1) (q0:=q0) (R:=R) (by omega) W3.out (by rw[<-W2.out];exact jU.out) j2 j3;rw[<-W2.out,<-W1.out]at t1 t2;rw[Nat.mul_div_mul_right _ _ (Bi s)]at t1;rw[Nat.mul_mod_mul_right]at t2;have j4:(h*18446744073709551616+l)%y<y:=BN _ (by omega);have T1:=I t1;have e13:IntKind.u64.wrap (IntKind.u64.wrap ((q1:Int)*4294967296)+(q0:Int))=(((h*18446744073709551616+l)/y:Nat):Int):=by
    rw[<-T1.out];have:=HJ.out;simp only[CA];clear e1 e2 e3 e4 e5 e6 e7 e8 e9 e10 e11 e12 HI1 HI2 T1 t1 t2;omega
   have hYY:q0*(y*2^s)=q0*Y:=by rw[W1.out]
   have e14:IntKind.u64.wrap (IntKind.u64.wrap (IntKind.u64.wrap ((R:Int)*4294967296)+(d0:Int))-IntKind.u64.wrap ((q0:Int)*(Y:Int)))=((((h*18446744073709551616+l)%y)*2^s:Nat):Int):=by
    rw[show(q0:Int)*(Y:Int)=((q0*Y:Nat):Int)from(AS5 q0 Y).symm,<-t2,hYY];have DG:R*4294967296+d0-q0*Y<Y:=by have:=j3;rw[<-W2.out]at this;exact this
    have hle:q0*Y<=R*4294967296+d0:=by have:=j2;rw[<-W2.out]at this;exact this
    simp only[CA];clear e1 e2 e3 e4 e5 e6 e7 e8 e9 e10 e11 e12 e13 HI1 HI2 T1 t1 t2 j1 j2 j3 hYY;generalize q0*Y=P at*;omega
   have e15:((((h*18446744073709551616+l)%y)*2^s:Nat):Int)/2^s=(((h*18446744073709551616+l)%y:Nat):Int):=by
    rw[show(2:Int)^s=((2^s:Nat):Int)by simp,<-Int.natCast_ediv,Nat.mul_div_cancel _ (Bi s)]
   have E13:=I e13;have E15:=I e15;generalize hq:(h*18446744073709551616+l)/y=qq at*;generalize hm:((h*18446744073709551616+l)%y)=mm at*;generalize TY:mm*2^s=ms at*;have HQ:=I hq;have HM:=I hm;clear hq hm TY t1 t2 j1 j2 j3 j4 e15 hYY;go_wp2;rw[E15.out];refine AF (v:=.tuple #[.int .u64 qq,.int .u64 mm]) (by simp[results,results162,go_sem]) rfl ⟨by rw[HQ.out,HM.out],AA⟩
theorem kq(h l y:Nat)(hhy:h<y)(hl:l<18446744073709551616)(hy:y<18446744073709551616)(w:World):
 Calls prog 162 #[.int .u64 h,.int .u64 l,.int .u64 y] w fun e w'=>e=.returned (.tuple #[.int .u64 ((h*18446744073709551616+l)/y:Nat),.int .u64 ((h*18446744073709551616+l)%y:Nat)])/\Below w.heap.size w w':=by
 rcases Ac h with h0|h0
 ·subst h0
  rw[ASu,CH];exact Zt l y hl hy (by omega) w
 ·exact jY h l y (64-Bt.D6 y) h0 hhy hl hy (by have:=Bt.Ew (n:=y) (k:=64) (by omega);omega) w
theorem rg(A:Option Addr)(c B n:Nat)(l:List Int)(hn:l.length=n)(he:EZ l=0)(S Q:Int)(hS:s1 l=S)(hQ:s2 l=Q)(hc:n<=c)(hm:c<=maxLen)(w:World)(hr:Reads w B 1 A n (DF l))(hB:B<=w.heap.size):
 Calls prog 46 #[.slice A n c] w fun e' w'=>e'=.returned (.agg #[.int .i64 n,.int .i64 S,.int .i64 Q])/\Below w.heap.size w w':=by
 subst hn hS hQ;exact iJ l (Dk he).2 (Dk he).1 A c B w hc hm hr hB
theorem Sn(least since:Int)(A:Option Addr)(c B n:Nat)(l:List Int)(hn:l.length=n)(he:EZ l=0)(Hc:1<=n)(j7:1<=least)(NK:least<=16777216)(S Q:Int)(hS:s1 l=S)(hQ:s2 l=Q)(v:Nat)(hv:Pw n S Q least=v)(dB:0<=since)(Ur:since<=4294967296)(hc:n<=c)(hm:c<=maxLen)(w:World)(hr:Reads w B 1 A n (DF l))(hB:B<=w.heap.size):
 Calls prog 55 #[.slice A n c,.int .i64 least,.int .i64 since] w fun e' w'=>e'=.returned (.int .i64 (Lv.YV v n S since:Nat))/\Below w.heap.size w w':=by
 have IE:Gn n S Q=0:=by have:=IZ l he;rw[hn,hS,hQ]at this;exact this
 obtain⟨g1,g2,g3,g4,g5,g6,g7,g8,g9,g10,g11,g12,g13,g14,g15,g16,g17,g18,g19⟩:=sR IE (by omega) j7 NK;rw[hv]at g8 g9;have d0:0<=(n:Int)*since:=Bq (by omega) dB;have d1:(n:Int)*since<=274877906944:=by
  have:=BT g1 Ur dB (by omega:(0:Int)<=64);omega
 have tH:(n*Q-S*S<cQ n least/\cQ n least=v)\/(cQ n least<=n*Q-S*S/\n*Q-S*S=v):=by
  unfold Pw at hv;split at hv
  ·exact .inl ⟨by assumption,hv⟩
  ·exact .inr ⟨by omega,hv⟩
 have iS:=I (fun w' (h:Below w.heap.size w w')=>rg A c B n l hn he S Q hS hQ hc hm w' (hr.below h hB) (AG hB h.size));have ZQ:1<=v:=by omega
 have af:v<=1152921504606846976:=by omega
 have HW:=I (show∀w,Calls prog 36 #[.int .i64 (v:Int)] w fun e w'=>e=.returned (.agg #[.int .u64 (DB v),.int .u64 (DE v)])/\Below w.heap.size w w' from fun w=>by
  have:=Qm (v:Int) (by omega) (by omega) w;simpa using this)
 have HBV:=I (fun w=>Fv v (by omega) w);have Ly:=I (show(Bt.bits v).length<=128 by rw[Bt.Ez];exact Bt.Ew (by omega));have WQ:=I (show∀w,Calls prog 47 #[.agg #[.int .i64 n,.int .i64 S,.int .i64 Q]] w fun e' w'=>e'=.returned (.int .i64 (n*Q-S*S))/\Below w.heap.size w w' from fun w=>Qc n S Q IE w);have hM:cQ n least=n*least*(n*least):=rfl;rw[hM]at g6 g7 tH;generalize p7:(n:Int)*Q-S*S=sp at*;clear hr hB hn he IE hv hS hQ hM g16 g17 g18 g19;rcases tH with⟨DG,Nc⟩|⟨LU,rfl⟩
 case' inl=>
  have gy:=I Nc;clear Nc
 case' inr=>have gy:=I True.intro
 all_goals
  go_in;go_wp2_with fail
  refine(iS.out _ AA).mono ?_;rintro e' w1 ⟨rfl,C6⟩;have E1:=I (((AI w).below C6).lay #[.int .i64 n,.int .i64 S,.int .i64 Q] 96);clear C6 iS;go_wp2_with fail
  refine(WQ.out _).mono ?_;rintro e' w2 ⟨rfl,DK⟩;have E2:=I (E1.out.below DK);have a0:=E2.out.hd.cell 0;have a1:=E2.out.hd.cell 1;have p0:=E2.out.hd.lt;simp at a0 a1 p0;clear DK E1 WQ;by_cases hd:(n:Int)*since-S<=0
  ·have HZ:=I (show Lv.YV v n S since=0 from Lv.iy v hd)
   go_wp2;refine AF (v:=.int .i64 (0:Nat)) (by simp[results,results55,go_sem]) rfl ⟨by rw[HZ.out],E2.out.DI⟩
  ·obtain⟨dn,yr⟩:=Bo (show 0<=(n:Int)*since-S by omega)
   have hdp:0<dn:=by omega
   have GV:dn<=274877906944:=by omega
   have un:dn*dn<=75557863725914323419136:=BR GV GV;have Wr:=I (show Lv.YV v n S since=Nat.log2 ((v+dn*dn)/v)by
    unfold Lv.YV;rw[Lv.og v (by omega),yr];simp)
   have HL:=I (Lv.Z5 v dn (by omega));have HH:=I (show∀w,Calls prog 43 #[.agg #[.int .u64 (DB (v+dn*dn)),.int .u64 (DE (v+dn*dn))],.agg #[.int .u64 (DB v),.int .u64 (DE v)]] w fun e w'=>e=.returned (.int .i64 (Lv.YV v n S since:Nat))/\Below w.heap.size w w' from fun w=>by
    rw[Wr.out];exact cX (v+dn*dn) v _ (by omega) (by omega) HL.out w)
   have ma:=I (show∀w,Calls prog 36 #[.int .i64 (n*since-S)] w fun e w'=>e=.returned (.agg #[.int .u64 (DB dn),.int .u64 (DE dn)])/\Below w.heap.size w w' from fun w=>by
    rw[yr];have:=Qm (dn:Int) (by omega) (by omega) w;simpa using this)
   have qM:=I (fun w=>Fv dn (by omega) w);have yX:=I (show(Bt.bits dn).length<=128 by rw[Bt.Ez];exact Bt.Ew (by omega));have hdi:0<(n:Int)*since-S:=by omega
   clear yr Wr HL hd;go_wp2_with fail
   refine(ma.out _).mono ?_;rintro e' w3 ⟨rfl,DT⟩;have E3:=I (E2.out.below DT);clear DT E2 ma a0 a1 p0;go_wp2_with fail
   refine(qM.out _).mono ?_;rintro e' w4 ⟨A1,c1,l1,rfl,NK,VJ,EL⟩;have E4:=I (E3.out.below EL);have R1:=I (Reads.DR VJ);have V1:=I (show Bt.val l1=dn by rw[NK,Bt.FL]);have n1:l1.length<=128:=by rw[NK];exact yX.out
   clear NK VJ EL E3 qM yX;go_wp2_with fail
   try rw[gy.out]
   refine(HW.out _).mono ?_;rintro e' w5 ⟨rfl,Eh⟩;have E5:=I (E4.out.below Eh);have R2:=I (Reads.MI R1.out Eh);clear Eh E4 R1;go_wp2_with fail
   refine(HBV.out _).mono ?_;rintro e' w6 ⟨A2,c2,l2,rfl,I4,WL,XW⟩;have E6:=I (E5.out.below XW);have R3:=I (Reads.MI R2.out XW);have Q3:=I (Reads.DR WL);have V2:=I (show Bt.val l2=v by rw[I4,Bt.FL]);have n2:l2.length<=128:=by rw[I4];exact Ly.out
   clear I4 WL XW E5 R2 HBV Ly;go_wp2_with fail
   refine(LN A1 A1 l1 l1 c1 c1 _ R3.out R3.out (by omega) (by omega)).mono ?_;rintro e' w7 ⟨A3,c3,l3,rfl,Y5,JN,Pp⟩;have E7:=I (E6.out.below Pp);have Q4:=I (Reads.MI Q3.out Pp);have R4:=I (Reads.DR JN);have V3:=I (show Bt.val l3=dn*dn by rw[Y5.1,Ap,V1.out]);have n3:l3.length<=300:=by have:=Y5.2.1;omega
   clear Y5 JN Pp E6 R3 Q3;go_wp2_with fail
   refine(Of A2 A3 l2 l3 c2 c3 _ Q4.out R4.out (by omega) (by omega)).mono ?_;rintro e' w8 ⟨A4,c4,l4,rfl,nP,Tp,Rr⟩;have E8:=I (E7.out.below Rr);have R5:=I (Reads.DR Tp);have V4:=I (show Bt.val l4=v+dn*dn by rw[nP.1,V2.out,V3.out]);have n4:l4.length<=400:=by have:=nP.2.2.1;omega
   have HN4:=I (show∀w,Reads w w.heap.size 1 A4 l4.length (l4.map Value.bool)->Calls prog 37 #[.slice A4 l4.length c4] w fun e w'=>e=.returned (.tuple #[.agg #[.int .u64 (DB (v+dn*dn)),.int .u64 (DE (v+dn*dn))],.bool true])/\Below w.heap.size w w' from fun w h=>by
    have:=dS A4 l4 c4 w h (by omega) (by rw[V4.out];omega);rw[V4.out]at this;exact this)
   clear nP Tp Rr E7 R4 Q4 V1 V2 V3;go_wp2_with fail
   refine(HN4.out _ R5.out).mono ?_;rintro e' w9 ⟨rfl,Ei⟩;have E9:=I ((E8.out.below Ei).lay #[.int .u64 (DB (v+dn*dn)),.int .u64 (DE (v+dn*dn))] 57);have EB:=I (E8.out.below Ei);clear Ei E8 R5 HN4 V4
   go_upto_region 11 with fail
   generalize wG:w9.alloc (.cells #[.int .u64 (DB (v+dn*dn)),.int .u64 (DE (v+dn*dn))] 57)=W9 at*;have x0:=E9.out.hd.cell 0;have x1:=E9.out.hd.cell 1;have HX:=I (show∀w',Below W9.heap.size W9 w'->w'.cell? ⟨w9.heap.size,0,none⟩=some (.int .u64 (DB (v+dn*dn)))/\w'.cell? ⟨w9.heap.size,1,none⟩=some (.int .u64 (DE (v+dn*dn)))from fun w' h=>⟨(E9.out.below h).hd.cell 0,(E9.out.below h).hd.cell 1⟩);simp at x0 x1
   go_region_with (first
    |(go_at_call 36;refine(HW.out _).mono ?_;rintro e' wa ⟨rfl,tJ⟩;have hL:Below W9.heap.size W9 wa:=Below.Ej (AE AA) tJ;obtain⟨xa,xb⟩:=HX.out _ hL)
    |(go_at_call 43;refine(HH.out _).mono ?_;rintro e' wb ⟨rfl,oH⟩))
   all_goals
    have hF:Below W9.heap.size W9 wb:=Below.Ej (by repeat (first|exact hL|refine AE ?_)) oH;go_wp2;refine AF (v:=.int .i64 (Lv.YV v n S since:Nat)) (by simp[results,results55,go_sem]) rfl ⟨rfl,(E9.out.below hF).DI⟩
theorem Ri(x:Nat)(hx:x<=9223372036854775807)(w:World):Calls prog 36 #[.int .i64 (x:Int)] w fun e w'=>e=.returned (.agg #[.int .u64 (DB x),.int .u64 (DE x)])/\Below w.heap.size w w':=by
 have:=Qm (x:Int) (by omega) (by omega) w
 simpa using this
theorem Qx{x:Nat}(h:x<2^128):(Bt.bits x).length<=128:=by rw[Bt.Ez];exact Bt.Ew h
theorem Xa{n s q:Int}(he:Gn n s q=0):n<=64/\0<=s/\s<=1073741824/\0<=n*q-s*s/\n*q-s*s<=1152921504606846976:=by
 obtain⟨hA,hB⟩:=Dx he;obtain⟨b1,b2,b3,b4,b5,b6⟩:=hA.bounds;obtain⟨h0,h1,h2,h3,h4,h5⟩:=hA;exact⟨h1,h2,b1,by omega,by omega⟩
theorem kZ(n s q t:Int)(he:Gn n s q=0)(dB:0<=t)(Ur:t<=1073741824)(hd:n*t-s<=0)(w:World):
 Calls prog 52 #[.agg #[.int .i64 n,.int .i64 s,.int .i64 q],.int .i64 t] w fun e' w'=>e'=.returned (.int .i64 n)/\Below w.heap.size w w':=by
 obtain⟨WD,PR,Ld,YU,mz⟩:=Xa he;have J0:0<=n:=(Dx he).1.1;have d0:0<=n*t:=Bq J0 dB;clear he YU mz;go_in;go_wp2;all_goals refine AF (v:=.int .i64 n) (by simp[results,results52,go_sem]<;>omega) rfl ⟨rfl,AA.alloc AB _⟩
theorem rp(n d sp:Nat)(s q t:Int)(he:Gn n s q=0)(p7:(n:Int)*q-s*s=sp)(dB:0<=t)(Ur:t<=1073741824)(hd:(n:Int)*t-s=d)(N8:1<=d)(w:World):
 Calls prog 52 #[.agg #[.int .i64 n,.int .i64 s,.int .i64 q],.int .i64 t] w fun e' w'=>e'=.returned (.int .i64 (n*sp/(sp+d*d):Nat))/\Below w.heap.size w w':=by
 obtain⟨WD,PR,Ld,YU,mz⟩:=Xa he;have xc:n<=64:=by omega
 have ACs:sp<=1152921504606846976:=by omega
 have hnt:(n:Int)*t<=64*1073741824:=BT WD Ur dB (by omega);have AGJ:0<=(n:Int)*t:=Bq (by omega) dB;have GV:d<=68719476736:=by omega
 have zK:1<=d*d:=BR N8 N8;have HX1:=I (show 0<sp+d*d by omega);have HQN:=I (show∀k,k*(sp+d*d)<=n*sp->k<=n from fun k hk=>by
  rcases Ah n k with h|h
  ·have h1:(n+1)*(sp+d*d)<=k*(sp+d*d):=BU _ h
   have h2:n*sp<=n*(sp+d*d):=Bb _ (by omega);rw[BV]at h1;omega
  ·exact h)
 have ma:=I (show∀w,Calls prog 36 #[.int .i64 (n*t-s)] w fun e w'=>e=.returned (.agg #[.int .u64 (DB d),.int .u64 (DE d)])/\Below w.heap.size w w' from fun w=>by rw[hd];exact Ri d (by omega) w);have qM:=I (fun w=>Fv d (by omega) w);have yX:=I (Qx (x:=d) (by omega));have HWN:=I (Ri n (by omega));have HBN:=I (fun w=>Fv n (by omega) w);have mx:=I (Qx (x:=n) (by omega));have HWS:=I (Ri sp (by omega));have mQ:=I (fun w=>Fv sp (by omega) w);have lD:=I (Qx (x:=sp) (by omega));have Wr:=I (show∀w,Calls prog 47 #[.agg #[.int .i64 n,.int .i64 s,.int .i64 q]] w fun e' w'=>e'=.returned (.int .i64 (sp:Int))/\Below w.heap.size w w' from fun w=>by
  have:=Qc n s q he w;rw[p7]at this;exact this)
 have E0:=I ((AI w).lay #[.int .i64 n,.int .i64 s,.int .i64 q] 96);have hdp:0<(n:Int)*t-s:=by omega
 clear he p7 hd zK;go_in;go_wp2_with fail
 refine(ma.out _).mono ?_;rintro e' a1 ⟨rfl,ha1⟩;have F1:=I (E0.out.below ha1);clear ha1;go_wp2_with fail
 refine(qM.out _).mono ?_;rintro e' a2 ⟨C1,d1,m1,rfl,dG,VJ,ha2⟩;have F2:=I (F1.out.below ha2);have R1:=I (Reads.DR VJ);have V1:=I (show Bt.val m1=d by rw[dG,Bt.FL]);have n1:m1.length<=128:=by rw[dG];exact yX.out
 clear dG VJ ha2 F1;have x0:=F2.out.hd.cell 0;have x1:=F2.out.hd.cell 1;have x2:=F2.out.hd.cell 2;have p0:=F2.out.hd.lt;simp at x0 x1 x2 p0;go_wp2_with fail
 refine(Wr.out _).mono ?_;rintro e' a3 ⟨rfl,ha3⟩;have F3:=I (F2.out.below ha3);have R1a:=I (Reads.MI R1.out ha3);clear ha3 F2 R1 x0 x1 x2 p0;go_wp2_with fail
 refine(HWS.out _).mono ?_;rintro e' a4 ⟨rfl,ha4⟩;have F4:=I (F3.out.below ha4);have R1b:=I (Reads.MI R1a.out ha4);clear ha4 F3 R1a;go_wp2_with fail
 refine(mQ.out _).mono ?_;rintro e' a5 ⟨C2,d2,m2,rfl,cM,WL,ha5⟩;have F5:=I (F4.out.below ha5);have R1c:=I (Reads.MI R1b.out ha5);have R2:=I (Reads.DR WL);have V2:=I (show Bt.val m2=sp by rw[cM,Bt.FL]);have n2:m2.length<=128:=by rw[cM];exact lD.out
 clear cM WL ha5 F4 R1b;go_wp2_with fail
 refine(LN C1 C1 m1 m1 d1 d1 _ R1c.out R1c.out (by omega) (by omega)).mono ?_;rintro e' a6 ⟨C3,d3,m3,rfl,Vk,JN,ha6⟩;have F6:=I (F5.out.below ha6);have R2a:=I (Reads.MI R2.out ha6);have R3:=I (Reads.DR JN);have V3:=I (show Bt.val m3=d*d by rw[Vk.1,Ap,V1.out]);have n3:m3.length<=300:=by have:=Vk.2.1;omega
 clear Vk JN ha6 F5 R1c R2 V1;go_wp2_with fail
 refine(Of C2 C3 m2 m3 d2 d3 _ R2a.out R3.out (by omega) (by omega)).mono ?_;rintro e' a7 ⟨C4,d4,m4,rfl,hm4,Tp,ha7⟩;have F7:=I (F6.out.below ha7);have R4:=I (Reads.DR Tp);have V4:=I (show Bt.val m4=sp+d*d by rw[hm4.1,V2.out,V3.out]);have n4:m4.length<=400:=by have:=hm4.2.2.1;omega
 clear hm4 Tp ha7 F6 R2a R3 V2 V3
 go_upto_region 6 with fail
 have HS:=I (show∀w',Below a7.heap.size a7 w'->(Below a7.heap.size a7 w'/\w'.cell? ⟨w.heap.size,0,none⟩=some (.int .i64 n)/\w'.cell? ⟨w.heap.size,1,none⟩=some (.int .i64 s)/\w'.cell? ⟨w.heap.size,2,none⟩=some (.int .i64 q))
  from fun w' h=>⟨h,(F7.out.below h).hd.cell 0,(F7.out.below h).hd.cell 1,(F7.out.below h).hd.cell 2⟩)
 go_region_held3 (fun w'=>Below a7.heap.size a7 w'/\w'.cell? ⟨w.heap.size,0,none⟩=some (.int .i64 n)/\w'.cell? ⟨w.heap.size,1,none⟩=some (.int .i64 s)/\w'.cell? ⟨w.heap.size,2,none⟩=some (.int .i64 q))
  ((refine HS.out _ ?_;repeat (with_reducible first|exact AA|refine AE ?_|refine Below.Ej ?_ zO|refine Below.Ej ?_ hv5|refine Below.Ej ?_ qm|refine Below.Ej ?_ dq|refine Below.Ej ?_ af|refine Below.Ej ?_ ZQ)))
  (first
    |(go_at_call 36;(with_reducible refine(HWN.out _).mono ?_);rintro e' v1 ⟨rfl,ZQ⟩)
    |(go_at_call 35;(with_reducible refine(HBN.out _).mono ?_);rintro e' v2 ⟨A2,c2,l2,rfl,I4,WL,af⟩;have Yc:=I I4;clear I4)
    |(go_at_call 47;(with_reducible refine(Wr.out _).mono ?_);rintro e' v3 ⟨rfl,dq⟩)
    |(go_at_call 36;(with_reducible refine(HWS.out _).mono ?_);rintro e' v4 ⟨rfl,qm⟩)
    |(go_at_call 35;(with_reducible refine(mQ.out _).mono ?_);rintro e' v5 ⟨A5,c5,l5,rfl,tP,ho5,hv5⟩;have HL5:=I tP;clear tP)
    |(go_at_call 34;have Jw:l2.length<=128:=(by rw[Yc.out];exact mx.out);have hn5:l5.length<=128:=(by rw[HL5.out];exact lD.out);(with_reducible refine(LN A2 A5 l2 l5 c2 c5 _ (Reads.MI (Reads.DR WL) (by repeat (with_reducible first|exact AA|refine AE ?_|refine Below.Ej ?_ zO|refine Below.Ej ?_ hv5|refine Below.Ej ?_ qm|refine Below.Ej ?_ dq|refine Below.Ej ?_ af|refine Below.Ej ?_ ZQ))) (Reads.MI (Reads.DR ho5) (by repeat (with_reducible first|exact AA|refine AE ?_|refine Below.Ej ?_ zO|refine Below.Ej ?_ hv5|refine Below.Ej ?_ qm|refine Below.Ej ?_ dq|refine Below.Ej ?_ af|refine Below.Ej ?_ ZQ))) (by omega) (by omega)).mono ?_);rintro e' v6 ⟨A6,c6,l6,rfl,hl6,ho6,zO⟩;have HL6:=I hl6;clear hl6))
 rename_i hheld;have F8:=I (F7.out.below hheld.1);have R4a:=I (Reads.MI R4.out hheld.1);have R6:=I (Reads.DR ho6);have V6:=I (show Bt.val l6=n*sp by rw[HL6.out.1,Ap,Yc.out,HL5.out,Bt.FL,Bt.FL]);have n6:l6.length<=300:=by have:=HL6.out.2.1;omega
 clear hheld HS ZQ af dq qm hv5 zO WL ho5 ho6 Yc HL5 HL6 Jw hn5 F7 R4 Wr HWS mQ lD HWN HBN mx ma qM yX;go_wp2_with fail
 go_loopw [9] (fun kv wr=>∃k:Nat,kv=.int .i64 (k:Int)/\k*(sp+d*d)<=n*sp/\Below v6.heap.size v6 wr) (fun kv _=>n+1- (intOf kv).toNat)
 case atStart=>exact⟨0,rfl,by simp,AA⟩
 case round=>
  obtain⟨k,rfl,hk,hb⟩:=hrel;have Te:=HQN.out k hk;have HB:=I hb;have HK:=I hk;have R4b:=I (Reads.MI R4a.out hb);have R6b:=I (Reads.MI R6.out hb);have HW1:=I (show∀w,Calls prog 36 #[.int .i64 ((k:Int)+1)] w fun e w'=>e=.returned (.agg #[.int .u64 (DB (k+1)),.int .u64 (DE (k+1))])/\Below w.heap.size w w' from fun w=>Ri (k+1) (by omega) w);have Ii:=I (fun w=>Fv (k+1) (by omega) w);have tc:=I (Qx (x:=k+1) (by omega));clear hb hk;go_wp2_with fail
  refine(HW1.out _).mono ?_;rintro e' b1 ⟨rfl,C6⟩;have G1:=I (Below.Ej HB.out C6);have R4c:=I (Reads.MI R4b.out C6);have R6c:=I (Reads.MI R6b.out C6);clear C6 HB R4b R6b;go_wp2_with fail
  refine(Ii.out _).mono ?_;rintro e' b2 ⟨A7,c7,l7,rfl,hl7,ho7,DK⟩;have G2:=I (Below.Ej G1.out DK);have R4d:=I (Reads.MI R4c.out DK);have R6d:=I (Reads.MI R6c.out DK);have R7:=I (Reads.DR ho7);have V7:=I (show Bt.val l7=k+1 by rw[hl7,Bt.FL]);have n7:l7.length<=128:=by rw[hl7];exact tc.out
  clear DK hl7 ho7 G1 R4c R6c;go_wp2_with fail
  refine(LN A7 C4 l7 m4 c7 d4 _ R7.out R4d.out (by omega) (by omega)).mono ?_;rintro e' b3 ⟨A8,c8,l8,rfl,hl8,ho8,DT⟩;have G3:=I (Below.Ej G2.out DT);have R6e:=I (Reads.MI R6d.out DT);have R8:=I (Reads.DR ho8);have V8:=I (show Bt.val l8=(k+1)*(sp+d*d)by rw[hl8.1,Ap,V7.out,V4.out]);have n8:l8.length<=600:=by have:=hl8.2.1;omega
  clear DT hl8 ho8 G2 R4d R6d R7;go_wp2_with fail
  refine(Rb A8 A6 l8 l6 c8 c6 _ ((k+1)*(sp+d*d)) (n*sp) _ R8.out R6e.out (by omega) (by omega) V8.out V6.out).mono ?_;rintro e' b4 ⟨rfl,rfl⟩;by_cases hle:(k+1)*(sp+d*d)<=n*sp
  ·have Wf:=Uj hle
   have HLE:=I hle;clear hle;generalize GU ((k+1)*(sp+d*d)) (n*sp)=cc at*;go_wp2
   go_roundw
   case rel=>exact⟨k+1,by simp,HLE.out,G3.out⟩
   case measure=>simp[intOf];omega
  ·have Wf:=Rz (a:=(k+1)*(sp+d*d)) (b:=n*sp) (by omega)
   have HQ:=I (show n*sp/(sp+d*d)=k by
    have a1:=(ATB HX1.out).2 HK.out;have a2:=(ASe HX1.out).2 (show n*sp<(k+1)*(sp+d*d)by omega);omega)
   clear hle;generalize GU ((k+1)*(sp+d*d)) (n*sp)=cc at*;go_wp2;refine AF (v:=.int .i64 k) (by simp[results,results52,go_sem]) rfl ⟨by rw[HQ.out],Below.Ej F8.out.DI G3.out⟩
