/- prod -/
import Derived.Test.YthiplgekjgffkaaGreatDoorM22
set_option maxRecDepth 100000
set_option maxHeartbeats 99000000
set_option linter.all false
namespace Go.Proofs.YthiplgekjgffkaaGreatDoor
open Go.Proofs.Tryz
open Go.RowKit
theorem ZG(a b:Nat)(ha:a<2^128)(hb:b<18446744073709551616)(u v:Value)
 (hc:(0<DB a/\u=.agg #[.int .u64 (DB a),.int .u64 (DE a)]/\v=.agg #[.int .u64 (DB b),.int .u64 (DE b)])\/(DB a<=0/\u=.agg #[.int .u64 (DB a),.int .u64 (DE a)]/\v=.agg #[.int .u64 (DB b),.int .u64 (DE b)])\/(0<DB a/\u=.agg #[.int .u64 (DB b),.int .u64 (DE b)]/\v=.agg #[.int .u64 (DB a),.int .u64 (DE a)])) (w:World):
 Calls prog 78 #[u,v] w fun e w'=>
  e=.returned (.tuple #[.agg #[.int .u64 (DB (JE (a*b))),.int .u64 (DE (JE (a*b)))],.int .i64 (NR (a*b))])/\Below w.heap.size w w':=by
 rcases hc with⟨hp,rfl,rfl⟩|⟨hp,rfl,rfl⟩|⟨hp,rfl,rfl⟩;all_goals
  have hbz:DB b=0:=by unfold DB;omega
  have FI:DE b=(b:Int):=by unfold DE;omega
  obtain⟨a1,a2⟩:=Eo a ha;obtain⟨a3,a4⟩:=Fy a;rw[hbz,FI];clear hbz FI;have E:=I ((((AI w).lay #[.int .u64 (DB a),.int .u64 (DE a)] 57).lay #[.int .u64 0,.int .u64 (b:Int)] 57).lay #[.int .u64 0,.int .u64 0] 57);generalize ZV:DB a=ah at*;generalize ZS:DE a=al at*;have tU:=I ZV;have dF:=I ZS;have HA:=I ha;have HB:=I hb;have HH:=I (AA7 a b);have hyi:(0:Int)<=(b:Int):=by omega
  have hyj:(b:Int)<=18446744073709551615:=by omega
  clear ZV ZS ha hb;go_in
  go_upto_region 5 with fail
  generalize dA:World.alloc (World.alloc (World.alloc _ _) _) _=W0 at*;have z1:w.heap.size+1+1<W0.heap.size:=by rw[<-dA];simp
  clear dA;have c0:=E.out.tl.tl.hd.cell 0;have c1:=E.out.tl.tl.hd.cell 1;have c2:=E.out.tl.hd.cell 0;have c3:=E.out.tl.hd.cell 1;simp at c0 c1 c2 c3;have HS:=I (show∀w',Below W0.heap.size W0 w'->(Below W0.heap.size W0 w'/\w'.cell? ⟨w.heap.size,0,none⟩=some (.int .u64 ah)/\w'.cell? ⟨w.heap.size,1,none⟩=some (.int .u64 al)/\w'.cell? ⟨w.heap.size+1,0,none⟩=some (.int .u64 0)/\w'.cell? ⟨w.heap.size+1,1,none⟩=some (.int .u64 (b:Int)))
   from fun w' hb=>⟨hb,(hb.cell (p:=⟨w.heap.size,0,none⟩) (by simp;omega)).trans c0,(hb.cell (p:=⟨w.heap.size,1,none⟩) (by simp;omega)).trans c1,(hb.cell (p:=⟨w.heap.size+1,0,none⟩) (by simp;omega)).trans c2,(hb.cell (p:=⟨w.heap.size+1,1,none⟩) (by simp;omega)).trans c3⟩)
  have HM1:=I (fun w'=>bP al (b:Int) (a%18446744073709551616) b (by rw[<-dF.out];rfl) rfl (BN _ (by decide)) HB.out w');have HM2:=I (fun w'=>bP ah (b:Int) (a/18446744073709551616) b (by rw[<-tU.out];rfl) rfl (by have:=HA.out;omega) HB.out w');have AD7:a%18446744073709551616*b<2^128:=by
   have:=BR (show a%18446744073709551616<=18446744073709551615 by omega) (show b<=18446744073709551615 by omega);omega
  have x7:a/18446744073709551616*b<2^128:=by
   have:=BR (show a/18446744073709551616<=18446744073709551615 by have:=HA.out;omega) (show b<=18446744073709551615 by omega);omega
  have HLW:=I AD7;have xk:=I x7;generalize a%18446744073709551616*b=kE at*;generalize a/18446744073709551616*b=RC at*;clear c0 c1 c2 c3 AD7 x7;go_cut [6,7] (fun s6 s7 wx=>OU W0 kE RC s6 s7 wx)
  case first=>
   go_region_held3 (fun w'=>Below W0.heap.size W0 w'/\w'.cell? ⟨w.heap.size,0,none⟩=some (.int .u64 ah)/\w'.cell? ⟨w.heap.size,1,none⟩=some (.int .u64 al)/\w'.cell? ⟨w.heap.size+1,0,none⟩=some (.int .u64 0)/\w'.cell? ⟨w.heap.size+1,1,none⟩=some (.int .u64 (b:Int)))
    ((refine HS.out _ ?_;first|exact AA.drew|exact AK (by assumption)|exact Cb (AK (by assumption)) (Cl EL (CW (AK (by assumption))))|exact Cb (AK (by assumption)) (Cl Eh (CW (AK (by assumption))))|exact Below.alloc (AK (by assumption)) (CW (AK (by assumption))) _|(refine AS3 (AS3 (AK (by assumption)) ?_ _) ?_ _<;>(first|omega|simp<;>omega))|(refine TC (AK (by assumption)) ?_ ?_ ?_ _ _<;>(first|omega|simp<;>omega))|(refine Po (AK (by assumption)) ?_;(first|omega|simp<;>omega))|(refine OS (AK (by assumption)) ?_;(first|omega|simp<;>omega))))
    (first
      |(go_at_call 160;(with_reducible refine(HM1.out _).mono ?_);rintro e' w4 ⟨rfl,EL⟩;have sJ:=EL.size;obtain⟨zJ,hf4⟩:=S8 EL;(try simp at sJ);(try simp only[Az,World.heap_drew]at zJ);(try simp only[Az,World.heap_drew]at hf4);(try (have Wb:=ASm sJ));(try (have bB:=ASn Wb));(try (have hu4:=Cy Wb));(try (have AEb:=Cy bB));(try (have AEY:=Cy hu4)))
      |(go_at_call 160;(with_reducible refine(HM2.out _).mono ?_);rintro e' w5 ⟨rfl,Eh⟩;have Yf:=Eh.size;obtain⟨hc5,x9⟩:=S8 Eh;(try simp at Yf);(try simp only[Az,World.heap_drew]at hc5);(try simp only[Az,World.heap_drew]at x9);(try (have fV:=ASm Yf));(try (have vZ:=ASn fV));(try (have ZQ:=AJ Wb Yf));(try (have af:=AJ bB Yf));(try (have dq:=CB Wb fV));(try (have qm:=CB bB fV));(try (have hv5:=CB Wb vZ));(try (have zO:=CB bB vZ))))
   all_goals
    rename_i hheld;have DY:=hheld.1;clear hheld HS HM1 HM2;go_wp2_with fail
    go_meet
    first
     |with_reducible exact Xr DY
     |with_reducible exact XN DY
     |((with_reducible refine Ws DY ?_);first|exact⟨_,_,_,(DJ.new _ _ _).below Eh (by(first|omega|simp<;>omega))⟩|exact⟨_,_,_,((DJ.new _ _ _).alloc _).below Eh (by(first|omega|simp<;>omega))⟩|exact⟨_,_,_,(DJ.Mj _ _ _ _).below Eh (by(first|omega|simp<;>omega))⟩|exact⟨_,_,_,((DJ.new _ _ _).drew.below EL (by(first|omega|simp<;>omega))).below Eh (by(first|omega|simp<;>omega))⟩|exact⟨_,_,_,(((DJ.new _ _ _).drew.below EL (by(first|omega|simp<;>omega))).alloc _).below Eh (by(first|omega|simp<;>omega))⟩|exact⟨_,_,_,(((DJ.new _ _ _).alloc _).drew.below EL (by(first|omega|simp<;>omega))).below Eh (by(first|omega|simp<;>omega))⟩|exact⟨_,_,_,((DJ.Mj _ _ _ _).drew.below EL (by(first|omega|simp<;>omega))).below Eh (by(first|omega|simp<;>omega))⟩)
     |((with_reducible refine XK DY ?_);first|exact⟨_,_,_,(DJ.new _ _ _).below Eh (by(first|omega|simp<;>omega))⟩|exact⟨_,_,_,((DJ.new _ _ _).alloc _).below Eh (by(first|omega|simp<;>omega))⟩|exact⟨_,_,_,(DJ.Mj _ _ _ _).below Eh (by(first|omega|simp<;>omega))⟩|exact⟨_,_,_,((DJ.new _ _ _).drew.below EL (by(first|omega|simp<;>omega))).below Eh (by(first|omega|simp<;>omega))⟩|exact⟨_,_,_,(((DJ.new _ _ _).drew.below EL (by(first|omega|simp<;>omega))).alloc _).below Eh (by(first|omega|simp<;>omega))⟩|exact⟨_,_,_,(((DJ.new _ _ _).alloc _).drew.below EL (by(first|omega|simp<;>omega))).below Eh (by(first|omega|simp<;>omega))⟩|exact⟨_,_,_,((DJ.Mj _ _ _ _).drew.below EL (by(first|omega|simp<;>omega))).below Eh (by(first|omega|simp<;>omega))⟩)
     |((with_reducible refine cu DY ?_ ?_ ?_);·first|exact⟨_,_,_,(DJ.new _ _ _).below Eh (by(first|omega|simp<;>omega))⟩|exact⟨_,_,_,((DJ.new _ _ _).alloc _).below Eh (by(first|omega|simp<;>omega))⟩|exact⟨_,_,_,(DJ.Mj _ _ _ _).below Eh (by(first|omega|simp<;>omega))⟩|exact⟨_,_,_,((DJ.new _ _ _).drew.below EL (by(first|omega|simp<;>omega))).below Eh (by(first|omega|simp<;>omega))⟩|exact⟨_,_,_,(((DJ.new _ _ _).drew.below EL (by(first|omega|simp<;>omega))).alloc _).below Eh (by(first|omega|simp<;>omega))⟩|exact⟨_,_,_,(((DJ.new _ _ _).alloc _).drew.below EL (by(first|omega|simp<;>omega))).below Eh (by(first|omega|simp<;>omega))⟩|exact⟨_,_,_,((DJ.Mj _ _ _ _).drew.below EL (by(first|omega|simp<;>omega))).below Eh (by(first|omega|simp<;>omega))⟩
       ·first|exact⟨_,_,_,(DJ.new _ _ _).below Eh (by(first|omega|simp<;>omega))⟩|exact⟨_,_,_,((DJ.new _ _ _).alloc _).below Eh (by(first|omega|simp<;>omega))⟩|exact⟨_,_,_,(DJ.Mj _ _ _ _).below Eh (by(first|omega|simp<;>omega))⟩|exact⟨_,_,_,((DJ.new _ _ _).drew.below EL (by(first|omega|simp<;>omega))).below Eh (by(first|omega|simp<;>omega))⟩|exact⟨_,_,_,(((DJ.new _ _ _).drew.below EL (by(first|omega|simp<;>omega))).alloc _).below Eh (by(first|omega|simp<;>omega))⟩|exact⟨_,_,_,(((DJ.new _ _ _).alloc _).drew.below EL (by(first|omega|simp<;>omega))).below Eh (by(first|omega|simp<;>omega))⟩|exact⟨_,_,_,((DJ.Mj _ _ _ _).drew.below EL (by(first|omega|simp<;>omega))).below Eh (by(first|omega|simp<;>omega))⟩
       ·(first|omega|simp<;>omega))
  case rest=>
   obtain⟨g,g',rfl,rfl,DY,u0,u1,u2,u3⟩:=hcut;have E2:=I (E.out.below DY);clear DY E;have p0:=E2.out.hd.lt;have b0:=E2.out.hd.cell 0;have b1:=E2.out.hd.cell 1;have f0:=E2.out.hd.frozen 0;have f1:=E2.out.hd.frozen 1;simp at b0 b1 f0 f1 p0;obtain⟨m0,m1⟩:=Eo kE HLW.out;obtain⟨m2,m3⟩:=Fy kE;obtain⟨m4,m5⟩:=Eo RC xk.out;obtain⟨m6,m7⟩:=Fy RC;by_cases O6:0<DB RC
   ·have HF:=I (show JE (a*b)=0/\NR (a*b)=2 by
     have LU:2^128<=a*b:=by rw[HH.out];unfold DB at O6;omega
     unfold JE NR;rw[AC (by omega),AC (by omega)];exact⟨rfl,rfl⟩)
    go_wp2;refine AF (v:=.tuple #[.agg #[.int .u64 0,.int .u64 0],.int .i64 2]) (by simp[results,results78,go_sem, *]) rfl ⟨by rw[HF.out.1,HF.out.2];rfl,?_⟩;exact(E2.out.DI.setCell (by simp<;>omega) _).setCell (by simp<;>omega) _
   ·have HY:=I (show WN (DE RC) 0 (RC*18446744073709551616)from⟨by unfold DB at O6;unfold DB DE;omega,by unfold DE;omega,by unfold DB at O6;omega⟩)
    have mV:=I (fun w'=>KZ _ _ _ _ kE (RC*18446744073709551616) (WN.mk' kE HLW.out) HY.out w');have AGl:=I (show kE+RC*18446744073709551616=a*b by rw[HH.out,ASf]);have hsm:DB RC<=0:=by omega
    clear O6;go_wp2_with fail
    refine(mV.out _).mono ?_;rintro e' w6 ⟨rfl,XW⟩;rw[AGl.out];generalize hfe:NR (a*b)=fe;have hfl:=ZE (a*b);generalize hfn:JE (a*b)=fn at*;have HFE:=I hfe;have HFN:=I hfn;clear hfe hfn;have E3:=I (E2.out.below XW);clear XW b0 b1 f0 f1 p0 u0 u1 u2 u3;have p0:=E3.out.hd.lt;have b0:=E3.out.hd.cell 0;have b1:=E3.out.hd.cell 1;have f0:=E3.out.hd.frozen 0;have f1:=E3.out.hd.frozen 1;simp at b0 b1 f0 f1 p0;go_wp2;refine AF (v:=.tuple #[.agg #[.int .u64 (DB fn),.int .u64 (DE fn)],.int .i64 fe]) (by simp[results,results78,go_sem, *]) rfl ⟨by rw[HFE.out,HFN.out],?_⟩;exact(E3.out.DI.setCell (by simp<;>omega) _).setCell (by simp<;>omega) _
