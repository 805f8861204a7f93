/- tail -/
import Derived.Test.YthiplgekjgffkaaGreatDoorM34
set_option maxRecDepth 100000
set_option maxHeartbeats 99000000
set_option linter.all false
namespace Go.Proofs.YthiplgekjgffkaaGreatDoor
open Go.Proofs.Tryz
open Go.RowKit
theorem oI(n s q t:Int)(he:Gn n s q=0)(dB:0<=t)(Ur:t<=1073741824)(hd:n*t-s<=0)(w:World):
 Calls prog 103 #[.agg #[.int .i64 n,.int .i64 s,.int .i64 q],.int .i64 t] w fun e' w'=>e'=.returned (.tuple #[.int .i64 n,.int .i64 0])/\Below w.heap.size w w':=by
 obtain⟨WD,PR,Ld,YU,mz⟩:=RH he;have J0:0<=n:=(Dx he).1.1;have d0:0<=n*t:=Bq J0 dB;have HE:=I he;have E:=I ((AI w).lay #[.int .i64 n,.int .i64 s,.int .i64 q] 96);clear he YU mz;go_in;go_wp2_with fail
 refine(Mb _ _ _ _ HE.out _).mono ?_;rintro e' w1 ⟨rfl,C6⟩;have E1:=I (E.out.below C6);clear C6;have a0:=E1.out.hd.cell 0;have a1:=E1.out.hd.cell 1;have p0:=E1.out.hd.lt;simp at a0 a1 p0;go_wp2;all_goals refine AF (v:=.tuple #[.int .i64 n,.int .i64 0]) (by simp[results,results103,go_sem]<;>omega) rfl ⟨rfl,E1.out.DI⟩
theorem wZ(n d sp:Nat)(s q t:Int)(he:Gn n s q=0)(p7:(n:Int)*q-s*s=sp)(dB:0<=t)(Ur:t<=1073741824)(hd:(n:Int)*t-s=d)(N8:1<=d)(w:World):
 Calls prog 103 #[.agg #[.int .i64 n,.int .i64 s,.int .i64 q],.int .i64 t] w fun e' w'=>e'=.returned (.tuple #[.int .i64 (n*sp/(sp+d*d):Nat),.int .i64 0])/\Below w.heap.size w w':=by
 obtain⟨WD,PR,Ld,YU,mz⟩:=RH he;have xc:n<=64:=by omega
 have ACs:sp<=1152921504606846976:=by omega
 have hnt:(n:Int)*t<=64*1073741824:=BT WD Ur dB (by omega);have AGJ:0<=(n:Int)*t:=Bq (by omega) dB;have GV:d<=68719476736:=by omega
 have Mn:d*d<=4722366482869645213696:=BR GV GV;have zK:1<=d*d:=BR N8 N8;have xy:n*sp<=64*1152921504606846976:=BR xc ACs;have hQ:n*sp/(sp+d*d)<=n:=by
  rw[Nat.div_le_iff_le_mul_add_pred (by omega)];have:n*sp<=n*(sp+d*d):=Bb _ (by omega);rw[AZ (sp+d*d) n];omega
 have HMU:=I (fun w'=>bP (d:Int) (d:Int) d d rfl rfl (by omega) (by omega) w');have HM1:=I (fun w'=>bP (n:Int) (sp:Int) n sp rfl rfl (by omega) (by omega) w');have mV:=I (fun w'=>Og 0 (sp:Int) _ _ sp (d*d) ⟨by unfold DB;omega,by unfold DE;omega,by omega⟩ (WN.mk' (d*d) (by omega)) (by omega) w');have HDI:=I (show∀w',Calls prog 80 #[.agg #[.int .u64 (DB (n*sp)),.int .u64 (DE (n*sp))],.agg #[.int .u64 (DB (sp+d*d)),.int .u64 (DE (sp+d*d))]] w' (Rk (n*sp/(sp+d*d)) (n*sp%(sp+d*d)) 0 w')from fun w'=>Tz _ _ (by omega) (by omega) (by omega) w');generalize sp+d*d=X at*;generalize n*sp=Y at*;generalize hQX:Y/X=Q at*;generalize Y%X=R at*;have HQX:=I hQX
 clear hQX Mn zK xy;have HQL:=I (show DE Q=(Q:Int)by unfold DE;omega);have HD:=I hd;have hdp:0<(n:Int)*t-s:=by omega
 clear hd;have HE:=I he;have AEN:=I (show∀w,Calls prog 98 #[.agg #[.int .i64 n,.int .i64 s,.int .i64 q]] w fun e' w'=>e'=.returned (.tuple #[.int .i64 (sp:Int),.int .i64 0])/\Below w.heap.size w w' from fun w=>by
  have:=Sh n s q he w;rw[p7]at this;exact this)
 have E:=I ((AI w).lay #[.int .i64 n,.int .i64 s,.int .i64 q] 96);clear he p7;go_in;go_wp2_with fail
 refine(Mb _ _ _ _ HE.out _).mono ?_;rintro e' w1 ⟨rfl,C6⟩;have E1:=I (E.out.below C6);clear C6;have a0:=E1.out.hd.cell 0;have a1:=E1.out.hd.cell 1;have a2:=E1.out.hd.cell 2;have p0:=E1.out.hd.lt;simp at a0 a1 a2 p0;go_wp2_with fail
 refine(AEN.out _).mono ?_;rintro e' w2 ⟨rfl,DK⟩;have E2:=I (E1.out.below DK);clear DK E1 E a0 a1 a2 p0 AEN;go_wp2_with fail
 rw[HD.out];refine(HMU.out _).mono ?_;rintro e' w3 ⟨rfl,DT⟩;have E3:=I (E2.out.below DT);clear DT E2 HMU;go_wp2_with fail
 refine(mV.out _).mono ?_;rintro e' w9 ⟨rfl,EL⟩;have E4:=I ((E3.out.below EL).lay #[.int .u64 (DB X),.int .u64 (DE X)] 57);have z0:=(E3.out.below EL).hd.lt;clear EL E3 mV
 go_upto_region 11 with fail
 generalize dA:w9.alloc _=W0 at*;have z1:w9.heap.size<W0.heap.size:=by rw[<-dA];simp
 have z2:w.heap.size<W0.heap.size:=by rw[<-dA];simp;omega
 clear dA;have HS:=I (show∀w',Below W0.heap.size W0 w'->(Below W0.heap.size W0 w'/\w'.cell? ⟨w.heap.size,0,none⟩=some (.int .i64 n)/\w'.cell? ⟨w.heap.size,1,none⟩=some (.int .i64 s)/\w'.cell? ⟨w.heap.size,2,none⟩=some (.int .i64 q)/\w'.cell? ⟨w9.heap.size,0,none⟩=some (.int .u64 (DB X))/\w'.cell? ⟨w9.heap.size,1,none⟩=some (.int .u64 (DE X)))
  from fun w' h=>⟨h,(E4.out.below h).tl.hd.cell 0,(E4.out.below h).tl.hd.cell 1,(E4.out.below h).tl.hd.cell 2,(E4.out.below h).hd.cell 0,(E4.out.below h).hd.cell 1⟩)
 have hcd:IntKind.u64.wrap (sp:Int)=(sp:Int):=by rw[CA];omega
 have Pj:IntKind.u64.wrap (n:Int)=(n:Int):=by rw[CA];omega
 go_cut [12,13,14] (fun s12 s13 s14 wx=>s14=.int .i64 0/\OU W0 Q R s12 s13 wx)
 case first=>
  go_region_held3 (fun w'=>Below W0.heap.size W0 w'/\w'.cell? ⟨w.heap.size,0,none⟩=some (.int .i64 n)/\w'.cell? ⟨w.heap.size,1,none⟩=some (.int .i64 s)/\w'.cell? ⟨w.heap.size,2,none⟩=some (.int .i64 q)/\w'.cell? ⟨w9.heap.size,0,none⟩=some (.int .u64 (DB X))/\w'.cell? ⟨w9.heap.size,1,none⟩=some (.int .u64 (DE X)))
   ((refine HS.out _ ?_;first|exact AA.drew|exact AK (by assumption)|exact Cb (AK (by assumption)) (Cl EL (CW (AK (by assumption))))|exact Cb (AK (by assumption)) (Cl Eh (CW (AK (by assumption))))|exact Below.alloc (AK (by assumption)) (CW (AK (by assumption))) _|(refine AS3 (AS3 (AK (by assumption)) ?_ _) ?_ _<;>(first|omega|simp<;>omega))|(refine TC (AK (by assumption)) ?_ ?_ ?_ _ _<;>(first|omega|simp<;>omega))|(refine Po (AK (by assumption)) ?_;(first|omega|simp<;>omega))|(refine OS (AK (by assumption)) ?_;(first|omega|simp<;>omega))))
   (first
     |(go_at_call 160;(with_reducible refine(HM1.out _).mono ?_);rintro e' w4 ⟨rfl,EL⟩;have sJ:=EL.size;obtain⟨zJ,hf4⟩:=S8 EL;(try simp at sJ);(try simp only[Az,World.heap_drew]at zJ);(try simp only[Az,World.heap_drew]at hf4);(try (have Wb:=ASm sJ));(try (have bB:=ASn Wb));(try (have hu4:=Cy Wb));(try (have AEb:=Cy bB));(try (have AEY:=Cy hu4)))
     |(go_at_call 80;(with_reducible refine(HDI.out _).mono ?_);rintro e' w5 ⟨rfl,Eh⟩;have Yf:=Eh.size;obtain⟨hc5,x9⟩:=S8 Eh;(try simp at Yf);(try simp only[Az,World.heap_drew]at hc5);(try simp only[Az,World.heap_drew]at x9);(try (have fV:=ASm Yf));(try (have vZ:=ASn fV));(try (have ZQ:=AJ Wb Yf));(try (have af:=AJ bB Yf));(try (have dq:=CB Wb fV));(try (have qm:=CB bB fV));(try (have hv5:=CB Wb vZ));(try (have zO:=CB bB vZ))))
  all_goals
   rename_i hheld;have DY:=hheld.1;clear hheld HS HM1 HDI;go_wp2_with fail
   go_meet
   refine⟨rfl,?_⟩;first
    |with_reducible exact Xr DY
    |with_reducible exact XN DY
    |((with_reducible refine Ws DY ?_);first|exact⟨_,_,_,(DJ.new _ _ _).below Eh (by(first|omega|simp<;>omega))⟩|exact⟨_,_,_,((DJ.new _ _ _).alloc _).below Eh (by(first|omega|simp<;>omega))⟩|exact⟨_,_,_,(DJ.Mj _ _ _ _).below Eh (by(first|omega|simp<;>omega))⟩|exact⟨_,_,_,((DJ.new _ _ _).drew.below EL (by(first|omega|simp<;>omega))).below Eh (by(first|omega|simp<;>omega))⟩|exact⟨_,_,_,(((DJ.new _ _ _).drew.below EL (by(first|omega|simp<;>omega))).alloc _).below Eh (by(first|omega|simp<;>omega))⟩|exact⟨_,_,_,(((DJ.new _ _ _).alloc _).drew.below EL (by(first|omega|simp<;>omega))).below Eh (by(first|omega|simp<;>omega))⟩|exact⟨_,_,_,((DJ.Mj _ _ _ _).drew.below EL (by(first|omega|simp<;>omega))).below Eh (by(first|omega|simp<;>omega))⟩)
    |((with_reducible refine XK DY ?_);first|exact⟨_,_,_,(DJ.new _ _ _).below Eh (by(first|omega|simp<;>omega))⟩|exact⟨_,_,_,((DJ.new _ _ _).alloc _).below Eh (by(first|omega|simp<;>omega))⟩|exact⟨_,_,_,(DJ.Mj _ _ _ _).below Eh (by(first|omega|simp<;>omega))⟩|exact⟨_,_,_,((DJ.new _ _ _).drew.below EL (by(first|omega|simp<;>omega))).below Eh (by(first|omega|simp<;>omega))⟩|exact⟨_,_,_,(((DJ.new _ _ _).drew.below EL (by(first|omega|simp<;>omega))).alloc _).below Eh (by(first|omega|simp<;>omega))⟩|exact⟨_,_,_,(((DJ.new _ _ _).alloc _).drew.below EL (by(first|omega|simp<;>omega))).below Eh (by(first|omega|simp<;>omega))⟩|exact⟨_,_,_,((DJ.Mj _ _ _ _).drew.below EL (by(first|omega|simp<;>omega))).below Eh (by(first|omega|simp<;>omega))⟩)
    |((with_reducible refine cu DY ?_ ?_ ?_);·first|exact⟨_,_,_,(DJ.new _ _ _).below Eh (by(first|omega|simp<;>omega))⟩|exact⟨_,_,_,((DJ.new _ _ _).alloc _).below Eh (by(first|omega|simp<;>omega))⟩|exact⟨_,_,_,(DJ.Mj _ _ _ _).below Eh (by(first|omega|simp<;>omega))⟩|exact⟨_,_,_,((DJ.new _ _ _).drew.below EL (by(first|omega|simp<;>omega))).below Eh (by(first|omega|simp<;>omega))⟩|exact⟨_,_,_,(((DJ.new _ _ _).drew.below EL (by(first|omega|simp<;>omega))).alloc _).below Eh (by(first|omega|simp<;>omega))⟩|exact⟨_,_,_,(((DJ.new _ _ _).alloc _).drew.below EL (by(first|omega|simp<;>omega))).below Eh (by(first|omega|simp<;>omega))⟩|exact⟨_,_,_,((DJ.Mj _ _ _ _).drew.below EL (by(first|omega|simp<;>omega))).below Eh (by(first|omega|simp<;>omega))⟩
      ·first|exact⟨_,_,_,(DJ.new _ _ _).below Eh (by(first|omega|simp<;>omega))⟩|exact⟨_,_,_,((DJ.new _ _ _).alloc _).below Eh (by(first|omega|simp<;>omega))⟩|exact⟨_,_,_,(DJ.Mj _ _ _ _).below Eh (by(first|omega|simp<;>omega))⟩|exact⟨_,_,_,((DJ.new _ _ _).drew.below EL (by(first|omega|simp<;>omega))).below Eh (by(first|omega|simp<;>omega))⟩|exact⟨_,_,_,(((DJ.new _ _ _).drew.below EL (by(first|omega|simp<;>omega))).alloc _).below Eh (by(first|omega|simp<;>omega))⟩|exact⟨_,_,_,(((DJ.new _ _ _).alloc _).drew.below EL (by(first|omega|simp<;>omega))).below Eh (by(first|omega|simp<;>omega))⟩|exact⟨_,_,_,((DJ.Mj _ _ _ _).drew.below EL (by(first|omega|simp<;>omega))).below Eh (by(first|omega|simp<;>omega))⟩
      ·(first|omega|simp<;>omega))
 case rest=>
  obtain⟨rfl,g,g',rfl,rfl,DY,u0,u1,u2,u3⟩:=hcut;rw[HQL.out]at u1;have E5:=I (E4.out.below DY);clear DY;go_wp2;refine AF (v:=.tuple #[.int .i64 Q,.int .i64 0]) (by simp[results,results103,go_sem]) rfl ⟨rfl,E5.out.DI⟩
