/- What a list comes to, by -/
import Derived.Test.YthiplgekjgffkaaGreatDoorM49
import Derived.Test.YthiplgekjgffkaaGreatDoorM42
import Derived.Test.YthiplgekjgffkaaGreatDoorM11
set_option maxRecDepth 100000
set_option maxHeartbeats 99000000
set_option linter.all false
namespace Go.Proofs.YthiplgekjgffkaaGreatDoor
open Go.Proofs.Tryz
open Go.RowKit Go.Lib
def GF(v:Int):ByteArray:=Gc [v.toNat]
theorem UK(L:List Int)(hL:∀v∈L,0<=v/\v<9223372036854775808)(h3:L.length<=100)(k:Nat)(hk:L.length=k)(t:TypeId)(w:World)(g:Nat)(hg:g=w.heap.size):Calls prog 44 #[.int .i64 0,.slice (some ⟨g,0,none⟩) k k] (w.alloc (.cells (L.map (Value.int .i64)).toArray t)) fun e w'=>e=.returned (.string (Gc (L.map Int.toNat)))/\w.alloc (.cells (L.map (Value.int .i64)).toArray t)=w':=by
 subst hg hk;have e:ET (L.map Int.toNat)=L.map (Value.int .i64):=by
  unfold ET;rw[AS4];exact List.map_congr_left fun v hv=>by simp only[Function.comp];rw[AUC (hL v hv).1]
 have h:=JU w t (L.map (Value.int .i64));rw[Ak,<-e]at h;have h2:=Up _ L.length L.length (L.map Int.toNat) (by simp) h3 (fun q hq=>by
  obtain⟨v,hv,rfl⟩:=BD.1 hq;have:=hL v hv;omega) _ h
 rw[e]at h2;exact h2
theorem G7(v:Int)(h0:0<=v)(h1:v<9223372036854775808)(t:TypeId)(w:World)(g:Nat)(hg:g=w.heap.size):Calls prog 44 #[.int .i64 0,.slice (some ⟨g,0,none⟩) 1 1] (w.alloc (.cells #[.int .i64 v] t)) fun e w'=>e=.returned (.string (GF v))/\w.alloc (.cells #[.int .i64 v] t)=w':=
 UK [v] (fun x hx=>by rw[Ai.1 hx];exact⟨h0,h1⟩) (by simp) 1 rfl t w g hg
def Rv(w:World)(fn:FuncId)(args:Array Value)(v:Value):Prop:=∀w',Below w.heap.size w w'->Calls prog fn args w' fun e GQ=>e=.returned v/\Below w'.heap.size w' GQ
structure Jv(w:World)(A:Option Addr)(c n:Nat)(l:List Int):Prop where
 rd:Reads w w.heap.size 1 A n (DF l)
 ln:l.length=n
 ok:EZ l=0
 pos:1<=n
 cap:n<=c/\c<=maxLen
section
variable{w W:World}{A:Option Addr}{c n:Nat}{l:List Int}
theorem Jv.sum(h:Jv w A c n l):Gn n (s1 l) (s2 l)=0:=by have:=IZ l h.ok;rw[h.ln]at this;exact this
theorem Jv.n64(h:Jv w A c n l):n<=64:=by rw[<-h.ln];exact(Dk h.ok).1
theorem Jv.below(h:Jv w A c n l)(hb:Below w.heap.size w W):Jv W A c n l:=⟨(h.rd.below hb AB).more hb.size,h.ln,h.ok,h.pos,h.cap⟩
theorem Jv.list(h:Jv w A c n l):Calls prog 45 #[.slice A n c] w fun e w'=>e=.returned (.int .i64 0)/\w=w':=by
 obtain⟨r,rfl,k,-,-⟩:=h;have:=Xt A c _ l (AG (Dk k).1 (by unfold maxLen;omega)) w r;rw[k]at this;exact this
theorem Jv.of(h:Jv w A c n l):Calls prog 46 #[.slice A n c] w fun e' w'=>e'=.returned (.agg #[.int .i64 n,.int .i64 (s1 l),.int .i64 (s2 l)])/\Below w.heap.size w w':=
 rg A c _ n l h.ln h.ok _ _ rfl rfl h.cap.1 h.cap.2 w h.rd AB
end
section
variable{w:World}{A An:Option Addr}{c n cn:Nat}{l:List Int}
def gh(v:Int):ByteArray:=if v<0 then FG 2 else GF v
theorem OC(hg:Jv w A c n l):
 (∀m:Nat,∀v1 v2:Int,s1 l=v1->s2 l=v2->Calls prog 17 #[.string ⟨#[115,117,109,115]⟩,.slice A n c,.slice An m cn] w fun e w'=>e=.returned (.string (Gc [n,v1.toNat,v2.toNat]))/\Below w.heap.size w w')/\
 (∀m:Nat,∀v:Int,s1 l/n=v->Calls prog 17 #[.string ⟨#[109,101,97,110]⟩,.slice A n c,.slice An m cn] w fun e w'=>e=.returned (.string (GF v))/\Below w.heap.size w w')/\
 (∀m:Nat,∀v:Int,n*s2 l-s1 l*s1 l=v->Calls prog 17 #[.string ⟨#[115,112,114,101,97,100]⟩,.slice A n c,.slice An m cn] w fun e w'=>e=.returned (.string (GF v))/\Below w.heap.size w w')/\
 (∀t v:Int,wi t 0 1073741824=true->Reads w w.heap.size 1 An 1 [.int .i64 t]->Rv w 52 #[.agg #[.int .i64 n,.int .i64 (s1 l),.int .i64 (s2 l)],.int .i64 t] (.int .i64 v)->(0<=v/\v<9223372036854775808)->Calls prog 17 #[.string ⟨#[99,97,110,116,101,108,108,105]⟩,.slice A n c,.slice An 1 cn] w fun e w'=>e=.returned (.string (GF v))/\Below w.heap.size w w')/\
 (∀a b v:Int,wi a 1 16777216=true->wi b 0 1073741824=true->Reads w w.heap.size 1 An 2 [.int .i64 a,.int .i64 b]->Rv w 55 #[.slice A n c,.int .i64 a,.int .i64 b] (.int .i64 v)->(0<=v/\v<9223372036854775808)->Calls prog 17 #[.string ⟨#[108,101,118,101,108]⟩,.slice A n c,.slice An 2 cn] w fun e w'=>e=.returned (.string (GF v))/\Below w.heap.size w w')/\
 (∀a b v:Int,wi a 1 16777216=true->wi b 1 60=true->Reads w w.heap.size 1 An 2 [.int .i64 a,.int .i64 b]->Rv w 56 #[.slice A n c,.int .i64 a,.int .i64 b] (.int .i64 v)->v<9223372036854775808->Calls prog 17 #[.string ⟨#[119,104,101,110]⟩,.slice A n c,.slice An 2 cn] w fun e w'=>e=.returned (.string (gh v))/\Below w.heap.size w w')/\
 (∀a b:Nat,∀k:Nat,∀T:List Int,So.Ik l T->1<=b->b<=1000->a<=b->Km (n*a) b=k->Reads w w.heap.size 1 An 2 [.int .i64 a,.int .i64 b]->Calls prog 17 #[.string ⟨#[114,97,110,107]⟩,.slice A n c,.slice An 2 cn] w fun e w'=>e=.returned (.string (GF (T.getD (k- 1) 0)))/\Below w.heap.size w w'):=by
 refine⟨fun m v1 v2 ZQ af=>?a,fun m v hv=>?b,fun m v hv=>?c,fun t v ht hb hC hv=>?d,fun a b v ha ht hb hC hv=>?e,fun a b v ha ht hb hC hv=>?f,fun a b k T hT h1 h2 h3 hk hb=>?g⟩
 case' d=>
  obtain⟨g,off,rfl,He,EO⟩:=hb.addr (by decide);have k0:=EO 0 (.int .i64 t) rfl;simp only[AW]at k0;have HC:=I hC;have pW:=I (Ll t true ht);clear EO hb hC ht
 case' e=>
  obtain⟨g,off,rfl,He,EO⟩:=hb.addr (by decide);have k0:=EO 0 (.int .i64 a) rfl;have k1:=EO 1 (.int .i64 b) rfl;simp only[AW]at k0;have HC:=I hC;have pW:=I (Ll b true ht);have Rn:=I (Dv a 1 16777216 true ha);clear EO hb hC ht ha
 case' f=>
  obtain⟨g,off,rfl,He,EO⟩:=hb.addr (by decide);have k0:=EO 0 (.int .i64 a) rfl;have k1:=EO 1 (.int .i64 b) rfl;simp only[AW]at k0;have HC:=I hC;have pW:=I (Dv b 1 60 true ht);have Rn:=I (Dv a 1 16777216 true ha);have HF:=I (El 2 (by decide));have EN:=I (show v<0->gh v=FG 2 from fun h=>AD h);have EP:=I (show¬v<0->gh v=GF v from fun h=>AC h);clear EO hb hC ht ha
 case' g=>
  obtain⟨g,off,rfl,He,EO⟩:=hb.addr (by decide);have k0:=EO 0 (.int .i64 a) rfl;have k1:=EO 1 (.int .i64 b) rfl;simp only[AW]at k0;have MH:=hg.n64;have HPT:=I (VW a b);rw[show RK a b=true by unfold RK wi;simp;omega]at HPT;have mc:=I (fD n a b MH h3 h1 h2);obtain⟨bj,LO⟩:=Zu n a b h1 hg.pos h3;rw[hk]at mc bj LO;have hTl:T.length=n:=by rw[hT.2.length_eq,hg.ln]
  have HSO:=I (fun w' (h:Below w.heap.size w w')=>bR A c n l T hT hg.ln (by omega) w' (hg.below h).rd);have HV:=I (show 0<=T.getD (k- 1) 0/\T.getD (k- 1) 0<9223372036854775808 by
   have hm:T.getD (k- 1) 0∈l:=by
    rw[<-hT.2.mem_iff,By,AU (show k- 1<T.length by omega)];exact AL _
   obtain⟨i,hi,e⟩:=AS6 hm;have:=KR (Dk hg.ok).2 i hi;rw[By,AU hi,Option.getD_some,e]at this;omega)
  have HCT:=I (Fp T (k- 1) (by omega));have sq:(k:Int)- 1=((k- 1:Nat):Int):=by omega
  have hkw:IntKind.i64.wrap ((k:Int)- 1)=((k- 1:Nat):Int):=by rw[sq];exact Ca _ (by omega)
  have Et:((k- 1:Nat):Int)<(n:Int):=by omega
  generalize T.getD (k- 1) 0=v at*;generalize k- 1=k' at*;clear EO hb hk hT hTl h1 h2 h3 bj LO sq
 all_goals
  have dr:=I hg.list;have p9:=I hg.of;have G0:=I hg;have WD:¬(64:Int)<(n:Int):=by have:=hg.n64;omega
  have VP:=I hg.sum;obtain⟨b1,b2,b3,b4,b5,b6⟩:=(Dx VP.out).1.bounds;obtain⟨h0,h1,h2,h3,h4,h5⟩:=(Dx VP.out).1;have J0:1<=(n:Int):=by have:=hg.pos;omega
  generalize s1 l=S at*;generalize s2 l=Q at*;clear hg;go_in;go_wp2_with fail
  refine dr.out.mono ?_;rintro e' w1 ⟨rfl,rfl⟩;go_wp2_with fail
  refine p9.out.mono ?_;rintro e' w1 ⟨rfl,C6⟩;have E1:=I (((AI w).below C6).lay #[.int .i64 n,.int .i64 S,.int .i64 Q] 96);have B1:=I C6;clear C6
 ·have d0:=(B1.out.cell He).trans k0
  have d1:=(B1.out.cell He).trans k1;have XL:g<w1.heap.size:=AJ He B1.out.size;go_wp2_with fail
  generalize IK:World.alloc w1 _=w2 at*;have I4:w1.heap.size<w2.heap.size:=by rw[<-IK];simp
  have Ka:g<w2.heap.size:=by omega
  have BW:=I (show Below w1.heap.size w1 w2 by rw[<-IK];exact AA.alloc AB _);have Rp:=I (show∀w',Below w2.heap.size w2 w'->(Below w2.heap.size w2 w'/\w'.cell? ⟨g,off,none⟩=some (.int .i64 a)/\w'.cell? ⟨g,off+1,none⟩=some (.int .i64 b))from fun w' h=>⟨h,(h.cell Ka).trans (by rw[<-IK,Bm _ _ _ XL];exact d0),(h.cell Ka).trans (by rw[<-IK,Bm _ _ _ XL];exact d1)⟩);have ZT:=I (fun w' (h:Below w2.heap.size w2 w')=>HSO.out w' (Below.C9 B1.out (Below.C9 BW.out h)));have HT:=I (G7 v HV.out.1 HV.out.2);clear IK;go_region_held3 (fun w'=>Below w2.heap.size w2 w'/\w'.cell? ⟨g,off,none⟩=some (.int .i64 a)/\w'.cell? ⟨g,off+1,none⟩=some (.int .i64 b))
   ((refine Rp.out _ ?_;repeat (with_reducible first|exact AA|refine AE ?_)))
   ((go_at_call 48;(with_reducible refine(HPT.out _).mono ?_);rintro e' w3 ⟨rfl,rfl⟩))
  all_goals
   rename_i hheld;have eF:=hheld.1;clear hheld;go_wp2_with fail
   obtain⟨-,d0,d1⟩:=Rp.out _ eF;have BE:=I eF;clear eF
   go_region_with
    (first
    |(go_at_call 49;(with_reducible refine(ZT.out _ ?ia).mono ?_);(case ia=>repeat (with_reducible first|exact AA|exact BE.out|refine AE ?_));rintro e' w4 ⟨A4,rfl,hr4,EL⟩;have NI:Below w2.heap.size w2 w4:=Below.Ej (by repeat (with_reducible first|exact AA|exact BE.out|refine AE ?_)) EL;obtain⟨-,x0,x1⟩:=Rp.out _ NI;obtain⟨g4,AOl,rfl,RV,ACp⟩:=hr4.addr (by omega);have q4:=ACp k' _ HCT.out;clear EL hr4 ACp)
    |(go_at_call 50;(with_reducible refine(mc.out _).mono ?_);rintro e' w5 ⟨rfl,rfl⟩)
    |(go_at_call 44;(with_reducible refine(HT.out _ _ _ ?ib).mono ?_);(case ib=>simp);rintro e' w6 ⟨rfl,rfl⟩))
   all_goals
    have F:=I (E1.out.below NI).DI;clear NI;go_wp2;go_ret;exact⟨rfl,F.out.alloc F.out.size _⟩
 ·have d0:=(B1.out.cell He).trans k0
  have d1:=(B1.out.cell He).trans k1;have XL:g<w1.heap.size:=AJ He B1.out.size;go_wp2_with fail
  refine(Rn.out _).mono ?_;rintro e' w2 ⟨rfl,rfl⟩;go_wp2_with fail
  refine(pW.out _).mono ?_;rintro e' w2 ⟨rfl,rfl⟩;go_wp2_with fail
  generalize IK:World.alloc w1 _=w2 at*;have I4:w1.heap.size<w2.heap.size:=by rw[<-IK];simp
  have Ka:g<w2.heap.size:=by omega
  have BW:=I (show Below w1.heap.size w1 w2 by rw[<-IK];exact AA.alloc AB _);have Rp:=I (show∀w',Below w2.heap.size w2 w'->(Below w2.heap.size w2 w'/\w'.cell? ⟨g,off,none⟩=some (.int .i64 a)/\w'.cell? ⟨g,off+1,none⟩=some (.int .i64 b))from fun w' h=>⟨h,(h.cell Ka).trans (by rw[<-IK,Bm _ _ _ XL];exact d0),(h.cell Ka).trans (by rw[<-IK,Bm _ _ _ XL];exact d1)⟩);have ZT:=I (show∀w',Below w2.heap.size w2 w'->Calls prog 56 #[.slice A n c,.int .i64 a,.int .i64 b] w' fun e GQ=>e=.returned (.int .i64 v)/\Below w'.heap.size w' GQ from fun w' h=>HC.out w' (Below.C9 B1.out (Below.C9 BW.out h)));clear IK;go_region_held3 (fun w'=>Below w2.heap.size w2 w'/\w'.cell? ⟨g,off,none⟩=some (.int .i64 a)/\w'.cell? ⟨g,off+1,none⟩=some (.int .i64 b))
   ((refine Rp.out _ ?_;repeat (with_reducible first|exact NI|exact AA|refine Below.Gh ?_|refine AE ?_)))
   ((go_at_call 56;(with_reducible refine(ZT.out _ ?ia).mono ?_);(case ia=>repeat (with_reducible first|exact AA|refine AE ?_));rintro e' w3 ⟨rfl,DT⟩;have NI:Below w2.heap.size w2 w3:=Below.Ej (by repeat (with_reducible first|exact AA|refine AE ?_)) DT;clear DT))
  all_goals
   rename_i hheld;have E2:=I (E1.out.below hheld.1);clear hheld NI E1;have E1:=E2;clear E2;by_cases YW:v<0
   ·go_wp2_with fail
    refine(HF.out _).mono ?_;rintro e' w4 ⟨rfl,rfl⟩;have F:=I E1.out.DI;go_wp2;go_ret;exact⟨by rw[EN.out YW];rfl,F.out⟩
   ·have HT:=I (G7 v (by omega) hv)
    have ld:=I (EP.out (by omega));go_wp2_with fail
    refine(HT.out _ _ _ (by simp)).mono ?_;rintro e' w4 ⟨rfl,rfl⟩;have F:=I (E1.out.alloc (.cells #[.int .i64 v] 3)).DI;go_wp2;go_ret;exact⟨by rw[ld.out];rfl,F.out⟩
 ·have d0:=(B1.out.cell He).trans k0
  have d1:=(B1.out.cell He).trans k1;have XL:g<w1.heap.size:=AJ He B1.out.size;go_wp2_with fail
  refine(Rn.out _).mono ?_;rintro e' w2 ⟨rfl,rfl⟩;go_wp2_with fail
  refine(pW.out _).mono ?_;rintro e' w2 ⟨rfl,rfl⟩;go_wp2_with fail
  generalize IK:World.alloc w1 _=w2 at*;have I4:w1.heap.size<w2.heap.size:=by rw[<-IK];simp
  have Ka:g<w2.heap.size:=by omega
  have BW:=I (show Below w1.heap.size w1 w2 by rw[<-IK];exact AA.alloc AB _);have Rp:=I (show∀w',Below w2.heap.size w2 w'->(Below w2.heap.size w2 w'/\w'.cell? ⟨g,off,none⟩=some (.int .i64 a)/\w'.cell? ⟨g,off+1,none⟩=some (.int .i64 b))from fun w' h=>⟨h,(h.cell Ka).trans (by rw[<-IK,Bm _ _ _ XL];exact d0),(h.cell Ka).trans (by rw[<-IK,Bm _ _ _ XL];exact d1)⟩);have ZT:=I (show∀w',Below w2.heap.size w2 w'->Calls prog 55 #[.slice A n c,.int .i64 a,.int .i64 b] w' fun e GQ=>e=.returned (.int .i64 v)/\Below w'.heap.size w' GQ from fun w' h=>HC.out w' (Below.C9 B1.out (Below.C9 BW.out h)));have HT:=I (G7 v hv.1 hv.2);clear IK
  go_region_held3 (fun w'=>Below w2.heap.size w2 w'/\w'.cell? ⟨g,off,none⟩=some (.int .i64 a)/\w'.cell? ⟨g,off+1,none⟩=some (.int .i64 b))
   ((refine Rp.out _ ?_;repeat (with_reducible first|exact NI|exact AA|refine Below.Gh ?_|refine AE ?_)))
   (first
   |(go_at_call 55;(with_reducible refine(ZT.out _ ?ia).mono ?_);(case ia=>repeat (with_reducible first|exact AA|refine AE ?_));rintro e' w3 ⟨rfl,DT⟩;have NI:Below w2.heap.size w2 w3:=Below.Ej (by repeat (with_reducible first|exact AA|refine AE ?_)) DT;clear DT)
   |(go_at_call 44;(with_reducible refine(HT.out _ w3 _ ?ib).mono ?_);(case ib=>simp);rintro e' w4 ⟨rfl,rfl⟩))
  all_goals
   rename_i hheld;have F:=I (E1.out.below hheld.1).DI;clear hheld NI;go_wp2;go_ret;exact⟨rfl,F.out⟩
 ·have d0:=(B1.out.cell He).trans k0
  have XL:g<w1.heap.size:=AJ He B1.out.size;go_wp2_with fail
  refine(pW.out _).mono ?_;rintro e' w2 ⟨rfl,rfl⟩;go_wp2_with fail
  generalize IK:World.alloc w1 _=w2 at*;have HW2:=I IK;have I4:w1.heap.size<w2.heap.size:=by rw[<-IK];simp
  have Ka:g<w2.heap.size:=by omega
  have Rp:=I (show∀w',Below w2.heap.size w2 w'->(Below w2.heap.size w2 w'/\w'.cell? ⟨w1.heap.size,0,none⟩=some (.int .i64 n)/\w'.cell? ⟨w1.heap.size,1,none⟩=some (.int .i64 S)/\w'.cell? ⟨w1.heap.size,2,none⟩=some (.int .i64 Q)/\w'.cell? ⟨g,off,none⟩=some (.int .i64 t))from fun w' h=>⟨h,((E1.out.below h).hd).cell 0,((E1.out.below h).hd).cell 1,((E1.out.below h).hd).cell 2,(h.cell Ka).trans (by rw[<-IK,Bm _ _ _ XL];exact d0)⟩);have ZT:=I (show∀w',Below w2.heap.size w2 w'->Calls prog 52 #[.agg #[.int .i64 n,.int .i64 S,.int .i64 Q],.int .i64 t] w' fun e GQ=>e=.returned (.int .i64 v)/\Below w'.heap.size w' GQ from fun w' h=>HC.out w' (by
   have hb:Below w1.heap.size w1 w2:=by rw[<-IK];exact AA.alloc AB _
   exact Below.C9 B1.out (Below.C9 hb h)))
  have E2:=E1;have HT:=I (G7 v hv.1 hv.2);clear IK E1;go_region_held3 (fun w'=>Below w2.heap.size w2 w'/\w'.cell? ⟨w1.heap.size,0,none⟩=some (.int .i64 n)/\w'.cell? ⟨w1.heap.size,1,none⟩=some (.int .i64 S)/\w'.cell? ⟨w1.heap.size,2,none⟩=some (.int .i64 Q)/\w'.cell? ⟨g,off,none⟩=some (.int .i64 t))
   ((refine Rp.out _ ?_;repeat (with_reducible first|exact NI|exact YO|exact AA|refine Below.Gh ?_|refine AE ?_)))
   (first
   |(go_at_call 52;(with_reducible refine(ZT.out _ ?ia).mono ?_);(case ia=>repeat (with_reducible first|exact AA|refine AE ?_));rintro e' w3 ⟨rfl,DT⟩;have NI:Below w2.heap.size w2 w3:=Below.Ej (by repeat (with_reducible first|exact AA|refine AE ?_)) DT;clear DT)
   |(go_at_call 44;(with_reducible refine(HT.out _ w3 _ ?ib).mono ?_);(case ib=>simp);rintro e' w4 ⟨rfl,rfl⟩))
  all_goals
   rename_i hheld;have F:=I (E2.out.below hheld.1).DI;clear hheld NI;go_wp2;go_ret;exact⟨rfl,F.out⟩
 ·subst ZQ af
  have HT:=I (UK [(n:Int),S,Q] (by intro x hx;simp only[AR,CT,CU]at hx;rcases hx with rfl|rfl|rfl<;>omega) (by simp) 3 rfl);have c0:=E1.out.hd.cell 0;have c1:=E1.out.hd.cell 1;have c2:=E1.out.hd.cell 2;simp at c0 c1 c2;go_wp2_with fail
  refine(HT.out _ (w1.alloc _) _ (by simp)).mono ?_;rintro e' w4 ⟨rfl,rfl⟩;have F:=I (E1.out.alloc (.cells #[.int .i64 n,.int .i64 S,.int .i64 Q] 3)).DI;go_wp2;go_ret;exact⟨rfl,F.out⟩
 ·have jb:S.tdiv n=v:=by rw[<-hv];exact Cw h2
  have h6:v<=S:=by rw[<-hv];exact AS8 _ h2
  have h7:0<=v:=by rw[<-hv];exact AS7 h2 (by omega)
  have sU:IntKind.i64.wrap v=v:=Ca _ (by omega);have hz:((n:Int)==0)=false:=by rw[CV];omega
  clear hv;have HT:=I (G7 v (by omega) (by omega));go_wp2_with fail
  refine(HT.out _ (w1.alloc _) _ (by simp)).mono ?_;rintro e' w4 ⟨rfl,rfl⟩;have F:=I (E1.out.alloc (.cells #[.int .i64 v] 3)).DI;go_wp2;go_ret;exact⟨rfl,F.out⟩
 ·have HP:=I (Qc n S Q VP.out)
  rw[hv]at HP;have h6:0<=v/\v<=1152921504606846976:=by
   have:=(Dx VP.out).2;omega
  have c0:=E1.out.hd.cell 0;have c1:=E1.out.hd.cell 1;have c2:=E1.out.hd.cell 2;simp at c0 c1 c2;clear hv;go_wp2_with fail
  refine(HP.out _).mono ?_;rintro e' w2 ⟨rfl,DK⟩;have E2:=I (E1.out.below DK);clear E1 DK c0 c1 c2;have E1:=E2;clear E2;have HT:=I (G7 v (by omega) (by omega));go_wp2_with fail
  refine(HT.out _ w2 _ (by simp)).mono ?_;rintro e' w4 ⟨rfl,rfl⟩;have F:=I (E1.out.alloc (.cells #[.int .i64 v] 3)).DI;go_wp2;go_ret;exact⟨rfl,F.out⟩
end
section
variable{w W:World}{F:Nat->Nat}{rb c:Nat}{A:Option Addr}{tv:Value}{s:Ek}
theorem ABc{t:DQ}{L:List Dg}(hC:EA w W F)(h:H6 F W rb tv A c ⟨some t,L⟩)(N S:Value):
 Calls prog 18 #[.pointer (some ⟨rb,0,none⟩),.string ⟨#[119,97,121]⟩,N,S] W fun e W'=>e=.returned (.string (Gc [t.way.length]))/\Jm w F W rb ⟨some t,L⟩ W':=by
 obtain⟨tb,rfl,⟨_,_,wv,_,ht⟩,hg⟩:=h.Hz;have d0:=h.DC.1.cell 0;have lr:=h.DC.1.lt;simp at d0;obtain⟨ltb,-,-,d2⟩:=ht.cells;obtain⟨Aw,cw,rfl⟩:=Cz ht.way.1;have hw:=hg.way;have HT:=I (G7 (t.way.length:Int) (by omega) (by omega));have cq:=I (fun W1=>h.back (W1:=W1) hC);clear h hC ht hg;generalize hm:t.way.length=m at*;have gy:=I hm;clear hm;go_in;go_wp2_with fail
 refine(HT.out _ _ _ (by simp)).mono ?_;rintro e' w2 ⟨rfl,rfl⟩;have Df:=I (cq.out _ (AA.alloc AB (.cells #[.int .i64 (m:Int)] 3)));go_wp2;go_ret;exact⟨rfl,Df.out⟩
theorem gp{t:DQ}{L:List Dg}(hC:EA w W F)(h:H6 F W rb tv A c ⟨some t,L⟩)(wd:ByteArray){n:Nat}(hw:wd=⟨#[106,111,105,110]⟩/\n=2\/wd=⟨#[97,115,107]⟩/\n=1)(i:Int)(hl:t.FH i=false){An:Option Addr}{cn:Nat}{xs:List Value}(hn:IW F 0 W 1 n An (.int .i64 i::xs))(S:Value):
 Calls prog 18 #[.pointer (some ⟨rb,0,none⟩),.string wd,.slice An n cn,S] W fun e W'=>e=.returned (.string (FG 4))/\Jm w F W rb ⟨some t,L⟩ W':=by
 have J0:(0:Int)<(n:Int):=by rcases hw with h|h<;>have:=h.2<;>omega
 obtain⟨tb,rfl,⟨_,_,wv,_,ht⟩,hg⟩:=h.Hz;obtain⟨gn,on,rfl,Mm,Pj⟩:=hn.1.addr (by omega);have n0:=Pj 0 (.int .i64 i) rfl;simp only[AW]at n0;have d0:=h.DC.1.cell 0;have lr:=h.DC.1.lt;simp at d0;have Ly:=I (fun W1 hb=>Gr (ht.below hC (W':=W1) hb hg.Er) hg.Er i);rw[hl]at Ly;have HF:=I (El 4 (by decide));have cq:=I (fun W1=>h.back (W1:=W1) hC);have HS:=I (show∀w',Below W.heap.size W w'->(Below W.heap.size W w'/\w'.cell? ⟨rb,0,none⟩=some (.pointer (some ⟨tb,0,none⟩))/\w'.cell? ⟨gn,on,none⟩=some (.int .i64 i))from fun w' hb=>⟨hb,(hb.cell lr).trans d0,(hb.cell Mm).trans n0⟩);clear h hC ht hg Pj hn J0;rcases hw with⟨rfl,rfl⟩|⟨rfl,rfl⟩;all_goals
  go_in;go_wp2_with fail
  go_region_held3 (fun w'=>Below W.heap.size W w'/\w'.cell? ⟨rb,0,none⟩=some (.pointer (some ⟨tb,0,none⟩))/\w'.cell? ⟨gn,on,none⟩=some (.int .i64 i))
   ((refine HS.out _ ?_;first|(with_reducible exact AA)|(with_reducible exact AA.drew)))
   ((go_at_call 64;(with_reducible refine(Ly.out _ ?ia).mono ?_);(case ia=>first|(with_reducible exact AA)|(with_reducible exact AA.drew));rintro e' w2 ⟨rfl,rfl⟩))
  all_goals
   rename_i hheld;have Df:=I (cq.out _ hheld.1);clear hheld;go_wp2_with fail
   refine(HF.out _).mono ?_;rintro e' w2 ⟨rfl,rfl⟩;go_wp2;go_ret;exact⟨rfl,Df.out⟩
theorem tt{t:DQ}{L:List Dg}(hC:EA w W F)(h:H6 F W rb tv A c ⟨some t,L⟩)(k:Nat)(hl:t.FH (k:Int)=true)(hk:k<t.L.length)(id:ByteArray)(th:Int)(hN:((t.L[k]'hk).1.Fa id th).length<=100)(hs:(t.L[k]'hk).1.FA id th=0->∀p∈(t.L[k]'hk).1.Fa id th,IC p)(he:0<=(t.L[k]'hk).1.FA id th/\(t.L[k]'hk).1.FA id th<100){An As:Option Addr}{cn cs:Nat}(hn:IW F 0 W 1 2 An [.int .i64 (k:Int),.int .i64 th])(hsr:IW F 0 W 1 1 As [.string id]):
 Calls prog 18 #[.pointer (some ⟨rb,0,none⟩),.string ⟨#[106,111,105,110]⟩,.slice An 2 cn,.slice As 1 cs] W fun e W'=>e=.returned (.string (FF ((t.L[k]'hk).1.FA id th) (FC ((t.L[k]'hk).1.Fa id th))))/\Jm w F W rb ⟨some (t.node k ((t.L[k]'hk).1.Dy id th)),L⟩ W':=by
 have Nh:=I h.DC;have cq:=I (fun tb (e:tv=.pointer (some ⟨tb,0,none⟩)) W2 (q:J5 w F W tb (t.node k ((t.L[k]'hk).1.Dy id th)) W2) (g:Dt (t.node k ((t.L[k]'hk).1.Dy id th)))=>H6.pO (by rw[<-e];exact h) hC q g);obtain⟨tb,rfl,⟨_,_,wv,bs,ht⟩,hg⟩:=h.Hz;have hHG:Dt (t.node k ((t.L[k]'hk).1.Dy id th)):=by
  have:=hg.Dy (k:Int) id th;unfold DQ.Dy at this;rw[AD hl,DQ.JS hk]at this;exact this
 have cq:=I (fun W2 q=>cq.out tb rfl W2 q hHG);obtain⟨gn,on,rfl,Mm,Pj⟩:=hn.1.addr (by decide);obtain⟨gs,os,rfl,hgs,EO⟩:=hsr.1.addr (by decide);have mn:F gn=0:=hn.2 (by decide) _ rfl;have fs0:F gs=0:=hsr.2 (by decide) _ rfl;have n0:=Pj 0 (.int .i64 (k:Int)) rfl;have n1:=Pj 1 (.int .i64 th) rfl;have s0:=EO 0 (.string id) rfl;simp only[AW]at n0 s0;have d0:=h.DC.1.cell 0;have lr:=h.DC.1.lt;simp at d0;have hd:(t.L[k]'hk).2=false:=by
  obtain⟨k',e,q1,q2⟩:=Fu hl;obtain rfl:k=k':=by omega
  exact q2
 have NV:k<5:=by have:=hg.Er;omega
 have Mz:k<bs.length:=by rw[ht.len];exact hk
 obtain⟨gd,cd,rfl,N8,GV,La,fgd,dk⟩:=ht.at_ hk;obtain⟨ltb,t0,-⟩:=ht.cells;have Ly:=I (fun W1 hb=>Gr (ht.below hC (W':=W1) hb hg.Er) hg.Er (k:Int));rw[hl]at Ly;have HM:=I (show∀W1,Below W.heap.size W W1->Calls prog 65 #[.pointer (some ⟨bs[k]'Mz,0,none⟩),.string id,.int .i64 th] W1 fun e W'=>∃A c,e=.returned (.tuple #[.slice A ((t.L[k]'hk).1.Fa id th).length c,.int .i64 ((t.L[k]'hk).1.FA id th)])/\Reads W' W'.heap.size 3 A ((t.L[k]'hk).1.Fa id th).length (Da ((t.L[k]'hk).1.Fa id th))/\J5 w F W tb (t.node k ((t.L[k]'hk).1.Dy id th)) W'/\Kept (fun x=>F x=20+k) W W' from fun W1 hb=>by
  have q:=ht.below hC hb hg.Er;obtain⟨_,_,_,_,_,hnd⟩:=q.node k Mz hk;refine(kB hnd (hg.Fo _ (AL hk)) id th).mono fun e W' hr=>?_;have MR:=hr.choose_spec.choose_spec.2.2.2;obtain⟨A,c,q1,q2,q3⟩:=q.pT (hC.below hb) hg.Er hk hd hr;exact⟨A,c,q1,Reads.DR q2,q3.from hC hb,(Kept.DU hb).then MR (fun x e=>.inl e)⟩)
 have HY:=I (sY hN hs he);have n20:∀x,F x=41\/F x=6\/F x=7\/F x=0->¬F x=20+k:=fun x e=>by omega
 have HS:=I (show∀w',Kept (fun x=>F x=20+k) W w'->(w'.cell? ⟨rb,0,none⟩=some (.pointer (some ⟨tb,0,none⟩))/\w'.cell? ⟨tb,0,none⟩=some (.slice (some ⟨gd,0,none⟩) t.L.length cd)/\w'.cell? ⟨gd,k,none⟩=some (.pointer (some ⟨bs[k]'Mz,0,none⟩))/\w'.cell? ⟨gn,on,none⟩=some (.int .i64 (k:Int))/\w'.cell? ⟨gn,on+1,none⟩=some (.int .i64 th)/\w'.cell? ⟨gs,os,none⟩=some (.string id))from
  fun w' q=>⟨q.cell d0 (n20 _ (.inl h.DC.2)),q.cell t0 (n20 _ (.inr (.inl ht.DC.2))),q.cell dk (n20 _ (.inr (.inr (.inl fgd)))),q.cell n0 (n20 _ (.inr (.inr (.inr mn)))),q.cell n1 (n20 _ (.inr (.inr (.inr mn)))),q.cell s0 (n20 _ (.inr (.inr (.inr fs0))))⟩)
 have sq:(k:Int)<(t.L.length:Int):=by omega
 have bj:(0:Int)<=(k:Int):=by omega
 clear ht hC h hg Pj EO hn hsr hN hs he n20 hHG hd dk;generalize (t.L[k]'hk).1.FA id th=er at*;generalize (t.L[k]'hk).1.Fa id th=N at*;generalize t.node k ((t.L[k]'hk).1.Dy id th)=t' at*;generalize bs[k]'Mz=nb at*;generalize t.L.length=n at*;go_in;go_wp2_with fail
 go_region_held3 (fun w'=>w'.cell? ⟨rb,0,none⟩=some (.pointer (some ⟨tb,0,none⟩))/\w'.cell? ⟨tb,0,none⟩=some (.slice (some ⟨gd,0,none⟩) n cd)/\w'.cell? ⟨gd,k,none⟩=some (.pointer (some ⟨nb,0,none⟩))/\w'.cell? ⟨gn,on,none⟩=some (.int .i64 (k:Int))/\w'.cell? ⟨gn,on+1,none⟩=some (.int .i64 th)/\w'.cell? ⟨gs,os,none⟩=some (.string id))
  ((refine HS.out _ ?_;first|(with_reducible exact AH _ _)|(with_reducible exact(AH _ _).drew)))
  ((go_at_call 64;(with_reducible refine(Ly.out _ ?ia).mono ?_);(case ia=>first|(with_reducible exact AA)|(with_reducible exact AA.drew));rintro e' w2 ⟨rfl,rfl⟩))
 all_goals
  rename_i hheld;clear hheld;go_wp2_with fail
  go_region_held3 (fun w'=>w'.cell? ⟨rb,0,none⟩=some (.pointer (some ⟨tb,0,none⟩))/\w'.cell? ⟨tb,0,none⟩=some (.slice (some ⟨gd,0,none⟩) n cd)/\w'.cell? ⟨gd,k,none⟩=some (.pointer (some ⟨nb,0,none⟩))/\w'.cell? ⟨gn,on,none⟩=some (.int .i64 (k:Int))/\w'.cell? ⟨gn,on+1,none⟩=some (.int .i64 th)/\w'.cell? ⟨gs,os,none⟩=some (.string id))
   ((refine HS.out _ ?_;first|(with_reducible exact Im)|(with_reducible exact AH _ _)|(with_reducible exact(AH _ _).drew)|(with_reducible exact(AH _ _).drew.drew)))
   (first
   |(go_at_call 65;(with_reducible refine(HM.out _ ?ia).mono ?_);(case ia=>first|(with_reducible exact AA)|(with_reducible exact AA.drew)|(with_reducible exact AA.drew.drew));rintro e' w2 ⟨A2,c2,rfl,hr,GA,Im⟩;have H2:=I GA;have R2:=I hr;clear GA hr)
   |(go_at_call 59;(with_reducible refine(HY.out _ _ _ R2.out).mono ?_);rintro e' w3 ⟨rfl,DT⟩;have Im:Kept (fun x=>F x=20+k) W w3:=Im.step DT;have H3:=I DT;clear DT))
  all_goals
   have Df:=I ((cq.out _ H2.out).more H3.out);clear Im;go_wp2;go_ret;exact⟨rfl,Df.out⟩
theorem AEE{v er:Int}(hv:er=0->0<=v/\v<9223372036854775808)(he:0<=er/\er<100)(t:TypeId)(w:World)(g:Nat)(hg:g=w.heap.size):Calls prog 44 #[.int .i64 er,.slice (some ⟨g,0,none⟩) 1 1] (w.alloc (.cells #[.int .i64 v] t)) fun e w'=>e=.returned (.string (FF er (GF v)))/\w.alloc (.cells #[.int .i64 v] t)=w':=by
 unfold FF;by_cases h0:er=0
 ·subst h0
  exact G7 v (hv rfl).1 (hv rfl).2 t w g hg
 ·obtain⟨k,rfl⟩:=Bo he.1
  rw[AC h0];exact cG _ 1 1 k (by omega) (by omega) _
theorem zv{t:DQ}{L:List Dg}(hC:EA w W F)(h:H6 F W rb tv A c ⟨some t,L⟩)(k:Nat)(hl:t.FH (k:Int)=true)(hk:k<t.L.length)(id:ByteArray)(hv:Lh (t.L[k]'hk).1.D id=0->0<=(t.L[k]'hk).1.lv id/\(t.L[k]'hk).1.lv id<9223372036854775808)(he:0<=Lh (t.L[k]'hk).1.D id/\Lh (t.L[k]'hk).1.D id<100){An As:Option Addr}{cn cs:Nat}(hn:IW F 0 W 1 1 An [.int .i64 (k:Int)])(hsr:IW F 0 W 1 1 As [.string id]):
 Calls prog 18 #[.pointer (some ⟨rb,0,none⟩),.string ⟨#[97,115,107]⟩,.slice An 1 cn,.slice As 1 cs] W fun e W'=>e=.returned (.string (FF (Lh (t.L[k]'hk).1.D id) (GF ((t.L[k]'hk).1.lv id))))/\Jm w F W rb ⟨some t,L⟩ W':=by
 have cq:=I (fun W1=>h.back (W1:=W1) hC);obtain⟨tb,rfl,⟨_,_,wv,bs,ht⟩,hg⟩:=h.Hz;obtain⟨gn,on,rfl,Mm,Pj⟩:=hn.1.addr (by decide);obtain⟨gs,os,rfl,hgs,EO⟩:=hsr.1.addr (by decide);have mn:F gn=0:=hn.2 (by decide) _ rfl;have fs0:F gs=0:=hsr.2 (by decide) _ rfl;have n0:=Pj 0 (.int .i64 (k:Int)) rfl;have s0:=EO 0 (.string id) rfl;simp only[AW]at n0 s0;have d0:=h.DC.1.cell 0;have lr:=h.DC.1.lt;simp at d0;have hd:(t.L[k]'hk).2=false:=by
  obtain⟨k',e,q1,q2⟩:=Fu hl;obtain rfl:k=k':=by omega
  exact q2
 have NV:k<5:=by have:=hg.Er;omega
 have Mz:k<bs.length:=by rw[ht.len];exact hk
 obtain⟨gd,cd,rfl,N8,GV,La,fgd,dk⟩:=ht.at_ hk;obtain⟨ltb,t0,-⟩:=ht.cells;have Ly:=I (fun W1 hb=>Gr (ht.below hC (W':=W1) hb hg.Er) hg.Er (k:Int));rw[hl]at Ly;have HM:=I (show∀W1,Below W.heap.size W W1->Calls prog 66 #[.pointer (some ⟨bs[k]'Mz,0,none⟩),.string id] W1 (Pc ((t.L[k]'hk).1.lv id) (Lh (t.L[k]'hk).1.D id) W1)from fun W1 hb=>by
  have q:=ht.below hC hb hg.Er;obtain⟨_,_,_,_,_,hnd⟩:=q.node k Mz hk;exact cP hnd.DC hnd.Fj hnd.map (hg.Fo _ (AL hk)) id)
 have HY:=I (AEE hv he);have HS:=I (show∀w',Below W.heap.size W w'->(Below W.heap.size W w'/\w'.cell? ⟨rb,0,none⟩=some (.pointer (some ⟨tb,0,none⟩))/\w'.cell? ⟨tb,0,none⟩=some (.slice (some ⟨gd,0,none⟩) t.L.length cd)/\w'.cell? ⟨gd,k,none⟩=some (.pointer (some ⟨bs[k]'Mz,0,none⟩))/\w'.cell? ⟨gn,on,none⟩=some (.int .i64 (k:Int))/\w'.cell? ⟨gs,os,none⟩=some (.string id))from
  fun w' q=>⟨q,(q.cell lr).trans d0,(q.cell ltb).trans t0,(q.cell La).trans dk,(q.cell Mm).trans n0,(q.cell hgs).trans s0⟩)
 have sq:(k:Int)<(t.L.length:Int):=by omega
 have bj:(0:Int)<=(k:Int):=by omega
 clear ht hC h hg Pj EO hn hsr he hv hd dk;generalize Lh (t.L[k]'hk).1.D id=er at*;generalize (t.L[k]'hk).1.lv id=lv at*;generalize bs[k]'Mz=nb at*;generalize t.L.length=n at*;go_in;go_wp2_with fail
 go_region_held3 (fun w'=>Below W.heap.size W w'/\w'.cell? ⟨rb,0,none⟩=some (.pointer (some ⟨tb,0,none⟩))/\w'.cell? ⟨tb,0,none⟩=some (.slice (some ⟨gd,0,none⟩) n cd)/\w'.cell? ⟨gd,k,none⟩=some (.pointer (some ⟨nb,0,none⟩))/\w'.cell? ⟨gn,on,none⟩=some (.int .i64 (k:Int))/\w'.cell? ⟨gs,os,none⟩=some (.string id))
  ((refine HS.out _ ?_;first|(with_reducible exact AA)|(with_reducible exact AA.drew)))
  ((go_at_call 64;(with_reducible refine(Ly.out _ ?ia).mono ?_);(case ia=>first|(with_reducible exact AA)|(with_reducible exact AA.drew));rintro e' w2 ⟨rfl,rfl⟩))
 all_goals
  rename_i hheld;have eF:=hheld.1;clear hheld;go_wp2_with fail
  go_region_held3 (fun w'=>Below W.heap.size W w'/\w'.cell? ⟨rb,0,none⟩=some (.pointer (some ⟨tb,0,none⟩))/\w'.cell? ⟨tb,0,none⟩=some (.slice (some ⟨gd,0,none⟩) n cd)/\w'.cell? ⟨gd,k,none⟩=some (.pointer (some ⟨nb,0,none⟩))/\w'.cell? ⟨gn,on,none⟩=some (.int .i64 (k:Int))/\w'.cell? ⟨gs,os,none⟩=some (.string id))
   ((refine HS.out _ ?_;first|(with_reducible exact Im)|(with_reducible exact eF)|(with_reducible exact eF.drew)))
   ((go_at_call 66;(with_reducible refine(HM.out _ ?ia).mono ?_);(case ia=>first|(with_reducible exact eF)|(with_reducible exact eF.drew));rintro e' w2 ⟨rfl,DK⟩;have Im:Below W.heap.size W w2:=Below.C9 (by first|(with_reducible exact eF)|(with_reducible exact eF.drew)) DK;clear DK))
  all_goals
   rename_i hheld;have H2:=I hheld.1;clear hheld Im eF;go_wp2_with fail
   refine(HY.out _ _ _ (by simp)).mono ?_;rintro e' w3 ⟨rfl,rfl⟩;have Df:=I (cq.out _ (H2.out.alloc H2.out.size (.cells #[.int .i64 lv] 3)));go_wp2;go_ret;exact⟨rfl,Df.out⟩
end
theorem Qe:∀(l:List Nat)(j:Nat)(h:j<l.length),(Ex l)[2*j]? =some (.int .u64 (DB (l[j]'h)))/\(Ex l)[2*j+1]? =some (.int .u64 (DE (l[j]'h)))
 |a::l,0,h=>by simp[Ex]
 |a::l,j+1,h=>by
  have ih:=Qe l j (by simpa using h);have e:Ex (a::l)=.int .u64 (DB a):: .int .u64 (DE a)::Ex l:=by simp[Ex]
  rw[e,show 2*(j+1)=2*j+1+1 from by omega]
  simpa using ih
theorem yD(A:Option Addr)(c n:Nat)(l:List Nat)(hl:l.length=n)(hn:n<=100)(hs:∀k∈l,k<9223372036854775808)(w:World)(G:Gl w)(hr:Reads w w.heap.size 1 A n (ET l)):
 Calls prog 94 #[.slice A n c] w fun x w'=>x=.returned (.string (Gc l))/\Below w.heap.size w w':=by
 have R:=I hr;have HL:=I hl;have HS:=I hs;have HG:=I G;clear hr hl hs G;go_in;go_wp2;go_loopw [8,3] (fun iv ov wr=>∃j:Nat,j<=n/\iv=.int .i64 (j:Int)/\ov=.string (Gc (l.take j))/\Below w.heap.size w wr) (fun iv _ _=>n- (RowKit.intOf iv).toNat)
 case atStart=>exact⟨0,by omega,rfl,rfl,AA⟩
 case round=>
  obtain⟨j,hj,rfl,rfl,hb⟩:=hrel;have HB:=I hb;clear hb;by_cases DG:j<n
  ·obtain⟨g,off,rfl,hg,EO⟩:=(R.out.below HB.out AB).addr (by omega)
   have IJ:j<l.length:=by rw[HL.out];exact DG
   have ZH:=EO j (.int .i64 ((l[j]'IJ:Nat):Int)) (by simp[ET,IJ]);have Ka:g<wr.heap.size:=AJ hg HB.out.size;have dC:=I (QL l j IJ);have hk:=I (HS.out _ (AL IJ));have ht:=Mt l HS.out j (by omega);generalize l[j]'IJ=k at*;have Nq:=RS hk.out;have h3:(⟨#[32]⟩:ByteArray).size=1:=rfl;have uH:=D9 (P:=prog) ⟨#[32]⟩ (Fi k) (by omega);have vy:=D9 (P:=prog) (Gc (l.take j)) (⟨#[32]⟩++Fi k) (by simp only[Aq,h3];omega);have HI:=I (VC k hk.out (HG.out.below HB.out));clear EO IJ ht Nq h3;go_wp2_with fail
   refine HI.out.mono ?_;rintro e' w1 ⟨rfl,C6⟩;have Ii:=I (Below.C9 HB.out C6);clear C6;generalize Fi k=s at*;generalize Gc (l.take j)=t at*;go_wp2;exact⟨⟨j+1,by omega,by simp,by rw[dC.out],Ii.out⟩,by simp[RowKit.intOf];omega⟩
  ·obtain rfl:j=n:=by omega
   have e:l.take j=l:=AY (by rw[HL.out];omega);rw[e];go_wp2;go_ret;exact⟨rfl,HB.out⟩
theorem XP(l:List Nat)(k:Nat)(hk:l.length=k)(h3:k<=100)(hs:∀k∈l,k<9223372036854775808)(t:TypeId)(cs:Array Value)(hc:cs=(ET l).toArray)(w:World)(G:Gl w)(g:Nat)(hg:g=w.heap.size):
 Calls prog 94 #[.slice (some ⟨g,0,none⟩) k k] (w.alloc (.cells cs t)) fun x w'=>x=.returned (.string (Gc l))/\Below w.heap.size w w':=by
 subst hg hc;have hb:=(AQ w.heap.size w).alloc AB (.cells (ET l).toArray t);have:=JU w t (ET l);rw[show(ET l).length=k from by simp[ET,hk]]at this;exact(yD _ k k l hk h3 hs _ (G.below hb) this).mono fun x w' ⟨h1,h2⟩=>⟨h1,Below.C9 hb h2⟩
theorem xJ(v:Int)(h0:0<=v)(h1:v<9223372036854775808)(w:World)(G:Gl w):Calls prog 82 #[.int .i64 v,.int .i64 0] w fun x w'=>x=.returned (.string (GF v))/\Below w.heap.size w w':=by
 obtain⟨k,rfl⟩:∃k:Nat,v=(k:Int):=⟨v.toNat,by omega⟩;have HT:=I (XP [k] 1 rfl (by decide) (by intro j hj;rcases Ai.1 hj with rfl;omega) 3 #[.int .i64 (k:Int)] rfl w G _ rfl);have e:GF (k:Int)=Gc [k]:=rfl;rw[e];clear h0 h1 G e;go_in;go_wp2_with fail
 refine(L6 w).mono ?_;rintro e' w1 ⟨rfl,rfl⟩;go_wp2_with fail
 refine HT.out.mono ?_;rintro e' w2 ⟨rfl,hb⟩;have HB:=I hb;clear hb;go_wp2;go_ret;exact⟨rfl,HB.out⟩
theorem kY(e:Int)(he:e≠0)(v:Value)(w:World):Calls prog 27 #[.int .i64 e,v] w fun x w'=>x=Dr e/\w=w':=by
 have HE:=I he;clear he;go_in;go_wp2_with fail
 refine(Lu e HE.out w).mono ?_;rintro e' w1 ⟨rfl,rfl⟩;simp only[Dr];go_wp2;exact⟨rfl,rfl,rfl⟩
theorem jg(A:Option Addr)(c n:Nat)(l:List Nat)(hl:l.length=n)(hn:n<=100)(hs:∀k∈l,k<2^128)(w:World)(hr:Reads w w.heap.size 2 A n (Ex l)):
 Calls prog 27 #[.int .i64 0,.slice A n c] w fun x w'=>x=.returned (.string (EJ l))/\Below w.heap.size w w':=by
 have R:=I hr;have HL:=I hl;have HS:=I hs;clear hr hl hs;go_in;go_wp2_with fail
 refine(L6 w).mono ?_;rintro e' w1 ⟨rfl,rfl⟩;go_wp2;go_loopw [12,5] (fun iv ov wr=>∃j:Nat,j<=n/\iv=.int .i64 (j:Int)/\ov=.string (EJ (l.take j))/\Below w.heap.size w wr) (fun iv _ _=>n- (RowKit.intOf iv).toNat)
 case atStart=>exact⟨0,by omega,rfl,rfl,AA⟩
 case round=>
  obtain⟨j,hj,rfl,rfl,hb⟩:=hrel;obtain⟨wo,rfl⟩:∃wo,wo=wr:=⟨_,rfl⟩;have HB:=I hb;clear hb;by_cases DG:j<n
  ·obtain⟨g,off,rfl,hg,EO⟩:=(R.out.below HB.out AB).U9 (by omega) (by decide)
   have IJ:j<l.length:=by rw[HL.out];exact DG
   have Wf:=EO (j*2) (.int .u64 (DB (l[j]'IJ))) (by rw[AZ];exact(Qe l j IJ).1);have Qi:=EO (j*2+1) (.int .u64 (DE (l[j]'IJ))) (by rw[AZ];exact(Qe l j IJ).2);rw[<-Bv]at Qi;have Ka:g<wo.heap.size:=AJ hg HB.out.size;have dC:=I (Oj l j IJ);have hk:=I (HS.out _ (AL IJ));have ht:=Lw l HS.out j (by omega);generalize l[j]'IJ=k at*;have Nq:=dg hk.out;have h3:(⟨#[32]⟩:ByteArray).size=1:=rfl;have uH:=D9 (P:=prog) ⟨#[32]⟩ (Dc.YK k) (by omega);have vy:=D9 (P:=prog) (EJ (l.take j)) (⟨#[32]⟩++Dc.YK k) (by simp only[Aq,h3];omega);have HT:=I (fun w'=>px k hk.out w')
   clear EO IJ ht Nq h3;have HBa:=I (HB.out.alloc HB.out.size (.cells #[.int .u64 (DB k),.int .u64 (DE k)] 57));go_wp2_with fail
   refine(HT.out _).mono ?_;rintro e' w1 ⟨rfl,C6⟩;have Ii:=I (Below.C9 HBa.out C6);clear C6;generalize Dc.YK k=s at*;generalize EJ (l.take j)=t at*;go_wp2;exact⟨⟨j+1,by omega,by simp,by rw[dC.out],Ii.out⟩,by simp[RowKit.intOf];omega⟩
  ·obtain rfl:j=n:=by omega
   have e:l.take j=l:=AY (by rw[HL.out];omega);rw[e];go_wp2;go_ret;exact⟨rfl,HB.out⟩
def JW(s:Dh):Prop:=∀t∈s.S,JK t.1=true
def JB(t:DQ):Prop:=∀p∈t.L,JW p.1
structure Ml(s:Ek):Prop where
 Fo:∀t,s.T=some t->Dt t/\JB t
theorem JW.tell{s:Dh}(h:JW s):JW s.tell:=fun t ht=>by
 obtain⟨u,hu,rfl⟩:=BD.1 (show t∈s.S.map _ from ht);exact h u hu
theorem JW.notes{s:Dh}(h:JW s)(g:Di s):∀p∈s.notes,IC p/\JK p.1=true:=fun p hp=>by
 obtain⟨u,hu,e⟩:=List.mem_filterMap.1 (show p∈s.S.filterMap _ from hp);have h1:=h u hu;obtain⟨h2,h3,h4⟩:=g.th u hu;split at e
 ·cases e
 ·injection e with e
  subst e;refine⟨⟨?_,?_,?_⟩,h1⟩
  ·show u.1.size<=100;omega
  ·show 0<=u.2.1;omega
  ·show u.2.1<100;omega
theorem JW.mid{s:Dh}(h:JW s)(x:ByteArray):JW (s.mid x):=by
 unfold Dh.mid;cases s.kind x<;>exact h
theorem JW.heard{s:Dh}(h:JW s)(x:ByteArray):JW (s.heard x):=by
 unfold Dh.heard;split
 ·exact(h.mid x).tell
 ·exact h.mid x
theorem JW.plus{s:Dh}(h:JW s)(g:Di s){id:ByteArray}{th:Int}(he:s.FA id th=0):JW (s.plus id th):=fun t ht=>by
 rcases Au.1 ht with ht|ht
 ·exact h t ht
 ·rcases Ai.1 ht with rfl
  unfold Dh.FA at he;split at he
  ·cases he
  ·split at he
   ·cases he
   ·next hi=>
    cases hx:idxOf s.D id with
    |none=>rw[hx]at hi;exact absurd rfl hi
    |some k=>
     obtain⟨hk,e,-⟩:=Hk hx;have:=(g.ps.Fo _ (AL hk)).1;show JK id=true;rw[<-e];exact this
theorem JW.Dy{s:Dh}(h:JW s)(g:Di s)(id:ByteArray)(th:Int):JW (s.Dy id th):=by
 unfold Dh.Dy;split
 ·next he=>exact(h.plus g he).tell
 ·exact h
theorem JB.node{t:DQ}(h:JB t)(i:Nat){s:Dh}(hs:JW s):JB (t.node i s):=fun p hp=>by
 rcases Cc hp with hp|rfl
 ·exact h p hp
 ·exact hs
theorem JB.at_{t:DQ}(h:JB t)(i:Int):JW (t.at i):=by
 unfold DQ.at;cases hi:t.L[i.toNat]? with
 |none=>intro u hu;cases hu
 |some p=>exact h p (List.mem_of_getElem? hi)
theorem JB.DP{t:DQ}(h:JB t)(g:Int):JB (t.DP g):=by
 unfold DQ.DP;split
 ·intro p hp
  obtain⟨q,hq,rfl⟩:=BD.1 hp;unfold KI;split
  ·exact h q hq
  ·exact JW.tell (s:=q.1.DP g) (h q hq)
 ·exact h
theorem JB.brought{t:DQ}(h:JB t)(i z:Int):JB (t.brought i z):=by
 unfold DQ.brought;split
 ·exact h.node _ ((h.at_ z).heard _)
 ·exact h
theorem JB.lost{t:DQ}(h:JB t)(i:Int):JB (t.lost i):=by
 unfold DQ.lost;split
 ·exact h
 ·exact h
theorem JB.Ey{t:DQ}(h:JB t)(i:Int):JB (t.Ey i):=by
 unfold DQ.Ey;split
 ·intro p hp
  rcases Cc hp with hp|rfl
  ·exact h p hp
  ·exact h.at_ i
 ·exact h
theorem JB.Dy{t:DQ}(h:JB t)(g:Dt t)(i:Int)(id:ByteArray)(th:Int):JB (t.Dy i id th):=by
 unfold DQ.Dy;split
 ·next hl=>exact h.node _ ((h.at_ i).Dy (DQ.ND g hl) id th)
 ·exact h
theorem JW.Ee:∀(l:List Dg)(s:Dh),JW s->JW (Ee l s)
 | [],s,h=>h
 |c::l,s,h=>JW.Ee l (s.watched c.1 (Eb c)) (by unfold Dh.watched;split<;>exact h)
theorem JB.start(l:List Dg):JB (DQ.start l):=fun p hp=>by
 obtain⟨c,-,rfl⟩:=BD.1 hp;exact JW.Ee l _ (fun t ht=>by cases ht)
theorem VL{t:DQ}(h:JB t)(g:Dt t)(k:Int):∀p∈t.Fb k,IC p/\JK p.1=true:=fun p hp=>by
 unfold DQ.Fb at hp;split at hp
 ·next he=>
  obtain⟨q,hq,hp⟩:=List.mem_flatMap.1 hp;unfold GX at hp;split at hp
  ·cases hp
  ·next hd=>
   have hb:=(QJ he).2.2.1 q hq;have h0:q.1.D8 k=0:=by unfold Hr at hb;simpa [hd] using hb
   exact JW.notes (s:=q.1.DP k) (h q hq) ((g.Fo q hq).DP h0) p hp
 ·cases hp
theorem Kb{t:DQ}(h:JB t)(g:Dt t)(i z:Int):(t.Ge i z).length<=8/\∀p∈t.Ge i z,IC p/\JK p.1=true:=by
 unfold DQ.Ge;split
 ·next hc=>
  have hl:t.FH z=true:=by simp at hc;exact hc.2
  have hg:=DQ.ND g hl;unfold Dh.J8;split
  ·exact⟨Mi (hg.mid _),((h.at_ z).mid _).notes (hg.mid _)⟩
  ·exact⟨AM _,by simp⟩
 ·exact⟨AM _,by simp⟩
theorem OT{t:DQ}(h:JB t)(g:Dt t)(i:Int)(id:ByteArray)(th:Int):(t.Fa i id th).length<=8/\∀p∈t.Fa i id th,IC p/\JK p.1=true:=by
 unfold DQ.Fa;split
 ·next hl=>
  have hg:=DQ.ND g hl;unfold Dh.Fa;split
  ·next he=>exact⟨Mi (hg.plus he),((h.at_ i).plus hg he).notes (hg.plus he)⟩
  ·exact⟨AM _,by simp⟩
 ·exact⟨AM _,by simp⟩
theorem U4(t:DQ)(g:Int):0<=t.D8 g/\t.D8 g<100:=by
 unfold DQ.D8
 repeat' split
 all_goals omega
theorem WH(t:DQ)(i:Int):0<=t.KE i/\t.KE i<100:=by
 unfold DQ.KE;split<;>omega
theorem Uo(t:DQ)(i:Int):0<=t.KB i/\t.KB i<100:=by
 unfold DQ.KB;split<;>omega
theorem UU(t:DQ)(i:Int)(id:ByteArray)(th:Int):0<=t.FA i id th/\t.FA i id th<100:=by
 unfold DQ.FA Dh.FA
 repeat' split
 all_goals omega
theorem gJ(t:DQ)(i:Int)(id:ByteArray):0<=t.li i id/\t.li i id<100:=by
 unfold DQ.li Lh
 repeat' split
 all_goals omega
theorem vX(x:ByteArray):0<=(Fm x).2.2.2/\(Fm x).2.2.2<100:=by
 unfold Fm
 repeat' split
 all_goals simp
theorem nK(s:Dh)(x:ByteArray):0<=s.Iy x/\s.Iy x<100:=by
 unfold Dh.Iy;cases h:s.kind x with
 |no e=>
  unfold Dh.kind at h;split at h
  ·injection h with h
   rw[<-h];exact vX x
  ·split at h
   ·injection h with h
    rw[<-h];decide
   ·split at h<;>cases h
 |Nz k=>exact(by decide:(0:Int)<=5/\(5:Int)<100)
 |new k i q=>exact(by decide:(0:Int)<=0/\(0:Int)<100)
theorem SF(t:DQ)(i z:Int):0<=t.Ha i z/\t.Ha i z<100:=by
 unfold DQ.Ha;split
 ·exact nK _ _
 ·omega
def Nl(o:ByteArray):Prop:=(10:UInt8)∉o.data.toList
theorem Nl.app{a b:ByteArray}(ha:Nl a)(hb:Nl b):Nl (a++b):=by
 unfold Nl at*;rw[ByteArray.data_append,ATz,Au];exact fun h=>h.elim ha hb
theorem zh(k:Nat):(10:UInt8)∉Lib.decDigits k:=by
 induction k using Nat.strongRecOn with
 |_ k ih=>
  have hd:∀d:Fin 10,(10:UInt8)≠UInt8.ofNat (48+d.val):=by decide
  rw[Lib.decDigits];by_cases h:k<10
  ·rw[dif_pos h]
   simpa using hd ⟨k,h⟩
  ·rw[dif_neg h,Au]
   exact fun hh=>hh.elim (ih (k/10) (by omega)) (by simpa using hd ⟨k%10,by omega⟩)
theorem df(k:Nat):Nl (Fi k):=zh k
theorem zg(k:Nat):Nl (FG k):=Nl.app (by unfold Nl;decide) (df k)
theorem Tm{α:Type}(f:α->ByteArray):∀(l:List α)(a:ByteArray),Nl a->(∀x∈l,Nl (f x))->Nl (l.foldl (fun s n=>s++f n) a)
 | [],a,h,_=>h
 |x::l,a,h,hx=>Tm f l (a++f x) (h.app (hx x (Ay ..))) (fun y hy=>hx y (Am _ hy))
theorem uE(l:List Nat):Nl (Gc l):=Tm (fun n=>(⟨#[32]⟩:ByteArray)++Fi n) l ⟨#[111,107]⟩ (by unfold Nl;decide) (fun k _=>Nl.app (by unfold Nl;decide) (df k))
theorem AEF{s:ByteArray}(h:JK s=true):Nl s:=by
 unfold JK at h;rw[Bf,Bool.not_eq_true',ATl]at h;intro hm;have:=h.2 _ (BD.2 ⟨10,hm,rfl⟩);exact absurd (by decide) this
theorem oB{l:List Dm}(h:∀p∈l,IC p/\JK p.1=true):Nl (FC l):=Tm W6 l ⟨#[111,107]⟩ (by unfold Nl;decide) fun p hp=>by
 unfold W6;refine((Nl.app (by unfold Nl;decide) ?_ |>.app (AEF (h p hp).2)).app (by unfold Nl;decide)).app (df _);cases p.2.2<;>(unfold Nl;decide)
theorem jD:∀l:List Nat,(∀d∈l,d<10)->(10:UInt8)∉l.map Dc.ch
 | [],_=>by simp
 |d::l,h=>by
  have hd:∀d:Fin 10,(10:UInt8)≠Dc.ch d.val:=by decide
  rw[CN,AR];exact fun hh=>hh.elim (hd ⟨d,h d (Ay ..)⟩) (jD l (fun x hx=>h x (Am _ hx)))
theorem zl(n:Nat):Nl (Dc.YK n):=by
 unfold Nl Dc.YK;exact jD _ (fun d hd=>Dc.iw n d (AT5.1 hd))
theorem nG(l:List Nat):Nl (EJ l):=Tm (fun n=>(⟨#[32]⟩:ByteArray)++Dc.YK n) l ⟨#[111,107]⟩ (by unfold Nl;decide) (fun k _=>Nl.app (by unfold Nl;decide) (zl k))
section
variable{w:World}{A An:Option Addr}{c n cn:Nat}{l:List Int}
theorem u7(hg:Jv w A c n l)(k:Nat)(hk:k<=8)(hb:Reads w w.heap.size 1 An 1 [.int .i64 k]):
 Calls prog 17 #[.string ⟨#[102,97,100,101]⟩,.slice A n c,.slice An 1 cn] w fun e w'=>e=.returned (.string (GF (Hs l k (n- 1))))/\Below w.heap.size w w':=by
 obtain⟨g,off,rfl,He,EO⟩:=hb.addr (by decide);have k0:=EO 0 (.int .i64 k) rfl;simp only[AW]at k0;have hp:=hg.pos;obtain⟨bl,ol,rfl,FI,Sk⟩:=hg.rd.addr (by omega);have WT:=I Sk;have HN:=I hg.ln;have Rn:=I (Dv k 0 8 true (by unfold wi;simp;omega));have I4:=(Dk hg.ok).2;have jJ:=hg.ln;have hv0:=KR I4 0 (by omega);have HB:=I (fun j (hj:j<n)=>Uh l k hk I4 (by omega) j (by omega));have HV:=I (fun j (hj:j<n)=>KR I4 j (by omega));have HS:=I (fun j (hj:j+1<n)=>QM l k j (by omega));have H0:=I (show Hs l k 0=256*l.getD 0 0 by simp[Hs]);have sr:=Sk 0 _ (Fp l 0 (by omega));simp only[AW]at sr
 obtain⟨hc,j8⟩:=hg.cap;obtain⟨x0,x1⟩:=hv0;have hci:(1:Int)<=(c:Int):=by omega
 clear EO hb Sk jJ I4;have dr:=I hg.list;have p9:=I hg.of;have G0:=I hg;have WD:¬(64:Int)<(n:Int):=by have:=hg.n64;omega
 have VP:=I hg.sum;obtain⟨b1,b2,b3,b4,b5,b6⟩:=(Dx VP.out).1.bounds;obtain⟨h0,h1,h2,h3,h4,h5⟩:=(Dx VP.out).1;have J0:1<=(n:Int):=by have:=hg.pos;omega
 generalize s1 l=S at*;generalize s2 l=Q at*;clear hg;go_in;go_wp2_with fail
 refine dr.out.mono ?_;rintro e' w1 ⟨rfl,rfl⟩;go_wp2_with fail
 refine p9.out.mono ?_;rintro e' w1 ⟨rfl,C6⟩;have E1:=I (((AI w).below C6).lay #[.int .i64 n,.int .i64 S,.int .i64 Q] 96);have B1:=I C6;clear C6;have d0:=(B1.out.cell He).trans k0;have m0:=(B1.out.cell FI).trans sr;have XL:g<w1.heap.size:=AJ He B1.out.size;have C6:bl<w1.heap.size:=AJ FI B1.out.size;generalize hx:l.getD 0 0=x at*;clear hx h0 h1 h2 h3 h4 h5 b1 b2 b3 b4 b5 b6;have hxw:IntKind.i64.wrap (256*x)=256*x:=Ca _ (by omega);go_wp2_with fail
 refine(Rn.out _).mono ?_;rintro e' w2 ⟨rfl,rfl⟩;by_cases Qi:c=1
 ·subst Qi
  obtain rfl:n=1:=by omega
  have HZ:=I (show Hs l k (1- 1)=256*x from H0.out);have HT:=I (G7 (256*x) (by omega) (by omega));go_wp2;go_loopw [116,9] (fun iv mv wr=>iv=.int .i64 0/\mv=.int .i64 (256*x)/\Hid (wr=w1.alloc (.cells #[.int .i64 (1:Nat),.int .i64 S,.int .i64 Q] 96))) (fun _ _ _=>0)
  case atStart=>exact⟨rfl,rfl,I rfl⟩
  case round=>
   obtain⟨rfl,rfl,hw⟩:=hrel;obtain rfl:=hw.out;clear hw;go_wp2_with fail
   refine(HT.out _ _ _ (by simp)).mono ?_;rintro e' w4 ⟨rfl,rfl⟩;have F:=I (E1.out.alloc (.cells #[.int .i64 (256*x)] 3)).DI;go_wp2;go_ret;exact⟨by rw[HZ.out];rfl,F.out⟩
 ·have Rm:¬(c:Int)=1:=by omega
  go_wp2;go_loopw [116,9] (fun iv mv wr=>∃j:Nat,j<=n- 1/\iv=.int .i64 j/\mv=.int .i64 (Hs l k j)/\Hid (wr=w1.alloc (.cells #[.int .i64 n,.int .i64 S,.int .i64 Q] 96))) (fun iv _ _=>n- (RowKit.intOf iv).toNat)
  case atStart=>exact⟨0,AM _,rfl,by rw[H0.out],I rfl⟩
  case round=>
   obtain⟨j,hj,rfl,rfl,hw⟩:=hrel;obtain rfl:=hw.out;clear hw;obtain⟨r0,r1⟩:=HB.out j (by omega);by_cases DG:j<n- 1
   ·have hcj:=(B1.out.cell FI).trans (WT.out (j+1) _ (Fp l (j+1) (by rw[HN.out];omega)))
    have AJI:w1.cell? ⟨bl,ol+1+j,none⟩=some (.int .i64 (l.getD (j+1) 0)):=by rw[show ol+1+j=ol+(j+1)by omega];exact hcj
    clear hcj;have hvj:=HV.out (j+1) (by omega);have HSJ:=I (HS.out j (by omega));generalize hy:l.getD (j+1) 0=y at*;clear hy;obtain⟨y0,y1⟩:=hvj;generalize hz:Hs l k j=z at*;clear hz;have HA:=I (show M7 z y k from⟨r0,r1,y0,y1,by omega,by omega⟩);have Ko:=I (qT z y k HA.out);go_wp2_with fail
    refine(Ko.out _).mono ?_;rintro e w' ⟨rfl,rfl⟩;go_wp2;exact⟨⟨j+1,by omega,by simp,by rw[HSJ.out],I trivial⟩,by simp[RowKit.intOf];omega⟩
   ·obtain rfl:j=n- 1:=by omega
    generalize hz:Hs l k (n- 1)=v at*;have HZ:=I hz;clear hz;have Py:n<=n- 1+1:=by omega
    have HT:=I (G7 v (by omega) (by omega));go_wp2_with fail
    refine(HT.out _ _ _ (by simp)).mono ?_;rintro e' w4 ⟨rfl,rfl⟩;have F:=I (E1.out.alloc (.cells #[.int .i64 v] 3)).DI;go_wp2;go_ret;exact⟨by rw[HZ.out];rfl,F.out⟩
def bS(s:ByteArray):Bool:=s.toList== [108,101,118,101,108]||s.toList== [119,104,101,110]
def Li(s:ByteArray)(l:List Int):Int:=if bS s=true/\64<l.length then 1 else EZ l
theorem AAk{m:Nat}(wd:ByteArray)(e:Nat)(he:Li wd l=(e:Int))(h0:e≠0)(hn:l.length=n)(hm:n<=maxLen)(hr:Reads w w.heap.size 1 A n (DF l)):
 Calls prog 17 #[.string wd,.slice A n c,.slice An m cn] w fun x w'=>x=.returned (.string (FG e))/\Below w.heap.size w w':=by
 have ym:e<100:=by
  unfold Li EZ at he;split at he
  ·omega
  ·split at he
   ·omega
   ·split at he<;>omega
 have HF:=I (El e ym);subst hn;have HL:=I (Xt A c _ l hm w hr);have BB:=I (AQ w.heap.size w);have e1:((e:Int) != 0)=true:=by simp;omega
 unfold Li at he;clear hm hr ym;cases hw:bS wd with
 |true=>
  by_cases MH:64<l.length
  ·rw[AD ⟨hw,MH⟩]at he
   obtain rfl:e=1:=by omega
   have AEk:(64:Int)<(l.length:Int):=by omega
   unfold bS at hw;clear he;generalize (l.length:Nat)=n at*;cases mz:(wd.toList== [108,101,118,101,108]);all_goals
    rw[mz]at hw;simp only[Bool.false_or,Bool.true_or]at hw;go_in;go_wp2_with fail
    refine(HF.out _).mono ?_;rintro e' w1 ⟨rfl,rfl⟩;go_wp2;go_ret;exact⟨rfl,BB.out⟩
  ·rw[AC (fun h=>MH h.2)]at he
   rw[he]at HL;have AEk:¬(64:Int)<(l.length:Int):=by omega
   unfold bS at hw;clear he;generalize (l.length:Nat)=n at*;cases mz:(wd.toList== [108,101,118,101,108]);all_goals
    rw[mz]at hw;simp only[Bool.false_or,Bool.true_or]at hw;go_in;go_wp2_with fail
    refine HL.out.mono ?_;rintro e' w1 ⟨rfl,rfl⟩;go_wp2_with fail
    refine(HF.out _).mono ?_;rintro e' w1 ⟨rfl,rfl⟩;go_wp2;go_ret;exact⟨rfl,BB.out⟩
 |false=>
  rw[AC (fun h=>by rw[hw]at h;cases h.1)]at he;rw[he]at HL;unfold bS at hw;rw[ATm]at hw;obtain⟨q1,q2⟩:=hw;clear he;generalize (l.length:Nat)=n at*;go_in;go_wp2_with fail
  refine HL.out.mono ?_;rintro e' w1 ⟨rfl,rfl⟩;go_wp2_with fail
  refine(HF.out _).mono ?_;rintro e' w1 ⟨rfl,rfl⟩;go_wp2;go_ret;exact⟨rfl,BB.out⟩
theorem iO(wd:ByteArray)(hw:wd=⟨#[99,97,110,116,101,108,108,105]⟩\/wd=⟨#[102,97,100,101]⟩)(hg:Jv w A c n l)(a:Int)(ha:if wd=⟨#[102,97,100,101]⟩then wi a 0 8=false else wi a 0 1073741824=false)(hb:Reads w w.heap.size 1 An 1 [.int .i64 a]):
 Calls prog 17 #[.string wd,.slice A n c,.slice An 1 cn] w fun x w'=>x=.returned (.string (FG 1))/\Below w.heap.size w w':=by
 obtain⟨g,off,rfl,He,EO⟩:=hb.addr (by decide);have k0:=EO 0 (.int .i64 a) rfl;simp only[AW]at k0;have HF:=I (El 1 (by decide));clear EO hb;rcases hw with rfl|rfl
 case' inl=>
  rw[AC (by simp)]at ha;have pW:=I (Ll a false ha)
 case' inr=>
  rw[AD rfl]at ha;have pW:=I (Dv a 0 8 false ha)
 all_goals
  have dr:=I hg.list;have p9:=I hg.of;have G0:=I hg;have WD:¬(64:Int)<(n:Int):=by have:=hg.n64;omega
  have VP:=I hg.sum;obtain⟨b1,b2,b3,b4,b5,b6⟩:=(Dx VP.out).1.bounds;obtain⟨h0,h1,h2,h3,h4,h5⟩:=(Dx VP.out).1;have J0:1<=(n:Int):=by have:=hg.pos;omega
  generalize s1 l=S at*;generalize s2 l=Q at*;clear hg;go_in;go_wp2_with fail
  refine dr.out.mono ?_;rintro e' w1 ⟨rfl,rfl⟩;go_wp2_with fail
  refine p9.out.mono ?_;rintro e' w1 ⟨rfl,C6⟩;have E1:=I (((AI w).below C6).lay #[.int .i64 n,.int .i64 S,.int .i64 Q] 96);have B1:=I C6;clear C6;have d0:=(B1.out.cell He).trans k0;have XL:g<w1.heap.size:=AJ He B1.out.size;go_wp2_with fail
  refine(pW.out _).mono ?_;rintro e' w2 ⟨rfl,rfl⟩;go_wp2_with fail
  refine(HF.out _).mono ?_;rintro e' w2 ⟨rfl,rfl⟩;have F:=I E1.out.DI;go_wp2;go_ret;exact⟨rfl,F.out⟩
theorem Tq(wd:ByteArray)(hw:wd=⟨#[108,101,118,101,108]⟩\/wd=⟨#[119,104,101,110]⟩)(hg:Jv w A c n l)(a b:Int)(ha:wi a 1 16777216=false\/wi a 1 16777216=true/\(if wd=⟨#[108,101,118,101,108]⟩then wi b 0 1073741824=false else wi b 1 60=false))(hb:Reads w w.heap.size 1 An 2 [.int .i64 a,.int .i64 b]):
 Calls prog 17 #[.string wd,.slice A n c,.slice An 2 cn] w fun x w'=>x=.returned (.string (FG 1))/\Below w.heap.size w w':=by
 obtain⟨g,off,rfl,He,EO⟩:=hb.addr (by decide);have k0:=EO 0 (.int .i64 a) rfl;have k1:=EO 1 (.int .i64 b) rfl;simp only[AW]at k0;have HF:=I (El 1 (by decide));clear EO hb;rcases ha with ha|⟨ha,hx⟩
 ·have Rn:=I (Dv a 1 16777216 _ ha)
  rcases hw with rfl|rfl;all_goals
  have dr:=I hg.list;have p9:=I hg.of;have G0:=I hg;have WD:¬(64:Int)<(n:Int):=by have:=hg.n64;omega
  have VP:=I hg.sum;obtain⟨b1,b2,b3,b4,b5,b6⟩:=(Dx VP.out).1.bounds;obtain⟨h0,h1,h2,h3,h4,h5⟩:=(Dx VP.out).1;have J0:1<=(n:Int):=by have:=hg.pos;omega
  generalize s1 l=S at*;generalize s2 l=Q at*;clear hg;go_in;go_wp2_with fail
  refine dr.out.mono ?_;rintro e' w1 ⟨rfl,rfl⟩;go_wp2_with fail
  refine p9.out.mono ?_;rintro e' w1 ⟨rfl,C6⟩;have E1:=I (((AI w).below C6).lay #[.int .i64 n,.int .i64 S,.int .i64 Q] 96);have B1:=I C6;clear C6;have d0:=(B1.out.cell He).trans k0;have d1:=(B1.out.cell He).trans k1;have XL:g<w1.heap.size:=AJ He B1.out.size;go_wp2_with fail
  refine(Rn.out _).mono ?_;rintro e' w2 ⟨rfl,rfl⟩;go_wp2_with fail
  refine(HF.out _).mono ?_;rintro e' w2 ⟨rfl,rfl⟩;have F:=I E1.out.DI;go_wp2;go_ret;exact⟨rfl,F.out⟩
 ·have Rn:=I (Dv a 1 16777216 _ ha)
  rcases hw with rfl|rfl
  case' inl=>
   rw[AD rfl]at hx;have pW:=I (Ll b _ hx)
  case' inr=>
   rw[AC (by simp)]at hx;have pW:=I (Dv b 1 60 _ hx)
  all_goals
   have dr:=I hg.list;have p9:=I hg.of;have G0:=I hg;have WD:¬(64:Int)<(n:Int):=by have:=hg.n64;omega
   have VP:=I hg.sum;obtain⟨b1,b2,b3,b4,b5,b6⟩:=(Dx VP.out).1.bounds;obtain⟨h0,h1,h2,h3,h4,h5⟩:=(Dx VP.out).1;have J0:1<=(n:Int):=by have:=hg.pos;omega
   generalize s1 l=S at*;generalize s2 l=Q at*;clear hg;go_in;go_wp2_with fail
   refine dr.out.mono ?_;rintro e' w1 ⟨rfl,rfl⟩;go_wp2_with fail
   refine p9.out.mono ?_;rintro e' w1 ⟨rfl,C6⟩;have E1:=I (((AI w).below C6).lay #[.int .i64 n,.int .i64 S,.int .i64 Q] 96);have B1:=I C6;clear C6;have d0:=(B1.out.cell He).trans k0;have d1:=(B1.out.cell He).trans k1;have XL:g<w1.heap.size:=AJ He B1.out.size;go_wp2_with fail
   refine(Rn.out _).mono ?_;rintro e' w2 ⟨rfl,rfl⟩;go_wp2_with fail
   refine(pW.out _).mono ?_;rintro e' w2 ⟨rfl,rfl⟩;go_wp2_with fail
   refine(HF.out _).mono ?_;rintro e' w2 ⟨rfl,rfl⟩;have F:=I E1.out.DI;go_wp2;go_ret;exact⟨rfl,F.out⟩
theorem t8(hg:Jv w A c n l)(a b:Int)(ha:RK a b=false)(hb:Reads w w.heap.size 1 An 2 [.int .i64 a,.int .i64 b]):
 Calls prog 17 #[.string ⟨#[114,97,110,107]⟩,.slice A n c,.slice An 2 cn] w fun x w'=>x=.returned (.string (FG 1))/\Below w.heap.size w w':=by
 obtain⟨g,off,rfl,He,EO⟩:=hb.addr (by decide);have k0:=EO 0 (.int .i64 a) rfl;have k1:=EO 1 (.int .i64 b) rfl;simp only[AW]at k0;have HF:=I (El 1 (by decide));clear EO hb;have HPT:=I (VW a b);rw[ha]at HPT;have dr:=I hg.list;have p9:=I hg.of;have G0:=I hg;have WD:¬(64:Int)<(n:Int):=by have:=hg.n64;omega
 have VP:=I hg.sum;obtain⟨b1,b2,b3,b4,b5,b6⟩:=(Dx VP.out).1.bounds;obtain⟨h0,h1,h2,h3,h4,h5⟩:=(Dx VP.out).1;have J0:1<=(n:Int):=by have:=hg.pos;omega
 generalize s1 l=S at*;generalize s2 l=Q at*;clear hg;go_in;go_wp2_with fail
 refine dr.out.mono ?_;rintro e' w1 ⟨rfl,rfl⟩;go_wp2_with fail
 refine p9.out.mono ?_;rintro e' w1 ⟨rfl,C6⟩;have E1:=I (((AI w).below C6).lay #[.int .i64 n,.int .i64 S,.int .i64 Q] 96);have B1:=I C6;clear C6;have d0:=(B1.out.cell He).trans k0;have d1:=(B1.out.cell He).trans k1;have XL:g<w1.heap.size:=AJ He B1.out.size;go_wp2_with fail
 generalize IK:World.alloc w1 _=w2 at*;have I4:w1.heap.size<w2.heap.size:=by rw[<-IK];simp
 have Ka:g<w2.heap.size:=by omega
 have Rp:=I (show∀w',Below w2.heap.size w2 w'->(Below w2.heap.size w2 w'/\w'.cell? ⟨g,off,none⟩=some (.int .i64 a)/\w'.cell? ⟨g,off+1,none⟩=some (.int .i64 b))from fun w' h=>⟨h,(h.cell Ka).trans (by rw[<-IK,Bm _ _ _ XL];exact d0),(h.cell Ka).trans (by rw[<-IK,Bm _ _ _ XL];exact d1)⟩);clear IK;go_region_held3 (fun w'=>Below w2.heap.size w2 w'/\w'.cell? ⟨g,off,none⟩=some (.int .i64 a)/\w'.cell? ⟨g,off+1,none⟩=some (.int .i64 b))
  ((refine Rp.out _ ?_;repeat (with_reducible first|exact AA|refine AE ?_)))
  ((go_at_call 48;(with_reducible refine(HPT.out _).mono ?_);rintro e' w3 ⟨rfl,rfl⟩))
 all_goals
  rename_i hheld;have F:=I (E1.out.below hheld.1).DI;clear hheld;go_wp2_with fail
  refine(HF.out _).mono ?_;rintro e' w2 ⟨rfl,rfl⟩;go_wp2;go_ret;exact⟨rfl,F.out⟩
