/- rank -/
import Derived.Test.YthiplgekjgffkaaGreatDoorM41
import Derived.Deep.DeepCutAuto
set_option maxRecDepth 100000
set_option maxHeartbeats 99000000
set_option linter.all false
namespace Go.Proofs.YthiplgekjgffkaaGreatDoor
open Go.Proofs.Tryz
open Go.RowKit
def RK(num den:Int):Bool:=wi den 1 1000&&wi num 0 den
def Km(p den:Nat):Nat:=max 1 ((p+den- 1)/den)
theorem fm(p den k:Nat)(hd:1<=den)(hk:1<=k)(h1:p<=k*den)(h2:k=1\/(k- 1)*den<p):Km p den=k:=by
 unfold Km;rcases Ac p with h0|h0
 ·subst h0
  have:(0+den- 1)/den=0:=Cq (by omega);rw[this];rcases h2 with h2|h2<;>omega
 ·have e:(p+den- 1)/den=k:=by
   have hs:(k+1)*den=k*den+den:=Cp _ _;have WP:k*den=(k- 1)*den+den:=by rw[<-Cp];congr 1;omega
   refine Nat.div_eq_of_lt_le ?_ ?_
   ·rcases h2 with h2|h2
    ·subst h2;omega
    ·omega
   ·show p+den- 1<(k+1)*den
    omega
  rw[e];omega
theorem Zu(n num den:Nat)(hd:1<=den)(hn:1<=n)(hm:num<=den):1<=Km (n*num) den/\Km (n*num) den<=n:=by
 unfold Km;have h1:n*num<=n*den:=Bb _ hm;have h2:(n*num+den- 1)/den<=n:=by
  rw[Nat.div_le_iff_le_mul_add_pred (by omega)];rw[AZ den n];omega
 omega
theorem VW(num den:Int)(w:World):
 Calls prog 48 #[.int .i64 num,.int .i64 den] w fun e w'=>e=.returned (.bool (RK num den))/\w=w':=by
 unfold RK;cases h1:wi den 1 1000
 ·go_in
  go_wp2_with (go_at_call 53;refine(Fr _ _ _ _).mono ?_;rintro e w' ⟨rfl,rfl⟩;(try rw[h1]))
  go_ret;exact⟨rfl,rfl⟩
 ·cases h2:wi num 0 den
  all_goals
   go_in;go_wp2_with (go_at_call 53;refine(Fr _ _ _ _).mono ?_;rintro e w' ⟨rfl,rfl⟩;(first|rw[h1]|rw[h2]))
   go_ret;exact⟨rfl,rfl⟩
theorem fD(n num den:Nat)(hn:n<=64)(hm:num<=den)(hd:1<=den)(N8:den<=1000)(w:World):
 Calls prog 50 #[.int .i64 n,.int .i64 num,.int .i64 den] w fun e w'=>e=.returned (.int .i64 (Km (n*num) den:Nat))/\w=w':=by
 have hp:n*num<=64*1000:=BR hn (by omega);have mh:(n:Int)*(num:Int)=((n*num:Nat):Int):=by simp
 have HD:=I (fun k=>fm (n*num) den k hd);generalize n*num=p at*;go_in;go_wp2;go_loop [7] (fun kv=>∃k:Nat,kv=.int .i64 (k:Int)/\1<=k/\(k=1\/(k- 1)*den<p)) (fun kv=>p+1- (intOf kv).toNat)
 case atStart=>exact⟨1,rfl,by omega,.inl rfl⟩
 case round=>
  obtain⟨k,rfl,hk,h2⟩:=hrel;have WP:k*den=(k- 1)*den+den:=by rw[<-Cp];congr 1;omega
  have X8:k*den<=65000:=by
   rcases h2 with h2|h2
   ·subst h2;omega
   ·omega
  have MR:k<=p+1:=by
   rcases h2 with h2|h2
   ·omega
   ·have h3:k- 1<=(k- 1)*den:=Nat.le_mul_of_pos_right _ hd
    generalize (k- 1)*den=z at*;omega
  have Rm:(k:Int)*(den:Int)=((k*den:Nat):Int):=by simp
  have IG:k<=k*den:=Nat.le_mul_of_pos_right _ hd;have HE:=I (HD.out k hk);have HN:=I (show k+1- 1=k by omega);generalize Uv:k*den=kd at*;have HK:=I Uv;have HH:=I h2;clear Uv WP h2;by_cases DG:kd<p
  ·have hl:(kd:Int)<(p:Int):=by omega
   go_wp2;exact⟨⟨k+1,by simp,by omega,.inr (by rw[HN.out,HK.out];exact DG)⟩,by simp[intOf];omega⟩
  ·have hl:(p:Int)<=(kd:Int):=by omega
   have HR:=I (HE.out (by omega) HH.out);go_wp2;go_ret;refine⟨?_,rfl⟩;rw[HR.out];rfl
theorem lh(A:Option Addr)(c B n:Nat)(l:List Int)(num den:Int)(hn:l.length=n)(e:Int)(he:EZ l=e)(hz:e≠0)(hm:n<=maxLen)(w:World)(hr:Reads w B 1 A n (DF l)):
 Calls prog 101 #[.slice A n c,.int .i64 num,.int .i64 den] w fun e' w'=>e'=.returned (.tuple #[.int .i64 0,.int .i64 e])/\w=w':=by
 have HN:=I hn;have HE:=I he;have HR:=I hr;clear hn he hr;go_in;go_wp2_with fail
 refine(IR _ _ _ l n HN.out _ HE.out hm _ HR.out).mono ?_;rintro e' w' ⟨rfl,rfl⟩;go_wp2;refine AF (v:=.tuple #[.int .i64 0,.int .i64 e]) (by simp[results,results101,go_sem]) rfl ⟨rfl,rfl⟩
theorem jr(A:Option Addr)(c B n:Nat)(l:List Int)(num den:Int)(Fg:den<1\/1000<den\/num<0\/den<num)(hn:l.length=n)(he:EZ l=0)(hm:n<=maxLen)(w:World)(hr:Reads w B 1 A n (DF l)):
 Calls prog 101 #[.slice A n c,.int .i64 num,.int .i64 den] w fun e' w'=>e'=.returned (.tuple #[.int .i64 0,.int .i64 1])/\w=w':=by
 have HN:=I hn;have HE:=I he;have HR:=I hr;clear hn he hr;go_in;go_wp2_with fail
 refine(IR _ _ _ l n HN.out _ HE.out hm _ HR.out).mono ?_;rintro e' w' ⟨rfl,rfl⟩;go_wp2;all_goals first
  |(exfalso;omega)
  |exact AF (v:=.tuple #[.int .i64 0,.int .i64 1]) (by simp[results,results101,go_sem]) rfl ⟨rfl,rfl⟩
theorem o3(A:Option Addr)(c B n num den k:Nat)(l T:List Int)(hT:So.Ik l T)(hn:l.length=n)(he:EZ l=0)(Hc:1<=n)(fh:1<=den)(N8:den<=1000)(dG:num<=den)(hk:Km (n*num) den=k)(w:World)(hr:Reads w B 1 A n (DF l))(hB:B<=w.heap.size):
 Calls prog 101 #[.slice A n c,.int .i64 num,.int .i64 den] w fun e' w'=>e'=.returned (.tuple #[.int .i64 (T.getD (k- 1) 0),.int .i64 0])/\Below w.heap.size w w':=by
 have MH:n<=64:=by rw[<-hn];exact(Dk he).1
 obtain⟨bj,LO⟩:=Zu n num den fh Hc dG;rw[hk]at bj LO;have hp:n*num<=64*1000:=BR MH (by omega);have mh:(n:Int)*(num:Int)=((n*num:Nat):Int):=by simp
 have HN:=I hn;have HE:=I he;have HR:=I hr;have HTL:=I (show T.length=n by rw[hT.2.length_eq,hn]);have HS:=I (Zo w.heap.size B n c A l T hT hn (by omega) (w.alloc (.cells #[.slice A n c] 53)) (by simp) (by simp;omega) (by simp[go_sem]) (hr.alloc hB _));have Rp:=I (show Below w.heap.size w (w.alloc (.cells #[.slice A n c] 53))from(AQ _ w).alloc AB _);generalize n*num=p at*;have hdiv:((p:Int)+(den:Int)- 1)/(den:Int)=(((p+den- 1)/den:Nat):Int):=by
  rw[show(p:Int)+(den:Int)- 1=((p+den- 1:Nat):Int)by omega];simp
 have ANd:(p+den- 1)/den<=p+den- 1:=Bu _ _;unfold Km at hk;generalize (p+den- 1)/den=q at*;have HK:=I hk;have qz:=I hdiv;clear hn he hr hT hB hk hdiv;go_in;go_wp2_with fail
 refine(IR _ _ _ l n HN.out _ HE.out (by unfold maxLen;omega) _ HR.out).mono ?_;rintro e' w' ⟨rfl,rfl⟩;go_wp2_with fail
 refine(gM _ _ _ _).mono ?_;rintro e' w1 ⟨rfl,rfl⟩;go_wp2_with fail
 refine HS.out.mono ?_;rintro e' w2 ⟨A',c',rfl,Eg,hb⟩;have HO:=I (Reads.DR Eg);have Un:=I (Rp.out.trans (hb.mono (by simp)));clear Eg hb;obtain⟨b',AMf,rfl,tT,EC⟩:=HO.out.addr (by omega);have FR:=EC (k- 1) _ (Fp T (k- 1) (by rw[HTL.out];omega));clear EC;generalize hx:T.getD (k- 1) 0=x at*;have HX:=I hx;clear hx;have hmx:max (1:Int) (((p:Int)+(den:Int)- 1)/(den:Int))=(k:Int):=by rw[qz.out];have:=HK.out;omega
 have hi:(k:Int)- 1=((k- 1:Nat):Int):=by omega
 rw[hmx];go_wp2;refine AF (v:=.tuple #[.int .i64 x,.int .i64 0]) (by simp[results,results101,go_sem]) rfl ⟨by rw[HX.out],Un.out⟩
