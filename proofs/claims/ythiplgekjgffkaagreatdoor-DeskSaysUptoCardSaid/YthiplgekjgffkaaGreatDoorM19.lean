/- hwref -/
import Derived.Test.YthiplgekjgffkaaGreatDoorM17
import Derived.Test.YthiplgekjgffkaaGreatDoorM13
set_option maxRecDepth 100000
set_option maxHeartbeats 99000000
set_option linter.all false
namespace Go.Proofs.YthiplgekjgffkaaGreatDoor
open Go.Proofs.Tryz
open Go.RowKit Go.Lib
theorem aP(k:Nat)(h:10<=k):Fi k=Fi (k/10)++Fi (k%10):=by
 unfold Fi;rw[Lib.decDigits,dif_neg (by omega),Lib.decDigits_one (by omega:k%10<10)];apply CC;simp
theorem UH:∀(m k:Nat),1<=m->k<10^m->(Fi k).size<=m
 |0,k,h,_=>by omega
 |m+1,k,_,hk=>by
  by_cases h:k<10
  ·unfold Fi
   rw[Lib.decDigits_one h];simp[ByteArray.size]
  ·have h1:(Fi (k%10)).size=1:=by
    unfold Fi;rw[Lib.decDigits_one (by omega)];rfl
   have hm:1<=m:=by
    rcases m with _|m
    ·omega
    ·omega
   have ih:=UH m (k/10) hm (by rw[Ar]at hk;omega);rw[aP k (by omega),Aq,h1];omega
theorem RS{k:Nat}(h:k<9223372036854775808):(Fi k).size<=20:=UH 20 k (by decide) (by omega)
theorem S9(k:Nat)(hk:k<10)(w:World):Calls prog 31 #[.int .i64 (k:Int)] w fun e w'=>e=.returned (.string (Fi k))/\w=w':=by
 have e0:∀j:Fin 10,Fi j.val=(⟨#[48,49,50,51,52,53,54,55,56,57]⟩:ByteArray).extract j.val (j.val+1):=by decide+kernel
 have e1:=e0 ⟨k,hk⟩;simp only at e1;have k0:(0:Int)<=(k:Int):=by omega
 have k1:(k:Int)<10:=by omega
 rw[e1];clear e0 e1;go_in;go_wp2;go_ret;exact⟨rfl,rfl⟩
theorem jT(k:Nat)(hk:k<9223372036854775808)(h10:10<=k)(w:World)(HQ:Hid (Calls prog 31 #[.int .i64 ((k/10:Nat):Int)] w fun e w'=>e=.returned (.string (Fi (k/10)))/\w=w')):
 Calls prog 31 #[.int .i64 (k:Int)] w fun e w'=>e=.returned (.string (Fi k))/\w=w':=by
 have e1:=aP k h10;have s1:=RS (k:=k/10) (by omega);have s2:=RS (k:=k%10) (by omega);have hA:=D9 (P:=prog) (Fi (k/10)) (Fi (k%10)) (by omega);have HR:=I (S9 (k%10) (by omega) w);have q1:wrap64 ((k/10:Nat):Int)=((k/10:Nat):Int):=by
  unfold wrap64;omega
 have q2:wrap64 ((k%10:Nat):Int)=((k%10:Nat):Int):=by
  unfold wrap64;omega
 have q3:(k:Int).tmod 10=((k%10:Nat):Int):=by
  rw[Int.tmod_eq_emod_of_nonneg (by omega)];omega
 have q4:(k:Int).tdiv 10=((k/10:Nat):Int):=by
  rw[Cw (by omega)];omega
 have k0:(0:Int)<=(k:Int):=by omega
 have k1:¬(k:Int)<10:=by omega
 rw[e1];clear e1 s1 s2 hk h10;generalize k/10=a at*;generalize k%10=b at*;go_in;go_wp2_with fail
 refine HQ.out.mono ?_;rintro e' w1 ⟨rfl,rfl⟩;go_wp2_with fail
 refine HR.out.mono ?_;rintro e' w1 ⟨rfl,rfl⟩;go_wp2;go_ret;exact⟨rfl,rfl⟩
theorem RP(k:Nat)(w:World):k<9223372036854775808->Calls prog 31 #[.int .i64 (k:Int)] w fun e w'=>e=.returned (.string (Fi k))/\w=w':=by
 induction k using Nat.strongRecOn with
 |_ k ih=>
  intro hk;by_cases h:k<10
  ·exact S9 k h w
  ·exact jT k hk (by omega) w (I (ih (k/10) (by omega) (by omega)))
def FG(k:Nat):ByteArray:=⟨#[101,114,114,111,114,32]⟩++Fi k
theorem El(k:Nat)(hk:k<100)(w:World):Calls prog 13 #[.int .i64 (k:Int)] w fun e w'=>e=.returned (.string (FG k))/\w=w':=by
 have HD:=I (RP k w (by omega));have hs:=UH 2 k (by decide) (by omega);have h6:(⟨#[101,114,114,111,114,32]⟩:ByteArray).size=6:=rfl;have hA:=D9 (P:=prog) ⟨#[101,114,114,111,114,32]⟩ (Fi k) (by omega);clear hs h6;unfold FG;generalize Fi k=s at*;go_in;go_wp2_with fail
 refine HD.out.mono ?_;rintro e' w1 ⟨rfl,rfl⟩;go_wp2;go_ret;exact⟨rfl,rfl⟩
def Gc(l:List Nat):ByteArray:=l.foldl (fun s n=>s++(⟨#[32]⟩++Fi n)) ⟨#[111,107]⟩
theorem QL(l:List Nat)(j:Nat)(h:j<l.length):Gc (l.take (j+1))=Gc (l.take j)++(⟨#[32]⟩++Fi (l[j]'h)):=by
 unfold Gc;rw[Af h,ASg];rfl
theorem Mt(l:List Nat)(hs:∀k∈l,k<9223372036854775808):∀j,j<=l.length->(Gc (l.take j)).size<=2+21*j
 |0,_=>by simp[Gc];decide
 |j+1,h=>by
  have h1:=Mt l hs j (by omega);have h2:=RS (hs _ (AL (show j<l.length by omega)));have h3:(⟨#[32]⟩:ByteArray).size=1:=rfl;rw[QL l j (by omega)];simp only[Aq,h3];omega
def ET(l:List Nat):List Value:=l.map fun(n:Nat)=>Value.int .i64 (n:Int)
theorem cG(A:Option Addr)(c n:Nat)(k:Nat)(h0:k≠0)(hk:k<100)(w:World):Calls prog 44 #[.int .i64 (k:Int),.slice A n c] w fun x w'=>x=.returned (.string (FG k))/\w=w':=by
 have HF:=I (El k hk w);have Jg:((k:Int)==0)=false:=by simp;omega
 have C6:((k:Int) != 0)=true:=by simp;omega
 clear h0 hk;go_in;go_wp2_with fail
 refine HF.out.mono ?_;rintro e' w1 ⟨rfl,rfl⟩;go_wp2;go_ret;exact⟨rfl,rfl⟩
theorem Up(A:Option Addr)(c n:Nat)(l:List Nat)(hl:l.length=n)(hn:n<=100)(hs:∀k∈l,k<9223372036854775808)(w:World)(hr:Reads w w.heap.size 1 A n (ET l)):
 Calls prog 44 #[.int .i64 0,.slice A n c] w fun x w'=>x=.returned (.string (Gc l))/\w=w':=by
 have R:=I hr;have HL:=I hl;have HS:=I hs;clear hr hl hs;go_in;go_wp2;go_loopw [14,5] (fun iv ov wr=>∃j:Nat,j<=n/\iv=.int .i64 (j:Int)/\ov=.string (Gc (l.take j))/\Hid (w=wr)) (fun iv _ _=>n- (RowKit.intOf iv).toNat)
 case atStart=>exact⟨0,by omega,rfl,rfl,I rfl⟩
 case round=>
  obtain⟨j,hj,rfl,rfl,hb⟩:=hrel;obtain rfl:=hb.out;clear hb;by_cases DG:j<n
  ·obtain⟨g,off,rfl,hg,EO⟩:=R.out.addr (by omega)
   have IJ:j<l.length:=by rw[HL.out];exact DG
   have ZH:=EO j (.int .i64 ((l[j]'IJ:Nat):Int)) (by simp[ET,IJ]);have dC:=I (QL l j IJ);have hk:=I (HS.out _ (AL IJ));have ht:=Mt l HS.out j (by omega);generalize l[j]'IJ=k at*;have Nq:=RS hk.out;have h3:(⟨#[32]⟩:ByteArray).size=1:=rfl;have uH:=D9 (P:=prog) ⟨#[32]⟩ (Fi k) (by omega);have vy:=D9 (P:=prog) (Gc (l.take j)) (⟨#[32]⟩++Fi k) (by simp only[Aq,h3];omega);have HD:=I (RP k w hk.out);clear EO IJ ht Nq h3;generalize Fi k=s at*;generalize Gc (l.take j)=t at*;go_wp2_with fail
   refine HD.out.mono ?_;rintro e' w1 ⟨rfl,rfl⟩;go_wp2;exact⟨⟨j+1,by omega,by simp,by rw[dC.out],I trivial⟩,by simp[RowKit.intOf];omega⟩
  ·obtain rfl:j=n:=by omega
   have e:l.take j=l:=AY (by rw[HL.out];omega);rw[e];go_wp2;go_ret;exact⟨rfl,rfl⟩
def AAr(s:ByteArray)(w:World)(e:Ending)(w':World):Prop:=((∃k,Hw s=some k/\e=.returned (.tuple #[.int .i64 (k:Int),.bool true]))\/(Hw s=none/\∃z:Int,e=.returned (.tuple #[.int .i64 z,.bool false])))/\Below w.heap.size w w'
