/- How many bits: the libra -/
import Derived.Test.YthiplgekjgffkaaGreatDoorM20
import Derived.Test.YthiplgekjgffkaaGreatDoorM08
set_option maxRecDepth 100000
set_option maxHeartbeats 99000000
set_option linter.all false
namespace Go.Proofs.YthiplgekjgffkaaGreatDoor
def CD:=@Go.Lib.toList_data
def AUZ:=@Go.Lib.splitB_length_le
open Go.Proofs.Tryz
open Go.RowKit
theorem OL:∀(f n:Nat),n<2^f->Lib.bitLenAux f n=Bt.D6 n
 |0,n,h=>by
  have:n=0:=by simpa using h
  subst this;simp[Lib.bitLenAux,Bt.Gz]
 |f+1,n,h=>by
  rcases Ac n with rfl|hp
  ·simp[Lib.bitLenAux,Bt.Gz]
  ·rw[Lib.bitLenAux,AC (by omega),OL f (n/2) (by rw[Ar]at h;omega),Bt.Hp n hp,ASf]
theorem Oy(n:Nat)(h:n<2^64):Lib.bitLen n=Bt.D6 n:=OL 64 n h
open Go.Lib
theorem AAO{a b:ByteArray}(h:a=b):(a.toList==b.toList)=true:=by rw[h];simp
theorem AAs{a b:ByteArray}(h:a≠b):(a.toList==b.toList)=false:=by
 cases hq:(a.toList==b.toList)
 ·rfl
 ·exfalso
  apply h;have:=eq_of_beq hq;rw[Bl,Bl]at this;exact CC (ATZ.1 this)
theorem XO(A:Option Addr)(c B n:Nat)(l:List C8)(id:ByteArray)(r:Int)(hm:n<=maxLen)
 (hr:(∃k,∃hk:k<l.length,pid (l[k]'hk)=id/\(∀j,(hj:j<l.length)->j<k->pid (l[j]'hj)≠id)/\r=(k:Int))\/((∀j,(hj:j<l.length)->pid (l[j]'hj)≠id)/\r= -1)) (w:World) (hp:Dq w B A n l) (hB:B<=w.heap.size):
 Calls prog 147 #[.slice A n c,.string id] w fun e w'=>e=.returned (.int .i64 r)/\Below w.heap.size w w':=by
 unfold maxLen at hm;have HP:=I hp;have FK:=I hB;have HN:=I hp.len;have HR:=I hr;clear hp hB hr;go_in;go_wp2_with fail
 go_loopw [9] (fun iv wr=>∃k:Nat,k<=n/\iv=.int .i64 (k:Int)/\(∀j,(hj:j<l.length)->j<k->pid (l[j]'hj)≠id)/\Below w.heap.size w wr) (fun iv _=>n- (RowKit.intOf iv).toNat)
 case atStart=>exact⟨0,by omega,rfl,fun j hj h=>absurd h (by omega),AA⟩
 case round=>
  obtain⟨k,hk,rfl,Ix,FI⟩:=hrel;obtain⟨wo,rfl⟩:∃wo,wo=wr:=⟨_,rfl⟩;by_cases DG:k<n
  ·have ES:k<l.length:=by rw[HN.out];exact DG
   obtain⟨b,off,rfl,hb,EO⟩:=(HP.out.below FI FK.out).addr (by omega);obtain⟨c0,c1,c2,c3,c4,c5,c6⟩:=EO k ES;have BL:=I FI;by_cases he:pid (l[k]'ES)=id
   ·have EV:=I (show r=(k:Int)by
     rcases HR.out with⟨k',RO,h1,h2,h3⟩|⟨h1,h2⟩
     ·rcases ASd k k' with h|h|h
      ·exact absurd he (h2 k ES h)
      ·rw[h3,h]
      ·exact absurd h1 (Ix k' RO h)
     ·exact absurd he (h1 k ES))
    have hq:=AAO he;clear Ix EO FI he;go_wp2;go_ret;exact⟨D7 EV.out.symm,BL.out.alloc BL.out.size _⟩
   ·have hq:=AAs he
    have NO:=I (show∀j,(hj:j<l.length)->j<k+1->pid (l[j]'hj)≠id from fun j hj h=>by
     by_cases VD:j=k
     ·subst VD;exact he
     ·exact Ix j hj (by omega))
    clear Ix EO FI he;go_wp2;exact⟨⟨k+1,by omega,by simp,NO.out,BL.out.alloc BL.out.size _⟩,by simp[RowKit.intOf];omega⟩
  ·have EV:=I (show r= -1 by
    rcases HR.out with⟨k',RO,h1,h2,h3⟩|⟨h1,h2⟩
    ·exact absurd h1 (Ix k' RO (by have:=HN.out;omega))
    ·exact h2)
   have BL:=I FI;clear Ix FI;go_wp2;go_ret;exact⟨D7 EV.out.symm,BL.out⟩
theorem Mp(A:Option Addr)(c B n:Nat)(l:List C8)(k:Nat)(hk:k<l.length)(Ix:∀j,(hj:j<l.length)->j<k->pid (l[j]'hj)≠pid (l[k]'hk))(hm:n<=maxLen)(w:World)(hp:Dq w B A n l)(hB:B<=w.heap.size):
 Calls prog 147 #[.slice A n c,.string (pid (l[k]'hk))] w fun e w'=>e=.returned (.int .i64 (k:Int))/\Below w.heap.size w w':=
 XO A c B n l _ _ hm (.inl ⟨k,hk,rfl,Ix,rfl⟩) w hp hB
theorem LC(A:Option Addr)(c B n:Nat)(l:List C8)(id:ByteArray)(Ix:∀j,(hj:j<l.length)->pid (l[j]'hj)≠id)(hm:n<=maxLen)(w:World)(hp:Dq w B A n l)(hB:B<=w.heap.size):
 Calls prog 147 #[.slice A n c,.string id] w fun e w'=>e=.returned (.int .i64 (-1))/\Below w.heap.size w w':=
 XO A c B n l _ _ hm (.inr ⟨Ix,rfl⟩) w hp hB
theorem aF:∀a b:List UInt8,(Lib.compareBytes a b<0↔Op.bytesLess a b=true)
 | [],[]=>by simp[Lib.compareBytes,Op.bytesLess]
 | [],b::y=>by simp[Lib.compareBytes,Op.bytesLess]
 |a::x,[]=>by simp[Lib.compareBytes,Op.bytesLess]
 |a::x,b::y=>by
  have ih:=aF x y;simp only[Lib.compareBytes,Op.bytesLess];by_cases h1:a<b
  ·simp[h1]
  ·by_cases h2:b<a
   ·have h3:¬a=b:=fun e=>h1 (by rw[e]at h2;rw[e];exact h2)
    simp[h1,h2,h3]
   ·have h3:a=b:=by
     apply CY.1;have:=mt Bj.2 h1;have:=mt Bj.2 h2;omega
    subst h3;simp[h1,ih]
theorem bt:∀a b:List UInt8,(Lib.compareBytes a b=0↔a=b)
 | [],[]=>by simp[Lib.compareBytes]
 | [],b::y=>by simp[Lib.compareBytes]
 |a::x,[]=>by simp[Lib.compareBytes]
 |a::x,b::y=>by
  have ih:=bt x y;simp only[Lib.compareBytes];by_cases h1:a<b
  ·have h3:¬a=b:=fun e=>by rw[e]at h1;have:=Bj.1 h1;omega
   simp[h1,h3]
  ·by_cases h2:b<a
   ·have h3:¬a=b:=fun e=>by rw[e]at h2;have:=Bj.1 h2;omega
    simp[h1,h2,h3]
   ·have h3:a=b:=by
     apply CY.1;have:=mt Bj.2 h1;have:=mt Bj.2 h2;omega
    subst h3;simp[h1,ih]
def Ud(a b:ByteArray):Int:=Lib.compareBytes a.data.toList b.data.toList
theorem XH{a b:ByteArray}:Ud a b<0↔Ea a b=true:=by
 unfold Ud Ea;rw[Bl,Bl];exact aF _ _
theorem Xf{a b:ByteArray}:Ud a b=0↔a=b:=by
 unfold Ud;rw[bt];exact⟨fun h=>CC (ATZ.1 h),fun h=>by rw[h]⟩
theorem vU(p:C8)(id:ByteArray)(w:World):
 Calls prog 279 #[lJ p,.string id] w fun e w'=>e=.returned (.int .i64 (Ud (pid p) id))/\Below w.heap.size w w':=by
 have E:=I ((AI w).lay (Dp p).toArray 187);have HC:=I (Tryz.strings_Compare (pid p) id);simp only[Dp]at E;unfold lJ Dp;go_in;go_wp2_with fail
 refine(HC.out _).mono ?_;rintro e' w' ⟨rfl,rfl⟩;go_wp2;go_ret;exact⟨rfl,E.out.DI⟩
theorem ADx(A:Option Addr)(c B n:Nat)(l:List C8)(id:ByteArray)(i0:Nat)(fd:Bool)(hi:i0<=n)(hm:n<=1000)
 (Vj:∀j,(hj:j<l.length)->j<i0->Ea (pid (l[j]'hj)) id=true) (bK:∀j,(hj:j<l.length)->i0<=j->Ea (pid (l[j]'hj)) id=false)
 (mj:fd=true↔ ∃hj:i0<l.length,pid (l[i0]'hj)=id) (w:World) (hp:Dq w B A n l) (hB:B<=w.heap.size):
 Calls prog 278 #[.slice A n c,.string id,.func (.func 279) #[] #[]] w fun e w'=>e=.returned (.tuple #[.int .i64 (i0:Int),.bool fd])/\Below w.heap.size w w':=by
 have HP:=I hp;have FK:=I hB;have HN:=I hp.len;have ux:=I Vj;have xk:=I bK;have rH:=I mj;have sk:=I (fun p=>vU p id);simp only[lJ,Dp]at sk;clear hp hB Vj bK mj;go_in;go_wp2_with fail
 go_loopw [9,10] (fun iv jv wr=>∃i j:Nat,i<=i0/\i0<=j/\j<=n/\iv=.int .i64 (i:Int)/\jv=.int .i64 (j:Int)/\Below w.heap.size w wr) (fun iv jv _=>(RowKit.intOf jv).toNat- (RowKit.intOf iv).toNat)
 case atStart=>exact⟨0,n,by omega,hi,AB,rfl,rfl,AA⟩
 case round=>
  obtain⟨i,j,h1,h2,h3,rfl,rfl,FI⟩:=hrel;obtain⟨wo,rfl⟩:∃wo,wo=wr:=⟨_,rfl⟩;have BL:=I FI;by_cases DG:i<j
  ·obtain⟨h,hh⟩:∃h,h=(i+j)/2:=⟨_,rfl⟩
   have hhn:h<n:=by omega
   have ES:h<l.length:=by rw[HN.out];exact hhn
   obtain⟨b,off,rfl,hb,EO⟩:=(HP.out.below FI FK.out).addr (by omega);obtain⟨c0,c1,c2,c3,c4,c5,c6⟩:=EO h ES;have NK:=ux.out h ES;have I4:=xk.out h ES;generalize l[h]'ES=p at*;have HH:=I hh;have eh:((i:Int)+(j:Int))/2=(h:Int):=by omega
   have tc:=I NK;have Yc:=I I4;clear EO FI hh NK I4;go_wp2_with fail
   refine(sk.out p _).mono ?_;rintro e' w1 ⟨rfl,C6⟩;have UC:=I (BL.out.trans (C6.mono BL.out.size));clear C6;by_cases hl:Ea (pid p) id=true
   ·have u5:=XH.2 hl
    have AIB:h<i0:=by
     rcases Ah h i0 with hx|hx
     ·exact hx
     ·have:=Yc.out hx
      rw[hl]at this;cases this
    generalize Ud (pid p) id=cv at*;clear hl;go_wp2;all_goals first
     |(exfalso;omega)
     |exact⟨⟨h+1,j,by omega,by omega,by omega,by simp,rfl,UC.out⟩,by have:=HH.out;simp[RowKit.intOf];omega⟩
   ·have u5:¬Ud (pid p) id<0:=fun hx=>hl (XH.1 hx)
    have AIB:i0<=h:=by
     rcases Ah h i0 with hx|hx
     ·exact absurd (tc.out hx) hl
     ·exact hx
    generalize Ud (pid p) id=cv at*;clear hl;go_wp2;all_goals first
     |(exfalso;omega)
     |exact⟨⟨i,h,by omega,by omega,by omega,rfl,by simp,UC.out⟩,by have:=HH.out;simp[RowKit.intOf];omega⟩
  ·obtain rfl:i=i0:=by omega
   obtain rfl:j=i:=by omega
   rcases Ah j n with zH|zH
   ·have ES:j<l.length:=by rw[HN.out];exact zH
    obtain⟨b,off,rfl,hb,EO⟩:=(HP.out.below FI FK.out).addr (by omega);obtain⟨c0,c1,c2,c3,c4,c5,c6⟩:=EO j ES;have mj:fd=true↔pid (l[j]'ES)=id:=rH.out.trans ⟨fun⟨_,h⟩=>h,fun h=>⟨ES,h⟩⟩;generalize l[j]'ES=p at*;have hz:fd=(Ud (pid p) id==0):=by
     by_cases he:pid p=id
     ·rw[mj.2 he,Xf.2 he];rfl
     ·have:fd=false:=by cases hq:fd;rfl;exact absurd (mj.1 hq) he
      rw[this];have:¬Ud (pid p) id=0:=fun h=>he (Xf.1 h);simp[this]
    have HZ:=I hz;clear EO FI mj hz;go_wp2_with fail
    refine(sk.out p _).mono ?_;rintro e' w1 ⟨rfl,C6⟩;have UC:=I (BL.out.trans (C6.mono BL.out.size));clear C6;generalize Ud (pid p) id=cv at*;by_cases u5:cv=0
    ·have Fe:fd=true:=by rw[HZ.out,u5];rfl
     subst Fe;go_wp2;refine AF (v:=.tuple #[.int .i64 (j:Int),.bool true]) (by simp[results,results278,go_sem]) rfl ⟨rfl,UC.out⟩
    ·have Fe:fd=false:=by rw[HZ.out];simp[u5]
     subst Fe;have AON:(cv==0)=false:=by simp[u5]
     go_wp2;refine AF (v:=.tuple #[.int .i64 (j:Int),.bool false]) (by simp[results,results278,go_sem]) rfl ⟨rfl,UC.out⟩
   ·have Fe:fd=false:=by
     cases hq:fd
     ·rfl
     ·obtain⟨hj,_⟩:=rH.out.1 hq
      have:=HN.out;omega
    subst Fe;clear FI;go_wp2;refine AF (v:=.tuple #[.int .i64 (j:Int),.bool false]) (by simp[results,results278,go_sem]) rfl ⟨rfl,BL.out⟩
theorem YG(A:Option Addr)(c B n:Nat)(l:List C8)(id:ByteArray)(i0:Nat)(fd:Bool)(hi:i0<=n)(hm:n<=1000)
 (Vj:∀j,(hj:j<l.length)->j<i0->Ea (pid (l[j]'hj)) id=true) (bK:∀j,(hj:j<l.length)->i0<=j->Ea (pid (l[j]'hj)) id=false)
 (mj:fd=true↔ ∃hj:i0<l.length,pid (l[i0]'hj)=id) (w:World) (hp:Dq w B A n l) (hB:B<=w.heap.size):
 Calls prog 245 #[.slice A n c,.string id] w fun e w'=>e=.returned (.tuple #[.int .i64 (i0:Int),.bool fd])/\Below w.heap.size w w':=by
 have HB:=I (ADx A c B n l id i0 fd hi hm Vj bK mj w hp hB);clear Vj bK mj hp;go_in;go_wp2_with fail
 refine HB.out.mono ?_;rintro e' w1 ⟨rfl,C6⟩;have BL:=I C6;clear C6;go_wp2;refine AF (v:=.tuple #[.int .i64 (i0:Int),.bool fd]) (by simp[results,results245,go_sem]) rfl ⟨rfl,BL.out⟩
theorem xS{n k:Nat}(h1:2^k<=n)(h2:n<2^(k+1)):Bt.D6 n=k+1:=by
 have:=Bt.Ya h1;have:=Bt.Ew h2;omega
theorem uR(a:Nat)(h:0<DB a):Bt.D6 a=64+Bt.D6 (DB a).toNat:=by
 have e:(DB a).toNat=a/18446744073709551616:=by unfold DB;omega
 have hp:0<a/18446744073709551616:=by unfold DB at h;omega
 rw[e];obtain⟨s1,s2⟩:=Bt.Hy _ hp;have h1:1<=Bt.D6 (a/18446744073709551616):=by rw[Bt.Hp _ hp];omega
 obtain⟨k,hk⟩:∃k,Bt.D6 (a/18446744073709551616)=k+1:=⟨_,(ATO h1).symm⟩;rw[hk]at s1 s2⊢;rw[Ch]at s1;have e2:2^(64+k)=18446744073709551616*2^k:=by rw[Bg]
 have e3:2^(64+k+1)=18446744073709551616*(2^(k+1)):=by rw[Bv,Bg]
 exact(xS (k:=64+k) (by rw[e2];omega) (by rw[e3];omega)).trans (Bv _ _ _)
theorem uW(a:Nat)(h:DB a<=0):Bt.D6 a=Bt.D6 (DE a).toNat:=by
 have e:(DE a).toNat=a:=by unfold DB at h;unfold DE;omega
 rw[e]
theorem OY(ah al:Int)(a:Nat)(ha:WN ah al a)(w:World):
 Calls prog 89 #[.agg #[.int .u64 ah,.int .u64 al]] w fun e w'=>e=.returned (.int .i64 (Bt.D6 a))/\Below w.heap.size w w':=by
 obtain⟨rfl,rfl,ha⟩:=ha;obtain⟨a1,a2⟩:=Eo a ha;obtain⟨a3,a4⟩:=Fy a;have C6:Lib.bitLen (DB a).toNat=Bt.D6 (DB a).toNat:=Oy _ (by omega);have DK:Lib.bitLen (DE a).toNat=Bt.D6 (DE a).toNat:=Oy _ (by omega);have DT:Lib.bitLen (DB a).toNat<=64:=by rw[C6];exact Bt.Ew (by omega)
 have Ii:=I C6;have Nr:=I DK;clear ha C6 DK;by_cases h:0<DB a
 ·have HH:=I (uR a h)
  go_in;go_wp2_with (go_at_call 165;refine(Tryz.bits_Len64 _ _ a1 a2).mono ?_;rintro e w' ⟨rfl,rfl⟩)
  go_ret;exact⟨D7 (by rw[HH.out,<-Ii.out];simp),AA.alloc AB _⟩
 ·have HH:=I (uW a (by omega))
  go_in;go_wp2_with (go_at_call 165;refine(Tryz.bits_Len64 _ _ a3 a4).mono ?_;rintro e w' ⟨rfl,rfl⟩)
  go_ret;exact⟨D7 (by rw[HH.out,<-Nr.out]),AA.alloc AB _⟩
