/- Numbers as words, plainl -/
import Derived.Test.YthiplgekjgffkaaGreatDoorM04
import Derived.Lib.ItoaMem
import Derived.Lib.Atoi
set_option maxRecDepth 100000
set_option maxHeartbeats 99000000
set_option linter.all false
namespace Go.Proofs.YthiplgekjgffkaaGreatDoor
open Go.RowKit Go.Lib
def Fi(k:Nat):ByteArray:=⟨(Lib.decDigits k).toArray⟩
def Hw(s:ByteArray):Option Nat:=if s.size<=12 then match Lib.decNat s.data.toList with
 |some k=>if Fi k=s then some k else none
 |none=>none
 else none
theorem PE:∀(l m:List UInt8)(a:Nat),Lib.decFrom a (l++m)=(Lib.decFrom a l).bind fun b=>Lib.decFrom b m
 | [],m,a=>rfl
 |b::l,m,a=>by
  simp only[Cg,Lib.decFrom];cases Lib.digitVal b with
  |none=>rfl
  |some d=>exact PE l m _
theorem S4(d:Nat)(h:d<10):Lib.digitVal (UInt8.ofNat (48+d))=some d:=by
 have e:(UInt8.ofNat (48+d)).toNat=48+d:=by
  rw[UInt8.toNat_ofNat'];omega
 unfold Lib.digitVal;rw[e,AD ⟨by omega,by omega⟩];congr 1;omega
theorem Z9(u:Nat):Lib.decFrom 0 (Lib.decDigits u)=some u:=by
 induction u using Nat.strongRecOn with
 |_ u ih=>
  rw[Lib.decDigits];by_cases h:u<10
  ·rw[dif_pos h]
   simp only[Lib.decFrom];rw[S4 u h];simp
  ·rw[dif_neg h,PE,ih (u/10) (by omega)]
   simp only[Option.bind_some,Lib.decFrom,S4 (u%10) (by omega)];congr 1;omega
theorem sC(u:Nat):Lib.decDigits u≠ []:=by
 rw[Lib.decDigits];split<;>simp
theorem ff(u:Nat):Lib.decNat (Lib.decDigits u)=some u:=by
 unfold Lib.decNat;have:(Lib.decDigits u).isEmpty=false:=by
  cases h:Lib.decDigits u with
  |nil=>exact absurd h (sC u)
  |cons a l=>rfl
 rw[this,AC (by decide),Z9]
theorem decFrom_lt:∀(l:List UInt8)(a k:Nat),Lib.decFrom a l=some k->k<(a+1)*10^l.length
 | [],a,k,h=>by
   simp only[Lib.decFrom,ATH]at h;simp;omega
 |b::l,a,k,h=>by
  simp only[Lib.decFrom]at h;cases hd:Lib.digitVal b with
  |none=>rw[hd]at h;cases h
  |some d=>
   rw[hd]at h;have h9:d<=9:=by
    unfold Lib.digitVal at hd;split at hd
    ·injection hd with hd;omega
    ·cases hd
   have ih:=decFrom_lt l _ k h;have h2:(a*10+d+1)*10^l.length<=((a+1)*10)*10^l.length:=BU _ (by omega);have h3:(a+1)*10^(b::l).length=((a+1)*10)*10^l.length:=by rw[AP,Ar];rw[Bd,AZ (10^l.length) 10]
   omega
theorem Kc{s:ByteArray}{k:Nat}(h:Hw s=some k):s.size<=12/\Fi k=s/\Lib.decNat s.data.toList=some k/\k<1000000000000:=by
 unfold Hw at h;split at h
 ·next h12=>
  cases hd:Lib.decNat s.data.toList with
  |none=>rw[hd]at h;cases h
  |some j=>
   rw[hd]at h;simp only at h;split at h
   ·next e=>
    injection h with h
    subst h;refine⟨h12,e,rfl,?_⟩;have hl:s.data.toList.length=s.size:=by rw[At];rfl
    unfold Lib.decNat at hd;split at hd
    ·cases hd
    ·have:=decFrom_lt _ _ _ hd
     have h2:10^s.data.toList.length<=10^12:=Ax (by decide) (by omega);omega
   ·cases h
 ·cases h
theorem cY{l:List UInt8}{k:Nat}(h:Lib.decNat l=some k):Lib.atoi l=some (k:Int):=by
 unfold Lib.decNat at h;split at h
 ·cases h
 ·next he=>
  cases l with
  |nil=>simp at he
  |cons b r=>
   have hb:Lib.digitVal b≠none:=by
    intro e;simp only[Lib.decFrom,e]at h;cases h
   have h45:(b==45)=false:=by
    rw[CV];intro e;subst e;exact hb rfl
   have h43:(b==43)=false:=by
    rw[CV];intro e;subst e;exact hb rfl
   unfold Lib.atoi;simp only[h45,h43];unfold Lib.decNat;simp[h]
theorem jo(k:Nat):(Fi k).data.toList=Lib.decDigits k:=rfl
theorem wL{l:List UInt8}{k:Nat}(h:Lib.atoi l=some (k:Int)):k<10^l.length:=by
 have main:∀(m:List UInt8)(j:Nat),Lib.decNat m=some j->j<10^m.length:=fun m j hj=>by
  unfold Lib.decNat at hj;split at hj
  ·cases hj
  ·have:=decFrom_lt _ _ _ hj
   omega
 cases l with
 |nil=>cases h
 |cons b r=>
  have hp:10^(b::r).length=10*10^r.length:=by rw[AP,Ar,AZ]
  have h1:1<=10^r.length:=Nat.one_le_pow _ _ (by decide);unfold Lib.atoi at h;simp only at h;split at h
  ·cases hr:Lib.decNat r with
   |none=>rw[hr]at h;cases h
   |some j=>
    rw[hr]at h;simp only[Option.map_some,ATH]at h;omega
  ·split at h
   ·cases hr:Lib.decNat r with
    |none=>rw[hr]at h;cases h
    |some j=>
     rw[hr]at h;simp only[Option.map_some,ATH]at h;have:=main r j hr;omega
   ·cases hr:Lib.decNat (b::r)with
    |none=>rw[hr]at h;cases h
    |some j=>
     rw[hr]at h;simp only[Option.map_some,ATH]at h;have:=main (b::r) j hr;omega
