/- A text cut at a byte, pl -/
import Derived.Test.YthiplgekjgffkaaGreatDoorM04
import Derived.Lib.SplitLaws
set_option maxRecDepth 100000
set_option maxHeartbeats 99000000
set_option linter.all false
namespace Go.Proofs.YthiplgekjgffkaaGreatDoor
open Go.RowKit Go.Lib
def Jt(c:UInt8):List UInt8->List (List UInt8)
 | []=>[[]]
 |b::l=>if b=c then []::Jt c l else match Jt c l with
  | []=>[[b]]
  |h::t=>(b::h)::t
theorem iG(c:UInt8):∀l:List UInt8,Lib.splitK [c] 0 (Lib.count l [c]) l=Jt c l
 | []=>by rw[Lib.count_miss (by simp[Lib.index])];rfl
 |b::l=>by
  have ih:=iG c l;by_cases h:b=c
  ·subst h
   have hix:Lib.index (b::l) [b]=0:=by rw[Lib.index];simp[List.isPrefixOf]
   rw[Lib.count_cons_eq,ASf];unfold Lib.splitK Jt;rw[hix,AD rfl,AC (by decide),<-ih];simp
  ·have hp:([c]:List UInt8).isPrefixOf (b::l)=false:=by simp[List.isPrefixOf,Ne.symm h]
   have hix:Lib.index (b::l) [c]=if Lib.index l [c]== -1 then-1 else Lib.index l [c]+1:=by rw[Lib.index,hp];simp
   rw[Lib.count_cons_ne b c l h];unfold Jt;rw[AC h,<-ih];have LU:=Lib.index_ge l [c];by_cases hm:Lib.index l [c]= -1
   ·rw[Lib.count_miss hm]
    rfl
   ·obtain⟨j,hj⟩:∃j:Nat,Lib.index l [c]=j:=⟨(Lib.index l [c]).toNat,by omega⟩
    rw[Lib.count_hit (by simp) hj,ASf];unfold Lib.splitK;rw[hix,hj];have e1:(((j:Nat):Int)== -1)=false:=by first|(simp;omega)|simp
    have e2:((((j:Nat):Int)+1)== -1)=false:=by first|(simp;omega)|simp
    have e3:(((j:Nat):Int)+1).toNat=j+1:=by omega
    simp[e1,e2,e3]
theorem NM(c:UInt8)(s:ByteArray):Lib.splitB ⟨#[c]⟩ 0 (Lib.countB s ⟨#[c]⟩) s=(Jt c s.data.toList).map fun l=>(⟨l.toArray⟩:ByteArray):=by
 have h:=Lib.splitB_data ⟨#[c]⟩ 0 (Lib.countB s ⟨#[c]⟩) s;have e:Lib.splitK ([c]:List UInt8) 0 (Lib.countB s ⟨#[c]⟩) s.data.toList=Jt c s.data.toList:=iG c s.data.toList;have h2:(Lib.splitB ⟨#[c]⟩ 0 (Lib.countB s ⟨#[c]⟩) s).map (·.data.toList)=Jt c s.data.toList:=h.trans e;rw[<-h2,AS4];have e3:((fun l=>(⟨l.toArray⟩:ByteArray))∘fun x:ByteArray=>x.data.toList)=id:=by
  funext x
  simp
 rw[e3,List.map_id]
def FT:List (List UInt8×List UInt8):=[([115,117,109],[87,87]),([108,101,115,115],[87,87]),([116,105,109,101,115],[87,87]),([100,105,118],[87,87]),([104,97,108,118,101],[87,87]),([114,111,111,116],[87]),([115,117,109,115],[76]),([109,101,97,110],[76]),([115,112,114,101,97,100],[76]),([114,97,110,107],[76,78,78]),([99,97,110,116,101,108,108,105],[76,78]),([102,97,100,101],[76,78]),([108,101,118,101,108],[76,78,78]),([119,104,101,110],[76,78,78]),([110,111,100,101],[83,78,78,78]),([115,116,97,114,116],[]),([116,105,99,107],[78]),([98,114,105,110,103],[78,78]),([106,111,105,110],[78,83,78]),([108,111,115,101],[78]),([115,116,111,112],[78]),([97,115,107],[78,83]),([119,97,121],[])]
def P6:List UInt8:=[115,117,109,32,87,87,44,108,101,115,115,32,87,87,44,116,105,109,101,115,32,87,87,44,100,105,118,32,87,87,44,104,97,108,118,101,32,87,87,44,114,111,111,116,32,87,44,115,117,109,115,32,76,44,109,101,97,110,32,76,44,115,112,114,101,97,100,32,76,44,114,97,110,107,32,76,78,78,44,99,97,110,116,101,108,108,105,32,76,78,44,102,97,100,101,32,76,78,44,108,101,118,101,108,32,76,78,78,44,119,104,101,110,32,76,78,78,44,110,111,100,101,32,83,78,78,78,44,115,116,97,114,116,32,44,116,105,99,107,32,78,44,98,114,105,110,103,32,78,78,44,106,111,105,110,32,78,83,78,44,108,111,115,101,32,78,44,115,116,111,112,32,78,44,97,115,107,32,78,83,44,119,97,121,32]
theorem aE:Jt 44 P6=FT.map fun p=>p.1++32::p.2:=by decide+kernel
def Ga(c:UInt8):List UInt8->List UInt8×List UInt8×Bool
 | []=>([],[],false)
 |b::l=>if b=c then ([],l,true)else (b::(Ga c l).1,(Ga c l).2)
theorem ZF(c:UInt8):∀l:List UInt8,Lib.cut l [c]=Ga c l
 | []=>by unfold Lib.cut;simp[Lib.index,Ga]
 |b::l=>by
  have ih:=ZF c l;unfold Ga;by_cases h:b=c
  ·subst h
   have hix:Lib.index (b::l) [b]=0:=by rw[Lib.index];simp[List.isPrefixOf]
   unfold Lib.cut;rw[hix,AD rfl];simp
  ·rw[AC h,<-ih]
   have hp:([c]:List UInt8).isPrefixOf (b::l)=false:=by simp[List.isPrefixOf,Ne.symm h]
   have hix:Lib.index (b::l) [c]=if Lib.index l [c]== -1 then-1 else Lib.index l [c]+1:=by rw[Lib.index,hp];simp
   have LU:=Lib.index_ge l [c];unfold Lib.cut;rw[hix];by_cases hm:Lib.index l [c]= -1
   ·rw[hm];simp
   ·obtain⟨j,hj⟩:∃j:Nat,Lib.index l [c]=j:=⟨(Lib.index l [c]).toNat,by omega⟩
    rw[hj];have e1:(((j:Nat):Int)== -1)=false:=by first|(simp;omega)|simp
    have e2:((((j:Nat):Int)+1)== -1)=false:=by first|(simp;omega)|simp
    have e3:(((j:Nat):Int)+1).toNat=j+1:=by omega
    simp[e1,e2,e3];try omega
theorem j5:∀p∈FT,Ga 32 (p.1++32::p.2)=(p.1,p.2,true):=by decide+kernel
def Re(s:List UInt8)(l:List (List UInt8×List UInt8)):List UInt8×Bool:=l.foldl (fun a p=>if p.1=s then (p.2,true)else a) ([],false)
def Md(s:List UInt8):List UInt8×Bool:=Re s FT
theorem ft(s:List UInt8)(j:Nat)(h:j<FT.length):Re s (FT.take (j+1))=if (FT[j]'h).1=s then ((FT[j]'h).2,true)else Re s (FT.take j):=by
 unfold Re;rw[Af h,ASg];rfl
