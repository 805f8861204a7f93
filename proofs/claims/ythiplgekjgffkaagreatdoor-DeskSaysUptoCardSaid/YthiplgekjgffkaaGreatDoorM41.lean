/- slices -/
import Derived.Test.YthiplgekjgffkaaGreatDoorM18
import Derived.Test.YthiplgekjgffkaaGreatDoorM20
import Derived.Lib.SlKeysI
set_option maxRecDepth 100000
set_option maxHeartbeats 99000000
set_option linter.all false
namespace Go.Proofs.YthiplgekjgffkaaGreatDoor
open Go.Proofs.Tryz
open Go.RowKit Go.Shelf Go.Sort
theorem Yt(l:List Int):So.Ik l (l.mergeSort fun x y=>decide (x<=y)):=by
 refine⟨?_,List.mergeSort_perm _ _⟩;have:=List.pairwise_mergeSort (le:=fun x y:Int=>decide (x<=y)) (fun a b c=>by simp;omega) (fun a b=>by simp;omega) l;exact this.imp (by simp)
theorem dX(DC off cap n:Nat)(zs T:List Int)(hT:So.Ik zs T)(hn:zs.length=n)(w:World)(hH:Holds encZ w DC off zs.toArray)(Hh:DC<w.heap.size)(ER:n<=1000000):
 Calls prog 207 #[.slice (some ⟨DC,off,none⟩) n cap] w fun e w'=>
  e=.returned (.tuple #[])/\∃k os,w'=grow (putRow encZ (Sort.ahead w k) DC off T.toArray) os:=by
 subst hn;have e:=So.uniq (Yt zs) hT;rw[<-e];exact Go.Proofs.Tryz.slices_Sort_int DC off cap zs w hH Hh (by omega)
theorem eP(p:Option Addr)(cap:Nat)(w:World):
 Calls prog 207 #[.slice p 0 cap] w fun e w'=>e=.returned (.tuple #[])/\w'=w:=
 Go.Proofs.Tryz.slices_Sort_int_none p cap w
def oE(T:List Int)(n:Nat)(w:World)(e:Ending)(w':World):Prop:=∃A' c',e=.returned (.slice A' n c')/\w'.ownsRow w.heap.size 3 1 (.slice A' n c') n (DF T)/\Below w.heap.size w w'
theorem Zo(Bs n₀ len cap:Nat)(A:Option Addr)(zs T:List Int)(hT:So.Ik zs T)(hz:zs.length=len)(hm:len<=1000000)(w:World)(yZ:Bs<w.heap.size)(yU:n₀<=w.heap.size)
 (hc:w.cell? ⟨Bs,0,none⟩=some (.slice A len cap)) (hI:Reads w n₀ 1 A len (DF zs)):
 Calls prog 170 #[.func (.func 208) #[] #[.pointer (some ⟨Bs,0,none⟩)]] w (oE T len w):=by
 refine(callsIn_wide (n:=6)).1 ?_;have h1:1<=6:=by omega
 have WK:Fence.wide.round=none:=rfl;have HT:=I hT;have CO:=I (YC Fence.wide 5 trivial trivial trivial rfl (by omega) Bs n₀ len cap A zs hz hm _ yZ yU hc hI);clear hT hI hc;refine callsIn_of_wp func170 rfl trivial ?_ WK;simp only[ntmps170,Cv,AP,CZ,Nat.reduceAdd,Nat.reduceSub,AT1,AT2,AT3,AT4,Cm,Cg];have hf1:Fence.wide.fn 206:=trivial;have sy:Fence.wide.fn 207:=trivial
 gi_wp2_with (gi_at_call 206;refine CO.out.mono ?_;rintro e W ⟨v,rfl,Eg,hb⟩)
 rcases Eg.2 with⟨rfl,h0⟩|⟨gb,AEg,cur,rfl,Gk,S0,r1,r2,r3,r4⟩
 ·have Fq:len=0:=by omega
  subst Fq;have Ts:zs=[]:=Bn hz;subst Ts;have tA:T=[]:=Bn (by rw[HT.out.2.length_eq];rfl);subst tA
  gi_wp2_with (gi_at_call 207;refine((callsIn_wide (n:=5)).2 (eP none 0 W)).mono ?_;rintro e w' ⟨rfl,rfl⟩)
  go_ret;exact⟨none,0,rfl,by simpa using Eg,hb⟩
 ·have hH:Holds encZ W gb 0 zs.toArray:=holds_of_block_i S0 (by simpa [DF] using r4)
  have He:gb<W.heap.size:=(ASx.1 S0).1;have HS:=I (dX gb 0 AEg len zs T HT.out hz W hH He hm);have HO:=I (show∀k os,(grow (putRow encZ (Sort.ahead W k) gb 0 T.toArray) os).ownsRow w.heap.size 3 1 (.slice (some ⟨gb,0,none⟩) len AEg) len (DF T)from fun k os=>by
   have:=ownsRow_sorted_i (n:=k) (os:=os) (ss:=zs) (ts:=T) (by rw[HT.out.2.length_eq]) Gk S0 r1 r2 r3;rw[hz]at this;exact this)
  have HB:=I (show∀k os,Below w.heap.size w (grow (putRow encZ (Sort.ahead W k) gb 0 T.toArray) os)from fun k os=>hb.grown (grownBy_sorted_i _) hb.size (fun j hj=>by cases hj;exact Gk));subst hz;clear Eg r1 r2 r3 r4 S0 hH
  gi_wp2_with (gi_at_call 207;refine((callsIn_wide (n:=5)).2 HS.out).mono ?_;rintro e w' ⟨rfl,nn,os,rfl⟩)
  go_ret;exact⟨_,_,rfl,HO.out _ _,HB.out _ _⟩
