/- prod -/
import Derived.Test.YthiplgekjgffkaaGreatDoorM24
set_option maxRecDepth 100000
set_option maxHeartbeats 99000000
set_option linter.all false
namespace Go.Proofs.YthiplgekjgffkaaGreatDoor
open Go.Proofs.Tryz
open Go.RowKit
theorem xU(a b:Nat)(ha:a<2^128)(hb:b<2^128)(h1:0<DB a)(h2:0<DB b)(w:World):
 Calls prog 78 #[.agg #[.int .u64 (DB a),.int .u64 (DE a)],.agg #[.int .u64 (DB b),.int .u64 (DE b)]] w fun e w'=>
  e=.returned (.tuple #[.agg #[.int .u64 0,.int .u64 0],.int .i64 2])/\Below w.heap.size w w':=by
 have E:=I ((((AI w).lay #[.int .u64 (DB a),.int .u64 (DE a)] 57).lay #[.int .u64 (DB b),.int .u64 (DE b)] 57).lay #[.int .u64 0,.int .u64 0] 57);obtain⟨a1,a2⟩:=Eo a ha;obtain⟨b1,b2⟩:=Eo b hb;generalize DB a=ah at*;generalize DE a=al at*;generalize DB b=bh at*;generalize DE b=bl at*;clear ha hb;go_in;go_wp2;refine AF (v:=.tuple #[.agg #[.int .u64 0,.int .u64 0],.int .i64 2]) (by simp[results,results78,go_sem]) rfl ⟨rfl,?_⟩;first|exact E.out.DI|exact(E.out.DI.setCell (by simp<;>omega) _).setCell (by simp<;>omega) _
theorem Xs(a b:Nat)(ha:a<2^128)(hb:b<2^128)(w:World):
 Calls prog 78 #[.agg #[.int .u64 (DB a),.int .u64 (DE a)],.agg #[.int .u64 (DB b),.int .u64 (DE b)]] w fun e w'=>
  e=.returned (.tuple #[.agg #[.int .u64 (DB (JE (a*b))),.int .u64 (DE (JE (a*b)))],.int .i64 (NR (a*b))])/\Below w.heap.size w w':=by
 have h3:=(Eo a ha).1;by_cases h1:0<DB a
 ·by_cases h2:0<DB b
  ·have hA:18446744073709551616<=a:=by unfold DB at h1;omega
   have hB:18446744073709551616<=b:=by unfold DB at h2;omega
   have LU:18446744073709551616*18446744073709551616<=a*b:=BR hA hB;have e1:JE (a*b)=0:=AC (by omega);have e2:NR (a*b)=2:=AC (by omega);rw[e1,e2];exact xU a b ha hb h1 h2 w
  ·exact ZG a b ha (by have:=(Eo b hb).1;unfold DB at h2 this;omega) _ _ (.inl ⟨h1,rfl,rfl⟩) w
 ·by_cases h2:0<DB b
  ·have:=ZG b a hb (by unfold DB at h1 h3;omega) _ _ (.inr (.inr ⟨h2,rfl,rfl⟩)) w
   rw[AZ b a]at this;exact this
  ·exact ZG a b ha (by have:=(Eo b hb).1;unfold DB at h2 this;omega) _ _ (.inr (.inl ⟨by omega,rfl,rfl⟩)) w
