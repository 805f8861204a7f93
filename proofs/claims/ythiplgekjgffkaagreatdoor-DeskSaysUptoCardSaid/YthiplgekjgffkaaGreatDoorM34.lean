/- tail -/
import Derived.Test.YthiplgekjgffkaaGreatDoorM25
import Derived.Test.YthiplgekjgffkaaGreatDoorM33
set_option maxRecDepth 100000
set_option maxHeartbeats 99000000
set_option linter.all false
namespace Go.Proofs.YthiplgekjgffkaaGreatDoor
open Go.Proofs.Tryz
open Go.RowKit
theorem AD3(n s q t:Int)(e:Int)(he:Gn n s q=e)(hn:e≠0)(w:World):
 Calls prog 103 #[.agg #[.int .i64 n,.int .i64 s,.int .i64 q],.int .i64 t] w fun e' w'=>e'=.returned (.tuple #[.int .i64 (0),.int .i64 e])/\Below w.heap.size w w':=by
 have HE:=I he;clear he;have E:=I ((AI w).lay #[.int .i64 n,.int .i64 s,.int .i64 q] 96);go_in;go_wp2_with fail
 refine(Mb _ _ _ _ HE.out _).mono ?_;rintro e' w1 ⟨rfl,C6⟩;have E1:=I (E.out.below C6);clear C6;go_wp2;refine AF (v:=.tuple #[.int .i64 (0),.int .i64 e]) (by simp[results,results103,go_sem]<;>omega) rfl ⟨rfl,E1.out.DI⟩
theorem pm(n s q t:Int)(he:Gn n s q=0)(ht:t<0\/1073741824<t)(w:World):
 Calls prog 103 #[.agg #[.int .i64 n,.int .i64 s,.int .i64 q],.int .i64 t] w fun e' w'=>e'=.returned (.tuple #[.int .i64 (0),.int .i64 1])/\Below w.heap.size w w':=by
 have HE:=I he;clear he;have E:=I ((AI w).lay #[.int .i64 n,.int .i64 s,.int .i64 q] 96);go_in;go_wp2_with fail
 refine(Mb _ _ _ _ HE.out _).mono ?_;rintro e' w1 ⟨rfl,C6⟩;have E1:=I (E.out.below C6);clear C6;go_wp2;all_goals first
  |(exfalso;omega)
  |exact AF (v:=.tuple #[.int .i64 (0),.int .i64 1]) (by simp[results,results103,go_sem]<;>omega) rfl ⟨rfl,E1.out.DI⟩
theorem RH{n s q:Int}(he:Gn n s q=0):n<=64/\0<=s/\s<=1073741824/\0<=n*q-s*s/\n*q-s*s<=1152921504606846976:=by
 obtain⟨hA,hB⟩:=Dx he;obtain⟨b1,b2,b3,b4,b5,b6⟩:=hA.bounds;obtain⟨h0,h1,h2,h3,h4,h5⟩:=hA;exact⟨h1,h2,b1,by omega,by omega⟩
