/- Sorting, plainly: the so -/
import Derived.Test.YthiplgekjgffkaaGreatDoorM05
set_option maxRecDepth 100000
set_option maxHeartbeats 99000000
set_option linter.all false
namespace Go.Proofs.YthiplgekjgffkaaGreatDoor
open Go.Proofs.Tryz
namespace So
def lt(x y:Int):Bool:=decide (y<x)
def Ik(l T:List Int):Prop:=T.Pairwise (· <= ·)/\T.Perm l
def ins(x:Int):List Int->List Int
 | []=>[x]
 |y::l=>if x<=y then x::y::l else y::ins x l
theorem Zl(x:Int)(l:List Int):(ins x l).Perm (x::l):=by
 induction l with
 |nil=>exact List.Perm.refl _
 |cons y l ih=>
  unfold ins;split
  ·exact List.Perm.refl _
  ·exact(List.Perm.cons y ih).trans (List.Perm.swap x y l)
theorem fB(x:Int)(l:List Int)(h:l.Pairwise (· <= ·)):(ins x l).Pairwise (· <= ·):=by
 induction l with
 |nil=>simp[ins]
 |cons y l ih=>
  rw[AS1]at h;unfold ins;split
  ·rename_i hxy
   rw[AS1];exact⟨fun z hz=>by
    rcases AR.1 hz with rfl|hz
    ·exact hxy
    ·have:=h.1 z hz;omega,AS1.2 h⟩
  ·rename_i hxy
   rw[AS1];refine⟨fun z hz=>?_,ih h.2⟩;rcases AR.1 ((Zl x l).mem_iff.1 hz)with rfl|hz
   ·omega
   ·exact h.1 z hz
def srt:List Int->List Int
 | []=>[]
 |x::l=>ins x (srt l)
theorem gK(l:List Int):Ik l (srt l):=by
 induction l with
 |nil=>exact⟨List.Pairwise.nil,List.Perm.refl _⟩
 |cons x l ih=>exact⟨fB x _ ih.1,(Zl x _).trans (ih.2.cons x)⟩
theorem O2{x:Int}{l:List Int}(h:∀y∈l,x<=y):l.countP (lt x)=0:=by
 rw[List.countP_eq_zero];intro y hy;have:=h y hy;simp[lt];omega
theorem place{T:List Int}(hs:T.Pairwise (· <= ·))(x:Int)(p:Nat):(T.countP (lt x)<=p/\p<T.countP (lt x)+T.count x)↔T[p]? =some x:=by
 induction T generalizing p with
 |nil=>simp
 |cons y T ih=>
  rw[AS1]at hs;have ih':=fun p=>ih hs.2 p;rcases Int.lt_trichotomy y x with h|h|h
  ·have e1:(y::T).countP (lt x)=T.countP (lt x)+1:=List.countP_cons_of_pos (by simp[lt,h])
   have e2:(y::T).count x=T.count x:=AUI (by omega);rw[e1,e2];cases p with
   |zero=>simp;omega
   |succ p=>
    rw[List.getElem?_cons_succ,<-ih' p];omega
  ·subst h
   have e1:(y::T).countP (lt y)=0:=O2 fun z hz=>by
    rcases AR.1 hz with rfl|hz
    ·exact Ct _
    ·exact hs.1 z hz
   have e0:T.countP (lt y)=0:=O2 hs.1;have e2:(y::T).count y=T.count y+1:=AUJ;rw[e1,e2];cases p with
   |zero=>simp
   |succ p=>
    rw[List.getElem?_cons_succ,<-ih' p,e0];omega
  ·have e1:(y::T).countP (lt x)=0:=O2 fun z hz=>by
    rcases AR.1 hz with rfl|hz
    ·omega
    ·have:=hs.1 z hz;omega
   have e3:x∉y::T:=fun hm=>by
    rcases AR.1 hm with e|hm
    ·omega
    ·have:=hs.1 x hm;omega
   rw[e1,List.count_eq_zero.2 e3];constructor
   ·omega
   ·intro hp
    exact absurd (List.mem_of_getElem? hp) e3
theorem occ(x:Int):∀(l:List Int)(m:Nat),m<l.count x->∃j,j<l.length/\l.getD j 0=x/\(l.take j).count x=m
 | [],m,h=>by simp at h
 |y::l,m,h=>by
  by_cases hy:y=x
  ·subst hy
   rw[AUJ]at h;cases m with
   |zero=>exact⟨0,by simp,rfl,rfl⟩
   |succ m=>
    obtain⟨j,h1,h2,h3⟩:=occ y l m (by omega);exact⟨j+1,by simp;omega,by simpa using h2,by simp[h3]⟩
  ·rw[AUI hy]at h
   obtain⟨j,h1,h2,h3⟩:=occ x l m h;exact⟨j+1,by simp;omega,by simpa using h2,by simp[AUI hy,h3]⟩
def rk(l:List Int)(i:Nat):Nat:=l.countP (lt (l.getD i 0))+(l.take i).count (l.getD i 0)
theorem getD_some{l:List Int}{j:Nat}(h:j<l.length):l[j]? =some (l.getD j 0):=by
 simp[List.getD,AU h]
theorem dP{l:List Int}{i:Nat}(h:i<l.length):(l.take i).count (l.getD i 0)<l.count (l.getD i 0):=by
 have e:l=l.take i++l.getD i 0::l.drop (i+1):=by
  have:l[i]::l.drop (i+1)=l.drop i:=List.getElem_cons_drop ..;rw[show l.getD i 0=l[i]by simp[List.getD,AU h],this,List.take_append_drop]
 have e2:l.count (l.getD i 0)=(l.take i++l.getD i 0::l.drop (i+1)).count (l.getD i 0):=Ae (List.count (l.getD i 0)) e;rw[e2,List.count_append,AUJ];omega
theorem gY{l T:List Int}(h:Ik l T){i:Nat}(hi:i<l.length):T[rk l i]? =some (l.getD i 0):=by
 rw[<-place h.1,h.2.countP_eq,h.2.count_eq];have:=dP hi;unfold rk;omega
theorem yR{l T:List Int}(h:Ik l T){i:Nat}(hi:i<l.length):rk l i<l.length:=by
 have:=(CQ.1 (gY h hi)).1
 rwa [h.2.length_eq]at this
theorem ABk{l T:List Int}(h:Ik l T){p:Nat}(hp:p<l.length):∃i,i<l.length/\rk l i=p:=by
 have ZP:p<T.length:=by rwa [h.2.length_eq]
 have h1:=(place h.1 (T.getD p 0) p).2 (getD_some ZP);rw[h.2.countP_eq,h.2.count_eq]at h1;obtain⟨j,a,b,c⟩:=occ (T.getD p 0) l (p-l.countP (lt (T.getD p 0))) (by omega);refine⟨j,a,?_⟩;unfold rk;rw[b,c];omega
theorem done{l T os:List Int}(h:Ik l T)(hl:os.length=l.length)(ho:∀j,j<l.length->os[rk l j]? =T[rk l j]?):os=T:=by
 apply List.ext_getElem?;intro p;by_cases hp:p<l.length
 ·obtain⟨j,hj,rfl⟩:=ABk h hp
  exact ho j hj
 ·rw[ATM (by omega),ATM (by rw[h.2.length_eq];omega)]
def cn(l:List Int)(i k:Nat):Nat:=(l.take k).countP (lt (l.getD i 0))+(l.take (min k i)).count (l.getD i 0)
theorem u4(l:List Int)(i:Nat):cn l i 0=0:=by simp[cn]
theorem ABd{l:List Int}{i:Nat}(h:i<l.length):cn l i l.length=rk l i:=by
 unfold cn rk;rw[Ap,show min l.length i=i by omega]
theorem SL{l:List Int}{k:Nat}(h:k<l.length):l.take (k+1)=l.take k++[l.getD k 0]:=by
 rw[ASy,getD_some h];rfl
theorem wm{l:List Int}{i k:Nat}(hk:k<l.length):
 cn l i (k+1)=cn l i k+(if l.getD k 0<l.getD i 0\/(l.getD k 0=l.getD i 0/\k<i)then 1 else 0):=by
 unfold cn;rw[SL hk,List.countP_append];have e1: [l.getD k 0].countP (lt (l.getD i 0))=if l.getD k 0<l.getD i 0 then 1 else 0:=by
  simp[List.countP_cons,lt]
 rw[e1];by_cases sq:k<i
 ·rw[show min (k+1) i=k+1 by omega,show min k i=k by omega,SL hk,List.count_append]
  by_cases he:l.getD k 0=l.getD i 0
  ·rw[he];simp[sq];omega
  ·have e2: [l.getD k 0].count (l.getD i 0)=0:=by
    rw[List.count_eq_zero];simp;exact fun h=>he h.symm
   rw[e2];by_cases DG:l.getD k 0<l.getD i 0
   ·rw[AD DG,AD (Or.inl DG)];omega
   ·rw[AC DG,AC (fun h=>h.elim DG (fun h=>he h.1))];omega
 ·rw[show min (k+1) i=min k i by omega]
  simp[sq];omega
theorem AEB{l:List Int}{i k:Nat}(hk:k<=l.length):cn l i k<=2*k:=by
 unfold cn;have h1:(l.take k).countP (lt (l.getD i 0))<=k:=AG List.countP_le_length (by rw[AV];omega);have h2:(l.take (min k i)).count (l.getD i 0)<=k:=AG List.count_le_length (by rw[AV];omega);omega
theorem put{l T os:List Int}{i:Nat}(h:Ik l T)(hi:i<l.length)(hl:os.length=l.length)(ho:∀j,j<i->os[rk l j]? =T[rk l j]?):
 ∀j,j<i+1->(os.set (rk l i) (l.getD i 0))[rk l j]? =T[rk l j]? :=by
 intro j hj;have hr:=yR h hi;by_cases e:rk l i=rk l j
 ·rw[<-e,List.getElem?_set_self (by omega),gY h hi]
 ·rw[List.getElem?_set_ne e]
  exact ho j (by
   rcases Ah j i with h|h
   ·exact h
   ·exact absurd (by rw[show j=i by omega]) e)
theorem uniq{l T U:List Int}(h:Ik l T)(k:Ik l U):T=U:=
 (done (os:=T) k (h.2.length_eq) fun j hj=>by rw[gY h hj,gY k hj])
end So
open Go.RowKit
theorem dmC{n vb q r:Nat}(h:n=vb*q+r)(hr:r<vb):n/vb=q/\n%vb=r:=by
 subst h;refine⟨?_,?_⟩
 ·rw[ASc (by omega),Cq hr,AW]
 ·rw[ASv,B8 hr]
theorem uF(h l k:Nat)(hk:k<64)(hl:l<18446744073709551616):
 (h*18446744073709551616+l)/2^k/18446744073709551616=h/2^k/\(h*18446744073709551616+l)/2^k%18446744073709551616=h*2^(64-k)%18446744073709551616+l/2^k/\
 h*2^(64-k)%18446744073709551616%2^(64-k)=0/\l/2^k<2^(64-k):=by
 have e:2^k*2^(64-k)=18446744073709551616:=by rw[<-Bg,show k+(64-k)=64 by omega]
 have hp:0<2^k:=Bi k;have hq:0<2^(64-k):=Bi _;have hy:l/2^k<2^(64-k):=by rw[ASe hp,AZ,e];exact hl
 have e1:(h*18446744073709551616+l)/2^k=h*2^(64-k)+l/2^k:=by
  rw[<-e,ASw,ASc hp]
 have hd:=CM h (2^k);have hm:h%2^k<2^k:=BN _ hp;have e2:h*2^(64-k)=18446744073709551616*(h/2^k)+2^(64-k)*(h%2^k):=by
  rw[<-e,Bd,ASw (2^k),<-BM,hd,AZ]
 have hb:2^(64-k)*(h%2^k)+2^(64-k)<=18446744073709551616:=by
  rw[<-e,<-Nat.mul_succ,AZ (2^k)];exact Bb _ hm
 obtain⟨_,f2⟩:=dmC e2 (by omega);obtain⟨f3,f4⟩:=dmC (n:=h*2^(64-k)+l/2^k) (vb:=18446744073709551616) (q:=h/2^k) (r:=2^(64-k)*(h%2^k)+l/2^k) (by omega) (by omega);rw[e1,f3,f4,f2];exact⟨rfl,rfl,Nat.mul_mod_right _ _,hy⟩
theorem ja(a k:Nat)(ha:a<2^128)(hk:k<64):
 DB a/2^k=DB (a/2^k)/\bits BinOp.or IntKind.u64 (DE a/2^k) (IntKind.u64.wrap (DB a*2^(64-k)))=DE (a/2^k):=by
 have hm:=CM a 18446744073709551616;have hl:a%18446744073709551616<18446744073709551616:=BN _ (by decide);have e:=uF (a/18446744073709551616) (a%18446744073709551616) k hk hl;rw[show a/18446744073709551616*18446744073709551616+a%18446744073709551616=a by omega]at e;obtain⟨e1,e2,e3,e4⟩:=e;unfold DB DE;have c1:((a/18446744073709551616:Nat):Int)*2^(64-k)=((a/18446744073709551616*2^(64-k):Nat):Int):=by simp
 have c2:((a/18446744073709551616:Nat):Int)/2^k=((a/18446744073709551616/2^k:Nat):Int):=by simp
 have c3:((a%18446744073709551616:Nat):Int)/2^k=((a%18446744073709551616/2^k:Nat):Int):=by simp
 have cw:IntKind.u64.wrap ((a/18446744073709551616*2^(64-k):Nat):Int)=((a/18446744073709551616*2^(64-k)%18446744073709551616:Nat):Int):=by rw[CA];omega
 rw[c1,c2,c3,cw,e1,e2];have b1:a%18446744073709551616/2^k<18446744073709551616:=Bk (Bu _ _) hl;refine⟨rfl,?_⟩;rw[u64_or_nat _ _ b1 (BN _ (by decide)),Nat.or_comm,nat_join (64-k) _ _ e3 e4]
theorem Wl(a k:Nat)(ha:a<2^128)(hk:64<=k):0=DB (a/2^k)/\DB a/2^(k- 64)=DE (a/2^k):=by
 have e:2^k=18446744073709551616*2^(k- 64):=by
  have:(18446744073709551616:Nat)=2^64:=by decide
  rw[this,<-Bg,show 64+(k- 64)=k by omega]
 rw[e,<-Nat.div_div_eq_div_mul];have h1:a/18446744073709551616<18446744073709551616:=by omega
 have h2:a/18446744073709551616/2^(k- 64)<18446744073709551616:=Bk (Bu _ _) h1;unfold DB DE;rw[Cq h2,B8 h2];exact⟨rfl,by simp⟩
theorem AFY(ah al n:Int)(h:n<0\/127<n)(w:World):
 Calls prog 90 #[.agg #[.int .u64 ah,.int .u64 al],.int .i64 n] w fun e w'=>e=.returned (.tuple #[.agg #[.int .u64 0,.int .u64 0],.int .i64 1])/\Below w.heap.size w w':=by
 rcases h with h|h
 ·go_in
  go_wp2;refine AF (v:=.tuple #[.agg #[.int .u64 0,.int .u64 0],.int .i64 1]) (by simp[results,results90,go_sem]) rfl ⟨rfl,?_⟩;exact(AA.alloc AB _).alloc (by simp) _
 ·have h':¬n<0:=by omega
  go_in;go_wp2;refine AF (v:=.tuple #[.agg #[.int .u64 0,.int .u64 0],.int .i64 1]) (by simp[results,results90,go_sem]) rfl ⟨rfl,?_⟩;exact(AA.alloc AB _).alloc (by simp) _
theorem vW(ah al:Int)(a:Nat)(n:Int)(ha:WN ah al a)(h0:0<=n)(h1:n<=127)(w:World):
 Calls prog 90 #[.agg #[.int .u64 ah,.int .u64 al],.int .i64 n] w fun e w'=>
  e=.returned (.tuple #[.agg #[.int .u64 (DB (a/2^n.toNat)),.int .u64 (DE (a/2^n.toNat))],.int .i64 0])/\Below w.heap.size w w':=by
 obtain⟨rfl,rfl,ha⟩:=ha;obtain⟨k,rfl⟩:=Bo h0;rw[Bp];obtain⟨a1,a2⟩:=Eo a ha;obtain⟨a3,a4⟩:=Fy a;have HA:=I ha;clear ha;rcases Ah k 64 with hk|hk
 ·obtain⟨u1,u2⟩:=ja a k HA.out hk
  have U1:=I u1;have U2:=I u2;clear u1 u2;go_in;go_wp2;go_region
  go_wp2;rw[U1.out,U2.out];refine AF (v:=.tuple #[.agg #[.int .u64 (DB (a/2^k)),.int .u64 (DE (a/2^k))],.int .i64 0]) (by simp[results,results90,go_sem]) rfl ⟨rfl,?_⟩;exact((AA.alloc AB _).alloc (by simp) _).drew
 ·obtain⟨u1,u2⟩:=Wl a k HA.out hk
  have U1:=I u1;have U2:=I u2;clear u1 u2;go_in;go_wp2;rw[<-U1.out,<-U2.out];refine AF (v:=.tuple #[.agg #[.int .u64 0,.int .u64 (DB a/2^(k- 64))],.int .i64 0]) (by simp[results,results90,go_sem]) rfl ⟨rfl,?_⟩;exact(AA.alloc AB _).alloc (by simp) _
theorem dmB{n vb q r:Nat}(h:n=vb*q+r)(hr:r<vb):n/vb=q/\n%vb=r:=by
 subst h;refine⟨?_,?_⟩
 ·rw[ASc (by omega),Cq hr,AW]
 ·rw[ASv,B8 hr]
theorem pq(k:Nat)(hk:k<=64):2^k*2^(64-k)=18446744073709551616:=by
 rw[<-Bg,show k+(64-k)=64 by omega]
theorem Sg(x k:Nat)(hk:k<=64):x*2^k/18446744073709551616=x/2^(64-k)/\x*2^k%18446744073709551616=2^k*(x%2^(64-k)):=by
 have e:=pq k hk;have hp:0<2^k:=Bi k;rw[<-e,AZ x];exact⟨Nat.mul_div_mul_left _ _ hp,Nat.mul_mod_mul_left _ _ _⟩
theorem ABB(h l k:Nat)(hk:k<64)(hl:l<18446744073709551616):
 ((h*18446744073709551616+l)*2^k%2^128)/18446744073709551616=h*2^k%18446744073709551616+l/2^(64-k)/\
 ((h*18446744073709551616+l)*2^k%2^128)%18446744073709551616=l*2^k%18446744073709551616/\
 h*2^k%18446744073709551616%2^k=0/\l/2^(64-k)<2^k:=by
 have e:=pq k (by omega);obtain⟨s1,s2⟩:=Sg l k (by omega);obtain⟨t1,t2⟩:=Sg h k (by omega);have hy:l/2^(64-k)<2^k:=by
  rw[ASe (Bi _),e];exact hl
 have hq:h%2^(64-k)<2^(64-k):=BN _ (Bi _);have e0:(h*18446744073709551616+l)*2^k=18446744073709551616*(h*2^k)+l*2^k:=by
  rw[BV,AZ h,Bd]
 have e2:(2:Nat)^128=18446744073709551616*18446744073709551616:=by decide
 have e3:(h*18446744073709551616+l)*2^k/18446744073709551616=h*2^k+l/2^(64-k):=by
  rw[e0,ASc (by decide),s1]
 have e4:(h*18446744073709551616+l)*2^k%18446744073709551616=l*2^k%18446744073709551616:=by
  rw[e0,ASv]
 refine⟨?_,?_,?_,hy⟩
 ·rw[e2,Nat.mod_mul_right_div_self,e3]
  have hb:h*2^k%18446744073709551616+l/2^(64-k)<18446744073709551616:=by
   rw[t2];have:2^k*(h%2^(64-k))+2^k<=2^k*2^(64-k):=by
    rw[<-Nat.mul_succ];exact Bb _ hq
   omega
  have hd:=CM (h*2^k) 18446744073709551616;exact(dmB (q:=h*2^k/18446744073709551616) (by omega) hb).2
 ·rw[e2,Nat.mod_mul_right_mod,e4]
 ·rw[t2,Nat.mul_mod_right]
theorem dU(a k:Nat)(hk:64<=k):
 (a*2^k%2^128)/18446744073709551616=(a%18446744073709551616)*2^(k- 64)%18446744073709551616/\(a*2^k%2^128)%18446744073709551616=0:=by
 have e:2^k=2^(k- 64)*18446744073709551616:=by
  have:(18446744073709551616:Nat)=2^64:=by decide
  rw[this,<-Bg,ATO hk]
 have e2:(2:Nat)^128=18446744073709551616*18446744073709551616:=by decide
 rw[e,e2,<-Bd,Nat.mod_mul_right_div_self,Nat.mod_mul_right_mod,Nat.mul_div_cancel _ (by decide)];refine⟨?_,by simp⟩
 conv=>lhs;rw[Nat.mul_mod]
 conv=>rhs;rw[Nat.mul_mod,Nat.mod_mod]
theorem RI(x:Nat):IntKind.u64.wrap (x:Int)=((x%18446744073709551616:Nat):Int):=by rw[CA];omega
theorem pR(a k:Nat)(ha:a<2^128)(hk:k<64):
 bits BinOp.or IntKind.u64 (IntKind.u64.wrap (DB a*2^k)) (DE a/2^(64-k))=DB (a*2^k%2^128)/\IntKind.u64.wrap (DE a*2^k)=DE (a*2^k%2^128):=by
 have hm:=CM a 18446744073709551616;have hl:a%18446744073709551616<18446744073709551616:=BN _ (by decide);have e:=ABB (a/18446744073709551616) (a%18446744073709551616) k hk hl;rw[show a/18446744073709551616*18446744073709551616+a%18446744073709551616=a by omega]at e;obtain⟨e1,e2,e3,e4⟩:=e;unfold DB DE;have c1:((a/18446744073709551616:Nat):Int)*2^k=((a/18446744073709551616*2^k:Nat):Int):=by simp
 have c2:((a%18446744073709551616:Nat):Int)*2^k=((a%18446744073709551616*2^k:Nat):Int):=by simp
 have c3:((a%18446744073709551616:Nat):Int)/2^(64-k)=((a%18446744073709551616/2^(64-k):Nat):Int):=by simp
 rw[c1,c2,c3,RI,RI,e1,e2];have b1:a%18446744073709551616/2^(64-k)<18446744073709551616:=Bk (Bu _ _) hl;refine⟨?_,rfl⟩;rw[u64_or_nat _ _ (BN _ (by decide)) b1,nat_join k _ _ e3 e4]
theorem Ym(a k:Nat)(hk:64<=k):IntKind.u64.wrap (DE a*2^(k- 64))=DB (a*2^k%2^128)/\0=DE (a*2^k%2^128):=by
 obtain⟨e1,e2⟩:=dU a k hk;unfold DB DE;rw[e1,e2];have c2:((a%18446744073709551616:Nat):Int)*2^(k- 64)=((a%18446744073709551616*2^(k- 64):Nat):Int):=by simp
 rw[c2,RI];exact⟨rfl,rfl⟩
theorem iD(ah al:Int)(a:Nat)(n:Int)(ha:WN ah al a)(h0:0<=n)(h1:n<=127)(w:World):
 Calls prog 163 #[.agg #[.int .u64 ah,.int .u64 al],.int .i64 n] w fun e w'=>e=.returned (.agg #[.int .u64 (DB (a*2^n.toNat%2^128)),.int .u64 (DE (a*2^n.toNat%2^128))])/\Below w.heap.size w w':=by
 obtain⟨rfl,rfl,ha⟩:=ha;obtain⟨a1,a2⟩:=Eo a ha;obtain⟨a3,a4⟩:=Fy a;obtain⟨k,rfl⟩:=Bo h0;rw[Bp];have HA:=I ha;clear ha;rcases Ah k 64 with hk|hk
 ·go_in
  go_wp2;go_region
  go_wp2;obtain⟨u1,u2⟩:=pR a k HA.out hk;rw[u1,u2];refine AF (v:=.agg #[.int .u64 (DB (a*2^k%2^128)),.int .u64 (DE (a*2^k%2^128))]) (by simp[results,results163,go_sem]) rfl ⟨rfl,?_⟩;exact((AA.alloc AB _).alloc (by simp) _).drew
 ·go_in
  go_wp2;obtain⟨u1,u2⟩:=Ym a k hk;rw[<-u1,<-u2];refine AF (v:=.agg #[.int .u64 (IntKind.u64.wrap (DE a*2^(k- 64))),.int .u64 0]) (by simp[results,results163,go_sem]) rfl ⟨rfl,?_⟩;exact(AA.alloc AB _).alloc (by simp) _
namespace Lv
def sp(v:Nat)(d:Int):Nat:=if d<=0 then 0 else Nat.log2 ((v+d.toNat*d.toNat)/v)
theorem Z5(v d:Nat)(hv:0<v):Rt.OD (v+d*d) v (Nat.log2 ((v+d*d)/v):Nat):=by
 have hq:1<=(v+d*d)/v:=by rw[ATB hv];omega
 have GI:(v+d*d)/v≠0:=by omega
 refine .inr ⟨_,rfl,hv,?_,?_⟩
 ·have h1:=(Nat.le_log2 GI).1 AB
  have h2:=(ATB hv).1 h1;rw[AZ];exact h2
 ·have h1:=(Nat.log2_lt GI).1 (Nat.lt_succ_self _)
  have h2:=(ASe hv).1 h1;rw[AZ v];exact h2
theorem vT(v:Nat){d e:Int}(h:d<=e):sp v d<=sp v e:=by
 unfold sp;by_cases h0:d<=0
 ·rw[AD h0];exact AM _
 ·rw[AC h0,AC (by omega)]
  have h1:d.toNat<=e.toNat:=by omega
  have h2:=BR h1 h1;have h3:(v+d.toNat*d.toNat)/v<=(v+e.toNat*e.toNat)/v:=Nat.div_le_div_right (by omega);by_cases hz:(v+d.toNat*d.toNat)/v=0
  ·rw[hz];exact AM _
  ·rw[Nat.le_log2 (fun h=>hz (Nat.le_zero.1 (h▸h3)))]
   exact AG ((Nat.le_log2 hz).1 AB) h3
theorem og(v:Nat){d:Int}(h:0<d):sp v d=Nat.log2 ((v+d.toNat*d.toNat)/v):=AC (by omega)
theorem iy(v:Nat){d:Int}(h:d<=0):sp v d=0:=AD h
def YV(v:Nat)(N S s:Int):Nat:=sp v (N*s-S)
theorem qW(v:Nat){N:Int}(S:Int)(h:0<=N){s t:Int}(GR:s<=t):YV v N S s<=YV v N S t:=by
 have:=AUK GR h;exact vT v (by omega)
def Qv(f:Int->Nat)(q t:Int):Prop:=0<=t/\q<=f t/\(t=0\/(f (t- 1):Int)<q)
theorem U7{f:Int->Nat}(hf:∀s t,s<=t->f s<=f t){q t u:Int}(h1:Qv f q t)(h2:Qv f q u):t=u:=by
 obtain⟨a0,a1,a2⟩:=h1;obtain⟨b0,b1,b2⟩:=h2;rcases Int.lt_trichotomy t u with h|h|h
 ·rcases b2 with rfl|b2
  ·omega
  ·have:=hf t (u- 1) (by omega);omega
 ·exact h
 ·rcases a2 with rfl|a2
  ·omega
  ·have:=hf u (t- 1) (by omega);omega
theorem RZ{f:Int->Nat}{q:Int}:∀(n:Nat),q<=f n->∃t,Qv f q t/\t<=n
 |0,h=>⟨0,⟨by omega,h,.inl rfl⟩,by omega⟩
 |n+1,h=>by
  by_cases h1:q<=f n
  ·obtain⟨t,a,b⟩:=RZ n h1
   exact⟨t,a,by omega⟩
  ·exact⟨(n+1:Nat),⟨by omega,h,.inr (by rw[show((n+1:Nat):Int)- 1=n by omega];omega)⟩,by omega⟩
end Lv
theorem ABR(x:Int)(l:List Int):0<=(l.length:Int)*(x*x)- 2*(x*s1 l)+s2 l:=by
 induction l with
 |nil=>simp[s1,s2]
 |cons y l ih=>
  have h:0<=(x-y)*(x-y):=by
   rcases Int.le_total 0 (x-y)with h|h
   ·exact Bq h h
   ·have:=Bq (show 0<= -(x-y)by omega) (show 0<= -(x-y)by omega)
    rwa [Int.neg_mul_neg]at this
  rw[Int.sub_mul,Int.mul_sub,Int.mul_sub,ATV y x]at h;simp only[s1,s2,AP];rw[Int.mul_add x,show((l.length+1:Nat):Int)=l.length+1 by simp,ASj];omega
theorem yz(l:List Int):s1 l*s1 l<=(l.length:Int)*s2 l:=by
 induction l with
 |nil=>simp[s1,s2]
 |cons y l ih=>
  have h:=ABR y l;simp only[s1,s2,AP];have e1:((l.length:Int)+1)*(s2 l+y*y)=l.length*s2 l+l.length*(y*y)+(s2 l+y*y):=by rw[ASj,Int.mul_add,Int.one_mul]
  have e2:(s1 l+y)*(s1 l+y)=s1 l*s1 l+y*s1 l+(y*s1 l+y*y):=by rw[Int.mul_add,ASj,ASj,ATV (s1 l) y]
  rw[show((l.length+1:Nat):Int)=l.length+1 by simp,e1,e2];omega
theorem we(l:List Int)(h:l.any IM=false):s1 l<=s2 l/\s2 l<=s1 l*16777216:=by
 induction l with
 |nil=>simp[s1,s2]
 |cons x l ih=>
  simp only[ATF,ATm]at h;obtain⟨i0,i1⟩:=ih h.2;have hx:wi x 0 16777216=true:=by have:=h.1;unfold IM at this;simpa using this
  obtain⟨x0,x1⟩:=DW.1 hx;have y1:=AUK x1 x0;have y0:x<=x*x:=by
   by_cases hz:x=0
   ·subst hz;simp
   ·have:=AUK (show 1<=x by omega) x0
    omega
  simp only[s1,s2];omega
theorem IZ(l:List Int)(h:EZ l=0):Gn l.length (s1 l) (s2 l)=0:=by
 obtain⟨MH,ho⟩:=Dk h;obtain⟨a,b,c,d⟩:=rX l ho;obtain⟨e,f⟩:=we l ho;have g:=yz l;unfold Gn;rw[AD ⟨by omega,by omega,a,b,e,f⟩,AC (by omega)]
def cQ(N least:Int):Int:=N*least*(N*least)
def Pw(N S Q least:Int):Int:=if N*Q-S*S<cQ N least then cQ N least else N*Q-S*S
theorem zF(N least:Int):N*N*least*least=cQ N least:=by
 unfold cQ;rw[ATq N N least,ATq,ATq N least (N*least),Int.mul_left_comm least N least,ATq N least least]
theorem sR{N S Q least:Int}(hs:Gn N S Q=0)(hN:1<=N)(h0:1<=least)(h1:least<=16777216):
 N<=64/\0<=S/\S<=1073741824/\0<=N*Q-S*S/\N*Q-S*S<=1152921504606846976/\1<=cQ N least/\cQ N least<=1152921504606846976/\1<=Pw N S Q least/\Pw N S Q least<=1152921504606846976/\
 N*least<=1073741824/\1<=N*least/\N*N<=4096/\1<=N*N/\N*N*least<=68719476736/\1<=N*N*least/\0<=N*Q/\N*Q<=1152921504606846976/\0<=S*S/\S*S<=1152921504606846976:=by
 obtain⟨⟨b0,b1,b2,b3,b4,b5⟩,b6⟩:=Dx hs;obtain⟨c1,c2,c3,c4,c5,c6⟩:=JA.bounds (n:=N) (s:=S) (q:=Q) ⟨b0,b1,b2,b3,b4,b5⟩;have e1:=BT b1 h1 (by omega) (by omega:(0:Int)<=64);have e2:=BT hN h0 (by omega) (by omega:(0:Int)<=N);have e3:cQ N least<=1073741824*1073741824:=BT e1 e1 (by omega) (by omega);have e4:1*1<=cQ N least:=BT (by omega) (by omega) (by omega) (by omega);have e5:=BT b1 b1 b0 (by omega:(0:Int)<=64);have e6:=BT hN hN (by omega) b0;have e7:=BT e5 h1 (by omega) (by omega);have e8:=BT e6 h0 (by omega) (by omega);have e9:1<=Pw N S Q least/\Pw N S Q least<=1152921504606846976:=by unfold Pw;split<;>omega
 refine⟨b1,b2,c1,by omega,by omega,by omega,by omega,e9.1,e9.2,by omega,by omega,by omega,by omega,by omega,by omega,c3,c4,c5,c6⟩
def KC(cap least:Int)(l:List Int):Int:=if Ih cap l=0 then (if wi least 1 16777216=true then (if l.length=0 then 4 else 0)else 1)else Ih cap l
theorem QV{cap least:Int}{l:List Int}(h:KC cap least l=0):Ih cap l=0/\1<=least/\least<=16777216/\1<=l.length:=by
 unfold KC at h;split at h
 ·rename_i h1
  split at h
  ·rename_i h2
   obtain⟨a,b⟩:=DW.1 h2;split at h
   ·simp at h
   ·exact⟨h1,a,b,by omega⟩
  ·simp at h
 ·contradiction
open Go.RowKit
def Qt(l:List Int)(b:Nat)(w:World)(e:Ending)(w':World):Prop:=∃A c,e=.returned (.slice A l.length c)/\w'.ownsRow b 3 1 (.slice A l.length c) l.length (DF l)/\Below w.heap.size w w'
theorem PI(w:World)(t:TypeId)(x:Int):Reads (w.alloc (.cells #[.int .i64 x] t)) (w.heap.size+1) 1 (some ⟨w.heap.size,0,none⟩) 1 (DF [x]):=
 ⟨rfl,fun _=>⟨_,rfl,by simp,fun j u hj=>by
   match j,hj with
   |0,hj=>simp[DF]at hj;subst hj;exact(DJ.new w t #[.int .i64 x]).cell 0⟩⟩
def KD(w:World)(a:Addr):Value:=(w.cell? a).getD undef
def Core(w0:World)(b0:Nat)(a:Addr)(u:Value)(g:Nat)(t:TypeId)(w':World):Prop:=
 Below w0.heap.size w0 w'/\b0<=w'.heap.size/\w'.cell? a=some u/\∃cs,cs.size=2/\DJ w' g t cs
section
variable{w0 w' GQ:World}{b0 g:Nat}{a:Addr}{u:Value}{t:TypeId}
theorem Core.next(h:Core w0 b0 a u g t w')(h0:w0.heap.size<=b0)(ha:a.block<b0)(hg:g<b0)(hb:Below b0 w' GQ):Core w0 b0 a u g t GQ:=by
 obtain⟨h1,h2,h3,cs,h4,h5⟩:=h;exact⟨h1.trans (hb.mono h0),AG h2 hb.size,(hb.cell ha).trans h3,cs,h4,h5.below hb hg⟩
theorem Core.De(h:Core w0 b0 a u g t w')(yW:w0.heap.size<=g)(ha:a.block≠g)(i:Nat)(v:Value):Core w0 b0 a u g t (w'.setCell ⟨g,i,none⟩ v):=by
 obtain⟨h1,h2,h3,cs,h4,h5⟩:=h;exact⟨h1.setCell yW _,by simpa using h2,(ATG w' ⟨g,i,none⟩ a v (fun e=>ha (by rw[<-e]))).trans h3,_,by simpa using h4,h5.De i v⟩
theorem Core.facts(h:Core w0 b0 a u g t w'):Core w0 b0 a u g t w'/\w'.cell? a=some u/\w'.cell? ⟨g,0,none⟩=some (KD w' ⟨g,0,none⟩)/\w'.cell? ⟨g,1,none⟩=some (KD w' ⟨g,1,none⟩)/\w'.frozen? ⟨g,0,none⟩=false/\w'.frozen? ⟨g,1,none⟩=false:=by
 have h':=h;obtain⟨h1,h2,h3,cs,h4,h5⟩:=h;have e0:w'.cell? ⟨g,0,none⟩=some (cs[0]'(by omega)):=(h5.cell 0).trans (by simp[h4]);have e1:w'.cell? ⟨g,1,none⟩=some (cs[1]'(by omega)):=(h5.cell 1).trans (by simp[h4]);exact⟨h',h3,by unfold KD;rw[e0];rfl,by unfold KD;rw[e1];rfl,h5.frozen 0,h5.frozen 1⟩
end
theorem I7(x:Int)(b:Bool)(h:wi x 0 16777216=b)(w:World):
 Calls prog 205 #[.int .i64 x] w fun e w'=>e=.returned (.bool b)/\w=w':=by
 subst h;exact Ui x w
def dR(cap:Int)(l:List Int)(n:Nat)(w:World)(e:Ending)(w':World):Prop:=
 ∃A c,e=.returned (.tuple #[.agg #[.int .i64 cap,.slice A n c],.int .i64 0])/\w'.ownsRow w.heap.size 3 1 (.slice A n c) n (DF l)/\Below w.heap.size w w'
theorem lG(cap x:Int)(A:Option Addr)(c B n:Nat)(l:List Int)(hn:l.length=n)(hc:n<=c)(hm:c<=maxLen)(Jq:Ih cap l=0)(DG:(n:Int)<cap)(hx:wi x 0 16777216=true)(w:World)(hr:Reads w B 1 A n (DF l))(hB:B<=w.heap.size):
 Calls prog 254 #[.agg #[.int .i64 cap,.slice A n c],.int .i64 x] w (dR cap (l++[x]) (n+1) w):=by
 obtain⟨i0,hi,Fq,FZ,Fe⟩:=AO Jo;obtain⟨c0,c1,c2,c3⟩:=GZ Jq;have MH:n<=64:=by omega
 have HN:=I hn;have HE:=I Jq;have HR:=I hr;have HB:=I hB;have HX:=I hx;have GI:((n:Int)==cap)=false:=by simp;omega
 have E:=I (((AI w).lay #[.int .i64 cap,.slice A n c] 148).lay #[.int .i64 0,.slice none 0 0] 148);clear hn hr hB Jq c3 hx;go_in;go_wp2_with fail
 refine(Lj cap A c B n l HN.out 0 HE.out (by omega) _ (HR.out.below E.out.DI HB.out) (AG HB.out E.out.DI.size)).mono ?_;rintro e' w1 ⟨rfl,C6⟩;have E1:=I (E.out.below C6);clear C6;have p0:=E1.out.hd.lt;have b0:=E1.out.hd.cell 0;have b1:=E1.out.hd.cell 1;have f0:=E1.out.hd.frozen 0;have f1:=E1.out.hd.frozen 1;have a0:=E1.out.tl.hd.cell 0;have a1:=E1.out.tl.hd.cell 1;simp at a0 a1 b0 b1 p0 f0 f1;go_wp2_with (go_at_call 205;refine(I7 _ true HX.out _).mono ?_;rintro e' w' ⟨rfl,rfl⟩)
 have P7:=I (show∀w',Core w w1.heap.size ⟨w.heap.size,0,none⟩ (.int .i64 cap) (w.heap.size+1) 148 w'->Calls prog 231 #[.slice A n c] w' (Qt l w1.heap.size w')
  from fun w' hb=>(MX A c B n l HN.out (by omega) w' (HR.out.below hb.1 HB.out) (AG HB.out hb.1.size)).mono fun e GQ ⟨A2,c2,h1,h2,h3⟩=>⟨A2,c2,h1,DX h2 hb.2.1,h3⟩)
 have Pi:=I (fun w'=>PI w' 3 x);have Pb:=I (JD [x]);have HL:=I (show l.length=n from HN.out);have Ko:=I (show∀w' GQ,Core w w1.heap.size ⟨w.heap.size,0,none⟩ (.int .i64 cap) (w.heap.size+1) 148 w'->Below w1.heap.size w' GQ->Core w w1.heap.size ⟨w.heap.size,0,none⟩ (.int .i64 cap) (w.heap.size+1) 148 GQ from fun w' GQ h hb=>h.next (by omega) (by simp;omega) (by omega) hb);have GB:=I (show∀w' i v,Core w w1.heap.size ⟨w.heap.size,0,none⟩ (.int .i64 cap) (w.heap.size+1) 148 w'->Core w w1.heap.size ⟨w.heap.size,0,none⟩ (.int .i64 cap) (w.heap.size+1) 148 (w'.setCell ⟨w.heap.size+1,i,none⟩ v)from fun w' i v h=>h.De (by omega) (by simp) i v);have HC0:=I (show Core w w1.heap.size ⟨w.heap.size,0,none⟩ (.int .i64 cap) (w.heap.size+1) 148 w1 from⟨E1.out.DI,AB,a0,_,rfl,by simpa using E1.out.hd⟩)
 clear a0 a1 b0 b1 f0 f1;go_region_held3 (fun w'=>Core w w1.heap.size ⟨w.heap.size,0,none⟩ (.int .i64 cap) (w.heap.size+1) 148 w'/\w'.cell? ⟨w.heap.size,0,none⟩=some (.int .i64 cap)/\w'.cell? ⟨w.heap.size+1,0,none⟩=some (KD w' ⟨w.heap.size+1,0,none⟩)/\w'.cell? ⟨w.heap.size+1,1,none⟩=some (KD w' ⟨w.heap.size+1,1,none⟩)/\w'.frozen? ⟨w.heap.size+1,0,none⟩=false/\w'.frozen? ⟨w.heap.size+1,1,none⟩=false)
  ((refine Core.facts ?_;first|exact Ko.out _ _ HC0.out AA.drew|exact GB.out _ _ _ (GB.out _ _ _ (AK (by assumption)))|exact Ko.out _ _ (AK (by assumption)) (Cl EL (AK (CR (AK (by assumption)))))|exact Ko.out _ _ (AK (by assumption)) Ei|exact Ko.out _ _ (AK (by assumption)) (AA.alloc (AK (CR (AK (by assumption)))) _)))
  (first
    |(go_at_call 231;refine(P7.out _ (by exact AK (by assumption))).mono ?_;rintro e' w4 ⟨A4,c4,rfl,JP,EL⟩)
    |((refine FE (by rfl) _ _ _ (by rfl) w1.heap.size 3 i0 (.int .i64 0) 1 8 underlying53 hi Fq FZ Fe rfl (by decide) _ _ _ (by rfl) (JP.alloc _) _ _ _ _ _ (by rfl) (Pi.out _) Pb.out (by unfold maxLen;have:=HL.out;omega) (by have:=HL.out;omega) (by exact AK (CR (AK (by assumption)))) ?_;intro v9 w9 Db Ei;obtain⟨A9,c9,rfl⟩:=Cz Db;have JH:=Ko.out _ _ (AK (by assumption)) Ei))
    |((refine FE (by rfl) _ _ _ (by rfl) w1.heap.size 3 i0 (.int .i64 0) 1 8 underlying53 hi Fq FZ Fe rfl (by decide) _ _ _ (by rfl) JP _ _ _ _ _ (by rfl) ((Pi.out _).drew.below EL (by simp)) Pb.out (by unfold maxLen;have:=HL.out;omega) (by have:=HL.out;omega) (by exact AK (CR (AK (by assumption)))) ?_;intro v9 w9 Db Ei;obtain⟨A9,c9,rfl⟩:=Cz Db;have JH:=Ko.out _ _ (AK (by assumption)) Ei)))
 all_goals
  rename_i hheld;have Wf:w9.cell? ⟨w.heap.size+1,0,none⟩=some (KD w9 ⟨w.heap.size+1,0,none⟩):=(Core.facts JH).2.2.1;have Qi:w9.cell? ⟨w.heap.size+1,1,none⟩=some (KD w9 ⟨w.heap.size+1,1,none⟩):=(Core.facts JH).2.2.2.1;have DY:=hheld.1.1;have Un:=I DY;have HO9:=I Db;clear hheld Db DY JH;go_wp2;refine AF (v:=.tuple #[.agg #[.int .i64 cap,.slice A9 (l.length+1) c9],.int .i64 0]) (by simp[results,results254,go_sem,Wf,Qi]) rfl ?_;have h9:=DX (DV (DV HO9.out (a:=⟨w.heap.size+1,0,none⟩) (by simp;omega) (.int .i64 cap)) (a:=⟨w.heap.size+1,1,none⟩) (by simp;omega) (.slice A9 (l.length+1) c9)) (by omega:w.heap.size<=w1.heap.size)
  refine⟨A9,c9,by rw[HL.out],?_,Un.out⟩;have e:DF (l++[x])=DF l++DF [x]:=by simp[DF]
  rw[HL.out]at h9⊢;rw[e];exact h9
theorem lS(x y:Int)(A:Option Addr)(B m d:Nat)(l:List Int)(hn:l.length=m)(hd:1<=d)(hc:m<=d)(hm:d+1<=maxLen)(Jq:Ih ((m:Int)+1) (y::l)=0)(hx:wi x 0 16777216=true)(w:World)(hr:Reads w B 1 A (m+1) (DF (y::l)))(hB:B<=w.heap.size):
 Calls prog 254 #[.agg #[.int .i64 ((m:Int)+1),.slice A (m+1) (d+1)],.int .i64 x] w (dR ((m:Int)+1) (l++[x]) (m+1) w):=by
 obtain⟨i0,hi,Fq,FZ,Fe⟩:=AO Jo;obtain⟨c0,c1,c2,c3⟩:=GZ Jq;obtain⟨g0,off,rfl,hg,EC⟩:=hr.addr (by omega);have MH:m<=64:=by omega
 have HN:=I hn;have HE:=I Jq;have S2:∀A',(m=0\/A'=some ⟨g0,off+1,none⟩)->Reads w B 1 A' m (DF l):=by
  rintro A' h;refine⟨by simp[DF,hn],fun J0=>?_⟩;rcases h with h|rfl
  ·omega
  ·refine⟨_,rfl,hg,fun j u hu=>?_⟩
   have:=EC (j+1) u (by simpa [DF] using hu);by_cases hj:j=0
   ·subst hj;simpa [Addr.add] using this
   ·simpa [Addr.add,hj,Bv,ASf 1] using this
 have HR0:=I hr;have HR:=I (S2 (some ⟨g0,off+1,none⟩) (.inr rfl));have HB:=I hB;have HX:=I hx;have GI:((m:Int)+1==(m:Int)+1)=true:=by simp
 have GV:¬((d:Int)+1=1):=by omega
 have E:=I (((AI w).lay #[.int .i64 ((m:Int)+1),.slice (some ⟨g0,off,none⟩) (m+1) (d+1)] 148).lay #[.int .i64 0,.slice none 0 0] 148);clear hr hB Jq c3 hx hg EC S2;have HN':=I (show(y::l).length=m+1 by simp[hn]);clear hn;go_in;go_wp2_with fail
 refine(Lj ((m:Int)+1) _ _ B _ (y::l) HN'.out 0 HE.out (by unfold maxLen;omega) _ (HR0.out.below E.out.DI HB.out) (AG HB.out E.out.DI.size)).mono ?_;rintro e' w1 ⟨rfl,C6⟩;have E1:=I (E.out.below C6);clear C6;have p0:=E1.out.hd.lt;have b0:=E1.out.hd.cell 0;have b1:=E1.out.hd.cell 1;have f0:=E1.out.hd.frozen 0;have f1:=E1.out.hd.frozen 1;have a0:=E1.out.tl.hd.cell 0;have a1:=E1.out.tl.hd.cell 1;simp at a0 a1 b0 b1 p0 f0 f1;go_wp2_with (go_at_call 205;refine(I7 _ true HX.out _).mono ?_;rintro e' w' ⟨rfl,rfl⟩)
 have P7:=I (show∀w',Core w w1.heap.size ⟨w.heap.size,0,none⟩ (.int .i64 ((m:Int)+1)) (w.heap.size+1) 148 w'->Calls prog 231 #[.slice (some ⟨g0,off+1,none⟩) m d] w' (Qt l w1.heap.size w')
  from fun w' hb=>(MX _ _ B m l HN.out (by omega) w' (HR.out.below hb.1 HB.out) (AG HB.out hb.1.size)).mono fun e GQ ⟨A2,c2,h1,h2,h3⟩=>⟨A2,c2,h1,DX h2 hb.2.1,h3⟩)
 have Pi:=I (fun w'=>PI w' 3 x);have Pb:=I (JD [x]);have HL:=I (show l.length=m from HN.out);have Ko:=I (show∀w' GQ,Core w w1.heap.size ⟨w.heap.size,0,none⟩ (.int .i64 ((m:Int)+1)) (w.heap.size+1) 148 w'->Below w1.heap.size w' GQ->Core w w1.heap.size ⟨w.heap.size,0,none⟩ (.int .i64 ((m:Int)+1)) (w.heap.size+1) 148 GQ from fun w' GQ h hb=>h.next (by omega) (by simp;omega) (by omega) hb);have GB:=I (show∀w' i v,Core w w1.heap.size ⟨w.heap.size,0,none⟩ (.int .i64 ((m:Int)+1)) (w.heap.size+1) 148 w'->Core w w1.heap.size ⟨w.heap.size,0,none⟩ (.int .i64 ((m:Int)+1)) (w.heap.size+1) 148 (w'.setCell ⟨w.heap.size+1,i,none⟩ v)from fun w' i v h=>h.De (by omega) (by simp) i v)
 have HC0:=I (show Core w w1.heap.size ⟨w.heap.size,0,none⟩ (.int .i64 ((m:Int)+1)) (w.heap.size+1) 148 w1 from⟨E1.out.DI,AB,a0,_,rfl,by simpa using E1.out.hd⟩);clear a0 a1 b0 b1 f0 f1;go_region_held3 (fun w'=>Core w w1.heap.size ⟨w.heap.size,0,none⟩ (.int .i64 ((m:Int)+1)) (w.heap.size+1) 148 w'/\w'.cell? ⟨w.heap.size,0,none⟩=some (.int .i64 ((m:Int)+1))/\w'.cell? ⟨w.heap.size+1,0,none⟩=some (KD w' ⟨w.heap.size+1,0,none⟩)/\w'.cell? ⟨w.heap.size+1,1,none⟩=some (KD w' ⟨w.heap.size+1,1,none⟩)/\w'.frozen? ⟨w.heap.size+1,0,none⟩=false/\w'.frozen? ⟨w.heap.size+1,1,none⟩=false)
  ((refine Core.facts ?_;first|exact Ko.out _ _ HC0.out AA.drew|exact GB.out _ _ _ (GB.out _ _ _ (AK (by assumption)))|exact Ko.out _ _ (AK (by assumption)) (Cl EL (AK (CR (AK (by assumption)))))|exact Ko.out _ _ (AK (by assumption)) Ei|exact Ko.out _ _ (AK (by assumption)) (AA.alloc (AK (CR (AK (by assumption)))) _)))
  (first
    |(go_at_call 231;refine(P7.out _ (by exact AK (by assumption))).mono ?_;rintro e' w4 ⟨A4,c4,rfl,JP,EL⟩)
    |((refine FE (by rfl) _ _ _ (by rfl) w1.heap.size 3 i0 (.int .i64 0) 1 8 underlying53 hi Fq FZ Fe rfl (by decide) _ _ _ (by rfl) (JP.alloc _) _ _ _ _ _ (by rfl) (Pi.out _) Pb.out (by unfold maxLen;have:=HL.out;omega) (by have:=HL.out;omega) (by exact AK (CR (AK (by assumption)))) ?_;intro v9 w9 Db Ei;obtain⟨A9,c9,rfl⟩:=Cz Db;have JH:=Ko.out _ _ (AK (by assumption)) Ei))
    |((refine FE (by rfl) _ _ _ (by rfl) w1.heap.size 3 i0 (.int .i64 0) 1 8 underlying53 hi Fq FZ Fe rfl (by decide) _ _ _ (by rfl) JP _ _ _ _ _ (by rfl) ((Pi.out _).drew.below EL (by simp)) Pb.out (by unfold maxLen;have:=HL.out;omega) (by have:=HL.out;omega) (by exact AK (CR (AK (by assumption)))) ?_;intro v9 w9 Db Ei;obtain⟨A9,c9,rfl⟩:=Cz Db;have JH:=Ko.out _ _ (AK (by assumption)) Ei)))
 all_goals
  rename_i hheld;have Wf:w9.cell? ⟨w.heap.size+1,0,none⟩=some (KD w9 ⟨w.heap.size+1,0,none⟩):=(Core.facts JH).2.2.1;have Qi:w9.cell? ⟨w.heap.size+1,1,none⟩=some (KD w9 ⟨w.heap.size+1,1,none⟩):=(Core.facts JH).2.2.2.1;have DY:=hheld.1.1;have Un:=I DY;have HO9:=I Db;clear hheld Db DY JH;go_wp2;refine AF (v:=.tuple #[.agg #[.int .i64 ((m:Int)+1),.slice A9 (l.length+1) c9],.int .i64 0]) (by simp[results,results254,go_sem,Wf,Qi]) rfl ?_;have h9:=DX (DV (DV HO9.out (a:=⟨w.heap.size+1,0,none⟩) (by simp;omega) (.int .i64 ((m:Int)+1))) (a:=⟨w.heap.size+1,1,none⟩) (by simp;omega) (.slice A9 (l.length+1) c9)) (by omega:w.heap.size<=w1.heap.size)
  refine⟨A9,c9,by rw[HL.out],?_,Un.out⟩;have e:DF (l++[x])=DF l++DF [x]:=by simp[DF]
  rw[HL.out]at h9⊢;rw[e];exact h9
theorem fl(x y:Int)(A:Option Addr)(B:Nat)(l:List Int)(hn:l.length=0)(Jq:Ih (1) (y::l)=0)(hx:wi x 0 16777216=true)(w:World)(hr:Reads w B 1 A (0+1) (DF (y::l)))(hB:B<=w.heap.size):
 Calls prog 254 #[.agg #[.int .i64 (1),.slice A (0+1) (0+1)],.int .i64 x] w (dR (1) (l++[x]) (0+1) w):=by
 obtain⟨i0,hi,Fq,FZ,Fe⟩:=AO Jo;obtain⟨c0,c1,c2,c3⟩:=GZ Jq;obtain⟨g0,off,rfl,hg,EC⟩:=hr.addr (by omega);have MH:0<=64:=by omega
 have HN:=I hn;have HE:=I Jq;have S2:∀A',(0=0\/A'=some ⟨g0,off+1,none⟩)->Reads w B 1 A' 0 (DF l):=by
  rintro A' h;refine⟨by simp[DF,hn],fun J0=>?_⟩;rcases h with h|rfl
  ·omega
  ·refine⟨_,rfl,hg,fun j u hu=>?_⟩
   have:=EC (j+1) u (by simpa [DF] using hu);by_cases hj:j=0
   ·subst hj;simpa [Addr.add] using this
   ·simpa [Addr.add,hj,Bv,ASf 1] using this
 have HR0:=I hr;have HR:=I (S2 (some ⟨g0,off,none⟩) (.inl rfl));have HB:=I hB;have HX:=I hx;have E:=I (((AI w).lay #[.int .i64 1,.slice (some ⟨g0,off,none⟩) 1 1] 148).lay #[.int .i64 0,.slice none 0 0] 148);clear hr hB Jq c3 hx hg EC S2;have HN':=I (show(y::l).length=0+1 by simp[hn]);clear hn;go_in;go_wp2_with fail
 refine(Lj 1 _ _ B _ (y::l) HN'.out 0 HE.out (by unfold maxLen;omega) _ (HR0.out.below E.out.DI HB.out) (AG HB.out E.out.DI.size)).mono ?_;rintro e' w1 ⟨rfl,C6⟩;have E1:=I (E.out.below C6);clear C6;have p0:=E1.out.hd.lt;have b0:=E1.out.hd.cell 0;have b1:=E1.out.hd.cell 1;have f0:=E1.out.hd.frozen 0;have f1:=E1.out.hd.frozen 1;have a0:=E1.out.tl.hd.cell 0;have a1:=E1.out.tl.hd.cell 1;simp at a0 a1 b0 b1 p0 f0 f1;go_wp2_with (go_at_call 205;refine(I7 _ true HX.out _).mono ?_;rintro e' w' ⟨rfl,rfl⟩)
 have P7:=I (show∀w',Core w w1.heap.size ⟨w.heap.size,0,none⟩ (.int .i64 1) (w.heap.size+1) 148 w'->Calls prog 231 #[.slice (some ⟨g0,off,none⟩) 0 0] w' (Qt l w1.heap.size w')
  from fun w' hb=>(MX _ _ B 0 l HN.out (by omega) w' (HR.out.below hb.1 HB.out) (AG HB.out hb.1.size)).mono fun e GQ ⟨A2,c2,h1,h2,h3⟩=>⟨A2,c2,h1,DX h2 hb.2.1,h3⟩)
 have Pi:=I (fun w'=>PI w' 3 x);have Pb:=I (JD [x]);have HL:=I (show l.length=0 from HN.out);have Ko:=I (show∀w' GQ,Core w w1.heap.size ⟨w.heap.size,0,none⟩ (.int .i64 1) (w.heap.size+1) 148 w'->Below w1.heap.size w' GQ->Core w w1.heap.size ⟨w.heap.size,0,none⟩ (.int .i64 1) (w.heap.size+1) 148 GQ from fun w' GQ h hb=>h.next (by omega) (by simp;omega) (by omega) hb);have GB:=I (show∀w' i v,Core w w1.heap.size ⟨w.heap.size,0,none⟩ (.int .i64 1) (w.heap.size+1) 148 w'->Core w w1.heap.size ⟨w.heap.size,0,none⟩ (.int .i64 1) (w.heap.size+1) 148 (w'.setCell ⟨w.heap.size+1,i,none⟩ v)from fun w' i v h=>h.De (by omega) (by simp) i v);have HC0:=I (show Core w w1.heap.size ⟨w.heap.size,0,none⟩ (.int .i64 1) (w.heap.size+1) 148 w1 from⟨E1.out.DI,AB,a0,_,rfl,by simpa using E1.out.hd⟩)
 clear a0 a1 b0 b1 f0 f1;go_region_held3 (fun w'=>Core w w1.heap.size ⟨w.heap.size,0,none⟩ (.int .i64 1) (w.heap.size+1) 148 w'/\w'.cell? ⟨w.heap.size,0,none⟩=some (.int .i64 1)/\w'.cell? ⟨w.heap.size+1,0,none⟩=some (KD w' ⟨w.heap.size+1,0,none⟩)/\w'.cell? ⟨w.heap.size+1,1,none⟩=some (KD w' ⟨w.heap.size+1,1,none⟩)/\w'.frozen? ⟨w.heap.size+1,0,none⟩=false/\w'.frozen? ⟨w.heap.size+1,1,none⟩=false)
  ((refine Core.facts ?_;first|exact Ko.out _ _ HC0.out AA.drew|exact GB.out _ _ _ (GB.out _ _ _ (AK (by assumption)))|exact Ko.out _ _ (AK (by assumption)) (Cl EL (AK (CR (AK (by assumption)))))|exact Ko.out _ _ (AK (by assumption)) Ei|exact Ko.out _ _ (AK (by assumption)) (AA.alloc (AK (CR (AK (by assumption)))) _)))
  (first
    |(go_at_call 231;refine(P7.out _ (by exact AK (by assumption))).mono ?_;rintro e' w4 ⟨A4,c4,rfl,JP,EL⟩)
    |((refine FE (by rfl) _ _ _ (by rfl) w1.heap.size 3 i0 (.int .i64 0) 1 8 underlying53 hi Fq FZ Fe rfl (by decide) _ _ _ (by rfl) (JP.alloc _) _ _ _ _ _ (by rfl) (Pi.out _) Pb.out (by unfold maxLen;have:=HL.out;omega) (by have:=HL.out;omega) (by exact AK (CR (AK (by assumption)))) ?_;intro v9 w9 Db Ei;obtain⟨A9,c9,rfl⟩:=Cz Db;have JH:=Ko.out _ _ (AK (by assumption)) Ei))
    |((refine FE (by rfl) _ _ _ (by rfl) w1.heap.size 3 i0 (.int .i64 0) 1 8 underlying53 hi Fq FZ Fe rfl (by decide) _ _ _ (by rfl) JP _ _ _ _ _ (by rfl) ((Pi.out _).drew.below EL (by simp)) Pb.out (by unfold maxLen;have:=HL.out;omega) (by have:=HL.out;omega) (by exact AK (CR (AK (by assumption)))) ?_;intro v9 w9 Db Ei;obtain⟨A9,c9,rfl⟩:=Cz Db;have JH:=Ko.out _ _ (AK (by assumption)) Ei)))
 all_goals
  rename_i hheld;have Wf:w9.cell? ⟨w.heap.size+1,0,none⟩=some (KD w9 ⟨w.heap.size+1,0,none⟩):=(Core.facts JH).2.2.1;have Qi:w9.cell? ⟨w.heap.size+1,1,none⟩=some (KD w9 ⟨w.heap.size+1,1,none⟩):=(Core.facts JH).2.2.2.1;have DY:=hheld.1.1;have Un:=I DY;have HO9:=I Db;clear hheld Db DY JH;go_wp2;refine AF (v:=.tuple #[.agg #[.int .i64 1,.slice A9 (l.length+1) c9],.int .i64 0]) (by simp[results,results254,go_sem,Wf,Qi]) rfl ?_;have h9:=DX (DV (DV HO9.out (a:=⟨w.heap.size+1,0,none⟩) (by simp;omega) (.int .i64 1)) (a:=⟨w.heap.size+1,1,none⟩) (by simp;omega) (.slice A9 (l.length+1) c9)) (by omega:w.heap.size<=w1.heap.size)
  refine⟨A9,c9,by rw[HL.out],?_,Un.out⟩;have e:DF (l++[x])=DF l++DF [x]:=by simp[DF]
  rw[HL.out]at h9⊢;rw[e];exact h9
