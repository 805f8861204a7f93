/- Plain facts on lists of -/
set_option maxRecDepth 100000
set_option maxHeartbeats 99000000
set_option linter.all false
namespace Go.Proofs.YthiplgekjgffkaaGreatDoor.Bt
def val:List Bool->Nat
 | []=>0
 |b::l=>b.toNat+2*val l
@[simp] theorem AFb:val []=0:=rfl
@[simp] theorem Kj (b:Bool) (l:List Bool):val (b::l)=b.toNat+2*val l:=rfl
theorem Kx(a b:List Bool):val (a++b)=val a+2^a.length*val b:=by
 induction a with
 |nil=>simp
 |cons x l ih=>
  simp only[List.cons_append,Kj,ih,List.length_cons,Nat.pow_succ];rw[Nat.mul_add,Nat.add_assoc];congr 2;rw[Nat.mul_comm (2^l.length) 2,Nat.mul_assoc]
theorem SM(l:List Bool):val l<2^l.length:=by
 induction l with
 |nil=>simp
 |cons x l ih=>
  simp only[Kj,List.length_cons,Nat.pow_succ];cases x<;>simp<;>omega
theorem fQ(n:Nat):val (List.replicate n false)=0:=by
 induction n with
 |zero=>rfl
 |succ n ih=>simp[List.replicate_succ,ih]
def bit(l:List Bool)(i:Nat):Nat:=(l.getD i false).toNat
theorem JV(l:List Bool)(i:Nat):bit l i<=1:=by
 unfold bit;cases l.getD i false<;>simp
theorem OE(l:List Bool)(i:Nat)(h:l.length<=i):bit l i=0:=by
 unfold bit;rw[List.getD_eq_getElem?_getD,List.getElem?_eq_none h];rfl
theorem NC(l:List Bool)(i:Nat)(h:i<l.length):bit l i=(l[i]).toNat:=by
 unfold bit;rw[List.getD_eq_getElem?_getD,List.getElem?_eq_getElem h];rfl
theorem JC(l:List Bool)(i:Nat):val (l.drop i)=bit l i+2*val (l.drop (i+1)):=by
 rcases Nat.lt_or_ge i l.length with h|h
 ·rw[List.drop_eq_getElem_cons h,Kj,NC l i h]
 ·rw[List.drop_eq_nil_of_le h,List.drop_eq_nil_of_le (by omega),OE l i h];rfl
theorem Jh(l:List Bool)(i:Nat):val (l.take (i+1))=val (l.take i)+2^i*bit l i:=by
 rcases Nat.lt_or_ge i l.length with h|h
 ·rw[List.take_succ_eq_append_getElem h,Kx,NC l i h]
  simp[List.length_take,Nat.min_eq_left (Nat.le_of_lt h)]
 ·rw[List.take_of_length_le h,List.take_of_length_le (by omega),OE l i h];simp
theorem Jc(l:List Bool)(i:Nat)(h:i<=l.length):val l=val (l.take i)+2^i*val (l.drop i):=by
 have:=Kx (l.take i) (l.drop i);rw[List.take_append_drop]at this;rw[this,List.length_take,Nat.min_eq_left h]
def Norm(l:List Bool):Prop:=l=[]\/2^l.length<=2*val l
theorem Uu:Norm []:=.inl rfl
theorem Ig{a b:Nat}(h:a<=b):2^a<=2^b:=Nat.pow_le_pow_right (by omega) h
theorem QY{a b:Nat}:2^a<2^b↔a<b:=Nat.pow_lt_pow_iff_right (by omega)
theorem cy{l:List Bool}(h:Norm l){k:Nat}(hv:val l<2^k):l.length<=k:=by
 rcases h with rfl|h
 ·simp
 ·have:2^l.length<2^(k+1):=by rw[Nat.pow_succ];omega
  have:=QY.1 this;omega
def D6:Nat->Nat
 |0=>0
 |n+1=>D6 ((n+1)/2)+1
theorem Gz:D6 0=0:=by simp[D6]
theorem Hp(n:Nat)(h:0<n):D6 n=D6 (n/2)+1:=by
 cases n with
 |zero=>omega
 |succ n=>rw[D6]
theorem Hy(n:Nat)(h:0<n):2^(D6 n- 1)<=n/\n<2^D6 n:=by
 induction n using Nat.strongRecOn with
 |_ n ih=>
  rw[Hp n h];by_cases h2:n/2=0
  ·rw[h2,Gz];simp;omega
  ·have:=ih (n/2) (by omega) (by omega)
   have hb:1<=D6 (n/2):=by rw[Hp _ (by omega)];omega
   have e:D6 (n/2)=(D6 (n/2)- 1)+1:=by omega
   refine⟨?_,?_⟩
   ·rw[Nat.add_sub_cancel,e,Nat.pow_succ];omega
   ·rw[Nat.pow_succ];omega
theorem KY(n:Nat):n<2^D6 n:=by
 rcases Nat.eq_zero_or_pos n with rfl|h
 ·simp[Gz]
 ·exact(Hy n h).2
theorem Ew{n k:Nat}(h:n<2^k):D6 n<=k:=by
 rcases Nat.eq_zero_or_pos n with rfl|h0
 ·simp[Gz]
 ·have:=(Hy n h0).1
  have h1:2^(D6 n- 1)<2^k:=by omega
  have:=QY.1 h1;omega
theorem Ya{n k:Nat}(h:2^k<=n):k<D6 n:=by
 have:=KY n;exact QY.1 (by omega)
def bits:Nat->List Bool
 |0=>[]
 |n+1=>((n+1)%2==1)::bits ((n+1)/2)
theorem PP:bits 0=[]:=by simp[bits]
theorem UV(n:Nat)(h:0<n):bits n=(n%2==1)::bits (n/2):=by
 cases n with
 |zero=>omega
 |succ n=>rw[bits]
theorem FL(n:Nat):val (bits n)=n:=by
 induction n using Nat.strongRecOn with
 |_ n ih=>
  rcases Nat.eq_zero_or_pos n with rfl|h
  ·simp[PP]
  ·rw[UV n h,Kj,ih (n/2) (by omega)]
   rcases Nat.mod_two_eq_zero_or_one n with e|e<;>simp[e]<;>omega
theorem Ez(n:Nat):(bits n).length=D6 n:=by
 induction n using Nat.strongRecOn with
 |_ n ih=>
  rcases Nat.eq_zero_or_pos n with rfl|h
  ·simp[PP,Gz]
  ·rw[UV n h,Hp n h,List.length_cons,ih (n/2) (by omega)]
theorem mJ(n:Nat):Norm (bits n):=by
 rcases Nat.eq_zero_or_pos n with rfl|h
 ·simp[PP,Uu]
 ·refine .inr ?_
  rw[FL,Ez];have:=(Hy n h).1;have h1:1<=D6 n:=by rw[Hp n h];omega
  have e:D6 n=(D6 n- 1)+1:=by omega
  rw[e,Nat.pow_succ];omega
end Go.Proofs.YthiplgekjgffkaaGreatDoor.Bt
namespace Go.Proofs.YthiplgekjgffkaaGreatDoor
namespace Kn
def Inv(u y1 y0 d q r:Nat):Prop:=q*y1+r=u/\u*4294967296+d<(q+1)*(y1*4294967296+y0)
def Ok(u y1 y0 d:Nat):Prop:=2147483648<=y1/\y1<4294967296/\y0<4294967296/\d<4294967296/\u<y1*4294967296+y0
theorem expand(q y1 y0:Nat):q*(y1*4294967296+y0)=q*y1*4294967296+q*y0:=by rw[Nat.mul_add,Nat.mul_assoc]
theorem start{u y1 y0 d:Nat}(h:Ok u y1 y0 d):Inv u y1 y0 d (u/y1) (u%y1):=by
 obtain⟨h0,h1,h2,h3,h4⟩:=h;have e:=Nat.div_add_mod u y1;have m:=Nat.mod_lt u (show 0<y1 by omega);rw[Nat.mul_comm]at e;refine⟨e,?_⟩;rw[expand,Nat.succ_mul];have:u+1<=u/y1*y1+y1:=by omega
 have h5:=Nat.mul_le_mul_right 4294967296 this;omega
theorem test{u y1 y0 d q r:Nat}(h:Ok u y1 y0 d)(hi:Inv u y1 y0 d q r):(4294967296<=q\/4294967296*r+d<q*y0)↔u*4294967296+d<q*(y1*4294967296+y0):=by
 obtain⟨h0,h1,h2,h3,h4⟩:=h;obtain⟨i0,i1⟩:=hi;have e:=expand q y1 y0;constructor
 ·rintro(hq|hq)
  ·have:=Nat.mul_le_mul_right (y1*4294967296+y0) hq
   omega
  ·omega
 ·intro DG
  exact .inr (by omega)
theorem pos{u y1 y0 d q:Nat}(h:u*4294967296+d<q*(y1*4294967296+y0)):0<q:=by
 rcases Nat.eq_zero_or_pos q with e|e
 ·rw[e,Nat.zero_mul]at h;omega
 ·exact e
theorem next{u y1 y0 d q r:Nat}(hi:Inv u y1 y0 d q r)(DG:u*4294967296+d<q*(y1*4294967296+y0)):Inv u y1 y0 d (q- 1) (r+y1):=by
 obtain⟨i0,i1⟩:=hi;obtain⟨p,rfl⟩:∃p,q=p+1:=⟨q- 1,by have:=pos DG;omega⟩;rw[Nat.succ_mul]at i0;exact⟨by simp;omega,by simpa using DG⟩
theorem stop{u y1 y0 d q r:Nat}(h:Ok u y1 y0 d)(hi:Inv u y1 y0 d q r)(hr:4294967296<=r):¬u*4294967296+d<q*(y1*4294967296+y0):=by
 obtain⟨h0,h1,h2,h3,h4⟩:=h;obtain⟨i0,i1⟩:=hi;rw[expand];have hq:q<4294967296:=by
  rcases Nat.lt_or_ge q 4294967296 with e|e
  ·exact e
  ·have:=Nat.mul_le_mul_right y1 e
   omega
 have:q*y0<=4294967296*4294967296:=Nat.mul_le_mul (by omega) (by omega);omega
theorem done{u y1 y0 d q r:Nat}(h:Ok u y1 y0 d)(hi:Inv u y1 y0 d q r)(hn:¬u*4294967296+d<q*(y1*4294967296+y0)):
 q=(u*4294967296+d)/(y1*4294967296+y0)/\q<4294967296/\q*(y1*4294967296+y0)<=u*4294967296+d/\u*4294967296+d-q*(y1*4294967296+y0)<y1*4294967296+y0:=by
 obtain⟨h0,h1,h2,h3,h4⟩:=h;obtain⟨i0,i1⟩:=hi;have hy:0<y1*4294967296+y0:=by omega
 have hq:q<4294967296:=by
  rcases Nat.lt_or_ge q 4294967296 with e|e
  ·exact e
  ·have:=Nat.mul_le_mul_right (y1*4294967296+y0) e
   omega
 have hd:=Nat.div_eq_of_lt_le (by omega) i1;rw[Nat.succ_mul]at i1;exact⟨hd.symm,hq,by omega,by omega⟩
theorem bds{u y1 y0 d q r:Nat}(h:Ok u y1 y0 d)(hi:Inv u y1 y0 d q r)(hu:u<18446744073709551616):q<=8589934591/\r<=u:=by
 obtain⟨h0,h1,h2,h3,h4⟩:=h;obtain⟨i0,i1⟩:=hi;refine⟨?_,by omega⟩;rcases Nat.lt_or_ge q 8589934592 with e|e
 ·omega
 ·have:=Nat.mul_le_mul e h0
  omega
theorem two{N Y u d1 d0 q1 q0 R:Nat}(hY:0<Y)(hN:N=(u*4294967296+d1)*4294967296+d0)(hR:q1*Y+R=u*4294967296+d1)
 (AOw:q0*Y<=R*4294967296+d0) (hd:R*4294967296+d0-q0*Y<Y):
 q1*4294967296+q0=N/Y/\R*4294967296+d0-q0*Y=N%Y:=by
 have e:N=(q1*4294967296+q0)*Y+(R*4294967296+d0-q0*Y):=by
  have k1:(q1*4294967296+q0)*Y=q1*Y*4294967296+q0*Y:=by rw[Nat.add_mul,Nat.mul_right_comm]
  rw[k1,hN,<-hR];omega
 have e1:N/Y=q1*4294967296+q0:=by
  rw[e,Nat.mul_comm,Nat.mul_add_div hY,Nat.div_eq_of_lt hd,Nat.add_zero]
 have e2:N%Y=R*4294967296+d0-q0*Y:=by
  rw[e,Nat.mul_comm,Nat.mul_add_mod,Nat.mod_eq_of_lt hd]
 exact⟨e1.symm,e2.symm⟩
end Kn
theorem Ty(l:List Bool)(k:Nat)(hk:k<=l.length):Bt.val (l.take k)<2^k:=by
 have:=Bt.SM (l.take k)
 rwa [List.length_take,Nat.min_eq_left hk]at this
theorem Ke(l:List Bool)(k:Nat)(hk:k<l.length)(h:l[k]=true):Bt.val (l.take (k+1))=Bt.val (l.take k)+2^k:=by
 rw[Bt.Jh,Bt.NC l k hk,h];simp
theorem QH(l:List Bool)(k:Nat)(hk:k<l.length)(h:l[k]=false):Bt.val (l.take (k+1))=Bt.val (l.take k):=by
 rw[Bt.Jh,Bt.NC l k hk,h];simp
theorem Ji(l:List Bool)(k:Nat)(hk:k<=l.length):Bt.val (l.take k)<=Bt.val l:=by
 have:=Bt.Jc l k hk;have:0<=2^k*Bt.val (l.drop k):=Nat.zero_le _;omega
theorem Z0(l:List Bool)(k:Nat)(hk:k<l.length)(h:l[k]=true):2^k<=Bt.val l:=by
 have:=Ke l k hk h;have:=Ji l (k+1) hk;omega
theorem SY(k:Nat)(lb:List Bool):Bt.val (List.replicate k false++lb)=2^k*Bt.val lb:=by
 rw[Bt.Kx,Bt.fQ];simp
namespace Rt
def Mo(a r:Nat):Prop:=r*r<=a/\a<(r+1)*(r+1)
theorem TM:∀a:Nat,∃r,Mo a r
 |0=>⟨0,by simp[Mo]⟩
 |a+1=>by
  obtain⟨r,h1,h2⟩:=TM a;by_cases h:(r+1)*(r+1)<=a+1
  ·refine⟨r+1,h,?_⟩
   have:(r+1+1)*(r+1+1)=(r+1)*(r+1)+2*(r+1)+1:=by
    rw[Nat.add_mul (r+1) 1,Nat.mul_add (r+1) (r+1) 1];omega
   omega
  ·exact⟨r,by omega,by omega⟩
theorem RT{x y:Nat}(h:x<=y):x*x<=y*y:=Nat.mul_le_mul h h
theorem Tn{a r s:Nat}(h:Mo a r)(h1:s*s<=a)(h2:a<(s+1)*(s+1)):s=r:=by
 rcases Nat.lt_trichotomy s r with e|e|e
 ·have:=RT (show s+1<=r from e);have:=h.1;omega
 ·exact e
 ·have:=RT (show r+1<=s from e);have:=h.2;omega
theorem Yg{a r:Nat}(h:Mo a r)(ha:a<2^128):r<18446744073709551616:=by
 rcases Nat.lt_or_ge r 18446744073709551616 with e|e
 ·exact e
 ·have:=RT e;have:=h.1;omega
theorem AI7(s t:Nat):4*(s*t)<=(s+t)*(s+t):=by
 have e:(s+t)*(s+t)=s*s+t*t+2*(s*t):=by
  rw[Nat.add_mul,Nat.mul_add,Nat.mul_add,Nat.mul_comm t s];omega
 rw[e];have key:2*(s*t)<=s*s+t*t:=by
  rcases Nat.le_total s t with h|h
  ·obtain⟨d,rfl⟩:∃d,t=s+d:=⟨t-s,by omega⟩
   have e1:(s+d)*(s+d)=s*s+2*(s*d)+d*d:=by rw[Nat.add_mul,Nat.mul_add,Nat.mul_add,Nat.mul_comm d s];omega
   have e2:s*(s+d)=s*s+s*d:=Nat.mul_add _ _ _;omega
  ·obtain⟨d,rfl⟩:∃d,s=t+d:=⟨s-t,by omega⟩
   have e1:(t+d)*(t+d)=t*t+2*(t*d)+d*d:=by rw[Nat.add_mul,Nat.mul_add,Nat.mul_add,Nat.mul_comm d t];omega
   have e2:(t+d)*t=t*t+t*d:=by rw[Nat.add_mul,Nat.mul_comm d t]
   omega
 omega
theorem rv{a x:Nat}(hx:0<x):a<((a/x+x)/2+1)*((a/x+x)/2+1):=by
 have h1:=Nat.lt_mul_div_succ a hx;have h2:=AI7 (a/x+1) x;have h3:a/x+1+x<=2*((a/x+x)/2+1):=by omega
 have h4:=RT h3;generalize (a/x+x)/2+1=h at*;have h5:2*h*(2*h)=4*(h*h):=by
  rw[Nat.mul_assoc,Nat.mul_left_comm h 2 h];omega
 rw[Nat.mul_comm x]at h1;omega
theorem S7{a x:Nat}(hx:0<x)(h:x<=(a/x+x)/2):x*x<=a:=by
 have:x<=a/x:=by omega
 have:=(Nat.le_div_iff_mul_le hx).1 this;exact this
theorem gj{a x:Nat}(hx:0<x)(h:a<(x+1)*(x+1)):a/x<=x+2:=by
 have e:(x+1)*(x+1)=x*x+2*x+1:=by rw[Nat.add_mul,Nat.mul_add];omega
 have:a/x<x+3:=by
  rw[Nat.div_lt_iff_lt_mul hx,Nat.add_mul];omega
 omega
theorem rV{a n:Nat}(h:a<2^n):a<(2^((n+1)/2)+1)*(2^((n+1)/2)+1):=by
 have h1:2^n<=2^((n+1)/2)*2^((n+1)/2):=by
  rw[<-Nat.pow_add];exact Nat.pow_le_pow_right (by omega) (by omega)
 have h2:=RT (show 2^((n+1)/2)<=2^((n+1)/2)+1 by omega);omega
def Oc(a x j:Nat):Prop:=x*x<=a/\a<(x+2^j)*(x+2^j)/\∃m,x=2^j*m
theorem pK{x i:Nat}(h:∃m,x=2^(i+1)*m):x ||| 2^i=x+2^i:=by
 obtain⟨m,rfl⟩:=h;exact(Nat.two_pow_add_eq_or_of_lt (Nat.pow_lt_pow_right (by omega) (by omega)) m).symm
theorem tg{a x i:Nat}(h:Oc a x (i+1))(hle:(x+2^i)*(x+2^i)<=a):Oc a (x+2^i) i:=by
 obtain⟨h1,h2,m,h3⟩:=h;refine⟨hle,?_,2*m+1,?_⟩
 ·rw[Nat.pow_succ]at h2
  rw[show x+2^i+2^i=x+2^i*2 by omega];exact h2
 ·rw[h3,Nat.pow_succ,Nat.mul_add,Nat.mul_one,Nat.mul_assoc]
theorem zj{a x i:Nat}(h:Oc a x (i+1))(DG:a<(x+2^i)*(x+2^i)):Oc a x i:=by
 obtain⟨h1,h2,m,h3⟩:=h;exact⟨h1,DG,2*m,by rw[h3,Nat.pow_succ,Nat.mul_assoc]⟩
def OD(a b:Nat)(k:Int):Prop:=(k= -1/\(b=0\/a<b))\/(∃n:Nat,k=n/\0<b/\b*2^n<=a/\a<b*2^(n+1))
theorem sD{a b k:Nat}(hb:0<b)(ha:0<a)(hk:k+Bt.D6 b=Bt.D6 a):a<b*2^(k+1)/\b*2^k<2*2^Bt.D6 a:=by
 have h1:=Bt.KY a;have h2:=(Bt.Hy b hb).1;have h3:1<=Bt.D6 b:=by rw[Bt.Hp _ hb];omega
 have h4:=Bt.KY b;obtain⟨c,hc⟩:∃c,Bt.D6 b=c+1:=⟨_,(Nat.sub_add_cancel h3).symm⟩;rw[hc,Nat.add_sub_cancel]at h2;constructor
 ·rw[<-hk,hc]at h1
  have:2^c*2^(k+1)<=b*2^(k+1):=Nat.mul_le_mul_right _ h2;rw[<-Nat.pow_add,show c+(k+1)=k+(c+1)by omega]at this;omega
 ·have:b*2^k<2^Bt.D6 b*2^k:=Nat.mul_lt_mul_of_pos_right h4 (Nat.two_pow_pos k)
  rw[<-Nat.pow_add,Nat.add_comm,hk]at this;omega
theorem jX{a b k:Nat}(hb:0<b)(hk:k+1+Bt.D6 b=Bt.D6 a):b*2^k<=a:=by
 have hl:1<=Bt.D6 a:=by omega
 have ha:0<a:=by
  rcases Nat.eq_zero_or_pos a with h|h
  ·rw[h,Bt.Gz]at hl;omega
  ·exact h
 have h1:=(Bt.Hy a ha).1;have h4:=Bt.KY b;have:b*2^k<2^Bt.D6 b*2^k:=Nat.mul_lt_mul_of_pos_right h4 (Nat.two_pow_pos k);rw[<-Nat.pow_add]at this;rw[show Bt.D6 a- 1=Bt.D6 b+k by omega]at h1;omega
