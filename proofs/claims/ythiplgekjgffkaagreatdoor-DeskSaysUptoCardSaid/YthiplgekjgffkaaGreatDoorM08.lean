/- The reference's Id of th -/
import Derived.Test.YthiplgekjgffkaaGreatDoorM05
import Derived.Lib.AtoiErrMem
set_option maxRecDepth 100000
set_option maxHeartbeats 99000000
set_option linter.all false
namespace Go.Proofs.YthiplgekjgffkaaGreatDoor
def ATr:=@Go.Lib.run_convert_string_bytes
def ATs:=@Go.Lib.bytesWorld_cell
def ATt:=@Go.Lib.bytesWorld_below
open Go.Proofs.Tryz
open Go.RowKit Go.Lib
def Pf(c:Int):Bool:= !wi c 97 122
theorem wV(c:Int)(w:World):
 Calls prog 224 #[.int .u8 c] w fun e w'=>e=.returned (.bool (Pf c))/\w=w':=by
 unfold Pf wi;go_in;go_wp2;all_goals (go_ret;refine⟨IL ?_,rfl⟩;rw[ATj];simp[*]<;>omega)
def uX(b:Bool)(w:World)(e:Ending)(w':World):Prop:=∃k:Int,(decide (0<=k)=b)/\e=.returned (.int .i64 k)/\w=w'
theorem ak{p:Int->Bool}{xs:List Int}{j:Nat}(h:(xs.take j).any p=true):xs.any p=true:=by
 rw[ATE]at h⊢;obtain⟨x,hx,hp⟩:=h;exact⟨x,Be hx,hp⟩
theorem lC(b c:Nat)(xs:List Int)(hm:xs.length<=100000)(w:World)(hc:∀i,i<xs.length->w.cell? ⟨b,i,none⟩=some (.int .u8 (xs.getD i 0))):
 Calls prog 258 #[.slice (some ⟨b,0,none⟩) xs.length c,.func (.func 224) #[] #[]] w (uX (xs.any Pf) w):=by
 generalize hn:xs.length=n at*;have HN:=I hn;have HC:=I hc;clear hn hc;go_in;go_wp2;go_loop [5,8] (fun _ i=>∃k:Nat,k<=n/\i=.int .i64 k/\(xs.take k).any Pf=false) (fun _ i=>n- (intOf i).toNat)
 case atStart=>exact⟨0,AM _,rfl,rfl⟩
 case round=>
  obtain⟨k,hk,rfl,hrel⟩:=hrel;have HR:=I hrel;clear hrel;by_cases DG:k<n
  ·have FR:=HC.out k DG
   have yH:(xs.take (k+1)).any Pf=Pf (xs.getD k 0):=by
    have hk:k<xs.length:=by have:=HN.out;omega
    rw[ASy,ATR,HR.out,AU hk];simp[By,hk]
   have HX:=I yH;clear yH;generalize hx:xs.getD k 0=x at*;clear hx;go_wp2_with (go_at_call 224;refine(wV _ _).mono ?_;rintro e w' ⟨rfl,rfl⟩)
   go_ways
   ·rename_i ho
    go_ret;exact⟨k,by rw[ak (HX.out.trans ho)];simp,rfl,rfl⟩
   ·rename_i ho
    refine⟨⟨k+1,DG,by simp,HX.out.trans ho⟩,?_⟩;simp[intOf];omega
  ·go_wp2
   go_ret;refine⟨-1,?_,rfl,rfl⟩;have:xs.take k=xs:=by rw[AY];have:=HN.out;omega
   have h2:=HR.out;rw[this]at h2;rw[h2];rfl
theorem Uc(b c:Nat)(xs:List Int)(hm:xs.length<=100000)(w:World)(hc:∀i,i<xs.length->w.cell? ⟨b,i,none⟩=some (.int .u8 (xs.getD i 0))):
 Calls prog 223 #[.slice (some ⟨b,0,none⟩) xs.length c,.func (.func 224) #[] #[]] w fun e w'=>e=.returned (.bool (xs.any Pf))/\w=w':=by
 have HC:=I hc;clear hc;go_in;go_wp2_with fail
 refine(lC _ _ _ hm _ HC.out).mono ?_;rintro e w' ⟨k,hk,rfl,rfl⟩;go_wp2;go_ret;first|exact⟨rfl,rfl⟩|exact⟨IL hk,rfl⟩
def bytesOf(s:ByteArray):List Int:=s.data.toList.map fun x=>(x.toNat:Int)
def JK(s:ByteArray):Bool:=wi s.size 1 8&& !(bytesOf s).any Pf
theorem Wj(s:ByteArray)(hs:s.size<=8)(b c:Nat)(w:World)(h:∀j,j<s.size->w.cell? ⟨b,j,none⟩=some (.int .u8 (s.data.toList.getD j 0).toNat)):
 Calls prog 223 #[.slice (some ⟨b,0,none⟩) s.size c,.func (.func 224) #[] #[]] w fun e w'=>e=.returned (.bool ((bytesOf s).any Pf))/\w=w':=by
 have hl:(bytesOf s).length=s.size:=by unfold bytesOf;rw[Ak,At];rfl
 have h:=Uc b c (bytesOf s) (by omega) w fun i hi=>by
  rw[h _ (by omega)];have:i<s.data.toList.length:=by rw[At];exact(by omega:i<s.size)
  simp[bytesOf,List.getD,AU this]
 rw[hl]at h;exact h
theorem Lr(s:ByteArray)(w:World):Calls prog 187 #[.string s] w fun e w'=>e=.returned (.bool (JK s))/\Below w.heap.size w w':=by
 go_in;go_wp2_with (go_at_call 53;refine(Fr _ _ _ _).mono ?_;rintro e w' ⟨rfl,rfl⟩)
 go_ways
 ·have h8:s.size<=8:=by have h:=(by assumption:wi (s.size:Int) 1 8=true);have:=(DW.1 h).2;omega
  have HW:=I (by assumption:wi (s.size:Int) 1 8=true);rw[ATr w _ _ 5 s underlying9 underlying42 underlying5];rw[Result.andThen];have HC:=I (ATs w 5 s);have HB:=I (ATt w 5 s);generalize bytesWorld w 5 s=w1 at*;generalize grownCap w s.size 0 5=cc at*;go_wp2_with (go_at_call 223;refine(Wj s h8 _ _ _ HC.out).mono ?_;rintro e w' ⟨rfl,rfl⟩)
  go_ways
  all_goals
   go_ret;refine⟨IL ?_,HB.out⟩;simp_all[JK,HW.out]
 ·rename_i hw
  go_ret;refine⟨IL ?_,AA⟩;simp_all[JK]
def Em(s:ByteArray)(inc seq:Int):Int:=if JK s then (if 0<=inc/\inc<=2147483647/\1<=seq/\seq<=2147483647 then 0 else 1)else 3
theorem PL(s:ByteArray)(inc seq:Int)(w:World):Calls prog 229 #[.agg #[.string s,.int .i64 inc,.int .i64 seq]] w fun e w'=>e=.returned (.int .i64 (Em s inc seq))/\Below w.heap.size w w':=by
 have E:=I ((AI w).lay #[.string s,.int .i64 inc,.int .i64 seq] 226);go_in;go_wp2_with fail
 refine(Lr s _).mono ?_;rintro e w1 ⟨rfl,C6⟩;have E1:=I (E.out.below C6);clear C6;have p0:=E1.out.hd.lt;have a0:=E1.out.hd.cell 0;have a1:=E1.out.hd.cell 1;have a2:=E1.out.hd.cell 2;simp at a0 a1 a2 p0;go_wp2_with (go_at_call 53;refine(Fr _ _ _ _).mono ?_;rintro e w' ⟨rfl,rfl⟩)
 go_ways
 all_goals
  go_ret;refine⟨D7 ?_,E1.out.DI⟩;clear E E1 a0 a1 a2 p0;unfold Em;simp_all[DW,Fc]
 all_goals omega
theorem cT(s:ByteArray):(bytesOf s).length=s.size:=by unfold bytesOf;rw[Ak,At];rfl
theorem eL(s:ByteArray)(k:Nat)(h:k<s.size):(bytesOf s)[k]? =some ((s[k]).toNat:Int):=by
 have h2:k<s.data.toList.length:=by rw[At];exact h
 simp[bytesOf,AU h2];rfl
theorem pz(s:ByteArray)(k:Nat)(h:k<s.size)(h2:((bytesOf s).take k).any Pf=false):((bytesOf s).take (k+1)).any Pf=Pf ((s[k]).toNat:Int):=by
 rw[ASy,ATR,h2,eL s k h];simp
theorem Jn(s:ByteArray)(h:s.size≠0):s.toList.isEmpty=false:=by
 rw[Bl];cases hq:s.data.toList with
 |nil=>exact absurd (by have:=Ae List.length hq;rw[At]at this;exact this) h
 |cons=>rfl
theorem VS(s:ByteArray)(h:s.size=0):s.toList.isEmpty=true:=by
 rw[Bl];cases hq:s.data.toList with
 |nil=>rfl
 |cons=>have:=Ae List.length hq;rw[At]at this;exact absurd (this.symm.trans h) (by simp)
theorem Gt(s:ByteArray)(hs:s.size<=maxLen)(w:World):Calls prog 243 #[.string s] w fun e w'=>e=.returned (.bool (JK s))/\w=w':=by
 unfold maxLen at hs;by_cases h0:s.size=0
 ·have HR:=I (show JK s=false by unfold JK wi;simp[h0])
  have he:=VS s h0;clear h0;go_in;go_wp2;go_ret;exact⟨IL HR.out.symm,rfl⟩
 ·have he:=Jn s h0
  by_cases h8:s.size<=8
  ·have HW:=I (show wi s.size 1 8=true from DW.2 ⟨by omega,by omega⟩)
   go_in;go_wp2;go_loop [13] (fun i=>∃k:Nat,k<=s.size/\i=.int .i64 k/\((bytesOf s).take k).any Pf=false) (fun i=>s.size- (intOf i).toNat)
   case atStart=>exact⟨0,by omega,rfl,rfl⟩
   case round=>
    obtain⟨k,hk,rfl,hrel⟩:=hrel;have HR:=I hrel;clear hrel;by_cases DG:k<s.size
    ·have HX:=I (pz s k DG HR.out)
     have hb:(s[k]).toNat<256:=BZ _;cases hx:Pf ((s[k]).toNat:Int)
     ·have fP:=hx
      unfold Pf at fP;obtain⟨g0,g1⟩:=DW.1 (by simpa using fP);have HY:=I (HX.out.trans hx);clear hx fP;go_wp2;exact⟨⟨k+1,DG,by simp,HY.out⟩,by simp[intOf];omega⟩
     ·have HF:=I (show JK s=false by
       unfold JK;rw[ak (HX.out.trans hx)];simp)
      have fP:=hx;unfold Pf at fP;have hx3:=Fc.1 (by simpa using fP);clear hx fP;by_cases g0:(97:Int)<=((s[k]).toNat:Int)
      ·have g1:¬((s[k]).toNat:Int)<=122:=by omega
       clear hx3;go_wp2;go_ret;exact⟨IL HF.out.symm,rfl⟩
      ·clear hx3
       go_wp2;go_ret;exact⟨IL HF.out.symm,rfl⟩
    ·have HF:=I (show JK s=true by
      unfold JK;rw[HW.out];have:=HR.out;rw[AY (by rw[cT];omega)]at this;rw[this];rfl)
     go_wp2;go_ret;exact⟨IL HF.out.symm,rfl⟩
  ·have HR:=I (show JK s=false by unfold JK;rw[Fc.2 (.inr (by omega))];rfl)
   go_in;go_wp2;go_ret;exact⟨IL HR.out.symm,rfl⟩
theorem Ks(s:ByteArray)(hs:s.size<=maxLen)(inc seq:Int)(w:World):
 Calls prog 248 #[.agg #[.string s,.int .i64 inc,.int .i64 seq]] w fun e w'=>e=.returned (.int .i64 (Em s inc seq))/\Below w.heap.size w w':=by
 have E:=I ((AI w).lay #[.string s,.int .i64 inc,.int .i64 seq] 226);have HB:=I hs;clear hs;go_in;cases hi:JK s
 ·have HR:=I (show Em s inc seq=3 by unfold Em;rw[hi];rfl)
  go_wp2_with (go_at_call 243;refine(Gt s HB.out _).mono ?_;rintro e w' ⟨rfl,rfl⟩;rw[hi])
  go_ret;exact⟨D7 HR.out.symm,E.out.DI⟩
 ·have iS:=I (show(0<=inc/\inc<=2147483647/\1<=seq/\seq<=2147483647)->Em s inc seq=0 from fun h=>by unfold Em;rw[AD hi,AD h])
  have HRN:=I (show¬(0<=inc/\inc<=2147483647/\1<=seq/\seq<=2147483647)->Em s inc seq=1 from fun h=>by unfold Em;rw[AD hi,AC h]);by_cases h1:0<=inc
  ·by_cases h2:inc<=2147483647
   ·by_cases h3:1<=seq
    ·by_cases h4:seq<=2147483647
     ·have HR:=I (iS.out ⟨h1,h2,h3,h4⟩)
      go_wp2_with (go_at_call 243;refine(Gt s HB.out _).mono ?_;rintro e w' ⟨rfl,rfl⟩;rw[hi])
      go_ret;exact⟨D7 HR.out.symm,E.out.DI⟩
     ·have HR:=I (HRN.out (by omega))
      go_wp2_with (go_at_call 243;refine(Gt s HB.out _).mono ?_;rintro e w' ⟨rfl,rfl⟩;rw[hi])
      go_ret;exact⟨D7 HR.out.symm,E.out.DI⟩
    ·have HR:=I (HRN.out (by omega))
     go_wp2_with (go_at_call 243;refine(Gt s HB.out _).mono ?_;rintro e w' ⟨rfl,rfl⟩;rw[hi])
     go_ret;exact⟨D7 HR.out.symm,E.out.DI⟩
   ·have HR:=I (HRN.out (by omega))
    go_wp2_with (go_at_call 243;refine(Gt s HB.out _).mono ?_;rintro e w' ⟨rfl,rfl⟩;rw[hi])
    go_ret;exact⟨D7 HR.out.symm,E.out.DI⟩
  ·have HR:=I (HRN.out (by omega))
   go_wp2_with (go_at_call 243;refine(Gt s HB.out _).mono ?_;rintro e w' ⟨rfl,rfl⟩;rw[hi])
   go_ret;exact⟨D7 HR.out.symm,E.out.DI⟩
def u8(x:Int):UInt8:=UInt8.ofNat x.toNat
theorem fold_push:∀(ns:List Int)(s:ByteArray),ns.foldl (fun r n=>r.push (UInt8.ofNat n.toNat)) s=⟨(s.data.toList++ns.map u8).toArray⟩
 | [],s=>by simp
 |n::ns,s=>by
  rw[List.foldl_cons,fold_push ns];simp[u8,ByteArray.push]
theorem Gp{W:World}{g:Nat}{t:TypeId}(ns:List Int)(h:DJ W g t (ns.map (Value.int .u8)).toArray)(l c:Nat)(hl:l=ns.length):
 (convert 42 9 (.slice (some ⟨g,0,none⟩) l c)).run prog W=.ok (.string ⟨(ns.map u8).toArray⟩) W:=by
 subst hl;rw[run_convert_bytes_string W _ _ 5 _ _ _ underlying42 underlying5 underlying9];have hc:(loadCells ⟨g,0,none⟩ ns.length).run prog W=.ok (ns.map (Value.int .u8)).toArray W:=by
  have:=ATu (P:=prog) W ⟨g,0,none⟩ (ns.map (Value.int .u8)) (fun j v hv=>by
   have I1:(⟨g,0,none⟩:Addr).add j=⟨g,j,none⟩:=by unfold Addr.add;split<;>simp_all
   rw[I1,h.cell j]
   simpa using hv)
  simpa using this
 rw[run_bytesToString W ⟨g,0,none⟩ ns.length c ns hc,fold_push];rfl
def b4(n:Int):List UInt8:=[u8 (n/16777216),u8 (n/65536%256),u8 (n/256%256),u8 (n%256)]
theorem VT(n:Int)(h0:0<=n)(h1:n<4294967296)(w:World):Calls prog 251 #[.int .i64 n] w fun e w'=>e=.returned (.string ⟨(b4 n).toArray⟩)/\Below w.heap.size w w':=by
 have hc:=Gp [n/16777216,n/65536%256,n/256%256,n%256] (DJ.new w 5 _) 4 4 rfl;simp only[CN,List.map_nil]at hc;go_in;go_wp2;go_ret;exact⟨rfl,AA.alloc AB _⟩
abbrev D0:=ByteArray×(Int×Int×Int)×Int×List Int×Int
abbrev C8:=D0×Option Addr×Nat
abbrev pid(p:C8):ByteArray:=p.1.1
abbrev LS(p:C8):Int:=p.1.2.1.1
abbrev LR(p:C8):Int:=p.1.2.1.2.1
abbrev Iz(p:C8):Int:=p.1.2.1.2.2
abbrev Ed(p:C8):Int:=p.1.2.2.1
abbrev DZ(p:C8):List Int:=p.1.2.2.2.1
abbrev Do(p:C8):Int:=p.1.2.2.2.2
abbrev Tb(p:C8):Value:=.slice p.2.1 (DZ p).length p.2.2
def Dp(p:C8):List Value:=[.string (pid p),.int .i64 (LS p),.int .i64 (LR p),.int .i64 (Iz p),.int .i64 (Ed p),Tb p,.int .i64 (Do p)]
def lJ(p:C8):Value:=.agg (Dp p).toArray
def Dn:List C8->List Value
 | []=>[]
 |p::l=>Dp p++Dn l
theorem Fx(p:C8):(Dp p).length=7:=rfl
theorem M5:∀l:List C8,(Dn l).length=l.length*7
 | []=>rfl
 |p::l=>by simp only[Dn,AN,Fx,AP,M5 l];omega
theorem QA(l m:List C8):Dn (l++m)=Dn l++Dn m:=by
 induction l with
 |nil=>rfl
 |cons x l ih=>simp[Dn,ih]
theorem Sq:∀(l:List C8)(k j:Nat)(h:k<l.length),j<7->(Dn l)[k*7+j]? =(Dp (l[k]'h))[j]?
 | [],k,j,h,_=>by simp at h
 |p::l,0,j,_,hj=>by
  rw[ASu,CH];simp only[Dn];rw[ATc (by rw[Fx];exact hj)];rfl
 |p::l,k+1,j,h,hj=>by
  simp only[Dn];rw[ASz (by rw[Fx];omega),Fx,show(k+1)*7+j- 7=k*7+j by omega,Sq l k j (by simpa using h) hj];rfl
theorem SZ(p:C8):∀u∈Dp p,u.oneCell'=true:=by
 intro u hu;simp only[Dp,AR,CT,CU]at hu;rcases hu with rfl|rfl|rfl|rfl|rfl|rfl|rfl<;>rfl
theorem IP(l:List C8):∀u∈Dn l,u.oneCell'=true:=by
 induction l with
 |nil=>intro u hu;cases hu
 |cons p l ih=>
  intro u hu;rcases Au.1 hu with hu|hu
  ·exact SZ p u hu
  ·exact ih u hu
def Hn(w:World)(B:Nat)(p:C8):Prop:=Reads w B 1 p.2.1 (DZ p).length (DF (DZ p))/\(DZ p).length<=p.2.2/\p.2.2<=maxLen/\(pid p).size<=maxLen
theorem Hn.below{w w':World}{B C:Nat}{p:C8}(h:Hn w B p)(hb:Below C w w')(hC:B<=C):Hn w' B p:=⟨h.1.below hb hC,h.2⟩
theorem Hn.more{w:World}{B C:Nat}{p:C8}(h:Hn w B p)(hC:B<=C):Hn w C p:=⟨h.1.more hC,h.2⟩
def yT(w:World)(b off:Nat)(p:C8):Prop:=
 w.cell? ⟨b,off,none⟩=some (.string (pid p))/\w.cell? ⟨b,off+1,none⟩=some (.int .i64 (LS p))/\w.cell? ⟨b,off+2,none⟩=some (.int .i64 (LR p))/\w.cell? ⟨b,off+3,none⟩=some (.int .i64 (Iz p))/\
  w.cell? ⟨b,off+4,none⟩=some (.int .i64 (Ed p))/\w.cell? ⟨b,off+5,none⟩=some (Tb p)/\w.cell? ⟨b,off+6,none⟩=some (.int .i64 (Do p))
def Dq(w:World)(B:Nat)(A:Option Addr)(n:Nat)(l:List C8):Prop:=l.length=n/\Reads w B 7 A n (Dn l)/\∀p∈l,Hn w B p
theorem Dq.len{w:World}{B n:Nat}{A:Option Addr}{l:List C8}(h:Dq w B A n l):l.length=n:=h.1
theorem Dq.row{w:World}{B n:Nat}{A:Option Addr}{l:List C8}(h:Dq w B A n l):Reads w B 7 A n (Dn l):=h.2.1
theorem Dq.ok{w:World}{B n:Nat}{A:Option Addr}{l:List C8}(h:Dq w B A n l):∀p∈l,Hn w B p:=h.2.2
theorem Dq.below{w w':World}{B C n:Nat}{A:Option Addr}{l:List C8}(h:Dq w B A n l)(hb:Below C w w')(hC:B<=C):Dq w' B A n l:=⟨h.1,h.2.1.below hb hC,fun p hp=>(h.2.2 p hp).below hb hC⟩
theorem Dq.more{w:World}{B C n:Nat}{A:Option Addr}{l:List C8}(h:Dq w B A n l)(hC:B<=C):Dq w C A n l:=⟨h.1,h.2.1.more hC,fun p hp=>(h.2.2 p hp).more hC⟩
theorem Reads.U9{w:World}{B n size:Nat}{A:Option Addr}{xs:List Value}(h:Reads w B size A n xs)(hn:0<n)(hs:0<size):
 ∃b off,A=some ⟨b,off,none⟩/\b<B/\∀k u,xs[k]? =some u->w.cell? ⟨b,off+k,none⟩=some u:=by
 obtain⟨ad,e,hb,hc⟩:=h.2 hn;have hl:0<xs.length:=by rw[h.1];exact Nat.mul_pos hn hs
 have h0:=hc 0 _ (AU hl);obtain⟨b,off,spot⟩:=ad;have p7:spot=none:=by simpa [Addr.add] using World.cell?_spot h0
 subst p7;refine⟨b,off,e,hb,fun k u hu=>?_⟩;have:=hc k u hu;by_cases hk:k=0
 ·subst hk;simpa [Addr.add] using this
 ·simpa [Addr.add,hk] using this
theorem Dq.addr{w:World}{B n:Nat}{A:Option Addr}{l:List C8}(h:Dq w B A n l)(hn:0<n):
 ∃b off,A=some ⟨b,off,none⟩/\b<B/\∀k,(hk:k<l.length)->yT w b (off+k*7) (l[k]'hk):=by
 obtain⟨b,off,e,hb,hc⟩:=h.row.U9 hn (by decide);refine⟨b,off,e,hb,fun k hk=>?_⟩;have at':∀j v,j<7->(Dp (l[k]'hk))[j]? =some v->w.cell? ⟨b,off+k*7+j,none⟩=some v:=fun j v hj hv=>by
  rw[Bv];exact hc _ _ ((Sq l k j hk hj).trans hv)
 exact⟨at' 0 _ (by decide) rfl,at' 1 _ (by decide) rfl,at' 2 _ (by decide) rfl,at' 3 _ (by decide) rfl,at' 4 _ (by decide) rfl,at' 5 _ (by decide) rfl,at' 6 _ (by decide) rfl⟩
def Ea(a b:ByteArray):Bool:=Op.bytesLess a.toList b.toList
theorem Vf:∀a b:List UInt8,(!Op.bytesLess a b)=(Op.bytesLess b a||b==a)
 | [],[]=>rfl
 | [],b::y=>by simp[Op.bytesLess]
 |a::x,[]=>by simp[Op.bytesLess]
 |a::x,b::y=>by
  have ih:=Vf x y;rcases ASd a.toNat b.toNat with h|h|h
  ·have h1:a<b:=Bj.2 h
   have h2:¬b<a:=fun h2=>by have:=Bj.1 h2;omega
   have h3:¬b=a:=fun e=>by rw[e]at h;omega
   simp[Op.bytesLess,h1,h2,h3]
  ·have e:=CY.1 h
   subst e;have h1:¬a<a:=fun h1=>by have:=Bj.1 h1;omega
   have e1:Op.bytesLess (a::x) (a::y)=Op.bytesLess x y:=by simp[Op.bytesLess,h1]
   have e2:Op.bytesLess (a::y) (a::x)=Op.bytesLess y x:=by simp[Op.bytesLess,h1]
   have e3:((a::y)==(a::x))=(y==x):=by simp
   rw[e1,e2,e3,ih]
  ·have h1:¬a<b:=fun h1=>by have:=Bj.1 h1;omega
   have h2:b<a:=Bj.2 h;have h3:¬a=b:=fun e=>by rw[e]at h;omega
   simp[Op.bytesLess,h1,h2,h3]
def Kw(p:C8):Int:=if JK (pid p)=true then (if GO (LS p) (LR p) (Iz p)then (if Ih (Ed p) (DZ p)=0 then (if wi (Do p) 0 1073741824=true then 0 else 1)else Ih (Ed p) (DZ p))else 1)else 3
def Ov:ByteArray->List C8->Int
 |_,[]=>0
 |a,p::l=>if Kw p=0 then (if Ea a (pid p)=true then Ov (pid p) l else 3)else Kw p
def GH(l:List C8):Int:=if 6<l.length then 2 else Ov ⟨#[]⟩ l
def Mr(l:List C8)(k:Nat):ByteArray:=if k=0 then ⟨#[]⟩else pid (l.getD (k- 1) ((⟨#[]⟩,(0,0,0),0,[],0),none,0))
theorem TB(l:List C8)(k:Nat)(h:k<l.length):Mr l (k+1)=pid (l[k]'h):=by
 unfold Mr;rw[AC (by omega),Ch];simp[List.getD,h]
theorem re(l:List C8)(a:ByteArray)(k:Nat)(h:k<l.length):Ov a (l.drop k)=if Kw (l[k]'h)=0 then (if Ea a (pid (l[k]'h))=true then Ov (pid (l[k]'h)) (l.drop (k+1))else 3)else Kw (l[k]'h):=by
 rw[Bz h];rfl
theorem Mx{s:ByteArray}(h:JK s=true):1<=s.size/\s.size<=8:=by
 unfold JK at h;rw[Bf]at h;have:=DW.1 h.1;omega
theorem Um{s:ByteArray}(h:1<=s.size):Ea ⟨#[]⟩ s=true:=by
 unfold Ea;rw[Bl,Bl];cases hq:s.data.toList with
 |nil=>exfalso;have:=Ae List.length hq;rw[At]at this;have h2:s.size=0:=this;omega
 |cons b l=>rfl
theorem UD(a b:ByteArray)(v:Bool)(h:Ea a b=v):Op.bytesLess a.toList b.toList=v:=h
theorem Lp(A:Option Addr)(c B n:Nat)(l:List C8)(hm:n<=maxLen)(e0:Int)(he:GH l=e0)(w:World)(hp:Dq w B A n l)(hB:B<=w.heap.size):
 Calls prog 244 #[.slice A n c] w fun e w'=>e=.returned (.int .i64 e0)/\Below w.heap.size w w':=by
 have HP:=I hp;have FK:=I hB;have HN:=I hp.len;clear hp hB;by_cases h6:6<n
 ·have h6':6<(n:Int):=by omega
  have Xu:e0=2:=by rw[<-he];unfold GH;rw[AD (by rw[HN.out];exact h6)]
  subst Xu;clear he;go_in;go_wp2;go_ret;exact⟨rfl,AA⟩
 have HE:=I (show Ov ⟨#[]⟩ l=e0 by rw[<-he];unfold GH;rw[AC (by rw[HN.out];exact h6)]);clear he;go_in;go_wp2_with fail
 go_loopw [12] (fun iv wr=>∃k:Nat,k<=n/\iv=.int .i64 (k:Int)/\Ov (Mr l k) (l.drop k)=e0/\Below w.heap.size w wr) (fun iv _=>n- (RowKit.intOf iv).toNat)
 case atStart=>exact⟨0,by omega,rfl,by simpa [Mr] using HE.out,AA⟩
 case round=>
  obtain⟨k,hk,rfl,hek,FI⟩:=hrel;obtain⟨wo,rfl⟩:∃wo,wo=wr:=⟨_,rfl⟩;by_cases DG:k<n
  ·have ES:k<l.length:=by rw[HN.out];exact DG
   obtain⟨b,off,rfl,hb,EO⟩:=(HP.out.below FI FK.out).addr (by omega);have mh:=EO k ES;have N7:=((HP.out.below FI FK.out)).ok _ (AL ES);have ZH:=re l (Mr l k) k ES;rw[hek]at ZH;have hnx:=TB l k ES;have HPC:=I EO;generalize TJ:l[k]'ES=p at*;have sx:=I TJ;obtain⟨c0,c1,c2,c3,c4,c5,c6⟩:=mh;have HCK:=I ZH;have Ko:=I hnx;have BL:=I FI;have OK:=I N7;have AHu:(pid p).size<=maxLen:=N7.2.2.2;have Ta:(DZ p).length<=maxLen:=AG N7.2.1 N7.2.2.1;have uL:B<=wo.heap.size:=AG FK.out FI.size;have E:=I ((AI wo).lay (Dp p).toArray 187);simp only[Dp]at E;clear ZH hnx FI N7 EO hek TJ
   go_wp2_with fail
   refine(Gt (pid p) AHu _).mono ?_;rintro e' w' ⟨rfl,rfl⟩;cases hid:JK (pid p)
   ·have EV:=I (show e0=3 by have:=HCK.out;unfold Kw at this;rw[hid]at this;simpa using this)
    clear hid;go_wp2;go_ret;exact⟨D7 EV.out.symm,BL.out.alloc BL.out.size _⟩
   ·go_wp2_with fail
    refine(Vz (LS p) (LR p) (Iz p) _).mono ?_;rintro e' w2 ⟨rfl,DK⟩;have E2:=I (E.out.below DK);have BE2:=I (BL.out.trans (E2.out.DI.mono BL.out.size));clear DK;have x0:=E2.out.hd.cell 0;have x1:=E2.out.hd.cell 1;have x2:=E2.out.hd.cell 2;have x3:=E2.out.hd.cell 3;have x4:=E2.out.hd.cell 4;have x5:=E2.out.hd.cell 5;have x6:=E2.out.hd.cell 6;simp at x0 x1 x2 x3 x4 x5 x6;by_cases hg:GO (LS p) (LR p) (Iz p)
    ·have LU:bF (LS p) (LR p) (Iz p)=0:=AD hg
     rw[LU];clear LU;go_wp2_with fail
     refine(Lj (Ed p) p.2.1 p.2.2 B (DZ p).length (DZ p) rfl _ rfl Ta _ (OK.out.1.below E2.out.DI uL) (AG uL E2.out.DI.size)).mono ?_;rintro e' w3 ⟨rfl,DT⟩;have E3:=I (E2.out.below DT);have xn:=I (BL.out.trans (E3.out.DI.mono BL.out.size));clear DT x0 x1 x2 x3 x4 x5 x6;have x0:=E3.out.hd.cell 0;have x1:=E3.out.hd.cell 1;have x2:=E3.out.hd.cell 2;have x3:=E3.out.hd.cell 3;have x4:=E3.out.hd.cell 4;have x5:=E3.out.hd.cell 5;have x6:=E3.out.hd.cell 6;simp at x0 x1 x2 x3 x4 x5 x6;by_cases hw:Ih (Ed p) (DZ p)=0
     ·rw[hw]
      cases hlw:wi (Do p) 0 1073741824
      ·have EV:=I (show e0=1 by have:=HCK.out;unfold Kw at this;rw[hid]at this;simpa [hg,hw,hlw] using this)
       have I4:=Fc.1 hlw;generalize Do p=lp at*;go_wp2;all_goals first
        |(exfalso;omega)
        |(go_ret;exact⟨D7 EV.out.symm,xn.out⟩)
      ·have ZT:=I (show e0=if Ea (Mr l k) (pid p)=true then Ov (pid p) (l.drop (k+1))else 3 by have:=HCK.out;unfold Kw at this;rw[hid]at this;simpa [hg,hw,hlw] using this)
       obtain⟨NK,I4⟩:=DW.1 hlw;have AG5:=(Mx hid).1;clear hid hw hg hlw;rcases Ac k with bj|bj
       ·subst bj
        have hle:Ea (Mr l 0) (pid p)=true:=Um AG5;have HC3:=I (show Ov (Mr l (0+1)) (l.drop (0+1))=e0 by have:=ZT.out;rw[hle,AD rfl]at this;rw[Ko.out];exact this.symm);clear hle;go_wp2_with fail
        go_region
        all_goals
         go_wp2;exact⟨⟨0+1,by omega,by simp,HC3.out,by first|exact xn.out|exact xn.out.drew⟩,by simp[RowKit.intOf];omega⟩
       ·obtain⟨k',rfl⟩:∃k',k=k'+1:=⟨k- 1,by omega⟩
        have zP:k'<l.length:=by omega
        have hpv:=TB l k' zP;have hqc:=HPC.out k' zP;generalize l[k']'zP=q at*;have y0:=(E3.out.DI.cell (p:=⟨b,off+k'*7,none⟩) (AJ hb uL)).trans hqc.1;have XA:((k'+1:Nat):Int)- 1=(k':Int):=by omega
        have MR:0<((k'+1:Nat):Int):=by omega
        have HC4:=I (show e0=if Ea (pid q) (pid p)=true then Ov (pid p) (l.drop (k'+1+1))else 3 by have:=ZT.out;rw[hpv]at this;exact this);clear hqc hpv;cases hle:Ea (pid q) (pid p)
        ·have EV:=I (show e0=3 by have:=HC4.out;rw[hle]at this;simpa using this)
         have hlq:=UD _ _ _ hle;clear hle;go_wp2_with fail
         go_region
         all_goals
          go_wp2;go_ret;exact⟨D7 EV.out.symm,by first|exact xn.out|exact xn.out.drew⟩
        ·have EV:=I (show Ov (Mr l (k'+1+1)) (l.drop (k'+1+1))=e0 by have:=HC4.out;rw[hle,AD rfl]at this;rw[Ko.out];exact this.symm)
         have hlq:=UD _ _ _ hle;clear hle;go_wp2_with fail
         go_region
         all_goals
          go_wp2;exact⟨⟨k'+1+1,by omega,by simp,EV.out,by first|exact xn.out|exact xn.out.drew⟩,by simp[RowKit.intOf];omega⟩
     ·have EV:=I (show e0=Ih (Ed p) (DZ p)by have:=HCK.out;unfold Kw at this;rw[hid]at this;simpa [hg,hw] using this)
      generalize Ih (Ed p) (DZ p)=ew at*;go_wp2;all_goals first
       |(exfalso;omega)
       |(go_ret;exact⟨D7 EV.out.symm,xn.out⟩)
    ·have EV:=I (show e0=1 by have:=HCK.out;unfold Kw at this;rw[hid]at this;simpa [hg] using this)
     have LU:bF (LS p) (LR p) (Iz p)=1:=AC hg;rw[LU];go_wp2;go_ret;exact⟨D7 EV.out.symm,BE2.out⟩
  ·have EV:=I (show e0=0 by rw[<-hek,Cu (by rw[HN.out];omega)];rfl)
   have BL:=I FI;clear hek FI;go_wp2;go_ret;exact⟨D7 EV.out.symm,BL.out⟩
theorem JX(x:Int)(w:World):
 Calls prog 51 #[.int .i64 x] w fun e w'=>e=.returned (.bool (wi x 0 1073741824))/\w=w':=by
 go_in;go_wp2_with (go_at_call 53;refine(Fr _ _ _ _).mono ?_;rintro e w' ⟨rfl,rfl⟩)
 all_goals (go_ret;simp[*])
theorem gI{a b:ByteArray}(h:Ea a b=false):Op.bytesLess b.toList a.toList=true\/(Op.bytesLess b.toList a.toList=false/\(b.toList==a.toList)=true):=by
 have:=Vf a.toList b.toList;unfold Ea at h;rw[h]at this;cases hb:Op.bytesLess b.toList a.toList
 ·right
  rw[hb]at this;exact⟨rfl,by simpa using this.symm⟩
 ·exact .inl rfl
