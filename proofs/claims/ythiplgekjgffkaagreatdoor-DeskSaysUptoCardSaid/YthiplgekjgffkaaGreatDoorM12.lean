/- The reference's bytes an -/
import Derived.Test.YthiplgekjgffkaaGreatDoorM08
import Derived.Deep.DeepCutAuto
set_option maxRecDepth 100000
set_option maxHeartbeats 99000000
set_option linter.all false
namespace Go.Proofs.YthiplgekjgffkaaGreatDoor
open Go.Proofs.Tryz
open Go.RowKit Go.Lib
def bN:Nat->Int->List UInt8|0,_=>[]|k+1,n=>bN k (n/256)++[u8 (n%256)]
theorem ABZ(k:Nat)(n:Int):(bN k n).length=k:=by
 induction k generalizing n with
 |zero=>rfl
 |succ k ih=>rw[bN,AN,ih];rfl
theorem ABM(n:Int)(h0:0<=n)(h1:n<4294967296):bN 4 n=b4 n:=by
 simp only[bN,b4,Cm,Cg,List.singleton_append];rw[show n/256/256/256%256=n/16777216 by omega,show n/256/256%256=n/65536%256 by omega]
theorem Below.tq{w W:World}{o:Obj}(h:Below w.heap.size w W):Below w.heap.size w (W.alloc o):=h.alloc h.size _
theorem Below.Sx{w X W:World}(h:Below w.heap.size w X)(h2:Below X.heap.size X W):Below w.heap.size w W:=h.trans (h2.mono h.size)
@[go_sem ↓] theorem ACH {P:Program} {w:World} (x y:List UInt8) (h:x.length+y.length<=8388608):(Op.stringOp .add ⟨x.toArray⟩ ⟨y.toArray⟩).run P w=.ok (.string ⟨(x++y).toArray⟩) w:=
 run_string_add_lists w x y (by omega) (by omega)
theorem Kg:∀(k:Nat)(n:Int)(hk:k<=4)(h0:0<=n)(h1:n<=9223372036854775807)(w:World),
 Calls prog 226 #[.int .i64 n,.int .i64 k] w fun e w'=>e=.returned (.string ⟨(bN k n).toArray⟩)/\Below w.heap.size w w'
 |0,n,hk,h0,h1,w=>by
  go_in;go_wp2;go_ret;exact⟨rfl,AA⟩
 |k+1,n,hk,h0,h1,w=>by
  have IH:=I (fun w=>Kg k (n/256) (by omega) (by omega) (by omega) w);have YU:0<=n/256:=by omega
  have hr0:0<=n%256:=by omega
  have hr1:n%256<256:=by omega
  have HL:=I (ABZ k (n/256));have HD:=I (show bN (k+1) n=bN k (n/256)++[u8 (n%256)]from rfl);generalize bN k (n/256)=L at*;go_in
  go_upto_region 3 with fail
  have mz:n.tdiv 256=n/256:=Cw h0;have hq2:IntKind.i64.wrap (n/256)=n/256:=Ca _ (by omega);have Et:IntKind.i64.wrap (k:Int)=(k:Int):=Ca _ (by omega);have dG:n.tmod 256=n%256:=Int.tmod_eq_emod_of_nonneg h0;have cM:IntKind.u8.wrap (n%256)=n%256:=by rw[AS2];omega
  have hlen:L.length+1<=8388608:=by have:=HL.out;omega
  have u5:∀X:World,(convert 42 9 (.slice (some ⟨X.heap.size,0,none⟩) 1 1)).run prog (X.alloc (.cells #[.int .u8 (n%256)] 5))=.ok (.string ⟨#[u8 (n%256)]⟩) (X.alloc (.cells #[.int .u8 (n%256)] 5)):=
   fun X=>Gp [n%256] (DJ.new X 5 _) 1 1 rfl
  have hcd:∀X:World,(convert 42 9 (.slice (some ⟨X.heap.size,0,none⟩) 1 1)).run prog (X.alloc (.cells #[.int .u8 (n%256)] 5)).drew=.ok (.string ⟨#[u8 (n%256)]⟩) (X.alloc (.cells #[.int .u8 (n%256)] 5)).drew:=
   fun X=>Gp [n%256] (DJ.new X 5 _).drew 1 1 rfl
  go_cut [4] (fun s4 wx=>s4=.string ⟨(L++[u8 (n%256)]).toArray⟩/\Below w.heap.size w wx)
  case first=>
   go_region_with (go_at_call 226;(with_reducible refine(IH.out _).mono ?_);rintro e' w1 ⟨rfl,C6⟩;(try (have Qi:(convert 42 9 (.slice (some ⟨w.heap.size,0,none⟩) 1 1)).run prog w1=.ok (.string ⟨#[u8 (n%256)]⟩) w1:=Gp [n%256] (by first|exact(DJ.new _ 5 _).below C6 (by simp)|exact(DJ.new _ 5 _).drew.below C6 (by simp)) 1 1 rfl));have jQ:Below w.heap.size w w1:=Below.Sx (by repeat (with_reducible first|exact AA|refine AE ?_|refine Below.tq ?_)) C6)
   all_goals
    go_wp2_with fail
    go_meet
    refine⟨rfl,?_⟩;repeat (with_reducible first|exact jQ|exact AA|refine AE ?_|refine Below.tq ?_)
  case rest=>
   obtain⟨rfl,DY⟩:=hcut;go_wp2;go_ret;exact⟨by rw[HD.out];rfl,DY⟩
def I2(l:List UInt8):Int:=l.foldl (fun n x=>256*n+x.toNat) 0
theorem Xd(l:List UInt8)(x:UInt8):I2 (l++[x])=256*I2 l+x.toNat:=by simp[I2,ASg]
theorem vK(l:List UInt8)(h:l.length<=4):0<=I2 l/\I2 l<256^l.length:=by
 have key:∀m:List UInt8,0<=I2 m.reverse/\I2 m.reverse<256^m.length:=by
  intro m;induction m with
  |nil=>simp[I2]
  |cons x m ih=>
   rw[List.reverse_cons,Xd,AP,Int.pow_succ];have:=BZ x;omega
 have:=key l.reverse
 simpa using this
theorem dj(s:ByteArray)(h:s.size=4)(w:World):
 Calls prog 228 #[.string s] w fun e w'=>e=.returned (.int .i64 (I2 s.data.toList))/\w=w':=by
 have hlen:s.data.toList.length=4:=by rw[At];exact h
 have HB:=I (show∀k,k<=4->0<=I2 (s.data.toList.take k)/\I2 (s.data.toList.take k)<4294967296 from fun k hk=>by
  have:=vK (s.data.toList.take k) (by rw[AV];omega);have h2:(s.data.toList.take k).length<=4:=by rw[AV];omega
  have h3:(256:Nat)^(s.data.toList.take k).length<=256^4:=Ax (by omega) h2;have h5:(256:Int)^(s.data.toList.take k).length=((256^(s.data.toList.take k).length:Nat):Int):=(ATX 256 _).symm;have h4:(256:Nat)^4=4294967296:=by decide
  omega)
 have HN:=I (show∀k (hk:k<s.size),I2 (s.data.toList.take (k+1))=256*I2 (s.data.toList.take k)+(s[k]).toNat from fun k hk=>by
  have h2:k<s.data.toList.length:=by omega
  rw[ASy,AU h2,Option.toList_some,Xd];rfl)
 have HL:=I (show I2 (s.data.toList.take 4)=I2 s.data.toList by rw[AY (by omega)]);have H4:=I h;clear hlen;go_in;go_wp2;go_loop [3,7] (fun v i=>∃k:Nat,k<=4/\i=.int .i64 k/\v=.int .i64 (I2 (s.data.toList.take k))) (fun _ i=>4- (intOf i).toNat)
 case atStart=>exact⟨0,by omega,rfl,rfl⟩
 case round=>
  obtain⟨k,hk,rfl,rfl⟩:=hrel;obtain⟨b0,b1⟩:=HB.out k hk;by_cases DG:k<4
  ·have Nq:k<s.size:=by omega
   have HX:=I (HN.out k Nq);have hb:(s[k]).toNat<256:=BZ _;generalize I2 (s.data.toList.take k)=v at*;go_wp2;exact⟨⟨k+1,DG,by simp,by rw[HX.out]⟩,by simp[intOf];omega⟩
  ·have LZ:k=4:=by omega
   subst LZ;have Yc:=HL.out;generalize I2 (s.data.toList.take 4)=v at*;have sQ:=I Yc;clear Yc;go_wp2;go_ret;exact⟨D7 sQ.out,rfl⟩
theorem AAw(a b c d:Nat)(ha:a<256)(hb:b<256)(hc:c<256)(hd:d<256):
 (a*16777216 ||| b*65536 ||| c*256 ||| d)=((a*256+b)*256+c)*256+d:=by
 have e1:a*16777216 ||| b*65536=a*16777216+b*65536:=by
  have:=ATN (i:=24) (b:=b*65536) (by omega) a;rw[show a*16777216=2^24*a by omega];omega
 have e2:(a*16777216+b*65536) ||| c*256=a*16777216+b*65536+c*256:=by
  have:=ATN (i:=16) (b:=c*256) (by omega) (a*256+b);rw[show a*16777216+b*65536=2^16*(a*256+b)by omega];omega
 have e3:(a*16777216+b*65536+c*256) ||| d=a*16777216+b*65536+c*256+d:=by
  have:=ATN (i:=8) (b:=d) (by omega) ((a*256+b)*256+c);rw[show a*16777216+b*65536+c*256=2^8*((a*256+b)*256+c)by omega];omega
 rw[e1,e2,e3];omega
theorem QW(a b:Nat)(ha:a<9223372036854775808)(hb:b<9223372036854775808):bits .or .i64 (a:Int) (b:Int)=((a ||| b:Nat):Int):=by
 have hx:a ||| b<2^63:=ATd (by omega) (by omega);show IntKind.i64.wrap ((BitVec.ofInt 64 (a:Int) ||| BitVec.ofInt 64 (b:Int)).toNat:Int)=_;rw[BitVec.toNat_or,ASk a (by omega),ASk b (by omega)];exact Ca _ (by omega)
def Fh(s:ByteArray)(i:Nat):UInt8:=s.data.toList.getD i 0
theorem JT(s:ByteArray)(i:Nat)(h:i<s.size):s[i]=Fh s i:=by
 have h2:i<s.data.toList.length:=by rw[At];exact h
 simp[Fh,List.getD,AU h2];rfl
def FD(s:ByteArray)(i:Nat):Int:=I2 [Fh s i,Fh s (i+1),Fh s (i+2),Fh s (i+3)]
theorem Es(s:ByteArray)(a b i:Nat)(hb:b<=s.size)(h:a+i<b):Fh (s.extract a b) i=Fh s (a+i):=by
 have h1:i<(s.extract a b).size:=by rw[CI];omega
 rw[<-JT _ _ h1,<-JT s (a+i) (by omega),ByteArray.getElem_extract]
theorem NP(s:ByteArray)(a b i:Nat)(hb:b<=s.size)(h:a+i+3<b):FD (s.extract a b) i=FD s (a+i):=by
 unfold FD;rw[Es s a b i hb (by omega),Es s a b (i+1) hb (by omega),Es s a b (i+2) hb (by omega),Es s a b (i+3) hb (by omega)];rfl
theorem mI(s:ByteArray)(h:s.size=4):I2 s.data.toList=FD s 0:=by
 have h2:s.data.toList.length=4:=by rw[At];exact h
 unfold FD Fh
 match hl:s.data.toList,h2 with
 | [a,b,c,d],_=>rfl
theorem VR(s:ByteArray)(h:4<=s.size)(w:World):
 Calls prog 252 #[.string s] w fun e w'=>e=.returned (.int .i64 (FD s 0))/\Below w.heap.size w w':=by
 have ha:=BZ s[0];have hb:=BZ s[1];have hc:=BZ s[2];have hd:=BZ s[3];have HV:=I (show bits .or .i64 (bits .or .i64 (bits .or .i64 ((s[0].toNat:Int)*16777216) ((s[1].toNat:Int)*65536)) ((s[2].toNat:Int)*256)) (s[3].toNat:Int)=FD s 0 by
  unfold FD;rw[<-JT s 0 (by omega),<-JT s (0+1) (by omega),<-JT s (0+2) (by omega),<-JT s (0+3) (by omega)];show _=I2 [s[0],s[1],s[2],s[3]];generalize s[0]=a at*;generalize s[1]=b at*;generalize s[2]=c at*;generalize s[3]=d at*;have e1:(a.toNat:Int)*16777216=((a.toNat*16777216:Nat):Int):=by omega
  have e2:(b.toNat:Int)*65536=((b.toNat*65536:Nat):Int):=by omega
  have e3:(c.toNat:Int)*256=((c.toNat*256:Nat):Int):=by omega
  have o1:a.toNat*16777216 ||| b.toNat*65536<2^32:=ATd (by omega) (by omega);have o2:a.toNat*16777216 ||| b.toNat*65536 ||| c.toNat*256<2^32:=ATd o1 (by omega);rw[e1,e2,e3,QW _ _ (by omega) (by omega),QW _ _ (by omega) (by omega),QW _ _ (by omega) (by omega),AAw _ _ _ _ ha hb hc hd];simp[I2];omega)
 have l0:(0:Nat)<s.size:=by omega
 have l1:(1:Nat)<s.size:=by omega
 have l2:(2:Nat)<s.size:=by omega
 have l3:(3:Nat)<s.size:=by omega
 have i0:(0:Int)<(s.size:Int):=by omega
 have i1:(1:Int)<(s.size:Int):=by omega
 have i2:(2:Int)<(s.size:Int):=by omega
 have i3:(3:Int)<(s.size:Int):=by omega
 go_in;go_wp2;go_region
 go_wp2;go_ret;refine⟨D7 ?_,AA.drew⟩;exact HV.out
