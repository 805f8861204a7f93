/- A whole array stored int -/
import Derived.Test.YthiplgekjgffkaaGreatDoorM04
import Derived.Test.YthiplgekjgffkaaGreatDoorM02
import Derived.Deep.WholeRow
set_option maxRecDepth 100000
set_option maxHeartbeats 99000000
set_option linter.all false
namespace Go.Proofs.YthiplgekjgffkaaGreatDoor
open Go.Proofs.Tryz
open Go.RowKit
section
variable{P:Program}
theorem wpList_store_row{ops:Array Oper}{rest:List Oper}{op:Oper}{a:Act}{w:World}{Q:Exit->Act->World->Prop}(La:op.guard=none)(ty:TypeId)(x y:Operand)(ho:op.op=.store ty x y)
 (g:Nat) (Nz cells:Array Value) (t:TypeId) (hx:a.eval x=.pointer (some ⟨g,0,none⟩)) (hy:a.eval y=.agg cells)
 (hg:w.heap[g]? =some (.cells Nz t (0,0))) (hi:(P.info? ty).map (·.size)=some cells.size) (ER:Nz.size=cells.size) (h1:cells.all (·.oneCell')=true)
 (h:wpList P ops Q rest (a.put op.dst undef) (w.setRow g cells)):wpList P ops Q (op::rest) a w:=
 ASh La fun _ hK=>by
  unfold Oper.wp execOp;simp only[ho,hx,hy,Instr.storeAt,Instr.sureAddr,Sem.run_bind,Sem.run_pure,Result.andThen_ok,run_storeVar_row w g t ty Nz cells hg hi ER h1];exact hK _ _ h
end
theorem Xq{B g:Nat}{w0 w:World}(hb:Below B w0 w)(hBg:B<=g)(cs:Array Value):Below B w0 (w.setRow g cs):=
 hb.trans ⟨rfl,rfl,rfl,by simp,fun k hk=>ATa w g k cs (by omega)⟩
theorem Env.setRow{w0 W:World}{l:List (Nat×TypeId×Array Value)}{g:Nat}{t:TypeId}{cs:Array Value}(h:Env w0 W ((g,t,cs)::l))(hd:∀x∈l,x.1≠g)(c':Array Value):
 Env w0 (W.setRow g c') ((g,t,c')::l):=by
 have hg:=(h.2 _ (Ay ..)).1;refine⟨Xq h.1 hg _,fun x hx=>?_⟩;rcases AR.1 hx with rfl|hx
 ·exact⟨hg,ATb W g cs c' t (0,0) h.hd⟩
 ·have:=h.2 x (Am _ hx)
  exact⟨this.1,(ATa W g x.1 c' (hd x hx)).trans this.2⟩
theorem Env.yo{w0 W:World}{l:List (Nat×TypeId×Array Value)}{g:Nat}{t:TypeId}{cs:Array Value}(h:Env w0 W ((g,t,cs)::l))(hd:∀x∈l,x.1≠g)(i:Nat)(u:Value):
 Env w0 (W.setCell ⟨g,i,none⟩ u) ((g,t,cs.setIfInBounds i u)::l):=by
 have hg:=(h.2 _ (Ay ..)).1;refine⟨h.1.setCell hg _,fun x hx=>?_⟩;rcases AR.1 hx with rfl|hx
 ·exact⟨hg,h.hd.De i u⟩
 ·have:=h.2 x (Am _ hx)
  exact⟨this.1,this.2.Je (p:=⟨g,i,none⟩) (hd x hx) u⟩
def JZ(f:Nat->Nat):Array Value:=((List.range 256).map fun j=>Value.int .u32 (f j:Int)).toArray
theorem Ip(f:Nat->Nat):(JZ f).size=256:=by simp[JZ]
theorem T4(f:Nat->Nat)(j:Nat)(h:j<256):(JZ f)[j]? =some (.int .u32 (f j:Int)):=by simp[JZ,h]
theorem aq(f:Nat->Nat):(JZ f).all (·.oneCell')=true:=by
 rw[Array.all_eq_true_iff_forall_mem];intro v hv;simp[JZ]at hv;obtain⟨j,_,rfl⟩:=hv;rfl
theorem ru(f:Nat->Nat)(k v:Nat):(JZ f).setIfInBounds k (.int .u32 (v:Int))=JZ (fun j=>if j=k then v else f j):=by
 apply Array.ext_getElem?;intro i;rw[AUH];by_cases hi:i<256
 ·rw[T4 _ i hi,T4 _ i hi,Ip]
  by_cases e:k=i
  ·subst e;simp[hi]
  ·have e':¬i=k:=fun h=>e h.symm
   simp[e,e']
 ·have h1:(JZ (fun j=>if j=k then v else f j))[i]? =none:=AUL (by rw[Ip];omega)
  have h2:(JZ f)[i]? =none:=AUL (by rw[Ip];omega);rw[h1,h2,Ip];by_cases e:k=i
  ·subst e;simp[hi]
  ·simp[e]
theorem Zp:(Tryz.prog.info? 304).map (fun i=>(i.zero,i.size))=some (some (.agg (JZ fun _=>0)),256):=by kernel_rfl
theorem and_one(c:Nat)(h:c<4294967296):(bits BinOp.and IntKind.u32 (c:Int) 1==1)=(c%2==1):=by
 have:=u32_and_nat c 1 h (by omega);rw[show((1:Nat):Int)=1 from rfl]at this;rw[this,nat_mask1,ATj,CF,CF];omega
theorem ju(w:World):
 Calls prog 283 #[] w fun e w'=>e=.returned (.agg (JZ (Gw.Jk 8)))/\Below w.heap.size w w':=by
 obtain⟨hz,hi⟩:=zero_of_info Zp;have HI:=I hi;generalize hZ:JZ (fun _=>0)=Z at*;have HZ:=I hZ;have E:=I (((AI w).lay Z 304).lay Z 304);clear hZ hi;go_in;go_wp2;go_loopw [2,3,4,9] (fun _ _ i _ wr=>∃k:Nat,k<=256/\i=.int .i64 k/\Env w wr [(w.heap.size+1,304,JZ fun j=>if j<k then Gw.Jk 8 j else 0),(w.heap.size,304,Z)]) (fun _ _ i _ _=>256- (intOf i).toNat)
 case atStart=>
  refine⟨0,by omega,rfl,?_⟩;have e:(JZ fun j=>if j<0 then Gw.Jk 8 j else 0)=Z:=by rw[<-HZ.out];simp
  rw[e]
  simpa using E.out
 case round=>
  obtain⟨k,hk,rfl,hE⟩:=hrel;have F:=I hE;clear hE;by_cases DG:k<256
  ·have x0:=F.out.hd.cell k
   rw[T4 _ k DG]at x0;have f0:=F.out.hd.frozen k;go_wp2;go_loop [3,9] (fun c i=>∃j:Nat,j<=8/\i=.int .i64 j/\c=.int .u32 (Gw.Jk j k:Nat)) (fun _ i=>8- (intOf i).toNat)
   case atStart=>exact⟨0,by omega,rfl,rfl⟩
   case round=>
    obtain⟨j,hj,rfl,rfl⟩:=hrel;have hb:Gw.Jk j k<4294967296:=Gw.VF (by omega) j;have GB:=I (show Gw.Jk (j+1) k=Gw.st (Gw.Jk j k)from rfl);have H8:=I (show j=8->Gw.Jk 8 k=Gw.Jk j k from fun e=>by rw[e]);generalize Gw.Jk j k=c at*;by_cases IJ:j<8
    ·have P4:=and_one c hb
     rcases ATA c with hp|hp
     ·have hq:(bits BinOp.and IntKind.u32 (c:Int) 1==1)=false:=by rw[P4];simp[hp]
      have HV:=I (show Gw.st c=c/2 by unfold Gw.st;rw[AC (by omega)]);clear P4 hp;go_wp2;go_round
      case rel=>exact⟨j+1,IJ,by simp,by rw[GB.out,HV.out];simp⟩
      case measure=>simp[intOf];omega
     ·have hq:(bits BinOp.and IntKind.u32 (c:Int) 1==1)=true:=by rw[P4];simp[hp]
      have HV:=I (show Gw.st c=(c/2) ^^^ 3988292384 by unfold Gw.st Gw.rW;rw[AD hp]);have uv:=I (show bits BinOp.xor IntKind.u32 ((c:Int)/2) 3988292384=(((c/2) ^^^ 3988292384:Nat):Int)by
       have:=u32_xor_nat (c/2) 3988292384 (by omega) (by omega)
       simpa using this)
      clear P4 hp;go_wp2;go_round
      case rel=>exact⟨j+1,IJ,by simp,by rw[GB.out,HV.out,uv.out]⟩
      case measure=>simp[intOf];omega
    ·have h8:j=8:=by omega
     have HV:=I (H8.out h8);have hj8:8<=j:=by omega
     clear h8;go_wp2
     go_roundw
     case rel=>
      refine⟨k+1,DG,by simp,?_⟩;have:=F.out.yo (by simp) k (.int .u32 (c:Int));rw[ru]at this;have e:(fun j=>if j=k then c else if j<k then Gw.Jk 8 j else 0)=(fun j=>if j<k+1 then Gw.Jk 8 j else 0):=by
       funext j
       by_cases e1:j=k
       ·subst e1;rw[AD rfl,AD (by omega),HV.out]
       ·rw[AC e1]
        by_cases e2:j<k
        ·rw[AD e2,AD (by omega)]
        ·rw[AC e2,AC (by omega)]
      rw[e]at this;exact this
     case measure=>simp[intOf];omega
  ·have Et:k=256:=by omega
   have HT:=I (show JZ (fun j=>if j<k then Gw.Jk 8 j else 0)=JZ (Gw.Jk 8)by
    unfold JZ;congr 1;apply List.map_congr_left;intro j hj;have:j<k:=by simp at hj;omega
    simp[this])
   have IG:256<=k:=by omega
   clear Et;have F2:=I (show Env w wr [(w.heap.size+1,304,JZ (Gw.Jk 8)),(w.heap.size,304,Z)]by rw[<-HT.out];exact F.out);have F3:=I (show Env w wr [(w.heap.size,304,Z)]from F2.out.tl);have hT1:=aq (Gw.Jk 8);have hTs:=Ip (Gw.Jk 8);have HIT:=I (show(Tryz.prog.info? 304).map (·.size)=some (JZ (Gw.Jk 8)).size by rw[hTs];exact HI.out);have HZS:=I (show Z.size=(JZ (Gw.Jk 8)).size by rw[hTs,<-HZ.out,Ip]);have tK:=I hT1;clear hT1 hTs F HT;generalize hTT:JZ (Gw.Jk 8)=T at*;have HTT:=I hTT;clear hTT;go_wp2_with (first
    |(refine wpList_load_row rfl 304 _ rfl (w.heap.size+1) rfl 304 T (0,0) _ F2.out.hd underlying304 rfl HIT.out ?_)
    |(refine wpList_store_row rfl 304 _ _ rfl w.heap.size Z T 304 rfl rfl F3.out.hd HIT.out HZS.out tK.out ?_))
   refine AF (v:=.agg T) (results_cell_row results283 _ _ w.heap.size 304 T (0,0) _ rfl (ATb wr w.heap.size Z T 304 (0,0) F3.out.hd) underlying304 rfl HIT.out) rfl ⟨by rw[<-HTT.out],?_⟩;exact Xq F3.out.DI AB _
theorem wK(c:Nat)(hc:c<4294967296):wrap64 (bits BinOp.xor IntKind.u32 IntKind.u32.max (c:Int))=((4294967295-c:Nat):Int):=by
 have e:IntKind.u32.max=((4294967295:Nat):Int):=by decide
 rw[e,u32_xor_nat 4294967295 c (by omega) hc,Nat.xor_comm,Gw.flip c hc];exact IntWalk.wrap64_in _ (by omega)
theorem ZY(a b:Nat)(ha:a<9223372036854775808)(hb:b<9223372036854775808):bits .and .i64 (a:Int) (b:Int)=((a &&& b:Nat):Int):=by
 have hx:a &&& b<2^63:=Nat.and_lt_two_pow _ (by omega);show IntKind.i64.wrap ((BitVec.ofInt 64 (a:Int) &&& BitVec.ofInt 64 (b:Int)).toNat:Int)=_;rw[BitVec.toNat_and,ASk a (by omega),ASk b (by omega)];exact Ca _ (by omega)
theorem OM(a b:Nat)(ha:a<9223372036854775808)(hb:b<9223372036854775808):bits .xor .i64 (a:Int) (b:Int)=((a ^^^ b:Nat):Int):=by
 have hx:a ^^^ b<2^63:=ATP (by omega) (by omega);show IntKind.i64.wrap ((BitVec.ofInt 64 (a:Int) ^^^ BitVec.ofInt 64 (b:Int)).toNat:Int)=_;rw[BitVec.toNat_xor,ASk a (by omega),ASk b (by omega)];exact Ca _ (by omega)
theorem ACJ(s:ByteArray)(h:20000<s.size)(hm:s.size<=maxLen)(w:World):
 Calls prog 250 #[.string s] w fun e w'=>e=.returned (.tuple #[.int .i64 0,.int .i64 2])/\Below w.heap.size w w':=by
 unfold maxLen at hm;go_in;go_wp2;refine AF (v:=.tuple #[.int .i64 0,.int .i64 2]) (by simp[results,results250,go_sem]) rfl ⟨rfl,AA⟩
theorem nC(s:ByteArray)(h:s.size<=20000)(w:World):
 Calls prog 250 #[.string s] w fun e w'=>e=.returned (.tuple #[.int .i64 ((4294967295-Gw.upto s s.size:Nat):Int),.int .i64 0])/\Below w.heap.size w w':=by
 obtain⟨hz,hi⟩:=zero_of_info Zp;have HTA:=I (T4 (Gw.Jk 8));have hT1:=aq (Gw.Jk 8);have hTs:=Ip (Gw.Jk 8);have HIT:=I (show(Tryz.prog.info? 304).map (·.size)=some (JZ (Gw.Jk 8)).size by rw[hTs];exact hi);have HZS:=I (show(JZ fun _=>0).size=(JZ (Gw.Jk 8)).size by rw[hTs,Ip]);have tK:=I hT1;have AGs:=I (fun w=>ju w);clear hT1 hTs hi;generalize JZ (fun _=>0)=Z at*;generalize JZ (Gw.Jk 8)=T at*;go_in;go_wp2_with fail
 refine(AGs.out _).mono ?_;rintro e' w1 ⟨rfl,C6⟩;have E1:=I (((AI w).below C6).lay Z 304);clear C6;go_wp2_with (refine wpList_store_row rfl 304 _ _ rfl w1.heap.size Z T 304 rfl rfl E1.out.hd HIT.out HZS.out tK.out ?_)
 have E2:=I (E1.out.setRow (by simp) T);clear E1;generalize hW:World.setRow _ _ _=W at*;clear hW;go_loop [5,6,13] (fun c _ i=>∃k:Nat,k<=s.size/\i=.int .i64 k/\c=.int .u32 (Gw.upto s k:Nat)) (fun _ _ i=>s.size- (intOf i).toNat)
 case atStart=>exact⟨0,by omega,rfl,rfl⟩
 case round=>
  obtain⟨k,hk,rfl,rfl⟩:=hrel;have hc:Gw.upto s k<4294967296:=Gw.nk s k hk;by_cases DG:k<s.size
  ·have hb:(s[k]).toNat<256:=BZ _
   have VP:=I (Gw.Yu s k DG);have HS8:=I (Gw.AEt (Gw.upto s k) (s[k]).toNat hb);generalize Gw.upto s k=c at*;have hx:(c%256) ^^^ (s[k]).toNat<256:=ATP (n:=8) (by omega) (by omega);have hxo:bits BinOp.xor IntKind.u8 ((c:Int)%256) ((s[k]).toNat:Int)=(((c%256) ^^^ (s[k]).toNat:Nat):Int):=by
    have:=u8_xor_nat (c%256) (s[k]).toNat (by omega) hb
    simpa using this
   have y0:=(E2.out.hd.cell ((c%256) ^^^ (s[k]).toNat)).trans (HTA.out _ hx);have tO:Gw.Jk 8 ((c%256) ^^^ (s[k]).toNat)<4294967296:=Gw.VF (by omega) 8;have HX2:=I (show bits BinOp.xor IntKind.u32 ((c:Int)/256) ((Gw.Jk 8 ((c%256) ^^^ (s[k]).toNat):Nat):Int)=(((c/256) ^^^ Gw.Jk 8 ((c%256) ^^^ (s[k]).toNat):Nat):Int)by
    have:=u32_xor_nat (c/256) (Gw.Jk 8 ((c%256) ^^^ (s[k]).toNat)) (by omega) tO
    simpa using this)
   generalize hxx:(c%256) ^^^ (s[k]).toNat=x at*;have HXX:=I hxx;clear hxx;generalize Gw.Jk 8 x=tv at*;go_wp2;exact⟨⟨k+1,DG,by simp,by rw[VP.out,HS8.out,HX2.out]⟩,by simp[intOf];omega⟩
  ·have Nq:k=s.size:=by omega
   have HF:=I (show wrap64 (bits BinOp.xor IntKind.u32 IntKind.u32.max (Gw.upto s k:Nat))=((4294967295-Gw.upto s s.size:Nat):Int)by rw[<-Nq];exact wK _ hc);have Et:s.size<=k:=by omega
   clear Nq;generalize Gw.upto s k=c at*;go_wp2;refine AF (v:=.tuple #[.int .i64 (wrap64 (bits BinOp.xor IntKind.u32 IntKind.u32.max (c:Int))),.int .i64 0]) (by simp[results,results250,go_sem]) rfl ⟨by rw[HF.out],E2.out.DI⟩
theorem Yq(s:ByteArray)(h:s.size<=20000)(w:World):
 Calls prog 227 #[.string s] w fun e w'=>e=.returned (.int .i64 ((4294967295-Gw.upto s s.size:Nat):Int))/\w=w':=by
 go_in;go_wp2;go_loop [3,4,5,8,17] (fun c _ _ i _=>∃k:Nat,k<=s.size/\i=.int .i64 k/\c=.int .i64 (Gw.upto s k:Nat)) (fun _ _ _ i _=>s.size- (intOf i).toNat)
 case atStart=>exact⟨0,by omega,rfl,rfl⟩
 case round=>
  obtain⟨k,hk,rfl,rfl⟩:=hrel;have hc:Gw.upto s k<4294967296:=Gw.nk s k hk;by_cases DG:k<s.size
  ·have hb:(s[k]).toNat<256:=BZ _
   have VP:=I (Gw.Yu s k DG);generalize Gw.upto s k=c at*;have hcx:c ^^^ (s[k]).toNat<4294967296:=ATP (n:=32) (by omega) (by omega);have hxo:bits BinOp.xor IntKind.i64 (c:Int) ((s[k]).toNat:Int)=((c ^^^ (s[k]).toNat:Nat):Int):=OM c _ (by omega) (by omega);go_wp2;clear hxo;generalize c ^^^ (s[k]).toNat=x at*;go_loop [3,5,17] (fun v _ i=>∃j:Nat,j<=8/\i=.int .i64 j/\v=.int .i64 (Gw.Jk j x:Nat)) (fun _ _ i=>8- (intOf i).toNat)
   case atStart=>exact⟨0,by omega,rfl,rfl⟩
   case round=>
    obtain⟨j,hj,rfl,rfl⟩:=hrel;have hv:Gw.Jk j x<4294967296:=Gw.VF (by omega) j;have GB:=I (show Gw.Jk (j+1) x=Gw.st (Gw.Jk j x)from rfl);have H8:=I (show j=8->Gw.Jk 8 x=Gw.Jk j x from fun e=>by rw[e]);generalize Gw.Jk j x=v at*;by_cases IJ:j<8
    ·have P4:bits BinOp.and IntKind.i64 (v:Int) 1=((v%2:Nat):Int):=by
      have:=ZY v 1 (by omega) (by omega);rw[nat_mask1]at this
      simpa using this
     rcases ATA v with hp|hp
     ·have hq:bits BinOp.and IntKind.i64 (v:Int) 1=0:=by rw[P4,hp];rfl
      have HV:=I (show Gw.st v=v/2 by unfold Gw.st;rw[AC (by omega)]);clear P4 hp;go_wp2;go_round
      case rel=>exact⟨j+1,IJ,by simp,by rw[GB.out,HV.out];simp⟩
      case measure=>simp[intOf];omega
     ·have hq:bits BinOp.and IntKind.i64 (v:Int) 1=1:=by rw[P4,hp];rfl
      have HV:=I (show Gw.st v=(v/2) ^^^ 3988292384 by unfold Gw.st Gw.rW;rw[AD hp]);have uv:=I (show bits BinOp.xor IntKind.i64 ((v:Int)/2) 3988292384=(((v/2) ^^^ 3988292384:Nat):Int)by
       have:=OM (v/2) 3988292384 (by omega) (by omega)
       simpa using this)
      clear P4 hp;go_wp2;go_round
      case rel=>exact⟨j+1,IJ,by simp,by rw[GB.out,HV.out,uv.out]⟩
      case measure=>simp[intOf];omega
    ·have h8:j=8:=by omega
     have HV:=I (H8.out h8);have hj8:8<=j:=by omega
     clear h8;go_wp2;go_round
     case rel=>exact⟨k+1,DG,by simp,by rw[VP.out,HV.out]⟩
     case measure=>simp[intOf];omega
  ·have Nq:k=s.size:=by omega
   have HF:=I (show bits BinOp.xor IntKind.i64 (Gw.upto s k:Nat) 4294967295=((4294967295-Gw.upto s s.size:Nat):Int)by
    have:=OM (Gw.upto s k) 4294967295 (by omega) (by omega);rw[Gw.flip _ hc]at this;rw[<-Nq]
    simpa using this)
   have Et:s.size<=k:=by omega
   clear Nq;generalize Gw.upto s k=c at*;go_wp2;go_ret;exact⟨D7 HF.out,rfl⟩
