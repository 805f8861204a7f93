/- hwref -/
import Derived.Test.YthiplgekjgffkaaGreatDoorM33
import Derived.Lib.OwnKind
set_option maxRecDepth 100000
set_option maxHeartbeats 99000000
set_option linter.all false
namespace Go.Proofs.YthiplgekjgffkaaGreatDoor
open Go.Proofs.Tryz
open Go.RowKit Go.Lib
def JG(l:List Nat):List Value:=l.map fun(d:Nat)=>Value.int .i64 (d:Int)
theorem XF(l:List Nat)(k:Nat)(h:k<l.length):(JG l)[k]? =some (.int .i64 ((l.getD k 0:Nat):Int)):=by simp[JG,List.getD,h]
def RU(w:World)(g cap n:Nat)(xs:List Value):Prop:=
 n<=cap/\cap<=maxLen/\∃cur,DJ w g 3 cur/\cur.size=cap*1/\cur.toList.take (n*1)=xs
section
variable{w w':World}{g cap n:Nat}{xs:List Value}
theorem RU.DR{H:Nat}{A:Option Addr}{c:Nat}(h:w.ownsRow H 3 1 (.slice A n c) n xs)(hn:0<n):∃g,A=some ⟨g,0,none⟩/\H<=g/\g<w.heap.size/\RU w g c n xs:=by
 rcases h.2 with⟨_,h0⟩|⟨g,cap,cur,hv,WJ,hg,Qj,hmc,ER,hx⟩
 ·omega
 ·injection hv with h1 h2 h3
  subst h1 h3;exact⟨g,rfl,WJ,(ASx.1 hg).1,Qj,hmc,cur,hg,ER,hx⟩
theorem RU.own{H:Nat}(h:RU w g cap n xs)(hg:H<=g)(hl:xs.length=n):w.ownsRow H 3 1 (.slice (some ⟨g,0,none⟩) n cap) n xs:=by
 obtain⟨h1,h2,cur,h3,h4,h5⟩:=h;exact⟨by omega,.inr ⟨g,cap,cur,rfl,hg,h3,h1,h2,h4,h5⟩⟩
theorem RU.cell(h:RU w g cap n xs){k:Nat}{v:Value}(hk:k<n)(hv:xs[k]? =some v):w.cell? ⟨g,k,none⟩=some v:=by
 obtain⟨h1,h2,cur,h3,h4,h5⟩:=h;rw[h3.cell k,<-hv,<-h5,ASo,AD (by omega)];simp
theorem RU.frozen(h:RU w g cap n xs)(k:Nat):w.frozen? ⟨g,k,none⟩=false:=by
 obtain⟨h1,h2,cur,h3,h4,h5⟩:=h;exact h3.frozen k
theorem RU.set(h:RU w g cap n xs)(k:Nat)(v:Value)(hk:k<n):RU (w.setCell ⟨g,k,none⟩ v) g cap n (xs.set k v):=by
 obtain⟨h1,h2,cur,h3,h4,h5⟩:=h;exact⟨h1,h2,_,h3.De k v,by simpa using h4,by rw[<-h5,AUR,List.take_set]⟩
theorem WC{H H' n':Nat}{e e':TypeId}{v v':Value}{ys:List Value}(h:w.ownsRow H e 1 v n xs)(h':w.ownsRow H' e' 1 v' n' ys)(GI:e≠e')(b:Nat)(hb:v.ownBlock=some b):v'.ownBlock≠some b:=by
 intro tT;obtain⟨c,fz,h1⟩:=ownsRow_kind h b hb;obtain⟨c',fz',h2⟩:=ownsRow_kind h' b tT;rw[h1]at h2;injection h2 with h2
 injection h2 with _ h3
 exact GI h3
end
theorem pH(d:Nat)(h:d<10):(⟨#[48,49,50,51,52,53,54,55,56,57]⟩:ByteArray).extract d (d+1)=⟨#[Dc.ch d]⟩:=by
 match d,h with
 |0,_|1,_|2,_|3,_|4,_|5,_|6,_|7,_|8,_|9,_=>decide
def ADv(a b:ByteArray):Sem Value:=Op.stringOp .add a b
@[go_sem ↓] theorem ACB (a b:ByteArray):Op.stringOp .add a b=ADv a b:=rfl
theorem vk{P:Program}(a b:ByteArray)(h:a.size+b.size<=1000000)(w:World):(ADv a b).run P w=.ok (.string (a++b)) w:=AUM w a b (by omega)
def Vl(l:List Nat):ByteArray:=⟨(l.reverse.map Dc.ch).toArray⟩
theorem ki(l:List Nat)(d:Nat):Vl (l++[d])=⟨#[Dc.ch d]⟩++Vl l:=by
 unfold Vl;apply CC;simp
theorem kx(l:List Nat):(Vl l).size=l.length:=by
 show((l.reverse.map Dc.ch).toArray).size=l.length;simp
theorem Uz(l:List Nat):(JG l).length=l.length:=by simp[JG]
theorem fI(l:List Nat)(k d:Nat):(JG l).set k (.int .i64 (d:Int))=JG (l.set k d):=by simp[JG,Ck]
theorem PZ(l:List Nat):∀u∈JG l,u.oneCell'=true:=by
 intro u hu;obtain⟨x,_,rfl⟩:=BD.1 hu;rfl
theorem M4(w:World)(e:TypeId)(d:Nat):Reads (w.alloc (.cells #[.int .i64 (d:Int)] e)) (w.heap.size+1) 1 (some ⟨w.heap.size,0,none⟩) 1 (JG [d]):=
 ⟨rfl,fun _=>⟨_,rfl,by simp,fun j u hj=>by
   match j,hj with
   |0,hj=>simp[JG]at hj;subst hj;exact(DJ.new w e #[.int .i64 (d:Int)]).cell 0⟩⟩
theorem ji(n:Nat)(hn:n<2^128)(w:World):
 Calls prog 139 #[.agg #[.int .u64 (DB n),.int .u64 (DE n)]] w fun e w'=>e=.returned (.string (Dc.YK n))/\Below w.heap.size w w':=by
 obtain⟨i0,hi,Fq,FZ,Fe⟩:=AO Jo;have H39:=Dc.T8 hn;have E:=I (((AI w).lay #[.int .u64 (DB n),.int .u64 (DE n)] 57).lay #[.int .i64 0] 3);have HBT:=I (Fv n hn);have hbv:=Bt.FL n;have FI:(Bt.bits n).length<=128:=by rw[Bt.Ez];exact Bt.Ew hn
 generalize Bt.bits n=l0 at*;have HBV:=I hbv;clear hbv;go_in;go_wp2_with fail
 refine(HBT.out _).mono ?_;rintro e' w1 ⟨A1,c1,l1,rfl,rfl,I9,C6⟩;have E1:=I (E.out.below C6);have O1:=I (DX I9 (by simp;omega:w.heap.size<=_));clear C6 I9 HBT;go_wp2_with fail
 go_loopw [3,5] (fun v iv wr=>∃(p:Nat)(ds:List Nat),p<=l1.length/\iv=.int .i64 ((p:Int)- 1)/\ds=Dc.I3 (Bt.val (l1.drop p))/\wr.ownsRow w.heap.size 3 1 v ds.length (JG ds)/\wr.ownsRow w.heap.size 4 1 (.slice A1 l1.length c1) l1.length (l1.map Value.bool)/\Below w.heap.size w wr) (fun _ iv _=>(RowKit.intOf iv+1).toNat)
 case atStart=>
  exact⟨l1.length,[0],AB,rfl,by rw[List.drop_length];exact(Dc.Gs (by decide)).symm,⟨rfl,.inr ⟨w.heap.size+1,1,#[.int .i64 0],rfl,by omega,(show DJ w1 (w.heap.size+1) 3 #[.int .i64 0]by simpa using E1.out.hd),AB,by unfold maxLen;omega,rfl,rfl⟩⟩,O1.out,E1.out.DI⟩
 case round=>
  obtain⟨p,ds,hp,rfl,zA,DL,hO1,DY⟩:=hrel;obtain⟨wo,rfl⟩:∃wo,wo=wr:=⟨_,rfl⟩;obtain⟨A2,cap,rfl⟩:=Cz DL;have yr:1<=ds.length:=by rw[zA];exact Dc.Yp _
  have hd9:∀d∈ds,d<10:=by rw[zA];exact Dc.iw _
  by_cases hp0:p=0
  ·subst hp0
   have za:ds=Dc.I3 n:=by rw[zA,List.drop_zero,HBV.out]
   obtain⟨g,rfl,eW,He,Eg⟩:=RU.DR DL (by omega);have HT:=I (show Vl ds=Dc.YK n by rw[za];rfl);have d39:ds.length<=39:=by rw[za];exact H39
   have HW:=I Eg;have BL:=I DY;have HD9:=I hd9;have e0:((0:Nat):Int)- 1= -1:=rfl;rw[e0];clear zA DL hO1 DY za Eg hd9 hp H39 e0 E E1 O1;go_wp2_with fail
   go_loopw [9,53] (fun sv kv wr=>∃k:Nat,k<=ds.length/\sv=.string (Vl (ds.take k))/\kv=.int .i64 (k:Int)/\wr=wo) (fun _ kv _=>ds.length- (RowKit.intOf kv).toNat)
   case atStart=>exact⟨0,by omega,by simp[Vl],rfl,rfl⟩
   case round=>
    obtain⟨k,hk,rfl,rfl,rfl⟩:=hrel;by_cases DG:k<ds.length
    ·have hdk:ds.getD k 0<10:=by rw[By,AU DG];exact HD9.out _ (AL DG)
     have FR:=HW.out.cell DG (XF ds k DG);have tO:=Dc.QG ds k DG;generalize ds.getD k 0=d at*;have hex:=pH d hdk;have I1:=vk (P:=prog) ⟨#[Dc.ch d]⟩ (Vl (ds.take k)) (by rw[kx,AV];show 1+_<=_;omega);have HR:=I (show(⟨#[Dc.ch d]⟩:ByteArray)++Vl (ds.take k)=Vl (ds.take (k+1))by rw[tO,ki]);clear tO;generalize Vl (ds.take k)=s0 at*;generalize (⟨#[Dc.ch d]⟩:ByteArray)=s1 at*;generalize s1++s0=s2 at*;go_wp2;exact⟨⟨k+1,by omega,by rw[HR.out],by simp,by first|rfl|trivial⟩,by simp[RowKit.intOf];omega⟩
    ·obtain rfl:k=ds.length:=by omega
     rw[Ap,HT.out];go_wp2;go_ret;exact⟨rfl,BL.out⟩
  ·obtain⟨i,rfl⟩:∃i,p=i+1:=⟨p- 1,by omega⟩
   have ei:((i+1:Nat):Int)- 1=(i:Int):=by omega
   rw[ei];obtain⟨g,rfl,eW,He,Eg⟩:=RU.DR DL (by omega);have AC3:=Bt.JC l1 i;have P4:=Bt.JV l1 i;have HO:=I hO1;have HW:=I Eg;have BL:=I DY;have Mn:=Dc.nY (Bt.val (l1.drop (i+1))) (Bt.bit l1 i) P4;rw[<-zA,show 2*Bt.val (l1.drop (i+1))+Bt.bit l1 i=Bt.val (l1.drop i)by omega]at Mn;have HBI:=I (show∀w',Reads w' w'.heap.size 1 A1 l1.length (l1.map Value.bool)->Calls prog 137 #[.slice A1 l1.length c1,.int .i64 (i:Int)] w' fun e GQ=>e=.returned (.int .i64 (Bt.bit l1 i))/\w'=GQ from fun w' h=>KV A1 l1 c1 w'.heap.size w' h (i:Int) (by omega));have DD:=I Mn;have DS:=I zA;have HD9:=I hd9;have SS:w.heap.size<=g:=eW
   generalize Jg:Bt.bit l1 i=b0 at*;clear Jg hO1 Eg DY DL Mn zA AC3 ei hd9;have AOq:ds.length<=39:=by rw[DS.out];exact Dc.T8 (AJ (Bt.SM _) (Ax (by decide) (by rw[CX];omega)))
   go_wp2_with fail
   refine(HBI.out _ (Reads.DR HO.out)).mono ?_;rintro e' w' ⟨rfl,rfl⟩;go_wp2_with fail
   go_loopw [6,27] (fun cv kv wr=>∃k:Nat,k<=ds.length/\cv=.int .i64 (((Dc.Ro b0 (ds.take k)).2:Nat):Int)/\kv=.int .i64 (k:Int)/\RU wr g cap ds.length (JG (Dc.half b0 ds k))/\wr.ownsRow w.heap.size 4 1 (.slice A1 l1.length c1) l1.length (l1.map Value.bool)/\Below w.heap.size w wr) (fun _ kv _=>ds.length- (RowKit.intOf kv).toNat)
   case atStart=>exact⟨0,by omega,by simp[Dc.Ro],rfl,by rw[Dc.lV];exact HW.out,HO.out,BL.out⟩
   case round=>
    obtain⟨k,hk,rfl,rfl,hR,hO,hB⟩:=hrel;by_cases DG:k<ds.length
    ·have Qi:=Dc.SI b0 (ds.take k) P4 fun d hd=>HD9.out d (Be hd)
     have EO:=Dc.fR b0 ds k DG;have hhs:=Dc.jV b0 ds k DG;have hdk:ds.getD k 0<10:=by rw[By,AU DG];exact HD9.out _ (AL DG)
     have FR:=hR.cell DG (by rw[XF _ _ (by rw[Dc.ar _ _ _ hk];exact DG),Dc.uG _ _ _ DG]);have hfr:=hR.frozen k;generalize ds.getD k 0=d at*;generalize (Dc.Ro b0 (ds.take k)).2=cc at*;have RR:=I hR;have OO:=I hO;have BB:=I hB;have CS:=I EO;have HS:=I hhs;clear hR hO hB EO hhs;obtain⟨m2,cM⟩:∃m2,2*d+cc=m2:=⟨_,rfl⟩;rw[cM]at CS HS;have em:2*(d:Int)+(cc:Int)=(m2:Int):=by omega
     clear cM;go_wp2;exact⟨⟨k+1,by omega,by rw[CS.out];simp,by simp,by rw[HS.out,<-fI];simpa using RR.out.set k (.int .i64 (((m2%10:Nat)):Int)) DG,
      ownsRow_setCell_other OO.out (a:=⟨g,k,none⟩) (WC (RR.out.own SS (by rw[Uz,Dc.ar _ _ _ hk])) OO.out (by decide) g rfl) _,BB.out.setCell SS _⟩,by simp[RowKit.intOf];omega⟩
    ·obtain rfl:k=ds.length:=by omega
     rw[Dc.jn]at hR;rw[Ap];have hcc:=Dc.SI b0 ds P4 HD9.out;have hl:=Dc.Qr b0 ds;have DDv:=DD.out;generalize (Dc.Ro b0 ds).1=ds1 at*;generalize (Dc.Ro b0 ds).2=cc at*;have DL:=hR.own SS (by rw[Uz,hl]);rw[<-hl]at DL;by_cases Wf:cc=0
     ·subst Wf
      have he:ds1=Dc.I3 (Bt.val (l1.drop i)):=by rw[<-DDv];simp[Dc.aS]
      have EE:=I he;have OO:=I hO;have BB:=I hB;have WW:=I DL;clear hO hB DL hR DDv he;rw[hl]at WW;go_wp2;exact⟨⟨i,ds1,by omega,rfl,EE.out,by rw[hl];exact WW.out,OO.out,BB.out⟩,by simp[RowKit.intOf]⟩
     ·have he:ds1++[cc]=Dc.I3 (Bt.val (l1.drop i)):=by rw[<-DDv];simp[Dc.aS,show 0<cc by omega]
      have GI:=WC DL hO (by decide) g rfl;have EE:=I he;have OO:=I hO;have BB:=I hB;have WW:=I DL;clear hO hB DL hR DDv he;rw[hl]at WW;have dy:0<(cc:Int):=by omega
      go_wp2_with (at_builtin;refine Dd _ rfl _ _ 53 rfl w.heap.size 3 i0 (.int .i64 0) 1 8 underlying53 hi Fq FZ Fe rfl (by decide) _ _ _ rfl (WW.out.alloc _) _ _ 1 _ _ rfl (M4 _ _ cc) (PZ [cc]) ?c1 ?c2 ?c3 ?_)
      case c1=>unfold maxLen;omega
      case c2=>omega
      case c3=>have:=BB.out.size;simp;omega
      intro v3 w3 JN Nk tF;obtain⟨A3,c3,rfl⟩:=Cz JN;have O3:=I ((OO.out.alloc _).kept Nk (.inr GI));have B3:=I ((BB.out.alloc BB.out.size _).grown Nk (by have:=BB.out.size;simp;omega) (fun k hk=>(WW.out.lt k hk).1));have W3:=I JN;clear JN Nk tF;go_wp2;exact⟨⟨i,ds1++[cc],by omega,rfl,EE.out,by simpa [JG,hl] using W3.out,O3.out,B3.out⟩,by simp[RowKit.intOf]⟩
