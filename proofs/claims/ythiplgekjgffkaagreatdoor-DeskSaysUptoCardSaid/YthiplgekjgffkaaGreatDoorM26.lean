/- dec -/
import Derived.Test.YthiplgekjgffkaaGreatDoorM25
set_option maxRecDepth 100000
set_option maxHeartbeats 99000000
set_option linter.all false
namespace Go.Proofs.YthiplgekjgffkaaGreatDoor
open Go.Proofs.Tryz
open Go.RowKit Go.Lib
theorem Hq{fn:Func}{a:Act}{W:World}{g p q:Nat}{x0 x1 e:Value}(h:fn.results=#[.cell p 57,.tmp q])(h4:a.tmps.getD p undef=.pointer (some ⟨g,0,none⟩))(h6:a.tmps.getD q undef=e)
 (c0:W.cell? ⟨g,0,none⟩=some x0) (c1:W.cell? ⟨g,1,none⟩=some x1):(results fn a.tmps).run prog W=.ok (.tuple #[.agg #[x0,x1],e]) W:=by
 have r9:a.tmps[p]?.getD undef=.pointer (some ⟨g,0,none⟩):=by simpa using h4
 have h6':a.tmps[q]?.getD undef=e:=by simpa using h6
 simp[results,h,r9,h6',go_sem,c0,c1]
namespace Dc
def lead(s:ByteArray):Bool:=decide (1<s.size)&&decide ((s.data.toList.getD 0 0).toNat=48)
def J4(s:ByteArray):Bool:=s.data.toList.all TD
def FY(s:ByteArray):Int:=if s.size=0\/lead s=true\/J4 s=false then 3 else if Ep s.data.toList<2^128 then 0 else 2
def GG(s:ByteArray):Nat:=if FY s=0 then Ep s.data.toList else 0
theorem IB(s:ByteArray):s.data.toList.length=s.size:=by rw[At];rfl
theorem JS(s:ByteArray)(k:Nat)(h:k<s.size):s.data.toList[k]'(by rw[IB];exact h)=s[k]:=rfl
theorem NL{s:ByteArray}(h:s.size=0\/lead s=true\/J4 s=false):FY s=3/\GG s=0:=by
 have:FY s=3:=AD h;exact⟨this,by unfold GG;rw[this];rfl⟩
theorem mY{s:ByteArray}{k:Nat}(h:k<s.size)(hd:TD s[k]=false):FY s=3/\GG s=0:=by
 refine NL (.inr (.inr ?_));unfold J4;rw[List.all_eq_false];exact⟨s[k],by rw[<-JS s k h];exact AL _,by rw[hd];simp⟩
theorem zk{s:ByteArray}(h:∀k,(hk:k<s.size)->TD (s[k]'hk)=true):J4 s=true:=by
 unfold J4;rw[List.all_eq_true];intro b hb;obtain⟨k,hk,rfl⟩:=AS6 hb;exact h k (by rw[IB]at hk;exact hk)
theorem cZ{s:ByteArray}(h0:s.size≠0)(h1:lead s=false)(h2:J4 s=true)(h3:Ep s.data.toList<2^128):FY s=0/\GG s=Ep s.data.toList:=by
 have:FY s=0:=by
  unfold FY;rw[AC (by rw[h1,h2];simp[h0]),AD h3]
 exact⟨this,by unfold GG;rw[AD this]⟩
theorem N9{s:ByteArray}(h0:s.size≠0)(h1:lead s=false)(h2:J4 s=true)(h3:¬Ep s.data.toList<2^128):FY s=2/\GG s=0:=by
 have:FY s=2:=by
  unfold FY;rw[AC (by rw[h1,h2];simp[h0]),AC h3]
 exact⟨this,by unfold GG;rw[this];rfl⟩
theorem eb{s:ByteArray}(h0:s.size≠0)(h1:lead s=false)(h2:J4 s=true){k:Nat}(hk:k<=s.size)(h3:¬Ep (s.data.toList.take k)<2^128):FY s=2/\GG s=0:=by
 refine N9 h0 h1 h2 ?_;have:=XY s.data.toList k s.size hk (by rw[IB];exact AB);rw[AY (show s.data.toList.length<=s.size by rw[IB];exact AB)]at this;omega
theorem jI(s:ByteArray)(k:Nat)(h:k<s.size):Ep (s.data.toList.take (k+1))=10*Ep (s.data.toList.take k)+((s[k]).toNat- 48):=by
 rw[XV _ k (by rw[IB];exact h),JS s k h]
theorem iZ{s:ByteArray}(h:0<s.size):s.data.toList.getD 0 0=s[0]:=by
 rw[By,AU (by rw[IB];exact h),JS s 0 h];rfl
theorem gg{s:ByteArray}(h:1<s.size)(h0:(s[0]).toNat=48):lead s=true:=by
 unfold lead;have:s.data.toList.getD 0 0=s[0]:=iZ (by omega);rw[this];simp[h,h0]
theorem nX{s:ByteArray}(h0:0<s.size)(h:¬(1<s.size/\(s[0]).toNat=48)):lead s=false:=by
 unfold lead;have:s.data.toList.getD 0 0=s[0]:=iZ h0;rw[this];simp only[AUG,ATI];omega
end Dc
theorem AI8{w W:World}{g0 g1:Nat}{t:TypeId}{cs0 cs1:Array Value}(hb:Below w.heap.size w W)(h1:w.heap.size<=g1)(b1:DJ W g1 t cs1)(h0:w.heap.size<=g0)(b0:DJ W g0 t cs0):Env w W [(g1,t,cs1),(g0,t,cs0)]:=
 ⟨hb,fun x hx=>by
   rcases AR.1 hx with rfl|hx
   ·exact⟨h1,b1⟩
   ·obtain rfl:=Ai.1 hx
    exact⟨h0,b0⟩⟩
def Jf(s:ByteArray)(w:World)(e:Ending)(w':World):Prop:=
 e=.returned (.tuple #[.agg #[.int .u64 (DB (Dc.GG s)),.int .u64 (DE (Dc.GG s))],.int .i64 (Dc.FY s)])/\Below w.heap.size w w'
theorem kD(s:ByteArray)(hs:s.size<=maxLen)(w:World):Calls prog 84 #[.string s] w (Jf s w):=by
 have Tl:s.size<=9223372036854775807:=by unfold maxLen at hs;omega
 have HT:=I (show∀v,v<2^128->∀w,Calls prog 78 #[.agg #[.int .u64 (DB v),.int .u64 (DE v)],.agg #[.int .u64 0,.int .u64 10]] w fun e w'=>e=.returned (.tuple #[.agg #[.int .u64 (DB (JE (v*10))),.int .u64 (DE (JE (v*10)))],.int .i64 (NR (v*10))])/\Below w.heap.size w w' from fun v hv w=>by
  have:=Xs v 10 hv (by decide) w;have e1:DB 10=0:=by decide
  have e2:DE 10=10:=by decide
  rw[e1,e2]at this;exact this)
 have E:=I ((AI w).lay #[.int .u64 0,.int .u64 0] 57);by_cases hz:s.size=0
 ·obtain⟨p1,p2⟩:=Dc.NL (.inl hz)
  have qj:s=⟨#[]⟩:=by
   have:s.data=#[]:=Array.eq_empty_of_size_eq_zero hz;cases s;cases this;rfl
  subst qj;unfold Jf;rw[p1,p2,show DB 0=0 by decide,show DE 0=0 by decide];go_in;go_wp2;refine AF (v:=.tuple #[.agg #[.int .u64 0,.int .u64 0],.int .i64 3]) (by simp[results,results84,go_sem]) rfl ⟨rfl,E.out.DI⟩
 have qj:=Jn s hz;have Tk:0<s.size:=by omega
 by_cases hl:1<s.size/\(s[0]).toNat=48
 ·obtain⟨p1,p2⟩:=Dc.NL (.inr (.inl (Dc.gg hl.1 hl.2)))
  obtain⟨NK,I4⟩:=hl;have Jg:((s[0]).toNat:Int)=48:=by omega
  unfold Jf;rw[p1,p2,show DB 0=0 by decide,show DE 0=0 by decide];clear I4 p1 p2;go_in;go_wp2;refine AF (v:=.tuple #[.agg #[.int .u64 0,.int .u64 0],.int .i64 3]) (by simp[results,results84,go_sem]) rfl ⟨rfl,E.out.DI⟩
 have yX:=I (Dc.nX Tk hl);have La:1<(s.size:Int)->(((s[0]).toNat:Int)==48)=false:=by
  intro h;have:¬(s[0]).toNat=48:=fun e=>hl ⟨by omega,e⟩;simp;omega
 clear hl;go_in;rcases Int.lt_or_le 1 (s.size:Int)with h1|h1
 case' inl=>have yW:=La h1
 all_goals
  clear La;go_wp2_with fail
  go_loopw [24] (fun iv wr=>∃j:Nat,j<=s.size/\iv=.int .i64 (j:Int)/\(∀k,(hk:k<s.size)->k<j->Dc.TD (s[k]'hk)=true)/\wr=w.alloc (.cells #[.int .u64 0,.int .u64 0] 57)) (fun iv _=>s.size- (RowKit.intOf iv).toNat)
  case atStart=>exact⟨0,by omega,rfl,fun k hk h=>absurd h (by omega),rfl⟩
  case round=>
   obtain⟨j,hj,rfl,Gg,rfl⟩:=hrel;by_cases DG:j<s.size
   ·by_cases hd:Dc.TD (s[j]'DG)=true
    ·have YM:=I (show∀k,(hk:k<s.size)->k<j+1->Dc.TD (s[k]'hk)=true from fun k hk h=>by
      by_cases hkj:k=j
      ·subst hkj;exact hd
      ·exact Gg k hk (by omega))
     have hd':=hd;simp only[Dc.TD,Bf,CG]at hd';obtain⟨N8,GV⟩:=hd';have vV:¬((s[j]'DG).toNat:Int)<48:=by omega
     have pZ:¬57<((s[j]'DG).toNat:Int):=by omega
     clear Gg hd N8 GV;go_wp2;exact⟨⟨j+1,by omega,by simp,YM.out,by first|rfl|trivial⟩,by simp[RowKit.intOf];omega⟩
    ·obtain⟨p1,p2⟩:=Dc.mY DG (by simpa using hd)
     simp only[Dc.TD,Bf,CG]at hd;have P1:=I p1;have P2:=I p2;clear Gg p1 p2;by_cases N8:((s[j]'DG).toNat:Int)<48
     ·go_wp2
      refine AF (v:=.tuple #[.agg #[.int .u64 0,.int .u64 0],.int .i64 3]) (by simp[results,results84,go_sem]) rfl ⟨by rw[P1.out,P2.out];rfl,E.out.DI⟩
     ·have GV:57<((s[j]'DG).toNat:Int):=by omega
      go_wp2;refine AF (v:=.tuple #[.agg #[.int .u64 0,.int .u64 0],.int .i64 3]) (by simp[results,results84,go_sem]) rfl ⟨by rw[P1.out,P2.out];rfl,E.out.DI⟩
   ·have mV:=I (Dc.zk fun k hk=>Gg k hk (by omega))
    have HDK:=I (show∀k,(hk:k<s.size)->48<=(s[k]'hk).toNat/\(s[k]'hk).toNat<=57 from fun k hk=>by
     have:=Gg k hk (by omega)
     simpa [Dc.TD] using this)
    have E2:=I (E.out.lay #[.int .u64 0,.int .u64 0] 57);have HOV:=I (fun k (hk:k<=s.size) h=>Dc.eb hz yX.out mV.out (k:=k) hk h);have uO:=I (fun h=>Dc.cZ hz yX.out mV.out h);have HVA:=I (Dc.jI s);have hlen:=Dc.IB s;have HFU:=I (show Dc.Ep (s.data.toList.take s.size)=Dc.Ep s.data.toList by rw[AY (by omega)]);clear Gg hlen E;go_wp2_with fail
    go_loopw [41] (fun iv wr=>∃j:Nat,j<=s.size/\iv=.int .i64 (j:Int)/\Dc.Ep (s.data.toList.take j)<2^128/\Env w wr [(w.heap.size+1,57,#[.int .u64 (DB (Dc.Ep (s.data.toList.take j))),.int .u64 (DE (Dc.Ep (s.data.toList.take j)))]),(w.heap.size,57,#[.int .u64 0,.int .u64 0])]) (fun iv _=>s.size- (RowKit.intOf iv).toNat)
    case atStart=>exact⟨0,by omega,rfl,by simp[Dc.Ep],by simpa [Dc.Ep,DB,DE] using E2.out⟩
    case round=>
     obtain⟨j,hj,rfl,hv,hE⟩:=hrel;have E3:=I hE;clear hE E2;by_cases DG:j<s.size
     ·obtain⟨N8,GV⟩:=HDK.out j DG
      obtain⟨d,hd⟩:∃d,(s[j]'DG).toNat=d+48:=⟨(s[j]'DG).toNat- 48,by omega⟩;have Rq:=HVA.out j DG;have ke:=HOV.out (j+1) (by omega);have tK:=I (HT.out _ hv);rw[Rq,hd,Ch]at ke;rw[hd,Ch]at Rq;generalize hvv:Dc.Ep (s.data.toList.take j)=v at*;have VA:=I Rq;have OV:=I ke;have hd9:d<=9:=by omega
      have hbx:((s[j]'DG).toNat:Int)=(d:Int)+48:=by omega
      clear Rq ke hvv hd N8 GV;have x0:=E3.out.hd.cell 0;have x1:=E3.out.hd.cell 1;have p0:=E3.out.hd.lt;simp at x0 x1;by_cases hx:v*10<2^128
      ·have e1:JE (v*10)=v*10:=AD hx
       have e2:NR (v*10)=0:=AD hx;rw[e1,e2]at tK;clear e1 e2;go_wp2_with fail
       refine(tK.out _).mono ?_;rintro e' w1 ⟨rfl,C6⟩;have E4:=I ((E3.out.below C6).lay #[.int .u64 (DB (v*10)),.int .u64 (DE (v*10))] 57);clear C6 x0 x1 E3 tK;have HA:=I (KZ _ _ _ _ (v*10) d ⟨rfl,rfl,hx⟩ ⟨(by unfold DB;omega:(0:Int)=DB d),(by rw[AS2,CA];unfold DE;omega:IntKind.u64.wrap (IntKind.u8.wrap (d:Int))=DE d),by omega⟩)
       go_upto_region 16 with fail
       generalize hW7:World.alloc w1 _=w7 at*;have z0:=E4.out.hd.cell 0;have z1:=E4.out.hd.cell 1;simp at z0 z1;clear hW7;by_cases hy:v*10+d<2^128
       ·have e1:JE (v*10+d)=v*10+d:=AD hy
        have e2:NR (v*10+d)=0:=AD hy;rw[e1,e2]at HA;clear e1 e2;go_region_law (go_simp;go_at_call 74;(with_reducible refine(HA.out _).mono ?_);rintro e' w9 ⟨rfl,Ei⟩;have E9:Env w w9 [(w1.heap.size,57,#[.int .u64 (DB (v*10)),.int .u64 (DE (v*10))]),(w.heap.size+1,57,#[.int .u64 (DB v),.int .u64 (DE v)]),(w.heap.size,57,#[.int .u64 0,.int .u64 0])]:=(by first|exact E4.out.below Ei|exact E4.out.drew.below Ei);have y0:=E9.tl.hd.cell 0;have y1:=E9.tl.hd.cell 1;have f0:=E9.tl.hd.frozen 0;have f1:=E9.tl.hd.frozen 1;simp at y0 y1)
        all_goals
         have Nh:=I ((E9.tl.hd.De 0 (.int .u64 (DB (v*10+d)))).De 1 (.int .u64 (DE (v*10+d))));have WR:=I ((E9.tl.tl.hd.Je (p:=⟨w.heap.size+1,0,none⟩) (by simp) (.int .u64 (DB (v*10+d)))).Je (p:=⟨w.heap.size+1,1,none⟩) (by simp) (.int .u64 (DE (v*10+d))));have N4:=I ((E9.DI.setCell (p:=⟨w.heap.size+1,0,none⟩) (by simp) (.int .u64 (DB (v*10+d)))).setCell (p:=⟨w.heap.size+1,1,none⟩) (by simp) (.int .u64 (DE (v*10+d))));have WO:Dc.Ep (s.data.toList.take (j+1))=v*10+d:=by rw[VA.out];omega
         have HSV:=I WO;clear WO E9 y0 y1 f0 f1 z0 z1;go_wp2;exact⟨⟨j+1,by omega,by simp,by rw[HSV.out];exact hy,by rw[HSV.out];exact AI8 N4.out (by omega) (by simpa using Nh.out) AB WR.out⟩,by simp[RowKit.intOf];omega⟩
       ·have e1:JE (v*10+d)=0:=AC hy
        have e2:NR (v*10+d)=2:=AC hy;rw[e1,e2]at HA;obtain⟨p1,p2⟩:=OV.out (by omega);have P1:=I p1;have P2:=I p2;clear e1 e2 p1 p2;go_region_law (go_simp;go_at_call 74;(with_reducible refine(HA.out _).mono ?_);rintro e' w9 ⟨rfl,Ei⟩;have E9:Env w w9 [(w1.heap.size,57,#[.int .u64 (DB (v*10)),.int .u64 (DE (v*10))]),(w.heap.size+1,57,#[.int .u64 (DB v),.int .u64 (DE v)]),(w.heap.size,57,#[.int .u64 0,.int .u64 0])]:=(by first|exact E4.out.below Ei|exact E4.out.drew.below Ei);have y0:=E9.tl.hd.cell 0;have y1:=E9.tl.hd.cell 1;have f0:=E9.tl.hd.frozen 0;have f1:=E9.tl.hd.frozen 1;simp at y0 y1)
        all_goals
         have k0:=E9.tl.tl.hd.cell 0;have k1:=E9.tl.tl.hd.cell 1;have l0:=E9.tl.tl.hd.frozen 0;have l1:=E9.tl.tl.hd.frozen 1;simp at k0 k1;have WR:=I ((E9.tl.tl.hd.Je (p:=⟨w.heap.size+1,0,none⟩) (by simp) (.int .u64 (DB 0))).Je (p:=⟨w.heap.size+1,1,none⟩) (by simp) (.int .u64 (DE 0)));have N4:=I ((E9.DI.setCell (p:=⟨w.heap.size+1,0,none⟩) (by simp) (.int .u64 (DB 0))).setCell (p:=⟨w.heap.size+1,1,none⟩) (by simp) (.int .u64 (DE 0)));clear E9 y0 y1 f0 f1 z0 z1;go_wp2;have BK:=((WR.out.De 0 (.int .u64 0)).De 1 (.int .u64 0));refine AF (v:=.tuple #[.agg #[.int .u64 0,.int .u64 0],.int .i64 2]) (Hq results84 rfl rfl ((BK.cell 0).trans rfl) ((BK.cell 1).trans rfl)) rfl ⟨by rw[P1.out,P2.out];rfl,(N4.out.setCell (p:=⟨w.heap.size,0,none⟩) AB (.int .u64 0)).setCell (p:=⟨w.heap.size,1,none⟩) AB (.int .u64 0)⟩
      ·have e1:JE (v*10)=0:=AC hx
       have e2:NR (v*10)=2:=AC hx;rw[e1,e2]at tK;obtain⟨p1,p2⟩:=OV.out (by omega);have P1:=I p1;have P2:=I p2;clear e1 e2 p1 p2;go_wp2_with fail
       refine(tK.out _).mono ?_;rintro e' w1 ⟨rfl,C6⟩;have E4:=I (E3.out.below C6);have B4:=I (E4.out.tl.hd.alloc (.cells #[.int .u64 (DB 0),.int .u64 (DE 0)] 57));clear C6 x0 x1 E3 tK;have y0:=E4.out.tl.hd.cell 0;have y1:=E4.out.tl.hd.cell 1;have f0:=E4.out.tl.hd.frozen 0;have f1:=E4.out.tl.hd.frozen 1;have q0:=E4.out.tl.hd.lt;simp at y0 y1;go_wp2;have BK:=((E4.out.tl.hd.De 0 (.int .u64 0)).De 1 (.int .u64 0)).alloc (.cells #[.int .u64 (DB 0),.int .u64 (DE 0)] 57);have BE:=((E4.out.DI.setCell (p:=⟨w.heap.size,0,none⟩) AB (.int .u64 0)).setCell (p:=⟨w.heap.size,1,none⟩) AB (.int .u64 0));refine AF (v:=.tuple #[.agg #[.int .u64 0,.int .u64 0],.int .i64 2]) (Hq results84 rfl rfl ((BK.cell 0).trans rfl) ((BK.cell 1).trans rfl)) rfl ⟨by rw[P1.out,P2.out];rfl,BE.alloc BE.size _⟩
     ·obtain rfl:j=s.size:=by omega
      have hfu:=HFU.out;rw[hfu]at hv E3;obtain⟨p1,p2⟩:=uO.out hv;have P1:=I p1;have P2:=I p2;clear hfu p1 p2;generalize Dc.Ep s.data.toList=v at*;have x0:=E3.out.hd.cell 0;have x1:=E3.out.hd.cell 1;have p0:=E3.out.hd.lt;have y0:=E3.out.tl.hd.cell 0;have y1:=E3.out.tl.hd.cell 1;have f0:=E3.out.tl.hd.frozen 0;have f1:=E3.out.tl.hd.frozen 1;have q0:=E3.out.tl.hd.lt;simp at x0 x1 y0 y1;go_wp2;have BK:=(E3.out.tl.hd.De 0 (.int .u64 (DB v))).De 1 (.int .u64 (DE v));have BE:=((E3.out.DI.setCell (p:=⟨w.heap.size,0,none⟩) AB (.int .u64 (DB v))).setCell (p:=⟨w.heap.size,1,none⟩) AB (.int .u64 (DE v)));refine AF (v:=.tuple #[.agg #[.int .u64 (DB v),.int .u64 (DE v)],.int .i64 0]) (Hq results84 rfl rfl ((BK.cell 0).trans rfl) ((BK.cell 1).trans rfl)) rfl ⟨by rw[P1.out,P2.out],BE⟩
