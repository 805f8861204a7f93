/- What the reference makes -/
import Derived.Test.YthiplgekjgffkaaGreatDoorM19
import Derived.Test.YthiplgekjgffkaaGreatDoorM31
set_option maxRecDepth 100000
set_option maxHeartbeats 99000000
set_option linter.all false
namespace Go.Proofs.YthiplgekjgffkaaGreatDoor
open Go.Proofs.Tryz
open Go.RowKit Go.Lib
theorem TI:∀(l:List UInt8)(a k:Nat),Lib.decFrom a l=some k->∀b∈l,Lib.digitVal b≠none
 | [],a,k,h,b,hb=>by cases hb
 |c::l,a,k,h,b,hb=>by
  simp only[Lib.decFrom]at h;cases hd:Lib.digitVal c with
  |none=>rw[hd]at h;cases h
  |some d=>
   rw[hd]at h;rcases AR.1 hb with rfl|hb
   ·rw[hd];simp
   ·exact TI l _ k h b hb
theorem aC{s:ByteArray}(h:12<s.size\/∃b∈s.data.toList,Lib.digitVal b=none):Hw s=none:=by
 cases hn:Hw s with
 |none=>rfl
 |some k=>
  obtain⟨h1,h2,h3,h4⟩:=Kc hn;rcases h with h|⟨b,hb,hd⟩
  ·omega
  ·unfold Lib.decNat at h3
   split at h3
   ·cases h3
   ·exact absurd hd (TI _ _ _ h3 b hb)
theorem sf{s:ByteArray}{m:Nat}(h12:s.size<=12)(hd:Lib.decFrom 0 s.data.toList=some m):Hw s=if (Fi m).toList==s.toList then some m else none:=by
 have e1:((Fi m).toList==s.toList)=true↔Fi m=s:=by
  rw[CF];constructor
  ·intro h
   rw[Bl,Bl]at h;apply CC;apply ASZ;exact h
  ·rintro rfl;rfl
 unfold Hw;rw[AD h12];unfold Lib.decNat;cases hq:s.data.toList with
 |nil=>
  rw[AD (by rfl)];simp only;by_cases h:Fi m=s
  ·exfalso
   have:(Fi m).data.toList=[]:=by rw[h];exact hq
   exact sC m this
  ·rw[AC (by rw[e1];exact h)]
 |cons b l=>
  rw[AC (by simp),<-hq,hd];simp only;by_cases h:Fi m=s
  ·rw[AD h,AD (e1.2 h)]
  ·rw[AC h,AC (by rw[e1];exact h)]
theorem TU(s:ByteArray)(hs:s.size<=1048576)(w:World):Calls prog 15 #[.string s] w (AAr s w):=by
 have Tl:s.size<=9223372036854775807:=by omega
 have hlen:s.data.toList.length=s.size:=by rw[At];rfl
 have HL:=I hlen;clear hlen;go_in;go_wp2_with fail
 rw[ATr w _ _ 5 s underlying9 underlying42 underlying5];rw[Result.andThen];have HC:=I (ATs w 5 s);have HB:=I (ATt w 5 s);generalize bytesWorld w 5 s=w2 at*;generalize grownCap w s.size 0 5=cc at*;go_wp2_with fail
 go_loopw [4,10] (fun nv iv wr=>∃(j m:Nat),j<=s.size/\iv=.int .i64 (j:Int)/\nv=.int .i64 (m:Int)/\Hid (Lib.decFrom 0 (s.data.toList.take j)=some m/\(0<j->s.size<=12))/\Hid (w2=wr)) (fun _ iv _=>s.size- (RowKit.intOf iv).toNat)
 case atStart=>exact⟨0,0,by omega,rfl,rfl,I ⟨rfl,fun h=>absurd h (AT6 0)⟩,I rfl⟩
 case round=>
  obtain⟨j,m,hj,rfl,rfl,HM,hw⟩:=hrel;obtain rfl:=hw.out;clear hw;by_cases DG:j<s.size
  ·have hc:=HC.out j DG
   have IJ:j<s.data.toList.length:=by rw[HL.out];exact DG
   have ADt:s.data.toList.getD j 0∈s.data.toList:=by
    rw[By,AU IJ];exact AL IJ
   have oG:s.data.toList.take (j+1)=s.data.toList.take j++[s.data.toList.getD j 0]:=by
    rw[Af IJ,By,AU IJ];rfl
   have T6:=I oG;have HME:=I ADt;clear oG ADt IJ;have AOS:(s.data.toList.getD j 0).toNat<256:=BZ _;generalize s.data.toList.getD j 0=b at*;by_cases hd:48<=b.toNat/\b.toNat<=57
   ·obtain⟨d0,d1⟩:=hd
    have hdv:Lib.digitVal b=some (b.toNat- 48):=by unfold Lib.digitVal;rw[AD ⟨d0,d1⟩]
    have i0:¬((b.toNat:Int)<48):=by omega
    have i1:¬((57:Int)<(b.toNat:Int)):=by omega
    by_cases h12:s.size<=12
    ·have i2:¬((12:Int)<(s.size:Int)):=by omega
     have zt:m<10^j:=by
      have h1:=decFrom_lt _ _ _ HM.out.1;rw[AV,HL.out,ASb hj]at h1;omega
     have hp:10^j<=10^12:=Ax (by decide) (by omega);have HN:=I (show Lib.decFrom 0 (s.data.toList.take (j+1))=some (m*10+(b.toNat- 48))/\(0<j+1->s.size<=12)from⟨by rw[T6.out,PE,HM.out.1];simp[Lib.decFrom,hdv],fun _=>h12⟩);have AOy:m<1000000000000:=by omega
     have e1:((m*10+(b.toNat- 48):Nat):Int)=10*(m:Int)+((b.toNat:Int)- 48):=by omega
     have HE1:=I e1;have u1:IntKind.u8.wrap ((b.toNat:Int)- 48)=(b.toNat:Int)- 48:=by rw[AS2];omega
     have u2:wrap64 ((b.toNat:Int)- 48)=(b.toNat:Int)- 48:=by unfold wrap64;omega
     clear zt hp hdv e1;go_wp2;exact⟨⟨j+1,m*10+(b.toNat- 48),by omega,by simp,by rw[HE1.out],HN,I trivial⟩,by simp[RowKit.intOf];omega⟩
    ·have m9:=I (aC (s:=s) (.inl (by omega)))
     have i2:(12:Int)<(s.size:Int):=by omega
     go_wp2
     go_ret2
     exact⟨.inr ⟨m9.out,_,rfl⟩,HB.out⟩
   ·have m9:=I (aC (s:=s) (.inr ⟨b,HME.out,by unfold Lib.digitVal;rw[AC hd]⟩))
    have i0:((b.toNat:Int)<48)\/(¬((b.toNat:Int)<48)/\(57:Int)<(b.toNat:Int)):=by omega
    clear hd;rcases i0 with i0|⟨i0,i1⟩
    ·go_wp2
     go_ret2
     exact⟨.inr ⟨m9.out,_,rfl⟩,HB.out⟩
    ·go_wp2
     go_ret2
     exact⟨.inr ⟨m9.out,_,rfl⟩,HB.out⟩
  ·obtain rfl:j=s.size:=by omega
   have h12:s.size<=12:=by
    rcases Ac s.size with h|h
    ·omega
    ·exact HM.out.2 h
   have hdf:Lib.decFrom 0 s.data.toList=some m:=by
    have:=HM.out.1
    rwa [AY (by rw[HL.out];exact AB)]at this
   have zt:m<1000000000000:=by
    have h1:=decFrom_lt _ _ _ hdf;have h2:10^s.data.toList.length<=10^12:=Ax (by decide) (by rw[HL.out];omega);omega
   have HE:=I (sf h12 hdf);have HD:=I (RP m w2 (by omega));clear hdf h12;generalize Fi m=t at*;cases hq:(t.toList==s.toList)with
   |true=>
    have HE2:=I (show Hw s=some m by rw[HE.out,hq,AD rfl]);go_wp2_with fail
    refine HD.out.mono ?_;rintro e' w3 ⟨rfl,rfl⟩;go_wp2
    go_ret2
    exact⟨.inl ⟨m,HE2.out,rfl⟩,HB.out⟩
   |false=>
    have HE2:=I (show Hw s=none by rw[HE.out,hq,AC (by decide)]);go_wp2_with fail
    refine HD.out.mono ?_;rintro e' w3 ⟨rfl,rfl⟩;go_wp2
    go_ret2
    exact⟨.inr ⟨HE2.out,_,rfl⟩,HB.out⟩
