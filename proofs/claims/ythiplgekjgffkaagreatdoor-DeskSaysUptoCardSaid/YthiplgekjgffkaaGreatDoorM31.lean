/- hwref -/
import Derived.Test.YthiplgekjgffkaaGreatDoorM30
set_option maxRecDepth 100000
set_option maxHeartbeats 99000000
set_option linter.all false
namespace Go.Proofs.YthiplgekjgffkaaGreatDoor
open Go.Proofs.Tryz
open Go.RowKit Go.Lib
theorem kp(w:World):Reads (w.alloc (.cells #[.bool false,.bool true,.bool false,.bool true] 4)) (w.alloc (.cells #[.bool false,.bool true,.bool false,.bool true] 4)).heap.size 1 (some ⟨w.heap.size,0,none⟩) 4 ([false,true,false,true].map Value.bool):=
 ⟨rfl,fun _=>⟨_,rfl,by simp,fun j u hj=>by
   have hc:=(DJ.new w 4 #[.bool false,.bool true,.bool false,.bool true]).cell j;have I1:(⟨w.heap.size,0,none⟩:Addr).add j=⟨w.heap.size,j,none⟩:=by unfold Addr.add;split<;>simp_all
   rw[I1,hc]
   simpa using hj⟩⟩
theorem eG(s:ByteArray)(hs:s.size<=maxLen)(hf:s.size=0\/Dc.lead s=true\/Dc.J4 s=false)(w:World):Calls prog 14 #[.string s] w (Jf s w):=by
 have Tl:s.size<=9223372036854775807:=by unfold maxLen at hs;omega
 have E:=I ((AI w).lay #[.int .u64 0,.int .u64 0] 57);have HT:=I (bX s Tl);obtain⟨p1,p2⟩:=Dc.NL hf;unfold Jf;rw[p1,p2,show DB 0=0 by decide,show DE 0=0 by decide];clear p1 p2;by_cases hz:s.size=0
 ·have qj:=VS s hz
  clear hf;go_in;go_wp2;refine AF (v:=.tuple #[.agg #[.int .u64 0,.int .u64 0],.int .i64 3]) (by simp[results,results14,go_sem]) rfl ⟨rfl,E.out.DI⟩
 have qj:=Jn s hz;have Tk:0<s.size:=by omega
 cases hd:Dc.J4 s
 ·have GI:=Jn _ (pB hd)
  generalize (⟨(Lib.trimS s.data.toList Wg).toArray⟩:ByteArray)=t at*;clear hf hd;go_in;go_wp2_with fail
  refine(HT.out _).mono ?_;rintro e' w1 ⟨rfl,C6⟩;have E1:=I (E.out.below C6);have y0:=E1.out.hd.cell 0;have y1:=E1.out.hd.cell 1;have f0:=E1.out.hd.frozen 0;have f1:=E1.out.hd.frozen 1;have q0:=E1.out.hd.lt;simp at y0 y1;clear C6;go_wp2;have BK:=((E1.out.hd.De 0 (.int .u64 0)).De 1 (.int .u64 0));refine AF (v:=.tuple #[.agg #[.int .u64 0,.int .u64 0],.int .i64 3]) (Hq results14 rfl rfl ((BK.cell 0).trans rfl) ((BK.cell 1).trans rfl)) rfl ⟨rfl,(E1.out.DI.setCell (p:=⟨w.heap.size,0,none⟩) AB (.int .u64 0)).setCell (p:=⟨w.heap.size,1,none⟩) AB (.int .u64 0)⟩
 ·have yp:Dc.lead s=true:=by
   rcases hf with h|h|h
   ·exact absurd h hz
   ·exact h
   ·rw[hd]at h;cases h
  have htr:=ZX hd;rw[htr]at HT;have lD:=yp;unfold Dc.lead at lD;rw[Dc.iZ Tk]at lD;simp only[Bf,CG]at lD;obtain⟨NK,I4⟩:=lD;have Jg:((s[0]).toNat:Int)=48:=by omega
  have ANo:(s.toList== [48])=false:=by
   rw[Bl];cases hq:s.data.toList with
   |nil=>rfl
   |cons b l=>
    cases l with
    |nil=>have:=Dc.IB s;rw[hq]at this;simp at this;omega
    |cons=>simp
  clear hf hd htr yp I4;go_in;go_wp2_with fail
  refine(HT.out _).mono ?_;rintro e' w1 ⟨rfl,C6⟩;have E1:=I (E.out.below C6);have y0:=E1.out.hd.cell 0;have y1:=E1.out.hd.cell 1;have f0:=E1.out.hd.frozen 0;have f1:=E1.out.hd.frozen 1;have q0:=E1.out.hd.lt;simp at y0 y1;clear C6;go_wp2;have BK:=((E1.out.hd.De 0 (.int .u64 0)).De 1 (.int .u64 0));refine AF (v:=.tuple #[.agg #[.int .u64 0,.int .u64 0],.int .i64 3]) (Hq results14 rfl rfl ((BK.cell 0).trans rfl) ((BK.cell 1).trans rfl)) rfl ⟨rfl,(E1.out.DI.setCell (p:=⟨w.heap.size,0,none⟩) AB (.int .u64 0)).setCell (p:=⟨w.heap.size,1,none⟩) AB (.int .u64 0)⟩
theorem aN(s:ByteArray)(hs:s.size<=maxLen)(hz:s.size≠0)(hl:Dc.lead s=false)(hd:Dc.J4 s=true)(w:World):Calls prog 14 #[.string s] w (Jf s w):=by
 have Tl:s.size<=9223372036854775807:=by unfold maxLen at hs;omega
 have E:=I ((AI w).lay #[.int .u64 0,.int .u64 0] 57);have HT:=I (bX s Tl);have htr:=ZX hd;rw[htr]at HT;have qj:=Jn s hz;have Tk:0<s.size:=by omega
 have HD:=I hd;have HL:=I hl;have hg:(((s[0]).toNat:Int)==48)=false\/((((s[0]).toNat:Int)==48)=true/\(s.toList== [48])=true):=by
  by_cases h:(s[0]).toNat=48
  ·right
   have h1:¬1<s.size:=fun h1=>by rw[Dc.gg h1 h]at hl;cases hl
   refine⟨by simp[h],?_⟩;rw[Bl];have hlen:=Dc.IB s;have h0:=Dc.iZ Tk;cases hq:s.data.toList with
   |nil=>rw[hq]at hlen;simp at hlen;omega
   |cons b l=>
    cases l with
    |nil=>
     rw[hq]at h0;have:b=48:=by
      have h2:b=s[0]:=by simpa using h0
      rw[h2];apply CY.1;rw[h];rfl
     rw[this];rfl
    |cons c l=>rw[hq]at hlen;simp at hlen;omega
  ·left
   simp;omega
 clear htr hl hd;go_in;go_wp2_with fail
 refine(HT.out _).mono ?_;rintro e' w1 ⟨rfl,C6⟩;have E1:=I (E.out.below C6);clear C6 HT E;rcases hg with hg|⟨hg,Ka⟩;all_goals
  go_wp2_with fail
  rw[ATr w1 _ _ 5 s underlying9 underlying42 underlying5];rw[Result.andThen];have HC:=I (ATs w1 5 s);have HB:=I (ATt w1 5 s);generalize bytesWorld w1 5 s=w2 at*;generalize grownCap w1 s.size 0 5=cc at*;have E2:=I (E1.out.below HB.out);have HDK:=I (show∀k,k<s.size->48<=(s.data.toList.getD k 0).toNat/\(s.data.toList.getD k 0).toNat<=57 from fun k hk=>by
   have h1:k<s.data.toList.length:=by rw[Dc.IB];exact hk
   have:=PV HD.out (s.data.toList.getD k 0) (by rw[By,AU h1];exact AL h1)
   simpa [Dc.TD] using this)
  clear E1 HB;go_wp2_with fail
  go_loopw [31] (fun iv wr=>∃j:Nat,j<=s.size/\iv=.int .i64 (j:Int)/\wr=w2) (fun iv _=>s.size- (RowKit.intOf iv).toNat)
  case atStart=>exact⟨0,by omega,rfl,rfl⟩
  case round=>
   obtain⟨j,hj,rfl,rfl⟩:=hrel;by_cases DG:j<s.size
   ·have FR:=HC.out j DG
    obtain⟨N8,GV⟩:=HDK.out j DG;generalize (s.data.toList.getD j 0).toNat=b at*;have vV:¬(b:Int)<48:=by omega
    have pZ:¬57<(b:Int):=by omega
    go_wp2;exact⟨⟨j+1,by omega,by simp,by first|rfl|trivial⟩,by simp[RowKit.intOf];omega⟩
   ·have y0:=E2.out.hd.cell 0
    have y1:=E2.out.hd.cell 1;have f0:=E2.out.hd.frozen 0;have f1:=E2.out.hd.frozen 1;have q0:=E2.out.hd.lt;simp at y0 y1;clear HC HDK;by_cases h39:39<s.size
    ·obtain⟨p1,p2⟩:=Dc.N9 hz HL.out HD.out (gF HD.out HL.out h39)
     have P1:=I p1;have P2:=I p2;have AHG:39<(s.size:Int):=by omega
     clear p1 p2;go_wp2;have BK:=((E2.out.hd.De 0 (.int .u64 0)).De 1 (.int .u64 0));refine AF (v:=.tuple #[.agg #[.int .u64 0,.int .u64 0],.int .i64 2]) (Hq results14 rfl rfl ((BK.cell 0).trans rfl) ((BK.cell 1).trans rfl)) rfl ⟨by rw[P1.out,P2.out];rfl,(E2.out.DI.setCell (p:=⟨w.heap.size,0,none⟩) AB (.int .u64 0)).setCell (p:=⟨w.heap.size,1,none⟩) AB (.int .u64 0)⟩
    ·have AHG:¬39<(s.size:Int):=by omega
     by_cases hv:Dc.Ep s.data.toList<2^128
     ·obtain⟨p1,p2⟩:=Dc.cZ hz HL.out HD.out hv
      have P1:=I p1;have P2:=I p2;have HV:=I hv;clear p1 p2 y0 y1 f0 f1;by_cases h2:s.size=39
      case' pos=>
       have h2':((s.size:Int)==39)=true:=by simp[h2]
       rcases fH HD.out h2 hv with hm|⟨hm,cM⟩;all_goals unfold Ln at hm
       all_goals try unfold Ln at cM
      case' neg=>have h2':((s.size:Int)==39)=false:=by simp;omega
      all_goals
       clear hv;go_wp2_with fail
       obtain rfl:j=s.size:=by omega
       clear h2 h2';obtain⟨wo,rfl⟩:∃wo,wo=wr:=⟨_,rfl⟩;have HVA:=I (Dc.jI s);have hlen:=Dc.IB s;have HFU:=I (show Dc.Ep (s.data.toList.take s.size)=Dc.Ep s.data.toList by rw[AY (by omega)]);have HMO:=I (fun k (hk:k<=s.size)=>Dc.XY s.data.toList k s.size hk (by omega));have AGI:=I (show∀k,(hk:k<s.size)->∃d,(s[k]'hk).toNat=d+48/\d<=9 from fun k hk=>by
        have h1:k<s.data.toList.length:=by rw[Dc.IB];exact hk
        have:=PV HD.out (s[k]'hk) (by rw[<-Dc.JS s k hk];exact AL h1);simp only[Dc.TD,Bf,CG]at this;exact⟨(s[k]'hk).toNat- 48,by omega,by omega⟩)
       clear hlen hj DG;go_loopw [7,63] (fun v kv wr=>∃(j:Nat)(l:List Bool)(A:Option Addr)(c:Nat),j<=s.size/\kv=.int .i64 (j:Int)/\v=.slice A l.length c/\Bt.Norm l/\Bt.val l=Dc.Ep (s.data.toList.take j)/\Reads wr wr.heap.size 1 A l.length (l.map Value.bool)/\Below wo.heap.size wo wr) (fun _ kv _=>s.size- (RowKit.intOf kv).toNat)
       case atStart=>exact⟨0,[],none,0,by omega,rfl,rfl,Bt.Uu,by simp[Bt.val,Dc.Ep],Reads.none_,AA⟩
       case round=>
        obtain⟨j,l,A,c,hj,rfl,rfl,Ix,Rq,hrd,FI⟩:=hrel;have tB:=HMO.out j hj;have hfu:=HFU.out;have hvv:=HV.out;have hll:l.length<=128:=Bt.cy Ix (by omega);have RD:=I hrd;have BL:=I FI;have NO:=I Ix;have VA:=I Rq;clear tB hfu hvv hrd FI Ix Rq;by_cases DG:j<s.size
        ·obtain⟨d,hd,hd9⟩:=AGI.out j DG
         have GR:=HVA.out j DG;rw[hd,Ch,<-VA.out]at GR;have hbx:((s[j]'DG).toNat:Int)=(d:Int)+48:=by omega
         have ST:=I GR;clear GR hd;have ma:=I (show∀w,Calls prog 36 #[.int .i64 (IntKind.i64.wrap (IntKind.u8.wrap (d:Int)))] w fun e w'=>e=.returned (.agg #[.int .u64 (DB d),.int .u64 (DE d)])/\Below w.heap.size w w' from fun w=>by
          have:=Qm (d:Int) (by omega) (by omega) w;rw[Bp]at this
          rwa [show IntKind.i64.wrap (IntKind.u8.wrap (d:Int))=(d:Int)by rw[AS2,Aj];omega])
         have HBI:=I (Fv d (by omega));have AG4:(Bt.bits d).length<=128:=by rw[Bt.Ez];exact Bt.Ew (by omega)
         have HPR:=I (show Calls prog 34 #[.slice A l.length c,.slice (some ⟨wr.heap.size,0,none⟩) 4 4] (wr.alloc (.cells #[.bool false,.bool true,.bool false,.bool true] 4)).drew (KU (QI l [false,true,false,true] l.length) (wr.alloc (.cells #[.bool false,.bool true,.bool false,.bool true] 4)).drew)
          from LN A (some ⟨wr.heap.size,0,none⟩) l [false,true,false,true] c 4 _ (((RD.out.alloc AB _).more (by simp)).drew) (kp wr).drew (by omega) (by simp))
         have BX:=I (show Below wo.heap.size wo (wr.alloc (.cells #[.bool false,.bool true,.bool false,.bool true] 4)).drew from(BL.out.alloc BL.out.size _).drew)
         go_upto_region 16 with fail
         go_region_law (first
          |(go_simp;go_at_call 34;(with_reducible refine HPR.out.mono ?_);rintro e' w3 ⟨A3,c3,l3,rfl,UG,L7,DT⟩;have R3:=Reads.DR L7;have B3:=BX.out.trans (DT.mono BX.out.size))
          |(go_simp;go_at_call 36;(with_reducible refine(ma.out _).mono ?_);rintro e' w4 ⟨rfl,EL⟩;have R4:=(R3.below EL AB).more EL.size;have B4:=B3.trans (EL.mono B3.size))
          |(go_simp;go_at_call 35;(with_reducible refine(HBI.out _).mono ?_);rintro e' w5 ⟨A5,c5,l5,rfl,rfl,Xe,Eh⟩;have R5:=(R4.below Eh AB).more Eh.size;have Q5:=Reads.DR Xe;have B5:=B4.trans (Eh.mono B4.size))
          |(go_simp;go_at_call 33;(with_reducible refine(Of A3 A5 l3 (Bt.bits d) c3 c5 w5 R5 Q5 ?p1 ?p2).mono ?_);(case p1=>have:=UG.2.1;simp only[AP,CZ]at this;omega);(case p2=>omega);rintro e' w6 ⟨A6,c6,l6,rfl,hp6,Iv,XW⟩;have R6:=Reads.DR Iv;have B6:=B5.trans (XW.mono B5.size)))
         all_goals
          have tF:Bt.Norm l3:=UG.2.2 (.inr (by decide)) (by simp);have N6:=I (X7 hp6 tF (Bt.mJ d));have V6:=I (show Bt.val l6=Dc.Ep (s.data.toList.take (j+1))by
           rw[ST.out,hp6.1,UG.1,Bt.FL,Ap];have:Bt.val [false,true,false,true]=10:=by decide
           rw[this];omega)
          have R6':=I R6;have B6':=I B6;clear R3 R4 R5 Q5 R6 B3 B4 B5 B6 UG hp6 L7 Xe Iv DT EL Eh XW tF;go_wp2;exact⟨⟨j+1,l6,A6,c6,by omega,by simp,rfl,N6.out,V6.out,R6'.out,B6'.out⟩,by simp[RowKit.intOf];omega⟩
        ·obtain rfl:j=s.size:=by omega
         have Rq:=VA.out;rw[HFU.out]at Rq;have E3:=I (E2.out.below BL.out);have s8:=I (dS A l c wr RD.out (by omega) (by rw[Rq];exact HV.out));rw[Rq]at s8;clear Rq;generalize Dc.Ep s.data.toList=v at*;go_wp2_with fail
         refine s8.out.mono ?_;rintro e' w7 ⟨rfl,Pp⟩;have E4:=I (E3.out.below Pp);have y0:=E4.out.hd.cell 0;have y1:=E4.out.hd.cell 1;have f0:=E4.out.hd.frozen 0;have f1:=E4.out.hd.frozen 1;have q0:=E4.out.hd.lt;simp at y0 y1;clear Pp;go_wp2;have BK:=((E4.out.hd.De 0 (.int .u64 (DB v))).De 1 (.int .u64 (DE v))).alloc (.cells #[.int .u64 (DB v),.int .u64 (DE v)] 57);have BE:=((E4.out.DI.setCell (p:=⟨w.heap.size,0,none⟩) AB (.int .u64 (DB v))).setCell (p:=⟨w.heap.size,1,none⟩) AB (.int .u64 (DE v)));refine AF (v:=.tuple #[.agg #[.int .u64 (DB v),.int .u64 (DE v)],.int .i64 0]) (Hq results14 rfl rfl ((BK.cell 0).trans rfl) ((BK.cell 1).trans rfl)) rfl ⟨by rw[P1.out,P2.out],BE.alloc BE.size _⟩
     ·have h2:s.size=39:=by
       have:=cW HD.out;omega
      have h2':((s.size:Int)==39)=true:=by simp[h2]
      obtain⟨hm,cM⟩:=Zh HD.out h2 hv;unfold Ln at hm cM;obtain⟨p1,p2⟩:=Dc.N9 hz HL.out HD.out hv;have P1:=I p1;have P2:=I p2;clear p1 p2 hv;go_wp2;have BK:=((E2.out.hd.De 0 (.int .u64 0)).De 1 (.int .u64 0));refine AF (v:=.tuple #[.agg #[.int .u64 0,.int .u64 0],.int .i64 2]) (Hq results14 rfl rfl ((BK.cell 0).trans rfl) ((BK.cell 1).trans rfl)) rfl ⟨by rw[P1.out,P2.out];rfl,(E2.out.DI.setCell (p:=⟨w.heap.size,0,none⟩) AB (.int .u64 0)).setCell (p:=⟨w.heap.size,1,none⟩) AB (.int .u64 0)⟩
