/- node -/
import Derived.Test.YthiplgekjgffkaaGreatDoorM37
import Derived.Test.YthiplgekjgffkaaGreatDoorM23
set_option maxRecDepth 100000
set_option maxHeartbeats 99000000
set_option linter.all false
namespace Go.Proofs.YthiplgekjgffkaaGreatDoor
open Go.Proofs.Tryz
open Go.RowKit Go.Lib
def Dh.FA(s:Dh)(id:ByteArray)(th:Int):Int:=if th<1\/60<th then 1 else if (idxOf s.D id).isSome=false then 4 else if 0<=TP (Gb id th) s.S then 5 else if s.S.length=8 then 10 else 0
def Dh.plus(s:Dh)(id:ByteArray)(th:Int):Dh:={s with S:=s.S++[(id,th,false)]}
def Dh.Dy(s:Dh)(id:ByteArray)(th:Int):Dh:=if s.FA id th=0 then (s.plus id th).tell else s
def Dh.Fa(s:Dh)(id:ByteArray)(th:Int):List Dm:=if s.FA id th=0 then (s.plus id th).notes else []
theorem sH(D:List D0)(id:ByteArray):Lh D id=if (idxOf D id).isSome=true then 0 else 4:=by
 unfold Lh;rw[ZB];cases hi:idxOf D id with
 |none=>rfl
 |some k=>
  obtain⟨hk,-,-⟩:=Hk hi;show(match D[k]? with|some _=>(0:Int)|none=>4)=_;rw[AU hk];rfl
theorem Di.plus{s:Dh}(h:Di s){id:ByteArray}{th:Int}(he:s.FA id th=0):Di (s.plus id th):=by
 unfold Dh.FA at he;by_cases h1:th<1\/60<th
 ·rw[AD h1]at he;cases he
 rw[AC h1]at he;by_cases h2:(idxOf s.D id).isSome=false
 ·rw[AD h2]at he;cases he
 rw[AC h2]at he;by_cases h3:0<=TP (Gb id th) s.S
 ·rw[AD h3]at he;cases he
 rw[AC h3]at he;by_cases h4:s.S.length=8
 ·rw[AD h4]at he;cases he
 have h8:=h.eight;refine⟨h.id,h.cfg,h.Nm,h.Ny,h.bL,h.Ku,h.MJ,h.ps,h.pv,by show(s.S++[_]).length<=8;rw[AN];simp;omega,fun t ht=>?_⟩;rcases Au.1 ht with ht|ht
 ·exact h.th t ht
 ·rw[Ai.1 ht]
  cases hi:idxOf s.D id with
  |none=>rw[hi]at h2;simp at h2
  |some k=>
   obtain⟨hk,e,-⟩:=Hk hi;have hg:=(h.ps.Fo _ (AL hk)).1;have:JK id=true:=by rw[<-e];exact hg
   exact⟨(Mx this).2,by show 1<=th;omega,by show th<=60;omega⟩
theorem XJ{P:Program}{w:World}{ops:Array Oper}{o:Oper}{a:Act}{K:Act->World->Prop}{Q:Exit->Act->World->Prop}{E:Prop}(La:o.guard=none)(s x:Operand)(t:TypeId)
 (ho:o.op=.call {callee:=.builtin .append,args:=#[s,x],argTypes:=#[t,t]})
 (base:Nat) (e:TypeId) (i:TypeInfo) (z:Value) (size bytes:Nat) (ht:P.underlying t=some (.slice e)) (hi:P.info? e=some i) (hz:i.zero=some z)
 (H7:i.size=size) (Y7:i.bytes=bytes) (Ts:z.cells.size=size) (ER:0<size)
 (v:Value) (n:Nat) (xs:List Value) (hs:a.eval s=v) (DL:w.ownsRow base e size v n xs)
 (B:Nat) (A:Option Addr) (m c:Nat) (news:List Value) (hx:a.eval x=.slice A m c) (hr:Reads w B size A m news) (h1:∀u∈news,u.oneCell'=true)
 (Xv:n+m<=maxLen) (G9:(n+m)*bytes<=140737488355328) (Gk:base<=w.heap.size)
 (h:∀v' w',w'.ownsRow base e size v' (n+m) (xs++news)->w.grownBy w' v.ownBlock->(v'.ownBlock=v.ownBlock\/v'.ownBlock=some w.heap.size)->K (a.put o.dst v') w'):
 if Region.wanted o (yielded ops a.tmps)=true then Oper.wp P o a w K Q else E:=by
 have hw:Region.wanted o (yielded ops a.tmps)=true:=by simp[Region.wanted,La]
 rw[AD hw];exact MO w s x t ho base e i z size bytes ht hi hz H7 Y7 Ts ER v n xs hs DL B A m c news hx hr h1 Xv G9 Gk h
theorem ZZ:(Tryz.prog.info? 182).map (fun i=>(i.zero,i.size,i.bytes))=some (some (.agg #[.string ByteArray.empty,.int .i64 0,.bool false]),3,32):=by kernel_rfl
section
variable{X:Nat->Prop}{w:World}{b pn pc:Nat}{A:Option Addr}{sv:Value}{l:List C8}{s:Dh}
theorem MW(h:Ft X w b A pn pc sv l s)(hg:Di s)(id:ByteArray)(th:Int):
 (∀(ht:th<1),Calls prog 183 #[.pointer (some ⟨b,0,none⟩),.string id,.int .i64 th] w (MK X b s [] 1 w))/\
 (∀(ht:60<th),Calls prog 183 #[.pointer (some ⟨b,0,none⟩),.string id,.int .i64 th] w (MK X b s [] 1 w))/\
 (∀(Ur:1<=th),∀(mg:th<=60),∀(hx:Lh s.D id=4),Calls prog 183 #[.pointer (some ⟨b,0,none⟩),.string id,.int .i64 th] w (MK X b s [] 4 w))/\
 (∀(Ur:1<=th),∀(mg:th<=60),∀(hx:Lh s.D id=0),∀(hi:decide (0<=TP (Gb id th) s.S)=true),Calls prog 183 #[.pointer (some ⟨b,0,none⟩),.string id,.int .i64 th] w (MK X b s [] 5 w))/\
 (∀(Ur:1<=th),∀(mg:th<=60),∀(hx:Lh s.D id=0),∀(hi:decide (0<=TP (Gb id th) s.S)=false),∀(hl:s.S.length=8),Calls prog 183 #[.pointer (some ⟨b,0,none⟩),.string id,.int .i64 th] w (MK X b s [] 10 w))/\
 (∀(Ur:1<=th),∀(mg:th<=60),∀(hx:Lh s.D id=0),∀(hi:decide (0<=TP (Gb id th) s.S)=false),∀(hl:s.S.length≠8),∀(Ka:Di (s.plus id th)),Calls prog 183 #[.pointer (some ⟨b,0,none⟩),.string id,.int .i64 th] w (MK X b (s.plus id th).tell (s.plus id th).notes 0 w)):=by
 refine⟨fun ht=>?_,fun ht=>?_,fun Ur mg hx=>?_,fun Ur mg hx hi=>?_,fun Ur mg hx hi hl=>?_,fun Ur mg hx hi hl Ka=>?_⟩;all_goals
  have HH:=I h;have HG:=I hg;have FI:=h.DC.lt;have h8:=hg.eight;have E0:=I (((AI w).lay #[.string id] 9).lay #[.int .i64 th] 3);have N0:=I (C0.below h E0.out.DI)
 ·have E0B:=I E0.out.DI
  clear h hg E0;go_in;go_wp2;all_goals first
   |(exfalso;omega)
   |(refine AF (v:=.tuple #[.slice none 0 0,.int .i64 1]) (by simp[results,results183,go_sem]) rfl ?_;exact .no (C0.at_ (C0.grow N0.out)) (.DU E0B.out))
 ·have h1:¬th<1:=by omega
  have E0B:=I E0.out.DI;clear h hg E0;go_in;go_wp2;all_goals first
   |(exfalso;omega)
   |(refine AF (v:=.tuple #[.slice none 0 0,.int .i64 1]) (by simp[results,results183,go_sem]) rfl ?_;exact .no (C0.at_ (C0.grow N0.out)) (.DU E0B.out))
 ·have h1:¬th<1:=by omega
  have h2:¬60<th:=by omega
  have HX:=I hx;clear h hg hx;go_in;go_wp2_with fail
  refine((RY N0.out HG.out id).mono ?_);rintro e' w1 ⟨rfl,C6⟩;rw[HX.out];have E1:=I (E0.out.below C6);have E1B:=I E1.out.DI;have N1:=I (C0.below HH.out E1.out.DI);clear C6;go_wp2;all_goals first
   |(exfalso;omega)
   |(refine AF (v:=.tuple #[.slice none 0 0,.int .i64 4]) (by simp[results,results183,go_sem]) rfl ?_;exact .no (C0.at_ (C0.grow N1.out)) (.DU E1B.out))
 ·have h1:¬th<1:=by omega
  have h2:¬60<th:=by omega
  have HX:=I hx;have HI:=I hi;clear h hg hx hi;go_in;go_wp2_with fail
  refine((RY N0.out HG.out id).mono ?_);rintro e' w1 ⟨rfl,C6⟩;rw[HX.out];have E1:=I (E0.out.below C6);have E1B:=I E1.out.DI;have N1:=I (C0.below HH.out E1.out.DI);clear C6;have b9:=N1.out.DC.cell 9;have uZ:=N1.out.DC.lt;simp[ED]at b9;have x0:=E1.out.hd.cell 0;have x1:=E1.out.tl.hd.cell 0;simp at x0 x1;have HC:=I (Vs w.heap.size (w.heap.size+1) (Gb id th) sv s.S (by omega) w1 N1.out.Nb (Oo _ _ id th w1 E1.out.tl.hd (by have:=E1.out.hd;simpa using this)));go_wp2_with fail
  refine HC.out.mono ?_;rintro e' w2 ⟨rfl,DK⟩;rw[HI.out];have E2:=I (E1.out.below DK);have E2B:=I E2.out.DI;have N2:=I (C0.below HH.out E2.out.DI);clear DK x0 x1 b9;go_wp2;all_goals first
   |(exfalso;omega)
   |(refine AF (v:=.tuple #[.slice none 0 0,.int .i64 5]) (by simp[results,results183,go_sem]) rfl ?_;exact .no (C0.at_ (C0.grow N2.out)) (.DU E2B.out))
 ·have h1:¬th<1:=by omega
  have h2:¬60<th:=by omega
  have HX:=I hx;have HI:=I hi;have HL:=I hl;clear h hg hx hi hl;go_in;go_wp2_with fail
  refine((RY N0.out HG.out id).mono ?_);rintro e' w1 ⟨rfl,C6⟩;rw[HX.out];have E1:=I (E0.out.below C6);have E1B:=I E1.out.DI;have N1:=I (C0.below HH.out E1.out.DI);clear C6;have b9:=N1.out.DC.cell 9;have uZ:=N1.out.DC.lt;simp[ED]at b9;have x0:=E1.out.hd.cell 0;have x1:=E1.out.tl.hd.cell 0;simp at x0 x1;have HC:=I (Vs w.heap.size (w.heap.size+1) (Gb id th) sv s.S (by omega) w1 N1.out.Nb (Oo _ _ id th w1 E1.out.tl.hd (by have:=E1.out.hd;simpa using this)));go_wp2_with fail
  refine HC.out.mono ?_;rintro e' w2 ⟨rfl,DK⟩;rw[HI.out];have E2:=I (E1.out.below DK);have E2B:=I E2.out.DI;have N2:=I (C0.below HH.out E2.out.DI);clear DK x0 x1 b9;have b9:=N2.out.DC.cell 9;have Hi:=N2.out.DC.lt;simp[ED]at b9;obtain⟨As,cs,WO⟩:=Cz N2.out.Nb.own;subst WO;rw[HL.out]at b9;go_wp2;all_goals first
   |(exfalso;omega)
   |(refine AF (v:=.tuple #[.slice none 0 0,.int .i64 10]) (by simp[results,results183,go_sem]) rfl ?_;exact .no (C0.at_ (C0.grow N2.out)) (.DU E2B.out))
 ·have h1:¬th<1:=by omega
  have h2:¬60<th:=by omega
  obtain⟨i0,Pr,Fq,FZ,Fe⟩:=AO ZZ;have HX:=I hx;have HI:=I hi;have HG2:=I Ka;clear h hg hx hi Ka;go_in;go_wp2_with fail
  refine((RY N0.out HG.out id).mono ?_);rintro e' w1 ⟨rfl,C6⟩;rw[HX.out];have E1:=I (E0.out.below C6);have E1B:=I E1.out.DI;have N1:=I (C0.below HH.out E1.out.DI);clear C6;have b9:=N1.out.DC.cell 9;have uZ:=N1.out.DC.lt;simp[ED]at b9;have x0:=E1.out.hd.cell 0;have x1:=E1.out.tl.hd.cell 0;simp at x0 x1;have HC:=I (Vs w.heap.size (w.heap.size+1) (Gb id th) sv s.S (by omega) w1 N1.out.Nb (Oo _ _ id th w1 E1.out.tl.hd (by have:=E1.out.hd;simpa using this)));go_wp2_with fail
  refine HC.out.mono ?_;rintro e' w2 ⟨rfl,DK⟩;rw[HI.out];have E2:=I (E1.out.below DK);have E2B:=I E2.out.DI;have N2:=I (C0.below HH.out E2.out.DI);clear DK x0 x1 b9;have b9:=N2.out.DC.cell 9;have Hi:=N2.out.DC.lt;simp[ED]at b9;obtain⟨As,cs,WO⟩:=Cz N2.out.Nb.own;subst WO;obtain⟨n,hn⟩:∃n,s.S.length=n:=⟨_,rfl⟩;rw[hn]at b9 hl h8;have hl8:¬((n:Int)=8):=by omega
  have HN:=I hn;have y0:=E2.out.hd.cell 0;have y1:=E2.out.tl.hd.cell 0;simp at y0 y1;clear hn
  go_upto_region 37 with fail
  have OWN:=I (show w2.ownsRow 0 182 3 (.slice As n cs) n (Da s.S)by have:=N2.out.Nb.own;rw[HN.out]at this;exact this);have fX:(Value.slice As n cs).ownBlock≠some b:=fun e=>by have:=(N2.out.xs b (by rw[HN.out];exact e)).2;exact this rfl
  have hbx:=I (show∀k,(Value.slice As n cs).ownBlock=some k->k<w.heap.size from fun k hk=>HH.out.Nb.lt k (by rw[HN.out];exact hk));have HS:=I (show∀w',Kept (fun k=>(Value.slice As n cs).ownBlock=some k) w2 w'->(Kept (fun k=>(Value.slice As n cs).ownBlock=some k) w2 w'/\w'.cell? ⟨b,9,none⟩=some (.slice As n cs)/\w'.cell? ⟨w.heap.size,0,none⟩=some (.string id)/\w'.cell? ⟨w.heap.size+1,0,none⟩=some (.int .i64 th)/\w'.frozen? ⟨b,9,none⟩=false)
   from fun w' h=>⟨h,h.cell b9 fX,h.cell y1 (fun e=>by have h5:w.heap.size<w.heap.size:=hbx.out _ e;omega),h.cell y0 (fun e=>by have h5:w.heap.size+1<w.heap.size:=hbx.out _ e;omega),(h.DC N2.out.DC fX).frozen 9⟩)
  have Pi:=I (fun w'=>Kd w' 182 (id,th,false));have Pb:=I (In [(id,th,false)]);have WP:=E2.out.DI.size;have f9:=N2.out.DC.frozen 9;have HS9:=I (show∀w',Kept (fun k=>(Value.slice As n cs).ownBlock=some k) w2 w'->w'.cell? ⟨b,9,none⟩=some (.slice As n cs)/\w'.frozen? ⟨b,9,none⟩=false from fun w' h=>⟨h.cell b9 fX,(h.DC N2.out.DC fX).frozen 9⟩);go_region_law ((refine XJ (by rfl) _ _ _ (by rfl) 0 182 i0 (.agg #[.string ByteArray.empty,.int .i64 0,.bool false]) 3 32 underlying168 Pr Fq FZ Fe rfl (by decide) _ _ _ (by rfl) (OWN.out.drew.alloc _) _ _ 1 _ _ (by rfl) (Pi.out _) Pb.out (by unfold maxLen;omega) (by omega) (AM _) ?_;intro v9 w9 Db QC eO;obtain⟨A9,c9,rfl⟩:=Cz Db;have sd:Kept (fun k=>(Value.slice As n cs).ownBlock=some k) w2 w9:=Kept.grown (by first|exact(AH _ _).alloc _|exact((AH _ _).drew).alloc _) QC (fun k hk=>.inl hk);obtain⟨z9,zf9⟩:=HS9.out w9 sd))
  all_goals
   have K9:=I ((Kept.DU (X:=fun k=>(Value.slice As n cs).ownBlock=some k) E2B.out).trans sd);have BK:=I eO;have SA:=I (show Ib w9 (.slice A9 (n+1) c9) (s.S++[(id,th,false)])from .DR (by rw[Kk];exact Db));have NJ:=I (show Ft (grow X w w9) (w9.setCell ⟨b,9,none⟩ (.slice A9 (n+1) c9)) b A pn pc (.slice A9 (n+1) c9) l (s.plus id th)from C0.join (mk':=ED s.c s.now s.seq s.drops) (i:=9) HH.out (by rw[HN.out];exact K9.out) SA.out (by rw[HN.out];rcases BK.out with e|e;exact .inl e;exact .inr (fun g hg=>by rw[e]at hg;simp at hg;omega)) rfl);have KJ:=I ((K9.out.mono (fun k hk=>.inl (HH.out.xs k (by rw[HN.out];exact hk)).1):Kept X w w9).setCell (a:=⟨b,9,none⟩) (.inl HH.out.xb) (.slice A9 (n+1) c9))
   have ER:(w9.setCell ⟨b,9,none⟩ (.slice A9 (n+1) c9)).heap.size=w9.heap.size:=by simp[World.setCell]
   have wG:=K9.out.size;clear sd eO Db QC z9 zf9 b9 y0 y1 f9;go_wp2_with fail
   refine(Va NJ.out HG2.out).mono ?_;rintro e' w6 ⟨A6,c6,rfl,Iv,Qg,UQ⟩;have Df:=I (show MK X b (s.plus id th).tell (s.plus id th).notes 0 w (.returned (.tuple #[.slice A6 (s.plus id th).notes.length c6,.int .i64 0])) w6 from
    ⟨A6,c6,rfl,DX Iv (by rw[ER];exact wG),Fs.wide (C0.at_ Qg) (Q9 (by have:=UQ.size;rw[ER]at this;exact this)) (fun k hk=>hk.2),KJ.out.then UQ (fun k hk=>hk.1)⟩)
   clear Iv Qg UQ;go_wp2;exact AF (v:=.tuple #[.slice A6 (s.plus id th).notes.length c6,.int .i64 0]) (by simp[results,results183,go_sem]) rfl Df.out
theorem rC(h:Ft X w b A pn pc sv l s)(hg:Di s)(id:ByteArray)(th:Int):
 Calls prog 183 #[.pointer (some ⟨b,0,none⟩),.string id,.int .i64 th] w (MK X b (s.Dy id th) (s.Fa id th) (s.FA id th) w):=by
 have hp:=fun he=>hg.plus (id:=id) (th:=th) he;have hle:=sH s.D id;unfold Dh.Dy Dh.Fa;unfold Dh.FA at hp⊢;by_cases h1:th<1\/60<th
 ·rw[AD h1,AC (by decide),AC (by decide)]
  rcases h1 with h1|h1
  ·exact(MW h hg id th).1 h1
  ·exact(MW h hg id th).2.1 h1
 rw[AC h1]at hp⊢;by_cases h2:(idxOf s.D id).isSome=false
 ·rw[AD h2,AC (by decide),AC (by decide)]
  exact(MW h hg id th).2.2.1 (by omega) (by omega) (by rw[hle,h2];rfl)
 rw[AC h2]at hp⊢;have h2:(idxOf s.D id).isSome=true:=by
  cases hq:(idxOf s.D id).isSome
  ·exact absurd hq h2
  ·rfl
 rw[h2,AD rfl]at hle;by_cases h3:0<=TP (Gb id th) s.S
 ·rw[AD h3,AC (by decide),AC (by decide)]
  exact(MW h hg id th).2.2.2.1 (by omega) (by omega) hle (by simpa using h3)
 rw[AC h3]at hp⊢;by_cases h4:s.S.length=8
 ·rw[AD h4,AC (by decide),AC (by decide)]
  exact(MW h hg id th).2.2.2.2.1 (by omega) (by omega) hle (by simpa using h3) h4
 rw[AC h4]at hp⊢;rw[AD rfl,AD rfl];exact(MW h hg id th).2.2.2.2.2 (by omega) (by omega) hle (by simpa using h3) h4 (hp rfl)
theorem Di.Dy{s:Dh}(h:Di s)(id:ByteArray)(th:Int):Di (s.Dy id th):=by
 unfold Dh.Dy;split
 ·rename_i he;exact(h.plus he).tell
 ·exact h
end
def Ph(c:Dg):Value:=.agg #[.string c.1,.int .i64 (LY c),.int .i64 (Eb c),.int .i64 (JM c),.int .i64 (Jy c)]
def Yk(i e c l:Int):Prop:=i<0\/(0<=i/\2147483647<i)\/(0<=i/\i<=2147483647/\e<1)\/(0<=i/\i<=2147483647/\1<=e/\wi e 0 16777216=false)\/(0<=i/\i<=2147483647/\1<=e/\wi e 0 16777216=true/\c<1)\/
 (0<=i/\i<=2147483647/\1<=e/\wi e 0 16777216=true/\1<=c/\64<c)\/(0<=i/\i<=2147483647/\1<=e/\wi e 0 16777216=true/\1<=c/\c<=64/\l<1)\/(0<=i/\i<=2147483647/\1<=e/\wi e 0 16777216=true/\1<=c/\c<=64/\1<=l/\wi l 0 16777216=false)
instance (c:Dg):Decidable (Gj c):=by unfold Gj;infer_instance
def IX(c:Dg):Int:=if JK c.1=true then (if Gj c then 0 else 1)else 3
theorem Wy{c:Dg}(h:IX c=0):JK c.1=true/\Gj c:=by
 unfold IX at h;split at h
 ·rename_i h1
  split at h
  ·rename_i h2;exact⟨h1,h2⟩
  ·cases h
 ·cases h
theorem xK{c:Dg}(h:¬Gj c):Yk (LY c) (Eb c) (JM c) (Jy c):=by
 unfold Yk;by_cases h1:LY c<0
 ·exact .inl h1
 by_cases h2:2147483647<LY c
 ·exact .inr (.inl ⟨by omega,h2⟩)
 by_cases h3:Eb c<1
 ·exact .inr (.inr (.inl ⟨by omega,by omega,h3⟩))
 cases h4:wi (Eb c) 0 16777216
 ·exact .inr (.inr (.inr (.inl ⟨by omega,by omega,by omega,rfl⟩)))
 by_cases h5:JM c<1
 ·exact .inr (.inr (.inr (.inr (.inl ⟨by omega,by omega,by omega,rfl,h5⟩))))
 by_cases h6:64<JM c
 ·exact .inr (.inr (.inr (.inr (.inr (.inl ⟨by omega,by omega,by omega,rfl,by omega,h6⟩)))))
 by_cases h7:Jy c<1
 ·exact .inr (.inr (.inr (.inr (.inr (.inr (.inl ⟨by omega,by omega,by omega,rfl,by omega,by omega,h7⟩))))))
 cases h8:wi (Jy c) 0 16777216
 ·exact .inr (.inr (.inr (.inr (.inr (.inr (.inr ⟨by omega,by omega,by omega,rfl,by omega,by omega,by omega,rfl⟩))))))
 ·exfalso
  apply h;have:=DW.1 h4;have:=DW.1 h8;unfold Gj;omega
theorem ABf(c:Dg)(hs:c.1.size<=maxLen)(hi:JK c.1=false)(w:World):
 Calls prog 211 #[Ph c] w fun e w'=>e=.returned (.int .i64 3)/\Below w.heap.size w w':=by
 have E:=I ((AI w).lay #[.string c.1,.int .i64 (LY c),.int .i64 (Eb c),.int .i64 (JM c),.int .i64 (Jy c)] 108);have HI:=I hi;unfold Ph;clear hi;go_in;go_wp2_with fail
 refine(Gt c.1 hs _).mono ?_;rw[HI.out];rintro e' w' ⟨rfl,rfl⟩;go_wp2;go_ret;exact⟨rfl,E.out.DI⟩
theorem wN(c:Dg)(hs:c.1.size<=maxLen)(hi:JK c.1=true)(Fg:Yk (LY c) (Eb c) (JM c) (Jy c))(w:World):
 Calls prog 211 #[Ph c] w fun e w'=>e=.returned (.int .i64 1)/\Below w.heap.size w w':=by
 have E:=I ((AI w).lay #[.string c.1,.int .i64 (LY c),.int .i64 (Eb c),.int .i64 (JM c),.int .i64 (Jy c)] 108);have HI:=I hi;unfold Ph;clear hi;obtain⟨be,eF⟩:∃b,wi (Eb c) 0 16777216=b:=⟨_,rfl⟩;obtain⟨bl,FI⟩:∃b,wi (Jy c) 0 16777216=b:=⟨_,rfl⟩;have HVE:=I eF;have HVL:=I FI;unfold Yk at Fg;rw[eF,FI]at Fg;clear eF FI;generalize LY c=vi at*;generalize Eb c=ve at*;generalize JM c=vc at*;generalize Jy c=vl at*;rcases Fg with h|⟨h1,h⟩|⟨h1,h2,h⟩|⟨h1,h2,h3,hv⟩|⟨h1,h2,h3,hv,h⟩|⟨h1,h2,h3,hv,h4,h⟩|⟨h1,h2,h3,hv,h4,h5,h⟩|⟨h1,h2,h3,hv,h4,h5,h6,hw⟩;all_goals
  try subst hw
  try subst hv
  go_in;go_wp2_with fail
  refine(Gt c.1 hs _).mono ?_;rw[HI.out];rintro e' w' ⟨rfl,rfl⟩;go_wp2_with (first
   |(go_at_call 205;(with_reducible refine(I7 ve _ HVE.out _).mono ?_);rintro e' w' ⟨rfl,rfl⟩)
   |(go_at_call 205;(with_reducible refine(I7 vl _ HVL.out _).mono ?_);rintro e' w' ⟨rfl,rfl⟩))
  all_goals first
   |(exfalso;omega)
   |(go_ret;exact⟨rfl,E.out.DI⟩)
theorem z6(c:Dg)(hi:JK c.1=true)(hc:Gj c)(w:World):
 Calls prog 211 #[Ph c] w fun e w'=>e=.returned (.int .i64 0)/\Below w.heap.size w w':=by
 have E:=I ((AI w).lay #[.string c.1,.int .i64 (LY c),.int .i64 (Eb c),.int .i64 (JM c),.int .i64 (Jy c)] 108);have HI:=I hi;have hs:c.1.size<=maxLen:=by have:=(Mx hi).2;unfold maxLen;omega
 unfold Ph;unfold Gj at hc;clear hi;have HVE:=I (show wi (Eb c) 0 16777216=true from DW.2 ⟨by omega,by omega⟩);have HVL:=I (show wi (Jy c) 0 16777216=true from DW.2 ⟨by omega,by omega⟩);obtain⟨h1,h2,h3,h4,h5,h6,h7,h8⟩:=hc;generalize LY c=vi at*;generalize Eb c=ve at*;generalize JM c=vc at*;generalize Jy c=vl at*;go_in;go_wp2_with fail
 refine(Gt c.1 hs _).mono ?_;rw[HI.out];rintro e' w' ⟨rfl,rfl⟩;go_wp2_with (first
  |(go_at_call 205;(with_reducible refine(I7 ve _ HVE.out _).mono ?_);rintro e' w' ⟨rfl,rfl⟩)
  |(go_at_call 205;(with_reducible refine(I7 vl _ HVL.out _).mono ?_);rintro e' w' ⟨rfl,rfl⟩))
 all_goals first
  |(exfalso;omega)
  |(go_ret;exact⟨rfl,E.out.DI⟩)
theorem iN(c:Dg)(hs:c.1.size<=maxLen)(w:World):
 Calls prog 211 #[Ph c] w fun e w'=>e=.returned (.int .i64 (IX c))/\Below w.heap.size w w':=by
 unfold IX;by_cases hi:JK c.1=true
 ·rw[AD hi]
  by_cases hc:Gj c
  ·rw[AD hc];exact z6 c hi hc w
  ·rw[AC hc];exact wN c hs hi (xK hc) w
 ·rw[AC hi];exact ABf c hs (by simpa using hi) w
def Dh.start(c:Dg):Dh:=⟨c,0,0,0,[],[]⟩
theorem Di.start{c:Dg}(h:IX c=0):Di (Dh.start c):=by
 obtain⟨h1,h2⟩:=Wy h;exact⟨h1,h2,Ct _,(show(0:Int)<=1073741824 by decide),by show(0:Int)=0/Eb c;rw[Int.zero_ediv],Ct _,(show(0:Int)<=1073741824 by decide),⟨by simp[Dh.start],by simp[Dh.start],by simp[Dh.start]⟩,by simp[Dh.start],by simp[Dh.start],by simp[Dh.start]⟩
theorem oJ{c:Dg}{w:World}{b:Nat}(h:DJ w b 244 (ED c 0 0 0 (.slice none 0 0) (.slice none 0 0))):FM (· =b) w b (Dh.start c):=
 ⟨none,0,0,.slice none 0 0,[],h,⟨rfl,Reads.none_,by simp⟩,rfl,⟨AB,AM _⟩,.inl ⟨rfl,rfl⟩,rfl,(fun g hg=>by cases hg),⟨fun h=>by simp at h,by simp⟩,fun k hk=>hk▸h.lt⟩
theorem ABN(c:Dg)(hs:c.1.size<=maxLen)(e0:Int)(he:IX c=e0)(hz:e0≠0)(w:World):
 Calls prog 175 #[Ph c] w fun e w'=>e=.returned (.tuple #[.pointer none,.int .i64 e0])/\Below w.heap.size w w':=by
 have E:=I ((AI w).lay #[.string c.1,.int .i64 (LY c),.int .i64 (Eb c),.int .i64 (JM c),.int .i64 (Jy c)] 108);have HE:=I he;have HC:=I (fun W=>iN c hs W);rw[HE.out]at HC;unfold Ph at HC⊢;clear he;go_in;go_wp2_with fail
 refine(HC.out _).mono ?_;rintro e' w1 ⟨rfl,C6⟩;have E1:=I (E.out.below C6);clear C6;go_wp2;all_goals first
  |(exfalso;omega)
  |exact AF (v:=.tuple #[.pointer none,.int .i64 e0]) (by simp[results,results175,go_sem]) rfl ⟨rfl,E1.out.DI⟩
def yK(c:Dg)(w:World)(e:Ending)(w':World):Prop:=∃b,e=.returned (.tuple #[.pointer (some ⟨b,0,none⟩),.int .i64 0])/\w.heap.size<=b/\FM (· =b) w' b (Dh.start c)/\Below w.heap.size w w'
theorem AA5(c:Dg)(he:IX c=0)(w:World):
 Calls prog 175 #[Ph c] w (yK c w):=by
 have hs:c.1.size<=maxLen:=by have:=(Mx (Wy he).1).2;unfold maxLen;omega
 have E:=I ((AI w).lay #[.string c.1,.int .i64 (LY c),.int .i64 (Eb c),.int .i64 (JM c),.int .i64 (Jy c)] 108);have HE:=I he;have HC:=I (fun W=>iN c hs W);rw[HE.out]at HC;unfold Ph at HC⊢;clear he;go_in;go_wp2_with fail
 refine(HC.out _).mono ?_;rintro e' w1 ⟨rfl,C6⟩;have E1:=I (E.out.below C6);clear C6;have x0:=E1.out.hd.cell 0;have x1:=E1.out.hd.cell 1;have x2:=E1.out.hd.cell 2;have x3:=E1.out.hd.cell 3;have x4:=E1.out.hd.cell 4;simp at x0 x1 x2 x3 x4;have Ld:=E1.out.DI.size;have E2:=I (E1.out.lay (ED c 0 0 0 (.slice none 0 0) (.slice none 0 0)) 244);simp only[ED]at E2;go_wp2;exact AF (v:=.tuple #[.pointer (some ⟨w1.heap.size,0,none⟩),.int .i64 0]) (by simp[results,results175,go_sem]) rfl ⟨_,rfl,Ld,oJ E2.out.hd,E2.out.DI⟩
section
variable{X:Nat->Prop}{w:World}{b pn pc:Nat}{A:Option Addr}{sv:Value}{l:List C8}{s:Dh}
theorem v7(h:Ft X w b A pn pc sv l s):
 Calls prog 178 #[.pointer (some ⟨b,0,none⟩)] w fun e w'=>e=.returned (.int .i64 s.now)/\w=w':=by
 have FI:=h.DC.lt;have b5:=h.DC.cell 5;simp[ED]at b5;clear h;go_in;go_wp2;go_ret;exact⟨rfl,rfl⟩
end
def Dw(c:Dg)(now drops:Int)(pv sv:Value):Array Value:=#[.string c.1,.int .i64 (LY c),.int .i64 (Eb c),.int .i64 (JM c),.int .i64 (Jy c),.int .i64 now,.int .i64 drops,pv,sv]
def FQ(X:Nat->Prop)(w:World)(b:Nat)(A:Option Addr)(pn pc:Nat)(sv:Value)(l:List C8)(s:Dh):Prop:=C0 170 (Dw s.c s.now s.drops) X w b A pn pc sv l s.D s.S
def FJ(X:Nat->Prop)(w:World)(b:Nat)(s:Dh):Prop:=Fs 170 (Dw s.c s.now s.drops) X w b s.D s.S
theorem SD(b:Nat)(c:Dg)(now drops:Int)(pv sv:Value)(h0:0<=now)(h1:now<=4611686018427387904)(hc:Gj c)(w:World)(hb:DJ w b 170 (Dw c now drops pv sv)):
 Calls prog 143 #[.pointer (some ⟨b,0,none⟩)] w fun e w'=>e=.returned (.int .i64 (now/Eb c))/\∃n,w'=w.drewN n:=by
 unfold Gj at hc;obtain⟨-,-,zq,Xu,-⟩:=hc;have b2:=hb.cell 2;have b5:=hb.cell 5;have FI:=hb.lt;simp[Dw]at b2 b5;have w3:now.tdiv (Eb c)=now/Eb c:=Cw h0;have q0:0<=now/Eb c:=AS7 h0 (by omega);have q1:now/Eb c<=now:=AS8 _ h0;generalize hq:now/Eb c=q at*;have HQ:=I hq;clear hb hq;go_in;go_wp2_with fail
 go_quiet (fail)
 go_wp2;go_ret;exact⟨rfl,nq,rfl⟩
section
variable{X:Nat->Prop}{w:World}{b pn pc:Nat}{A:Option Addr}{sv:Value}{l:List C8}{s:Dh}
theorem rl(hb:DJ w b 170 (Dw s.c s.now s.drops (.slice A pn pc) sv))(hp:Dq w w.heap.size A pn l)(hm:pn<=maxLen)(id:ByteArray)(Ix:∀j,(hj:j<l.length)->pid (l[j]'hj)≠id):
 Calls prog 66 #[.pointer (some ⟨b,0,none⟩),.string id] w (Pc 0 4 w):=by
 have b7:=hb.cell 7;have FI:=hb.lt;simp[Dw]at b7;have HF:=I (LC A pc w.heap.size pn l id Ix hm w hp AB);clear hb hp Ix;go_in;go_wp2_with fail
 refine HF.out.mono ?_;rintro e' w1 ⟨rfl,C6⟩;have B1:=I C6;clear C6;go_wp2;refine AF (v:=.tuple #[.int .i64 0,.int .i64 4]) (by simp[results,results66,go_sem]) rfl ⟨rfl,B1.out⟩
theorem pA(hb:DJ w b 170 (Dw s.c s.now s.drops (.slice A pn pc) sv))(hp:Dq w w.heap.size A pn l)(hm:pn<=maxLen)(id:ByteArray)(k:Nat)(hk:k<l.length)(hid:pid (l[k]'hk)=id)(ph:∀j,(hj:j<l.length)->j<k->pid (l[j]'hj)≠id)
 (N7:uQ (Jy s.c) s.now (l[k]'hk).1) (h0:0<=s.now) (h1:s.now<=1073741824):
 Calls prog 66 #[.pointer (some ⟨b,0,none⟩),.string id] w (Pc (nj (Jy s.c) s.now (l[k]'hk).1) 0 w):=by
 have FI:=hb.lt;have HB:=I hb;have HP:=I hp;have b7:=hb.cell 7;simp[Dw]at b7;have Te:k<pn:=by rw[<-hp.len];exact hk
 have hf:=Mp A pc w.heap.size pn l k hk (fun j hj VD=>by rw[hid];exact ph j hj VD) hm w hp AB;rw[hid]at hf;have HF:=I hf;obtain⟨p,Wm⟩:∃p,l[k]'hk=p:=⟨_,rfl⟩;have dE:=I Wm;rw[Wm]at N7⊢;have HK:=I N7;clear hb hp hid ph N7 Wm hf;unfold maxLen at hm;go_in;go_wp2_with fail
 refine HF.out.mono ?_;rintro e' w1 ⟨rfl,C6⟩;have B1:=I C6;have HP1:=I (HP.out.below C6 AB);clear C6 b7;obtain⟨pb,off,rfl,tN,EO⟩:=HP1.out.addr (by omega);have ZH:=EO k hk;have Yx:=HP1.out.ok _ (AL hk);rw[dE.out]at ZH Yx;have OK:=I Yx;have CK:=I ZH;obtain⟨c0,c1,c2,c3,c4,c5,c6⟩:=ZH;have Ld:=B1.out.size;have ACf:pb<w1.heap.size:=by omega
 clear EO Yx
 go_upto_region 15 with fail
 have w1x:IntKind.i64.wrap (s.now-Do p)=s.now-Do p:=by have:=HK.out.2.1;have:=HK.out.2.2;rw[Aj];simp only[Do];omega
 have Na:=HK.out.1;obtain⟨rA,j7,NK,Hc⟩:=QV Na;have hle:=(GZ rA).2.2.2;have IE:Gn ((DZ p).length:Int) (s1 (DZ p)) (s2 (DZ p))=0:=IZ _ hle;have Jw:(1:Int)<=((DZ p).length:Int):=by have:1<=(DZ p).length:=Hc;omega
 have Ly:=I (show∀W,Below w1.heap.size w1 W->Calls prog 55 #[Tb p,.int .i64 (Jy s.c),.int .i64 (s.now-Do p)] W fun e w'=>e=.returned (.int .i64 (nj (Jy s.c) s.now p.1))/\Below W.heap.size W w' from fun W hW=>
  Sn (Jy s.c) (s.now-Do p) p.2.1 p.2.2 w.heap.size (DZ p).length (DZ p) rfl hle Hc j7 NK _ _ rfl rfl _ (T5 IE Jw j7 NK).symm HK.out.2.1 (by have:=HK.out.2.2;simp only[Do];omega) OK.out.2.1 OK.out.2.2.1 W (OK.out.1.below hW Ld) (AG Ld hW.size))
 have Ii:=I (HB.out.below B1.out FI);have HS:=I (show∀w',Below w1.heap.size w1 w'->(Below w1.heap.size w1 w'/\w'.cell? ⟨b,7,none⟩=some (.slice (some ⟨pb,off,none⟩) pn pc)/\w'.cell? ⟨b,4,none⟩=some (.int .i64 (Jy s.c))/\w'.cell? ⟨b,5,none⟩=some (.int .i64 s.now)/\w'.cell? ⟨pb,off+k*7+5,none⟩=some (Tb p)/\w'.cell? ⟨pb,off+k*7+6,none⟩=some (.int .i64 (Do p)))
  from fun w' h=>⟨h,(Ii.out.below h (by omega)).cell 7,(Ii.out.below h (by omega)).cell 4,(Ii.out.below h (by omega)).cell 5,(h.cell (p:=⟨pb,off+k*7+5,none⟩) ACf).trans CK.out.2.2.2.2.2.1,(h.cell (p:=⟨pb,off+k*7+6,none⟩) ACf).trans CK.out.2.2.2.2.2.2⟩)
 clear c0 c1 c2 c3 c4 c5 c6 Na rA hle IE;go_region_held3 (fun w'=>Below w1.heap.size w1 w'/\w'.cell? ⟨b,7,none⟩=some (.slice (some ⟨pb,off,none⟩) pn pc)/\w'.cell? ⟨b,4,none⟩=some (.int .i64 (Jy s.c))/\w'.cell? ⟨b,5,none⟩=some (.int .i64 s.now)/\w'.cell? ⟨pb,off+k*7+5,none⟩=some (Tb p)/\w'.cell? ⟨pb,off+k*7+6,none⟩=some (.int .i64 (Do p)))
  ((refine HS.out _ ?_;repeat (with_reducible first|exact G8|exact AA|refine Below.Gh ?_|refine AE ?_)))
  ((go_at_call 55;(with_reducible refine(Ly.out _ ?ia).mono ?_);(case ia=>repeat (with_reducible first|exact AA|refine Below.Gh ?_|refine AE ?_));rintro e' w3 ⟨rfl,DT⟩;have G8:Below w1.heap.size w1 w3:=Below.C9 (by repeat (with_reducible first|exact AA|refine Below.Gh ?_|refine AE ?_)) DT))
 all_goals
  have EV:=I (B1.out.trans (G8.mono Ld));clear G8 DT;go_wp2;refine AF (v:=.tuple #[.int .i64 (nj (Jy s.c) s.now p.1),.int .i64 0]) (by simp[results,results66,go_sem]) rfl ⟨rfl,EV.out⟩
theorem cP(hb:DJ w b 170 (Dw s.c s.now s.drops (.slice A pn pc) sv))(hp:Dq w w.heap.size A pn l)(hm:l.map Prod.fst=s.D)(hg:Di s)(id:ByteArray):
 Calls prog 66 #[.pointer (some ⟨b,0,none⟩),.string id] w (Pc (s.lv id) (Lh s.D id) w):=by
 have hl:l.length=s.D.length:=by rw[<-hm,Ak]
 have hn:pn<=maxLen:=by have:=hg.ps.yF;have:=hp.len;unfold maxLen;omega
 have Ql:∀j,(hj:j<l.length)->(s.D[j]'(by omega))=(l[j]'hj).1:=fun j hj=>by simp only[<-hm,Ce]
 unfold Dh.lv va Lh;rw[ZB];cases hi:idxOf s.D id with
 |none=>
  have Ix:=Ot hi;exact rl hb hp hn id (fun j hj e=>Ix j (by omega) (by rw[Ql j hj];exact e))
 |some k=>
  obtain⟨hk,h1,h2⟩:=Hk hi;have ES:k<l.length:=by omega
  have e:s.D[k]? =some (l[k]'ES).1:=by rw[AU hk,Ql k ES]
  show Calls _ _ _ _ (Pc (match s.D[k]? with|some d=>nj (Jy s.c) s.now d|none=>0) (match s.D[k]? with|some _=>0|none=>4) w);rw[e];exact pA hb hp hn id k ES (by rw[Ql k ES]at h1;exact h1) (fun j hj VD e=>h2 j (by omega) VD (by rw[Ql j hj];exact e)) (by rw[<-Ql k ES];exact hg.pl _ (AL hk)) hg.Nm hg.Ny
end
theorem eS(b g cap n pn cp:Nat)(A:Option Addr)(c:Dg)(now drops:Int)(S:List Dm)(f:ByteArray->Int)(hn8:n<=8)(WJ:b≠g)(w:World)(hb:DJ w b 170 (Dw c now drops (.slice A pn cp) (.slice (some ⟨g,0,none⟩) n cap)))
 (hs:JL 182 w g cap n S) (hf:∀W id,Kept (· =g) w W->∃er,Calls prog 66 #[.pointer (some ⟨b,0,none⟩),.string id] W (Pc (f id) er W)):
 Calls prog 149 #[.pointer (some ⟨b,0,none⟩)] w (sW g 182 cap n (Id f S) (Gu f S) w):=by
 obtain⟨i0,hi,Fq,FZ,Fe⟩:=AO PJ;have HB:=I hb;have HS:=I hs;have HF:=I hf;have HN:=I hs.1;have He:=hs.lt;have FI:=hb.lt;have Jq:=hs.2.2.1;have r6:=hs.2.1;unfold maxLen at Jq;have b8:=hb.cell 8;simp[Dw]at b8;clear hb hs hf;go_in;go_wp2_with fail
 go_loopw [3,14] (fun v iv wr=>∃k:Nat,k<=n/\iv=.int .i64 (k:Int)/\ML f S g cap n w k v wr) (fun _ iv _=>n- (RowKit.intOf iv).toNat)
 case atStart=>exact⟨0,by omega,rfl,ML.start f HS.out⟩
 case round=>
  obtain⟨k,hk,rfl,hrel⟩:=hrel;obtain⟨wo,rfl⟩:∃wo,wo=wr:=⟨_,rfl⟩;have RL0:=I hrel;clear hrel b8;obtain⟨Av,cv,rfl⟩:=Cz RL0.out.1;by_cases DG:k<n
  ·have ZR:k<S.length:=by rw[HN.out];exact DG
   have hkM:k<(Fz f S k).length:=by rw[MB];exact ZR
   have EO:=RL0.out.2.1.cells k hkM;rw[M0 f S k ZR hkM]at EO;have AHR:=RL0.out.2.1.lt;have wO:=I (fun w1 (h0:Below wo.heap.size wo w1) he=>(RL0.out.below h0).same ZR he);have Zn:=I (fun w0 v' w1 (h0:Below wo.heap.size wo w0) he m hm ho hb=>ML.new (w1:=w1) (v':=v') (RL0.out.below h0) He ZR he m hm ho hb);have ni:=I (show Hb f (S[k]'ZR)=decide ((S[k]'ZR).2.1<=f (S[k]'ZR).1)from rfl);generalize S[k]'ZR=s at*;obtain⟨lK,mu,son⟩:=s;obtain⟨c0,c1,c2⟩:=EO;have EX:=I ((AI wo).lay (Gf (lK,mu,son)).toArray 182);simp only[Gf]at EX;have RL:=I (RL0.out.below EX.out.DI);obtain⟨er,Wd⟩:=HF.out _ lK RL.out.2.2;have Ly:=I Wd;clear Wd
   go_wp2_with fail
   refine Ly.out.mono ?_;rintro e' w1 ⟨rfl,C6⟩;have E1:=I (EX.out.below C6);have WM:=I (RL.out.below C6);have x0:=E1.out.hd.cell 0;have x1:=E1.out.hd.cell 1;have x2:=E1.out.hd.cell 2;have hx:=E1.out.hd.lt;simp at x0 x1 x2;have AIv:=E1.out.DI.size;have AID:g<w1.heap.size:=by omega
   have fz:=WM.out.2.1.frozen (k*3+2);have d2:=(E1.out.DI.cell (p:=⟨g,k*3+2,none⟩) AHR).trans c2;have Ii:=I (WM.out.2.2.DC HB.out WJ);have b8:=Ii.out.cell 8;have uZ:=Ii.out.lt;simp[Dw]at b8;clear C6 c0 c1 c2;cases PO:decide (mu<=f lK)<;>cases son
   case false.false|true.true=>
    have KEEP:=I (wO.out w1 E1.out.DI (by rw[ni.out,PO]));have hle:=PO;simp only[ATI,CG]at hle;clear PO;go_wp2;exact⟨⟨k+1,by omega,by simp,KEEP.out⟩,by simp[RowKit.intOf];omega⟩
   case false.true=>
    have Ko:=I (fun v' w9 ho hb=>Zn.out w1 v' w9 E1.out.DI (by rw[ni.out,PO];decide) false (by rw[ni.out,PO]) ho hb);have hle:=PO;clear hle;have e0:(w1.setCell ⟨g,k*3+2,none⟩ (.bool false)).cell? ⟨wo.heap.size,0,none⟩=some (.string lK):=(ATG _ _ _ _ (by intro h2;simp only[ATK]at h2;omega)).trans x0;have e1:(w1.setCell ⟨g,k*3+2,none⟩ (.bool false)).cell? ⟨wo.heap.size,1,none⟩=some (.int .i64 mu):=(ATG _ _ _ _ (by intro h2;simp only[ATK]at h2;omega)).trans x1;have OWN:=I (DV WM.out.1 (a:=⟨g,k*3+2,none⟩) He (.bool false));have rA:=WM.out.2.2.size;have eD:w1.heap.size<=(w1.setCell ⟨g,k*3+2,none⟩ (.bool false)).heap.size:=by simp[World.setCell]
    have hL:=LJ f (S.take k);have NI:(S.take k).length<=8:=by rw[AV];omega
    have HRD:=I (show Reads ((w1.setCell ⟨g,k*3+2,none⟩ (.bool false)).alloc (.cells #[.string lK,.int .i64 mu,.bool false] 173)) (w1.heap.size+1) 3 (some ⟨w1.heap.size,0,none⟩) 1 (Da [(lK,mu,false)])by
     have e:(w1.setCell ⟨g,k*3+2,none⟩ (.bool false)).heap.size=w1.heap.size:=by simp[World.setCell]
     have:=Kd (w1.setCell ⟨g,k*3+2,none⟩ (.bool false)) 173 (lK,mu,false);rw[e]at this;exact this)
    go_wp2_with (at_builtin;refine EU _ rfl _ _ 112 rfl w.heap.size 173 i0 _ 3 32 underlying112 hi Fq FZ Fe rfl (by decide) _ _ _ rfl (OWN.out.alloc _) _ _ 1 _ _ rfl HRD.out (In [(lK,mu,false)]) ?c1 ?c2 ?c3 ?_)
    case c1=>unfold maxLen;omega
    case c2=>omega
    case c3=>simp;omega
    intro v9 w9 Db Ei;obtain⟨A9,c9,rfl⟩:=Cz Db;have KEEP:=I (Ko.out _ w9 Db ((AA.alloc (by omega) _).trans Ei));clear Db Ei e0 e1;go_wp2;exact⟨⟨k+1,by omega,by simp,KEEP.out⟩,by simp[RowKit.intOf];omega⟩
   case true.false=>
    have Ko:=I (fun v' w9 ho hb=>Zn.out w1 v' w9 E1.out.DI (by rw[ni.out,PO];decide) true (by rw[ni.out,PO]) ho hb);have hle:=PO;simp only[CG]at hle;clear PO;have e0:(w1.setCell ⟨g,k*3+2,none⟩ (.bool true)).cell? ⟨wo.heap.size,0,none⟩=some (.string lK):=(ATG _ _ _ _ (by intro h2;simp only[ATK]at h2;omega)).trans x0;have e1:(w1.setCell ⟨g,k*3+2,none⟩ (.bool true)).cell? ⟨wo.heap.size,1,none⟩=some (.int .i64 mu):=(ATG _ _ _ _ (by intro h2;simp only[ATK]at h2;omega)).trans x1;have OWN:=I (DV WM.out.1 (a:=⟨g,k*3+2,none⟩) He (.bool true));have rA:=WM.out.2.2.size;have eD:w1.heap.size<=(w1.setCell ⟨g,k*3+2,none⟩ (.bool true)).heap.size:=by simp[World.setCell]
    have hL:=LJ f (S.take k);have NI:(S.take k).length<=8:=by rw[AV];omega
    have HRD:=I (show Reads ((w1.setCell ⟨g,k*3+2,none⟩ (.bool true)).alloc (.cells #[.string lK,.int .i64 mu,.bool true] 173)) (w1.heap.size+1) 3 (some ⟨w1.heap.size,0,none⟩) 1 (Da [(lK,mu,true)])by
     have e:(w1.setCell ⟨g,k*3+2,none⟩ (.bool true)).heap.size=w1.heap.size:=by simp[World.setCell]
     have:=Kd (w1.setCell ⟨g,k*3+2,none⟩ (.bool true)) 173 (lK,mu,true);rw[e]at this;exact this)
    go_wp2_with (at_builtin;refine EU _ rfl _ _ 112 rfl w.heap.size 173 i0 _ 3 32 underlying112 hi Fq FZ Fe rfl (by decide) _ _ _ rfl (OWN.out.alloc _) _ _ 1 _ _ rfl HRD.out (In [(lK,mu,true)]) ?c1 ?c2 ?c3 ?_)
    case c1=>unfold maxLen;omega
    case c2=>omega
    case c3=>simp;omega
    intro v9 w9 Db Ei;obtain⟨A9,c9,rfl⟩:=Cz Db;have KEEP:=I (Ko.out _ w9 Db ((AA.alloc (by omega) _).trans Ei));clear Db Ei e0 e1;go_wp2;exact⟨⟨k+1,by omega,by simp,KEEP.out⟩,by simp[RowKit.intOf];omega⟩
  ·have Te:k=n:=by omega
   subst Te;have Gg:S.take k=S:=AY (by rw[HN.out];omega);have YY:=RL0.out;unfold ML at YY;rw[Gg,TH f S k (by rw[HN.out];omega)]at YY;have HE:=I YY;rw[Gg];clear YY Gg;go_wp2;go_ret;exact⟨Av,cv,rfl,HE.out.1,HE.out.2.1,HE.out.2.2⟩
section
variable{X:Nat->Prop}{w:World}{b pn pc:Nat}{A:Option Addr}{sv:Value}{l:List C8}{s:Dh}
def iK(X:Nat->Prop)(b:Nat)(A:Option Addr)(pn pc:Nat)(sv:Value)(l:List C8)(s:Dh)(w:World)(e:Ending)(w':World):Prop:=
 ∃A' c',e=.returned (.slice A' s.notes.length c')/\w'.ownsRow w.heap.size 173 3 (.slice A' s.notes.length c') s.notes.length (Da s.notes)/\FQ X w' b A pn pc sv l s.tell/\Kept X w w'
theorem bn(b:Nat)(A:Option Addr)(c:Dg)(now drops:Int)(w:World)(hb:DJ w b 170 (Dw c now drops (.slice A pn pc) (.slice none 0 0))):
 Calls prog 149 #[.pointer (some ⟨b,0,none⟩)] w fun e w'=>e=.returned (.slice none 0 0)/\w=w':=by
 have FI:=hb.lt;have b8:=hb.cell 8;simp[Dw]at b8;clear hb;go_in;go_wp2_with fail
 go_loop [3,14] (fun v iv=>v=.slice none 0 0/\iv=.int .i64 0) (fun _ iv=>0)
 case atStart=>exact⟨rfl,rfl⟩
 case round=>
  obtain⟨rfl,rfl⟩:=hrel;go_wp2;go_ret;exact⟨rfl,rfl⟩
theorem QT(h:FQ X w b A pn pc sv l s)(hg:Di s):
 Calls prog 149 #[.pointer (some ⟨b,0,none⟩)] w (iK X b A pn pc sv l s w):=by
 rcases h.Nb with⟨WO,hS⟩|⟨g,cap,n,WO,hr⟩
 ·subst WO
  refine(bn b A s.c s.now s.drops w h.DC).mono ?_;rintro e w' ⟨rfl,rfl⟩;have e1:s.notes=[]:=by unfold Dh.notes;rw[hS];rfl
  have e2:s.tell=s:=by unfold Dh.tell;rw[hS];show({s with S:=[]}:Dh)=s;rw[<-hS]
  rw[show iK X b A pn pc (.slice none 0 0) l s w _ w= ∃A' c',_ from rfl,e1,e2];exact⟨none,0,rfl,AX _ _ _ _,h,AH _ _⟩
 ·subst WO
  have WJ:b≠g:=fun e=>(h.xs g rfl).2 e.symm;have hn:n<=8:=by rw[<-hr.1];exact hg.eight
  refine(eS b g cap n pn pc A s.c s.now s.drops s.S s.lv hn WJ w h.DC hr ?_).mono ?_
  ·intro W id hk
   exact⟨_,cP (hk.DC h.DC WJ) ((hk.Fj h.Fj (h.Je.mono fun k hy hx=>hy.2.2 (by simp only[Value.ownBlock];rw[hx]))).more hk.size) h.map hg id⟩
  ·rintro e w' ⟨A',c',rfl,h1,h2,h3⟩
   exact⟨A',c',rfl,h1,h.mark h3 h2,h3.mono fun k hk=>.inl (hk▸(h.xs g rfl).1)⟩
end
theorem Wv(A:Option Addr)(c B n:Nat)(l:List C8)(D:List D0)(hm:l.map Prod.fst=D)(ho:TV D)(Qj:n<=c/\c<=maxLen)(id:ByteArray)(hid:id.size<=maxLen)(size first now:Int)(w:World)(hp:Dq w B A n l)(hB:B<=w.heap.size):
 Calls prog 188 #[.slice A n c,.string id,.int .i64 size,.int .i64 first,.int .i64 now] w (O8 A l D id size first now w):=by
 have hn:D.length=n:=by rw[<-hm,Ak];exact hp.len
 have Nc:n<=maxLen:=AG Qj.1 Qj.2;have he:GH l=0:=by rw[Kr,hm];exact ho.zero
 obtain⟨h6',GN,Jr⟩:=En he;unfold O8 Rx;by_cases hi:JK id=false
 ·rw[AD hi];exact vt A c B n l Nc id size first now w hp hB hi
 rw[AC hi];have hi:JK id=true:=by simpa using hi
 by_cases Fg:J1 size first now
 ·rw[AD Fg];exact qU A c B n l Nc id size first now w hp hB hi Fg
 rw[AC Fg];obtain⟨s0,s1,wY,n0,n1⟩:=eU Fg;cases hx:idxOf D id with
 |some k=>
  obtain⟨hk,h1,h2⟩:=Hk hx;rw[AD (show(some k).isSome=true from rfl)];have ES:k<l.length:=by rw[hp.len];omega
  have Wm:pid (l[k]'ES)=id:=by subst hm;simpa using h1
  have Pz:=Mp A c B n l k ES (fun j hj VD=>rF Jr hj ES VD) Nc;rw[Wm]at Pz;exact et A c B n l Nc id size first now w hp hB hi s0 s1 wY n0 n1 (by have:=ho.yF;omega) k ES Pz
 |none=>
  rw[AC (by simp)];by_cases h6:D.length=6
  ·rw[AD h6]
   exact j6 A c B n l Nc id size first now w hp hB hi s0 s1 wY n0 n1 (by omega) (LC A c B n l id (kP hm hx) Nc)
  ·rw[AC h6]
   obtain⟨f1,f2,f3,f4⟩:=Uw (A:=A) (c:=c) hm ho hp.len hx;have:=uP A c B n l Nc id size first now w hp hB hi s0 s1 wY n0 n1 (by have:=ho.yF;omega) Qj.1 Qj.2 (LC A c B n l id (kP hm hx) Nc) (LF D id) f1 f2 f3
   rw[hm]at this;rw[hn];refine this.mono fun x w' h=>?_;rw[AD rfl];exact h
def hU(X:Nat->Prop)(b:Nat)(s':Dh)(er:Int)(w:World)(e:Ending)(w':World):Prop:=e=.returned (.int .i64 er)/\FJ (grow X w w') w' b s'/\Kept X w w'
section
variable{X:Nat->Prop}{w:World}{b pn pc:Nat}{A:Option Addr}{sv:Value}{l:List C8}{s:Dh}
theorem gV(h:FQ X w b A pn pc sv l s)(ev:Int):
 Calls prog 142 #[.pointer (some ⟨b,0,none⟩),.string s.c.1,.int .i64 ev] w (hU X b s 5 w):=by
 have HH:=I h;have FI:=h.DC.lt;have b0:=h.DC.cell 0;simp[Dw]at b0;clear h;go_in;go_wp2;go_ret;exact⟨rfl,C0.at_ (C0.grow HH.out),AH _ _⟩
theorem mK(h:FQ X w b A pn pc sv l s)(hg:Di s)(id:ByteArray)(hid:id.size<=maxLen)(ev:Int)(GI:id≠s.c.1)(er:Int)(he:Rx s.D id (JM s.c) ev s.now=er)(hz:er≠0):
 Calls prog 142 #[.pointer (some ⟨b,0,none⟩),.string id,.int .i64 ev] w (hU X b s er w):=by
 have HH:=I h;have HE:=I he;have FI:=h.DC.lt;have b0:=h.DC.cell 0;simp[Dw]at b0;have heq:(id.toList==s.c.1.toList)=false:=YP GI;have HP:=I (show∀W,Below w.heap.size w W->Calls prog 188 #[.slice A pn pc,.string id,.int .i64 (JM s.c),.int .i64 ev,.int .i64 s.now] W (OQ er W)from fun W hw=>
  (Wv A pc w.heap.size pn l s.D h.map hg.ps h.room id hid (JM s.c) ev s.now W (h.Fj.below hw AB) hw.size).mono fun x w' h=>by unfold O8 at h;rw[HE.out,AC hz]at h;exact h)
 have HS:=I (show∀w',Below w.heap.size w w'->(Below w.heap.size w w'/\w'.cell? ⟨b,7,none⟩=some (.slice A pn pc)/\w'.cell? ⟨b,3,none⟩=some (.int .i64 (JM s.c))/\w'.cell? ⟨b,5,none⟩=some (.int .i64 s.now))
  from fun w' h=>⟨h,(HH.out.DC.below h FI).cell 7,(HH.out.DC.below h FI).cell 3,(HH.out.DC.below h FI).cell 5⟩)
 clear h hg GI he;go_in
 go_upto_region 17 with fail
 clear b0 heq;go_region_held3 (fun w'=>Below w.heap.size w w'/\w'.cell? ⟨b,7,none⟩=some (.slice A pn pc)/\w'.cell? ⟨b,3,none⟩=some (.int .i64 (JM s.c))/\w'.cell? ⟨b,5,none⟩=some (.int .i64 s.now))
  ((refine HS.out _ ?_;repeat (with_reducible first|exact G8|exact AA|refine Below.Gh ?_|refine AE ?_)))
  ((go_at_call 188;(with_reducible refine(HP.out _ ?ia).mono ?_);(case ia=>repeat (with_reducible first|exact AA|refine Below.Gh ?_|refine AE ?_));rintro e' w3 ⟨rfl,DT⟩;have G8:Below w.heap.size w w3:=Below.C9 (by repeat (with_reducible first|exact AA|refine Below.Gh ?_|refine AE ?_)) DT))
 all_goals
  have E3:=I G8;clear G8 DT;go_wp2;all_goals first
   |(exfalso;omega)
   |(go_ret;exact⟨rfl,C0.at_ (C0.grow (C0.below HH.out E3.out)),.DU E3.out⟩)
theorem mD(h:FQ X w b A pn pc sv l s)(hg:Di s)(id:ByteArray)(hid:id.size<=maxLen)(ev:Int)(GI:id≠s.c.1)(er:Int)(he:Rx s.D id (JM s.c) ev s.now=er)(hz:er=0):
 Calls prog 142 #[.pointer (some ⟨b,0,none⟩),.string id,.int .i64 ev] w (hU X b {s with D:=Ut s.D id (JM s.c) ev s.now} 0 w):=by
 have HH:=I h;have HE:=I he;have FI:=h.DC.lt;have b0:=h.DC.cell 0;simp[Dw]at b0;have heq:(id.toList==s.c.1.toList)=false:=YP GI;have HP:=I (show∀W,Below w.heap.size w W->Calls prog 188 #[.slice A pn pc,.string id,.int .i64 (JM s.c),.int .i64 ev,.int .i64 s.now] W (aT A l (Ut s.D id (JM s.c) ev s.now) (s.D.length+1) W)from fun W hw=>
  (Wv A pc w.heap.size pn l s.D h.map hg.ps h.room id hid (JM s.c) ev s.now W (h.Fj.below hw AB) hw.size).mono fun x w' h=>by unfold O8 at h;rw[HE.out,AD hz]at h;exact h)
 have HS:=I (show∀w',Below w.heap.size w w'->(Below w.heap.size w w'/\w'.cell? ⟨b,7,none⟩=some (.slice A pn pc)/\w'.cell? ⟨b,3,none⟩=some (.int .i64 (JM s.c))/\w'.cell? ⟨b,5,none⟩=some (.int .i64 s.now))
  from fun w' h=>⟨h,(HH.out.DC.below h FI).cell 7,(HH.out.DC.below h FI).cell 3,(HH.out.DC.below h FI).cell 5⟩)
 clear h hg GI he;go_in
 go_upto_region 17 with fail
 clear b0 heq;go_region_held3 (fun w'=>Below w.heap.size w w'/\w'.cell? ⟨b,7,none⟩=some (.slice A pn pc)/\w'.cell? ⟨b,3,none⟩=some (.int .i64 (JM s.c))/\w'.cell? ⟨b,5,none⟩=some (.int .i64 s.now))
  ((refine HS.out _ ?_;repeat (with_reducible first|exact G8|exact AA|refine Below.Gh ?_|refine AE ?_)))
  ((go_at_call 188;(with_reducible refine(HP.out _ ?ia).mono ?_);(case ia=>repeat (with_reducible first|exact AA|refine Below.Gh ?_|refine AE ?_));rintro e' w3 ⟨A3,c3,l3,rfl,Vk,UG,DT,Th,IG⟩;have G8:Below w.heap.size w w3:=Below.C9 (by repeat (with_reducible first|exact AA|refine Below.Gh ?_|refine AE ?_)) DT))
 all_goals
  have E3:=I G8;have aM:b<w3.heap.size:=by have:=G8.size;omega
  have N3:=I (C0.below HH.out G8);have ox:=I (cD (w:=w) IG (by first|exact AB|(simp)));have NT:=I (C0.Pe (mk':=Dw s.c s.now s.drops) (i:=7) HH.out E3.out UG Vk Th ox.out rfl);have KT:=I ((Kept.DU (X:=X) E3.out).setCell (a:=⟨b,7,none⟩) (.inl HH.out.xb) (.slice A3 (s.D.length+1) c3));have f8:=N3.out.DC.frozen 7;clear G8 DT Vk UG Th IG;go_wp2;all_goals first
   |(exfalso;omega)
   |(go_ret;exact⟨rfl,Fs.wide (C0.at_ NT.out) (Q9 (by simp[World.setCell])) (fun k hk=>hk.2),KT.out⟩)
theorem dz(h:FQ X w b A pn pc sv l s)(hg:Di s)(id:ByteArray)(hid:id.size<=maxLen)(ev:Int):
 Calls prog 142 #[.pointer (some ⟨b,0,none⟩),.string id,.int .i64 ev] w (hU X b (s.watched id ev) (s.Qb id ev) w):=by
 unfold Dh.watched Dh.Qb;by_cases hi:id=s.c.1
 ·rw[AD hi,AC (by decide)]
  subst hi;exact gV h ev
 ·rw[AC hi]
  by_cases hz:Rx s.D id (JM s.c) ev s.now=0
  ·rw[AD hz,hz];exact mD h hg id hid ev hi _ rfl hz
  ·rw[AC hz];exact mK h hg id hid ev hi _ rfl hz
end
theorem qQ{id:ByteArray}{th:Int}{p:Dm}(h:Gb id th p=false):mE p.1 id=false\/(mE p.1 id=true/\(p.2.1==th)=false):=by
 unfold Gb at h;cases h1:mE p.1 id
 ·exact .inl rfl
 ·rw[h1]at h;exact .inr ⟨rfl,by simpa using h⟩
theorem pJ(b g cap n:Nat)(c:Dg)(now drops:Int)(pv:Value)(S:List Dm)(id:ByteArray)(th:Int)(hm:n<=1000)(w:World)(hb:DJ w b 170 (Dw c now drops pv (.slice (some ⟨g,0,none⟩) n cap)))(hs:JL 182 w g cap n S):
 Calls prog 148 #[.pointer (some ⟨b,0,none⟩),.string id,.int .i64 th] w fun e w'=>e=.returned (.int .i64 (TP (Gb id th) S))/\Below w.heap.size w w':=by
 have HS:=I hs;have HN:=I hs.1;have He:=hs.lt;have FI:=hb.lt;have r6:=hs.2.1;have Jq:=hs.2.2.1;unfold maxLen at Jq;have b8:=hb.cell 8;simp[Dw]at b8;obtain⟨r,hr⟩:∃r,TP (Gb id th) S=r:=⟨_,rfl⟩;rw[hr];have HR:=I hr;clear hs hb hr;go_in;go_wp2_with fail
 go_loopw [14] (fun iv wr=>∃k:Nat,k<=n/\iv=.int .i64 (k:Int)/\(∀j,(hj:j<S.length)->j<k->Gb id th (S[j]'hj)=false)/\Below w.heap.size w wr) (fun iv _=>n- (RowKit.intOf iv).toNat)
 case atStart=>exact⟨0,by omega,rfl,fun j _ h=>absurd h (Nat.not_lt_zero j),AA⟩
 case round=>
  obtain⟨k,hk,rfl,GI,Hi⟩:=hrel;obtain⟨wo,rfl⟩:∃wo,wo=wr:=⟨_,rfl⟩;have BL:=I Hi;have NE:=I GI;clear Hi GI b8;by_cases DG:k<n
  ·have ES:k<S.length:=by rw[HN.out];exact DG
   obtain⟨d0,d1,d2⟩:=(HS.out.below BL.out He).cells k ES;have ob:g<wo.heap.size:=AJ He BL.out.size;generalize TJ:S[k]'ES=p at*;have sx:=I TJ;clear TJ;obtain⟨pi,pt,pb⟩:=p;have EX:=I ((AI wo).lay (Gf (pi,pt,pb)).toArray 182);have UC:=I (BL.out.trans (EX.out.DI.mono BL.out.size));simp only[Gf]at UC;cases hq:Gb id th (pi,pt,pb)
   ·have Ko:=I (show∀j,(hj:j<S.length)->j<k+1->Gb id th (S[j]'hj)=false from fun j hj h=>by
     rcases AUT.1 h with h|rfl
     ·exact NE.out j hj h
     ·rw[sx.out];exact hq)
    rcases qQ hq with h1|⟨h1,h2⟩
    ·have h3:(pi.toList==id.toList)=false:=h1
     clear hq h1;go_wp2;exact⟨⟨k+1,by omega,by simp,Ko.out,UC.out⟩,by simp[RowKit.intOf];omega⟩
    ·have h3:(pi.toList==id.toList)=true:=h1
     have h4:(pt==th)=false:=h2;clear hq h1 h2;go_wp2;exact⟨⟨k+1,by omega,by simp,Ko.out,UC.out⟩,by simp[RowKit.intOf];omega⟩
   ·have hrk:r=(k:Int):=by
     rw[<-HR.out];unfold TP;have:S.findIdx? (Gb id th)=some k:=by
      rw[AUU];exact⟨ES,by rw[sx.out];exact hq,fun j hj=>by rw[NE.out j (by omega) hj];decide⟩
     rw[this]
    subst hrk;have h12:mE pi id=true/\(pt==th)=true:=by unfold Gb at hq;simpa using hq
    have h3:(pi.toList==id.toList)=true:=h12.1;have h4:(pt==th)=true:=h12.2;clear hq h12;go_wp2;go_ret;exact⟨rfl,UC.out⟩
  ·have hrn:r= -1:=by
    rw[<-HR.out];unfold TP;have:S.findIdx? (Gb id th)=none:=by
     rw[AUV];intro x hx;obtain⟨j,hj,rfl⟩:=AS6 hx;rw[NE.out j hj (by have:=HN.out;omega)]
    rw[this]
   subst hrn;go_wp2;go_ret;exact⟨rfl,BL.out⟩
theorem oW(b:Nat)(c:Dg)(now drops:Int)(pv:Value)(id:ByteArray)(th:Int)(w:World)(hb:DJ w b 170 (Dw c now drops pv (.slice none 0 0))):
 Calls prog 148 #[.pointer (some ⟨b,0,none⟩),.string id,.int .i64 th] w fun e w'=>e=.returned (.int .i64 (-1))/\Below w.heap.size w w':=by
 have FI:=hb.lt;have b8:=hb.cell 8;simp[Dw]at b8;clear hb;go_in;go_wp2_with fail
 go_loop [14] (fun iv=>iv=.int .i64 0) (fun iv=>0)
 case atStart=>rfl
 case round=>
  obtain rfl:=hrel;go_wp2;go_ret;exact⟨rfl,AA⟩
theorem VM{X:Nat->Prop}{w:World}{b pn pc:Nat}{A:Option Addr}{sv:Value}{l:List C8}{s:Dh}(h:FQ X w b A pn pc sv l s)(hm:s.S.length<=1000)(id:ByteArray)(th:Int):
 Calls prog 148 #[.pointer (some ⟨b,0,none⟩),.string id,.int .i64 th] w fun e w'=>e=.returned (.int .i64 (TP (Gb id th) s.S))/\Below w.heap.size w w':=by
 rcases h.Nb with⟨WO,hS⟩|⟨g,cap,n,WO,hr⟩
 ·subst WO
  rw[hS];exact oW b s.c s.now s.drops _ id th w h.DC
 ·subst WO
  exact pJ b g cap n s.c s.now s.drops _ s.S id th (by rw[<-hr.1];exact hm) w h.DC hr
theorem Ll(x:Int)(b:Bool)(h:wi x 0 1073741824=b)(w:World):
 Calls prog 51 #[.int .i64 x] w fun e w'=>e=.returned (.bool b)/\w=w':=by
 subst h;exact JX x w
theorem Dv(n a b:Int)(v:Bool)(h:wi n a b=v)(w:World):
 Calls prog 53 #[.int .i64 n,.int .i64 a,.int .i64 b] w fun e w'=>e=.returned (.bool v)/\w=w':=by
 subst h;exact Fr n a b w
def iu(X:Nat->Prop)(b:Nat)(A:Option Addr)(pn pc:Nat)(sv:Value)(l:List C8)(s:Dh)(DH:Int)(w:World)(e:Ending)(w':World):Prop:=
 ∃A1 c1 A2 c2,e=.returned (.tuple #[.slice A1 (s.many DH) c1,.slice A2 (s.DP DH).notes.length c2,.int .i64 0])/\w'.ownsRow w.heap.size 9 1 (.slice A1 (s.many DH) c1) (s.many DH) (C7 (Ff s.c s.seq (s.many DH)))/\
  w'.ownsRow w.heap.size 173 3 (.slice A2 (s.DP DH).notes.length c2) (s.DP DH).notes.length (Da (s.DP DH).notes)/\FQ X w' b A pn pc sv l (s.DP DH).tell/\Kept X w w'
def Sy(X:Nat->Prop)(b:Nat)(A:Option Addr)(pn pc:Nat)(sv:Value)(l:List C8)(s:Dh)(DH:Int)(w:World)(j:Nat)(v:Value)(wr:World):Prop:=
 wr.ownsRow w.heap.size 9 1 v j (C7 (Ff s.c s.seq j))/\FQ X wr b A pn pc sv l (s.DP DH)/\Kept X w wr
theorem Sy.below{X:Nat->Prop}{b pn pc j:Nat}{A:Option Addr}{sv v:Value}{l:List C8}{s:Dh}{DH:Int}{w wr w1:World}(h:Sy X b A pn pc sv l s DH w j v wr)(hb:Below wr.heap.size wr w1):Sy X b A pn pc sv l s DH w j v w1:=
 ⟨Ef h.1 hb,C0.below h.2.1 hb,h.2.2.step hb⟩
theorem Sy.next{X:Nat->Prop}{b pn pc j:Nat}{A:Option Addr}{sv v v':Value}{l:List C8}{s:Dh}{DH:Int}{w wr w1 w2:World}(h:Sy X b A pn pc sv l s DH w j v wr)(hX:∀k,X k->k<w.heap.size)
 (hb:Below wr.heap.size wr w1) (DK:Below w.heap.size w1 w2) (ho:w2.ownsRow w.heap.size 9 1 v' (j+1) (C7 (Ff s.c s.seq j)++C7 [KF s.c.1 (LY s.c) (s.seq+1+j)])):Sy X b A pn pc sv l s DH w (j+1) v' w2:=by
 have h2:=C0.below h.2.1 hb;exact⟨by rw[Q6,Iq];exact ho,C0.kept (X:=fun k=>w.heap.size<=k) h2 ⟨DK.os,DK.tape,DK.output,DK.size,fun k hk hx=>DK.block k (by omega)⟩ (fun k hk hx=>by have:=hX k hx;omega),(h.2.2.step hb).low DK⟩
theorem oU{X:Nat->Prop}{w:World}{b pn pc:Nat}{A:Option Addr}{sv:Value}{l:List C8}{s:Dh}(h:FQ X w b A pn pc sv l s)(hg:Di s)(DH:Int)(he:s.D8 DH=0):
 Calls prog 144 #[.pointer (some ⟨b,0,none⟩),.int .i64 DH] w (iu X b A pn pc sv l s DH w):=by
 obtain⟨i0,hi,Fq,FZ,Fe⟩:=AO LM;have hgt:=hg.DP he;unfold Dh.D8 at he;have hc:=hg.cfg;unfold Gj at hc;obtain⟨-,-,zq,Xu,-⟩:=hc;by_cases h1:DH<1\/1073741824<DH
 ·rw[AD h1]at he;cases he
 rw[AC h1]at he;by_cases h2:1073741824<s.now+DH\/64<=DH/Eb s.c
 ·rw[AD h2]at he;cases he
 have h0:=hg.Nm;have Hc:=hg.Ny;have hnt:s.now+DH<=1073741824:=by omega
 have Ur:1<=DH:=by omega
 have mg:DH<=1073741824:=by omega
 have q0:0<=s.now/Eb s.c:=AS7 h0 (by omega);have q3:s.now/Eb s.c<=(s.now+DH)/Eb s.c:=ATf (by omega) (by omega);have q5:(s.now+DH)/Eb s.c<=1073741824:=by
  have:=AS8 (Eb s.c) (show 0<=s.now+DH by omega);omega
 have tn:DH<64*Eb s.c:=by
  have:¬64<=DH/Eb s.c:=fun h=>h2 (.inr h);exact Int.not_le.1 fun h=>this ((ATk (by omega)).2 h)
 have q6:(s.now+DH)/Eb s.c-s.now/Eb s.c<=64:=by
  have a0:s.now<(s.now/Eb s.c+1)*Eb s.c:=AUW _ (by omega);have a2:(s.now/Eb s.c+65)*Eb s.c=(s.now/Eb s.c+1)*Eb s.c+64*Eb s.c:=by rw[<-ASj];congr 1;omega
  have a3:=Int.ediv_lt_of_lt_mul (a:=s.now+DH) (b:=s.now/Eb s.c+65) (c:=Eb s.c) (by omega) (by omega);omega
 have HT:=I (show wi DH 1 1073741824=true from DW.2 ⟨Ur,mg⟩);have HV:=I (show wi (s.now+DH) 0 1073741824=true from DW.2 ⟨by omega,by omega⟩);have HM:=I (show((s.many DH:Nat):Int)=(s.now+DH)/Eb s.c-s.now/Eb s.c by unfold Dh.many;omega);have HSQ:=I hg.bL;have HG:=I hgt;have SQ:=I hg.id;have HX:=I h.dJ;have HCF:=I hg.cfg;have HH:=I h;have Wq:=I (SD b s.c s.now s.drops (.slice A pn pc) sv h0 (by omega) hg.cfg w h.DC);have Rp:=I (fun W (hW:FQ X W b A pn pc sv l (s.DP DH))=>SD b s.c (s.now+DH) s.drops (.slice A pn pc) sv (by omega) (by omega) hg.cfg W hW.DC);have b2:=h.DC.cell 2
 have b5:=h.DC.cell 5;have f5:=h.DC.frozen 5;have FI:=h.DC.lt;simp[Dw]at b2 b5;clear h hg he h1 h2 hgt;generalize s.now/Eb s.c=av at*;generalize zC:(s.now+DH)/Eb s.c=mv at*;have HMV:=I zC;clear zC;have w1:IntKind.i64.wrap (64*Eb s.c)=64*Eb s.c:=by rw[Aj];omega
 go_in;go_wp2_with fail
 refine(Dv DH 1 1073741824 _ HT.out _).mono ?_;rintro e' w' ⟨rfl,rfl⟩;go_wp2_with fail
 refine(Ll (s.now+DH) _ HV.out _).mono ?_;rintro e' w' ⟨rfl,rfl⟩;go_wp2_with fail
 refine Wq.out.mono ?_;rintro e' w' ⟨rfl,nq,rfl⟩;have z7:Below w.heap.size w (w.drewN nq):=Ba AA nq;have N5:=I (show FQ X ((w.drewN nq).setCell ⟨b,5,none⟩ (.int .i64 (s.now+DH))) b A pn pc sv l (s.DP DH)from C0.set (mk':=Dw s.c (s.now+DH) s.drops) (C0.below HH.out z7) 5 (.int .i64 (s.now+DH)) rfl);have ST:=I (show Sy X b A pn pc sv l s DH w 0 (.slice none 0 0) ((w.drewN nq).setCell ⟨b,5,none⟩ (.int .i64 (s.now+DH)))from⟨AX _ _ _ _,N5.out,(Kept.DU (X:=X) z7).setCell (a:=⟨b,5,none⟩) (.inl HH.out.xb) _⟩);clear w1;go_wp2_with fail
 generalize (w.drewN nq).setCell ⟨b,5,none⟩ (.int .i64 (s.now+DH))=w0 at*;clear z7 b2 b5 f5 N5;go_loopw [8,9] (fun v iv wr=>∃j:Nat,j<=s.many DH/\iv=.int .i64 (av+1+j)/\Sy X b A pn pc sv l s DH w j v wr) (fun _ iv _=>(2000000000-RowKit.intOf iv).toNat)
 case atStart=>exact⟨0,AM _,by simp,ST.out⟩
 case round=>
  obtain⟨j,hj,rfl,hrel⟩:=hrel;obtain⟨wo,rfl⟩:∃wo,wo=wr:=⟨_,rfl⟩;have RL:=I hrel;clear hrel ST;obtain⟨Av,cv,rfl⟩:=Cz RL.out.1;have hjm:=HM.out;have ER:w.heap.size<=wo.heap.size:=RL.out.2.2.size;go_wp2_with fail
  refine(Rp.out _ RL.out.2.1).mono ?_;rintro e' w' ⟨rfl,nr,rfl⟩;have WM:=I (RL.out.below (Ba AA nr));generalize wo.drewN nr=w2 at*;have eD:w.heap.size<=w2.heap.size:=WM.out.2.2.size;by_cases DG:j<s.many DH
  ·have hjb:(j:Int)<64:=by omega
   have un:s.seq=av:=HSQ.out;have N4:=I (show Em s.c.1 (LY s.c) (av+1+j)=0 by
    have:=HCF.out;unfold Gj at this
    unfold Em;rw[AD SQ.out,AD (by omega)])
   have hle:av+1+(j:Int)<=mv:=by omega
   have Nr:=I WM.out.2.1.DC;have Hi:=WM.out.2.1.DC.lt;have HS:=I (show∀w',Below w2.heap.size w2 w'->(Below w2.heap.size w2 w'/\w'.cell? ⟨b,0,none⟩=some (.string s.c.1)/\w'.cell? ⟨b,1,none⟩=some (.int .i64 (LY s.c)))
    from fun w' h=>⟨h,(Nr.out.below h Hi).cell 0,(Nr.out.below h Hi).cell 1⟩)
   have OWN:=I WM.out.1;have eB:s.c.1.size<=8:=(Mx SQ.out).2;have xF:=HCF.out;unfold Gj at xF;have Yd:=I (fun W=>iY s.c.1 eB (LY s.c) (av+1+j) (by omega) (by omega) (by omega) (by omega) W);have Pi:=I (fun w'=>Xo w' 9 (KF s.c.1 (LY s.c) (av+1+j)));have Pb:=I (Iu [KF s.c.1 (LY s.c) (av+1+j)]);have HSW:=I (show∀w',Below w.heap.size w2 w'->(Below w.heap.size w2 w'/\w'.cell? ⟨b,0,none⟩=some (.string s.c.1)/\w'.cell? ⟨b,1,none⟩=some (.int .i64 (LY s.c)))
    from fun w' h=>⟨h,(Nr.out.below h FI).cell 0,(Nr.out.below h FI).cell 1⟩)
   have ZI:(j:Int)+1<=64:=by omega
   have AG0:=I un;clear un xF hjm
   go_upto_region 49 with fail
   go_region_held3 (fun w'=>Below w.heap.size w2 w'/\w'.cell? ⟨b,0,none⟩=some (.string s.c.1)/\w'.cell? ⟨b,1,none⟩=some (.int .i64 (LY s.c)))
    ((refine HSW.out _ ?_;first|(with_reducible exact Kh)|(with_reducible exact hK3)|(with_reducible exact AA)|(with_reducible exact AA.drew)|exact hK3.alloc AC5 _))
    (first
      |(go_at_call 189;(with_reducible refine(Yd.out _).mono ?_);rintro e' w3 ⟨rfl,DT⟩;have G8:Below w2.heap.size w2 w3:=Below.C9 (by repeat (with_reducible first|exact AA|refine Below.Gh ?_|refine AE ?_)) DT;have hK3:Below w.heap.size w2 w3:=G8.mono eD;have AC5:w.heap.size<=w3.heap.size:=AG eD G8.size;have ADH:=Ef OWN.out G8)
      |((refine FE (by rfl) _ _ _ (by rfl) w.heap.size 9 i0 _ 1 16 underlying31 hi Fq FZ Fe rfl (by decide) _ _ _ (by rfl) (ADH.alloc _) _ _ 1 _ _ (by rfl) (Pi.out _) Pb.out (by unfold maxLen;omega) (by omega) (by simp;omega) ?_;intro v9 w9 Db Ei;obtain⟨A9,c9,rfl⟩:=Cz Db;have Kh:Below w.heap.size w2 w9:=(hK3.alloc AC5 _).trans Ei)))
   all_goals
    have KEEP:=I (WM.out.next HX.out (w2:=w9) (Below.Gh G8) Ei (by rw[show s.seq+1+(j:Int)=av+1+j by rw[AG0.out]];exact Db));clear Kh Db Ei ADH hK3 DT G8;go_wp2;exact⟨⟨j+1,by omega,by first|(simp;omega)|(congr 1;omega),KEEP.out⟩,by simp[RowKit.intOf];omega⟩
  ·have AHH:j=s.many DH:=by omega
   subst AHH;have hgt:¬(av+1+((s.many DH:Nat):Int)<=mv):=by omega
   go_wp2_with fail
   refine(QT WM.out.2.1 HG.out).mono ?_;rintro e' w6 ⟨A6,c6,rfl,Iv,Qg,UQ⟩;have Df:=I (show iu X b A pn pc sv l s DH w (.returned (.tuple #[.slice Av (s.many DH) cv,.slice A6 (s.DP DH).notes.length c6,.int .i64 0])) w6 from
    ⟨Av,cv,A6,c6,rfl,UQ.own WM.out.1 (fun k hk hx=>by have h1:=WM.out.1.lt k hk;have h2:=HX.out k hx;omega),DX Iv eD,Qg,WM.out.2.2.trans UQ⟩)
   clear Iv Qg UQ;go_wp2;exact AF (v:=.tuple #[.slice Av (s.many DH) cv,.slice A6 (s.DP DH).notes.length c6,.int .i64 0]) (by simp[results,results144,go_sem]) rfl Df.out
theorem vE(c:Dg)(hi:JK c.1=false)(w:World):
 Calls prog 141 #[Ph c] w fun e w'=>e=.returned (.int .i64 3)/\Below w.heap.size w w':=by
 have E:=I ((AI w).lay #[.string c.1,.int .i64 (LY c),.int .i64 (Eb c),.int .i64 (JM c),.int .i64 (Jy c)] 108);have HI:=I hi;unfold Ph;clear hi;go_in;go_wp2_with fail
 refine(Lr c.1 _).mono ?_;rw[HI.out];rintro e' w1 ⟨rfl,C6⟩;have E1:=I (E.out.below C6);clear C6;go_wp2;go_ret;exact⟨rfl,E1.out.DI⟩
def wJ(c:Dg)(a1 a2 a3 a4:Bool):Prop:=wi (LY c) 0 2147483647=a1/\wi (Eb c) 1 16777216=a2/\wi (Jy c) 1 16777216=a3/\wi (JM c) 1 64=a4
theorem mO(c:Dg)(hi:JK c.1=true)(a1 a2 a3 a4:Bool)(hb:wJ c a1 a2 a3 a4)(w:World):
 Calls prog 141 #[Ph c] w fun e w'=>e=.returned (.int .i64 (if (a1&&a2&&a3&&a4)=true then 0 else 1))/\Below w.heap.size w w':=by
 have E:=I ((AI w).lay #[.string c.1,.int .i64 (LY c),.int .i64 (Eb c),.int .i64 (JM c),.int .i64 (Jy c)] 108);have HI:=I hi;obtain⟨h1,h2,h3,h4⟩:=hb;have H1:=I h1;have H2:=I h2;have H3:=I h3;have H4:=I h4;unfold Ph;clear hi h1 h2 h3 h4;cases a1<;>cases a2<;>cases a3<;>cases a4
 all_goals
  go_in;go_wp2_with fail
  refine(Lr c.1 _).mono ?_;rw[HI.out];rintro e' w1 ⟨rfl,C6⟩;have E1:=I (E.out.below C6);clear C6;have x1:=E1.out.hd.cell 1;have x2:=E1.out.hd.cell 2;have x3:=E1.out.hd.cell 3;have x4:=E1.out.hd.cell 4;have x5:=E1.out.hd.lt;simp at x1 x2 x3 x4;go_wp2_with (first
   |(go_at_call 53;(with_reducible refine(Dv (LY c) 0 2147483647 _ H1.out _).mono ?_);rintro e' w' ⟨rfl,rfl⟩)
   |(go_at_call 53;(with_reducible refine(Dv (Eb c) 1 16777216 _ H2.out _).mono ?_);rintro e' w' ⟨rfl,rfl⟩)
   |(go_at_call 53;(with_reducible refine(Dv (Jy c) 1 16777216 _ H3.out _).mono ?_);rintro e' w' ⟨rfl,rfl⟩)
   |(go_at_call 53;(with_reducible refine(Dv (JM c) 1 64 _ H4.out _).mono ?_);rintro e' w' ⟨rfl,rfl⟩))
  all_goals
   go_ret;exact⟨rfl,E1.out.DI⟩
theorem p5(c:Dg)(w:World):
 Calls prog 141 #[Ph c] w fun e w'=>e=.returned (.int .i64 (IX c))/\Below w.heap.size w w':=by
 unfold IX;by_cases hi:JK c.1=true
 ·rw[AD hi]
  have h:=mO c hi _ _ _ _ ⟨rfl,rfl,rfl,rfl⟩ w;have e:(if (wi (LY c) 0 2147483647&&wi (Eb c) 1 16777216&&wi (Jy c) 1 16777216&&wi (JM c) 1 64)=true then (0:Int)else 1)=if Gj c then 0 else 1:=by
   have ADN:(wi (LY c) 0 2147483647&&wi (Eb c) 1 16777216&&wi (Jy c) 1 16777216&&wi (JM c) 1 64)=true↔Gj c:=by
    rw[Bf,Bf,Bf,DW,DW,DW,DW];unfold Gj;omega
   by_cases hc:Gj c
   ·rw[AD (ADN.2 hc),AD hc]
   ·rw[AC (fun h=>hc (ADN.1 h)),AC hc]
  rw[e]at h;exact h
 ·rw[AC hi];exact vE c (by simpa using hi) w
theorem pk:(Tryz.prog.info? 9).map (fun i=>(i.zero,i.size,i.bytes))=some (some (.string ByteArray.empty),1,16):=by kernel_rfl
theorem wR(c:Nat)(w:World):
 Calls prog 177 #[.slice none 0 c] w fun e w'=>e=.returned (.slice none 0 0)/\Below w.heap.size w w':=by
 have kC:=fun w=>AS0 (P:=prog) w 31 9 none 0 c 0 0 underlying31;go_in;go_wp2;go_ret;exact⟨rfl,AA⟩
theorem qS(ad:Addr)(c n B:Nat)(xs:List Value)(hm:n<=1000)(h1:∀u∈xs,u.oneCell'=true)(w:World)(hr:Reads w B 1 (some ad) n xs)(hB:B<=w.heap.size):
 Calls prog 177 #[.slice (some ad) n c] w (bg n xs w):=by
 obtain⟨i0,hi,Fq,FZ,Fe⟩:=AO pk;have HO:=I (show(w.alloc (.cells #[] 9)).ownsRow w.heap.size 9 1 (.slice (some ⟨w.heap.size,0,none⟩) 0 0) 0 []from⟨rfl,.inr ⟨w.heap.size,0,#[],rfl,AB,DJ.new _ _ _,AB,AM _,rfl,rfl⟩⟩);have jU:=I (hr.alloc hB (.cells #[] 9));have H1:=I h1;clear h1 hr;have kC:=fun w=>AS0 (P:=prog) w 31 9 (some ad) n c 0 0 underlying31;go_in;go_wp2_with (at_builtin;refine EU _ rfl _ _ 31 rfl w.heap.size 9 i0 _ 1 16 underlying31 hi Fq FZ Fe rfl (by decide) _ _ _ rfl HO.out _ _ _ _ _ rfl jU.out H1.out ?c1 ?c2 ?c3 ?_)
 case c1=>unfold maxLen;omega
 case c2=>omega
 case c3=>first|omega|simp
 intro v' w' DL hb;try simp only[CH,Cm]at DL
 obtain⟨A9,c9,rfl⟩:=Cz DL;have Df:=I (show bg n xs w (.returned (.slice A9 n c9)) w' from⟨A9,c9,rfl,DL,(AA.alloc AB _).trans hb⟩);clear DL hb;go_wp2;go_ret;exact Df.out
theorem wA(A:Option Addr)(c n B:Nat)(xs:List Value)(hm:n<=1000)(h1:∀u∈xs,u.oneCell'=true)(w:World)(hr:Reads w B 1 A n xs)(hB:B<=w.heap.size):
 Calls prog 177 #[.slice A n c] w (bg n xs w):=by
 cases A with
 |none=>
  rcases Ac n with h0|h0
  ·subst h0
   obtain rfl:xs=[]:=Bn (by have:=hr.1;omega);exact(wR c w).mono fun e w' ⟨k1,k2⟩=>⟨none,0,k1,AX _ _ _ _,k2⟩
  ·obtain⟨_,h,_⟩:=hr.2 h0
   cases h
 |some ad=>exact qS ad c n B xs hm h1 w hr hB
