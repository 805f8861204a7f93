/- The desk: the function o -/
import Derived.Test.YthiplgekjgffkaaGreatDoorM44
set_option maxRecDepth 100000
set_option maxHeartbeats 99000000
set_option linter.all false
namespace Go.Proofs.YthiplgekjgffkaaGreatDoor
open Go.Proofs.Tryz
open Go.RowKit Go.Lib
open Go.Maps (Keyed)
def fnQ(v:Value):Option (DataW Unit×List MemPlace):=match v with
 | .func (.func i) ⟨[]⟩ ⟨[]⟩=>some (.lit (.int .i64 (i:Int)),[])
 | .nilFunc=>some (.lit (.int .i64 (-1)),[])
 |_=>none
def zM:Option Nat->Value
 |none=>.nilFunc
 |some i=>.func (.func i) #[] #[]
def fnL:Option Nat->DataW Unit
 |none=>.lit (.int .i64 (-1))
 |some i=>.lit (.int .i64 (i:Int))
theorem o6{v:Value}{ps:List MemPlace}{o:Option Nat}(h:fnQ v=some (fnL o,ps)):v=zM o:=by
 unfold fnQ at h;split at h
 ·cases o with
  |none=>simp[fnL]at h
  |some i=>
   simp[fnL]at h;obtain⟨h,-⟩:=h;have h:=Int.ofNat.inj h;subst h;rfl
 ·cases o with
  |none=>rfl
  |some i=>simp[fnL]at h
 ·cases h
def Rc(kl q:List UInt8)(i:Nat)(o:Option Nat):Option Nat:=if kl=q then some i else o
def WV(P:Program)(k:TypeId)(kl:List UInt8)(w:World)(b n:Nat)(o:Option Nat):Prop:=
 ∃D:DataW Unit,w.ownsMap P k fnQ b n D/\Maps.IsMap D/\match o with|none=>∀d,D.atKey (.string kl) d=d|some i=>∀d,D.atKey (.string kl) d=.lit (.int .i64 (i:Int))
section
variable{P:Program}{k e t:TypeId}{kl:List UInt8}{w:World}{b n:Nat}{o:Option Nat}
theorem WV.made(w:World):WV P k kl (w.alloc (.map #[] 0)) w.heap.size 0 none:=⟨.map [],World.ownsMap_made _ _ _ _,Maps.isMap_empty,fun d=>rfl⟩
theorem WV.store(h:WV P k kl w b n o)(K:Keyed P k)(ht:P.underlying t=some (.map k e))(hn:n<maxLen){key:Value}{q:List UInt8}(Pd:keyOf P k key=some (.string q))(i:Nat):
 ∃w',(Instr.mapUpdate t (.map (some b)) key (.func (.func i) #[] #[])).run P w=.ok () w'/\WV P k kl w' b (n+1) (Rc kl q i o)/\w.grownBy w' (some b):=by
 obtain⟨D,h,h2,h3⟩:=h;obtain⟨w',J7,DL,hg⟩:=h.store K ht hn Pd (val:=.func (.func i) #[] #[]) (d:=.lit (.int .i64 (i:Int))) (ps:=[]) (by simp[fnQ]);refine⟨w',J7,⟨_,DL,h2.put _ _,?_⟩,hg.grown⟩;unfold Rc;by_cases hq:kl=q
 ·rw[AD hq,hq]
  exact fun d=>Maps.atKey_put_same h2 (by simp[WideAt.IsKeyLit]) _ d
 ·rw[AC hq]
  have hq:Lit.string kl≠ .string q:=fun e=>hq (by injection e);cases o with
  |none=>exact fun d=>by rw[AUS hq,h3 d]
  |some j=>exact fun d=>by rw[AUS hq,h3 d]
end
section
variable{P:Program}(w:World){ops:Array Oper}{rest:List Oper}{o:Oper}{a:Act}{Q:Exit->Act->World->Prop}
theorem Gd(hg:o.guard=none)(mm x v:Operand)(t:TypeId)(xO:o.op=Op.insert t mm x v)
 (k e:TypeId) (K:Keyed P k) (ht:P.underlying t=some (.map k e)) (b n:Nat) (kl:List UInt8) (u:Option Nat) (hm:a.eval mm=.map (some b)) (DL:WV P k kl w b n u) (hn:n<maxLen) (key:Value) (q:List UInt8) (i:Nat)
 (hx:a.eval x=key) (hv:a.eval v=.func (.func i) #[] #[]) (Pd:keyOf P k key=some (.string q))
 (hK:∀w',WV P k kl w' b (n+1) (Rc kl q i u)->w.grownBy w' (some b)->wpList P ops Q rest (a.put o.dst undef) w'):
 wpList P ops Q (o::rest) a w:=by
 refine ASh hg fun K' hK'=>?_;obtain⟨w',J7,r1,r2⟩:=DL.store K ht hn Pd i;unfold Oper.wp;simp[execOp,xO,hm,hx,hv,J7,Result.andThen];exact hK' _ _ (hK w' r1 r2)
theorem SN(hg:o.guard=none)(mm x:Operand)(t:TypeId)(xO:o.op=Op.lookup t mm x true)
 (k e:TypeId) (K:Keyed P k) (ht:P.underlying t=some (.map k e)) (hz:(zeroValue e).run P w=.ok .nilFunc w) (b n:Nat) (kl:List UInt8) (u:Option Nat) (hm:a.eval mm=.map (some b)) (DL:WV P k kl w b n u) (key:Value) (hx:a.eval x=key) (Pd:keyOf P k key=some (.string kl))
 (hK:wpList P ops Q rest (a.put o.dst (.tuple #[zM u,.bool u.isSome])) w):
 wpList P ops Q (o::rest) a w:=by
 obtain⟨D,h,h2,h3⟩:=DL;refine wpList_lookup_own_ok w hg mm x t xO k e K ht fnQ hz (.lit (.int .i64 (-1))) [] rfl b n D hm h key (.string kl) hx Pd fun v ps hv=>?_;cases u with
 |none=>
  rw[h3]at hv;rw[o6 (o:=none) hv,Maps.has_false_of_atKey h3];exact hK
 |some i=>
  rw[h3]at hv;rw[o6 (o:=some i) hv,Maps.has_true_of_atKey h3];exact hK
end
def uo(s:List UInt8):Option Nat:=Rc s [104,97,108,118,101] 81 (Rc s [100,105,118] 79 (Rc s [116,105,109,101,115] 77 (Rc s [108,101,115,115] 75 (Rc s [115,117,109] 73 none))))
theorem Ry(s:ByteArray)(hs:s.size<=maxLen)(w:World):
 Calls prog 24 #[.string s] w fun e w'=>e=.returned (.tuple #[zM (uo s.data.toList),.bool (uo s.data.toList).isSome])/\Below w.heap.size w w':=by
 have Nc:= @run_makeMap prog;have KS:Keyed prog 9:=AUA underlying9;have sr:WV prog 9 s.data.toList (w.alloc (.map #[] 0)) w.heap.size 0 none:=WV.made w;have Jg:Below w.heap.size w (w.alloc (.map #[] 0)):=AA.alloc AB _;go_in;go_wp2_with (refine Gd _ rfl _ _ _ 134 rfl 9 73 KS underlying134 w.heap.size 0 s.data.toList _ rfl sr (by decide) _ [115,117,109] 73 rfl rfl (AS9 underlying9 (by decide)) ?_)
 rintro w1 dG g1;go_wp2_with (refine Gd _ rfl _ _ _ 134 rfl 9 73 KS underlying134 w.heap.size 1 s.data.toList _ rfl dG (by decide) _ [108,101,115,115] 75 rfl rfl (AS9 underlying9 (by decide)) ?_)
 rintro w2 cM g2;go_wp2_with (refine Gd _ rfl _ _ _ 134 rfl 9 73 KS underlying134 w.heap.size 2 s.data.toList _ rfl cM (by decide) _ [116,105,109,101,115] 77 rfl rfl (AS9 underlying9 (by decide)) ?_)
 rintro w3 Vk g3;go_wp2_with (refine Gd _ rfl _ _ _ 134 rfl 9 73 KS underlying134 w.heap.size 3 s.data.toList _ rfl Vk (by decide) _ [100,105,118] 79 rfl rfl (AS9 underlying9 (by decide)) ?_)
 rintro w4 hm4 g4;go_wp2_with (refine Gd _ rfl _ _ _ 134 rfl 9 73 KS underlying134 w.heap.size 4 s.data.toList _ rfl hm4 (by decide) _ [104,97,108,118,101] 81 rfl rfl (AS9 underlying9 (by decide)) ?_)
 rintro w5 hm5 g5;have k0:Kept (fun _=>False) w (w.alloc (.map #[] 0)):=.DU Jg;have k1:=k0.grown g1 (fun k hk=>.inr (by cases hk;exact AB));have k2:=k1.grown g2 (fun k hk=>.inr (by cases hk;exact AB));have k3:=k2.grown g3 (fun k hk=>.inr (by cases hk;exact AB));have k4:=k3.grown g4 (fun k hk=>.inr (by cases hk;exact AB));have k5:=k4.grown g5 (fun k hk=>.inr (by cases hk;exact AB));have Eh:Below w.heap.size w w5:=k5.below (fun k h=>h.elim) AB;have hz:(zeroValue 73).run prog w5=.ok .nilFunc w5:=zeroValue73 w5;go_wp2_with (refine SN _ rfl _ _ 134 rfl 9 73 KS underlying134 hz w.heap.size 5 s.data.toList _ rfl hm5 _ rfl (AS9 underlying9 hs) ?_)
 go_wp2
 go_ret2
 exact⟨rfl,Eh⟩
theorem Yz(l:List ByteArray)(i:Nat):(C7 l).take i=C7 (l.take i):=by simp[C7,AT7]
theorem Y2(l:List ByteArray)(i:Nat):(C7 l).drop i=C7 (l.drop i):=by simp[C7,AT8]
theorem qC(g cap c3 n k bs:Nat)(A3:Option Addr)(S:List ByteArray)(hn:n<=1000)(Te:k<n)(hS:S.length=n)(Jq:n<=cap)(W:World)(hrd:Reads W W.heap.size 1 (some ⟨g,0,none⟩) n (C7 S))
 (h3:A3=if cap=k+1 then some ⟨g,0,none⟩else some ⟨g,k+1,none⟩) (hb:DJ W bs 31 #[.slice (some ⟨g,0,none⟩) k cap,.slice A3 (n- (k+1)) c3]):
 Calls prog 146 #[.slice (some ⟨bs,0,none⟩) 2 2] W (bg (n- 1) (C7 (Sd S k)) W):=by
 have hcut:=hrd.cut (k:=k+1) (cap:=cap) Te Jq;have xV:A3=if cap=k+1 then some (⟨g,0,none⟩:Addr)else (some (⟨g,0,none⟩:Addr)).map (·.add ((k+1)*1)):=by
  rw[h3];split
  ·rfl
  ·simp[Addr.add]
 rw[<-xV,ATC,Y2]at hcut;have ACV:Reads W W.heap.size 1 (some ⟨g,0,none⟩) k (C7 (S.take k)):=by
  refine⟨by rw[Z4,AV];omega,fun J0=>?_⟩;obtain⟨ad,e,hb,hc⟩:=hrd.2 (by omega);refine⟨ad,e,hb,fun j u hj=>hc j u ?_⟩;rw[<-Yz,ASo]at hj;split at hj
  ·exact hj
  ·cases hj
 refine fa [(some ⟨g,0,none⟩,k,cap,C7 (S.take k)),(A3,n- (k+1),c3,C7 (S.drop (k+1)))] W.heap.size bs (by simp) W ?_ AB hb 2 rfl (n- 1) (by simp[Ma];omega) _ (by unfold Sd;rw[Iq];simp);intro s hs;simp only[AR,CT,CU]at hs;rcases hs with rfl|rfl
 ·exact⟨ACV,Iu _,by show k<=1000;omega⟩
 ·exact⟨hcut,Iu _,by show n- (k+1)<=1000;omega⟩
section
variable{w W W' W2:World}{F F':Nat->Nat}{tb db:Nat}{nv wv:Value}{bs:List Nat}{t t':DQ}
theorem Dj.Vb{W1:World}{F1:Nat->Nat}{wv':Value}{way':List ByteArray}(h:Dj F W tb db nv wv bs t)(hC:EA w W F)(UE:EA w W1 F1)(m:DN (fun c=>c=9\/c=29) F W F1 W1)(hr:Ns F1 9 W1 9 1 way'.length wv' (C7 way'))(h5:t.L.length<=5):
 EA w (W1.setCell ⟨tb,2,none⟩ wv') F1/\DN (fun c=>c=6\/c=9\/c=29) F W F1 (W1.setCell ⟨tb,2,none⟩ wv')/\Dj F1 (W1.setCell ⟨tb,2,none⟩ wv') tb db nv wv' bs ⟨t.L,way'⟩:=by
 have C6:=m.DC hC (c':=6) (by decide) (by decide) h.DC;have MR:Kept (fun k=>F1 k=6) W1 (W1.setCell ⟨tb,2,none⟩ wv'):=(AH (fun k=>F1 k=6) _).setCell (a:=⟨tb,2,none⟩) (.inl C6.2) _;have ER:(W1.setCell ⟨tb,2,none⟩ wv').heap.size=W1.heap.size:=by simp[World.setCell]
 have m2:DN (fun x=>x=6) F1 W1 F1 (W1.setCell ⟨tb,2,none⟩ wv'):=⟨MR,fun _ _=>rfl,fun k hl h0=>by have:=UE.hi k h0;omega⟩;have f1:F1 db=8:=(m.Jj hC (by decide) (by decide)).2 h.YI;refine⟨⟨UE.lo,fun k hk=>by rw[ER];exact UE.hi k hk,UE.DI.trans (MR.below (fun k e=>UE.lo k (by rw[e];decide)) UE.DI.size)⟩,(m.mono (fun c hc=>.inr hc)).trans (m2.mono (fun c hc=>.inl hc)),?_⟩;refine⟨⟨C6.1.De 2 wv',C6.2⟩,m2.row UE (by decide) (by decide) (m.row hC (by decide) (by decide) h.Jp),m2.marks (by omega) (m.marks (by have:=h.YI;omega) h.Qk),f1,m2.row UE (by decide) (by decide) hr,h.len,fun i hi SJ=>?_⟩;have hi5:i<5:=AJ SJ h5;exact m2.hold UE (by omega) (by omega) (m.hold hC (c':=20+i) (by omega) (by omega) (h.node i hi SJ))
theorem Dj.ABP{W1:World}{wv':Value}{way':List ByteArray}(h:Dj F W tb db nv wv bs t)(hC:EA w W F)(h5:t.L.length<=5)(hb:Below W.heap.size W W1)(ho:W1.ownsRow W.heap.size 9 1 wv' way'.length (C7 way')):
 J5 w F W tb ⟨t.L,way'⟩ (W1.setCell ⟨tb,2,none⟩ wv'):=by
 have hk:Kept (fun k=>F k=9) W W1:=.DU hb;have m:=DN.DM hC hk;obtain⟨q1,q2,q3⟩:=h.Vb hC (hC.DM (by decide) hk) (m.mono (fun c hc=>.inl hc)) ⟨GL ho (AM _),SK ho⟩ h5;exact⟨_,q1,q2.mono (fun c hc=>by unfold Fl;omega),_,_,_,_,q3⟩
theorem nf(h:Dj F W tb db nv wv bs t)(hm:t.way.length<=1000)(i:Int)(hu:t.under i=false):
 Calls prog 62 #[.pointer (some ⟨tb,0,none⟩),.int .i64 i] W fun e W'=>e=.returned (.int .i64 4)/\W=W':=by
 obtain⟨QX,b0,b1,b2⟩:=h.cells;obtain⟨Aw,cw,rfl⟩:=Cz h.way.1;have dG:(t.way.length:Int)<=1000:=by omega
 have hw:wi i 0 ((t.way.length:Int)- 1)=false:=by
  rw[Fc];rcases L5 hu with e|e
  ·exact .inl e
  ·exact .inr (by omega)
 have Rn:=I hw;clear h hu hw;generalize t.way.length=m at*;go_in;go_wp2_with fail
 refine(Dv _ _ _ false Rn.out _).mono ?_;rintro e' w' ⟨rfl,rfl⟩;go_wp2;go_ret;exact⟨rfl,rfl⟩
theorem qB(h:Dj F W tb db nv wv bs t)(hC:EA w W F)(h5:t.L.length<=5)(hm:t.way.length<=1000)(k:Nat)(hk:k<t.way.length):
 Calls prog 62 #[.pointer (some ⟨tb,0,none⟩),.int .i64 (k:Int)] W (RwE w F W tb ⟨t.L,Sd t.way k⟩ 0):=by
 obtain⟨QX,b0,b1,b2⟩:=h.cells;obtain⟨g,cap,rfl,tL,ZU,SS,hfw,-⟩:=h.word hk;have hbf:=h.DC.1;have Rn:=I (show wi (k:Int) 0 ((t.way.length:Int)- 1)=true by rw[DW];omega);have Zn:=I (fun W1 wv' hb ho=>h.ABP (W1:=W1) (wv':=wv') (way':=Sd t.way k) hC h5 hb ho);have HRD:=I (show∀W',Below W.heap.size W W'->Reads W' W'.heap.size 1 (some ⟨g,0,none⟩) t.way.length (C7 t.way)from fun W' hb=>UZ ((Reads.DR h.way.1).below hb AB) hb.size);have GB:=I (show∀w',Below W.heap.size W w'->w'.cell? ⟨tb,2,none⟩=some (.slice (some ⟨g,0,none⟩) t.way.length cap)/\w'.frozen? ⟨tb,2,none⟩=false/\tb<w'.heap.size from fun w' h'=>⟨(h'.cell (p:=⟨tb,2,none⟩) QX).trans b2,(hbf.below h' QX).frozen 2,AJ QX h'.size⟩)
 have P7:=I (au hk);unfold maxLen at ZU;have WT:=I (fun W' A3 c3 bs (h0:Below W.heap.size W W') h1 h2=>qC g cap c3 t.way.length k bs A3 t.way hm hk rfl tL W' (HRD.out W' h0) h1 h2);clear h hbf hfw;generalize Sd t.way k=S' at*;have dG:(t.way.length:Int)<=1000:=by omega
 have Te:k<t.way.length:=hk;have c1:(k:Int)<=t.way.length:=by omega
 have c2:(k:Int)+1<=t.way.length:=by omega
 have c3:(k:Int)<=cap:=by omega
 have c4:(0:Int)<=(k:Int)+1:=by omega
 have c5:((k:Int)+1).toNat=k+1:=by omega
 have c6:IntKind.i64.wrap ((k:Int)+1)=(k:Int)+1:=by rw[Aj];omega
 have ZH:¬cap=k:=by omega
 have APb:(k:Int)<=(k:Int)+1:=by omega
 generalize t.way.length=n at*;by_cases hc:cap=k+1
 ·subst hc
  have HC1:=I (fun W' c3 bs h0 (h3:DJ W' bs 31 #[.slice (some ⟨g,0,none⟩) k (k+1),.slice (some ⟨g,0,none⟩) 0 c3])=>WT.out W' (some ⟨g,0,none⟩) c3 bs h0 (AD rfl).symm (by rw[show n- (k+1)=0 by omega];exact h3));go_in
  go_upto_region 3 with((refine(Dv _ _ _ true Rn.out _).mono ?_;rintro e' w' ⟨rfl,rfl⟩))
  go_region_law (go_simp;go_at_call 146;(refine(HC1.out _ _ _ (AE (Below.Gh AA)) (DJ.drew (DJ.new _ _ _))).mono ?_);rintro e' w9 ⟨A9,c9,rfl,Db,Ei⟩;have Kh:Below W.heap.size W w9:=Below.C9 (AE (Below.Gh AA)) Ei;have Qn:=DX Db (show Below W.heap.size W _ from AE (Below.Gh AA)).size;obtain⟨z9,zf9,zl9⟩:=GB.out w9 Kh)
  all_goals
   have Df:=I (Zn.out w9 (.slice A9 (n- 1) c9) Kh (by rw[P7.out];exact Qn));clear Qn Db Kh Ei;go_wp2;go_ret;exact⟨rfl,Df.out⟩
 ·go_in
  go_upto_region 3 with((refine(Dv _ _ _ true Rn.out _).mono ?_;rintro e' w' ⟨rfl,rfl⟩))
  go_region_law (go_simp;go_at_call 146;(refine(WT.out _ _ _ _ (AE (Below.Gh AA)) (AC hc).symm (DJ.drew (DJ.new _ _ _))).mono ?_);rintro e' w9 ⟨A9,c9,rfl,Db,Ei⟩;have Kh:Below W.heap.size W w9:=Below.C9 (AE (Below.Gh AA)) Ei;have Qn:=DX Db (show Below W.heap.size W _ from AE (Below.Gh AA)).size;obtain⟨z9,zf9,zl9⟩:=GB.out w9 Kh)
  all_goals
   have Df:=I (Zn.out w9 (.slice A9 (n- 1) c9) Kh (by rw[P7.out];exact Qn));clear Qn Db Kh Ei;go_wp2;go_ret;exact⟨rfl,Df.out⟩
theorem mC(h:Dj F W tb db nv wv bs t)(hC:EA w W F)(hg:Dt t)(i:Int):
 Calls prog 62 #[.pointer (some ⟨tb,0,none⟩),.int .i64 i] W (RwE w F W tb (t.lost i) (t.KE i)):=by
 unfold DQ.lost DQ.KE;by_cases hl:t.under i=true
 ·rw[AD hl,AD hl]
  obtain⟨k,rfl,hk,-⟩:=JY hl;exact qB h hC hg.Er hg.way k hk
 ·rw[AC hl,AC hl]
  exact(nf h hg.way i (by simpa using hl)).mono fun e W' ⟨k1,k2⟩=>⟨k1,k2▸h.xz hC⟩
end
section
variable{w W W' wr w2 w3 w4:World}{F F1:Nat->Nat}{tb db:Nat}{nv wv ov:Value}{bs:List Nat}{t:DQ}{g:Int}{k:Nat}
theorem Dj.ABr{P:Nat->Prop}{F':Nat->Nat}(h:Dj F W tb db nv wv bs t)(hC:EA w W F)(m:DN P F W F' W')(hP:∀c,P c->¬((6<=c/\c<=9)\/(20<=c/\c<25)))(h5:t.L.length<=5):Dj F' W' tb db nv wv bs t:=by
 have hn:∀c,((6<=c/\c<=9)\/(20<=c/\c<25))->¬P c:=fun c h1 h2=>hP c h2 h1;refine⟨m.DC hC (by omega) (hn 6 (by omega)) h.DC,m.row hC (by omega) (hn 7 (by omega)) h.Jp,m.marks (by rw[h.YI];exact hn 8 (by omega)) h.Qk,(m.Jj hC (by omega) (hn 8 (by omega))).2 h.YI,m.row hC (by omega) (hn 9 (by omega)) h.way,h.len,fun i hi SJ=>?_⟩;have hi5:i<5:=AJ SJ h5;exact m.hold hC (by omega) (hn (20+i) (by omega)) (h.node i hi SJ)
structure ABA(w:World)(F:Nat->Nat)(W:World)(tb db:Nat)(nv:Value)(bs:List Nat)(t:DQ)(g:Int)(k:Nat)(F1:Nat->Nat)(wv ov:Value)(wr:World):Prop where
 Jj:EA w wr F1
 gZ:DN Fl F W F1 wr
 Nj:Dj F1 wr tb db nv wv bs (t.mid g k)
 out:wr.ownsRow W.heap.size 173 3 ov (t.Ho g k).length (Da (t.Ho g k))
 oc:∀x,ov.ownBlock=some x->F1 x=29
def Ow(w:World)(F:Nat->Nat)(W:World)(tb db:Nat)(nv:Value)(bs:List Nat)(t:DQ)(g:Int)(k:Nat)(ov:Value)(wr:World):Prop:=∃F1 wv,ABA w F W tb db nv bs t g k F1 wv ov wr
theorem Ow.skip(h:Ow w F W tb db nv bs t g k ov wr)(hk:k<t.L.length)(hd:(t.L[k]'hk).2=true):Ow w F W tb db nv bs t g (k+1) ov wr:=by
 obtain⟨F1,wv,h⟩:=h;obtain⟨e1,e2⟩:=bW (g:=g) hk hd;exact⟨F1,wv,h.Jj,h.gZ,by rw[e1];exact h.Nj,by rw[e2];exact h.out,h.oc⟩
structure Vc(w:World)(F:Nat->Nat)(W:World)(tb db:Nat)(nv:Value)(bs:List Nat)(t:DQ)(g:Int)(k:Nat)(F2:Nat->Nat)(wv ov xv:Value)(N:List Dm)(w2:World)(L':List PM)(way':List ByteArray):Prop where
 Jj:EA w w2 F2
 gZ:DN Fl F W F2 w2
 Nj:Dj F2 w2 tb db nv wv bs ⟨L',way'⟩
 out:w2.ownsRow W.heap.size 173 3 ov (t.Ho g k).length (Da (t.Ho g k))
 oc:∀x,ov.ownBlock=some x->F2 x=29
 nts:w2.ownsRow 0 173 3 xv N.length (Da N)
 nc:∀x,xv.ownBlock=some x->F2 x=20+k
theorem ABA.node{N:List Dm}{s1:Dh}{xv:Value}(h:ABA w F W tb db nv bs t g k F1 wv ov wr)(h5:t.L.length<=5)(hk:k<t.L.length)(hd:(t.L[k]'hk).2=false)
 (hn:w2.ownsRow wr.heap.size 173 3 xv N.length (Da N)) (hN:FJ (grow (fun x=>F1 x=20+k) wr w2) w2 (bs[k]'(by rw[h.Nj.len,DQ.Hg];exact hk)) s1) (MR:Kept (fun x=>F1 x=20+k) wr w2):
 Vc w F W tb db nv bs t g k (DM F1 wr w2 (20+k)) wv ov xv N w2 ((t.mid g k).L.set k (s1,false)) (t.mid g k).way:=by
 have Tl:k<(t.mid g k).L.length:=by rw[DQ.Hg];exact hk
 have XD:=DQ.Vt t g k k hk AB;have m:=DN.DM h.Jj MR;exact⟨h.Jj.DM (by omega) MR,h.gZ.trans (m.mono (fun c hc=>.inr (by omega))),h.Nj.Pe h.Jj Tl MR hN (by rw[XD];exact hd.symm),
  MR.own h.out (fun x hx e=>by have:=h.oc x hx;omega),fun x hx=>(m.Jj h.Jj (by decide) (by omega)).2 (h.oc x hx),GL hn (AM _),SK hn⟩
theorem Vc.way{F2:Nat->Nat}{T way':List ByteArray}{N:List Dm}{L':List PM}{xv wv':Value}(h:Vc w F W tb db nv bs t g k F2 wv ov xv N w2 L' way')(h5:L'.length<=5)(NV:k<5)
 (JN:w3.ownsRow 0 9 1 wv' (way'.length+T.length) (C7 way'++C7 T)) (Nk:w2.grownBy w3 wv.ownBlock) (DT:wv'.ownBlock=wv.ownBlock\/wv'.ownBlock=some w2.heap.size):
 (DJ w3 tb 120 #[nv,.map (some db),wv])/\∃F3,Vc w F W tb db nv bs t g k F3 wv' ov xv N (w3.setCell ⟨tb,2,none⟩ wv') L' (way'++T):=by
 have hwF:∀x,wv.ownBlock=some x->F2 x=9:=h.Nj.way.2;have k3:Kept (fun x=>F2 x=9) w2 w3:=(AH _ _).grown Nk (fun x e=>.inl (hwF x e));have m3:=DN.DM h.Jj k3;have c3:=h.Jj.DM (by decide) k3;have Tj:Ns (DM F2 w2 w3 9) 9 w3 9 1 (way'.length+T.length) wv' (C7 way'++C7 T):=⟨JN,fun x e=>by
  have hl:=(JN.lt x e).2;rcases DT with e2|e2
  ·rw[e2]at e
   exact Hm (hwF x e)
  ·rw[e2]at e
   injection e with e
   exact FV (by omega) hl⟩
 obtain⟨q1,q2,q3⟩:=h.Nj.Vb (way':=way'++T) h.Jj c3 (m3.mono (fun c hc=>.inl hc)) ⟨by rw[AN,Iq];exact Tj.1,Tj.2⟩ h5;have kk:Kept (fun x=>x=tb) w3 (w3.setCell ⟨tb,2,none⟩ wv'):=(AH (fun x=>x=tb) _).setCell (a:=⟨tb,2,none⟩) (.inl rfl) _;refine⟨k3.DC h.Nj.DC.1 (fun hx=>by have:=h.Nj.DC.2;omega),_,q1,h.gZ.trans (q2.mono (fun c hc=>by unfold Fl;omega)),q3,kk.own (k3.own h.out (fun x e hx=>by have:=h.oc x e;omega)) (fun x e hx=>by have h1:=h.oc x e;have hx:x=tb:=hx;rw[hx]at h1;have:=h.Nj.DC.2;omega),fun x e=>?_,kk.own (k3.own h.nts (fun x e hx=>by have:=h.nc x e;omega)) (fun x e hx=>by have h1:=h.nc x e;have hx:x=tb:=hx;rw[hx]at h1;have:=h.Nj.DC.2;omega),fun x e=>?_⟩
 ·have h9:=h.oc x e
  exact(m3.Jj h.Jj (by decide) (by decide)).2 h9
 ·have h9:=h.nc x e
  exact(m3.Jj h.Jj (by omega) (by omega)).2 h9
theorem Vc.app{F2:Nat->Nat}{T:List ByteArray}{N:List Dm}{s1:Dh}{xv tR:Value}(h:Vc w F W tb db nv bs t g k F2 wv ov xv N w3 ((t.mid g k).L.set k (s1,false)) ((t.mid g k).way++T))(h5:t.L.length<=5)(hk:k<t.L.length)
 (Tp:w4.ownsRow W.heap.size 173 3 tR ((t.Ho g k).length+N.length) (Da (t.Ho g k)++Da N)) (RV:w3.grownBy w4 ov.ownBlock) (EL:tR.ownBlock=ov.ownBlock\/tR.ownBlock=some w3.heap.size)
 (hT:T=Ic g (t.L[k]'hk)) (hN:N=GX g (t.L[k]'hk)) (hS:(s1,false)=KI g (t.L[k]'hk)):Ow w F W tb db nv bs t g (k+1) tR w4:=by
 have k4:Kept (fun x=>F2 x=29) w3 w4:=(AH _ _).grown RV (fun x e=>.inl (h.oc x e));have m4:=DN.DM h.Jj k4;have c4:=h.Jj.DM (by decide) k4;have tP:((t.mid g k).L.set k (s1,false)).length<=5:=by rw[ASl,DQ.Hg];exact h5
 have ew:(t.mid g (k+1)).way=(t.mid g k).way++T:=by rw[DQ.Y0 t g k hk,hT]
 have el:(t.mid g (k+1)).L=(t.mid g k).L.set k (s1,false):=by rw[DQ.Ye t g k hk,hS]
 have en:t.Ho g (k+1)=t.Ho g k++N:=by rw[DQ.Sp t g k hk,hN]
 have ABn:t.mid g (k+1)=⟨(t.mid g k).L.set k (s1,false),(t.mid g k).way++T⟩:=by rw[<-ew,<-el]
 refine⟨_,wv,c4,h.gZ.trans (m4.mono (fun c hc=>by unfold Fl;omega)),by rw[ABn];exact h.Nj.ABr h.Jj m4 (fun c hc=>by omega) tP,by rw[en,AN,Kk];exact Tp,fun x e=>?_⟩;have hl:=(Tp.lt x e).2;rcases EL with e2|e2
 ·rw[e2]at e
  exact Hm (h.oc x e)
 ·rw[e2]at e
  injection e with e
  exact FV (by omega) hl
end
section
variable{w W W' wr w2:World}{F:Nat->Nat}{tb db:Nat}{nv wv ov:Value}{bs:List Nat}{t:DQ}{g:Int}{k:Nat}
theorem Dj.err{er:Int}(h:Dj F W tb db nv wv bs t)(hC:EA w W F)(h5:t.L.length<=5)(hb:Below W.heap.size W W')(he:t.D8 g=er)(hz:er≠0):kL w F W tb (t.DP g) (t.Fb g) (t.D8 g) (.returned (.tuple #[.slice none 0 0,.int .i64 er])) W':=by
 unfold DQ.DP DQ.Fb;rw[he,AC hz,AC hz];exact⟨none,0,rfl,AX _ _ _ _,F,hC.below hb,DN.below hC hb,_,_,_,_,h.below hC hb h5⟩
theorem Ow.fin(h:Ow w F W tb db nv bs t g t.L.length ov wr)(he:t.D8 g=0):kL w F W tb (t.DP g) (t.Fb g) (t.D8 g) (.returned (.tuple #[ov,.int .i64 0])) wr:=by
 obtain⟨F1,wv,h⟩:=h;have e1:t.mid g t.L.length=t.DP g:=by
  rw[DQ.ip t g _ AB];unfold DQ.DP;rw[AD he]
 have e2:t.Ho g t.L.length=t.Fb g:=by
  unfold DQ.Ho DQ.Fb;rw[AD he,Ap]
 have ho:=h.out;have ht:=h.Nj;rw[e2]at ho;rw[e1]at ht;rw[he];obtain⟨A,c,rfl⟩:=Cz ho;exact⟨A,c,rfl,ho,F1,h.Jj,h.gZ,_,_,_,_,ht⟩
theorem Ow.start(h:Dj F W tb db nv wv bs t)(hC:EA w W F)(h5:t.L.length<=5)(hb:Below W.heap.size W W'):Ow w F W tb db nv bs t g 0 (.slice none 0 0) W':=
 ⟨F,wv,hC.below hb,DN.below hC hb,by rw[DQ.cr];exact h.below hC hb h5,by unfold DQ.Ho;exact AX _ _ _ _,fun x hx=>by cases hx⟩
theorem eQ(g:Int)(hg:g<1\/1000<g)(W:World):
 Calls prog 60 #[.pointer (some ⟨tb,0,none⟩),.int .i64 g] W fun e W'=>e=.returned (.tuple #[.slice none 0 0,.int .i64 1])/\W=W':=by
 have Rn:=I (Fc.2 hg);clear hg;go_in;go_wp2_with fail
 refine(Dv _ _ _ false Rn.out _).mono ?_;rintro e' w' ⟨rfl,rfl⟩;go_wp2
 go_ret2
 exact⟨rfl,rfl⟩
theorem lm(h:Dj F W tb db nv wv bs t)(hC:EA w W F)(hg:Dt t)(g:Int)(g1:1<=g)(g2:g<=1000):
 Calls prog 60 #[.pointer (some ⟨tb,0,none⟩),.int .i64 g] W (kL w F W tb (t.DP g) (t.Fb g) (t.D8 g)):=by
 obtain⟨in0,fr,nh,ro,d8⟩:=AO PJ;obtain⟨is0,his,AAC,AAF,AAH⟩:=AO LM;have h5:=hg.Er;have wG:=hg.way;have H:=I h;have HC:=I hC;have HG:=I hg;obtain⟨QX,b0,b1,b2⟩:=h.cells;obtain⟨An,cn,rfl⟩:=Cz h.Jp.1;obtain⟨Aw,cw,rfl⟩:=Cz h.way.1;have QE:=I (fun er W' (hb:Below W.heap.size W W') (he:t.D8 g=er) (hz:er≠0)=>h.err (w:=w) hC h5 hb he hz);have QS:=I (fun W' (hb:Below W.heap.size W W')=>Ow.start (w:=w) (g:=g) h hC h5 hb);have QF:=I (fun ov wr he (hk:Ow w F W tb db (.slice An t.L.length cn) bs t g t.L.length ov wr)=>hk.fin he);have Rn:=I (show wi g 1 1000=true by rw[DW];omega);generalize hQ:kL w F W tb (t.DP g) (t.Fb g) (t.D8 g)=Q at*
 clear hQ h hC hg;obtain⟨mf,tE⟩:∃mf:Nat->Nat,mf=fun k=>t.way.length+FX g (t.L.take k):=⟨_,rfl⟩
 have i6:=I (fun k=>congrFun tE k);have sr:t.way.length=mf 0:=by rw[tE];simp[FX]
 clear tE;have hn5:(t.L.length:Int)<=5:=by omega
 go_in;go_wp2_with fail
 refine(Dv _ _ _ true Rn.out _).mono ?_;rintro e' w' ⟨rfl,rfl⟩;go_wp2_with fail
 go_loopw [6,28] (fun mv iv wr=>∃k:Nat,k<=t.L.length/\iv=.int .i64 (k:Int)/\mv=.int .i64 (mf k:Int)/\(∀p∈t.L.take k,Hr g p=false)/\Below W.heap.size W wr) (fun _ iv _=>t.L.length- (RowKit.intOf iv).toNat)
 case atStart=>exact⟨0,AM _,rfl,rfl,by simp,AA⟩
 case round=>
  obtain⟨k,hk,rfl,rfl,GN,DY⟩:=hrel;obtain⟨wo,rfl⟩:∃wo,wo=wr:=⟨_,rfl⟩;have GD:=I GN;have BW:=I DY;clear GN DY;have HO:=I (H.out.below HC.out BW.out h5);clear b0 b1 b2;obtain⟨AGT,b0,b1,b2⟩:=HO.out.cells;have KEEP:=I (show∀W',Below wo.heap.size wo W'->(∀hk:k<t.L.length,Hr g (t.L[k]'hk)=false)->k<t.L.length->∃k':Nat,k'<=t.L.length/\Value.int .i64 ((k:Int)+1)=.int .i64 (k':Int)/\Value.int .i64 (mf (k+1):Int)=.int .i64 (mf k':Int)/\(∀p∈t.L.take k',Hr g p=false)/\Below W.heap.size W W' from fun W' hb Fg DG=>
   ⟨k+1,by omega,by simp,rfl,fun p hp=>by
     rw[Af DG]at hp;rcases Au.1 hp with hp|hp
     ·exact GD.out p hp
     ·rw[Ai.1 hp];exact Fg DG,Below.C9 BW.out hb⟩)
  by_cases DG:k<t.L.length
  ·have hb:k<bs.length:=by rw[H.out.len];exact DG
   have mr:=I (show mf (k+1)=mf k+(if (t.L[k]'DG).2=true then 0 else (t.L[k]'DG).1.many g)by rw[i6.out,i6.out,TL g t.L k DG];omega);have Ly:=I (Gr HO.out h5 (k:Int));obtain⟨gn,uc,e1,Hc,Jw,Mm,hgF,c1⟩:=HO.out.at_ DG;simp only[Cf]at e1;obtain⟨rfl,-,rfl⟩:=e1;unfold maxLen at Jw;have vL:(0:Int)<=(k:Int):=by omega
   have oA:(k:Int)<(t.L.length:Int):=by omega
   have eI:=I (HG.out.Fo _ (AL DG));have HME:=I (AL DG);obtain⟨nA,nn,nc,nsv,nl,Pn⟩:=HO.out.node k hb DG;have Nh:=I Pn.DC;clear Pn;have zw:=I (fun W' tT Fg=>KEEP.out W' tT Fg DG);clear KEEP;generalize bs[k]'hb=b at*;rw[Oa DG]at Ly;cases Mn:(t.L[k]'DG).2 with
   |true=>
    have SH:=I (show Calls prog 64 #[.pointer (some ⟨tb,0,none⟩),.int .i64 (k:Int)] wo fun e W'=>e=.returned (.bool false)/\wo=W' by have:=Ly.out;rw[Mn]at this;exact this);have TY:=mr.out;rw[Mn]at TY;simp only[if_true,AW]at TY;have K3:=I (zw.out wo AA (fun _=>by unfold Hr;rw[Mn];rfl));rw[TY]at K3;clear Mn TY mr zw Ly;go_wp2_with fail
    refine SH.out.mono ?_;rintro e' w' ⟨rfl,rfl⟩;go_wp2;exact⟨K3.out,by simp[RowKit.intOf];omega⟩
   |false=>
    have SH:=I (show Calls prog 64 #[.pointer (some ⟨tb,0,none⟩),.int .i64 (k:Int)] wo fun e W'=>e=.returned (.bool true)/\wo=W' by have:=Ly.out;rw[Mn]at this;exact this);have TY:=mr.out;rw[Mn,AC (by decide)]at TY;have rc:=eI.out.Nm;have AJF:=eI.out.Ny;have xF:=eI.out.cfg;have HCF:=I xF;unfold Gj at xF;obtain⟨-,-,zq,Xu,-⟩:=xF;have HB:=I (show Hr g (t.L[k]'DG)=decide (1073741824<(t.L[k]'DG).1.now+g\/64<=g/Eb (t.L[k]'DG).1.c)from by
     unfold Hr;rw[Mn,VZ g1 g2];by_cases q:1073741824<(t.L[k]'DG).1.now+g\/64<=g/Eb (t.L[k]'DG).1.c
     ·rw[AD q];simp[q]
     ·rw[AC q];simp[q])
    have QB:=I (fun(hb:Hr g (t.L[k]'DG)=true)=>QE.out 2 wo BW.out (Xn g1 g2 HME.out hb) (by decide));have Wq:=I (show∀n,Calls prog 143 #[.pointer (some ⟨b,0,none⟩)] (wo.drewN n) fun e w'=>e=.returned (.int .i64 ((t.L[k]'DG).1.now/Eb (t.L[k]'DG).1.c))/\∃m,w'=wo.drewN m from fun n=>(SD b (t.L[k]'DG).1.c (t.L[k]'DG).1.now (t.L[k]'DG).1.drops _ _ rc (by omega) HCF.out (wo.drewN n) (Nh.out.drewN n)).mono fun e w' ⟨k1,m,k2⟩=>⟨k1,n+m,k2.trans (World.drewN_drewN wo n m)⟩);unfold Dh.many at TY;have AAd:=I TY;have d2:=Nh.out.cell 2;have d5:=Nh.out.cell 5;have FI:=Nh.out.lt;simp[Dw]at d2 d5;have hdv:∀ev:Int,1<=ev->(64<=g/ev↔64*ev<=g):=fun ev hev=>ATk (by omega)
    have tD:=I (hdv _ zq);clear TY mr Mn Ly hdv;generalize (t.L[k]'DG).1.now=nw at*;generalize Eb (t.L[k]'DG).1.c=ev at*;have tn:IntKind.i64.wrap (64*ev)=64*ev:=by rw[Aj];omega
    by_cases q1:1073741824<nw+g
    ·have Q1:=I (QB.out (by rw[HB.out,ATg];exact .inl q1))
     have HT:=I (show wi (nw+g) 0 1073741824=false by rw[Fc];omega);go_wp2_with fail
     refine SH.out.mono ?_;rintro e' w' ⟨rfl,rfl⟩;go_wp2_with fail
     refine(Ll _ false HT.out _).mono ?_;rintro e' w' ⟨rfl,rfl⟩;go_wp2;exact Q1.out
    have HT:=I (show wi (nw+g) 0 1073741824=true by rw[DW];omega);have q1':nw+g<=1073741824:=by omega
    by_cases q2:64<=g/ev
    ·have Q1:=I (QB.out (by rw[HB.out,ATg];exact .inr q2))
     have q2':64*ev<=g:=tD.out.1 q2;clear q1 q2;go_wp2_with fail
     refine SH.out.mono ?_;rintro e' w' ⟨rfl,rfl⟩;go_wp2_with fail
     refine(Ll _ true HT.out _).mono ?_;rintro e' w' ⟨rfl,rfl⟩;go_wp2;exact Q1.out
    have q2':g<64*ev:=by have:=tD.out;omega
    have hJ:Hr g (t.L[k]'DG)=false:=by rw[HB.out,Bc];omega
    have qM:=I hJ;clear q1 q2 hJ;go_wp2_with fail
    refine SH.out.mono ?_;rintro e' w' ⟨rfl,rfl⟩;go_wp2_with fail
    refine(Ll _ true HT.out _).mono ?_;rintro e' w' ⟨rfl,rfl⟩;go_wp2_with fail
    have AAn:0<=nw/ev:=AS7 rc (by omega);have AAU:nw/ev<=(nw+g)/ev:=ATf (by omega) (by omega);have AAB:(nw+g)/ev<=nw+g:=AS8 _ (by omega);have AH1:IntKind.i64.wrap (nw+g)=nw+g:=by rw[Aj];omega
    have AGO:(nw+g).tdiv ev=(nw+g)/ev:=Cw (by omega);have PO:mf k<=1500:=by rw[i6.out];have:=Io HG.out GD.out;omega
    have zD:mf (k+1)<=1500:=by
     rw[i6.out];have:=Io (k:=k+1) HG.out (fun p hp=>by
      rw[Af DG]at hp;rcases Au.1 hp with hp|hp
      ·exact GD.out p hp
      ·rw[Ai.1 hp];exact qM.out)
     omega
    generalize (nw+g)/ev=qa at*;generalize nw/ev=qb at*;have TY:=AAd.out;have AGw:IntKind.i64.wrap qa=qa:=by rw[Aj];omega
    have AGe:IntKind.i64.wrap (qa-qb)=qa-qb:=by rw[Aj];omega
    have AIq:IntKind.i64.wrap ((mf k:Int)+(qa-qb))=(mf (k+1):Int):=by rw[Aj];omega
    clear TY AAn AAU AAB PO zD
    go_quiet ((go_at_call 143;exact Wq.out _))
    have K3:=I (zw.out (wo.drewN nq) (Ba AA nq) (fun _=>qM.out));go_wp2;exact⟨K3.out,by simp[RowKit.intOf];omega⟩
  ·obtain rfl:k=t.L.length:=by omega
   have Gg:∀p∈t.L,Hr g p=false:=fun p hp=>GD.out p (by rw[Ap];exact hp);have o9:=i6.out t.L.length;rw[Ap]at o9;by_cases hf:1000<mf t.L.length
   ·have Q1:=I (QE.out 10 wo BW.out (Vp g1 g2 Gg (by rw[<-o9];exact hf)) (by decide))
    clear Gg o9;have sy:(1000:Int)<(mf t.L.length:Int):=by omega
    generalize mf t.L.length=mm at*;go_wp2;exact Q1.out
   ·have HE:=I (Z8 g1 g2 Gg (by rw[<-o9];exact hf))
    have T0:=I (QS.out wo BW.out);have sy:(mf t.L.length:Int)<=1000:=by omega
    have dF:=I Gg;clear Gg o9;generalize mf t.L.length=mm at*;go_wp2_with fail
    go_loopw [9,80] (fun ov iv wr=>∃(k:Nat)(o:Value),k<=t.L.length/\iv=.int .i64 (k:Int)/\o=ov/\Ow w F W tb db (.slice An t.L.length cn) bs t g k o wr) (fun _ iv _=>t.L.length- (RowKit.intOf iv).toNat)
    case atStart=>exact⟨0,_,AM _,rfl,rfl,T0.out⟩
    case round=>
     obtain⟨k,ov,hk,rfl,rfl,oG⟩:=hrel;obtain⟨wp,rfl⟩:∃wp,wp=wr:=⟨_,rfl⟩;have TR:=I oG;obtain⟨F1,wv1,tO⟩:=oG;have TS:=I tO;obtain⟨Aw1,cw1,rfl⟩:=Cz TS.out.Nj.way.1;clear tO b0 b1 b2 T0;obtain⟨AHS,b0,b1,b2⟩:=TS.out.Nj.cells;by_cases DG:k<t.L.length
     ·have Tl:k<(t.mid g k).L.length:=by rw[DQ.Hg];exact DG
      have hb:k<bs.length:=by rw[H.out.len];exact DG
      have XD:=DQ.Vt t g k k DG AB;have Wd:=Gr TS.out.Nj (by rw[DQ.Hg];exact h5) (k:Int);rw[Oa Tl,XD]at Wd;have Ly:=I Wd;obtain⟨gn,uc,e1,Hc,Jw,Mm,hgF,c1⟩:=TS.out.Nj.at_ Tl;rw[DQ.Hg]at e1 Hc;simp only[Cf]at e1;obtain⟨rfl,-,rfl⟩:=e1;unfold maxLen at Jw;have vL:(0:Int)<=(k:Int):=by omega
      have oA:(k:Int)<(t.L.length:Int):=by omega
      have eI:=I (HG.out.Fo _ (AL DG));have HBF:=I (dF.out _ (AL DG));have Pn:=TS.out.Nj.node k hb Tl;rw[XD]at Pn;have kS:=I Pn;clear Pn XD Wd;cases Mn:(t.L[k]'DG).2 with
      |true=>
       have SH:=I (show Calls prog 64 #[.pointer (some ⟨tb,0,none⟩),.int .i64 (k:Int)] wp fun e W'=>e=.returned (.bool false)/\wp=W' by have:=Ly.out;rw[Mn]at this;exact this);have K3:=I (TR.out.skip DG Mn);clear Mn Ly;go_wp2_with fail
       refine SH.out.mono ?_;rintro e' w' ⟨rfl,rfl⟩;go_wp2;exact⟨⟨k+1,_,by omega,by simp,rfl,K3.out⟩,by simp[RowKit.intOf];omega⟩
      |false=>
       have SH:=I (show Calls prog 64 #[.pointer (some ⟨tb,0,none⟩),.int .i64 (k:Int)] wp fun e W'=>e=.returned (.bool true)/\wp=W' by have:=Ly.out;rw[Mn]at this;exact this);have wH:=I (show(t.L[k]'DG).1.D8 g=0 by have:=HBF.out;unfold Hr at this;simpa [Mn] using this);have Ua:=I Mn;clear Mn Ly;have T6:=I (show Calls prog 144 #[.pointer (some ⟨bs[k]'hb,0,none⟩),.int .i64 g] wp (fun e w'=>∃A1 c1 A2 c2,e=.returned (.tuple #[.slice A1 ((t.L[k]'DG).1.many g) c1,.slice A2 ((t.L[k]'DG).1.DP g).notes.length c2,.int .i64 0])/\w'.ownsRow wp.heap.size 9 1 (.slice A1 ((t.L[k]'DG).1.many g) c1) ((t.L[k]'DG).1.many g) (C7 (Ff (t.L[k]'DG).1.c (t.L[k]'DG).1.seq ((t.L[k]'DG).1.many g)))/\
        Vc w F W tb db (.slice (some ⟨gn,0,none⟩) t.L.length cn) bs t g k (DM F1 wp w' (20+k)) (.slice Aw1 (t.mid g k).way.length cw1) ov (.slice A2 ((t.L[k]'DG).1.DP g).notes.length c2) ((t.L[k]'DG).1.DP g).notes w' ((t.mid g k).L.set k (((t.L[k]'DG).1.DP g).tell,false)) (t.mid g k).way)from by
        obtain⟨_,_,_,_,_,hn⟩:=kS.out;refine(oU hn eI.out g wH.out).mono fun e w' hh=>?_;obtain⟨A1,c1,A2,c2,k1,k2,k3,k4,k5⟩:=hh;exact⟨A1,c1,A2,c2,k1,k2,TS.out.node h5 DG Ua.out k3 (C0.at_ (C0.grow k4)) k5⟩)
       have HMY:=I (show(t.L[k]'DG).1.many g<=100 by have:=gD eI.out g;unfold Dh.tkM at this;rw[AD wH.out]at this;exact this);have yn:=I (show((t.L[k]'DG).1.DP g).notes.length<=8 from Mi (eI.out.DP wH.out));have YE:=I (show(t.mid g k).way.length<=1500 by rw[TE];have:=Io (k:=k) HG.out (fun p hp=>dF.out p (Be hp));omega);have HML:=I (iB (k:=k) HG.out dF.out);have HE1:=I (show Ff (t.L[k]'DG).1.c (t.L[k]'DG).1.seq ((t.L[k]'DG).1.many g)=Ic g (t.L[k]'DG)by unfold Ic;rw[AC (by rw[Ua.out];decide)]);have HE2:=I (show((t.L[k]'DG).1.DP g).notes=GX g (t.L[k]'DG)by unfold GX;rw[AC (by rw[Ua.out];decide)])
       have HE3:=I (show(((t.L[k]'DG).1.DP g).tell,false)=KI g (t.L[k]'DG)by unfold KI;rw[AC (by rw[Ua.out];decide)]);have HE4:=I (ME (t.L[k]'DG).1.c (t.L[k]'DG).1.seq ((t.L[k]'DG).1.many g));have NV:k<5:=by omega
       clear kS wH HBF TR;generalize bs[k]'hb=b at*;generalize Ff (t.L[k]'DG).1.c (t.L[k]'DG).1.seq ((t.L[k]'DG).1.many g)=TT at*;generalize ((t.L[k]'DG).1.DP g).notes=NN at*;generalize ((t.L[k]'DG).1.DP g).tell=s1 at*;generalize (t.L[k]'DG).1.many g=mm1 at*;go_wp2_with fail
       refine SH.out.mono ?_;rintro e' w' ⟨rfl,rfl⟩;go_wp2_with fail
       refine T6.out.mono ?_;rintro e' w2 ⟨A1,d1,A2,d2,rfl,Et,Tf⟩;have TX:=I (Reads.DR Et);have MD:=I Tf;have MDL:=I (show((t.mid g k).L.set k (s1,false)).length<=5 by rw[ASl,DQ.Hg];exact h5);obtain⟨AIc,q0,q1,q2⟩:=Tf.Nj.cells;clear Et Tf c1 b0 b1 b2;go_wp2_with (at_builtin;refine Dd _ rfl _ _ 31 rfl 0 9 is0 (.string ByteArray.empty) 1 16 underlying31 his AAC AAF AAH rfl (by decide) _ (t.mid g k).way.length (C7 (t.mid g k).way) rfl MD.out.Nj.way.1 w2.heap.size A1 mm1 d1 (C7 TT) rfl TX.out (Iu TT) ?c1 ?c2 (AM _) ?_)
       case c1=>have:=YE.out;have:=HMY.out;unfold maxLen;omega
       case c2=>have:=YE.out;have:=HMY.out;omega
       intro wv3 w3 JN Nk DT;obtain⟨Aw3,cw3,rfl⟩:=Cz JN;obtain⟨hB3,F3,hM3⟩:=MD.out.way (T:=TT) MDL.out NV (by rw[HE4.out];exact JN) Nk DT;have AGt:=hB3.lt;have z3:=hB3.cell 2;have zf:=hB3.frozen 2;simp at z3;have M3:=I hM3;have NX:=I (Reads.DR hM3.nts);have WS:=I (hM3.gZ.kept.size);clear JN Nk DT hB3 hM3 q0 q1 q2;go_wp2_with (at_builtin;refine Dd _ rfl _ _ 112 rfl W.heap.size 173 in0 (.agg #[.string ByteArray.empty,.int .i64 0,.bool false]) 3 32 underlying112 fr nh ro d8 rfl (by decide) _ (t.Ho g k).length (Da (t.Ho g k)) rfl M3.out.out _ A2 NN.length d2 (Da NN) rfl NX.out (In NN) ?c3 ?c4 WS.out ?_)
       case c3=>have:=HML.out;have:=yn.out;unfold maxLen;omega
       case c4=>have:=HML.out;have:=yn.out;omega
       intro ov4 w4 Tp RV EL;have Df:=I (M3.out.app h5 DG Tp RV (EL.imp id (fun e=>by rw[e];simp[World.setCell])) HE1.out HE2.out HE3.out);clear Tp RV EL;go_wp2;exact⟨⟨k+1,_,by omega,by simp,rfl,Df.out⟩,by simp[RowKit.intOf];omega⟩
     ·obtain rfl:k=t.L.length:=by omega
      have Q1:=I (QF.out ov wp HE.out TR.out);go_wp2;exact Q1.out
theorem eo(h:Dj F W tb db nv wv bs t)(hC:EA w W F)(hg:Dt t)(g:Int):
 Calls prog 60 #[.pointer (some ⟨tb,0,none⟩),.int .i64 g] W (kL w F W tb (t.DP g) (t.Fb g) (t.D8 g)):=by
 by_cases ha:g<1\/1000<g
 ·have he:t.D8 g=1:=by unfold DQ.D8;rw[AD ha]
  exact(eQ g ha W).mono fun e W' ⟨k1,k2⟩=>by
   subst k1 k2;exact h.err hC hg.Er AA he (by decide)
 ·exact lm h hC hg g (by omega) (by omega)
end
structure Nt(F:Nat->Nat)(W:World)(tb db:Nat)(nv:Value)(bs:List Nat)(L:List Dh):Prop where
 DC:Nx F 6 W tb 120 #[nv,.map (some db),.slice none 0 0]
 Jp:Ns F 7 W 121 1 bs.length nv (IQ bs)
 Qk:EM prog 3 4 W db 0 (fun _=>false)
 YI:F db=8
 len:bs.length=L.length
 node:∀i (h:i<bs.length) (h':i<L.length),FJ (fun k=>F k=20+i) W (bs[i]'h) (L[i]'h')
section
variable{w W W' wr w1 w2 w3 w4:World}{F F':Nat->Nat}{P:Nat->Prop}{tb db b i k:Nat}{nv Oq:Value}{bs:List Nat}{L:List Dh}{l:List Dg}
theorem Nt.other(h:Nt F W tb db nv bs L)(hC:EA w W F)(m:DN P F W F' W')(hP:∀c,P c->¬((6<=c/\c<=9)\/(20<=c/\c<20+bs.length))):Nt F' W' tb db nv bs L:=by
 have hn:∀c,((6<=c/\c<=9)\/(20<=c/\c<20+bs.length))->¬P c:=fun c h1 h2=>hP c h2 h1;exact⟨m.DC hC (by omega) (hn 6 (.inl (by omega))) h.DC,m.row hC (by omega) (hn 7 (.inl (by omega))) h.Jp,m.marks (by rw[h.YI];exact hn 8 (.inl (by omega))) h.Qk,(m.Jj hC (by omega) (hn 8 (.inl (by omega)))).2 h.YI,h.len,
  fun i hi SJ=>m.hold hC (by omega) (hn (20+i) (.inr (by omega))) (h.node i hi SJ)⟩
theorem Nt.below(h:Nt F W tb db nv bs L)(hC:EA w W F)(hb:Below W.heap.size W W'):Nt F W' tb db nv bs L:=
 h.other hC (.below (P:=fun _=>False) hC hb) (fun _ h=>h.elim)
theorem Nt.cells(h:Nt F W tb db nv bs L):tb<W.heap.size/\W.cell? ⟨tb,0,none⟩=some nv:=⟨h.DC.1.lt,h.DC.1.cell 0⟩
theorem Nt.Pe{i:Nat}{s1:Dh}(h:Nt F W tb db nv bs L)(hC:EA w W F)(hi:i<L.length)(hk:Kept (fun k=>F k=20+i) W W')(hn:FJ (grow (fun k=>F k=20+i) W W') W' (bs[i]'(by rw[h.len];exact hi)) s1):
 Nt (DM F W W' (20+i)) W' tb db nv bs (L.set i s1):=by
 have m:=DN.DM hC hk;refine⟨m.DC hC (by omega) (by omega) h.DC,m.row hC (by omega) (by omega) h.Jp,m.marks (by have:=h.YI;omega) h.Qk,(m.Jj hC (by omega) (by omega)).2 h.YI,by simpa using h.len,fun j hj Mk=>?_⟩;by_cases e:j=i
 ·subst e
  have:FJ (fun k=>DM F W W' (20+j) k=20+j) W' (bs[j]'hj) s1:=hC.held hk (by omega) hn
  simpa using this
 ·have Py:j<L.length:=by simpa using Mk
  have:FJ (fun k=>DM F W W' (20+i) k=20+j) W' (bs[j]'hj) (L[j]'Py):=m.hold hC (c':=20+j) (by omega) (by omega) (h.node j hj Py)
  simpa [CJ,Ne.symm e] using this
theorem Nt.push{c:Dg}(h:Nt F W tb db nv bs L)(hC:EA w W F)(ZI:bs.length<10)(hb:W.heap.size<=b)(hn:FJ (· =b) w2 b (Dh.start c))(FI:Below W.heap.size W w2)(DT:Below w2.heap.size w2 w3)
 (ho:w4.ownsRow 0 121 1 Oq (bs.length+1) (IQ bs++IQ [b])) (hg:w3.grownBy w4 nv.ownBlock) (hx:Oq.ownBlock=nv.ownBlock\/Oq.ownBlock=some w3.heap.size):
 ∃F',EA w (w4.setCell ⟨tb,0,none⟩ Oq) F'/\DN (fun c=>c=6\/c=7\/c=20+bs.length) F W F' (w4.setCell ⟨tb,0,none⟩ Oq)/\Nt F' (w4.setCell ⟨tb,0,none⟩ Oq) tb db Oq (bs++[b]) (L++[Dh.start c]):=by
 have k2:Kept (fun k=>F k=20+bs.length) W w2:=.DU FI;have mA:=DN.DM hC k2;have cA:=hC.DM (by omega) k2;have DG:b<w2.heap.size:=FJ.dJ hn b rfl;have hA:=h.other hC mA (fun c hc=>by omega);have nA:FJ (fun k=>DM F W w2 (20+bs.length) k=20+bs.length) w2 b (Dh.start c):=Fs.wide hn (fun k e=>by rw[e];exact FV hb DG) (fun k e=>cA.hi k (by rw[e];omega));generalize DM F W w2 (20+bs.length)=G at*;have m0:DN (fun c=>c=7) G w2 G w3:=DN.below cA DT;have SV:=cA.below DT;have hnF:∀x,nv.ownBlock=some x->G x=7:=hA.Jp.2;have k4:Kept (fun x=>G x=7) w3 w4:=(AH _ _).grown hg (fun x e=>.inl (hnF x e));have m4:=DN.DM SV k4;have c4:=SV.DM (by decide) k4
 have m:DN (fun c=>c=7) G w2 (DM G w3 w4 7) w4:=m0.trans m4;have Eg:Ns (DM G w3 w4 7) 7 w4 121 1 (bs.length+1) Oq (IQ bs++IQ [b]):=⟨ho,fun x e=>by
  have hl:=(ho.lt x e).2;rcases hx with e2|e2
  ·rw[e2]at e
   exact Hm (hnF x e)
  ·rw[e2]at e
   injection e with e
   exact FV (by omega) hl⟩
 have C6:=m.DC cA (c':=6) (by decide) (by decide) hA.DC;have MR:Kept (fun k=>DM G w3 w4 7 k=6) w4 (w4.setCell ⟨tb,0,none⟩ Oq):=(AH (fun k=>DM G w3 w4 7 k=6) _).setCell (a:=⟨tb,0,none⟩) (.inl C6.2) _;have ER:(w4.setCell ⟨tb,0,none⟩ Oq).heap.size=w4.heap.size:=by simp[World.setCell]
 have m2:DN (fun x=>x=6) (DM G w3 w4 7) w4 (DM G w3 w4 7) (w4.setCell ⟨tb,0,none⟩ Oq):=⟨MR,fun _ _=>rfl,fun k hl h0=>by have:=c4.hi k h0;omega⟩;have hap:IQ (bs++[b])=IQ bs++IQ [b]:=by unfold IQ;rw[BP]
 have f4:DM G w3 w4 7 db=8:=(m.Jj cA (by decide) (by decide)).2 hA.YI;refine⟨_,⟨c4.lo,fun k hk=>by rw[ER];exact c4.hi k hk,c4.DI.trans (MR.below (fun k e=>c4.lo k (by rw[e];decide)) c4.DI.size)⟩,(mA.mono (fun c hc=>.inr (.inr hc))).trans ((m.mono (fun c hc=>.inr (.inl hc))).trans (m2.mono (fun c hc=>.inl hc))),⟨C6.1.De 0 Oq,C6.2⟩,?_,m2.marks (by omega) (m.marks (by have:=hA.YI;omega) hA.Qk),f4,by simp[h.len],fun i hi SJ=>?_⟩
 ·rw[hap,AN]
  exact m2.row c4 (by decide) (by decide) Eg
 ·by_cases e:i<bs.length
  ·have ay:i<L.length:=by rw[<-h.len];exact e
   have:FJ (fun k=>DM G w3 w4 7 k=20+i) (w4.setCell ⟨tb,0,none⟩ Oq) (bs[i]'e) (L[i]'ay):=m2.hold c4 (by omega) (by omega) (m.hold cA (c':=20+i) (by omega) (by omega) (hA.node i e ay))
   simpa [AUY,e,ay] using this
  ·have zp:i=bs.length:=by simp at hi;omega
   subst zp;have:FJ (fun k=>DM G w3 w4 7 k=20+bs.length) (w4.setCell ⟨tb,0,none⟩ Oq) b (Dh.start c):=m2.hold c4 (by omega) (by omega) (m.hold cA (c':=20+bs.length) (by omega) (by omega) nA)
   simpa [h.len] using this
theorem cR(l:List Dg)(f:Dg->Dh):JJ (l.map fun c=>(f c,false))=0:=by
 induction l with
 |nil=>rfl
 |cons c l ih=>simp[JJ,ih]
theorem bC(l:List Dg)(f:Dg->Dh):Jl (l.map fun c=>(f c,false))=fun _=>false:=by
 funext q
 unfold Jl;split
 ·next i=>
  by_cases h0:0<=i
  ·simp only[h0,decide_true,Bool.true_and,AS4]
   rw[ATJ];cases l[i.toNat]? <;>rfl
  ·simp[h0]
 ·rfl
theorem Nt.done(h:Nt F W tb db nv bs L)(hL:L.length=l.length)(ha:∀j (hj:j<L.length) (Mk:j<l.length),L[j]'hj=Ee l (Dh.start (l[j]'Mk))):Dj F W tb db nv (.slice none 0 0) bs (DQ.start l):=by
 have e1:(DQ.start l).L.length=l.length:=by simp[DQ.start]
 refine⟨h.DC,by rw[e1,<-hL,<-h.len];exact h.Jp,?_,h.YI,⟨AX _ _ _ _,fun k hk=>by cases hk⟩,by rw[e1,h.len,hL],fun i hi SJ=>?_⟩
 ·have q1:JJ (DQ.start l).L=0:=cR l _
  have q2:Jl (DQ.start l).L=fun _=>false:=bC l _;rw[q1,q2];exact h.Qk
 ·have ay:i<L.length:=by rw[<-h.len];exact hi
  have zp:i<l.length:=by rw[<-hL];exact ay
  have:=h.node i hi ay;rw[ha i ay zp]at this
  simpa [DQ.start] using this
def Nf(w:World)(l:List Dg)(tb db k:Nat)(wr:World):Prop:=
 ∃F nv bs,Nv l k/\EA w wr F/\DN Fl (fun _=>0) w F wr/\Nt F wr tb db nv bs ((l.take k).map Dh.start)
def IU(w:World)(l:List Dg)(tb db:Nat)(nv:Value)(bs:List Nat)(i k:Nat)(wr:World):Prop:=
 ∃F L,EA w wr F/\DN Fl (fun _=>0) w F wr/\Nt F wr tb db nv bs L/\L.length=l.length/\∀j (hj:j<L.length) (Mk:j<l.length),L[j]'hj=bz l i k j (l[j]'Mk)
theorem Nf.start(w:World)(l:List Dg):Nf w l (w.heap.size+1) w.heap.size 0 ((w.alloc (.map #[] 0)).alloc (.cells #[.slice none 0 0,.map (some w.heap.size),.slice none 0 0] 120)):=by
 have hb:Below w.heap.size w ((w.alloc (.map #[] 0)).alloc (.cells #[.slice none 0 0,.map (some w.heap.size),.slice none 0 0] 120)):=Below.cz (Below.cz AA);have hm:EM prog 3 4 (w.alloc (.map #[] 0)) w.heap.size 0 (fun _=>false):=EM.made w;refine⟨fun k=>if k=w.heap.size then 8 else if k=w.heap.size+1 then 6 else 0,.slice none 0 0,[],Nv.zero l,⟨fun k hk=>?_,fun k hk=>?_,hb⟩,⟨.DU hb,fun k hk=>?_,fun k hk h0=>?_⟩,⟨o5 _ _ _ _,?_⟩,⟨AX _ _ _ _,fun k hk=>by cases hk⟩,hm.below (Below.cz AA),AD rfl,rfl,fun i hi=>by simp at hi⟩
 ·try dsimp only at hk
  split at hk
  ·omega
  ·split at hk
   ·omega
   ·exact absurd rfl hk
 ·try dsimp only at hk
  have hs:((w.alloc (.map #[] 0)).alloc (.cells #[.slice none 0 0,.map (some w.heap.size),.slice none 0 0] 120)).heap.size=w.heap.size+2:=by simp
  rw[hs];split at hk
  ·omega
  ·split at hk
   ·omega
   ·exact absurd rfl hk
 ·try dsimp only
  rw[AC (by omega),AC (by omega)]
 ·try dsimp only
  unfold Fl;split
  ·omega
  ·split
   ·omega
   ·next e1 e2=>exact absurd (by rw[AC e1,AC e2]) h0
 ·simp
theorem Nf.below(h:Nf w l tb db k wr)(hb:Below wr.heap.size wr w1):Nf w l tb db k w1:=by
 obtain⟨F,nv,bs,h1,h2,h3,h4⟩:=h;exact⟨F,nv,bs,h1,h2.below hb,h3.trans (.below h2 hb),h4.below h2 hb⟩
theorem Nf.DI(h:Nf w l tb db k wr):Below w.heap.size w wr:=by
 obtain⟨F,nv,bs,h1,h2,_⟩:=h;exact h2.DI
theorem IU.DI(h:IU w l tb db nv bs i k wr):Below w.heap.size w wr:=by
 obtain⟨F,L,h1,_⟩:=h;exact h1.DI
theorem IU.below(h:IU w l tb db nv bs i k wr)(hb:Below wr.heap.size wr w1):IU w l tb db nv bs i k w1:=by
 obtain⟨F,L,h2,h3,h4,h5⟩:=h;exact⟨F,L,h2.below hb,h3.trans (.below h2 hb),h4.below h2 hb,h5⟩
theorem Nf.fin(h:Nf w l tb db l.length wr):∃nv bs,qP l=0/\bs.length=l.length/\(∀c∈l,IX c=0)/\IU w l tb db nv bs 0 0 wr/\∃F,Ns F 7 wr 121 1 bs.length nv (IQ bs):=by
 obtain⟨F,nv,bs,h1,h2,h3,h4⟩:=h;have hlen:bs.length=l.length:=by rw[h4.len];simp
 refine⟨nv,bs,h1.all,hlen,fun c hc=>h1.Fo c (by rw[Ap];exact hc),⟨F,_,h2,h3,h4,by simp,fun j hj Mk=>?_⟩,F,h4.Jp⟩;rw[bf];simp
theorem IU.outer(h:IU w l tb db nv bs i l.length wr):IU w l tb db nv bs (i+1) 0 wr:=by
 obtain⟨F,L,h2,h3,h4,h5,h6⟩:=h;exact⟨F,L,h2,h3,h4,h5,fun j hj Mk=>by rw[h6 j hj Mk,aY]⟩
theorem IU.si(h:IU w l tb db nv bs i k wr):tb<wr.heap.size/\wr.cell? ⟨tb,0,none⟩=some nv:=by
 obtain⟨F,L,h2,h3,h4,_⟩:=h;exact h4.cells
theorem IU.ptr(h:IU w l tb db nv bs i k wr)(hi:i<bs.length):∃gn cn,nv=.slice (some ⟨gn,0,none⟩) bs.length cn/\bs.length<=cn/\cn<=maxLen/\gn<wr.heap.size/\wr.cell? ⟨gn,i,none⟩=some (.pointer (some ⟨bs[i]'hi,0,none⟩)):=by
 obtain⟨F,L,h2,h3,h4,h5,h6⟩:=h;obtain⟨gn,cn,rfl,-,Mm,h1,h2,hc⟩:=Eu h4.Jp.1 (by omega);exact⟨gn,cn,rfl,h1,h2,Mm,hc i _ (by simp[IQ,hi])⟩
theorem IU.node(h:IU w l tb db nv bs i k wr)(ZI:bs.length=l.length)(h5:l.length<=5)(jF:∀c∈l,IX c=0)(hi:i<bs.length)(hk:k<l.length)(hid:(l[k]'hk).1.size<=maxLen):
 Calls prog 142 #[.pointer (some ⟨bs[i]'hi,0,none⟩),.string (l[k]'hk).1,.int .i64 (Eb (l[k]'hk))] wr fun e W'=>(∃er,e=.returned (.int .i64 er))/\IU w l tb db nv bs i (k+1) W':=by
 obtain⟨F,L,h2,h3,h4,h6,h7⟩:=h;have ml:i<L.length:=by rw[h6,<-ZI];exact hi
 have WY:i<l.length:=by rw[<-ZI];exact hi
 obtain⟨_,_,_,_,_,hn⟩:=h4.node i hi ml;have hg:Di (L[i]'ml):=by
  rw[h7 i ml WY];unfold bz;rw[AC (by omega),AD rfl];exact(Di.start (jF _ (AL WY))).Ee _
 refine(dz hn hg _ hid _).mono fun e W' ⟨k1,k2,k3⟩=>⟨⟨_,k1⟩,?_⟩;refine⟨DM F wr W' (20+i),L.set i _,h2.DM (by omega) k3,h3.trans ((DN.DM h2 k3).mono (fun c hc=>by unfold Fl;omega)),h4.Pe h2 ml k3 k2,by simpa using h6,fun j hj Mk=>?_⟩;have hjL:j<L.length:=by simpa using hj
 simp only[CJ];by_cases e:i=j
 ·subst e
  rw[AD rfl,h7 i ml WY];unfold bz;rw[AC (by omega),AD rfl,AC (by omega),AD rfl,MN l k hk]
 ·rw[AC e,h7 j hjL Mk]
  unfold bz;by_cases h1:j<i
  ·rw[AD h1,AD h1]
  ·rw[AC h1,AC h1,AC (fun h=>e h.symm),AC (fun h=>e h.symm)]
theorem IU.done(h:IU w l tb db nv bs l.length 0 wr):J5 w (fun _=>0) w tb (DQ.start l) wr:=by
 obtain⟨F,L,h2,h3,h4,h5,h6⟩:=h;refine⟨F,h2,h3,_,_,_,_,h4.done h5 (fun j hj Mk=>?_)⟩;rw[h6 j hj Mk];unfold bz;rw[AD (by omega)]
end
def Sr(w:World)(l:List Dg)(e:Ending)(W':World):Prop:=(Ev l=0/\∃tb,e=.returned (.tuple #[.pointer (some ⟨tb,0,none⟩),.int .i64 0])/\J5 w (fun _=>0) w tb (DQ.start l) W')\/(Ev l≠0/\e=.returned (.tuple #[.pointer none,.int .i64 (Ev l)])/\Below w.heap.size w W')
theorem Wt(s:ByteArray)(i v k l:Int)(e0:Int)(he:IX (s,i,v,k,l)=e0)(w:World):
 Calls prog 141 #[.agg #[.string s,.int .i64 i,.int .i64 v,.int .i64 k,.int .i64 l]] w fun e w'=>e=.returned (.int .i64 e0)/\Below w.heap.size w w':=by
 subst he;exact p5 (s,i,v,k,l) w
theorem Xm:(Tryz.prog.info? 121).map (fun i=>(i.zero,i.size,i.bytes))=some (some (.pointer none),1,8):=by kernel_rfl
theorem kA(w:World)(o:Obj)(e:TypeId)(v:Value):Reads ((w.alloc o).alloc (.cells #[v] e)) (w.heap.size+2) 1 (some ⟨w.heap.size+1,0,none⟩) 1 [v]:=by
 have h:=QQ (w.alloc o) e v;have hs:(w.alloc o).heap.size=w.heap.size+1:=by simp
 rw[hs]at h;exact h
theorem kW{wq:World}{ops:Array Oper}{o:Oper}{a:Act}{K:Act->World->Prop}{Q:Exit->Act->World->Prop}{E:Prop}(La:o.guard=none)(s x:Operand)
 (ho:o.op=.call {callee:=.builtin .append,args:=#[s,x],argTypes:=#[117,117]}) (N:Obj) (An:Option Addr) (cn:Nat) (bs:List Nat) (hs:a.eval s=.slice An bs.length cn)
 (DL:wq.ownsRow 0 121 1 (.slice An bs.length cn) bs.length (IQ bs)) (c:Nat) (hx:a.eval x=.slice (some ⟨wq.heap.size+1,0,none⟩) 1 c) (ZI:bs.length<=10)
 (h:∀A9 c9 w9,w9.ownsRow 0 121 1 (.slice A9 (bs.length+1) c9) (bs.length+1) (IQ bs++IQ [wq.heap.size])->(((wq.alloc N).alloc (.cells #[.pointer (some ⟨wq.heap.size,0,none⟩)] 121)).drew).grownBy w9 (Value.slice An bs.length cn).ownBlock->Hid ((Value.slice A9 (bs.length+1) c9).ownBlock=(Value.slice An bs.length cn).ownBlock\/(Value.slice A9 (bs.length+1) c9).ownBlock=some (((wq.alloc N).alloc (.cells #[.pointer (some ⟨wq.heap.size,0,none⟩)] 121)).drew).heap.size)->K (a.put o.dst (.slice A9 (bs.length+1) c9)) w9):
 if Region.wanted o (yielded ops a.tmps)=true then Oper.wp prog o a (((wq.alloc N).alloc (.cells #[.pointer (some ⟨wq.heap.size,0,none⟩)] 121)).drew) K Q else E:=by
 obtain⟨i0,Pr,Fq,FZ,Fe⟩:=AO Xm;refine XJ La s x _ ho 0 121 i0 (.pointer none) 1 8 underlying117 Pr Fq FZ Fe rfl (by decide) _ _ _ hs (((DL.alloc _).alloc _).drew) (wq.heap.size+2) _ 1 c [.pointer (some ⟨wq.heap.size,0,none⟩)] hx (kA wq N 121 _).drew gr (by unfold maxLen;omega) (by omega) (AM _) ?_;intro v9 w9 Db QC eO;obtain⟨A9,c9,rfl⟩:=Cz Db;exact h A9 c9 w9 Db QC (I eO)
theorem Z7(A:Option Addr)(c n:Nat)(h:5<n)(w:World):
 Calls prog 58 #[.slice A n c] w fun e w'=>e=.returned (.tuple #[.pointer none,.int .i64 2])/\w=w':=by
 go_in;go_wp2
 go_ret2
 exact⟨rfl,rfl⟩
theorem r8(A:Option Addr)(c n:Nat)(l:List Dg)(hl:l.length=n)(h5:n<=5)(hc:n<=c/\c<=maxLen)(hs:∀c∈l,c.1.size<=maxLen)(w:World)(hr:Reads w w.heap.size 5 A n (Du l)):
 Calls prog 58 #[.slice A n c] w (Sr w l):=by
 obtain⟨ip0,hip,AEL,ACc,ADj⟩:=AO Xm;have HL:=I hl;have HR:=I hr;have hn5:(n:Int)<=5:=by omega
 have N8:decide (5<n)=false:=by rw[Bc];omega
 have GV:decide (5<(n:Int))=false:=by rw[Bc];omega
 obtain⟨Qi,Rm⟩:=hc;unfold maxLen at Rm;have oz:=I (show Ev l=Gv [] l by unfold Ev;rw[AC (by omega)]);have Nc:= @run_makeMap prog;have R0:=I (Nf.start w l);clear hl hr;go_in;go_wp2_with fail
 obtain⟨db,tC⟩:∃db,w.heap.size=db:=⟨_,rfl⟩;obtain⟨tb,QX⟩:∃tb,db+1=tb:=⟨_,rfl⟩;rw[tC]at R0;rw[QX]at R0;simp only[tC];simp only[QX];clear tC QX;go_loopw [22] (fun iv wr=>∃k:Nat,k<=n/\iv=.int .i64 (k:Int)/\Nf w l tb db k wr) (fun iv _=>n- (RowKit.intOf iv).toNat)
 case atStart=>exact⟨0,AM _,rfl,R0.out⟩
 case round=>
  obtain⟨k,hk,rfl,hrel⟩:=hrel;obtain⟨wo,rfl⟩:∃wo,wo=wr:=⟨_,rfl⟩;have RL:=I hrel;clear hrel R0;by_cases DG:k<n
  ·have ES:k<l.length:=by rw[HL.out];exact DG
   obtain⟨ba,off,rfl,tJ,EO⟩:=OG (HR.out.below RL.out.DI AB) HL.out (by omega);obtain⟨c0,c1,c2,c3,c4⟩:=EO k ES;have hbo:ba<wo.heap.size:=AJ tJ RL.out.DI.size;have ey:=I (hs _ (AL ES));have CK0:=I (show Nv l k by obtain⟨_,_,_,h,_⟩:=RL.out;exact h);have CKb:=I (CK0.out.bad ES);have CKt:=I (CK0.out.xY ES);have CKn:=I (CK0.out.next ES);have T6:=I (Af ES);have yc:=I (fun j (hj:j<l.length)=>(EO j hj).1);generalize l[k]'ES=cc at*;obtain⟨cs,ci,ce,cp,cl⟩:=cc;simp only[]at c0 c1 c2 c3 c4 ey;have EX:=I ((AI wo).lay #[.string cs,.int .i64 ci,.int .i64 ce,.int .i64 cp,.int .i64 cl] 108)
   have RX:=I (RL.out.below EX.out.DI);clear EO;by_cases he:IX (cs,ci,ce,cp,cl)=0
   ·have HE:=I he
    have vL:(0:Int)<=(k:Int):=by omega
    have oA:(k:Int)<=(c:Int):=by omega
    clear he CKb;go_wp2_with fail
    refine(Wt cs ci ce cp cl 0 HE.out _).mono ?_;rintro e' w2 ⟨rfl,DK⟩;have E2:=I (EX.out.below DK);have R2:=I (RX.out.below DK);clear DK c0 c1 c2 c3 c4;go_wp2_with fail
    go_loopw [36] (fun jv wr=>∃j:Nat,j<=k/\jv=.int .i64 (j:Int)/\((l.take j).map Prod.fst).any (fun x=>decide (x=cs))=false/\Below w2.heap.size w2 wr) (fun jv _=>k- (RowKit.intOf jv).toNat)
    case atStart=>exact⟨0,AM _,rfl,rfl,AA⟩
    case round=>
     obtain⟨j,hj,rfl,Ix,hbq⟩:=hrel;obtain⟨wq,rfl⟩:∃wq,wq=wr:=⟨_,rfl⟩;have NO:=I Ix;have BQ:=I hbq;have EQ:=I (E2.out.below hbq);have RQ:=I (R2.out.below hbq);clear Ix hbq;by_cases VD:j<k
     ·have IJ:j<l.length:=by omega
      obtain⟨ba2,ANm,e2,AHO,AD5⟩:=OG (HR.out.below RQ.out.DI AB) HL.out (by omega);simp only[ATH,ATK]at e2;obtain⟨rfl,rfl,-⟩:=e2;obtain⟨c0,c1,c2,c3,c4⟩:=AD5 j IJ;have AMB:ba<wq.heap.size:=AJ AHO RQ.out.DI.size;have HTJ:=I (Af IJ);have HJM:=I (show l[j]'IJ∈l.take k from List.mem_take_iff_getElem.2 ⟨j,by omega,rfl⟩);generalize l[j]'IJ=dd at*;obtain⟨ds,di,de,dp,dl⟩:=dd;simp only[]at c0 c1 c2 c3 c4;have EY:=I (EQ.out.lay #[.string ds,.int .i64 di,.int .i64 de,.int .i64 dp,.int .i64 dl] 108);have y0:=EY.out.tl.hd.cell 0;have hy0:=EY.out.tl.hd.lt;have BY:=I (show Below w2.heap.size w2 (wq.alloc (.cells #[.string ds,.int .i64 di,.int .i64 de,.int .i64 dp,.int .i64 dl] 108))from Below.cz BQ.out)
      simp at y0;have ij0:(0:Int)<=(j:Int):=by omega
      have ij1:(j:Int)<(k:Int):=by omega
      clear AD5;cases hq:mE ds cs with
      |true=>
       have h3:(ds.toList==cs.toList)=true:=hq;have heq:ds=cs:=(PU ds cs).1 hq;have Q5:=I (show Ev l=5 by
        rw[oz.out];exact CKt.out HE.out (ATE.2 ⟨ds,BD.2 ⟨_,HJM.out,rfl⟩,by simp[heq]⟩))
       have Df:=I (show∀W',Below w2.heap.size w2 W'->Sr w l (.returned (.tuple #[.pointer none,.int .i64 5])) W' from fun W' hb=>.inr ⟨by rw[Q5.out];decide,by rw[Q5.out],Below.C9 R2.out.DI hb⟩);clear hq heq;go_wp2
       go_ret2
       exact Df.out _ BY.out
      |false=>
       have h3:(ds.toList==cs.toList)=false:=hq;have GI:¬ds=cs:=fun e=>by have:=(PU ds cs).2 e;rw[hq]at this;cases this
       have NX:=I (show((l.take (j+1)).map Prod.fst).any (fun x=>decide (x=cs))=false by
        rw[HTJ.out,BP,ATR,NO.out];simp[GI])
       clear hq GI;go_wp2;exact⟨⟨j+1,by omega,by simp,NX.out,BY.out⟩,by simp[RowKit.intOf];omega⟩
     ·obtain rfl:j=k:=by omega
      have CKN:=I (CKn.out HE.out NO.out);obtain⟨F,nv,bs,-,hC0,hM0,tA⟩:=RL.out;have Mz:bs.length=j:=by rw[tA.len,Ak,AV];omega
      obtain⟨An,cn,rfl⟩:=Cz tA.Jp.1;have hC:=hC0.below EQ.out.DI;have hM:=hM0.trans (.below hC0 EQ.out.DI);have hT:=tA.below hC0 EQ.out.DI;have HT:=I hT;have WT:=I hC;have gy:=I hM;have Nh:=I Mz;obtain⟨QX,z0⟩:=hT.cells;have HTB:=I (show¬(Value.slice An bs.length cn).ownBlock=some tb from fun e=>by have:=hT.Jp.2 _ e;have:=hT.DC.2;omega);have uv:=I (show¬(Value.slice An bs.length cn).ownBlock=some wo.heap.size from fun e=>by have:=(tA.Jp.1.lt _ e).2;omega);have AIX:=I (show bs.length<=10 by omega);have kS:=I hT.Jp.1;have HXB:=I EQ.out.hd;have hbt:=hT.DC.1;have eR:=EQ.out.hd.lt;have HS:=I (show∀w',Kept (fun x=>(Value.slice An bs.length cn).ownBlock=some x) wq w'->(Kept (fun x=>(Value.slice An bs.length cn).ownBlock=some x) wq w'/\w'.cell? ⟨tb,0,none⟩=some (.slice An bs.length cn)/\w'.cell? ⟨wo.heap.size,0,none⟩=some (.string cs)/\w'.cell? ⟨wo.heap.size,1,none⟩=some (.int .i64 ci)/\w'.cell? ⟨wo.heap.size,2,none⟩=some (.int .i64 ce)/\w'.cell? ⟨wo.heap.size,3,none⟩=some (.int .i64 cp)/\w'.cell? ⟨wo.heap.size,4,none⟩=some (.int .i64 cl))from fun w' hk=>
       ⟨hk,hk.cell z0 HTB.out,hk.cell (HXB.out.cell 0) uv.out,hk.cell (HXB.out.cell 1) uv.out,hk.cell (HXB.out.cell 2) uv.out,hk.cell (HXB.out.cell 3) uv.out,hk.cell (HXB.out.cell 4) uv.out⟩)
      have HFZ:=I (show∀w',Kept (fun x=>(Value.slice An bs.length cn).ownBlock=some x) wq w'->w'.frozen? ⟨tb,0,none⟩=false/\tb<w'.heap.size from fun w' hk=>⟨(hk.DC hbt HTB.out).frozen 0,AJ QX hk.size⟩);clear hC hM hT Mz hC0 hM0 tA hbt z0
      go_upto_region 16 with fail
      obtain⟨-,z0,x0,x1,x2,x3,x4⟩:=HS.out wq (AH _ _);go_region_law ((refine kW (by rfl) _ _ (by rfl) _ An cn bs (by rfl) kS.out 1 (by rfl) AIX.out ?_;intro A9 c9 w9 Db QC BK9;have sd:Kept (fun x=>(Value.slice An bs.length cn).ownBlock=some x) wq w9:=Kept.grown (((AH _ _).alloc _).alloc _).drew QC (fun k hk=>.inl hk);obtain⟨zf9,zl9⟩:=HFZ.out w9 sd;obtain⟨-,z9,-⟩:=HS.out w9 sd))
      all_goals
       obtain⟨F',p1,p2,p3⟩:=HT.out.push WT.out (by have:=Nh.out;omega) AB (ky ((DJ.new wq 170 (Dw (cs,ci,ce,cp,cl) 0 0 (.slice none 0 0) (.slice none 0 0))))) (Below.cz AA) (AE (Below.cz AA)) Db QC BK9.out;have Df:=I (show Nf w l tb db (j+1) (w9.setCell ⟨tb,0,none⟩ (.slice A9 (bs.length+1) c9))from⟨F',_,bs++[wq.heap.size],CKN.out,p1,gy.out.trans (p2.mono (fun c hc=>by have:=Nh.out;unfold Fl;omega)),by rw[T6.out,BP];exact p3⟩);clear p1 p2 p3 Db QC BK9 sd z9 zf9;go_wp2;exact⟨⟨j+1,by omega,by simp,Df.out⟩,by simp[RowKit.intOf];omega⟩
   ·obtain⟨e0,Rs⟩:∃e0,IX (cs,ci,ce,cp,cl)=e0:=⟨_,rfl⟩
    have Q1:=I ((CKb.out he).trans Rs);rw[Rs]at he;have HE:=I Rs;have HZ:=I he;have FZ:(e0 != 0)=true:=by simpa using he
    clear he Rs;go_wp2_with fail
    refine(Wt cs ci ce cp cl e0 HE.out _).mono ?_;rintro e' w2 ⟨rfl,DK⟩;have Df:=I (show Sr w l (.returned (.tuple #[.pointer none,.int .i64 e0])) w2 from .inr ⟨by rw[oz.out,Q1.out];exact HZ.out,by rw[oz.out,Q1.out],Below.C9 RX.out.DI DK⟩);clear DK;go_wp2
    go_ret2
    exact Df.out
  ·obtain rfl:k=n:=by omega
   have Yc:=HL.out;subst Yc;obtain⟨nv,bs,GI,ZI,jF,h3,F0,hnr⟩:=RL.out.fin;obtain⟨An,cn,rfl⟩:=Cz hnr.1;have L0:=I h3;have HNE:=I GI;have HGO:=I jF;have mQ:=I ZI;clear GI jF hnr h3 ZI;have AIw:(bs.length:Int)<=5:=by have:=mQ.out;omega
   obtain⟨QX,z1⟩:=L0.out.si;go_wp2_with fail
   go_loopw [64] (fun iv wr=>∃i:Nat,i<=l.length/\iv=.int .i64 (i:Int)/\IU w l tb db (.slice An bs.length cn) bs i 0 wr) (fun iv _=>l.length- (RowKit.intOf iv).toNat)
   case atStart=>exact⟨0,AM _,rfl,L0.out⟩
   case round=>
    obtain⟨i,hi,rfl,hrel⟩:=hrel;obtain⟨wp,rfl⟩:∃wp,wp=wr:=⟨_,rfl⟩;have LP:=I hrel;clear hrel L0 z1;by_cases WY:i<l.length
    ·have hib:i<bs.length:=by rw[mQ.out];exact WY
     obtain⟨gn,uc,e1,Hc,Jw,Mm,g0⟩:=LP.out.ptr hib;simp only[Cf]at e1;obtain⟨rfl,-,rfl⟩:=e1;unfold maxLen at Jw;have ii0:(0:Int)<=(i:Int):=by omega
     have ii1:(i:Int)<(bs.length:Int):=by omega
     have kS:=I (fun k W' (hk:k<l.length) (hL:IU w l tb db (.slice (some ⟨gn,0,none⟩) bs.length cn) bs i k W')=>hL.node mQ.out h5 HGO.out hib hk (hs _ (AL hk)));generalize bs[i]'hib=b at*;go_wp2_with fail
     go_loopw [70] (fun kv wr=>∃k:Nat,k<=l.length/\kv=.int .i64 (k:Int)/\IU w l tb db (.slice (some ⟨gn,0,none⟩) bs.length cn) bs i k wr) (fun kv _=>l.length- (RowKit.intOf kv).toNat)
     case atStart=>exact⟨0,AM _,rfl,LP.out⟩
     case round=>
      obtain⟨k,hk,rfl,hrel⟩:=hrel;obtain⟨wq,rfl⟩:∃wq,wq=wr:=⟨_,rfl⟩;have LQ:=I hrel;clear hrel g0;by_cases ES:k<l.length
      ·obtain⟨ba,off,rfl,tJ,EO⟩:=OG (HR.out.below LQ.out.DI AB) rfl (by omega)
       obtain⟨c0,c1,c2,c3,c4⟩:=EO k ES;have hbo:ba<wq.heap.size:=AJ tJ LQ.out.DI.size;have iP:=I (fun W' hL=>kS.out k W' ES hL);generalize l[k]'ES=cc at*;obtain⟨cs,ci,ce,cp,cl⟩:=cc;simp only[]at c0 c1 c2 c3 c4 iP;have EX:=I ((AI wq).lay #[.string cs,.int .i64 ci,.int .i64 ce,.int .i64 cp,.int .i64 cl] 108);have LX:=I (LQ.out.below EX.out.DI);have oA:(k:Int)<(l.length:Int):=by omega
       clear EO;go_wp2_with fail
       refine(iP.out _ LX.out).mono ?_;rintro e' w2 ⟨⟨er,rfl⟩,NI⟩;have Df:=I NI;clear NI;go_wp2;exact⟨⟨k+1,by omega,by simp,Df.out⟩,by simp[RowKit.intOf];omega⟩
      ·obtain rfl:k=l.length:=by omega
       have Df:=I LQ.out.outer;go_wp2;exact⟨⟨i+1,by omega,by simp,Df.out⟩,by simp[RowKit.intOf];omega⟩
    ·obtain rfl:i=l.length:=by omega
     have FI:(bs.length:Int)<=(l.length:Int):=by have:=mQ.out;omega
     have Df:=I (show Sr w l (.returned (.tuple #[.pointer (some ⟨tb,0,none⟩),.int .i64 0])) wp from .inl ⟨oz.out.trans HNE.out,tb,rfl,LP.out.done⟩);go_wp2
     go_ret2
     exact Df.out
theorem Ww(A:Option Addr)(c:Nat)(l:List Dg)(hc:l.length<=c/\c<=maxLen)(hs:∀c∈l,c.1.size<=maxLen)(w:World)(hr:Reads w w.heap.size 5 A l.length (Du l)):
 Calls prog 58 #[.slice A l.length c] w (Sr w l):=by
 by_cases h5:5<l.length
 ·have he:Ev l=2:=by unfold Ev;rw[AD h5]
  exact(Z7 A c _ h5 w).mono fun e W' ⟨k1,k2⟩=>.inr ⟨by rw[he];decide,by rw[he];exact k1,k2▸AA⟩
 ·exact r8 A c _ l rfl (by omega) hc hs w hr
