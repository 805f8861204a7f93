/- peers -/
import Derived.Test.YthiplgekjgffkaaGreatDoorM15
import Derived.Test.YthiplgekjgffkaaGreatDoorM29
import Derived.Test.YthiplgekjgffkaaGreatDoorM13
set_option maxRecDepth 100000
set_option maxHeartbeats 99000000
set_option linter.all false
namespace Go.Proofs.YthiplgekjgffkaaGreatDoor
open Go.Proofs.Tryz
open Go.RowKit Go.Lib
def OQ(e:Int)(w:World)(x:Ending)(w':World):Prop:=x=.returned (.tuple #[.slice none 0 0,.int .i64 e])/\Below w.heap.size w w'
def aT(A0:Option Addr)(l0:List C8)(D:List D0)(n:Nat)(w:World)(x:Ending)(w':World):Prop:=
 ∃A c l',x=.returned (.tuple #[.slice A n c,.int .i64 0])/\l'.map Prod.fst=D/\Dq w' w'.heap.size A n l'/\Below w.heap.size w w'/\(n<=c/\c<=maxLen)/\Ki w A0 l0 A l'
def I6(id:ByteArray)(size first now:Int):D0:=(id,(0,0,0),size,[first],now)
def J1(size first now:Int):Prop:=size<1\/64<size\/(1<=size/\size<=64/\wi first 0 16777216=false)\/(1<=size/\size<=64/\wi first 0 16777216=true/\now<0)\/(1<=size/\size<=64/\wi first 0 16777216=true/\0<=now/\1073741824<now)
theorem M8:∀(l:List C8)(i:Nat),(Dn l).take (i*7)=Dn (l.take i)
 | [],i=>by simp[Dn]
 |p::l,0=>by simp[Dn]
 |p::l,i+1=>by
  simp only[Dn,List.take_succ_cons];rw[List.take_append,Fx,AY (by rw[Fx];omega),show(i+1)*7- 7=i*7 by omega,M8 l i]
theorem Mv:∀(l:List C8)(i:Nat),(Dn l).drop (i*7)=Dn (l.drop i)
 | [],i=>by simp[Dn]
 |p::l,0=>by simp[Dn]
 |p::l,i+1=>by
  simp only[Dn,List.drop_succ_cons];rw[List.drop_append,Fx,Cu (by rw[Fx];omega),show(i+1)*7- 7=i*7 by omega,Mv l i];rfl
def AJP(w4:World)(n i0:Nat)(pn:C8)(l7:List C8)(e:Ending)(w9:World):Prop:=
 ∃A9 c9,e=.returned (.slice A9 (n+1) c9)/\w9.ownsRow w4.heap.size 187 7 (.slice A9 (n+1) c9) (n+1) (Dn (l7.take i0++pn::l7.drop i0))/\Dz w4.heap.size w9 l7/\Below w4.heap.size w4 w9
def ADM(b:Nat)(l:List C8)(n:Nat)(w:World)(e:Ending)(w':World):Prop:=
 ∃A c l',e=.returned (.slice A n c)/\l'.map Prod.fst=l.map Prod.fst/\w'.ownsRow b 187 7 (.slice A n c) n (Dn l')/\Dz b w' l'/\Below w.heap.size w w'/\∀k,(Value.slice A n c).ownBlock=some k->w.heap.size<=k/\k<w'.heap.size
theorem gO(base n i vb:Nat)(A:Option Addr)(c:Nat)(xs vs:List Value)(hn:n<=1000)(hi:i<=n)(QR:∀u∈xs,u.oneCell'=true)(UX:∀u∈vs,u.oneCell'=true)(Ta:vs.length=7)(w:World)
 (DL:w.ownsRow base 187 7 (.slice A n c) n xs) (hv:DJ w vb 187 vs.toArray) (GI:(Value.slice A n c).ownBlock≠some vb) (Gk:base<=w.heap.size):
 Calls prog 246 #[.slice A n c,.int .i64 i,.slice (some ⟨vb,0,none⟩) 1 1] w (vv A base (n+1) (xs.take (i*7)++(vs++xs.drop (i*7))) w):=by
 have eR:=DL.1;by_cases h:i=n
 ·subst h
  have:=ex base i vb A c xs vs hn UX w DL hv Ta Gk
  rwa [<-show xs.take (i*7)++(vs++xs.drop (i*7))=xs++vs by rw[AY (by omega),Cu (by omega),CP]]at this
 ·obtain⟨d,rfl⟩:∃d,n=i+d:=⟨n-i,by omega⟩
  by_cases hr:i+d+1<=c
  ·obtain⟨g,c',Rq,-⟩:=Eu DL (by omega)
   injection Rq with Rq yS tH
   subst Rq tH;exact Zq base g i d vb c xs vs (by omega) hr QR UX w DL hv Ta (fun e=>GI (by rw[e];rfl))
  ·exact Zy base i d vb c A xs vs (by omega) hn hr QR UX w DL hv Ta Gk
theorem zd(A:Option Addr)(c B n:Nat)(l:List C8)(hm:n<=maxLen)(id:ByteArray)(hid:id.size<=maxLen)(size first now:Int)(w:World)(hp:Dq w B A n l)(hB:B<=w.heap.size)(he:GH l=0)(hi:JK id=false):
 Calls prog 212 #[.slice A n c,.string id,.int .i64 size,.int .i64 first,.int .i64 now] w (OQ 3 w):=by
 have HP:=I hp;have FK:=I hB;have HN:=I hp.len;have E0:=I (AI w);clear hp hB;have HE:=I he;have SQ:=I hi;clear he hi;go_in;go_wp2_with fail
 refine(Lp A c B n l hm _ HE.out _ (HP.out.below E0.out.DI FK.out) (AG FK.out E0.out.DI.size)).mono ?_;rintro e' w1 ⟨rfl,C6⟩;have E1:=I (E0.out.below C6);clear C6;go_wp2_with fail
 refine(Gt id hid _).mono ?_;rw[SQ.out];rintro e' w' ⟨rfl,rfl⟩;go_wp2;all_goals first
  |(exfalso;omega)
  |(refine AF (v:=.tuple #[.slice none 0 0,.int .i64 3]) (by simp[results,results212,go_sem]) rfl ⟨rfl,E1.out.DI⟩)
theorem wS(A:Option Addr)(c B n:Nat)(l:List C8)(hm:n<=maxLen)(id:ByteArray)(hid:id.size<=maxLen)(size first now:Int)(w:World)(hp:Dq w B A n l)(hB:B<=w.heap.size)(he:GH l=0)(hi:JK id=true)(Fg:J1 size first now):
 Calls prog 212 #[.slice A n c,.string id,.int .i64 size,.int .i64 first,.int .i64 now] w (OQ 1 w):=by
 have HP:=I hp;have FK:=I hB;have HN:=I hp.len;have E0:=I (AI w);clear hp hB;have HE:=I he;have SQ:=I hi;clear he hi;obtain⟨b,hb⟩:∃b,wi first 0 16777216=b:=⟨_,rfl⟩
 have HV:=I hb;unfold J1 at Fg;rw[hb]at Fg;clear hb;rcases Fg with h|h|⟨h1,h2,hv⟩|⟨h1,h2,hv,h⟩|⟨h1,h2,hv,h,h'⟩;all_goals
  try subst hv
  go_in;go_wp2_with fail
  refine(Lp A c B n l hm _ HE.out _ (HP.out.below E0.out.DI FK.out) (AG FK.out E0.out.DI.size)).mono ?_;rintro e' w1 ⟨rfl,C6⟩;have E1:=I (E0.out.below C6);clear C6;go_wp2_with fail
  refine(Gt id hid _).mono ?_;rw[SQ.out];rintro e' w' ⟨rfl,rfl⟩;go_wp2_with (go_at_call 205;(with_reducible refine(I7 first _ HV.out _).mono ?_);rintro e' w' ⟨rfl,rfl⟩)
  all_goals first
   |(exfalso;omega)
   |(refine AF (v:=.tuple #[.slice none 0 0,.int .i64 1]) (by simp[results,results212,go_sem]) rfl ⟨rfl,E1.out.DI⟩)
theorem mF(A:Option Addr)(c B n:Nat)(l:List C8)(hm:n<=maxLen)(id:ByteArray)(hid:id.size<=maxLen)(size first now:Int)(w:World)(hp:Dq w B A n l)(hB:B<=w.heap.size)(he:GH l=0)(hi:JK id=true)(PR:1<=size)(Ld:size<=64)(hv:wi first 0 16777216=true)(J0:0<=now)(Hc:now<=1073741824)(k:Nat)(hk:k<l.length)(ACX:pid (l[k]'hk)=id):
 Calls prog 212 #[.slice A n c,.string id,.int .i64 size,.int .i64 first,.int .i64 now] w (OQ 5 w):=by
 obtain⟨h6,GN,Jr⟩:=En he;have Qg:n<=6:=by rw[<-hp.len];exact h6
 have Pz:=Wp A c B n l Jr k hk (by omega);rw[ACX]at Pz;have HF:=I Pz;clear Pz GN Jr ACX;have HP:=I hp;have FK:=I hB;have HN:=I hp.len;have E0:=I (AI w);clear hp hB;have HE:=I he;have SQ:=I hi;have HV:=I hv;clear he hi hv;go_in;go_wp2_with fail
 refine(Lp A c B n l hm _ HE.out _ (HP.out.below E0.out.DI FK.out) (AG FK.out E0.out.DI.size)).mono ?_;rintro e' w1 ⟨rfl,C6⟩;have E1:=I (E0.out.below C6);clear C6;go_wp2_with fail
 refine(Gt id hid _).mono ?_;rw[SQ.out];rintro e' w' ⟨rfl,rfl⟩;go_wp2_with (first|(go_at_call 205;(with_reducible refine(I7 first _ HV.out _).mono ?_);rintro e' w' ⟨rfl,rfl⟩)|fail)
 refine(HF.out _ (HP.out.below E1.out.DI FK.out) (AG FK.out E1.out.DI.size)).mono ?_;rintro e' w3 ⟨rfl,DT⟩;have E3:=I (E1.out.below DT);clear DT;go_wp2;all_goals first
  |(exfalso;omega)
  |(refine AF (v:=.tuple #[.slice none 0 0,.int .i64 5]) (by simp[results,results212,go_sem]) rfl ⟨rfl,E3.out.DI⟩)
theorem rG(A:Option Addr)(c B n:Nat)(l:List C8)(hm:n<=maxLen)(id:ByteArray)(hid:id.size<=maxLen)(size first now:Int)(w:World)(hp:Dq w B A n l)(hB:B<=w.heap.size)(he:GH l=0)(hi:JK id=true)(PR:1<=size)(Ld:size<=64)(hv:wi first 0 16777216=true)(J0:0<=now)(Hc:now<=1073741824)(Ix:∀j,(hj:j<l.length)->pid (l[j]'hj)≠id)(h6n:n=6):
 Calls prog 212 #[.slice A n c,.string id,.int .i64 size,.int .i64 first,.int .i64 now] w (OQ 10 w):=by
 obtain⟨h6,GN,Jr⟩:=En he;have Qg:n<=6:=by rw[<-hp.len];exact h6
 obtain⟨i0,Pr,-,-,Pz⟩:=Rw A c B n l Jr id Ix hp.len (by omega);have HF:=I Pz;clear Pz GN Jr Ix;have h6a:n<=6:=by omega
 have h6b:((n:Int)==6)=true:=by rw[CF];omega
 clear h6n;have HP:=I hp;have FK:=I hB;have HN:=I hp.len;have E0:=I (AI w);clear hp hB;have HE:=I he;have SQ:=I hi;have HV:=I hv;clear he hi hv;go_in;go_wp2_with fail
 refine(Lp A c B n l hm _ HE.out _ (HP.out.below E0.out.DI FK.out) (AG FK.out E0.out.DI.size)).mono ?_;rintro e' w1 ⟨rfl,C6⟩;have E1:=I (E0.out.below C6);clear C6;go_wp2_with fail
 refine(Gt id hid _).mono ?_;rw[SQ.out];rintro e' w' ⟨rfl,rfl⟩;go_wp2_with (go_at_call 205;(with_reducible refine(I7 first _ HV.out _).mono ?_);rintro e' w' ⟨rfl,rfl⟩)
 refine(HF.out _ (HP.out.below E1.out.DI FK.out) (AG FK.out E1.out.DI.size)).mono ?_;rintro e' w3 ⟨rfl,DT⟩;have E3:=I (E1.out.below DT);clear DT;go_wp2;all_goals first
  |(exfalso;omega)
  |(refine AF (v:=.tuple #[.slice none 0 0,.int .i64 10]) (by simp[results,results212,go_sem]) rfl ⟨rfl,E3.out.DI⟩)
def Ib(w:World)(sv:Value)(S:List Dm):Prop:=(sv=.slice none 0 0/\S=[])\/∃g cap n,sv=.slice (some ⟨g,0,none⟩) n cap/\JL 182 w g cap n S
theorem Ib.own{w:World}{sv:Value}{S:List Dm}(h:Ib w sv S):w.ownsRow 0 182 3 sv S.length (Da S):=by
 rcases h with⟨rfl,rfl⟩|⟨g,cap,n,rfl,h⟩
 ·exact AX _ _ _ _
 ·have:=h.own (base:=0) (AM _)
  rw[h.1];exact this
theorem Ib.DR{w:World}{base n:Nat}{sv:Value}{S:List Dm}(h:w.ownsRow base 182 3 sv n (Da S)):Ib w sv S:=by
 have hl:S.length=n:=by have:=h.1;rw[QP]at this;omega
 rcases h.2 with⟨rfl,h0⟩|⟨g,cap,cur,rfl,WJ,hg,Qj,hmc,ER,hx⟩
 ·exact .inl ⟨rfl,Bn (by omega)⟩
 ·exact .inr ⟨g,cap,n,rfl,hl,Qj,hmc,cur,hg,ER,hx⟩
theorem Ib.lt{w:World}{sv:Value}{S:List Dm}(h:Ib w sv S):∀g,sv.ownBlock=some g->g<w.heap.size:=by
 rcases h with⟨rfl,rfl⟩|⟨g,cap,n,rfl,h⟩
 ·intro g hg;cases hg
 ·intro g' hg
  simp only[Value.ownBlock,ATH]at hg;subst hg;exact h.lt
theorem Ib.kept{X:Nat->Prop}{w w':World}{sv:Value}{S:List Dm}(h:Ib w sv S)(hk:Kept X w w')(hx:∀g,sv.ownBlock=some g->¬X g):Ib w' sv S:=by
 rcases h with⟨rfl,rfl⟩|⟨g,cap,n,rfl,h⟩
 ·exact .inl ⟨rfl,rfl⟩
 ·exact .inr ⟨g,cap,n,rfl,h.kept hk (hx g rfl)⟩
structure C0(T:TypeId)(mk:Value->Value->Array Value)(X:Nat->Prop)(w:World)(b:Nat)(A:Option Addr)(pn pc:Nat)(sv:Value)(l:List C8)(D:List D0)(S:List Dm):Prop where
 DC:DJ w b T (mk (.slice A pn pc) sv)
 Fj:Dq w w.heap.size A pn l
 map:l.map Prod.fst=D
 room:pn<=pc/\pc<=maxLen
 Nb:Ib w sv S
 xb:X b
 xs:∀g,sv.ownBlock=some g->X g/\g≠b
 Je:Qq A l (fun k=>X k/\k≠b/\sv.ownBlock≠some k)
 dJ:∀k,X k->k<w.heap.size
def Fs(T:TypeId)(mk:Value->Value->Array Value)(X:Nat->Prop)(w:World)(b:Nat)(D:List D0)(S:List Dm):Prop:=∃A pn pc sv l,C0 T mk X w b A pn pc sv l D S
def grow(X:Nat->Prop)(w w':World):Nat->Prop:=fun k=>(X k\/w.heap.size<=k)/\k<w'.heap.size
section
variable{T:TypeId}{mk mk':Value->Value->Array Value}{X Y:Nat->Prop}{w w1 w2:World}{b pn pc:Nat}{A:Option Addr}{sv:Value}{l:List C8}{D:List D0}{S:List Dm}
theorem C0.at_(h:C0 T mk X w b A pn pc sv l D S):Fs T mk X w b D S:=⟨_,_,_,_,_,h⟩
theorem C0.blt(h:C0 T mk X w b A pn pc sv l D S):b<w.heap.size:=h.DC.lt
theorem C0.kept(h:C0 T mk Y w b A pn pc sv l D S)(hk:Kept X w w1)(hd:∀k,X k->¬Y k):C0 T mk Y w1 b A pn pc sv l D S:=
 ⟨hk.DC h.DC (fun hx=>hd _ hx h.xb),(hk.Fj h.Fj (h.Je.mono fun k hy hx=>hd k hx hy.1)).more hk.size,h.map,h.room,h.Nb.kept hk (fun g hg hx=>hd g hx (h.xs g hg).1),h.xb,h.xs,h.Je,fun k hy=>AJ (h.dJ k hy) hk.size⟩
theorem Fs.kept(h:Fs T mk Y w b D S)(hk:Kept X w w1)(hd:∀k,X k->¬Y k):Fs T mk Y w1 b D S:=by
 obtain⟨_,_,_,_,_,h⟩:=h;exact(h.kept hk hd).at_
theorem C0.below(h:C0 T mk Y w b A pn pc sv l D S)(hb:Below w.heap.size w w1):C0 T mk Y w1 b A pn pc sv l D S:=
 h.kept (X:=fun _=>False) (.DU hb) (fun _ h=>h.elim)
theorem C0.wide(h:C0 T mk X w b A pn pc sv l D S)(hx:∀k,X k->Y k)(hy:∀k,Y k->k<w.heap.size):C0 T mk Y w b A pn pc sv l D S:=
 ⟨h.DC,h.Fj,h.map,h.room,h.Nb,hx _ h.xb,fun g hg=>⟨hx _ (h.xs g hg).1,(h.xs g hg).2⟩,h.Je.mono fun k hk=>⟨hx _ hk.1,hk.2⟩,hy⟩
theorem Fs.wide(h:Fs T mk X w b D S)(hx:∀k,X k->Y k)(hy:∀k,Y k->k<w.heap.size):Fs T mk Y w b D S:=by
 obtain⟨_,_,_,_,_,h⟩:=h;exact(h.wide hx hy).at_
theorem C0.grow(h:C0 T mk X w1 b A pn pc sv l D S):C0 T mk (grow X w w1) w1 b A pn pc sv l D S:=h.wide (fun k hk=>⟨.inl hk,h.dJ k hk⟩) (fun k hk=>hk.2)
theorem C0.set(h:C0 T mk X w b A pn pc sv l D S)(i:Nat)(v:Value)(hm:(mk (.slice A pn pc) sv).setIfInBounds i v=mk' (.slice A pn pc) sv):C0 T mk' X (w.setCell ⟨b,i,none⟩ v) b A pn pc sv l D S:=by
 have hk:Kept (· =b) w (w.setCell ⟨b,i,none⟩ v):=(AH (· =b) _).setCell (a:=⟨b,i,none⟩) (.inl rfl) v;exact⟨hm▸h.DC.De i v,(hk.Fj h.Fj (h.Je.mono fun k hy hx=>hy.2.1 hx)).more hk.size,h.map,h.room,h.Nb.kept hk (fun g hg hx=>(h.xs g hg).2 hx),h.xb,h.xs,h.Je,fun k hy=>AJ (h.dJ k hy) hk.size⟩
theorem C0.Pe{A':Option Addr}{n' c' i:Nat}{l':List C8}{D':List D0}(h0:C0 T mk X w b A pn pc sv l D S)(hb:Below w.heap.size w w1)(hp:Dq w1 w1.heap.size A' n' l')(hm':l'.map Prod.fst=D')(hr:n'<=c'/\c'<=maxLen)(MR:Ki w A l A' l')
 (hm:(mk (.slice A pn pc) sv).setIfInBounds i (.slice A' n' c')=mk' (.slice A' n' c') sv):C0 T mk' (Go.Proofs.YthiplgekjgffkaaGreatDoor.grow X w w1) (w1.setCell ⟨b,i,none⟩ (.slice A' n' c')) b A' n' c' sv l' D' S:=by
 have h:=h0.below hb;have hk:Kept (· =b) w1 (w1.setCell ⟨b,i,none⟩ (.slice A' n' c')):=(AH (· =b) _).setCell (a:=⟨b,i,none⟩) (.inl rfl) _;have ER:(w1.setCell ⟨b,i,none⟩ (.slice A' n' c')).heap.size=w1.heap.size:=by simp[World.setCell]
 have qZ:Qq A' l' (fun k=>Go.Proofs.YthiplgekjgffkaaGreatDoor.grow X w w1 k/\k≠b/\sv.ownBlock≠some k):=by
  have h1:=MR (fun k=>(X k\/w.heap.size<=k)/\k≠b/\sv.ownBlock≠some k) (fun k hk=>⟨.inr hk,fun e=>by have:=h0.blt;omega,fun e=>by have:=h0.Nb.lt k e;omega⟩) (h0.Je.mono fun k hk=>⟨.inl hk.1,hk.2⟩);have h2:=h1.and hp.DC;exact h2.mono fun k hk=>⟨⟨hk.1.1,hk.2⟩,hk.1.2⟩
 refine⟨hm▸h.DC.De i _,(hk.Fj hp (qZ.mono fun k hy hx=>hy.2.1 hx)).more hk.size,hm',hr,h.Nb.kept hk (fun g hg hx=>(h.xs g hg).2 hx),⟨.inl h.xb,h.blt⟩,fun g hg=>⟨⟨.inl (h.xs g hg).1,h.Nb.lt g hg⟩,(h.xs g hg).2⟩,qZ,fun k hy=>by rw[ER];exact hy.2⟩
theorem C0.join{pG:Value}{i:Nat}{S':List Dm}(h0:C0 T mk X w b A pn pc sv l D S)(bj:Kept (fun k=>sv.ownBlock=some k) w w1)(hs:Ib w1 pG S')(hb:pG.ownBlock=sv.ownBlock\/∀g,pG.ownBlock=some g->w.heap.size<=g)
 (hm:(mk (.slice A pn pc) sv).setIfInBounds i pG=mk' (.slice A pn pc) pG):C0 T mk' (Go.Proofs.YthiplgekjgffkaaGreatDoor.grow X w w1) (w1.setCell ⟨b,i,none⟩ pG) b A pn pc pG l D S':=by
 have hk:Kept (· =b) w1 (w1.setCell ⟨b,i,none⟩ pG):=(AH (· =b) _).setCell (a:=⟨b,i,none⟩) (.inl rfl) _;have ER:(w1.setCell ⟨b,i,none⟩ pG).heap.size=w1.heap.size:=by simp[World.setCell]
 have oH:=bj.DC h0.DC (fun hx=>(h0.xs b hx).2 rfl);have hpp:=(bj.Fj h0.Fj (h0.Je.mono fun k hy hx=>hy.2.2 hx)).more bj.size;have hg:∀g,pG.ownBlock=some g->(X g\/w.heap.size<=g)/\g≠b/\g<w1.heap.size:=fun g hg=>by
  rcases hb with e|e
  ·exact⟨.inl (h0.xs g (e▸hg)).1,(h0.xs g (e▸hg)).2,hs.lt g hg⟩
  ·exact⟨.inr (e g hg),fun e2=>by have:=h0.blt;have:=e g hg;omega,hs.lt g hg⟩
 have qZ:Qq A l (fun k=>Go.Proofs.YthiplgekjgffkaaGreatDoor.grow X w w1 k/\k≠b/\pG.ownBlock≠some k):=(h0.Je.and h0.Fj.DC).mono fun k hy=>⟨⟨.inl hy.1.1,AJ hy.2 bj.size⟩,hy.1.2.1,fun e=>by
  rcases hb with e2|e2
  ·exact hy.1.2.2 (e2▸e)
  ·have:=e2 k e;omega⟩
 refine⟨hm▸oH.De i _,(hk.Fj hpp (qZ.mono fun k hy hx=>hy.2.1 hx)).more hk.size,h0.map,h0.room,hs.kept hk (fun g ka hx=>(hg g ka).2.1 hx),⟨.inl h0.xb,oH.lt⟩,fun g ka=>⟨⟨(hg g ka).1,(hg g ka).2.2⟩,(hg g ka).2.1⟩,qZ,fun k hy=>by rw[ER];exact hy.2⟩
theorem C0.mark{g cap n:Nat}{S':List Dm}(h0:C0 T mk X w b A pn pc (.slice (some ⟨g,0,none⟩) n cap) l D S)(hk:Kept (· =g) w w1)(hs:JL 182 w1 g cap n S'):C0 T mk X w1 b A pn pc (.slice (some ⟨g,0,none⟩) n cap) l D S':=
 ⟨hk.DC h0.DC (fun hx=>(h0.xs g rfl).2 hx.symm),(hk.Fj h0.Fj (h0.Je.mono fun k hy hx=>hy.2.2 (by simp only[Value.ownBlock];rw[hx]))).more hk.size,h0.map,h0.room,.inr ⟨g,cap,n,rfl,hs⟩,h0.xb,h0.xs,h0.Je,fun k hy=>AJ (h0.dJ k hy) hk.size⟩
end
abbrev dpt(d:D0):C8:=(d,none,0)
def Qp(d:D0):Prop:=I5 (dpt d)
def nN(a b:D0):Prop:=Ea a.1 b.1=true
theorem ZW:∀(l:List C8)(a:ByteArray),Ov a l=Ov a ((l.map Prod.fst).map dpt)
 | [],a=>rfl
 |p::l,a=>by
  simp only[CN,Ov];rw[ZW l (pid p)];rfl
def Y3(D:List D0):Int:=GH (D.map dpt)
theorem Kr(l:List C8):GH l=Y3 (l.map Prod.fst):=by
 unfold Y3 GH;rw[<-ZW,Ak,Ak]
theorem eZ{p:C8}(h:I5 p):Kw p=0:=by
 obtain⟨h1,h2,h3,h4,h5⟩:=h;unfold Kw;rw[AD h1,AD h2,AD h3,AD (DW.2 ⟨h4,h5⟩)]
theorem Xj:∀(D:List D0)(a:ByteArray),(∀d∈D,Qp d)->D.Pairwise nN->(∀d∈D,Ea a d.1=true)->Ov a (D.map dpt)=0
 | [],_,_,_,_=>rfl
 |d::D,a,hg,hp,ha=>by
  rw[AS1]at hp;have h1:Kw (dpt d)=0:=eZ (hg d (Ay ..));have h2:Ea a (pid (dpt d))=true:=ha d (Ay ..);simp only[CN,Ov];rw[AD h1,AD h2];exact Xj D _ (fun x hx=>hg x (Am _ hx)) hp.2 (fun x hx=>hp.1 x hx)
structure TV(D:List D0):Prop where
 yF:D.length<=6
 Fo:∀d∈D,Qp d
 asc:D.Pairwise nN
theorem TV.zero{D:List D0}(h:TV D):Y3 D=0:=by
 unfold Y3 GH;rw[AC (by rw[Ak];have:=h.yF;omega)];exact Xj D _ h.Fo h.asc (fun d hd=>Um (Mx (h.Fo d hd).1).1)
def idxOf(D:List D0)(id:ByteArray):Option Nat:=D.findIdx? (fun d=>decide (d.1=id))
theorem Hk{D:List D0}{id:ByteArray}{k:Nat}(h:idxOf D id=some k):∃hk:k<D.length,(D[k]'hk).1=id/\∀j,(hj:j<D.length)->j<k->(D[j]'hj).1≠id:=by
 unfold idxOf at h;rw[AUU]at h;obtain⟨hk,h1,h2⟩:=h;exact⟨hk,by simpa using h1,fun j hj VD=>by simpa using h2 j VD⟩
theorem Ot{D:List D0}{id:ByteArray}(h:idxOf D id=none):∀j,(hj:j<D.length)->(D[j]'hj).1≠id:=by
 unfold idxOf at h;rw[AUV]at h;intro j hj e;have:=h _ (AL hj);simp[e]at this
theorem ZB(D:List D0)(id:ByteArray):fnd D id=(idxOf D id).bind fun k=>D[k]? :=by
 unfold fnd idxOf;induction D with
 |nil=>rfl
 |cons d D ih=>
  by_cases h:d.1=id
  ·simp[List.find?_cons,List.findIdx?_cons,h]
  ·simp only[List.find?_cons,List.findIdx?_cons,h,decide_false,ih]
   simp[Option.bind_map,Function.comp_def]
structure Dh where
 c:Dg
 now:Int
 seq:Int
 drops:Int
 D:List D0
 S:List Dm
structure Di(s:Dh):Prop where
 id:JK s.c.1=true
 cfg:Gj s.c
 Nm:0<=s.now
 Ny:s.now<=1073741824
 bL:s.seq=s.now/Eb s.c
 Ku:0<=s.drops
 MJ:s.drops<=1073741824
 ps:TV s.D
 pv:∀d∈s.D,1<=d.2.2.2.1.length/\d.2.2.2.2<=s.now
 eight:s.S.length<=8
 th:∀t∈s.S,t.1.size<=8/\1<=t.2.1/\t.2.1<=60
def Ft(X:Nat->Prop)(w:World)(b:Nat)(A:Option Addr)(pn pc:Nat)(sv:Value)(l:List C8)(s:Dh):Prop:=C0 244 (ED s.c s.now s.seq s.drops) X w b A pn pc sv l s.D s.S
def FM(X:Nat->Prop)(w:World)(b:Nat)(s:Dh):Prop:=Fs 244 (ED s.c s.now s.seq s.drops) X w b s.D s.S
def Dh.lv(s:Dh)(id:ByteArray):Int:=va (Jy s.c) s.now s.D id
theorem lA{d:D0}{least:Int}(h:Qp d)(h1:1<=d.2.2.2.1.length)(h2:1<=least)(h3:least<=16777216):KC d.2.2.1 least d.2.2.2.1=0:=by
 have hw:Ih d.2.2.1 d.2.2.2.1=0:=h.2.2.1;unfold KC;rw[AD hw,AD (DW.2 ⟨h2,h3⟩),AC (by omega)]
theorem Di.pl{s:Dh}(h:Di s):∀d∈s.D,uQ (Jy s.c) s.now d:=fun d hd=>by
 have hg:=h.ps.Fo d hd;obtain⟨h1,h2⟩:=h.pv d hd;have hc:=h.cfg;unfold Gj at hc;have h4:0<=d.2.2.2.2:=hg.2.2.2.1;have:=h.Ny;exact⟨lA hg h1 (by omega) (by omega),by omega,by omega⟩
def Dh.tell(s:Dh):Dh:={s with S:=Id s.lv s.S}
def Dh.notes(s:Dh):List Dm:=Gu s.lv s.S
theorem Di.tell{s:Dh}(h:Di s):Di s.tell:=
 ⟨h.id,h.cfg,h.Nm,h.Ny,h.bL,h.Ku,h.MJ,h.ps,h.pv,by show(Id _ _).length<=8;unfold Id;rw[Ak];exact h.eight,fun t ht=>by
   obtain⟨u,hu,rfl⟩:=BD.1 ht;exact h.th u hu⟩
section
variable{X:Nat->Prop}{w:World}{b pn pc:Nat}{A:Option Addr}{sv:Value}{l:List C8}{s:Dh}
theorem aZ(hb:DJ w b 244 (ED s.c s.now s.seq s.drops (.slice A pn pc) sv))(hp:Dq w w.heap.size A pn l)(hm:l.map Prod.fst=s.D)(hg:Di s)(id:ByteArray):
 Calls prog 182 #[.pointer (some ⟨b,0,none⟩),.string id] w (Pc (s.lv id) (Lh s.D id) w):=by
 have hn:pn<=1000:=by have:=hg.ps.yF;have:=hp.len;have e:=Ae List.length hm;rw[Ak]at e;omega
 have hl:l.length=s.D.length:=by rw[<-hm,Ak]
 have Ql:∀j,(hj:j<l.length)->(s.D[j]'(by omega))=(l[j]'hj).1:=fun j hj=>by simp only[<-hm,Ce]
 unfold Dh.lv va Lh;rw[ZB];cases hi:idxOf s.D id with
 |none=>
  have Ix:=Ot hi;exact nZ b pn pc A s.c s.now s.seq s.drops sv l hn id (fun j hj e=>Ix j (by omega) (by rw[Ql j hj];exact e)) w hb hp
 |some k=>
  obtain⟨hk,h1,h2⟩:=Hk hi;have ES:k<l.length:=by omega
  have e:s.D[k]? =some (l[k]'ES).1:=by rw[AU hk,Ql k ES]
  show Calls _ _ _ _ (Pc (match s.D[k]? with|some d=>nj (Jy s.c) s.now d|none=>0) (match s.D[k]? with|some _=>0|none=>4) w);rw[e];exact ot b pn pc A s.c s.now s.seq s.drops sv l hn id k ES (by rw[Ql k ES]at h1;exact h1) (fun j hj VD e=>h2 j (by omega) VD (by rw[Ql j hj];exact e))
   (by rw[<-Ql k ES];exact hg.pl _ (AL hk)) hg.Nm hg.Ny w hb hp
theorem RY(h:Ft X w b A pn pc sv l s)(hg:Di s)(id:ByteArray):
 Calls prog 182 #[.pointer (some ⟨b,0,none⟩),.string id] w (Pc (s.lv id) (Lh s.D id) w):=aZ h.DC h.Fj h.map hg id
def pI(X:Nat->Prop)(b:Nat)(A:Option Addr)(pn pc:Nat)(sv:Value)(l:List C8)(s:Dh)(w:World)(e:Ending)(w':World):Prop:=
 ∃A' c',e=.returned (.slice A' s.notes.length c')/\w'.ownsRow w.heap.size 173 3 (.slice A' s.notes.length c') s.notes.length (Da s.notes)/\Ft X w' b A pn pc sv l s.tell/\Kept X w w'
theorem told_none(b:Nat)(A:Option Addr)(c:Dg)(now seq drops:Int)(w:World)(hb:DJ w b 244 (ED c now seq drops (.slice A pn pc) (.slice none 0 0))):
 Calls prog 214 #[.pointer (some ⟨b,0,none⟩)] w fun e w'=>e=.returned (.slice none 0 0)/\w=w':=by
 have HB:=I hb;have FI:=hb.lt;have b9:=hb.cell 9;simp[ED]at b9;clear hb;go_in;go_wp2_with fail
 go_loop [3,14] (fun v iv=>v=.slice none 0 0/\iv=.int .i64 0) (fun _ iv=>0)
 case atStart=>exact⟨rfl,rfl⟩
 case round=>
  obtain⟨rfl,rfl⟩:=hrel;go_wp2;go_ret;exact⟨rfl,rfl⟩
theorem Va(h:Ft X w b A pn pc sv l s)(hg:Di s):
 Calls prog 214 #[.pointer (some ⟨b,0,none⟩)] w (pI X b A pn pc sv l s w):=by
 rcases h.Nb with⟨WO,hS⟩|⟨g,cap,n,WO,hr⟩
 ·subst WO
  refine(told_none b A s.c s.now s.seq s.drops w h.DC).mono ?_;rintro e w' ⟨rfl,rfl⟩;have e1:s.notes=[]:=by unfold Dh.notes;rw[hS];rfl
  have e2:s.tell=s:=by unfold Dh.tell;rw[hS];show({s with S:=[]}:Dh)=s;rw[<-hS]
  rw[show pI X b A pn pc (.slice none 0 0) l s w _ w= ∃A' c',_ from rfl,e1,e2];exact⟨none,0,rfl,AX _ _ _ _,h,AH _ _⟩
 ·subst WO
  have WJ:b≠g:=fun e=>(h.xs g rfl).2 e.symm;have hn:n<=8:=by rw[<-hr.1];exact hg.eight
  refine(qn b g cap n pn pc A s.c s.now s.seq s.drops s.S s.lv hn WJ w h.DC hr ?_).mono ?_
  ·intro W id hk
   exact⟨_,aZ (hk.DC h.DC WJ) ((hk.Fj h.Fj (h.Je.mono fun k hy hx=>hy.2.2 (by simp only[Value.ownBlock];rw[hx]))).more hk.size) h.map hg id⟩
  ·rintro e w' ⟨A',c',rfl,h1,h2,h3⟩
   exact⟨A',c',rfl,h1,h.mark h3 h2,h3.mono fun k hk=>.inl (hk▸(h.xs g rfl).1)⟩
end
def Ff(c:Dg)(a:Int)(K:Nat):List ByteArray:=(List.range K).map fun(j:Nat)=>KF c.1 (LY c) (a+1+j)
theorem ME(c:Dg)(a:Int)(K:Nat):(Ff c a K).length=K:=by unfold Ff;simp
theorem Q6(c:Dg)(a:Int)(K:Nat):Ff c a (K+1)=Ff c a K++[KF c.1 (LY c) (a+1+K)]:=by unfold Ff;rw[List.range_succ,BP];rfl
def C7(l:List ByteArray):List Value:=l.map Value.string
theorem Iq(l m:List ByteArray):C7 (l++m)=C7 l++C7 m:=by unfold C7;simp
theorem Z4(l:List ByteArray):(C7 l).length=l.length:=by unfold C7;simp
theorem Iu(l:List ByteArray):∀u∈C7 l,u.oneCell'=true:=by
 intro u hu;obtain⟨x,-,rfl⟩:=BD.1 hu;rfl
def Dh.many(s:Dh)(DH:Int):Nat:=((s.now+DH)/Eb s.c-s.now/Eb s.c).toNat
def Dh.DP(s:Dh)(DH:Int):Dh:={s with now:=s.now+DH,seq:=(s.now+DH)/Eb s.c}
def Dh.D8(s:Dh)(DH:Int):Int:=if DH<1\/1073741824<DH then 1 else if 1073741824<s.now+DH\/64<=DH/Eb s.c then 2 else 0
theorem Di.DP{s:Dh}(h:Di s){DH:Int}(he:s.D8 DH=0):Di (s.DP DH):=by
 unfold Dh.D8 at he;have hc:=h.cfg;unfold Gj at hc;by_cases h1:DH<1\/1073741824<DH
 ·rw[AD h1]at he;cases he
 rw[AC h1]at he;by_cases h2:1073741824<s.now+DH\/64<=DH/Eb s.c
 ·rw[AD h2]at he;cases he
 have h0:=h.Nm;exact⟨h.id,h.cfg,by show 0<=s.now+DH;omega,by show s.now+DH<=1073741824;omega,rfl,h.Ku,h.MJ,h.ps,fun d hd=>⟨(h.pv d hd).1,by have:=(h.pv d hd).2;show d.2.2.2.2<=s.now+DH;omega⟩,h.eight,h.th⟩
def pE(X:Nat->Prop)(b:Nat)(A:Option Addr)(pn pc:Nat)(sv:Value)(l:List C8)(s:Dh)(DH:Int)(w:World)(e:Ending)(w':World):Prop:=
 ∃A1 c1 A2 c2,e=.returned (.tuple #[.slice A1 (s.many DH) c1,.slice A2 (s.DP DH).notes.length c2,.int .i64 0])/\w'.ownsRow w.heap.size 9 1 (.slice A1 (s.many DH) c1) (s.many DH) (C7 (Ff s.c s.seq (s.many DH)))/\
  w'.ownsRow w.heap.size 173 3 (.slice A2 (s.DP DH).notes.length c2) (s.DP DH).notes.length (Da (s.DP DH).notes)/\Ft X w' b A pn pc sv l (s.DP DH).tell/\Kept X w w'
theorem LM:(Tryz.prog.info? 9).map (fun i=>(i.zero,i.size,i.bytes))=some (some (.string ByteArray.empty),1,16):=by kernel_rfl
theorem Xo(w:World)(e:TypeId)(x:ByteArray):Reads (w.alloc (.cells #[.string x] e)) (w.heap.size+1) 1 (some ⟨w.heap.size,0,none⟩) 1 (C7 [x]):=
 ⟨rfl,fun _=>⟨_,rfl,by simp,fun j u hj=>by
   have hc:=(DJ.new w e #[.string x]).cell j;have I1:(⟨w.heap.size,0,none⟩:Addr).add j=⟨w.heap.size,j,none⟩:=by unfold Addr.add;split<;>simp_all
   rw[I1,hc,<-hj];simp[C7]⟩⟩
def pP(X:Nat->Prop)(b:Nat)(A:Option Addr)(pn pc:Nat)(sv:Value)(l:List C8)(s:Dh)(w:World)(j:Nat)(v:Value)(wr:World):Prop:=
 wr.ownsRow w.heap.size 9 1 v j (C7 (Ff s.c s.seq j))/\Ft X wr b A pn pc sv l {s with seq:=s.seq+j}/\Kept X w wr
theorem pP.next{X:Nat->Prop}{b pn pc j:Nat}{A:Option Addr}{sv v v':Value}{l:List C8}{s:Dh}{w wr w1 w2:World}(h:pP X b A pn pc sv l s w j v wr)(hX:∀k,X k->k<w.heap.size)
 (hb:Below wr.heap.size (wr.setCell ⟨b,6,none⟩ (.int .i64 (s.seq+j+1))) w1) (DK:Below w.heap.size w1 w2) (ho:w2.ownsRow w.heap.size 9 1 v' (j+1) (C7 (Ff s.c s.seq j)++C7 [KF s.c.1 (LY s.c) (s.seq+1+j)])):pP X b A pn pc sv l s w (j+1) v' w2:=by
 have h1:Ft X (wr.setCell ⟨b,6,none⟩ (.int .i64 (s.seq+j+1))) b A pn pc sv l {s with seq:=s.seq+(j+1:Nat)}:=C0.set h.2.1 6 _ (by show _=ED s.c s.now (s.seq+(j+1:Nat)) s.drops _ _;rw[show s.seq+((j+1:Nat):Int)=s.seq+j+1 by omega];rfl);have h2:Ft X w1 b A pn pc sv l {s with seq:=s.seq+(j+1:Nat)}:=C0.below h1 (by simpa [World.setCell] using hb);have h3:Kept X w w1:=(h.2.2.setCell (a:=⟨b,6,none⟩) (.inl h.2.1.xb) _).step (by simpa [World.setCell] using hb);exact⟨by rw[Q6,Iq];exact ho,C0.kept (X:=fun k=>w.heap.size<=k) h2 ⟨DK.os,DK.tape,DK.output,DK.size,fun k hk hx=>DK.block k (by omega)⟩ (fun k hk hx=>by have:=hX k hx;omega),h3.low DK⟩
theorem xG{X:Nat->Prop}{w:World}{b pn pc:Nat}{A:Option Addr}{sv:Value}{l:List C8}{s:Dh}(h:Ft X w b A pn pc sv l s)(hg:Di s)(DH:Int)(he:s.D8 DH=0):
 Calls prog 179 #[.pointer (some ⟨b,0,none⟩),.int .i64 DH] w (pE X b A pn pc sv l s DH w):=by
 obtain⟨i0,hi,Fq,FZ,Fe⟩:=AO LM;have hgt:=hg.DP he;unfold Dh.D8 at he;have hc:=hg.cfg;unfold Gj at hc;obtain⟨-,-,zq,Xu,-⟩:=hc;by_cases h1:DH<1\/1073741824<DH
 ·rw[AD h1]at he;cases he
 rw[AC h1]at he;by_cases h2:1073741824<s.now+DH\/64<=DH/Eb s.c
 ·rw[AD h2]at he;cases he
 have h0:=hg.Nm;have Hc:=hg.Ny;have hnt:s.now+DH<=1073741824:=by omega
 have tn:DH/Eb s.c<64:=by omega
 have Ur:1<=DH:=by omega
 have mg:DH<=1073741824:=by omega
 have q0:0<=s.now/Eb s.c:=AS7 h0 (by omega);have q1:s.now/Eb s.c*Eb s.c<=s.now:=Int.ediv_mul_le _ (by omega);have q2:s.now<(s.now/Eb s.c+1)*Eb s.c:=AUW _ (by omega);have q3:s.now/Eb s.c<=(s.now+DH)/Eb s.c:=ATf (by omega) (by omega);have q4:(s.now+DH)/Eb s.c*Eb s.c<=s.now+DH:=Int.ediv_mul_le _ (by omega);have q5:(s.now+DH)/Eb s.c<=1073741824:=by
  have:=AS8 (Eb s.c) (show 0<=s.now+DH by omega);omega
 have q6:(s.now+DH)/Eb s.c-s.now/Eb s.c<=64:=by
  have a1:DH<(DH/Eb s.c+1)*Eb s.c:=AUW _ (by omega);have a2:(s.now/Eb s.c+DH/Eb s.c+2)*Eb s.c=(s.now/Eb s.c+1)*Eb s.c+(DH/Eb s.c+1)*Eb s.c:=by rw[<-ASj];congr 1;omega
  have a3:=Int.ediv_lt_of_lt_mul (a:=s.now+DH) (b:=s.now/Eb s.c+DH/Eb s.c+2) (c:=Eb s.c) (by omega) (by omega);omega
 have HQM:=I (fun(j:Nat)=>(ATk (a:=s.now/Eb s.c+1+j) (b:=s.now+DH) (c:=Eb s.c) (by omega)));have HM:=I (show((s.many DH:Nat):Int)=(s.now+DH)/Eb s.c-s.now/Eb s.c by unfold Dh.many;omega);have HSQ:=I hg.bL;have HG:=I hgt;have SQ:=I hg.id;have HX:=I h.dJ;have HCF:=I hg.cfg;have HH:=I h;have b2:=h.DC.cell 2;have b5:=h.DC.cell 5;have FI:=h.DC.lt;simp[ED]at b2 b5;clear h hg he h1 h2 hgt;obtain⟨av,hav⟩:∃av,s.now/Eb s.c=av:=⟨_,rfl⟩;obtain⟨mv,zC⟩:∃mv,(s.now+DH)/Eb s.c=mv:=⟨_,rfl⟩;rw[hav]at q0 q1 q2 q3 q6;rw[zC]at q3 q4 q5 q6;simp only[hav,zC]at HQM HM;have q7:(av+1)*Eb s.c=av*Eb s.c+Eb s.c:=by rw[ASj];omega
 have q8:0<=av*Eb s.c:=Bq q0 (by omega);have q9:(av+1)*Eb s.c<=1090519040:=by omega
 have w1:IntKind.i64.wrap (av+1)=av+1:=by rw[Aj];omega
 have w2:IntKind.i64.wrap ((av+1)*Eb s.c)=(av+1)*Eb s.c:=by rw[Aj];omega
 have w3:s.now.tdiv (Eb s.c)=av:=by rw[Cw h0];exact hav
 have HAV:=I hav;have HMV:=I zC;have AT0:=I q7;clear hav zC q7 q2 q4;go_in;go_wp2_with fail
 go_quiet (fail)
 have z7:Below w.heap.size w (w.drewN nq):=Ba AA nq;have ST:=I (show pP X b A pn pc sv l s w 0 (.slice none 0 0) (w.drewN nq)from⟨AX _ _ _ _,by have:=C0.below HH.out z7;show Ft X _ b A pn pc sv l {s with seq:=s.seq+(0:Nat)};rw[show s.seq+((0:Nat):Int)=s.seq by omega];exact this,.DU z7⟩);generalize w.drewN nq=w0 at*;clear z7 b2 b5;go_wp2_with fail
 go_loopw [7,8] (fun v iv wr=>∃(j:Nat)(t:Int),j<=s.many DH/\iv=.int .i64 t/\0<=t/\t<=1090519040/\Hid (t=(av+1+j)*Eb s.c)/\pP X b A pn pc sv l s w j v wr) (fun _ iv _=>(2000000000-RowKit.intOf iv).toNat)
 case atStart=>exact⟨0,(av+1)*Eb s.c,AM _,rfl,by rw[AT0.out];omega,q9,I (by rw[show av+1+((0:Nat):Int)=av+1 by omega]),ST.out⟩
 case round=>
  obtain⟨j,t,hj,rfl,dB,AO2,HT,hrel⟩:=hrel;obtain⟨wo,rfl⟩:∃wo,wo=wr:=⟨_,rfl⟩;have RL:=I hrel;clear hrel w1 w2 w3;obtain⟨Av,cv,rfl⟩:=Cz RL.out.1;have AJB:=RL.out.2.1.DC.lt;have b0:=RL.out.2.1.DC.cell 0;have b1:=RL.out.2.1.DC.cell 1;have b2:=RL.out.2.1.DC.cell 2;have b5:=RL.out.2.1.DC.cell 5;have b6:=RL.out.2.1.DC.cell 6;have f6:=RL.out.2.1.DC.frozen 6;simp[ED]at b0 b1 b2 b5 b6;by_cases DG:t<=s.now+DH
  ·have hjm:j<s.many DH:=by
    have e1:=(HQM.out j).2 (by rw[<-HT.out];exact DG);have e2:=HM.out;omega
   have hNT:=I (show t+Eb s.c=(av+1+(j+1:Nat))*Eb s.c by rw[HT.out,show av+1+((j+1:Nat):Int)=(av+1+j)+1 by omega,ASj (av+1+j) 1];omega);have un:s.seq=av:=HSQ.out.trans HAV.out;have hjb:(j:Int)<64:=by have:=HM.out;omega
   have N4:=I (show Em s.c.1 (LY s.c) (s.seq+j+1)=0 by
    have:=HCF.out;unfold Gj at this
    unfold Em;rw[AD SQ.out,AD (by omega)])
   have PR:0<=s.seq:=by omega
   have Ld:s.seq<=1073741824:=by omega
   clear un
   go_upto_region 74 with fail
   have B2:=I (C0.set (mk':=ED s.c s.now (s.seq+j+1) s.drops) RL.out.2.1 6 (.int .i64 (s.seq+j+1)) rfl);have OWN:=I (DV RL.out.1 (a:=⟨b,6,none⟩) FI (.int .i64 (s.seq+j+1)));have NX:=I (fun w1 w2 v' hb DK ho=>RL.out.next (w1:=w1) (w2:=w2) (v':=v') HX.out hb DK ho);have AHl:w.heap.size<=wo.heap.size:=RL.out.2.2.size;have ADT:(wo.setCell ⟨b,6,none⟩ (.int .i64 (s.seq+j+1))).heap.size=wo.heap.size:=by simp[World.setCell]
   clear b0 b1 b2 b5 b6 f6;generalize IK:wo.setCell ⟨b,6,none⟩ (.int .i64 (s.seq+j+1))=w2 at*;have HW2:=I IK;clear IK;have Nr:=I B2.out.DC;have Hi:=B2.out.DC.lt;have HS:=I (show∀w',Below w2.heap.size w2 w'->(Below w2.heap.size w2 w'/\w'.cell? ⟨b,0,none⟩=some (.string s.c.1)/\w'.cell? ⟨b,1,none⟩=some (.int .i64 (LY s.c))/\w'.cell? ⟨b,6,none⟩=some (.int .i64 (s.seq+j+1)))
    from fun w' h=>⟨h,(Nr.out.below h Hi).cell 0,(Nr.out.below h Hi).cell 1,(Nr.out.below h Hi).cell 6⟩)
   have Yd:=I (fun W=>ABp s.c.1 (LY s.c) (s.seq+j+1) N4.out W);go_region_held3 (fun w'=>Below w2.heap.size w2 w'/\w'.cell? ⟨b,0,none⟩=some (.string s.c.1)/\w'.cell? ⟨b,1,none⟩=some (.int .i64 (LY s.c))/\w'.cell? ⟨b,6,none⟩=some (.int .i64 (s.seq+j+1)))
    ((refine HS.out _ ?_;repeat (with_reducible first|exact G8|exact AA|refine Below.Gh ?_|refine AE ?_)))
    ((go_at_call 213;(with_reducible refine(Yd.out _).mono ?_);rintro e' w3 ⟨rfl,DT⟩;have G8:Below w2.heap.size w2 w3:=Below.C9 (by repeat (with_reducible first|exact AA|refine Below.Gh ?_|refine AE ?_)) DT))
   all_goals
    have R3:=I G8;have OW3:=I (Ef OWN.out G8);have AN0:w.heap.size<=w3.heap.size:=by have:=G8.size;omega
    have N3:=I (C0.below B2.out G8);clear DT G8;have b2:=N3.out.DC.cell 2;have b5:=N3.out.DC.cell 5;have aM:=N3.out.DC.lt;simp[ED]at b2 b5;have ZI:(j:Int)+1<=64:=by omega
    go_wp2_with (at_builtin;refine EU _ rfl _ _ 31 rfl w.heap.size 9 i0 _ 1 16 underlying31 hi Fq FZ Fe rfl (by decide) _ _ _ rfl (OW3.out.alloc _) _ _ 1 _ _ rfl (Xo w3 9 (KF s.c.1 (LY s.c) (s.seq+j+1))) (Iu [KF s.c.1 (LY s.c) (s.seq+j+1)]) ?c1 ?c2 ?c3 ?_)
    case c1=>unfold maxLen;omega
    case c2=>omega
    case c3=>simp;omega
    intro v4 w4 JP EL;obtain⟨A4,c4,rfl⟩:=Cz JP;have KEEP:=I (NX.out _ w4 (.slice A4 (j+1) c4) (by rw[<-ADT];exact Below.Gh R3.out) EL (by rw[show s.seq+1+(j:Int)=s.seq+j+1 by omega];exact JP));clear b2 b5;have b2:=KEEP.out.2.1.DC.cell 2;have b5:=KEEP.out.2.1.DC.cell 5;have AG4:=KEEP.out.2.1.DC.lt;simp[ED]at b2 b5;clear JP EL;go_wp2;exact⟨⟨j+1,t+Eb s.c,by omega,rfl,by omega,by omega,hNT,KEEP.out⟩,by simp[RowKit.intOf];omega⟩
  ·have hjm:j=s.many DH:=by
    have e2:=HM.out;by_cases h:j<s.many DH
    ·have e1:=(HQM.out j).1 (by omega)
     rw[<-HT.out]at e1;exact absurd e1 DG
    ·omega
   subst hjm;have un:s.seq+((s.many DH:Nat):Int)=mv:=by have:=HM.out;have:=HSQ.out;rw[HAV.out]at this;omega
   have N5:=I (C0.set (mk':=ED s.c (s.now+DH) (s.seq+(s.many DH:Nat)) s.drops) RL.out.2.1 5 (.int .i64 (s.now+DH)) rfl);have f5:=RL.out.2.1.DC.frozen 5;have OW5:=I (DV RL.out.1 (a:=⟨b,5,none⟩) FI (.int .i64 (s.now+DH)));have K5:=I (RL.out.2.2.setCell (a:=⟨b,5,none⟩) (.inl RL.out.2.1.xb) (.int .i64 (s.now+DH)));have NT:=I (show Ft X (wo.setCell ⟨b,5,none⟩ (.int .i64 (s.now+DH))) b A pn pc sv l (s.DP DH)by
    have:=N5.out;rw[un]at this;unfold Dh.DP Ft;rw[HMV.out];exact this)
   clear un N5;go_wp2_with fail
   refine(Va NT.out HG.out).mono ?_;rintro e' w6 ⟨A6,c6,rfl,Iv,Qg,UQ⟩;have ADT:(wo.setCell ⟨b,5,none⟩ (.int .i64 (s.now+DH))).heap.size=wo.heap.size:=by simp[World.setCell]
   have AHl:w.heap.size<=wo.heap.size:=RL.out.2.2.size;have Df:=I (show pE X b A pn pc sv l s DH w (.returned (.tuple #[.slice Av (s.many DH) cv,.slice A6 (s.DP DH).notes.length c6,.int .i64 0])) w6 from
    ⟨Av,cv,A6,c6,rfl,UQ.own OW5.out (fun k hk hx=>by have h1:=OW5.out.lt k hk;have h2:=HX.out k hx;omega),DX Iv (by omega),Qg,K5.out.trans UQ⟩)
   clear Iv Qg UQ;go_wp2;exact AF (v:=.tuple #[.slice Av (s.many DH) cv,.slice A6 (s.DP DH).notes.length c6,.int .i64 0]) (by simp[results,results179,go_sem]) rfl Df.out
theorem zW(A:Option Addr)(c B n:Nat)(l:List C8)(hm:n<=maxLen)(id:ByteArray)(hid:id.size<=maxLen)(size first now:Int)(w:World)(hp:Dq w B A n l)(hB:B<=w.heap.size)(he:GH l=0)(hi:JK id=true)(PR:1<=size)(Ld:size<=64)(hv:wi first 0 16777216=true)(J0:0<=now)(Hc:now<=1073741824)(Ix:∀j,(hj:j<l.length)->pid (l[j]'hj)≠id)(h6n:n<6)(i0:Nat)(Pr:i0<=n)(Pz:∀(w:World)(hp:Dq w B A n l)(hB:B<=w.heap.size),Calls prog 245 #[.slice A n c,.string id] w fun e w'=>e=.returned (.tuple #[.int .i64 (i0:Int),.bool false])/\Below w.heap.size w w'):
 Calls prog 212 #[.slice A n c,.string id,.int .i64 size,.int .i64 first,.int .i64 now] w (aT A l ((l.map Prod.fst).take i0++I6 id size first now::(l.map Prod.fst).drop i0) (n+1) w):=by
 obtain⟨h6,GN,Jr⟩:=En he;have Qg:n<=6:=by rw[<-hp.len];exact h6
 have HF:=I Pz;have MH:∀p∈l,(DZ p).length<=64:=fun p hp=>dQ (GN p hp);have zz:=I MH;have ABW:=I (fun p hq=>((hp.ok p hq).2.2.2:(pid p).size<=maxLen));clear Pz GN Jr Ix MH;have HP:=I hp;have FK:=I hB;have HN:=I hp.len;have E0:=I (AI w);clear hp hB;have HE:=I he;have SQ:=I hi;have HV:=I hv;clear he hi hv;go_in;go_wp2_with fail
 refine(Lp A c B n l hm _ HE.out _ (HP.out.below E0.out.DI FK.out) (AG FK.out E0.out.DI.size)).mono ?_;rintro e' w1 ⟨rfl,C6⟩;have E1:=I (E0.out.below C6);clear C6;go_wp2_with fail
 refine(Gt id hid _).mono ?_;rw[SQ.out];rintro e' w' ⟨rfl,rfl⟩;go_wp2_with (go_at_call 205;(with_reducible refine(I7 first _ HV.out _).mono ?_);rintro e' w' ⟨rfl,rfl⟩)
 refine(HF.out _ (HP.out.below E1.out.DI FK.out) (AG FK.out E1.out.DI.size)).mono ?_;rintro e' w3 ⟨rfl,DT⟩;have E3:=I (E1.out.below DT);clear DT
 go_upto_region 14 with fail
 have sw:=E3.out.DI.size;have gQ:=(E3.out.lay #[.int .i64 first] 3).lay (Dp (I6 id size first now,some ⟨w3.heap.size,0,none⟩,1)).toArray 187;rw[show(w3.alloc (.cells #[.int .i64 first] 3)).heap.size=w3.heap.size+1 by simp]at gQ;have E4:=I gQ;clear gQ;simp only[Dp,I6,pid,LS,LR,Iz,Ed,Tb,DZ,Do,AP,CZ,CH]at E4;have q4:((w3.alloc (.cells #[.int .i64 first] 3)).alloc (.cells #[.string id,.int .i64 0,.int .i64 0,.int .i64 0,.int .i64 size,.slice (some ⟨w3.heap.size,0,none⟩) 1 1,.int .i64 now] 187)).heap.size=w3.heap.size+2:=by simp
 generalize hW4:World.alloc (World.alloc w3 _) _=w4 at*;clear hW4;have Q4:=I q4;clear q4;have ZO:=I (show∀W,Below w4.heap.size w4 W->Calls prog 247 #[.slice A n c] W (ADM w4.heap.size l n W)from fun W h=>
  (XB A c B n l (by omega) zz.out _ (HP.out.below (E4.out.below h).DI FK.out) (AG FK.out (E4.out.below h).DI.size)).mono fun e w' ⟨A',c',l',h1,h2,h3,h4,h5⟩=>⟨A',c',l',h1,h2,DX h3 h.size,fun p hp=>DX (h4 p hp) h.size,h5,fun k hk=>h3.lt k hk⟩)
 have yV:=I (show∀W vb A7 c7 (l7:List C8),Below w4.heap.size w4 W->W.ownsRow w4.heap.size 187 7 (.slice A7 n c7) n (Dn l7)->Dz w4.heap.size W l7->DJ W vb 187 #[.string id,.int .i64 0,.int .i64 0,.int .i64 0,.int .i64 size,.slice (some ⟨w3.heap.size,0,none⟩) 1 1,.int .i64 now]->(Value.slice A7 n c7).ownBlock≠some vb->
  Calls prog 246 #[.slice A7 n c7,.int .i64 i0,.slice (some ⟨vb,0,none⟩) 1 1] W (AJP w4 n i0 (I6 id size first now,some ⟨w3.heap.size,0,none⟩,1) l7)from fun W vb A7 c7 l7 h0 h1 hv h2 h3=>
  (gO w4.heap.size n i0 vb A7 c7 (Dn l7) (Dp (I6 id size first now,some ⟨w3.heap.size,0,none⟩,1)) (by omega) Pr (IP l7) (SZ (I6 id size first now,some ⟨w3.heap.size,0,none⟩,1)) rfl W h1 h2 h3 h0.size).mono fun e w9 ⟨A9,c9,e1,e2,e3⟩=>
    ⟨A9,c9,e1,by rw[QA,<-M8];show w9.ownsRow _ _ _ _ _ (_++(Dp _++Dn (l7.drop i0)));rw[<-Mv];exact e2,hv.kept h1 (by decide) (by rw[T7];exact e3),h0.grown e3 h0.size (fun k hk=>(h1.lt k (by rw[T7];exact hk)).1)⟩)
 have HS:=I (show∀w',Below w4.heap.size w4 w'->(Below w4.heap.size w4 w'/\w'.cell? ⟨w3.heap.size+1,0,none⟩=some (.string id)/\w'.cell? ⟨w3.heap.size+1,1,none⟩=some (.int .i64 0)/\w'.cell? ⟨w3.heap.size+1,2,none⟩=some (.int .i64 0)/\w'.cell? ⟨w3.heap.size+1,3,none⟩=some (.int .i64 0)/\w'.cell? ⟨w3.heap.size+1,4,none⟩=some (.int .i64 size)/\w'.cell? ⟨w3.heap.size+1,5,none⟩=some (.slice (some ⟨w3.heap.size,0,none⟩) 1 1)/\w'.cell? ⟨w3.heap.size+1,6,none⟩=some (.int .i64 now))
  from fun w' h=>⟨h,(E4.out.below h).hd.cell 0,(E4.out.below h).hd.cell 1,(E4.out.below h).hd.cell 2,(E4.out.below h).hd.cell 3,(E4.out.below h).hd.cell 4,(E4.out.below h).hd.cell 5,(E4.out.below h).hd.cell 6⟩)
 go_region_held3 (fun w'=>Below w4.heap.size w4 w'/\w'.cell? ⟨w3.heap.size+1,0,none⟩=some (.string id)/\w'.cell? ⟨w3.heap.size+1,1,none⟩=some (.int .i64 0)/\w'.cell? ⟨w3.heap.size+1,2,none⟩=some (.int .i64 0)/\w'.cell? ⟨w3.heap.size+1,3,none⟩=some (.int .i64 0)/\w'.cell? ⟨w3.heap.size+1,4,none⟩=some (.int .i64 size)/\w'.cell? ⟨w3.heap.size+1,5,none⟩=some (.slice (some ⟨w3.heap.size,0,none⟩) 1 1)/\w'.cell? ⟨w3.heap.size+1,6,none⟩=some (.int .i64 now))
  ((refine HS.out _ ?_;repeat (with_reducible first|exact Kh|exact hL7|exact AA|refine Below.Gh ?_|refine AE ?_)))
  (first
    |(go_at_call 247;(with_reducible refine(ZO.out _ ?hb).mono ?_);(case hb=>repeat (with_reducible first|exact AA|refine Below.Gh ?_|refine AE ?_));rintro e' w7 ⟨A7,c7,l7,rfl,hm7,jB,hv7,Pp,AAl⟩;have hL7:Below w4.heap.size w4 w7:=Below.C9 (by repeat (with_reducible first|exact AA|refine Below.Gh ?_|refine AE ?_)) Pp)
    |(go_at_call 246;(with_reducible refine(yV.out _ _ _ _ l7 ?ia ?ib ?ic ?iq ?ie).mono ?_);(case ia=>repeat (with_reducible first|exact hL7|refine Below.Gh ?_|refine AE ?_));(case ib=>first|(with_reducible exact jB)|(with_reducible exact jB.alloc _)|exact jB.alloc _);(case ic=>first|(with_reducible exact hv7)|(with_reducible exact hv7.alloc _)|exact hv7.alloc _);(case iq=>first|(with_reducible exact DJ.new _ _ _)|exact(DJ.drew (DJ.new _ _ _)).below Pp (by simp)|exact(DJ.new _ _ _).below Pp (by simp));(case ie=>first|(with_reducible exact(fun hk=>absurd (AAl _ hk).2 (AT6 _)))|exact(fun hk=>absurd (AAl _ hk).1 (by simp)));rintro e' w9 ⟨A9,c9,rfl,Db,vC,Kh⟩))
 all_goals
  have E9:=E4.out.below Kh;have AH0:=Ec Db;have AD8:w.heap.size<=w4.heap.size:=by have:=Q4.out;omega
  have hl7:l7.length=n:=by have:=Ae List.length hm7;simpa [HN.out] using this
  have Eg:w9.ownsRow w.heap.size 3 1 (.slice (some ⟨w3.heap.size,0,none⟩) 1 1) 1 (DF [first]):=⟨rfl,.inr ⟨w3.heap.size,1,#[.int .i64 first],rfl,sw,E9.tl.hd,AB,by unfold maxLen;omega,rfl,rfl⟩⟩;obtain⟨g,c',Rq,S0,-⟩:=Eu Db (by omega);injection Rq with Rq yS tH
  subst Rq tH;have uN:Dz w.heap.size w9 (l7.take i0++(I6 id size first now,some ⟨w3.heap.size,0,none⟩,1)::l7.drop i0):=fun p hp=>by
   rcases Au.1 hp with h|h
   ·exact DX (vC p (Be h)) AD8
   ·rcases AR.1 h with rfl|h
    ·exact Eg
    ·exact DX (vC p (Cx h)) AD8
  have hi7:∀p∈l7,(pid p).size<=maxLen:=fun p hp4=>by
   have ZP:p.1∈l7.map Prod.fst:=BD.2 ⟨p,hp4,rfl⟩;rw[hm7]at ZP;obtain⟨q,hq,hqe⟩:=BD.1 ZP;show p.1.1.size<=maxLen;rw[<-hqe];exact ABW.out q hq
  have cF:∀p∈(l7.take i0++(I6 id size first now,some ⟨w3.heap.size,0,none⟩,1)::l7.drop i0),(pid p).size<=maxLen:=fun p hp=>by
   rcases Au.1 hp with h|h
   ·exact hi7 p (Be h)
   ·rcases AR.1 h with rfl|h
    ·exact hid
    ·exact hi7 p (Cx h)
  have M9:=I (show(l7.take i0++(I6 id size first now,some ⟨w3.heap.size,0,none⟩,1)::l7.drop i0).map Prod.fst=(l.map Prod.fst).take i0++I6 id size first now::(l.map Prod.fst).drop i0 by rw[BP,CN,AT7,AT8,hm7]);have P9:=I (show Dq w9 w9.heap.size (some ⟨g,0,none⟩) (n+1) (l7.take i0++(I6 id size first now,some ⟨w3.heap.size,0,none⟩,1)::l7.drop i0)from⟨by simp[hl7];omega,Reads.DR Db,uN.ok cF⟩);have K9:=I (Si (A0:=A) (l0:=l) (w:=w) (show w.heap.size<=g by omega) uN);have B9:=I E9.DI;clear Db vC Kh E9 Eg uN cF hi7 hm7 jB hv7 Pp AAl hL7 ZO yV HS yS hl7;go_wp2;refine AF (v:=.tuple #[.slice (some ⟨g,0,none⟩) (n+1) c9,.int .i64 0]) (by simp[results,results212,go_sem]) rfl ⟨_,_,_,rfl,M9.out,P9.out,B9.out,AH0,K9.out⟩
instance (size first now:Int):Decidable (J1 size first now):=by unfold J1;infer_instance
def LF(D:List D0)(id:ByteArray):Nat:=(D.takeWhile fun d=>Ea d.1 id).length
def Rx(D:List D0)(id:ByteArray)(size first now:Int):Int:=if JK id=false then 3 else if J1 size first now then 1 else if (idxOf D id).isSome=true then 5 else if D.length=6 then 10 else 0
def Ut(D:List D0)(id:ByteArray)(size first now:Int):List D0:=D.take (LF D id)++I6 id size first now::D.drop (LF D id)
theorem ry{D:List D0}{id:ByteArray}:∀(i:Nat),i<=D.length->(∀j,(hj:j<D.length)->j<i->Ea (D[j]'hj).1 id=true)->(∀j,(hj:j<D.length)->i<=j->Ea (D[j]'hj).1 id=false)->LF D id=i:=by
 unfold LF;induction D with
 |nil=>intro i hi _ _;simp at hi;subst hi;rfl
 |cons d D ih=>
  intro i hi h1 h2;cases i with
  |zero=>
   have:=h2 0 (by simp) AB;simp only[List.getElem_cons_zero]at this;simp[List.takeWhile_cons,this]
  |succ i=>
   have:=h1 0 (by simp) (by omega);simp only[List.getElem_cons_zero]at this;simp only[List.takeWhile_cons,this,if_true,AP];rw[ih i (by simpa using hi) (fun j hj hji=>by have:=h1 (j+1) (by simpa using hj) (by omega);simpa using this) (fun j hj nE=>by have:=h2 (j+1) (by simpa using hj) (by omega);simpa using this)]
theorem kP{l:List C8}{D:List D0}{id:ByteArray}(hm:l.map Prod.fst=D)(h:idxOf D id=none):∀j,(hj:j<l.length)->pid (l[j]'hj)≠id:=by
 subst hm;intro j hj e;exact Ot h j (by simpa using hj) (by simpa using e)
def O8(A:Option Addr)(l:List C8)(D:List D0)(id:ByteArray)(size first now:Int)(w:World)(x:Ending)(w':World):Prop:=
 if Rx D id size first now=0 then aT A l (Ut D id size first now) (D.length+1) w x w' else OQ (Rx D id size first now) w x w'
theorem eU{size first now:Int}(h:¬J1 size first now):1<=size/\size<=64/\wi first 0 16777216=true/\0<=now/\now<=1073741824:=by
 unfold J1 at h;have q1:¬size<1:=fun e=>h (.inl e);have q2:¬64<size:=fun e=>h (.inr (.inl e));have q3:wi first 0 16777216=true:=by
  cases hv:wi first 0 16777216
  ·exact absurd (.inr (.inr (.inl ⟨by omega,by omega,hv⟩))) h
  ·rfl
 have q4:¬now<0:=fun e=>h (.inr (.inr (.inr (.inl ⟨by omega,by omega,q3,e⟩))));exact⟨by omega,by omega,q3,by omega,Int.not_lt.1 fun e=>h (.inr (.inr (.inr (.inr ⟨by omega,by omega,q3,by omega,e⟩))))⟩
theorem Uw{A:Option Addr}{c n:Nat}{l:List C8}{D:List D0}{id:ByteArray}(hm:l.map Prod.fst=D)(ho:TV D)(hn:l.length=n)(Ix:idxOf D id=none):
 LF D id<=n/\(∀j,(hj:j<l.length)->j<LF D id->Ea (pid (l[j]'hj)) id=true)/\(∀j,(hj:j<l.length)->LF D id<=j->Ea (pid (l[j]'hj)) id=false)/\∀(B:Nat)(w:World)(hp:Dq w B A n l)(hB:B<=w.heap.size),
  Calls prog 245 #[.slice A n c,.string id] w fun e w'=>e=.returned (.tuple #[.int .i64 (LF D id:Int),.bool false])/\Below w.heap.size w w':=by
 have he:GH l=0:=by rw[Kr,hm];exact ho.zero
 obtain⟨h6,GN,Jr⟩:=En he;have hnl:=kP hm Ix;obtain⟨i1,h1,h2,h3,-⟩:=Rw A c 0 n l Jr id hnl hn (by omega);have hi:LF D id=i1:=by
  subst hm;exact ry i1 (by rw[Ak];omega) (fun j hj hji=>by have:=h2 j (by simpa using hj) hji;simpa using this) (fun j hj nE=>by have:=h3 j (by simpa using hj) nE;simpa using this)
 rw[hi];exact⟨h1,h2,h3,fun B w hp hB=>YG A c B n l id i1 false h1 (by omega) h2 h3 ⟨fun h=>(by cases h),fun⟨hj,h⟩=>absurd h (hnl i1 hj)⟩ w hp hB⟩
theorem cx(A:Option Addr)(c B n:Nat)(l:List C8)(D:List D0)(hm:l.map Prod.fst=D)(ho:TV D)(Qj:n<=c/\c<=maxLen)(id:ByteArray)(hid:id.size<=maxLen)(size first now:Int)(w:World)(hp:Dq w B A n l)(hB:B<=w.heap.size):
 Calls prog 212 #[.slice A n c,.string id,.int .i64 size,.int .i64 first,.int .i64 now] w (O8 A l D id size first now w):=by
 have hn:D.length=n:=by rw[<-hm,Ak];exact hp.len
 have Nc:n<=maxLen:=AG Qj.1 Qj.2;have he:GH l=0:=by rw[Kr,hm];exact ho.zero
 unfold O8 Rx;by_cases hi:JK id=false
 ·rw[AD hi];exact zd A c B n l Nc id hid size first now w hp hB he hi
 rw[AC hi];have hi:JK id=true:=by simpa using hi
 by_cases Fg:J1 size first now
 ·rw[AD Fg];exact wS A c B n l Nc id hid size first now w hp hB he hi Fg
 rw[AC Fg];obtain⟨s0,s1,wY,n0,n1⟩:=eU Fg;cases hx:idxOf D id with
 |some k=>
  obtain⟨hk,h1,h2⟩:=Hk hx;rw[AD (show(some k).isSome=true from rfl)];have ES:k<l.length:=by rw[hp.len];omega
  exact mF A c B n l Nc id hid size first now w hp hB he hi s0 s1 wY n0 n1 k ES (by subst hm;simpa using h1)
 |none=>
  rw[AC (by simp)];by_cases h6:D.length=6
  ·rw[AD h6]
   exact rG A c B n l Nc id hid size first now w hp hB he hi s0 s1 wY n0 n1 (kP hm hx) (by omega)
  ·rw[AC h6]
   obtain⟨f1,f2,f3,f4⟩:=Uw (A:=A) (c:=c) hm ho hp.len hx;have:=zW A c B n l Nc id hid size first now w hp hB he hi s0 s1 wY n0 n1 (kP hm hx) (by have:=ho.yF;omega) (LF D id) f1 (fun w hp hB=>f4 B w hp hB)
   rw[hm]at this;rw[hn];refine this.mono fun x w' h=>?_;rw[AD rfl];exact h
theorem td{D:List D0}{id:ByteArray}{size first now:Int}(ho:TV D)(he:Rx D id size first now=0):TV (Ut D id size first now):=by
 unfold Rx at he;by_cases hi:JK id=false
 ·rw[AD hi]at he;cases he
 rw[AC hi]at he;have hi:JK id=true:=by simpa using hi
 by_cases Fg:J1 size first now
 ·rw[AD Fg]at he;cases he
 rw[AC Fg]at he;obtain⟨s0,s1,wY,n0,n1⟩:=eU Fg;cases hx:idxOf D id with
 |some k=>rw[hx,AD (show(some k).isSome=true from rfl)]at he;cases he
 |none=>
  rw[hx,AC (by simp)]at he;by_cases h6:D.length=6
  ·rw[AD h6]at he;cases he
  have Tl:(D.map dpt).map Prod.fst=D:=by simp[Function.comp_def]
  obtain⟨f1,f2,f3,-⟩:=Uw (A:=none) (c:=0) Tl ho (by rw[Ak]) hx;have AI1:Qp (I6 id size first now):=by
   refine⟨hi,?_,?_,n0,n1⟩
   ·show GO 0 0 0;unfold GO;omega
   ·show Ih size [first]=0
    unfold Ih;rw[AD (DW.2 ⟨s0,s1⟩),AC (by simp;omega)];unfold EZ;rw[AC (by simp),AC (by simp[IM,wY])]
  have Vj:∀d∈D.take (LF D id),Ea d.1 id=true:=fun d hd=>by
   obtain⟨j,hj,rfl⟩:=AS6 hd;rw[AV]at hj;have:=f2 j (by rw[Ak];omega) (by omega)
   simpa using this
  have bK:∀d∈D.drop (LF D id),Ea id d.1=true:=fun d hd=>by
   obtain⟨j,hj,rfl⟩:=AS6 hd;rw[CX]at hj;have h:=f3 (LF D id+j) (by rw[Ak];omega) (by omega);simp only[List.getElem_drop];have GI:=Ot hx (LF D id+j) (by omega);rcases gI (by simpa using h)with h2|h2
   ·exact h2
   ·exact absurd ((PU _ _).1 h2.2).symm GI
  refine⟨by unfold Ut;rw[AN,AP,AV,CX];have:=ho.yF;omega,fun d hd=>?_,?_⟩
  ·rcases Au.1 hd with hd|hd
   ·exact ho.Fo d (Be hd)
   ·rcases AR.1 hd with rfl|hd
    ·exact AI1
    ·exact ho.Fo d (Cx hd)
  ·unfold Ut
   rw[List.pairwise_append,AS1];exact⟨ho.asc.sublist (List.take_sublist _ _),⟨bK,ho.asc.sublist (List.drop_sublist _ _)⟩,fun a ha b hb=>by
    rcases AR.1 hb with rfl|hb
    ·exact Vj a ha
    ·exact MA (Vj a ha) (bK b hb)⟩
theorem oj{D:List D0}{id:ByteArray}{size first now:Int}{d:D0}(h:d∈Ut D id size first now):d∈D\/d=I6 id size first now:=by
 unfold Ut at h;rcases Au.1 h with h|h
 ·exact .inl (Be h)
 ·rcases AR.1 h with h|h
  ·exact .inr h
  ·exact .inl (Cx h)
def Dh.Qb(s:Dh)(id:ByteArray)(ev:Int):Int:=if id=s.c.1 then 5 else Rx s.D id (JM s.c) ev s.now
def Dh.watched(s:Dh)(id:ByteArray)(ev:Int):Dh:=if s.Qb id ev=0 then {s with D:=Ut s.D id (JM s.c) ev s.now}else s
theorem Di.watched{s:Dh}(h:Di s)(id:ByteArray)(ev:Int):Di (s.watched id ev):=by
 unfold Dh.watched;split
 ·rename_i he
  unfold Dh.Qb at he;split at he
  ·cases he
  refine⟨h.id,h.cfg,h.Nm,h.Ny,h.bL,h.Ku,h.MJ,td h.ps he,fun d hd=>?_,h.eight,h.th⟩;rcases oj hd with hd|rfl
  ·exact h.pv d hd
  ·exact⟨AB,Ct _⟩
 ·exact h
def xI(X:Nat->Prop)(b:Nat)(s':Dh)(er:Int)(w:World)(e:Ending)(w':World):Prop:=e=.returned (.int .i64 er)/\FM (grow X w w') w' b s'/\Kept X w w'
theorem cD{w W:World}{A A':Option Addr}{l l':List C8}(h:Ki W A l A' l')(hs:w.heap.size<=W.heap.size):Ki w A l A' l':=fun P hP h0=>h P (fun k hk=>hP k (AG hs hk)) h0
theorem Q9{X:Nat->Prop}{w w1 w2:World}(h:w1.heap.size<=w2.heap.size):∀k,grow X w w1 k->grow X w w2 k:=fun k hk=>⟨hk.1,AJ hk.2 h⟩
section
variable{X:Nat->Prop}{w:World}{b pn pc:Nat}{A:Option Addr}{sv:Value}{l:List C8}{s:Dh}
theorem jp(h:Ft X w b A pn pc sv l s)(ev:Int):
 Calls prog 176 #[.pointer (some ⟨b,0,none⟩),.string s.c.1,.int .i64 ev] w (xI X b s 5 w):=by
 have HH:=I h;have FI:=h.DC.lt;have b0:=h.DC.cell 0;simp[ED]at b0;clear h;go_in;go_wp2;go_ret;exact⟨rfl,C0.at_ (C0.grow HH.out),AH _ _⟩
theorem po(h:Ft X w b A pn pc sv l s)(hg:Di s)(id:ByteArray)(hid:id.size<=maxLen)(ev:Int)(GI:id≠s.c.1)(er:Int)(he:Rx s.D id (JM s.c) ev s.now=er)(hz:er≠0):
 Calls prog 176 #[.pointer (some ⟨b,0,none⟩),.string id,.int .i64 ev] w (xI X b s er w):=by
 have HH:=I h;have HE:=I he;have FI:=h.DC.lt;have b0:=h.DC.cell 0;simp[ED]at b0;have heq:(id.toList==s.c.1.toList)=false:=YP GI;have HP:=I (show∀W,Below w.heap.size w W->Calls prog 212 #[.slice A pn pc,.string id,.int .i64 (JM s.c),.int .i64 ev,.int .i64 s.now] W (OQ er W)from fun W hw=>
  (cx A pc w.heap.size pn l s.D h.map hg.ps h.room id hid (JM s.c) ev s.now W (h.Fj.below hw AB) hw.size).mono fun x w' h=>by unfold O8 at h;rw[HE.out,AC hz]at h;exact h)
 have HS:=I (show∀w',Below w.heap.size w w'->(Below w.heap.size w w'/\w'.cell? ⟨b,8,none⟩=some (.slice A pn pc)/\w'.cell? ⟨b,3,none⟩=some (.int .i64 (JM s.c))/\w'.cell? ⟨b,5,none⟩=some (.int .i64 s.now))
  from fun w' h=>⟨h,(HH.out.DC.below h FI).cell 8,(HH.out.DC.below h FI).cell 3,(HH.out.DC.below h FI).cell 5⟩)
 clear h hg GI he;go_in
 go_upto_region 17 with fail
 clear b0 heq;go_region_held3 (fun w'=>Below w.heap.size w w'/\w'.cell? ⟨b,8,none⟩=some (.slice A pn pc)/\w'.cell? ⟨b,3,none⟩=some (.int .i64 (JM s.c))/\w'.cell? ⟨b,5,none⟩=some (.int .i64 s.now))
  ((refine HS.out _ ?_;repeat (with_reducible first|exact G8|exact AA|refine Below.Gh ?_|refine AE ?_)))
  ((go_at_call 212;(with_reducible refine(HP.out _ ?ia).mono ?_);(case ia=>repeat (with_reducible first|exact AA|refine Below.Gh ?_|refine AE ?_));rintro e' w3 ⟨rfl,DT⟩;have G8:Below w.heap.size w w3:=Below.C9 (by repeat (with_reducible first|exact AA|refine Below.Gh ?_|refine AE ?_)) DT))
 all_goals
  have E3:=I G8;clear G8 DT;go_wp2;all_goals first
   |(exfalso;omega)
   |(go_ret;exact⟨rfl,C0.at_ (C0.grow (C0.below HH.out E3.out)),.DU E3.out⟩)
theorem p8(h:Ft X w b A pn pc sv l s)(hg:Di s)(id:ByteArray)(hid:id.size<=maxLen)(ev:Int)(GI:id≠s.c.1)(er:Int)(he:Rx s.D id (JM s.c) ev s.now=er)(hz:er=0):
 Calls prog 176 #[.pointer (some ⟨b,0,none⟩),.string id,.int .i64 ev] w (xI X b {s with D:=Ut s.D id (JM s.c) ev s.now} 0 w):=by
 have HH:=I h;have HE:=I he;have FI:=h.DC.lt;have b0:=h.DC.cell 0;simp[ED]at b0;have heq:(id.toList==s.c.1.toList)=false:=YP GI;have HP:=I (show∀W,Below w.heap.size w W->Calls prog 212 #[.slice A pn pc,.string id,.int .i64 (JM s.c),.int .i64 ev,.int .i64 s.now] W (aT A l (Ut s.D id (JM s.c) ev s.now) (s.D.length+1) W)from fun W hw=>
  (cx A pc w.heap.size pn l s.D h.map hg.ps h.room id hid (JM s.c) ev s.now W (h.Fj.below hw AB) hw.size).mono fun x w' h=>by unfold O8 at h;rw[HE.out,AD hz]at h;exact h)
 have HS:=I (show∀w',Below w.heap.size w w'->(Below w.heap.size w w'/\w'.cell? ⟨b,8,none⟩=some (.slice A pn pc)/\w'.cell? ⟨b,3,none⟩=some (.int .i64 (JM s.c))/\w'.cell? ⟨b,5,none⟩=some (.int .i64 s.now))
  from fun w' h=>⟨h,(HH.out.DC.below h FI).cell 8,(HH.out.DC.below h FI).cell 3,(HH.out.DC.below h FI).cell 5⟩)
 clear h hg GI he;go_in
 go_upto_region 17 with fail
 clear b0 heq;go_region_held3 (fun w'=>Below w.heap.size w w'/\w'.cell? ⟨b,8,none⟩=some (.slice A pn pc)/\w'.cell? ⟨b,3,none⟩=some (.int .i64 (JM s.c))/\w'.cell? ⟨b,5,none⟩=some (.int .i64 s.now))
  ((refine HS.out _ ?_;repeat (with_reducible first|exact G8|exact AA|refine Below.Gh ?_|refine AE ?_)))
  ((go_at_call 212;(with_reducible refine(HP.out _ ?ia).mono ?_);(case ia=>repeat (with_reducible first|exact AA|refine Below.Gh ?_|refine AE ?_));rintro e' w3 ⟨A3,c3,l3,rfl,Vk,UG,DT,Th,IG⟩;have G8:Below w.heap.size w w3:=Below.C9 (by repeat (with_reducible first|exact AA|refine Below.Gh ?_|refine AE ?_)) DT))
 all_goals
  have E3:=I G8;have aM:b<w3.heap.size:=by have:=G8.size;omega
  have N3:=I (C0.below HH.out G8);have ox:=I (cD (w:=w) IG (by first|exact AB|(simp)));have NT:=I (C0.Pe (mk':=ED s.c s.now s.seq s.drops) (i:=8) HH.out E3.out UG Vk Th ox.out rfl);have KT:=I ((Kept.DU (X:=X) E3.out).setCell (a:=⟨b,8,none⟩) (.inl HH.out.xb) (.slice A3 (s.D.length+1) c3));have f8:=N3.out.DC.frozen 8;clear G8 DT Vk UG Th IG;go_wp2;all_goals first
   |(exfalso;omega)
   |(go_ret;exact⟨rfl,Fs.wide (C0.at_ NT.out) (Q9 (by simp[World.setCell])) (fun k hk=>hk.2),KT.out⟩)
theorem lL(h:Ft X w b A pn pc sv l s)(hg:Di s)(id:ByteArray)(hid:id.size<=maxLen)(ev:Int):
 Calls prog 176 #[.pointer (some ⟨b,0,none⟩),.string id,.int .i64 ev] w (xI X b (s.watched id ev) (s.Qb id ev) w):=by
 unfold Dh.watched Dh.Qb;by_cases hi:id=s.c.1
 ·rw[AD hi,AC (by decide)]
  subst hi;exact jp h ev
 ·rw[AC hi]
  by_cases hz:Rx s.D id (JM s.c) ev s.now=0
  ·rw[AD hz,hz];exact p8 h hg id hid ev hi _ rfl hz
  ·rw[AC hz];exact po h hg id hid ev hi _ rfl hz
end
def AD4(w:World)(A0:Option Addr)(l0:List C8)(D:List D0)(n:Nat)(A:Option Addr)(c:Nat)(w':World):Prop:=
 ∃l',l'.map Prod.fst=D/\Dq w' w'.heap.size A n l'/\Below w.heap.size w w'/\(n<=c/\c<=maxLen)/\Ki w A0 l0 A l'
def iX(w W:World)(A0:Option Addr)(l0:List C8)(D:List D0)(n:Nat)(e:Ending)(w':World):Prop:=∃A c,e=.returned (.slice A n c)/\AD4 w A0 l0 D n A c w'/\Below W.heap.size W w'
theorem mS{w w':World}{H n:Nat}{A0 A:Option Addr}{c:Nat}{xs:List Value}{l l':List C8}(ho:w'.ownsRow H 187 7 (.slice A n c) n xs)(hH:w.heap.size<=H)
 (hs:∀p∈l',0<(DZ p).length->∀a,p.2.1=some a->w.heap.size<=a.block\/∃q∈l,0<(DZ q).length/\q.2.1=some a):Ki w A0 l A l':=fun P hP h0=>
 ⟨fun _ a ha=>hP _ (AG hH (ho.lt a.block (by rw[T7,ha];rfl)).1),fun p hp hl a ha=>by
   rcases hs p hp hl a ha with h|⟨q,hq,hql,hqa⟩
   ·exact hP _ h
   ·exact h0.2 q hq hql a hqa⟩
theorem Reads.head{w:World}{B n k:Nat}{A:Option Addr}{l:List C8}(h:Reads w B 7 A n (Dn l))(hl:l.length=n)(hk:k<=n):Reads w B 7 A k (Dn (l.take k)):=by
 refine⟨by rw[M5,AV];omega,fun hn=>?_⟩;obtain⟨ad,e,hb,hc⟩:=h.2 (by omega);refine⟨ad,e,hb,fun j u hj=>hc j u ?_⟩;rw[<-M8,ASo]at hj;split at hj
 ·exact hj
 ·cases hj
theorem Reads.tail{w:World}{B n k cap:Nat}{A:Option Addr}{l:List C8}(h:Reads w B 7 A n (Dn l))(hk:k<=n)(hc:n<=cap):Reads w B 7 (if cap=k then A else A.map (·.add (k*7))) (n-k) (Dn (l.drop k)):=by
 rw[<-Mv];exact h.cut hk hc
theorem bM{w:World}{vr:Nat}{id:ByteArray}{size first now:Int}(hid:id.size<=maxLen)(hvr:DJ w vr 3 #[.int .i64 first]):Hn w w.heap.size (I6 id size first now,some ⟨vr,0,none⟩,1):=
 ⟨Reads.DR (base:=0) (e:=3) (c:=1) ⟨rfl,.inr ⟨vr,1,#[.int .i64 first],rfl,AM _,hvr,AB,by unfold maxLen;omega,rfl,rfl⟩⟩,AB,(show 1<=maxLen by unfold maxLen;omega),hid⟩
theorem DJ.ABj(W:World)(o:Obj)(t:TypeId)(cs:Array Value):DJ ((W.alloc o).alloc (.cells cs t)) (W.heap.size+1) t cs:=by
 have:=DJ.new (W.alloc o) t cs
 rwa [show(W.alloc o).heap.size=W.heap.size+1 by simp]at this
theorem YD(A A3:Option Addr)(c c3 B n k bs vb vr:Nat)(l:List C8)(Te:k<=n)(hn:n<=900)(id:ByteArray)(hid:id.size<=maxLen)(size first now:Int)(w W:World)(hw:Below w.heap.size w W)(hp:Dq w B A n l)(hB:B<=w.heap.size)
 (h3:Reads W B 7 A3 (n-k) (Dn (l.drop k))) (hvr:DJ W vr 3 #[.int .i64 first]) (AHc:w.heap.size<=vr) (hv:DJ W vb 187 (Dp (I6 id size first now,some ⟨vr,0,none⟩,1)).toArray)
 (hb:DJ W bs 167 #[.slice A k c,.slice (some ⟨vb,0,none⟩) 1 1,.slice A3 (n-k) c3]):
 Calls prog 225 #[.slice (some ⟨bs,0,none⟩) 3 3] W (iX w W A l ((l.map Prod.fst).take k++I6 id size first now::(l.map Prod.fst).drop k) (n+1)):=by
 have hpW:=hp.below hw hB;have hrv:=Reads.oR hv 7 1 rfl;have h0:∀s∈([(A,k,c,Dn (l.take k)),(some ⟨vb,0,none⟩,1,1,Dp (I6 id size first now,some ⟨vr,0,none⟩,1)),(A3,n-k,c3,Dn (l.drop k))]:List kr),Reads W W.heap.size 7 s.1 s.2.1 s.2.2.2/\(∀u∈s.2.2.2,u.oneCell'=true)/\s.2.1<=1000:=by
  have hBW:B<=W.heap.size:=AG hB hw.size;intro s hs;simp only[AR,CT,CU]at hs;rcases hs with rfl|rfl|rfl
  ·exact⟨(hpW.row.head hp.len Te).more hBW,IP _,by show k<=1000;omega⟩
  ·exact⟨hrv.more hv.lt,SZ _,(show(1:Nat)<=1000 by decide)⟩
  ·exact⟨h3.more hBW,IP _,by show n-k<=1000;omega⟩
 refine(d7 _ W.heap.size bs (by simp only[AP,CZ];omega) W h0 AB hb 3 rfl (n+1) (by simp[Me];omega) (Dn (l.take k++(I6 id size first now,some ⟨vr,0,none⟩,1)::l.drop k)) (by rw[QA];simp[Dn])).mono ?_;rintro e w9 ⟨A9,c9,rfl,Db,Ei⟩;have dy:=Ec Db;have FI:Below w.heap.size w w9:=hw.trans (Ei.mono hw.size);refine⟨A9,c9,rfl,⟨_,?_,⟨?_,Reads.DR Db,?_⟩,FI,dy,mS Db hw.size ?_⟩,Ei⟩
 ·rw[BP,CN,AT7,AT8]
 ·have:=hp.len;simp;omega
 ·intro p od
  rcases Au.1 od with h|h
  ·exact((hp.ok p (Be h)).below FI hB).more (AG hB FI.size)
  ·rcases AR.1 h with rfl|h
   ·exact bM hid (hvr.below Ei hvr.lt)
   ·exact((hp.ok p (Cx h)).below FI hB).more (AG hB FI.size)
 ·intro p od hl a ha
  rcases Au.1 od with h|h
  ·exact .inr ⟨p,Be h,hl,ha⟩
  ·rcases AR.1 h with rfl|h
   ·cases ha;exact .inl AHc
   ·exact .inr ⟨p,Cx h,hl,ha⟩
theorem Tr(x:Int)(b:Bool)(h:wi x 0 16777216=b)(w:World):
 Calls prog 140 #[.int .i64 x] w fun e w'=>e=.returned (.bool b)/\w=w':=by
 subst h;exact X0 x w
theorem vt(A:Option Addr)(c B n:Nat)(l:List C8)(hm:n<=maxLen)(id:ByteArray)(size first now:Int)(w:World)(hp:Dq w B A n l)(hB:B<=w.heap.size)(hi:JK id=false):
 Calls prog 188 #[.slice A n c,.string id,.int .i64 size,.int .i64 first,.int .i64 now] w (OQ 3 w):=by
 have HP:=I hp;have FK:=I hB;have HN:=I hp.len;have E0:=I (AI w);clear hp hB;have SQ:=I hi;clear hi;go_in;go_wp2_with fail
 refine(Lr id _).mono ?_;rw[SQ.out];rintro e' w1 ⟨rfl,C6⟩;have E1:=I (E0.out.below C6);clear C6;go_wp2;all_goals first
  |(exfalso;omega)
  |(refine AF (v:=.tuple #[.slice none 0 0,.int .i64 3]) (by simp[results,results188,go_sem]) rfl ⟨rfl,E1.out.DI⟩)
theorem qU(A:Option Addr)(c B n:Nat)(l:List C8)(hm:n<=maxLen)(id:ByteArray)(size first now:Int)(w:World)(hp:Dq w B A n l)(hB:B<=w.heap.size)(hi:JK id=true)(Fg:J1 size first now):
 Calls prog 188 #[.slice A n c,.string id,.int .i64 size,.int .i64 first,.int .i64 now] w (OQ 1 w):=by
 have HP:=I hp;have FK:=I hB;have HN:=I hp.len;have E0:=I (AI w);clear hp hB;have SQ:=I hi;clear hi;have DT:¬(wi size 1 64=true/\wi first 0 16777216=true/\wi now 0 1073741824=true):=by
  rintro⟨h1,h2,h3⟩;have h1:=DW.1 h1;have h3:=DW.1 h3;unfold J1 at Fg;rw[h2]at Fg;simp at Fg;omega
 clear Fg;obtain⟨b,hb⟩:∃b,wi first 0 16777216=b:=⟨_,rfl⟩
 have HV:=I hb;rw[hb]at DT;clear hb;cases jC:wi size 1 64<;>cases b<;>cases hwn:wi now 0 1073741824
 all_goals first
  |(exfalso;exact DT ⟨jC,rfl,hwn⟩)
  |(clear DT
    go_in;go_wp2_with fail
    refine(Lr id _).mono ?_;rw[SQ.out];rintro e' w1 ⟨rfl,C6⟩;have E1:=I (E0.out.below C6);clear C6;go_wp2_with (first
     |(go_at_call 53;(with_reducible refine(Fr _ _ _ _).mono ?_);rintro e w' ⟨rfl,rfl⟩)
     |(go_at_call 140;(with_reducible refine(Tr first _ HV.out _).mono ?_);rintro e w' ⟨rfl,rfl⟩)
     |(go_at_call 51;(with_reducible refine(JX _ _).mono ?_);rintro e w' ⟨rfl,rfl⟩))
    all_goals first
     |(exfalso;omega)
     |(refine AF (v:=.tuple #[.slice none 0 0,.int .i64 1]) (by simp[results,results188,go_sem]) rfl ⟨rfl,E1.out.DI⟩))
theorem et(A:Option Addr)(c B n:Nat)(l:List C8)(hm:n<=maxLen)(id:ByteArray)(size first now:Int)(w:World)(hp:Dq w B A n l)(hB:B<=w.heap.size)(hi:JK id=true)(PR:1<=size)(Ld:size<=64)(hv:wi first 0 16777216=true)(J0:0<=now)(Hc:now<=1073741824)(Qg:n<=6)(k:Nat)(hk:k<l.length)(Pz:∀(w:World)(hp:Dq w B A n l)(hB:B<=w.heap.size),Calls prog 147 #[.slice A n c,.string id] w fun e w'=>e=.returned (.int .i64 (k:Int))/\Below w.heap.size w w'):
 Calls prog 188 #[.slice A n c,.string id,.int .i64 size,.int .i64 first,.int .i64 now] w (OQ 5 w):=by
 have HF:=I Pz;clear Pz;have HP:=I hp;have FK:=I hB;have HN:=I hp.len;have E0:=I (AI w);clear hp hB;have SQ:=I hi;have HV:=I hv;have jC:wi size 1 64=true:=DW.2 ⟨PR,Ld⟩;have hwn:wi now 0 1073741824=true:=DW.2 ⟨J0,Hc⟩;clear hi hv;go_in;go_wp2_with fail
 refine(Lr id _).mono ?_;rw[SQ.out];rintro e' w1 ⟨rfl,C6⟩;have E1:=I (E0.out.below C6);clear C6;go_wp2_with (first
  |(go_at_call 53;(with_reducible refine(Fr _ _ _ _).mono ?_);rintro e w' ⟨rfl,rfl⟩)
  |(go_at_call 140;(with_reducible refine(Tr first _ HV.out _).mono ?_);rintro e w' ⟨rfl,rfl⟩)
  |(go_at_call 51;(with_reducible refine(JX _ _).mono ?_);rintro e w' ⟨rfl,rfl⟩))
 refine(HF.out _ (HP.out.below E1.out.DI FK.out) (AG FK.out E1.out.DI.size)).mono ?_;rintro e' w3 ⟨rfl,DT⟩;have E3:=I (E1.out.below DT);clear DT;go_wp2;all_goals first
  |(exfalso;omega)
  |(refine AF (v:=.tuple #[.slice none 0 0,.int .i64 5]) (by simp[results,results188,go_sem]) rfl ⟨rfl,E3.out.DI⟩)
theorem j6(A:Option Addr)(c B n:Nat)(l:List C8)(hm:n<=maxLen)(id:ByteArray)(size first now:Int)(w:World)(hp:Dq w B A n l)(hB:B<=w.heap.size)(hi:JK id=true)(PR:1<=size)(Ld:size<=64)(hv:wi first 0 16777216=true)(J0:0<=now)(Hc:now<=1073741824)(h6n:n=6)(Pz:∀(w:World)(hp:Dq w B A n l)(hB:B<=w.heap.size),Calls prog 147 #[.slice A n c,.string id] w fun e w'=>e=.returned (.int .i64 (-1))/\Below w.heap.size w w'):
 Calls prog 188 #[.slice A n c,.string id,.int .i64 size,.int .i64 first,.int .i64 now] w (OQ 10 w):=by
 have HF:=I Pz;clear Pz;have h6a:n<=6:=by omega
 have h6b:(5:Int)<(n:Int):=by omega
 clear h6n;have HP:=I hp;have FK:=I hB;have HN:=I hp.len;have E0:=I (AI w);clear hp hB;have SQ:=I hi;have HV:=I hv;have jC:wi size 1 64=true:=DW.2 ⟨PR,Ld⟩;have hwn:wi now 0 1073741824=true:=DW.2 ⟨J0,Hc⟩;clear hi hv;go_in;go_wp2_with fail
 refine(Lr id _).mono ?_;rw[SQ.out];rintro e' w1 ⟨rfl,C6⟩;have E1:=I (E0.out.below C6);clear C6;go_wp2_with (first
  |(go_at_call 53;(with_reducible refine(Fr _ _ _ _).mono ?_);rintro e w' ⟨rfl,rfl⟩)
  |(go_at_call 140;(with_reducible refine(Tr first _ HV.out _).mono ?_);rintro e w' ⟨rfl,rfl⟩)
  |(go_at_call 51;(with_reducible refine(JX _ _).mono ?_);rintro e w' ⟨rfl,rfl⟩))
 refine(HF.out _ (HP.out.below E1.out.DI FK.out) (AG FK.out E1.out.DI.size)).mono ?_;rintro e' w3 ⟨rfl,DT⟩;have E3:=I (E1.out.below DT);clear DT;go_wp2;all_goals first
  |(exfalso;omega)
  |(refine AF (v:=.tuple #[.slice none 0 0,.int .i64 10]) (by simp[results,results188,go_sem]) rfl ⟨rfl,E3.out.DI⟩)
theorem uP(A:Option Addr)(c B n:Nat)(l:List C8)(hm:n<=maxLen)(id:ByteArray)(size first now:Int)(w:World)(hp:Dq w B A n l)(hB:B<=w.heap.size)(hi:JK id=true)(PR:1<=size)(Ld:size<=64)(hv:wi first 0 16777216=true)(J0:0<=now)(Hc:now<=1073741824)(h6n:n<6)(Qj:n<=c)(j8:c<=maxLen)(Pz:∀(w:World)(hp:Dq w B A n l)(hB:B<=w.heap.size),Calls prog 147 #[.slice A n c,.string id] w fun e w'=>e=.returned (.int .i64 (-1))/\Below w.heap.size w w')(i0:Nat)(Pr:i0<=n)(Vj:∀j,(hj:j<l.length)->j<i0->Ea (pid (l[j]'hj)) id=true)(bK:∀j,(hj:j<l.length)->i0<=j->Ea (pid (l[j]'hj)) id=false):
 Calls prog 188 #[.slice A n c,.string id,.int .i64 size,.int .i64 first,.int .i64 now] w (aT A l ((l.map Prod.fst).take i0++I6 id size first now::(l.map Prod.fst).drop i0) (n+1) w):=by
 have HF:=I Pz;have ux:=I Vj;have xk:=I bK;clear Pz Vj bK;have HP:=I hp;have FK:=I hB;have HN:=I hp.len;have E0:=I (AI w);clear hp hB;have SQ:=I hi;have HV:=I hv;have jC:wi size 1 64=true:=DW.2 ⟨PR,Ld⟩;have hwn:wi now 0 1073741824=true:=DW.2 ⟨J0,Hc⟩;clear hi hv;unfold maxLen at j8;go_in;go_wp2_with fail
 refine(Lr id _).mono ?_;rw[SQ.out];rintro e' w1 ⟨rfl,C6⟩;have E1:=I (E0.out.below C6);clear C6;go_wp2_with (first
  |(go_at_call 53;(with_reducible refine(Fr _ _ _ _).mono ?_);rintro e w' ⟨rfl,rfl⟩)
  |(go_at_call 140;(with_reducible refine(Tr first _ HV.out _).mono ?_);rintro e w' ⟨rfl,rfl⟩)
  |(go_at_call 51;(with_reducible refine(JX _ _).mono ?_);rintro e w' ⟨rfl,rfl⟩))
 refine(HF.out _ (HP.out.below E1.out.DI FK.out) (AG FK.out E1.out.DI.size)).mono ?_;rintro e' w3 ⟨rfl,DT⟩;have E3:=I (E1.out.below DT);clear DT;go_wp2_with fail
 go_loop [12] (fun iv=>∃k:Nat,k<=i0/\iv=.int .i64 (k:Int)) (fun iv=>i0- (RowKit.intOf iv).toNat)
 case atStart=>exact⟨0,by omega,rfl⟩
 case round=>
  obtain⟨k,hk,rfl⟩:=hrel;by_cases DG:k<i0
  ·have ES:k<l.length:=by rw[HN.out];omega
   obtain⟨b,off,rfl,hb,EO⟩:=(HP.out.below E3.out.DI FK.out).addr (by omega);obtain⟨c0,c1,c2,c3,c4,c5,c6⟩:=EO k ES;have hq:=UD _ _ _ (ux.out k ES DG);clear EO;go_wp2;exact⟨⟨k+1,by omega,by simp⟩,by simp[RowKit.intOf];omega⟩
  ·obtain rfl:k=i0:=by omega
   have Mz:(k:Int)<=n:=by omega
   have hbc:(k:Int)<=c:=by omega
   by_cases Te:k<n
   ·have ES:k<l.length:=by rw[HN.out];omega
    obtain⟨b,off,rfl,hb,EO⟩:=(HP.out.below E3.out.DI FK.out).addr (by omega);obtain⟨c0,c1,c2,c3,c4,c5,c6⟩:=EO k ES;have hq:=UD _ _ _ (xk.out k ES AB);have ZH:¬c=k:=by omega
    clear EO
    go_upto_region 13 with fail
    have sw:=E3.out.DI.size;have gQ:=(E3.out.lay #[.int .i64 first] 3).lay (Dp (I6 id size first now,some ⟨w3.heap.size,0,none⟩,1)).toArray 187;rw[show(w3.alloc (.cells #[.int .i64 first] 3)).heap.size=w3.heap.size+1 by simp]at gQ;have E4:=I gQ;clear gQ;simp only[Dp,I6,pid,LS,LR,Iz,Ed,Tb,DZ,Do,AP,CZ,CH]at E4;generalize hW4:World.alloc (World.alloc w3 _) _=w4 at*;clear hW4;have WT:=I (show∀W A3 c3 bs vb,Below w.heap.size w W->Reads W B 7 A3 (n-k) (Dn (l.drop k))->DJ W w3.heap.size 3 #[.int .i64 first]->DJ W vb 187 #[.string id,.int .i64 0,.int .i64 0,.int .i64 0,.int .i64 size,.slice (some ⟨w3.heap.size,0,none⟩) 1 1,.int .i64 now]->DJ W bs 167 #[.slice (some ⟨b,off,none⟩) k c,.slice (some ⟨vb,0,none⟩) 1 1,.slice A3 (n-k) c3]->Calls prog 225 #[.slice (some ⟨bs,0,none⟩) 3 3] W (iX w W (some ⟨b,off,none⟩) l ((l.map Prod.fst).take k++I6 id size first now::(l.map Prod.fst).drop k) (n+1))from fun W A3 c3 bs vb h1 h2 h3 h4 h5=>
     YD _ A3 c c3 B n k bs vb w3.heap.size l Pr (by omega) id (by have:=(Mx SQ.out).2;unfold maxLen;omega) size first now w W h1 HP.out FK.out (by rw[show n-k=n-k by omega];exact h2) h3 sw h4 (by rw[show n-k=n-k by omega];exact h5))
    have HR:=I (show∀W,Below w.heap.size w W->Reads W B 7 (some ⟨b,off+k*7,none⟩) (n-k) (Dn (l.drop k))from fun W h1=>by
     have h:=(HP.out.below h1 FK.out).row.tail (k:=k) (cap:=c) Pr Qj;rw[AC ZH]at h
     simpa [Addr.add_lit] using h)
    have HS:=I (show∀w',Below w4.heap.size w4 w'->(Below w4.heap.size w4 w'/\w'.cell? ⟨w3.heap.size+1,0,none⟩=some (.string id)/\w'.cell? ⟨w3.heap.size+1,1,none⟩=some (.int .i64 0)/\w'.cell? ⟨w3.heap.size+1,2,none⟩=some (.int .i64 0)/\w'.cell? ⟨w3.heap.size+1,3,none⟩=some (.int .i64 0)/\w'.cell? ⟨w3.heap.size+1,4,none⟩=some (.int .i64 size)/\w'.cell? ⟨w3.heap.size+1,5,none⟩=some (.slice (some ⟨w3.heap.size,0,none⟩) 1 1)/\w'.cell? ⟨w3.heap.size+1,6,none⟩=some (.int .i64 now))
     from fun w' h=>⟨h,(E4.out.below h).hd.cell 0,(E4.out.below h).hd.cell 1,(E4.out.below h).hd.cell 2,(E4.out.below h).hd.cell 3,(E4.out.below h).hd.cell 4,(E4.out.below h).hd.cell 5,(E4.out.below h).hd.cell 6⟩)
    go_region_held3 (fun w'=>Below w4.heap.size w4 w'/\w'.cell? ⟨w3.heap.size+1,0,none⟩=some (.string id)/\w'.cell? ⟨w3.heap.size+1,1,none⟩=some (.int .i64 0)/\w'.cell? ⟨w3.heap.size+1,2,none⟩=some (.int .i64 0)/\w'.cell? ⟨w3.heap.size+1,3,none⟩=some (.int .i64 0)/\w'.cell? ⟨w3.heap.size+1,4,none⟩=some (.int .i64 size)/\w'.cell? ⟨w3.heap.size+1,5,none⟩=some (.slice (some ⟨w3.heap.size,0,none⟩) 1 1)/\w'.cell? ⟨w3.heap.size+1,6,none⟩=some (.int .i64 now))
     ((refine HS.out _ ?_;repeat (with_reducible first|exact Kh|exact AA|refine Below.Gh ?_|refine AE ?_)))
     ((go_at_call 225;refine(WT.out _ _ _ _ _ (E4.out.below (AE (Below.Gh (Below.Gh AA)))).DI (HR.out _ (E4.out.below (AE (Below.Gh (Below.Gh AA)))).DI) (DJ.drew (((E4.out.tl.hd).alloc _).alloc _)) (DJ.drew ((DJ.new _ _ _).alloc _)) (DJ.drew (DJ.ABj _ _ _ _))).mono ?_;rintro e' w9 ⟨A9,c9,rfl,cH,Ze⟩;have Kh:Below w4.heap.size w4 w9:=Below.C9 (AE (Below.Gh (Below.Gh AA))) Ze))
    all_goals
     rename_i hheld;have vq:=I cH;clear cH Kh hheld Ze;go_wp2;obtain⟨l',k1,k2,k3,k4,k5⟩:=vq.out;refine AF (v:=.tuple #[.slice A9 (n+1) c9,.int .i64 0]) (by simp[results,results188,go_sem]) rfl ⟨A9,c9,l',rfl,k1,k2,k3,k4,k5⟩
   ·have hnk:¬((k:Int)<(n:Int)):=by omega
    have hz:n-k=0:=by omega
    by_cases hc:c=k
    ·obtain rfl:k=c:=hc.symm
     go_upto_region 13 with fail
     have sw:=E3.out.DI.size;have gQ:=(E3.out.lay #[.int .i64 first] 3).lay (Dp (I6 id size first now,some ⟨w3.heap.size,0,none⟩,1)).toArray 187;rw[show(w3.alloc (.cells #[.int .i64 first] 3)).heap.size=w3.heap.size+1 by simp]at gQ;have E4:=I gQ;clear gQ;simp only[Dp,I6,pid,LS,LR,Iz,Ed,Tb,DZ,Do,AP,CZ,CH]at E4;generalize hW4:World.alloc (World.alloc w3 _) _=w4 at*;clear hW4;have WT:=I (show∀W A3 c3 bs vb m,m=n-k->Below w.heap.size w W->Reads W B 7 A3 m (Dn (l.drop k))->DJ W w3.heap.size 3 #[.int .i64 first]->DJ W vb 187 #[.string id,.int .i64 0,.int .i64 0,.int .i64 0,.int .i64 size,.slice (some ⟨w3.heap.size,0,none⟩) 1 1,.int .i64 now]->DJ W bs 167 #[.slice A k k,.slice (some ⟨vb,0,none⟩) 1 1,.slice A3 m c3]->Calls prog 225 #[.slice (some ⟨bs,0,none⟩) 3 3] W (iX w W A l ((l.map Prod.fst).take k++I6 id size first now::(l.map Prod.fst).drop k) (n+1))from fun W A3 c3 bs vb m hm h1 h2 h3 h4 h5=>
      YD _ A3 k c3 B n k bs vb w3.heap.size l Pr (by omega) id (by have:=(Mx SQ.out).2;unfold maxLen;omega) size first now w W h1 HP.out FK.out (by rw[<-hm];exact h2) h3 sw h4 (by rw[<-hm];exact h5))
     have HR:=I (show∀W A3 m,m=n-k->Below w.heap.size w W->Reads W B 7 A3 m (Dn (l.drop k))from fun W A3 m hm _=>by
      obtain rfl:m=0:=by omega
      rw[Cu (by rw[HN.out];omega)];exact⟨rfl,fun h=>absurd h (by omega)⟩)
     have HZ:=I hz;clear hz;have HS:=I (show∀w',Below w4.heap.size w4 w'->(Below w4.heap.size w4 w'/\w'.cell? ⟨w3.heap.size+1,0,none⟩=some (.string id)/\w'.cell? ⟨w3.heap.size+1,1,none⟩=some (.int .i64 0)/\w'.cell? ⟨w3.heap.size+1,2,none⟩=some (.int .i64 0)/\w'.cell? ⟨w3.heap.size+1,3,none⟩=some (.int .i64 0)/\w'.cell? ⟨w3.heap.size+1,4,none⟩=some (.int .i64 size)/\w'.cell? ⟨w3.heap.size+1,5,none⟩=some (.slice (some ⟨w3.heap.size,0,none⟩) 1 1)/\w'.cell? ⟨w3.heap.size+1,6,none⟩=some (.int .i64 now))
      from fun w' h=>⟨h,(E4.out.below h).hd.cell 0,(E4.out.below h).hd.cell 1,(E4.out.below h).hd.cell 2,(E4.out.below h).hd.cell 3,(E4.out.below h).hd.cell 4,(E4.out.below h).hd.cell 5,(E4.out.below h).hd.cell 6⟩)
     go_region_held3 (fun w'=>Below w4.heap.size w4 w'/\w'.cell? ⟨w3.heap.size+1,0,none⟩=some (.string id)/\w'.cell? ⟨w3.heap.size+1,1,none⟩=some (.int .i64 0)/\w'.cell? ⟨w3.heap.size+1,2,none⟩=some (.int .i64 0)/\w'.cell? ⟨w3.heap.size+1,3,none⟩=some (.int .i64 0)/\w'.cell? ⟨w3.heap.size+1,4,none⟩=some (.int .i64 size)/\w'.cell? ⟨w3.heap.size+1,5,none⟩=some (.slice (some ⟨w3.heap.size,0,none⟩) 1 1)/\w'.cell? ⟨w3.heap.size+1,6,none⟩=some (.int .i64 now))
      ((refine HS.out _ ?_;repeat (with_reducible first|exact Kh|exact AA|refine Below.Gh ?_|refine AE ?_)))
      ((go_at_call 225;refine(WT.out _ _ _ _ _ _ (by have:=HZ.out;omega) (E4.out.below (AE (Below.Gh (Below.Gh AA)))).DI (HR.out _ _ _ (by have:=HZ.out;omega) (E4.out.below (AE (Below.Gh (Below.Gh AA)))).DI) (DJ.drew (((E4.out.tl.hd).alloc _).alloc _)) (DJ.drew ((DJ.new _ _ _).alloc _)) (DJ.drew (DJ.ABj _ _ _ _))).mono ?_;rintro e' w9 ⟨A9,c9,rfl,cH,Ze⟩;have Kh:Below w4.heap.size w4 w9:=Below.C9 (AE (Below.Gh (Below.Gh AA))) Ze))
     all_goals
      rename_i hheld;have vq:=I cH;clear cH Kh hheld Ze;go_wp2;obtain⟨l',k1,k2,k3,k4,k5⟩:=vq.out;refine AF (v:=.tuple #[.slice A9 (n+1) c9,.int .i64 0]) (by simp[results,results188,go_sem]) rfl ⟨A9,c9,l',rfl,k1,k2,k3,k4,k5⟩
    ·go_upto_region 13 with fail
     have sw:=E3.out.DI.size;have gQ:=(E3.out.lay #[.int .i64 first] 3).lay (Dp (I6 id size first now,some ⟨w3.heap.size,0,none⟩,1)).toArray 187;rw[show(w3.alloc (.cells #[.int .i64 first] 3)).heap.size=w3.heap.size+1 by simp]at gQ;have E4:=I gQ;clear gQ;simp only[Dp,I6,pid,LS,LR,Iz,Ed,Tb,DZ,Do,AP,CZ,CH]at E4;generalize hW4:World.alloc (World.alloc w3 _) _=w4 at*;clear hW4;have WT:=I (show∀W A3 c3 bs vb m,m=n-k->Below w.heap.size w W->Reads W B 7 A3 m (Dn (l.drop k))->DJ W w3.heap.size 3 #[.int .i64 first]->DJ W vb 187 #[.string id,.int .i64 0,.int .i64 0,.int .i64 0,.int .i64 size,.slice (some ⟨w3.heap.size,0,none⟩) 1 1,.int .i64 now]->DJ W bs 167 #[.slice A k c,.slice (some ⟨vb,0,none⟩) 1 1,.slice A3 m c3]->Calls prog 225 #[.slice (some ⟨bs,0,none⟩) 3 3] W (iX w W A l ((l.map Prod.fst).take k++I6 id size first now::(l.map Prod.fst).drop k) (n+1))from fun W A3 c3 bs vb m hm h1 h2 h3 h4 h5=>
      YD _ A3 c c3 B n k bs vb w3.heap.size l Pr (by omega) id (by have:=(Mx SQ.out).2;unfold maxLen;omega) size first now w W h1 HP.out FK.out (by rw[<-hm];exact h2) h3 sw h4 (by rw[<-hm];exact h5))
     have HR:=I (show∀W A3 m,m=n-k->Below w.heap.size w W->Reads W B 7 A3 m (Dn (l.drop k))from fun W A3 m hm _=>by
      obtain rfl:m=0:=by omega
      rw[Cu (by rw[HN.out];omega)];exact⟨rfl,fun h=>absurd h (by omega)⟩)
     have HZ:=I hz;clear hz;have HS:=I (show∀w',Below w4.heap.size w4 w'->(Below w4.heap.size w4 w'/\w'.cell? ⟨w3.heap.size+1,0,none⟩=some (.string id)/\w'.cell? ⟨w3.heap.size+1,1,none⟩=some (.int .i64 0)/\w'.cell? ⟨w3.heap.size+1,2,none⟩=some (.int .i64 0)/\w'.cell? ⟨w3.heap.size+1,3,none⟩=some (.int .i64 0)/\w'.cell? ⟨w3.heap.size+1,4,none⟩=some (.int .i64 size)/\w'.cell? ⟨w3.heap.size+1,5,none⟩=some (.slice (some ⟨w3.heap.size,0,none⟩) 1 1)/\w'.cell? ⟨w3.heap.size+1,6,none⟩=some (.int .i64 now))
      from fun w' h=>⟨h,(E4.out.below h).hd.cell 0,(E4.out.below h).hd.cell 1,(E4.out.below h).hd.cell 2,(E4.out.below h).hd.cell 3,(E4.out.below h).hd.cell 4,(E4.out.below h).hd.cell 5,(E4.out.below h).hd.cell 6⟩)
     go_region_held3 (fun w'=>Below w4.heap.size w4 w'/\w'.cell? ⟨w3.heap.size+1,0,none⟩=some (.string id)/\w'.cell? ⟨w3.heap.size+1,1,none⟩=some (.int .i64 0)/\w'.cell? ⟨w3.heap.size+1,2,none⟩=some (.int .i64 0)/\w'.cell? ⟨w3.heap.size+1,3,none⟩=some (.int .i64 0)/\w'.cell? ⟨w3.heap.size+1,4,none⟩=some (.int .i64 size)/\w'.cell? ⟨w3.heap.size+1,5,none⟩=some (.slice (some ⟨w3.heap.size,0,none⟩) 1 1)/\w'.cell? ⟨w3.heap.size+1,6,none⟩=some (.int .i64 now))
      ((refine HS.out _ ?_;repeat (with_reducible first|exact Kh|exact AA|refine Below.Gh ?_|refine AE ?_)))
      ((go_at_call 225;refine(WT.out _ _ _ _ _ _ (by have:=HZ.out;omega) (E4.out.below (AE (Below.Gh (Below.Gh AA)))).DI (HR.out _ _ _ (by have:=HZ.out;omega) (E4.out.below (AE (Below.Gh (Below.Gh AA)))).DI) (DJ.drew (((E4.out.tl.hd).alloc _).alloc _)) (DJ.drew ((DJ.new _ _ _).alloc _)) (DJ.drew (DJ.ABj _ _ _ _))).mono ?_;rintro e' w9 ⟨A9,c9,rfl,cH,Ze⟩;have Kh:Below w4.heap.size w4 w9:=Below.C9 (AE (Below.Gh (Below.Gh AA))) Ze))
     all_goals
      rename_i hheld;have vq:=I cH;clear cH Kh hheld Ze;go_wp2;obtain⟨l',k1,k2,k3,k4,k5⟩:=vq.out;refine AF (v:=.tuple #[.slice A9 (n+1) c9,.int .i64 0]) (by simp[results,results188,go_sem]) rfl ⟨A9,c9,l',rfl,k1,k2,k3,k4,k5⟩
