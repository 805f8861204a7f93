/- A heartbeat as bytes: wh -/
import Derived.Test.YthiplgekjgffkaaGreatDoorM12
import Derived.Test.YthiplgekjgffkaaGreatDoorM07
set_option maxRecDepth 100000
set_option maxHeartbeats 99000000
set_option linter.all false
namespace Go.Proofs.YthiplgekjgffkaaGreatDoor
open Go.Proofs.Tryz
open Go.RowKit Go.Lib
def ABV(a b:ByteArray):Sem Value:=Op.stringOp .add a b
@[go_sem ↓] theorem ACA (a b:ByteArray):Op.stringOp .add a b=ABV a b:=rfl
theorem D9{P:Program}(a b:ByteArray)(h:a.size+b.size<=1000000)(w:World):(ABV a b).run P w=.ok (.string (a++b)) w:=AUM w a b (by omega)
def Le(n:Int):ByteArray:=⟨#[u8 n]⟩
def Fk(n:Int):ByteArray:=⟨(b4 n).toArray⟩
theorem Ij(n:Int):(Fk n).size=4:=rfl
theorem Hv(n:Int):(Le n).size=1:=rfl
def cS:ByteArray:=⟨#[72]⟩
theorem JF:cS.size=1:=rfl
def encS(s:ByteArray)(inc seq:Int):ByteArray:=(((cS++Le s.size)++s)++Fk inc)++Fk seq
theorem PW(s:ByteArray)(inc seq:Int):(encS s inc seq).size=10+s.size:=by
 unfold encS;simp only[Aq,Ij,Hv,JF];omega
def Hx(t:ByteArray):Int:=((4294967295-Gw.upto t t.size:Nat):Int)
theorem jE(t:ByteArray):0<=Hx t/\Hx t<4294967296:=by unfold Hx;omega
def KF(s:ByteArray)(inc seq:Int):ByteArray:=encS s inc seq++Fk (Hx (encS s inc seq))
theorem iY(s:ByteArray)(hs:s.size<=8)(inc seq:Int)(i0:0<=inc)(i1:inc<=2147483647)(q0:0<=seq)(q1:seq<=2147483647)(w:World):
 Calls prog 189 #[.agg #[.string s,.int .i64 inc,.int .i64 seq]] w fun e w'=>e=.returned (.string (KF s inc seq))/\Below w.heap.size w w':=by
 have HF0:=I (show∀w,Calls prog 226 #[.int .i64 (s.size:Int),.int .i64 1] w fun e w'=>e=.returned (.string (Le s.size))/\Below w.heap.size w w' from fun w=>by
  have:=Kg 1 (s.size:Int) (by omega) (by omega) (by omega) w;rw[show bN 1 (s.size:Int)=[u8 s.size]by simp only[bN,Cm];rw[show((s.size:Nat):Int)%256=s.size by omega]]at this;exact this)
 have HF1:=I (show∀w,Calls prog 226 #[.int .i64 inc,.int .i64 4] w fun e w'=>e=.returned (.string (Fk inc))/\Below w.heap.size w w' from fun w=>by
  have:=Kg 4 inc (by omega) i0 (by omega) w;rw[ABM inc i0 (by omega)]at this;exact this)
 have Y4:=I (show∀w,Calls prog 226 #[.int .i64 seq,.int .i64 4] w fun e w'=>e=.returned (.string (Fk seq))/\Below w.heap.size w w' from fun w=>by
  have:=Kg 4 seq (by omega) q0 (by omega) w;rw[ABM seq q0 (by omega)]at this;exact this)
 have HCR:=I (show∀w,Calls prog 227 #[.string (encS s inc seq)] w fun e w'=>e=.returned (.int .i64 (Hx (encS s inc seq)))/\w=w' from fun w=>Yq (encS s inc seq) (by rw[PW];omega) w);have HF3:=I (show∀w,Calls prog 226 #[.int .i64 (Hx (encS s inc seq)),.int .i64 4] w fun e w'=>e=.returned (.string (Fk (Hx (encS s inc seq))))/\Below w.heap.size w w' from fun w=>by
  obtain⟨c0,c1⟩:=jE (encS s inc seq);have:=Kg 4 (Hx (encS s inc seq)) (by omega) c0 (by omega) w;rw[ABM _ c0 c1]at this;exact this)
 have uH:=D9 (P:=prog) cS (Le s.size) (by rw[JF,Hv];omega);have vy:=D9 (P:=prog) (cS++Le s.size) s (by simp only[Aq,Hv,JF];omega);have hA3:=D9 (P:=prog) ((cS++Le s.size)++s) (Fk inc) (by simp only[Aq,Ij,Hv,JF];omega);have hA4:=D9 (P:=prog) (((cS++Le s.size)++s)++Fk inc) (Fk seq) (by simp only[Aq,Ij,Hv,JF];omega);have hA5:=D9 (P:=prog) (encS s inc seq) (Fk (Hx (encS s inc seq))) (by rw[PW,Ij];omega);have HR:=I (show KF s inc seq=encS s inc seq++Fk (Hx (encS s inc seq))from rfl)
 have HE:=I (show encS s inc seq=(((cS++Le s.size)++s)++Fk inc)++Fk seq from rfl);rw[<-HE.out]at hA4;have vj:(⟨#[72]⟩:ByteArray)=cS:=rfl;have E:=I ((AI w).lay #[.string s,.int .i64 inc,.int .i64 seq] 226);generalize KF s inc seq=X5 at*;generalize Fk (Hx (encS s inc seq))=B3 at*;generalize Hx (encS s inc seq)=cv at*;generalize encS s inc seq=X4 at*;generalize Fk inc=B1 at*;generalize Fk seq=B2 at*;generalize Le s.size=C1 at*;generalize cS++C1=X1 at*;generalize X1++s=X2 at*;generalize X2++B1=X3 at*;rw[<-HR.out]at hA5;go_in
 go_upto_region 1 with fail
 generalize dA:World.alloc w _=W0 at*;clear dA;have HS:=I (show∀w',Below W0.heap.size W0 w'->(Below W0.heap.size W0 w'/\w'.cell? ⟨w.heap.size,0,none⟩=some (.string s)/\w'.cell? ⟨w.heap.size,1,none⟩=some (.int .i64 inc)/\w'.cell? ⟨w.heap.size,2,none⟩=some (.int .i64 seq))
  from fun w' h=>⟨h,(E.out.below h).hd.cell 0,(E.out.below h).hd.cell 1,(E.out.below h).hd.cell 2⟩)
 have Sm:True:=trivial;go_region_held3 (fun w'=>Below W0.heap.size W0 w'/\w'.cell? ⟨w.heap.size,0,none⟩=some (.string s)/\w'.cell? ⟨w.heap.size,1,none⟩=some (.int .i64 inc)/\w'.cell? ⟨w.heap.size,2,none⟩=some (.int .i64 seq))
  ((refine HS.out _ ?_;repeat (with_reducible first|exact G8|exact NI|exact jQ|exact AA|refine AE ?_)))
  (first
    |(go_at_call 226;(with_reducible refine(HF0.out _).mono ?_);rintro e' w1 ⟨rfl,C6⟩;have jQ:Below W0.heap.size W0 w1:=Below.Sx (by repeat (with_reducible first|exact AA|refine AE ?_)) C6)
    |(go_at_call 226;have _t:=Sm;(with_reducible refine(HF1.out _).mono ?_);rintro e' w2 ⟨rfl,DK⟩;have NI:Below W0.heap.size W0 w2:=Below.Sx (by repeat (with_reducible first|exact jQ|exact AA|refine AE ?_)) DK;clear Sm _t)
    |(go_at_call 226;(with_reducible refine(Y4.out _).mono ?_);rintro e' w3 ⟨rfl,DT⟩;have G8:Below W0.heap.size W0 w3:=Below.Sx (by repeat (with_reducible first|exact NI|refine AE ?_)) DT))
 rename_i hheld;have E1:=I (E.out.below hheld.1);clear hheld HS C6 DK DT jQ NI G8 HF0 HF1 Y4 E uH vy hA3 hA4;go_wp2_with fail
 refine(HCR.out _).mono ?_;rintro e' w' ⟨rfl,rfl⟩;go_wp2_with fail
 refine(HF3.out _).mono ?_;rintro e' w4 ⟨rfl,EL⟩;have E2:=I (E1.out.below EL);go_wp2;go_ret;exact⟨rfl,E2.out.DI⟩
theorem Xw(t:ByteArray)(h:t.size<=20000)(w:World):Calls prog 250 #[.string t] w fun e w'=>e=.returned (.tuple #[.int .i64 (Hx t),.int .i64 0])/\Below w.heap.size w w':=nC t h w
def JQ(s:ByteArray)(i q e:Int)(w:World)(x:Ending)(w':World):Prop:=
 x=.returned (.tuple #[.agg #[.string s,.int .i64 i,.int .i64 q],.int .i64 e])/\Below w.heap.size w w'
def vH(W0:World)(s:ByteArray)(i q:Int)(v:Value)(wx:World):Prop:=∃g,v=.pointer (some ⟨g,0,none⟩)/\W0.heap.size<=g/\Below W0.heap.size W0 wx/\DJ wx g 226 #[.string s,.int .i64 i,.int .i64 q]
theorem rR{W0 w5:World}{s:ByteArray}{i q:Int}(h:Below W0.heap.size W0 (w5.alloc (.cells #[.string s,.int .i64 i,.int .i64 q] 226)))(hw:W0.heap.size<=w5.heap.size):
 vH W0 s i q (.pointer (some ⟨w5.heap.size,0,none⟩)) (w5.alloc (.cells #[.string s,.int .i64 i,.int .i64 q] 226)):=⟨_,rfl,hw,h,DJ.new _ _ _⟩
theorem o0{W0 w5:World}{s:ByteArray}{i q:Int}{g:Nat}(h:Below W0.heap.size W0 (((w5.setCell ⟨g,0,none⟩ (.string s)).setCell ⟨g,1,none⟩ (.int .i64 i)).setCell ⟨g,2,none⟩ (.int .i64 q)))(hw:W0.heap.size<=g)(hg:∃a0 a1 a2,DJ w5 g 226 #[a0,a1,a2]):
 vH W0 s i q (.pointer (some ⟨g,0,none⟩)) (((w5.setCell ⟨g,0,none⟩ (.string s)).setCell ⟨g,1,none⟩ (.int .i64 i)).setCell ⟨g,2,none⟩ (.int .i64 q)):=by
 obtain⟨a0,a1,a2,hg⟩:=hg;exact⟨_,rfl,hw,h,((hg.De 0 _).De 1 _).De 2 _⟩
theorem PK{w W:World}{g:Nat}{cs:Array Value}(h:Env w W [(g,226,cs)])(hc:cs.size=3)(s:ByteArray)(i q:Int):
 Env w (((W.setCell ⟨g,0,none⟩ (.string s)).setCell ⟨g,1,none⟩ (.int .i64 i)).setCell ⟨g,2,none⟩ (.int .i64 q)) [(g,226,#[.string s,.int .i64 i,.int .i64 q])]:=by
 have hg:=(h.2 _ (Ay ..)).1;refine⟨((h.1.setCell (p:=⟨g,0,none⟩) hg _).setCell (p:=⟨g,1,none⟩) hg _).setCell (p:=⟨g,2,none⟩) hg _,fun x hx=>?_⟩;rcases AR.1 hx with rfl|hx
 ·refine⟨hg,?_⟩
  obtain⟨l⟩:=cs
  match l,hc with
  | [a,b,c],_=>exact((h.hd.De 0 (.string s)).De 1 (.int .i64 i)).De 2 (.int .i64 q)
 ·cases hx
theorem jM(s:ByteArray)(h:s.size<2)(w:World):Calls prog 215 #[.string s] w (JQ ⟨#[]⟩ 0 0 8 w):=by
 go_in;go_wp2;refine AF (v:=.tuple #[.agg #[.string ⟨#[]⟩,.int .i64 0,.int .i64 0],.int .i64 8]) (by simp[results,results215,go_sem]) rfl ⟨rfl,(AQ _ w).alloc AB _⟩
theorem AEa(s:ByteArray)(h1:1<s.size)(hH:(s[0]).toNat≠72)(w:World):Calls prog 215 #[.string s] w (JQ ⟨#[]⟩ 0 0 3 w):=by
 have hh:(((s[0]).toNat:Int)==72)=false:=by simp;omega
 have h2:¬(s.size:Int)<2:=by omega
 go_in;go_wp2;refine AF (v:=.tuple #[.agg #[.string ⟨#[]⟩,.int .i64 0,.int .i64 0],.int .i64 3]) (by simp[results,results215,go_sem]) rfl ⟨rfl,(AQ _ w).alloc AB _⟩
theorem zG(s:ByteArray)(h1:1<s.size)(hH:(s[0]).toNat=72)(hk:(s[1]).toNat=0)(w:World):Calls prog 215 #[.string s] w (JQ ⟨#[]⟩ 0 0 3 w):=by
 have Pr:((s[0]).toNat:Int)=72:=by omega
 have mo:((s[1]).toNat:Int)=0:=by omega
 have h2:¬(s.size:Int)<2:=by omega
 clear hH hk;go_in;go_wp2;refine AF (v:=.tuple #[.agg #[.string ⟨#[]⟩,.int .i64 0,.int .i64 0],.int .i64 3]) (by simp[results,results215,go_sem]) rfl ⟨rfl,(AQ _ w).alloc AB _⟩
theorem AAc(s:ByteArray)(k:Nat)(h1:1<s.size)(hH:(s[0]).toNat=72)(hk:(s[1]).toNat=k)(tZ:8<k)(w:World):Calls prog 215 #[.string s] w (JQ ⟨#[]⟩ 0 0 3 w):=by
 have zb:k<256:=by have:=BZ s[1];omega
 have Pr:((s[0]).toNat:Int)=72:=by omega
 have mo:((s[1]).toNat:Int)=(k:Int):=by omega
 have h2:¬(s.size:Int)<2:=by omega
 clear hH hk;go_in;go_wp2;refine AF (v:=.tuple #[.agg #[.string ⟨#[]⟩,.int .i64 0,.int .i64 0],.int .i64 3]) (by simp[results,results215,go_sem]) rfl ⟨rfl,(AQ _ w).alloc AB _⟩
theorem qG(s:ByteArray)(k:Nat)(h1:1<s.size)(hH:(s[0]).toNat=72)(hk:(s[1]).toNat=k)(LO:1<=k)(tZ:k<=8)(ER:s.size<14+k)(w:World):Calls prog 215 #[.string s] w (JQ ⟨#[]⟩ 0 0 8 w):=by
 have Pr:((s[0]).toNat:Int)=72:=by omega
 have mo:((s[1]).toNat:Int)=(k:Int):=by omega
 have h2:¬(s.size:Int)<2:=by omega
 clear hH hk;go_in;go_wp2;refine AF (v:=.tuple #[.agg #[.string ⟨#[]⟩,.int .i64 0,.int .i64 0],.int .i64 8]) (by simp[results,results215,go_sem]) rfl ⟨rfl,(AQ _ w).alloc AB _⟩
theorem oh(s:ByteArray)(k:Nat)(h1:1<s.size)(hH:(s[0]).toNat=72)(hk:(s[1]).toNat=k)(LO:1<=k)(tZ:k<=8)(ER:14+k<s.size)(w:World):Calls prog 215 #[.string s] w (JQ ⟨#[]⟩ 0 0 3 w):=by
 have Pr:((s[0]).toNat:Int)=72:=by omega
 have mo:((s[1]).toNat:Int)=(k:Int):=by omega
 have h2:¬(s.size:Int)<2:=by omega
 clear hH hk;go_in;go_wp2;refine AF (v:=.tuple #[.agg #[.string ⟨#[]⟩,.int .i64 0,.int .i64 0],.int .i64 3]) (by simp[results,results215,go_sem]) rfl ⟨rfl,(AQ _ w).alloc AB _⟩
theorem u6(s:ByteArray)(k:Nat)(h1:1<s.size)(hH:(s[0]).toNat=72)(hk:(s[1]).toNat=k)(LO:1<=k)(tZ:k<=8)(ER:s.size=14+k)(IE:Hx (s.extract 0 (10+k))≠FD s (10+k))(w:World):
 Calls prog 215 #[.string s] w (JQ ⟨#[]⟩ 0 0 9 w):=by
 have HC:=I (fun w=>Xw (s.extract 0 (10+k)) (by rw[CI];omega) w);have num:∀a,a+4<=s.size->∀w,Calls prog 252 #[.string (s.extract a (14+k))] w fun e w'=>e=.returned (.int .i64 (FD s a))/\Below w.heap.size w w':=fun a ha w=>by
  have:=VR (s.extract a (14+k)) (by rw[CI];omega) w;rw[NP s a (14+k) 0 (by omega) (by omega),AW]at this;exact this
 have HN:=I (num (10+k) (by omega));have ix:=I (num (2+k) (by omega));have iP:=I (num (6+k) (by omega));clear num;generalize Hx (s.extract 0 (10+k))=cv at*;generalize FD s (10+k)=nv at*;have GI:(cv==nv)=false:=by simpa using IE
 have Pr:((s[0]).toNat:Int)=72:=by omega
 have mo:((s[1]).toNat:Int)=(k:Int):=by omega
 have AAS:(s.size:Int)=14+k:=by omega
 have E:=I ((AI w).lay #[.string ⟨#[]⟩,.int .i64 0,.int .i64 0] 226);clear hH hk IE;go_in;go_wp2_with fail
 refine(HC.out _).mono ?_;rintro e' w1 ⟨rfl,C6⟩;have E1:=I (E.out.below C6);clear C6;go_wp2_with fail
 refine(HN.out _).mono ?_;rintro e' w2 ⟨rfl,DK⟩;have E2:=I (E1.out.below DK);clear DK E1 E;have r0:=E2.out.hd.cell 0;have r1:=E2.out.hd.cell 1;have r2:=E2.out.hd.cell 2;have f0:=E2.out.hd.frozen 0;have f1:=E2.out.hd.frozen 1;have f2:=E2.out.hd.frozen 2;have p0:=E2.out.hd.lt;simp at r0 r1 r2 p0;go_wp2;have EF:=I (PK E2.out rfl ⟨#[]⟩ 0 0);generalize ((w2.setCell ⟨w.heap.size,0,none⟩ (.string ⟨#[]⟩)).setCell ⟨w.heap.size,1,none⟩ (.int .i64 0)).setCell ⟨w.heap.size,2,none⟩ (.int .i64 0)=WF at EF⊢;have s0:=EF.out.hd.cell 0;have s1:=EF.out.hd.cell 1;have s2:=EF.out.hd.cell 2;simp at s0 s1 s2;refine AF (v:=.tuple #[.agg #[.string ⟨#[]⟩,.int .i64 0,.int .i64 0],.int .i64 9]) (by simp[results,results215,go_sem,s0,s1,s2]) rfl ⟨rfl,EF.out.DI⟩
theorem sS(s:ByteArray)(k:Nat)(h1:1<s.size)(hH:(s[0]).toNat=72)(hk:(s[1]).toNat=k)(LO:1<=k)(tZ:k<=8)(ER:s.size=14+k)(IE:Hx (s.extract 0 (10+k))=FD s (10+k))(t:ByteArray)(x y z:Int)(hr:(Em (s.extract 2 (2+k)) (FD s (2+k)) (FD s (6+k))≠0/\t=⟨#[]⟩/\x=0/\y=0/\z=3)\/(Em (s.extract 2 (2+k)) (FD s (2+k)) (FD s (6+k))=0/\t=s.extract 2 (2+k)/\x=FD s (2+k)/\y=FD s (6+k)/\z=0))(w:World):
 Calls prog 215 #[.string s] w (JQ t x y z w):=by
 have HC:=I (fun w=>Xw (s.extract 0 (10+k)) (by rw[CI];omega) w);have num:∀a,a+4<=s.size->∀w,Calls prog 252 #[.string (s.extract a (14+k))] w fun e w'=>e=.returned (.int .i64 (FD s a))/\Below w.heap.size w w':=fun a ha w=>by
  have:=VR (s.extract a (14+k)) (by rw[CI];omega) w;rw[NP s a (14+k) 0 (by omega) (by omega),AW]at this;exact this
 have HN:=I (num (10+k) (by omega));have ix:=I (num (2+k) (by omega));have iP:=I (num (6+k) (by omega));clear num;have HR:=I hr;clear hr;rw[<-IE]at HN;generalize Hx (s.extract 0 (10+k))=cv at*;generalize FD s (2+k)=n1 at*;generalize FD s (6+k)=n2 at*;have Pr:((s[0]).toNat:Int)=72:=by omega
 have mo:((s[1]).toNat:Int)=(k:Int):=by omega
 have AAS:(s.size:Int)=14+k:=by omega
 have E:=I ((AI w).lay #[.string ⟨#[]⟩,.int .i64 0,.int .i64 0] 226);clear hH hk IE;go_in;go_wp2_with fail
 refine(HC.out _).mono ?_;rintro e' w1 ⟨rfl,C6⟩;have E1:=I (E.out.below C6);clear C6;go_wp2_with fail
 refine(HN.out _).mono ?_;rintro e' w2 ⟨rfl,DK⟩;have E2:=I (E1.out.below DK);clear DK E1 E;have b1:IntKind.i64.wrap ((2:Int)+(k:Int))=(2:Int)+(k:Int):=by rw[Aj];omega
 have b2:IntKind.i64.wrap ((6:Int)+(k:Int))=(6:Int)+(k:Int):=by rw[Aj];omega
 have b3:(2:Int)<=(2:Int)+(k:Int):=by omega
 have b4:(2:Int)+(k:Int)<=(14:Int)+(k:Int):=by omega
 have b5:(6:Int)+(k:Int)<=(14:Int)+(k:Int):=by omega
 have b6:(0:Int)<=(2:Int)+(k:Int):=by omega
 have b7:(0:Int)<=(6:Int)+(k:Int):=by omega
 have b8:((2:Int)+(k:Int)).toNat=2+k:=by omega
 have b9:((6:Int)+(k:Int)).toNat=6+k:=by omega
 have b10:((14:Int)+(k:Int)).toNat=14+k:=by omega
 have b11:(2:Int)<=(14:Int)+(k:Int):=by omega
 have b12:(0:Int)<=(k:Int):=by omega
 go_upto_region 13 with fail
 go_cut [7] (fun s7 wx=>vH w2 (s.extract 2 (2+k)) n1 n2 s7 wx)
 case first=>
  go_region_held3 (fun w'=>Below w2.heap.size w2 w')
   (repeat (first|(with_reducible exact tz)|(with_reducible exact YO)|(with_reducible exact AA)|(with_reducible refine Below.tq ?_)|(with_reducible refine AE ?_)|((with_reducible refine AS3 ?_ ?_ _);rotate_left;·(first|omega|simp<;>omega))))
   (first
     |(go_at_call 252;(with_reducible refine(ix.out _).mono ?_);rintro e' w4 ⟨rfl,EL⟩;have sJ:=EL.size;(try simp at sJ);obtain⟨zJ,hf4⟩:=S8 EL;(try simp only[Az,World.heap_drew]at zJ);(try simp only[Az,World.heap_drew]at hf4);(try (have Wb:=ASm sJ));(try (have bB:=ASn Wb));have YO:Below w2.heap.size w2 w4:=Below.Sx (by repeat (with_reducible first|exact AA|refine Below.tq ?_|refine AE ?_)) EL)
     |(go_at_call 252;(with_reducible refine(iP.out _).mono ?_);rintro e' w5 ⟨rfl,Eh⟩;have Yf:=Eh.size;(try simp at Yf);obtain⟨hc5,x9⟩:=S8 Eh;(try simp only[Az,World.heap_drew]at hc5);(try simp only[Az,World.heap_drew]at x9);(try (have fV:=ASm Yf));(try (have vZ:=ASn fV));(try (have ZQ:=AJ Wb Yf));(try (have af:=AJ bB Yf));(try (have dq:=CB Wb fV));(try (have qm:=CB bB fV));have tz:Below w2.heap.size w2 w5:=Below.Sx (by repeat (with_reducible first|exact YO|exact AA|refine Below.tq ?_|refine AE ?_)) Eh))
  all_goals
   rename_i hheld;have DY:=hheld;clear hheld ix iP;go_wp2_with fail
   go_meet
   first
    |((with_reducible refine rR DY ?_);first|exact tz.size|exact YO.size|exact AB)
    |((with_reducible refine o0 DY ?_ ?_);·first|exact YO.size|exact AB
      first|exact⟨_,_,_,(DJ.new _ _ _).below Eh (by(first|omega|simp<;>omega))⟩|exact⟨_,_,_,(DJ.new _ _ _).drew.below Eh (by(first|omega|simp<;>omega))⟩|exact⟨_,_,_,((DJ.new _ _ _).below EL (by(first|omega|simp<;>omega))).below Eh (by(first|omega|simp<;>omega))⟩|exact⟨_,_,_,((DJ.new _ _ _).drew.below EL (by(first|omega|simp<;>omega))).below Eh (by(first|omega|simp<;>omega))⟩)
 case rest=>
  obtain⟨g,rfl,hg,DY,S0⟩:=hcut;have E3:=I (E2.out.below DY);have d0:=S0.cell 0;have d1:=S0.cell 1;have d2:=S0.cell 2;have dl:=S0.lt;simp at d0 d1 d2;clear DY ix iP;go_wp2_with fail
  refine(Ks (s.extract 2 (2+k)) (by rw[CI];unfold maxLen;omega) n1 n2 _).mono ?_;rcases HR.out with⟨hz,rfl,rfl,rfl,rfl⟩|⟨he,rfl,rfl,rfl,rfl⟩
  case' inl=>generalize Em (s.extract 2 (2+k)) n1 n2=er at hz⊢
  case' inr=>rw[he]
  all_goals
   rintro e' w6 ⟨rfl,XW⟩;have E4:=I (E3.out.below XW);have HG:=I (S0.below XW dl);clear S0 XW E3 E2 d0 d1 d2;have d0:=HG.out.cell 0;have d1:=HG.out.cell 1;have d2:=HG.out.cell 2;have dl:=HG.out.lt;simp at d0 d1 d2;have r0:=E4.out.hd.cell 0;have r1:=E4.out.hd.cell 1;have r2:=E4.out.hd.cell 2;have f0:=E4.out.hd.frozen 0;have f1:=E4.out.hd.frozen 1;have f2:=E4.out.hd.frozen 2;have p0:=E4.out.hd.lt;simp at r0 r1 r2 p0;go_wp2
  ·have EF:=I (PK E4.out rfl (s.extract 2 (2+k)) x y)
   generalize ((w6.setCell ⟨w.heap.size,0,none⟩ (.string (s.extract 2 (2+k)))).setCell ⟨w.heap.size,1,none⟩ (.int .i64 x)).setCell ⟨w.heap.size,2,none⟩ (.int .i64 y)=WF at EF⊢;have s0:=EF.out.hd.cell 0;have s1:=EF.out.hd.cell 1;have s2:=EF.out.hd.cell 2;simp at s0 s1 s2;refine AF (v:=.tuple #[.agg #[.string (s.extract 2 (2+k)),.int .i64 x,.int .i64 y],.int .i64 0]) (by simp[results,results215,go_sem,s0,s1,s2]) rfl ⟨rfl,EF.out.DI⟩
  ·have EF:=I (PK E4.out rfl ⟨#[]⟩ 0 0)
   generalize ((w6.setCell ⟨w.heap.size,0,none⟩ (.string ⟨#[]⟩)).setCell ⟨w.heap.size,1,none⟩ (.int .i64 0)).setCell ⟨w.heap.size,2,none⟩ (.int .i64 0)=WF at EF⊢;have s0:=EF.out.hd.cell 0;have s1:=EF.out.hd.cell 1;have s2:=EF.out.hd.cell 2;simp at s0 s1 s2;refine AF (v:=.tuple #[.agg #[.string ⟨#[]⟩,.int .i64 0,.int .i64 0],.int .i64 3]) (by simp[results,results215,go_sem,s0,s1,s2]) rfl ⟨rfl,EF.out.DI⟩
theorem UT(a:UInt8):u8 (a.toNat:Int)=a:=by simp[u8]
theorem zx(a b c d:UInt8):b4 (I2 [a,b,c,d])=[a,b,c,d]:=by
 have ha:=BZ a;have hb:=BZ b;have hc:=BZ c;have hd:=BZ d;have e:I2 [a,b,c,d]=256*(256*(256*(a.toNat:Int)+b.toNat)+c.toNat)+d.toNat:=by simp[I2]
 unfold b4;rw[show I2 [a,b,c,d]/16777216=(a.toNat:Int)by omega,show I2 [a,b,c,d]/65536%256=(b.toNat:Int)by omega,
  show I2 [a,b,c,d]/256%256=(c.toNat:Int)by omega,show I2 [a,b,c,d]%256=(d.toNat:Int)by omega,UT,UT,UT,UT]
theorem ep(s:ByteArray)(h:s.size=4):∃a b c d:UInt8,s=⟨#[a,b,c,d]⟩:=by
 obtain⟨⟨l⟩⟩:=s;have h:l.length=4:=h
 match l,h with
 | [a,b,c,d],_=>exact⟨a,b,c,d,rfl⟩
theorem one_byte(s:ByteArray)(h:s.size=1):∃a:UInt8,s=⟨#[a]⟩:=by
 obtain⟨⟨l⟩⟩:=s;have h:l.length=1:=h
 match l,h with
 | [a],_=>exact⟨a,rfl⟩
theorem AAx(s:ByteArray)(i:Nat)(h:i+4<=s.size):s.extract i (i+4)=Fk (FD s i):=by
 obtain⟨a,b,c,d,e⟩:=ep (s.extract i (i+4)) (by rw[CI];omega);have h0:=Es s i (i+4) 0 h (by omega);have h1:=Es s i (i+4) 1 h (by omega);have h2:=Es s i (i+4) 2 h (by omega);have h3:=Es s i (i+4) 3 h (by omega);rw[e]at h0 h1 h2 h3;unfold FD Fk;rw[AW]at h0;rw[<-h0,<-h1,<-h2,<-h3,e];show(⟨#[a,b,c,d]⟩:ByteArray)=⟨(b4 (I2 [a,b,c,d])).toArray⟩;rw[zx]
theorem ext1(s:ByteArray)(i:Nat)(h:i<s.size):s.extract i (i+1)=⟨#[s[i]]⟩:=by
 obtain⟨a,e⟩:=one_byte (s.extract i (i+1)) (by rw[CI];omega);have h0:=Es s i (i+1) 0 (by omega) (by omega);rw[e,AW,<-JT s i h]at h0;rw[e,<-h0];rfl
theorem yy(s:ByteArray)(k:Nat)(h1:1<s.size)(hH:(s[0]).toNat=72)(hk:(s[1]).toNat=k)(ER:s.size=14+k):
 encS (s.extract 2 (2+k)) (FD s (2+k)) (FD s (6+k))=s.extract 0 (10+k):=by
 have e0:cS=s.extract 0 1:=by
  rw[ext1 s 0 (by omega)];have:s[0]=72:=by apply CY.1;rw[hH];rfl
  rw[this];rfl
 have e1:Le ((s.extract 2 (2+k)).size:Int)=s.extract 1 2:=by
  rw[ext1 s 1 h1,CI,show min (2+k) s.size- 2=k by omega,<-hk];unfold Le;rw[UT]
 have e2:=AAx s (2+k) (by omega);have e3:=AAx s (6+k) (by omega);unfold encS;rw[e0,e1,<-e2,<-e3,show 2+k+4=6+k by omega,show 6+k+4=10+k by omega,
  <-ATe (i:=0) (k:=2) 1 (by omega) (by omega),
  <-ATe (i:=0) (k:=2+k) 2 (by omega) (by omega),
  <-ATe (i:=0) (k:=6+k) (2+k) (by omega) (by omega),
  <-ATe (i:=0) (k:=10+k) (6+k) (by omega) (by omega)]
theorem vh(s:ByteArray)(k:Nat)(h1:1<s.size)(hH:(s[0]).toNat=72)(hk:(s[1]).toNat=k)(ER:s.size=14+k)(IE:Hx (s.extract 0 (10+k))=FD s (10+k)):
 KF (s.extract 2 (2+k)) (FD s (2+k)) (FD s (6+k))=s:=by
 unfold KF;rw[yy s k h1 hH hk ER,IE,<-AAx s (10+k) (by omega),show 10+k+4=14+k by omega,
  <-ATe (i:=0) (k:=14+k) (10+k) (by omega) (by omega),<-ER,ByteArray.extract_zero_size]
def yB(x:Operand):Op:=Op.convert 42 9 x
theorem fw(x:Operand):Op.convert 42 9 x=yB x:=rfl
@[go_sem] theorem ABq (x:Operand):yB x=Op.convert 42 9 x:=rfl
theorem pN(s:ByteArray)(hs:s.size<=8)(inc seq:Int)(i0:0<=inc)(i1:inc<=2147483647)(q0:0<=seq)(q1:seq<=2147483647)(w:World):
 Calls prog 249 #[.agg #[.string s,.int .i64 inc,.int .i64 seq]] w fun e w'=>e=.returned (.string (encS s inc seq))/\Below w.heap.size w w':=by
 have HF1:=I (fun w=>VT inc i0 (by omega) w);have Y4:=I (fun w=>VT seq q0 (by omega) w);have uH:=D9 (P:=prog) cS (Le s.size) (by rw[JF,Hv];omega);have vy:=D9 (P:=prog) (cS++Le s.size) s (by simp only[Aq,Hv,JF];omega);have hA3:=D9 (P:=prog) ((cS++Le s.size)++s) (Fk inc) (by simp only[Aq,Ij,Hv,JF];omega);have hA4:=D9 (P:=prog) (((cS++Le s.size)++s)++Fk inc) (Fk seq) (by simp only[Aq,Ij,Hv,JF];omega);have HR:=I (show encS s inc seq=(((cS++Le s.size)++s)++Fk inc)++Fk seq from rfl)
 have HF1:=I (show∀w,Calls prog 251 #[.int .i64 inc] w fun e w'=>e=.returned (.string (Fk inc))/\Below w.heap.size w w' from HF1.out);have Y4:=I (show∀w,Calls prog 251 #[.int .i64 seq] w fun e w'=>e=.returned (.string (Fk seq))/\Below w.heap.size w w' from Y4.out);have u5:∀(X:World),(convert 42 9 (.slice (some ⟨X.heap.size,0,none⟩) 1 1)).run prog (X.alloc (.cells #[.int .u8 (s.size:Int)] 5))=.ok (.string (Le s.size)) (X.alloc (.cells #[.int .u8 (s.size:Int)] 5)):=
  fun X=>Gp [(s.size:Int)] (DJ.new X 5 _) 1 1 rfl
 have hcd:∀(X:World),(convert 42 9 (.slice (some ⟨X.heap.size,0,none⟩) 1 1)).run prog (X.alloc (.cells #[.int .u8 (s.size:Int)] 5)).drew=.ok (.string (Le s.size)) (X.alloc (.cells #[.int .u8 (s.size:Int)] 5)).drew:=
  fun X=>Gp [(s.size:Int)] (DJ.new X 5 _).drew 1 1 rfl
 have hcx:∀(X:World),(convert 42 9 (.slice (some ⟨X.heap.size,0,none⟩) 1 1)).run prog (X.drew.alloc (.cells #[.int .u8 (s.size:Int)] 5))=.ok (.string (Le s.size)) (X.drew.alloc (.cells #[.int .u8 (s.size:Int)] 5)):=
  fun X=>Gp [(s.size:Int)] (DJ.new X.drew 5 _) 1 1 rfl
 have hcy:∀(X:World),(convert 42 9 (.slice (some ⟨X.heap.size,0,none⟩) 1 1)).run prog (X.drew.alloc (.cells #[.int .u8 (s.size:Int)] 5)).drew=.ok (.string (Le s.size)) (X.drew.alloc (.cells #[.int .u8 (s.size:Int)] 5)).drew:=
  fun X=>Gp [(s.size:Int)] (DJ.new X.drew 5 _).drew 1 1 rfl
 have vj:(⟨#[72]⟩:ByteArray)=cS:=rfl;have xo:=I (show∀(W:World)(g:Nat),DJ W g 5 #[.int .u8 (s.size:Int)]->(convert 42 9 (.slice (some ⟨g,0,none⟩) 1 1)).run prog W=.ok (.string (Le s.size)) W from fun W g h=>Gp [(s.size:Int)] h 1 1 rfl);have hu8:IntKind.u8.wrap (s.size:Int)=(s.size:Int):=by rw[AS2];omega
 have E:=I ((AI w).lay #[.string s,.int .i64 inc,.int .i64 seq] 226);generalize Fk inc=B1 at*;generalize Fk seq=B2 at*;generalize Le s.size=C1 at*;generalize cS++C1=X1 at*;generalize X1++s=X2 at*;generalize X2++B1=X3 at*;generalize X3++B2=X4 at*;go_in
 go_upto_region 1 with fail
 generalize dA:World.alloc w _=W0 at*;clear dA;have p0:=E.out.hd.lt;have x0:=E.out.hd.cell 0;have x1:=E.out.hd.cell 1;have x2:=E.out.hd.cell 2;simp at x0 x1 x2;have HS:=I (show∀w',Below W0.heap.size W0 w'->(Below W0.heap.size W0 w'/\w'.cell? ⟨w.heap.size,0,none⟩=some (.string s)/\w'.cell? ⟨w.heap.size,1,none⟩=some (.int .i64 inc)/\w'.cell? ⟨w.heap.size,2,none⟩=some (.int .i64 seq))
  from fun w' h=>⟨h,(E.out.below h).hd.cell 0,(E.out.below h).hd.cell 1,(E.out.below h).hd.cell 2⟩)
 have Sm:True:=trivial;simp only[fw];go_region_held3 (fun w'=>Below W0.heap.size W0 w'/\w'.cell? ⟨w.heap.size,0,none⟩=some (.string s)/\w'.cell? ⟨w.heap.size,1,none⟩=some (.int .i64 inc)/\w'.cell? ⟨w.heap.size,2,none⟩=some (.int .i64 seq))
  ((refine HS.out _ ?_;repeat (with_reducible first|exact NI|exact jQ|exact AA|refine Below.tq ?_|refine AE ?_)))
  (first
    |(go_at_call 251;have _t:=Sm;(with_reducible refine(HF1.out _).mono ?_);rintro e' w1 ⟨rfl,C6⟩;(try (have Qi:=xo.out w1 _ ((DJ.new _ 5 _).below C6 (by simp))));(try (have Qi:=xo.out w1 _ ((DJ.new _ 5 _).drew.below C6 (by simp))));have jQ:Below W0.heap.size W0 w1:=Below.Sx (by repeat (with_reducible first|exact AA|refine AE ?_|refine Below.tq ?_)) C6;clear Sm _t)
    |(go_at_call 251;(with_reducible refine(Y4.out _).mono ?_);rintro e' w2 ⟨rfl,DK⟩;(try (have Rm:=xo.out w2 _ ((DJ.new _ 5 _).below DK (by simp))));(try (have Rm:=xo.out w2 _ (((DJ.new _ 5 _).below C6 (by simp)).below DK (by have:=C6.size;simp at this⊢;omega))));(try (have Rm:=xo.out w2 _ (((DJ.new _ 5 _).drew.below C6 (by simp)).below DK (by have:=C6.size;simp at this⊢;omega))));have NI:Below W0.heap.size W0 w2:=Below.Sx (by repeat (with_reducible first|exact jQ|exact AA|refine AE ?_|refine Below.tq ?_)) DK))
 all_goals
  rename_i hheld;have E1:=I (E.out.below hheld.1);clear hheld;go_wp2;refine AF (v:=.string (encS s inc seq)) (by rw[HR.out];simp[results,results249,go_sem]) rfl ⟨rfl,E1.out.DI⟩
theorem Fw{s:ByteArray}{inc seq:Int}(h:Em s inc seq=0):s.size<=8/\0<=inc/\inc<=2147483647/\1<=seq/\seq<=2147483647:=by
 unfold Em at h;split at h
 ·rename_i hi
  unfold JK at hi;simp only[Bf]at hi;have:=DW.1 hi.1;split at h
  ·exact⟨by omega,by assumption⟩
  ·simp at h
 ·simp at h
theorem ABp(s:ByteArray)(inc seq:Int)(he:Em s inc seq=0)(w:World):
 Calls prog 213 #[.agg #[.string s,.int .i64 inc,.int .i64 seq]] w fun x w'=>x=.returned (.tuple #[.string (KF s inc seq),.int .i64 0])/\Below w.heap.size w w':=by
 obtain⟨h8,i0,i1,q0,q1⟩:=Fw he;have HE:=I he;have hA:=D9 (P:=prog) (encS s inc seq) (Fk (Hx (encS s inc seq))) (by rw[PW,Ij];omega);have HCR:=I (show∀w,Calls prog 250 #[.string (encS s inc seq)] w fun e w'=>e=.returned (.tuple #[.int .i64 (Hx (encS s inc seq)),.int .i64 0])/\Below w.heap.size w w' from fun w=>nC (encS s inc seq) (by rw[PW];omega) w);have HF:=I (show∀w,Calls prog 251 #[.int .i64 (Hx (encS s inc seq))] w fun e w'=>e=.returned (.string (Fk (Hx (encS s inc seq))))/\Below w.heap.size w w' from fun w=>by
  obtain⟨c0,c1⟩:=jE (encS s inc seq);exact VT _ c0 c1 w)
 have HP:=I (fun w=>pN s h8 inc seq i0 i1 (by omega) q1 w);have HR:=I (show KF s inc seq=encS s inc seq++Fk (Hx (encS s inc seq))from rfl);have E:=I ((AI w).lay #[.string s,.int .i64 inc,.int .i64 seq] 226);generalize Fk (Hx (encS s inc seq))=B3 at*;generalize Hx (encS s inc seq)=cv at*;generalize encS s inc seq=X4 at*;clear he;go_in;go_wp2_with fail
 refine(Ks s (by unfold maxLen;omega) inc seq _).mono ?_;rw[HE.out];rintro e' w1 ⟨rfl,C6⟩;have E1:=I (E.out.below C6);clear C6;have a0:=E1.out.hd.cell 0;have a1:=E1.out.hd.cell 1;have a2:=E1.out.hd.cell 2;have p0:=E1.out.hd.lt;simp at a0 a1 a2 p0;go_wp2_with fail
 refine(HP.out _).mono ?_;rintro e' w2 ⟨rfl,DK⟩;have E2:=I (E1.out.below DK);clear DK;go_wp2_with fail
 refine(HCR.out _).mono ?_;rintro e' w3 ⟨rfl,DT⟩;have E3:=I (E2.out.below DT);clear DT;go_wp2_with fail
 refine(HF.out _).mono ?_;rintro e' w4 ⟨rfl,EL⟩;have E4:=I (E3.out.below EL);clear EL;go_wp2;refine AF (v:=.tuple #[.string (KF s inc seq),.int .i64 0]) (by rw[HR.out];simp[results,results213,go_sem]) rfl ⟨rfl,E4.out.DI⟩
theorem XE(s:ByteArray)(a b:Nat)(hb:b<=s.size)(h:b=a+4)(w:World):Calls prog 228 #[.string (s.extract a b)] w fun e w'=>e=.returned (.int .i64 (FD s a))/\w=w':=by
 have hs:(s.extract a b).size=4:=by rw[CI];omega
 have:=dj (s.extract a b) hs w;rw[mI _ hs,NP s a b 0 hb (by omega),AW]at this;exact this
theorem fG(s:ByteArray)(h:s.size<2)(w:World):Calls prog 190 #[.string s] w (JQ ⟨#[]⟩ 0 0 8 w):=by
 go_in;go_wp2;refine AF (v:=.tuple #[.agg #[.string ⟨#[]⟩,.int .i64 0,.int .i64 0],.int .i64 8]) (by simp[results,results190,go_sem]) rfl ⟨rfl,(AQ _ w).alloc AB _⟩
theorem ABg(s:ByteArray)(h1:1<s.size)(hH:(s[0]).toNat≠72)(w:World):Calls prog 190 #[.string s] w (JQ ⟨#[]⟩ 0 0 3 w):=by
 have hh:(((s[0]).toNat:Int)==72)=false:=by simp;omega
 have h2:¬(s.size:Int)<2:=by omega
 go_in;go_wp2;refine AF (v:=.tuple #[.agg #[.string ⟨#[]⟩,.int .i64 0,.int .i64 0],.int .i64 3]) (by simp[results,results190,go_sem]) rfl ⟨rfl,(AQ _ w).alloc AB _⟩
theorem xM(s:ByteArray)(h1:1<s.size)(hH:(s[0]).toNat=72)(hk:(s[1]).toNat=0)(w:World):Calls prog 190 #[.string s] w (JQ ⟨#[]⟩ 0 0 3 w):=by
 have Pr:((s[0]).toNat:Int)=72:=by omega
 have mo:((s[1]).toNat:Int)=0:=by omega
 have h2:¬(s.size:Int)<2:=by omega
 clear hH hk;go_in;go_wp2;refine AF (v:=.tuple #[.agg #[.string ⟨#[]⟩,.int .i64 0,.int .i64 0],.int .i64 3]) (by simp[results,results190,go_sem]) rfl ⟨rfl,(AQ _ w).alloc AB _⟩
theorem uT(s:ByteArray)(k:Nat)(h1:1<s.size)(hH:(s[0]).toNat=72)(hk:(s[1]).toNat=k)(tZ:8<k)(w:World):Calls prog 190 #[.string s] w (JQ ⟨#[]⟩ 0 0 3 w):=by
 have zb:k<256:=by have:=BZ s[1];omega
 have Pr:((s[0]).toNat:Int)=72:=by omega
 have mo:((s[1]).toNat:Int)=(k:Int):=by omega
 have h2:¬(s.size:Int)<2:=by omega
 clear hH hk;go_in;go_wp2;refine AF (v:=.tuple #[.agg #[.string ⟨#[]⟩,.int .i64 0,.int .i64 0],.int .i64 3]) (by simp[results,results190,go_sem]) rfl ⟨rfl,(AQ _ w).alloc AB _⟩
theorem lT(s:ByteArray)(k:Nat)(h1:1<s.size)(hH:(s[0]).toNat=72)(hk:(s[1]).toNat=k)(LO:1<=k)(tZ:k<=8)(ER:s.size<14+k)(w:World):Calls prog 190 #[.string s] w (JQ ⟨#[]⟩ 0 0 8 w):=by
 have hkz:((k:Int)==0)=false:=by simp;omega
 have hk9:¬(8:Int)<(k:Int):=by omega
 have Te:¬k=0:=by omega
 have Pr:((s[0]).toNat:Int)=72:=by omega
 have mo:((s[1]).toNat:Int)=(k:Int):=by omega
 have h2:¬(s.size:Int)<2:=by omega
 clear hH hk;go_in;go_wp2;refine AF (v:=.tuple #[.agg #[.string ⟨#[]⟩,.int .i64 0,.int .i64 0],.int .i64 8]) (by simp[results,results190,go_sem]) rfl ⟨rfl,(AQ _ w).alloc AB _⟩
theorem jP(s:ByteArray)(k:Nat)(h1:1<s.size)(hH:(s[0]).toNat=72)(hk:(s[1]).toNat=k)(LO:1<=k)(tZ:k<=8)(ER:14+k<s.size)(w:World):Calls prog 190 #[.string s] w (JQ ⟨#[]⟩ 0 0 3 w):=by
 have hkz:((k:Int)==0)=false:=by simp;omega
 have hk9:¬(8:Int)<(k:Int):=by omega
 have Te:¬k=0:=by omega
 have Pr:((s[0]).toNat:Int)=72:=by omega
 have mo:((s[1]).toNat:Int)=(k:Int):=by omega
 have h2:¬(s.size:Int)<2:=by omega
 clear hH hk;go_in;go_wp2;refine AF (v:=.tuple #[.agg #[.string ⟨#[]⟩,.int .i64 0,.int .i64 0],.int .i64 3]) (by simp[results,results190,go_sem]) rfl ⟨rfl,(AQ _ w).alloc AB _⟩
theorem oX(s:ByteArray)(k:Nat)(h1:1<s.size)(hH:(s[0]).toNat=72)(hk:(s[1]).toNat=k)(LO:1<=k)(tZ:k<=8)(ER:s.size=14+k)(IE:Hx (s.extract 0 (10+k))≠FD s (10+k))(w:World):
 Calls prog 190 #[.string s] w (JQ ⟨#[]⟩ 0 0 9 w):=by
 have HC:=I (show∀w,Calls prog 227 #[.string (s.extract 0 (10+k))] w fun e w'=>e=.returned (.int .i64 (Hx (s.extract 0 (10+k))))/\w=w' from fun w=>Yq (s.extract 0 (10+k)) (by rw[CI];omega) w);have HN:=I (fun w=>XE s (10+k) (14+k) (by omega) (by omega) w);have ix:=I (fun w=>XE s (2+k) (6+k) (by omega) (by omega) w);have iP:=I (fun w=>XE s (6+k) (10+k) (by omega) (by omega) w);generalize Hx (s.extract 0 (10+k))=cv at*;generalize FD s (10+k)=nv at*;have GI:(cv==nv)=false:=by simpa using IE
 have hkz:((k:Int)==0)=false:=by simp;omega
 have hk9:¬(8:Int)<(k:Int):=by omega
 have Te:¬k=0:=by omega
 have Pr:((s[0]).toNat:Int)=72:=by omega
 have mo:((s[1]).toNat:Int)=(k:Int):=by omega
 have AAS:(s.size:Int)=14+k:=by omega
 have c1:IntKind.i64.wrap ((2:Int)+(k:Int)+8)=(10:Int)+(k:Int):=by rw[Aj];omega
 have c2:IntKind.i64.wrap ((2:Int)+(k:Int)+4)=(6:Int)+(k:Int):=by rw[Aj];omega
 have c3:IntKind.i64.wrap ((2:Int)+(k:Int)+12)=(14:Int)+(k:Int):=by rw[Aj];omega
 have c4:IntKind.i64.wrap ((2:Int)+(k:Int))=(2:Int)+(k:Int):=by rw[Aj];omega
 have c5:(0:Int)<=(10:Int)+(k:Int):=by omega
 have c6:(10:Int)+(k:Int)<=(14:Int)+(k:Int):=by omega
 have c7:((10:Int)+(k:Int)).toNat=10+k:=by omega
 have b3:(2:Int)<=(2:Int)+(k:Int):=by omega
 have b4:(2:Int)+(k:Int)<=(14:Int)+(k:Int):=by omega
 have b5:(6:Int)+(k:Int)<=(14:Int)+(k:Int):=by omega
 have b6:(0:Int)<=(2:Int)+(k:Int):=by omega
 have b7:(0:Int)<=(6:Int)+(k:Int):=by omega
 have b8:((2:Int)+(k:Int)).toNat=2+k:=by omega
 have b9:((6:Int)+(k:Int)).toNat=6+k:=by omega
 have b10:((14:Int)+(k:Int)).toNat=14+k:=by omega
 have b11:(2:Int)<=(14:Int)+(k:Int):=by omega
 have b12:(0:Int)<=(k:Int):=by omega
 have b13:(2:Int)+(k:Int)<=(6:Int)+(k:Int):=by omega
 have b14:(6:Int)+(k:Int)<=(10:Int)+(k:Int):=by omega
 have E:=I ((AI w).lay #[.string ⟨#[]⟩,.int .i64 0,.int .i64 0] 226);clear hH hk IE;go_in
 go_upto_region 10 with fail
 generalize dA:World.alloc w _=W0 at*;clear dA;go_region_held3 (fun w'=>Below W0.heap.size W0 w')
  (repeat (with_reducible first|exact AA|refine AE ?_))
  (first
    |(go_at_call 227;(with_reducible refine(HC.out _).mono ?_);rintro e' w' ⟨rfl,rfl⟩)
    |(go_at_call 228;(with_reducible refine(HN.out _).mono ?_);rintro e' w' ⟨rfl,rfl⟩))
 rename_i hheld;have E2:=I (E.out.below hheld);clear hheld E;generalize World.drew W0=w2 at*;have r0:=E2.out.hd.cell 0;have r1:=E2.out.hd.cell 1;have r2:=E2.out.hd.cell 2;have f0:=E2.out.hd.frozen 0;have f1:=E2.out.hd.frozen 1;have f2:=E2.out.hd.frozen 2;have p0:=E2.out.hd.lt;simp at r0 r1 r2 p0;go_wp2;have EF:=I (PK E2.out rfl ⟨#[]⟩ 0 0);generalize ((w2.setCell ⟨w.heap.size,0,none⟩ (.string ⟨#[]⟩)).setCell ⟨w.heap.size,1,none⟩ (.int .i64 0)).setCell ⟨w.heap.size,2,none⟩ (.int .i64 0)=WF at EF⊢;have s0:=EF.out.hd.cell 0;have s1:=EF.out.hd.cell 1;have s2:=EF.out.hd.cell 2;simp at s0 s1 s2;refine AF (v:=.tuple #[.agg #[.string ⟨#[]⟩,.int .i64 0,.int .i64 0],.int .i64 9]) (by simp[results,results190,go_sem,s0,s1,s2]) rfl ⟨rfl,EF.out.DI⟩
theorem iL(s:ByteArray)(k:Nat)(h1:1<s.size)(hH:(s[0]).toNat=72)(hk:(s[1]).toNat=k)(LO:1<=k)(tZ:k<=8)(ER:s.size=14+k)(IE:Hx (s.extract 0 (10+k))=FD s (10+k))(t:ByteArray)(x y z:Int)(hr:(Em (s.extract 2 (2+k)) (FD s (2+k)) (FD s (6+k))≠0/\t=⟨#[]⟩/\x=0/\y=0/\z=3)\/(Em (s.extract 2 (2+k)) (FD s (2+k)) (FD s (6+k))=0/\t=s.extract 2 (2+k)/\x=FD s (2+k)/\y=FD s (6+k)/\z=0))(w:World):
 Calls prog 190 #[.string s] w (JQ t x y z w):=by
 have HC:=I (show∀w,Calls prog 227 #[.string (s.extract 0 (10+k))] w fun e w'=>e=.returned (.int .i64 (Hx (s.extract 0 (10+k))))/\w=w' from fun w=>Yq (s.extract 0 (10+k)) (by rw[CI];omega) w);have HN:=I (fun w=>XE s (10+k) (14+k) (by omega) (by omega) w);have ix:=I (fun w=>XE s (2+k) (6+k) (by omega) (by omega) w);have iP:=I (fun w=>XE s (6+k) (10+k) (by omega) (by omega) w);have HCD:=I (show Em (s.extract 2 (2+k)) (FD s (2+k)) (FD s (6+k))=0->∀w,Calls prog 189 #[.agg #[.string (s.extract 2 (2+k)),.int .i64 (FD s (2+k)),.int .i64 (FD s (6+k))]] w fun e w'=>e=.returned (.string s)/\Below w.heap.size w w' from fun hb w=>by
  obtain⟨x8,x0,x1,y0,y1⟩:=Fw hb;have:=iY (s.extract 2 (2+k)) x8 _ _ x0 x1 (by omega) y1 w;rw[vh s k h1 hH hk ER IE]at this;exact this)
 have HR:=I hr;clear hr;rw[<-IE]at HN;generalize Hx (s.extract 0 (10+k))=cv at*;generalize FD s (2+k)=n1 at*;generalize FD s (6+k)=n2 at*;have hkz:((k:Int)==0)=false:=by simp;omega
 have hk9:¬(8:Int)<(k:Int):=by omega
 have Te:¬k=0:=by omega
 have Pr:((s[0]).toNat:Int)=72:=by omega
 have mo:((s[1]).toNat:Int)=(k:Int):=by omega
 have AAS:(s.size:Int)=14+k:=by omega
 have c1:IntKind.i64.wrap ((2:Int)+(k:Int)+8)=(10:Int)+(k:Int):=by rw[Aj];omega
 have c2:IntKind.i64.wrap ((2:Int)+(k:Int)+4)=(6:Int)+(k:Int):=by rw[Aj];omega
 have c3:IntKind.i64.wrap ((2:Int)+(k:Int)+12)=(14:Int)+(k:Int):=by rw[Aj];omega
 have c4:IntKind.i64.wrap ((2:Int)+(k:Int))=(2:Int)+(k:Int):=by rw[Aj];omega
 have c5:(0:Int)<=(10:Int)+(k:Int):=by omega
 have c6:(10:Int)+(k:Int)<=(14:Int)+(k:Int):=by omega
 have c7:((10:Int)+(k:Int)).toNat=10+k:=by omega
 have b3:(2:Int)<=(2:Int)+(k:Int):=by omega
 have b4:(2:Int)+(k:Int)<=(14:Int)+(k:Int):=by omega
 have b5:(6:Int)+(k:Int)<=(14:Int)+(k:Int):=by omega
 have b6:(0:Int)<=(2:Int)+(k:Int):=by omega
 have b7:(0:Int)<=(6:Int)+(k:Int):=by omega
 have b8:((2:Int)+(k:Int)).toNat=2+k:=by omega
 have b9:((6:Int)+(k:Int)).toNat=6+k:=by omega
 have b10:((14:Int)+(k:Int)).toNat=14+k:=by omega
 have b11:(2:Int)<=(14:Int)+(k:Int):=by omega
 have b12:(0:Int)<=(k:Int):=by omega
 have b13:(2:Int)+(k:Int)<=(6:Int)+(k:Int):=by omega
 have b14:(6:Int)+(k:Int)<=(10:Int)+(k:Int):=by omega
 have E:=I ((AI w).lay #[.string ⟨#[]⟩,.int .i64 0,.int .i64 0] 226);clear hH hk IE;go_in
 go_upto_region 10 with fail
 generalize dA:World.alloc w _=W0 at*;clear dA;go_region_held3 (fun w'=>Below W0.heap.size W0 w')
  (repeat (with_reducible first|exact AA|refine AE ?_))
  (first
    |(go_at_call 227;(with_reducible refine(HC.out _).mono ?_);rintro e' w' ⟨rfl,rfl⟩)
    |(go_at_call 228;(with_reducible refine(HN.out _).mono ?_);rintro e' w' ⟨rfl,rfl⟩))
 rename_i hheld;have E2:=I (E.out.below hheld);clear hheld E;generalize World.drew W0=w2 at*
 go_upto_region 12 with fail
 go_cut [5] (fun s5 wx=>vH w2 (s.extract 2 (2+k)) n1 n2 s5 wx)
 case first=>
  go_region_held3 (fun w'=>Below w2.heap.size w2 w')
   (repeat (first|(with_reducible exact AA)|(with_reducible refine Below.tq ?_)|(with_reducible refine AE ?_)|((with_reducible refine AS3 ?_ ?_ _);rotate_left;·(first|omega|simp<;>omega))))
   (first
     |(go_at_call 228;(with_reducible refine(ix.out _).mono ?_);rintro e' w' ⟨rfl,rfl⟩)
     |(go_at_call 228;(with_reducible refine(iP.out _).mono ?_);rintro e' w' ⟨rfl,rfl⟩))
  all_goals
   rename_i hheld;have DY:=hheld;clear hheld;go_wp2_with fail
   go_meet
   exact⟨_,rfl,AB,DY,(DJ.new _ _ _).drew⟩
 case rest=>
  obtain⟨g,rfl,hg,DY,S0⟩:=hcut;have E3:=I (E2.out.below DY);have d0:=S0.cell 0;have d1:=S0.cell 1;have d2:=S0.cell 2;have dl:=S0.lt;simp at d0 d1 d2;clear DY ix iP;go_wp2_with fail
  refine(PL (s.extract 2 (2+k)) n1 n2 _).mono ?_;rcases HR.out with⟨hz,rfl,rfl,rfl,rfl⟩|⟨he,rfl,rfl,rfl,rfl⟩
  case' inl=>generalize Em (s.extract 2 (2+k)) n1 n2=er at hz⊢
  case' inr=>rw[he]
  all_goals
   rintro e' w6 ⟨rfl,XW⟩;have E4:=I (E3.out.below XW);have HG:=I (S0.below XW dl);clear S0 XW E3 E2 d0 d1 d2;have d0:=HG.out.cell 0;have d1:=HG.out.cell 1;have d2:=HG.out.cell 2;have dl:=HG.out.lt;simp at d0 d1 d2
  ·go_wp2_with fail
   refine(HCD.out he _).mono ?_;rintro e' w7 ⟨rfl,Pp⟩;have E5:=I (E4.out.below Pp);have HG:=I (HG.out.below Pp HG.out.lt);clear Pp E4 d0 d1 d2 dl;have d0:=HG.out.cell 0;have d1:=HG.out.cell 1;have d2:=HG.out.cell 2;have dl:=HG.out.lt;simp at d0 d1 d2;have r0:=E5.out.hd.cell 0;have r1:=E5.out.hd.cell 1;have r2:=E5.out.hd.cell 2;have f0:=E5.out.hd.frozen 0;have f1:=E5.out.hd.frozen 1;have f2:=E5.out.hd.frozen 2;have p0:=E5.out.hd.lt;simp at r0 r1 r2 p0;go_wp2;have EF:=I (PK E5.out rfl (s.extract 2 (2+k)) x y);generalize ((w7.setCell ⟨w.heap.size,0,none⟩ (.string (s.extract 2 (2+k)))).setCell ⟨w.heap.size,1,none⟩ (.int .i64 x)).setCell ⟨w.heap.size,2,none⟩ (.int .i64 y)=WF at EF⊢
   have s0:=EF.out.hd.cell 0;have s1:=EF.out.hd.cell 1;have s2:=EF.out.hd.cell 2;simp at s0 s1 s2;refine AF (v:=.tuple #[.agg #[.string (s.extract 2 (2+k)),.int .i64 x,.int .i64 y],.int .i64 0]) (by simp[results,results190,go_sem,s0,s1,s2]) rfl ⟨rfl,EF.out.DI⟩
  ·have r0:=E4.out.hd.cell 0
   have r1:=E4.out.hd.cell 1;have r2:=E4.out.hd.cell 2;have f0:=E4.out.hd.frozen 0;have f1:=E4.out.hd.frozen 1;have f2:=E4.out.hd.frozen 2;have p0:=E4.out.hd.lt;simp at r0 r1 r2 p0;go_wp2;have EF:=I (PK E4.out rfl ⟨#[]⟩ 0 0);generalize ((w6.setCell ⟨w.heap.size,0,none⟩ (.string ⟨#[]⟩)).setCell ⟨w.heap.size,1,none⟩ (.int .i64 0)).setCell ⟨w.heap.size,2,none⟩ (.int .i64 0)=WF at EF⊢;have s0:=EF.out.hd.cell 0;have s1:=EF.out.hd.cell 1;have s2:=EF.out.hd.cell 2;simp at s0 s1 s2;refine AF (v:=.tuple #[.agg #[.string ⟨#[]⟩,.int .i64 0,.int .i64 0],.int .i64 3]) (by simp[results,results190,go_sem,s0,s1,s2]) rfl ⟨rfl,EF.out.DI⟩
def Fm(s:ByteArray):ByteArray×Int×Int×Int:=
 if s.size<2 then (⟨#[]⟩,0,0,8)
 else if (Fh s 0).toNat≠72 then (⟨#[]⟩,0,0,3)
 else if (Fh s 1).toNat=0\/8<(Fh s 1).toNat then (⟨#[]⟩,0,0,3)
 else if s.size<14+(Fh s 1).toNat then (⟨#[]⟩,0,0,8)
 else if 14+(Fh s 1).toNat<s.size then (⟨#[]⟩,0,0,3)
 else if Hx (s.extract 0 (10+(Fh s 1).toNat))≠FD s (10+(Fh s 1).toNat)then (⟨#[]⟩,0,0,9)
 else if Em (s.extract 2 (2+(Fh s 1).toNat)) (FD s (2+(Fh s 1).toNat)) (FD s (6+(Fh s 1).toNat))≠0 then (⟨#[]⟩,0,0,3)
 else (s.extract 2 (2+(Fh s 1).toNat),FD s (2+(Fh s 1).toNat),FD s (6+(Fh s 1).toNat),0)
theorem SP{s:ByteArray}(h:(Fm s).2.2.2=0):Em (Fm s).1 (Fm s).2.1 (Fm s).2.2.1=0:=by
 unfold Fm at h⊢;split at h
 ·cases h
 split at h
 ·cases h
 split at h
 ·cases h
 split at h
 ·cases h
 split at h
 ·cases h
 split at h
 ·cases h
 split at h
 ·cases h
 rename_i h1 h2 h3 h4 h5 h6 h7;rw[AC h1,AC h2,AC h3,AC h4,AC h5,AC h6,AC h7];exact Cn.1 h7
theorem NY(s:ByteArray)(k:Nat)(h:k<s.size):Fh s k=s[k]:=by
 unfold Fh;simp[h];rfl
theorem jA(s:ByteArray)(w:World):Calls prog 215 #[.string s] w (JQ (Fm s).1 (Fm s).2.1 (Fm s).2.2.1 (Fm s).2.2.2 w):=by
 unfold Fm;by_cases h1:s.size<2
 ·rw[AD h1];exact jM s h1 w
 rw[AC h1,NY s 0 (by omega),NY s 1 (by omega)];by_cases h2:(s[0]).toNat≠72
 ·rw[AD h2];exact AEa s (by omega) h2 w
 rw[AC h2];have h2:(s[0]).toNat=72:=Cn.1 h2;by_cases h3:(s[1]).toNat=0
 ·rw[AD (.inl h3)];exact zG s (by omega) h2 h3 w
 by_cases xV:8<(s[1]).toNat
 ·rw[AD (.inr xV)];exact AAc s _ (by omega) h2 rfl xV w
 rw[AC (by omega)];by_cases h4:s.size<14+(s[1]).toNat
 ·rw[AD h4];exact qG s _ (by omega) h2 rfl (by omega) (by omega) h4 w
 rw[AC h4];by_cases h5:14+(s[1]).toNat<s.size
 ·rw[AD h5];exact oh s _ (by omega) h2 rfl (by omega) (by omega) h5 w
 rw[AC h5];by_cases h6:Hx (s.extract 0 (10+(s[1]).toNat))≠FD s (10+(s[1]).toNat)
 ·rw[AD h6];exact u6 s _ (by omega) h2 rfl (by omega) (by omega) (by omega) h6 w
 rw[AC h6];have h6:=Cn.1 h6;by_cases h7:Em (s.extract 2 (2+(s[1]).toNat)) (FD s (2+(s[1]).toNat)) (FD s (6+(s[1]).toNat))≠0
 ·rw[AD h7];exact sS s _ (by omega) h2 rfl (by omega) (by omega) (by omega) h6 _ _ _ _ (.inl ⟨h7,rfl,rfl,rfl,rfl⟩) w
 rw[AC h7];exact sS s _ (by omega) h2 rfl (by omega) (by omega) (by omega) h6 _ _ _ _ (.inr ⟨Cn.1 h7,rfl,rfl,rfl,rfl⟩) w
