/- The desk: one number, is -/
import Derived.Test.YthiplgekjgffkaaGreatDoorM19
import Derived.Test.YthiplgekjgffkaaGreatDoorM45
set_option maxRecDepth 100000
set_option maxHeartbeats 99000000
set_option linter.all false
namespace Go.Proofs.YthiplgekjgffkaaGreatDoor
open Go.Proofs.Tryz
open Go.RowKit Go.Lib
theorem zI(k e:Int)(he:e≠0)(w:World):Calls prog 82 #[.int .i64 k,.int .i64 e] w fun x w'=>x=Dr e/\w=w':=by
 have HE:=I he;clear he;go_in;go_wp2_with fail
 refine(Lu e HE.out w).mono ?_;rintro e' w1 ⟨rfl,rfl⟩;simp only[Dr];go_wp2;exact⟨rfl,rfl,rfl⟩
def yg(W:World)(db:Nat)(tv nv:Value):Prop:=DJ W db 40 #[tv,nv]
theorem Kf(db tb:Nat)(nv:Value)(w:World)(h:yg w db (.pointer (some ⟨tb,0,none⟩)) nv):Calls prog 115 #[.pointer (some ⟨db,0,none⟩)] w fun x w'=>x=.returned (.tuple #[])/\w=w':=by
 have DG:=h.lt;have c0:=h.cell 0;simp at c0;clear h;go_in;go_wp2
 go_end0
 exact⟨rfl,rfl⟩
theorem Kt(db:Nat)(nv:Value)(w:World)(h:yg w db (.pointer none) nv):Calls prog 115 #[.pointer (some ⟨db,0,none⟩)] w fun x w'=>x=Dr 4/\w=w':=by
 have DG:=h.lt;have c0:=h.cell 0;simp at c0;clear h;go_in;go_wp2_with fail
 refine(Ia 4 _).mono ?_;rintro e' w1 ⟨rfl,rfl⟩;simp only[Dr];go_wp2;exact⟨rfl,rfl,rfl⟩
def KL(b:Bool):ByteArray:=if b then ⟨#[43]⟩else ⟨#[45]⟩
def W6(p:Dm):ByteArray:=(((⟨#[32]⟩++KL p.2.2)++p.1)++⟨#[58]⟩)++Wo p.2.1.toNat
def FC(l:List Dm):ByteArray:=l.foldl (fun s p=>s++W6 p) ⟨#[111,107]⟩
theorem OH(l:List Dm)(j:Nat)(h:j<l.length):FC (l.take (j+1))=FC (l.take j)++W6 (l[j]'h):=by
 unfold FC;rw[Af h,ASg];rfl
def IC(p:Dm):Prop:=p.1.size<=100/\0<=p.2.1/\p.2.1<100
theorem Vq(b:Bool):(KL b).size=1:=by cases b<;>rfl
theorem fT{p:Dm}(h:IC p):(W6 p).size<=115:=by
 have h1:(⟨#[32]⟩:ByteArray).size=1:=rfl;have h2:(⟨#[58]⟩:ByteArray).size=1:=rfl;obtain⟨a,b,c⟩:=h;have h3:=PT (k:=p.2.1.toNat) (by omega);unfold W6;simp only[Aq,Vq,h1,h2];omega
theorem L8(l:List Dm)(hs:∀p∈l,IC p):∀j,j<=l.length->(FC (l.take j)).size<=2+115*j
 |0,_=>by simp[FC];decide
 |j+1,h=>by
  have h1:=L8 l hs j (by omega);have h2:=fT (hs _ (AL (show j<l.length by omega)));rw[OH l j (by omega)];simp only[Aq];omega
theorem QN(k:Nat)(hk:k<100)(w:World):Calls prog 23 #[.int .i64 (k:Int)] w fun e w'=>e=.returned (.string (Wo k))/\w=w':=
 (Tryz.strconv_Itoa_small k hk w).mono fun e w' ⟨h1,h2⟩=>⟨h1,h2.symm⟩
theorem XM{P:Program}{f:FuncId}{args:Array Value}{w:World}{n:Nat}{v:Value}
 (h:Calls P f args (w.drewN n) fun e w'=>e=.returned v/\w.drewN n=w'):Calls P f args (w.drewN n) fun e GQ=>e=.returned v/\∃m,GQ=w.drewN m:=
 h.mono fun _ _ ⟨he,hm⟩=>⟨he,n,hm.symm⟩
theorem rD(A:Option Addr)(c n:Nat)(e:Int)(he:e≠0)(w:World):Calls prog 118 #[.slice A n c,.int .i64 e] w fun x w'=>x=Dr e/\w=w':=by
 have HE:=I he;clear he;go_in;go_wp2_with fail
 refine(Lu e HE.out w).mono ?_;rintro e' w1 ⟨rfl,rfl⟩;simp only[Dr];go_wp2;exact⟨rfl,rfl,rfl⟩
theorem rL(A:Option Addr)(c n:Nat)(l:List Dm)(hl:l.length=n)(hn:n<=100)(hs:∀p∈l,IC p)(w:World)(hr:Reads w w.heap.size 3 A n (Da l)):
 Calls prog 118 #[.slice A n c,.int .i64 0] w fun x w'=>x=.returned (.string (FC l))/\Below w.heap.size w w':=by
 have R:=I hr;have HL:=I hl;have HS:=I hs;clear hr hl hs;go_in;go_wp2_with fail
 refine(L6 w).mono ?_;rintro e' w1 ⟨rfl,rfl⟩;go_wp2_with fail
 go_loopw [13,5] (fun iv ov wr=>∃j:Nat,j<=n/\iv=.int .i64 (j:Int)/\ov=.string (FC (l.take j))/\Below w.heap.size w wr) (fun iv _ _=>n- (RowKit.intOf iv).toNat)
 case atStart=>exact⟨0,by omega,rfl,rfl,AA⟩
 case round=>
  obtain⟨j,hj,rfl,rfl,hb⟩:=hrel;obtain⟨wo,rfl⟩:∃wo,wo=wr:=⟨_,rfl⟩;have HB:=I hb;clear hb;by_cases DG:j<n
  ·obtain⟨g,off,rfl,hg,EO⟩:=aQ (R.out.below HB.out AB) HL.out (by omega)
   have IJ:j<l.length:=by rw[HL.out];exact DG
   obtain⟨d0,d1,d2⟩:=EO j IJ;have Ka:g<wo.heap.size:=AJ hg HB.out.size;have dC:=I (OH l j IJ);have hk:=HS.out _ (AL IJ);have ht:=L8 l HS.out j (by omega);generalize l[j]'IJ=p at*;obtain⟨id,th,su⟩:=p;obtain⟨h1,h2,h3⟩:=hk;simp only at h1 h2 h3 d0 d1 d2;obtain⟨k,rfl⟩:∃k:Nat,th=(k:Int):=⟨th.toNat,by omega⟩;have hk:=I (show k<100 by omega);have xy:=PT hk.out;have s1:(⟨#[32]⟩:ByteArray).size=1:=rfl;have s2:(⟨#[58]⟩:ByteArray).size=1:=rfl;have s3:(⟨#[43]⟩:ByteArray).size=1:=rfl;have s4:(⟨#[45]⟩:ByteArray).size=1:=rfl;have E:=I (((AI w).below HB.out).lay #[.string id,.int .i64 (k:Int),.bool su] 173);cases su
   ·have uH:=D9 (P:=prog) ⟨#[32]⟩ ⟨#[45]⟩ (by omega)
    have vy:=D9 (P:=prog) (⟨#[32]⟩++⟨#[45]⟩) id (by simp only[Aq,s1,s4];omega);have hA3:=D9 (P:=prog) ((⟨#[32]⟩++⟨#[45]⟩)++id) ⟨#[58]⟩ (by simp only[Aq,s1,s2,s4];omega);have hA4:=D9 (P:=prog) (((⟨#[32]⟩++⟨#[45]⟩)++id)++⟨#[58]⟩) (Wo k) (by simp only[Aq,s1,s2,s4];omega);have hA5:=D9 (P:=prog) (FC (l.take j)) ((((⟨#[32]⟩++⟨#[45]⟩)++id)++⟨#[58]⟩)++Wo k) (by simp only[Aq,s1,s2,s4];omega);clear EO IJ ht xy s1 s2 s3 s4 h1 h2 h3;go_wp2_with fail
    go_quiet ((go_at_call 23;exact XM (QN k hk.out _)))
    go_wp2
    trace_state
    exact⟨⟨j+1,by omega,by simp,by rw[dC.out];rfl,Ba E.out.DI _⟩,by simp[RowKit.intOf];omega⟩
   ·have uH:=D9 (P:=prog) ⟨#[32]⟩ ⟨#[43]⟩ (by omega)
    have vy:=D9 (P:=prog) (⟨#[32]⟩++⟨#[43]⟩) id (by simp only[Aq,s1,s3];omega);have hA3:=D9 (P:=prog) ((⟨#[32]⟩++⟨#[43]⟩)++id) ⟨#[58]⟩ (by simp only[Aq,s1,s2,s3];omega);have hA4:=D9 (P:=prog) (((⟨#[32]⟩++⟨#[43]⟩)++id)++⟨#[58]⟩) (Wo k) (by simp only[Aq,s1,s2,s3];omega);have hA5:=D9 (P:=prog) (FC (l.take j)) ((((⟨#[32]⟩++⟨#[43]⟩)++id)++⟨#[58]⟩)++Wo k) (by simp only[Aq,s1,s2,s3];omega);clear EO IJ ht xy s1 s2 s3 s4 h1 h2 h3;go_wp2_with fail
    go_quiet ((go_at_call 23;exact XM (QN k hk.out _)))
    go_wp2;exact⟨⟨j+1,by omega,by simp,by rw[dC.out];rfl,Ba E.out.DI _⟩,by simp[RowKit.intOf];omega⟩
  ·obtain rfl:j=n:=by omega
   have e:l.take j=l:=AY (by rw[HL.out];omega);rw[e];go_wp2;go_ret;exact⟨rfl,HB.out⟩
theorem dx(p:Addr)(w:World):
 CallsD prog 22 #[.pointer (some p)] .returning w fun e u' w'=>e=.returned (.tuple #[])/\u'=.returning/\w'=w:=by
 refine callsD_of_wpS func22 rfl fun c₀ cs hu=>?_;apply wpS_seq;apply wpS_region;simp[wpOpsS,go_sem,recoverD,hu,ntmps22,Exit.thenS];apply wpS_seq;apply wpS_region;simp[wpOpsS,go_sem,recoverD,hu,Exit.thenS];refine wpS_cond (t:=false) (by simp[Act.eval,Array.replicate]) ?_;simp only[AT9,if_false];refine wpS_of_wp (wp_skip ?_);cases c₀;simp_all[bodyPostS,results,results22]
theorem SU(v:Value)(xT:TypeId)(w:World):(Instr.typeAssert (.iface 67 v) xT 67 true).run prog w=.ok (.tuple #[v,.bool true]) w:=by
 have h:=underlying67;simp[Instr.typeAssert,CE h,go_sem,Result.andThen]
def pg(k:Nat):ByteArray:=⟨#[101,114,114,111,114,32]⟩++Wo k
theorem Tc(b:Nat)(x:ByteArray)(k:Nat)(hk:k<100)(w:World)(hb:DJ w b 9 #[.string x]):
 CallsD prog 22 #[.pointer (some ⟨b,0,none⟩)] (.panicking [{v:=.iface 67 (.agg #[.int .i64 (k:Int)]),recovered:=false}]) w fun e u' w'=>
  e=.returned (.tuple #[])/\u'=.panicking [{v:=.iface 67 (.agg #[.int .i64 (k:Int)]),recovered:=true}]/\Kept (fun i=>i=b) w w'/\DJ w' b 9 #[.string (pg k)]:=by
 refine callsD_of_wpS func22 rfl fun c₀ cs hu=>?_;apply wpS_seq;apply wpS_region;simp[wpOpsS,go_sem,recoverD,hu,ntmps22,Exit.thenS];apply wpS_seq;apply wpS_region;simp[wpOpsS,go_sem,recoverD,hu,Exit.thenS];refine wpS_cond (t:=true) (by simp[Act.eval,Array.replicate]) ?_;simp only[if_true];refine wpS_of_wp ?_;have hta:=fun v w=>SU v 20 w;have DG:=hb.lt;have c0:=hb.cell 0;have z0:=hb.frozen 0;simp at c0;rw[show(Array.replicate 18 undef:Array Value)=#[undef,undef,undef,undef,undef,undef,undef,undef,undef,undef,undef,undef,undef,undef,undef,undef,undef,undef]from rfl];have hA:=D9 (P:=prog) ⟨#[101,114,114,111,114,32]⟩ (Wo k) (by have:=PT hk;have h6:(⟨#[101,114,114,111,114,32]⟩:ByteArray).size=6:=rfl;omega)
 have HW:=I (fun(W:World) (hW:Below w.heap.size w W)=>show Kept (fun i=>i=b) w (W.setCell ⟨b,0,none⟩ (.string (pg k)))/\DJ (W.setCell ⟨b,0,none⟩ (.string (pg k))) b 9 #[.string (pg k)]from
  ⟨Kept.setCell (X:=fun i=>i=b) (a:=⟨b,0,none⟩) ((AH _ w).step hW) (.inl rfl) _,by have:=(hb.below hW hb.lt).De 0 (.string (pg k));simpa using this⟩)
 have Ii:=I ((AQ w.heap.size w).alloc AB (.cells #[.int .i64 (k:Int)] 67));have HBk:=I hb;clear hb;go_wp2_with fail
 refine(QN k hk _).mono ?_;rintro e' w1 ⟨rfl,tL⟩;have Nr:=I (tL▸Ii.out);have lt1:b<w1.heap.size:=AJ DG Nr.out.size;have c1:w1.cell? ⟨b,0,none⟩=some (.string x):=(Nr.out.cell (p:=⟨b,0,none⟩) DG).trans c0;clear tL Ii c0 z0;have FZ:w1.frozen? ⟨b,0,none⟩=false:=(HBk.out.below Nr.out HBk.out.lt).frozen 0;go_wp2;simp[bodyPostS,results,results22];exact HW.out _ Nr.out
def iR:Obj:=.map #[{key:=.bool true,val:=.string ⟨#[43]⟩,born:=0}] 1
def PC:Obj:=.map #[{key:=.bool true,val:=.string ⟨#[43]⟩,born:=0},{key:=.bool false,val:=.string ⟨#[45]⟩,born:=1}] 2
def iM:Obj:=.map #[{key:=.bool false,val:=.string ⟨#[45]⟩,born:=0}] 1
def Ol:Obj:=.map #[{key:=.bool false,val:=.string ⟨#[45]⟩,born:=0},{key:=.bool true,val:=.string ⟨#[43]⟩,born:=1}] 2
theorem Tv(w:World)(o o2:Obj):({w.alloc o with heap:=(w.alloc o).heap.setIfInBounds w.heap.size o2}:World)=w.alloc o2:=by
 have e:(w.heap.push o).setIfInBounds w.heap.size o2=w.heap.push o2:=by
  apply ASZ;simp
 exact Ae (fun h=>({w with heap:=h}:World)) e
theorem uw(w:World):(Instr.mapUpdate 174 (.map (some w.heap.size)) (.bool true) (.string ⟨#[43]⟩)).run prog (w.alloc (.map #[] 0))=.ok () (w.alloc iR):=by
 have hm:=CE (P:=prog) underlying174;have h1:=fun w=>ASs (P:=prog) (w:=w) underlying4 (k:=.bool true) trivial false 9999;have h2:=fun w=>ASt (P:=prog) (w:=w) underlying4 (k:=.bool true) (l:=[]) (a:=none) rfl;have hh:(w.alloc (.map #[] 0)).heap[w.heap.size]? =some (.map #[] 0):=Ci w _;have h3:=ATL (P:=prog) hh;have h4:=fun o=>(AUB (P:=prog) o hh).trans (Ae (Result.ok ()) (Tv w _ o));simp[Instr.mapUpdate,hm,go_sem,h1,h2,h3,h4,iR]
theorem tw(w:World):(Instr.mapUpdate 174 (.map (some w.heap.size)) (.bool false) (.string ⟨#[45]⟩)).run prog (w.alloc (.map #[{key:=.bool true,val:=.string ⟨#[43]⟩,born:=0}] 1))=.ok () (w.alloc PC):=by
 have hm:=CE (P:=prog) underlying174;have h1:=fun w=>ASs (P:=prog) (w:=w) underlying4 (k:=.bool false) trivial false 9999;have h2:=fun w=>ASt (P:=prog) (w:=w) underlying4 (k:=.bool false) (l:=[{key:=.bool true,val:=.string ⟨#[43]⟩,born:=0}]) (a:=none) rfl;have hh:(w.alloc (.map #[{key:=.bool true,val:=.string ⟨#[43]⟩,born:=0}] 1)).heap[w.heap.size]? =some (.map #[{key:=.bool true,val:=.string ⟨#[43]⟩,born:=0}] 1):=Ci w _;have h3:=ATL (P:=prog) hh;have h4:=fun o=>(AUB (P:=prog) o hh).trans (Ae (Result.ok ()) (Tv w _ o));simp[Instr.mapUpdate,hm,go_sem,h1,h2,h3,h4,PC]
theorem jd(w:World):(Instr.mapUpdate 174 (.map (some w.heap.size)) (.bool false) (.string ⟨#[45]⟩)).run prog (w.alloc (.map #[] 0))=.ok () (w.alloc iM):=by
 have hm:=CE (P:=prog) underlying174;have h1:=fun w=>ASs (P:=prog) (w:=w) underlying4 (k:=.bool false) trivial false 9999;have h2:=fun w=>ASt (P:=prog) (w:=w) underlying4 (k:=.bool false) (l:=[]) (a:=none) rfl;have hh:(w.alloc (.map #[] 0)).heap[w.heap.size]? =some (.map #[] 0):=Ci w _;have h3:=ATL (P:=prog) hh;have h4:=fun o=>(AUB (P:=prog) o hh).trans (Ae (Result.ok ()) (Tv w _ o));simp[Instr.mapUpdate,hm,go_sem,h1,h2,h3,h4,iM]
theorem rj(w:World):(Instr.mapUpdate 174 (.map (some w.heap.size)) (.bool true) (.string ⟨#[43]⟩)).run prog (w.alloc (.map #[{key:=.bool false,val:=.string ⟨#[45]⟩,born:=0}] 1))=.ok () (w.alloc Ol):=by
 have hm:=CE (P:=prog) underlying174;have h1:=fun w=>ASs (P:=prog) (w:=w) underlying4 (k:=.bool true) trivial false 9999;have h2:=fun w=>ASt (P:=prog) (w:=w) underlying4 (k:=.bool true) (l:=[{key:=.bool false,val:=.string ⟨#[45]⟩,born:=0}]) (a:=none) rfl;have hh:(w.alloc (.map #[{key:=.bool false,val:=.string ⟨#[45]⟩,born:=0}] 1)).heap[w.heap.size]? =some (.map #[{key:=.bool false,val:=.string ⟨#[45]⟩,born:=0}] 1):=Ci w _;have h3:=ATL (P:=prog) hh;have h4:=fun o=>(AUB (P:=prog) o hh).trans (Ae (Result.ok ()) (Tv w _ o));simp[Instr.mapUpdate,hm,go_sem,h1,h2,h3,h4,Ol]
theorem nW(w:World)(b:Bool):(Instr.lookup 174 (.map (some w.heap.size)) (.bool b) false).run prog (w.alloc PC)=.ok (.string (KL b)) (w.alloc PC):=by
 have hm:=CE (P:=prog) underlying174;have hh:(w.alloc PC).heap[w.heap.size]? =some PC:=Ci w _;have h3:=ATL (P:=prog) hh;cases b with
 |true=>
  have h1:=fun w=>ASs (P:=prog) (w:=w) underlying4 (k:=.bool true) trivial false 9999;have h2:=fun w=>ASt (P:=prog) (w:=w) underlying4 (k:=.bool true) (l:=[{key:=.bool true,val:=.string ⟨#[43]⟩,born:=0},{key:=.bool false,val:=.string ⟨#[45]⟩,born:=1}]) (a:=some (0,.string ⟨#[43]⟩)) rfl;unfold PC at h3⊢;simp[Instr.lookup,hm,go_sem,h1,h2,h3,KL]
 |false=>
  have h1:=fun w=>ASs (P:=prog) (w:=w) underlying4 (k:=.bool false) trivial false 9999;have h2:=fun w=>ASt (P:=prog) (w:=w) underlying4 (k:=.bool false) (l:=[{key:=.bool true,val:=.string ⟨#[43]⟩,born:=0},{key:=.bool false,val:=.string ⟨#[45]⟩,born:=1}]) (a:=some (1,.string ⟨#[45]⟩)) rfl;unfold PC at h3⊢;simp[Instr.lookup,hm,go_sem,h1,h2,h3,KL]
theorem k9(w:World)(b:Bool):(Instr.lookup 174 (.map (some w.heap.size)) (.bool b) false).run prog (w.alloc Ol)=.ok (.string (KL b)) (w.alloc Ol):=by
 have hm:=CE (P:=prog) underlying174;have hh:(w.alloc Ol).heap[w.heap.size]? =some Ol:=Ci w _;have h3:=ATL (P:=prog) hh;cases b with
 |true=>
  have h1:=fun w=>ASs (P:=prog) (w:=w) underlying4 (k:=.bool true) trivial false 9999;have h2:=fun w=>ASt (P:=prog) (w:=w) underlying4 (k:=.bool true) (l:=[{key:=.bool false,val:=.string ⟨#[45]⟩,born:=0},{key:=.bool true,val:=.string ⟨#[43]⟩,born:=1}]) (a:=some (1,.string ⟨#[43]⟩)) rfl;unfold Ol at h3⊢;simp[Instr.lookup,hm,go_sem,h1,h2,h3,KL]
 |false=>
  have h1:=fun w=>ASs (P:=prog) (w:=w) underlying4 (k:=.bool false) trivial false 9999;have h2:=fun w=>ASt (P:=prog) (w:=w) underlying4 (k:=.bool false) (l:=[{key:=.bool false,val:=.string ⟨#[45]⟩,born:=0},{key:=.bool true,val:=.string ⟨#[43]⟩,born:=1}]) (a:=some (0,.string ⟨#[45]⟩)) rfl;unfold Ol at h3⊢;simp[Instr.lookup,hm,go_sem,h1,h2,h3,KL]
theorem sO(w:World):(Instr.mapUpdate 174 (.map (some w.heap.size)) (.bool true) (.string ⟨#[43]⟩)).run prog (w.alloc (.map #[] 0)).drew=.ok () (w.alloc iR).drew:=uw w.drew
theorem oe(w:World):(Instr.mapUpdate 174 (.map (some w.heap.size)) (.bool false) (.string ⟨#[45]⟩)).run prog (w.alloc iR).drew=.ok () (w.alloc PC).drew:=tw w.drew
theorem lq(w:World)(b:Bool):(Instr.lookup 174 (.map (some w.heap.size)) (.bool b) false).run prog (w.alloc PC).drew=.ok (.string (KL b)) (w.alloc PC).drew:=nW w.drew b
theorem eY(w:World):(Instr.mapUpdate 174 (.map (some w.heap.size)) (.bool false) (.string ⟨#[45]⟩)).run prog (w.alloc (.map #[] 0)).drew=.ok () (w.alloc iM).drew:=jd w.drew
theorem lk(w:World):(Instr.mapUpdate 174 (.map (some w.heap.size)) (.bool true) (.string ⟨#[43]⟩)).run prog (w.alloc iM).drew=.ok () (w.alloc Ol).drew:=rj w.drew
theorem fC(w:World)(b:Bool):(Instr.lookup 174 (.map (some w.heap.size)) (.bool b) false).run prog (w.alloc Ol).drew=.ok (.string (KL b)) (w.alloc Ol).drew:=k9 w.drew b
theorem lQ(A:Option Addr)(c n:Nat)(k:Nat)(h0:k≠0)(hk:k<100)(w:World):Calls prog 59 #[.slice A n c,.int .i64 (k:Int)] w fun x w'=>x=.returned (.string (FG k))/\w=w':=by
 have HF:=I (El k hk w);have Jg:((k:Int)==0)=false:=by simp;omega
 have C6:((k:Int) != 0)=true:=by simp;omega
 clear h0 hk;go_in;go_wp2_with fail
 refine HF.out.mono ?_;rintro e' w1 ⟨rfl,rfl⟩;go_wp2;go_ret;exact⟨rfl,rfl⟩
theorem jZ(A:Option Addr)(c n:Nat)(l:List Dm)(hl:l.length=n)(hn:n<=100)(hs:∀p∈l,IC p)(w:World)(hr:Reads w w.heap.size 3 A n (Da l)):
 Calls prog 59 #[.slice A n c,.int .i64 0] w fun x w'=>x=.returned (.string (FC l))/\Below w.heap.size w w':=by
 have R:=I hr;have HL:=I hl;have HS:=I hs;clear hr hl hs;go_in;go_wp2_with fail
 go_loopw [14,5] (fun iv ov wr=>∃j:Nat,j<=n/\iv=.int .i64 (j:Int)/\ov=.string (FC (l.take j))/\Below w.heap.size w wr) (fun iv _ _=>n- (RowKit.intOf iv).toNat)
 case atStart=>exact⟨0,by omega,rfl,rfl,AA⟩
 case round=>
  obtain⟨j,hj,rfl,rfl,hb⟩:=hrel;obtain⟨wo,rfl⟩:∃wo,wo=wr:=⟨_,rfl⟩;have HB:=I hb;clear hb;by_cases DG:j<n
  ·obtain⟨g,off,rfl,hg,EO⟩:=aQ (R.out.below HB.out AB) HL.out (by omega)
   have IJ:j<l.length:=by rw[HL.out];exact DG
   obtain⟨d0,d1,d2⟩:=EO j IJ;have Ka:g<wo.heap.size:=AJ hg HB.out.size;have dC:=I (OH l j IJ);have hk:=HS.out _ (AL IJ);have ht:=L8 l HS.out j (by omega);generalize l[j]'IJ=p at*;obtain⟨id,th,su⟩:=p;obtain⟨h1,h2,h3⟩:=hk;simp only at h1 h2 h3 d0 d1 d2;obtain⟨k,rfl⟩:∃k:Nat,th=(k:Int):=⟨th.toNat,by omega⟩;have hk:=I (show k<100 by omega);have xy:=PT hk.out;have s1:(⟨#[32]⟩:ByteArray).size=1:=rfl;have s2:(⟨#[58]⟩:ByteArray).size=1:=rfl;have sg:=Vq su;have uH:=D9 (P:=prog) ⟨#[32]⟩ (KL su) (by omega);have vy:=D9 (P:=prog) (⟨#[32]⟩++KL su) id (by simp only[Aq,s1,sg];omega);have hA3:=D9 (P:=prog) ((⟨#[32]⟩++KL su)++id) ⟨#[58]⟩ (by simp only[Aq,s1,s2,sg];omega)
   have hA4:=D9 (P:=prog) (((⟨#[32]⟩++KL su)++id)++⟨#[58]⟩) (Fi k) (by simp only[Aq,s1,s2,sg];have:(Fi k).size<=12:=xy;omega);have hA5:=D9 (P:=prog) (FC (l.take j)) ((((⟨#[32]⟩++KL su)++id)++⟨#[58]⟩)++Fi k) (by simp only[Aq,s1,s2,sg];have:(Fi k).size<=12:=xy;omega);have HD:=I (fun w'=>RP k w' (by have:=hk.out;omega));have Nh:=I (DJ.new wo 173 #[.string id,.int .i64 (k:Int),.bool su]);have Nc:= @run_makeMap prog;have E:=I (((AI w).below HB.out).lay #[.string id,.int .i64 (k:Int),.bool su] 173);clear EO IJ ht xy s1 s2 sg h1 h2 h3;have dC:=I (show FC (l.take (j+1))=FC (l.take j)++((((⟨#[32]⟩++KL su)++id)++⟨#[58]⟩)++Fi k)from dC.out)
   have q1:=sO;have q2:=oe;have q3:=lq;have q4:=eY;have q5:=lk;have q6:=fC
   go_upto_region 7 with fail
   generalize IK:World.alloc wo _=w2 at*;have HW2:=I IK;have I4:wo.heap.size<w2.heap.size:=by rw[<-IK];simp
   have Rp:=I (show∀w',Below w2.heap.size w2 w'->(Below w2.heap.size w2 w'/\w'.cell? ⟨wo.heap.size,0,none⟩=some (.string id)/\w'.cell? ⟨wo.heap.size,1,none⟩=some (.int .i64 (k:Int))/\w'.cell? ⟨wo.heap.size,2,none⟩=some (.bool su))from fun w' h=>⟨h,(Nh.out.below h I4).cell 0,(Nh.out.below h I4).cell 1,(Nh.out.below h I4).cell 2⟩);clear IK;generalize Fi k=nt at*;go_region_held3 (fun w'=>Below w2.heap.size w2 w'/\w'.cell? ⟨wo.heap.size,0,none⟩=some (.string id)/\w'.cell? ⟨wo.heap.size,1,none⟩=some (.int .i64 (k:Int))/\w'.cell? ⟨wo.heap.size,2,none⟩=some (.bool su))
    ((refine Rp.out _ ?_;repeat (with_reducible first|exact AA|refine Below.Gh ?_|refine AE ?_)))
    ((go_at_call 31;(with_reducible refine(HD.out _).mono ?_);rintro e' w3 ⟨rfl,rfl⟩))
   all_goals
    rename_i hheld;have Df:=I (Below.C9 HB.out (by rw[<-HW2.out];exact AA.alloc AB _:Below wo.heap.size wo w2)|>fun h=>Below.C9 h hheld.1);clear hheld;go_wp2;exact⟨⟨j+1,by omega,by simp,by rw[dC.out],Df.out⟩,by simp[RowKit.intOf];omega⟩
  ·obtain rfl:j=n:=by omega
   have e:l.take j=l:=AY (by rw[HL.out];omega);rw[e];go_wp2;go_ret;exact⟨rfl,HB.out⟩
structure Ek where
 T:Option DQ
 L:List Dg
def yk(F:Nat->Nat)(W:World)(tv:Value):Option DQ->Prop
 |none=>tv=.pointer none/\∀k,¬EK (F k)
 |some t=>∃tb,tv=.pointer (some ⟨tb,0,none⟩)/\MU F W tb t/\Dt t
def VX(c:Nat):Prop:=EK c\/c=31\/c=32
structure FN(F:Nat->Nat)(W:World)(db:Nat)(tv:Value)(A:Option Addr)(c:Nat)(s:Ek):Prop where
 DC:Nx F 31 W db 40 #[tv,.slice A s.L.length c]
 Jp:IW F 32 W 5 s.L.length A (Du s.L)
 Er:s.L.length<=5
 ids:∀x∈s.L,x.1.size<=maxLen
 Hz:yk F W tv s.T
def ZK(w:World)(F:Nat->Nat)(W:World)(db:Nat)(s:Ek)(W':World):Prop:=∃F' tv A c,EA w W' F'/\DN VX F W F' W'/\FN F' W' db tv A c s
def ID(e:Int)(s:ByteArray)(x:Ending):Prop:=(e=0/\x=.returned (.string s))\/(e≠0/\x=Dr e)
section
variable{w W W' W1 W2:World}{F F':Nat->Nat}{P:Nat->Prop}{tb db c:Nat}{A:Option Addr}{tv:Value}{t:DQ}{s:Ek}
theorem MU.gB(h:MU F W tb t)(hC:EA w W F)(m:DN P F W F' W')(hP:∀c,P c->¬EK c)(h5:t.L.length<=5):MU F' W' tb t:=by
 obtain⟨_,_,_,_,_,_,h⟩:=h;exact⟨_,_,_,_,_,_,h.other hC m hP h5⟩
theorem MU.Mw(h:MU F W tb t)(hC:EA w W F)(h5:t.L.length<=5)(hb:Below W.heap.size W W1):MU F W1 tb t:=
 h.gB hC (.below (P:=fun _=>False) hC hb) (fun _ h=>h.elim) h5
theorem Hd.from_(h:Hd w F W1 tb t W2)(hC:EA w W F)(hb:Below W.heap.size W W1):Hd w F W tb t W2:=by
 obtain⟨F',h1,h2,h3⟩:=h;exact⟨F',h1,DN.trans (.below hC hb) h2,h3⟩
theorem Hd.more(h:Hd w F W tb t W1)(hg:Dt t)(hb:Below W1.heap.size W1 W2):Hd w F W tb t W2:=by
 obtain⟨F',h1,h2,h3⟩:=h;exact⟨F',h1.below hb,h2.trans (.below h1 hb),h3.Mw h1 hg.Er hb⟩
theorem Hd.kept(h:Hd w F W tb t W1):Kept (fun k=>EK (F k)) W W1:=by
 obtain⟨F',h1,h2,h3⟩:=h;exact h2.kept
theorem PS:¬EK 0:=by unfold EK;omega
theorem Rf:¬EK 31:=by unfold EK;omega
theorem Yj:¬EK 32:=by unfold EK;omega
theorem DN.none(m:DN P F W F' W')(hC:EA w W F)(hP:∀c,P c->¬EK c)(h:∀k,¬EK (F k)):∀k,¬EK (F' k):=fun k e=>by
 by_cases hl:W.heap.size<=k
 ·exact hP _ (m.new k hl (fun e0=>by rw[e0]at e;exact PS e)) e
 ·rw[m.Nz k (by omega)]at e
  exact h k e
theorem FN.other(h:FN F W db tv A c s)(hC:EA w W F)(m:DN P F W F' W')(hP:∀c,P c->¬VX c):FN F' W' db tv A c s:=by
 have hn:∀c,VX c->¬P c:=fun c h1 h2=>hP c h2 h1;refine⟨m.DC hC (by omega) (hn 31 (.inr (.inl rfl))) h.DC,m.read hC (by omega) (hn 32 (.inr (.inr rfl))) h.Jp,h.Er,h.ids,?_⟩;have ht:=h.Hz;unfold yk at ht⊢;split
 ·next e=>
  rw[e]at ht;exact⟨ht.1,m.none hC (fun c h4 h5=>hP c h4 (.inl h5)) ht.2⟩
 ·next t e=>
  rw[e]at ht;obtain⟨tb,h1,h2,h3⟩:=ht;exact⟨tb,h1,h2.gB hC m (fun c h4 h5=>hP c h4 (.inl h5)) h3.Er,h3⟩
theorem FN.below(h:FN F W db tv A c s)(hC:EA w W F)(hb:Below W.heap.size W W1):FN F W1 db tv A c s:=
 h.other hC (.below (P:=fun _=>False) hC hb) (fun _ h=>h.elim)
theorem FN.kX{t':DQ}{L:List Dg}(h:FN F W db (.pointer (some ⟨tb,0,none⟩)) A c ⟨some t,L⟩)(hC:EA w W F)(k:Hd w F W tb t' W')(hg:Dt t'):ZK w F W db ⟨some t',L⟩ W':=by
 obtain⟨F',h1,h2,h3⟩:=k;exact⟨F',_,A,c,h1,h2.mono fun c h=>.inl h,h2.DC hC (by omega) Rf h.DC,h2.read hC (by omega) Yj h.Jp,h.Er,h.ids,tb,rfl,h3,hg⟩
theorem ZK.more(h:ZK w F W db s W1)(hb:Below W1.heap.size W1 W2):ZK w F W db s W2:=by
 obtain⟨F',tv,A,c,h1,h2,h3⟩:=h;exact⟨F',tv,A,c,h1.below hb,h2.trans (.below h1 hb),h3.below h1 hb⟩
theorem FN.Tg(h:FN F W db tv A c s)(hC:EA w W F):ZK w F W db s W:=⟨F,tv,A,c,hC,.refl hC,h⟩
end
structure Gi(F:Nat->Nat)(W:World)(b:Nat)(T:TypeId)(cs:Array Value):Prop where
 DC:DJ W b T cs
 zero:F b=0
section
variable{w W W':World}{F F':Nat->Nat}{b:Nat}{T:TypeId}{cs:Array Value}{i:Nat}
theorem Gi.Hl(h:Gi F W b T cs)(k:Kept (fun k=>EK (F k)) W W')(i:Nat):W'.cell? ⟨b,i,none⟩=cs[i]? :=
 (k.DC h.DC (fun e=>PS (by have e':EK (F b):=e;rw[h.zero]at e';exact e'))).cell i
theorem Nx.Hl(h:Nx F 31 W b T cs)(k:Kept (fun k=>EK (F k)) W W')(i:Nat):W'.cell? ⟨b,i,none⟩=cs[i]? :=
 (k.DC h.1 (fun e=>Rf (by have e':EK (F b):=e;rw[h.2]at e';exact e'))).cell i
end
def Wk(w:World)(N:List Dm)(er:Int)(out:ByteArray):Prop:=∀(W:World)(A:Option Addr)(c:Nat),Below w.heap.size w W->Reads W W.heap.size 3 A N.length (Da N)->
 Calls prog 118 #[.slice A N.length c,.int .i64 er] W fun x W'=>ID er out x/\Below W.heap.size W W'
theorem wE{w:World}{N:List Dm}(hn:N.length<=100)(hs:∀p∈N,IC p):Wk w N 0 (FC N):=fun W A c _ hr=>
 (rL A c N.length N rfl hn hs W hr).mono fun x W' ⟨h1,h2⟩=>⟨.inl ⟨rfl,h1⟩,h2⟩
theorem vR{w:World}{N:List Dm}{er:Int}(he:er≠0)(out:ByteArray):Wk w N er out:=fun W A c _ hr=>
 (rD A c N.length er he W).mono fun x W' ⟨h1,h2⟩=>⟨.inr ⟨he,h1⟩,h2▸AA⟩
theorem Wk.ok{w:World}{N:List Dm}{er:Int}{out:ByteArray}(h:Wk w N er out)(he:er=0)(W:World)(A:Option Addr)(c:Nat)(hb:Below w.heap.size w W)(hr:Reads W W.heap.size 3 A N.length (Da N)):
 Calls prog 118 #[.slice A N.length c,.int .i64 0] W fun x W'=>x=.returned (.string out)/\Below W.heap.size W W':=by
 subst he;exact(h W A c hb hr).mono fun x W' ⟨h1,h2⟩=>⟨h1.elim (fun a=>a.2) (fun a=>absurd rfl a.1),h2⟩
theorem Wk.no{w:World}{N:List Dm}{er:Int}{out:ByteArray}(h:Wk w N er out)(he:er≠0)(W:World)(A:Option Addr)(c:Nat)(hb:Below w.heap.size w W)(hr:Reads W W.heap.size 3 A N.length (Da N)):
 Calls prog 118 #[.slice A N.length c,.int .i64 er] W fun x W'=>x=Dr er/\Below W.heap.size W W':=
 (h W A c hb hr).mono fun x W' ⟨h1,h2⟩=>⟨h1.elim (fun a=>absurd a.1 he) (fun a=>a.2),h2⟩
theorem Hd.bw{w W W1:World}{F:Nat->Nat}{tb:Nat}{t:DQ}(h:Hd w F W tb t W1):Below w.heap.size w W1:=by
 obtain⟨F',h1,-⟩:=h;exact h1.DI
structure J9(F:Nat->Nat)(W:World)(b:Nat)(p v:Value)(bs:List Value):Prop where
 DC:Nx F 33 W b 44 #[p,v]
 row:W.ownsRow 0 5 1 v bs.length bs
 Jj:∀k,v.ownBlock=some k->F k=33
 ne:v.ownBlock≠some b
 p:p=.pointer none\/p=.pointer (some ⟨b,0,none⟩)
section
variable{w W W' W1:World}{F F':Nat->Nat}{P:Nat->Prop}{b:Nat}{p v:Value}{bs:List Value}
theorem J9.other(h:J9 F W b p v bs)(hC:EA w W F)(m:DN P F W F' W')(hn:¬P 33):J9 F' W' b p v bs:=
 ⟨m.DC hC (by omega) hn h.DC,m.kept.own h.row (fun k hk hx=>hn (by have e:P (F k):=hx;rwa [h.Jj k hk]at e)),fun k hk=>(m.Jj hC (by omega) hn).2 (h.Jj k hk),h.ne,h.p⟩
theorem J9.below(h:J9 F W b p v bs)(hC:EA w W F)(hb:Below W.heap.size W W1):J9 F W1 b p v bs:=h.other hC (.below (P:=fun _=>False) hC hb) id
def qO(w:World)(F:Nat->Nat)(W:World)(b:Nat)(bs:List Value)(W':World):Prop:=∃F' v,EA w W' F'/\DN (fun c=>c=33) F W F' W'/\J9 F' W' b (.pointer (some ⟨b,0,none⟩)) v bs
theorem gq:∃j,Tryz.prog.info? 44=some j/\j.size=2:=by
 have h:(Tryz.prog.info? 44).map (·.size)=some 2:=by kernel_rfl
 obtain⟨j,hj,h2⟩:=Option.map_eq_some_iff.1 h;exact⟨j,hj,h2⟩
theorem vF(h0:W.cell? ⟨b,0,none⟩=some (.pointer (some ⟨b,0,none⟩))):
 Calls prog 21 #[.pointer (some ⟨b,0,none⟩)] W fun e W'=>e=.returned (.tuple #[])/\W'=W:=by
 obtain⟨j,hj,hjs⟩:=gq;go_in;go_wp2;rw[Lib.run_neq_ptr_same W _ underlying41 hj];go_wp2
 go_end0
 exact⟨rfl,rfl⟩
theorem qH(h0:W.cell? ⟨b,0,none⟩=some (.pointer none))(tM:W.shape? b=some (44,2))(hfz:W.frozen? ⟨b,0,none⟩=false):
 Calls prog 21 #[.pointer (some ⟨b,0,none⟩)] W fun e W'=>e=.returned (.tuple #[])/\W'=W.setCell ⟨b,0,none⟩ (.pointer (some ⟨b,0,none⟩)):=by
 obtain⟨j,hj,hjs⟩:=gq;have hl:liesAt prog Tryz.prog.depth 44 (2/Tryz.prog.cellsOf 44) 0 44 1=true:=by kernel_rfl
 go_in;go_wp2;rw[Lib.run_to_unsafe W ⟨b,0,none⟩ underlying41 underlying127 hj (by rw[hjs];decide) tM (Nat.zero_lt_succ 1)];simp only[Result.andThen];rw[Oper.upon_value];go_wp2;rw[ATo func71 (by kernel_rfl) (by kernel_rfl) (by kernel_rfl) (e:=Extern.AbiNoEscape.same) (by kernel_rfl)];rw[Lib.run_noEscape];simp only[Result.andThen];rw[Oper.upon_value];go_wp2;rw[Lib.run_from_unsafe W ⟨b,0,none⟩ underlying127 underlying41 hj tM hl];simp only[Result.andThen];rw[Oper.upon_value];go_wp2
 go_end0
 exact⟨rfl,rfl⟩
def AHL(F:Nat->Nat)(W:World)(b:Nat)(v:Value)(bs:List Value)(W':World):Prop:=Kept (fun k=>F k=33) W W'/\W'.heap.size=W.heap.size/\J9 F W' b (.pointer (some ⟨b,0,none⟩)) v bs
theorem qp(h:J9 F W b p v bs)(hC:EA w W F):
 Calls prog 21 #[.pointer (some ⟨b,0,none⟩)] W fun e W'=>e=.returned (.tuple #[])/\AHL F W b v bs W':=by
 have c0:=h.DC.1.cell 0;rcases h.p with rfl|rfl
 ·have tM:W.shape? b=some (44,2):=by
   have:=h.DC.1;unfold DJ at this;simp[World.shape?,this]
  refine(qH c0 tM (h.DC.1.frozen 0)).mono ?_;rintro e W' ⟨rfl,rfl⟩;have K:Kept (fun k=>F k=33) W (W.setCell ⟨b,0,none⟩ (.pointer (some ⟨b,0,none⟩))):=(AH _ W).setCell (a:=⟨b,0,none⟩) (.inl h.DC.2) _;refine⟨rfl,K,by simp[World.setCell],⟨by have:=h.DC.1.De 0 (.pointer (some ⟨b,0,none⟩));simpa using this,h.DC.2⟩,?_,h.Jj,h.ne,.inr rfl⟩;exact((AH (fun k=>k=b) W).setCell (a:=⟨b,0,none⟩) (.inl rfl) _).own h.row (fun k hk e=>h.ne (by rw[hk,e]))
 ·refine(vF c0).mono ?_
  rintro e W' ⟨rfl,rfl⟩;exact⟨rfl,AH _ _,rfl,h⟩
theorem J9.grown{v':Value}{bs':List Value}{W2 W0:World}(h:J9 F W1 b (.pointer (some ⟨b,0,none⟩)) v bs)(hC:EA w W F)(hk:Kept (fun k=>F k=33) W W1)(hs:W1.heap.size=W.heap.size)(hb:Below W1.heap.size W1 W0)(hg:W0.grownBy W2 v.ownBlock)(hr:W2.ownsRow 0 5 1 v' bs'.length bs')
 (hv:∀k,v'.ownBlock=some k->v.ownBlock=some k\/W0.heap.size<=k) (hn:v'.ownBlock≠some b):qO w F W b bs' (W2.setCell ⟨b,1,none⟩ v'):=by
 have K1:Kept (fun k=>F k=33) W W2:=(hk.step hb).grown hg (fun k hk=>.inl (h.Jj k hk));have K2:Kept (fun k=>F k=33) W (W2.setCell ⟨b,1,none⟩ v'):=K1.setCell (a:=⟨b,1,none⟩) (.inl h.DC.2) _;have DG:=h.DC.1.lt;have Jg:DJ W0 b 44 #[.pointer (some ⟨b,0,none⟩),v]:=h.DC.1.below hb DG;have DK:DJ W2 b 44 #[.pointer (some ⟨b,0,none⟩),v]:=(hg.block b Jg.lt (fun e=>h.ne e.symm)).trans Jg;have PR:=hb.size;refine⟨_,v',hC.DM (by omega) K2,.DM hC K2,⟨by have:=DK.De 1 v';simpa using this,Hm h.DC.2⟩,?_,fun k hk=>?_,hn,.inr rfl⟩
 ·exact((AH (fun k=>k=b) W2).setCell (a:=⟨b,1,none⟩) (.inl rfl) _).own hr (fun k hk e=>hn (by rw[hk,e]))
 ·rcases hv k hk with h1|h1
  ·exact Hm (h.Jj k h1)
  ·have zY:k<W2.heap.size:=by
    exact(hr.lt k hk).2
   exact FV (by omega) (by simpa [World.setCell] using zY)
theorem bm{P:Program}(W:World)(t u ty e:TypeId)(i:TypeInfo)(ht:P.underlying t=some (.slice e))(hu:P.underlying u=some .string)(hi:P.info? e=some i)(hz:i.zero=some (.int .u8 0))(H7:i.size=1)(Y7:i.bytes=1)
 (v:Value) (n:Nat) (xs:List Value) (DL:W.ownsRow 0 e 1 v n xs) (s:ByteArray) (Xv:n+s.size<=maxLen) (G9:n+s.size<=140737488355328):
 ∃v' W',(Builtin.append_ #[t,u] ty #[v,.string s]).run P W=.ok v' W'/\W'.ownsRow 0 e 1 v' (n+s.size) (xs++Lib.strCells s)/\W.grownBy W' v.ownBlock/\(∀k,v'.ownBlock=some k->v.ownBlock=some k\/W.heap.size<=k):=by
 obtain⟨v1,W1,r1,r2,r3,r4⟩:=Lib.run_append_own_string (P:=P) W 0 t u ty e i ht hu hi hz H7 Y7 v n xs DL s Xv G9 (AM _);refine⟨v1,W1,r1,r2,r3,fun k hk=>?_⟩;rcases DL.2 with⟨rfl,rfl⟩|⟨g,cap,cur,rfl,WJ,hg,Qj,j8,EO,aG⟩
 ·obtain⟨v2,W2,q1,q2,q3,q4⟩:=Lib.run_append_own_string (P:=P) W W.heap.size t u ty e i ht hu hi hz H7 Y7 (.slice none 0 0) 0 xs ⟨DL.1,.inl ⟨rfl,rfl⟩⟩ s Xv G9 AB
  rw[r1]at q1;injection q1 with e1 e2
  subst e1;exact .inr (q2.lt k hk).1
 ·by_cases bu:n+s.size<=cap
  ·have q1:=Lib.run_append_room_string (P:=P) W t u ty e i ht hu hi H7 g n cap cur hg s bu (by omega)
   rw[r1]at q1;injection q1 with e1 e2
   subst e1;exact .inl hk
  ·have eR:xs.length=n:=by have:=DL.1;omega
   have holds:∀j u,xs[j]? =some u->W.cell? ((⟨g,0,none⟩:Addr).add j)=some u:=DL.cells (g:=g) rfl;have q1:=Lib.run_append_grow_string (P:=P) W t u ty e i (.int .u8 0) ht hu hi hz ⟨g,0,none⟩ n cap xs (by rw[H7];omega) holds s (by omega) (by unfold maxLen at Xv;omega) (by rw[Y7];exact growslice_fits (by omega) (by omega));rw[r1]at q1;injection q1 with e1 e2
   subst e1;have:k=W.heap.size:=by simpa [Value.ownBlock] using hk.symm
   exact .inr (by omega)
theorem VE{P:Program}(W:World){ops:Array Oper}{rest:List Oper}{o:Oper}{a:Act}{Q:Exit->Act->World->Prop}(La:o.guard=none)(sl x:Operand)(t u:TypeId)
 (ho:o.op=.call {callee:=.builtin .append,args:=#[sl,x],argTypes:=#[t,u]}) (e:TypeId) (i:TypeInfo) (ht:P.underlying t=some (.slice e)) (hu:P.underlying u=some .string) (hi:P.info? e=some i) (hz:i.zero=some (.int .u8 0)) (H7:i.size=1) (Y7:i.bytes=1)
 (v:Value) (n:Nat) (xs:List Value) (hs:a.eval sl=v) (DL:W.ownsRow 0 e 1 v n xs) (s:ByteArray) (hx:a.eval x=.string s) (Xv:n+s.size<=maxLen) (G9:n+s.size<=140737488355328)
 (h:∀v' W',W'.ownsRow 0 e 1 v' (n+s.size) (xs++Lib.strCells s)->W.grownBy W' v.ownBlock->(∀k,v'.ownBlock=some k->v.ownBlock=some k\/W.heap.size<=k)->wpList P ops Q rest (a.put o.dst v') W'):wpList P ops Q (o::rest) a W:=by
 refine ASh La fun K hK=>?_;obtain⟨v',W',hr,h2,h3,h4⟩:=bm (P:=P) W t u o.type e i ht hu hi hz H7 Y7 v n xs DL s Xv G9;unfold Oper.wp execOp;simp only[ho,resolve,invoke,builtin,Sem.run_bind,Sem.run_pure,Result.andThen_ok,List.map_toArray,CN,List.map_nil,hs,hx,hr];exact hK _ _ (h v' W' h2 h3 h4)
theorem aV:(Tryz.prog.info? 5).map (fun i=>(i.zero,i.size,i.bytes))=some (some (.int .u8 0),1,1):=by kernel_rfl
theorem vJ(h:J9 F W b p v bs)(hC:EA w W F)(s:ByteArray)(hlen:bs.length+s.size<=1000000000):
 Calls prog 9 #[.pointer (some ⟨b,0,none⟩),.string s] W fun e W'=>e=.returned (.tuple #[.int .i64 (s.size:Int),.nilIface])/\qO w F W b (bs++Lib.strCells s) W':=by
 obtain⟨i0,hi,Fq,FZ,Fe⟩:=AO aV;have HC:=I hC;have WT:=I (qp h hC);clear h hC;go_in;go_wp2_with fail
 refine WT.out.mono ?_;rintro e' w1 ⟨rfl,hk,ER,hb⟩;have HB:=I hb;have HK:=I hk;have HZ:=I ER;have DG:=hb.DC.1.lt;have c1:=hb.DC.1.cell 1;simp at c1;clear hk ER hb;go_wp2_with (at_builtin;refine VE _ rfl _ _ 42 9 rfl 5 i0 underlying42 underlying9 hi Fq FZ Fe _ _ _ rfl HB.out.row s rfl ?c1 ?c2 ?_)
 case c1=>unfold maxLen;omega
 case c2=>omega
 intro v' w2 DL hg hv;have hn:v'.ownBlock≠some b:=fun e=>(hv b e).elim (fun e1=>HB.out.ne e1) (fun e1=>by omega);have Df:=I (HB.out.grown (bs':=bs++Lib.strCells s) HC.out HK.out HZ.out AA hg (by rw[AN,Lib.strCells_length];exact DL) hv hn);have DK:DJ w2 b 44 #[.pointer (some ⟨b,0,none⟩),v]:=(hg.block b DG (fun e=>HB.out.ne e.symm)).trans HB.out.DC.1;have zY:=DK.lt;have d1:=DK.cell 1;have f1:=DK.frozen 1;simp at d1;obtain⟨A9,c9,rfl⟩:=Cz DL;clear DL hg hv hn DK;go_wp2
 go_ret2
 exact⟨rfl,Df.out⟩
theorem tu(h:J9 F W b p v bs)(hC:EA w W F)(z:Int)(hlen:bs.length+1<=1000000000):
 Calls prog 11 #[.pointer (some ⟨b,0,none⟩),.int .u8 z] W fun e W'=>e=.returned .nilIface/\qO w F W b (bs++[.int .u8 z]) W':=by
 obtain⟨i0,hi,Fq,FZ,Fe⟩:=AO aV;have HC:=I hC;have WT:=I (qp h hC);clear h hC;go_in;go_wp2_with fail
 refine WT.out.mono ?_;rintro e' w1 ⟨rfl,hk,ER,hb⟩;have HB:=I hb;have HK:=I hk;have HZ:=I ER;have DG:=hb.DC.1.lt;have c1:=hb.DC.1.cell 1;simp at c1;clear hk ER hb;have HR1:=I (show Reads (w1.alloc (.cells #[.int .u8 z] 5)) (w1.heap.size+1) 1 (some ⟨w1.heap.size,0,none⟩) 1 [.int .u8 z]from⟨rfl,fun _=>⟨_,rfl,by simp,fun j u hj=>by
  rcases j with _|j
  ·cases hj;exact(DJ.new w1 5 #[.int .u8 z]).cell 0
  ·simp at hj⟩⟩)
 go_wp2_with (at_builtin;refine Dd _ rfl _ _ 42 rfl 0 5 i0 (.int .u8 0) 1 1 underlying42 hi Fq FZ Fe rfl (by decide) _ _ _ rfl (HB.out.row.alloc _) _ _ 1 _ _ rfl HR1.out ?c0 ?c1 ?c2 (AM _) ?_)
 case c0=>intro u hu;rcases Ai.1 hu with rfl;rfl
 case c1=>unfold maxLen;omega
 case c2=>omega
 intro v' w2 DL hg hv;have md:∀k,v'.ownBlock=some k->v.ownBlock=some k\/(w1.alloc (.cells #[.int .u8 z] 5)).heap.size<=k:=fun k hk=>hv.elim (fun e=>.inl (e▸hk)) (fun e=>.inr (by have e9:=Option.some.inj (e.symm.trans hk);simp;omega));have hn:v'.ownBlock≠some b:=fun e=>(md b e).elim (fun e1=>HB.out.ne e1) (fun e1=>by simp at e1;omega);have Df:=I (HB.out.grown (bs':=bs++[.int .u8 z]) HC.out HK.out HZ.out (AA.alloc AB _) hg (by rw[AN];exact DL) md hn);have DK:DJ w2 b 44 #[.pointer (some ⟨b,0,none⟩),v]:=(hg.block b (by simp;omega) (fun e=>HB.out.ne e.symm)).trans (HB.out.DC.1.alloc _);have zY:=DK.lt;have d1:=DK.cell 1;have f1:=DK.frozen 1;simp at d1;obtain⟨A9,c9,rfl⟩:=Cz DL
 clear DL hg hv hn DK md;go_wp2;go_ret;exact⟨rfl,Df.out⟩
end
section
variable{w W W1 W2:World}{F F1:Nat->Nat}{tb tb2:Nat}{t t1 t2:DQ}
theorem bQ.other{P:Nat->Prop}(h:bQ F W tb2 t)(hC:EA w W F)(m:DN P F W F1 W1)(hP:∀c,P c->¬Fl c)(h5:t.L.length<=5):bQ F1 W1 tb2 t:=by
 obtain⟨_,_,_,_,h⟩:=h;exact⟨_,_,_,_,h.other hC m hP h5⟩
