/- slices -/
import Derived.Test.YthiplgekjgffkaaGreatDoorM06
import Derived.RangeFuncBox
import Derived.Shelf.Abstract
import Derived.OwnWalkIn
import Derived.TacticsInMore
import Derived.LoopNIn
import Derived.LoopIn
set_option maxRecDepth 100000
set_option maxHeartbeats 99000000
set_option linter.all false
namespace Go.Proofs.YthiplgekjgffkaaGreatDoor
def BH:=@Go.Proofs.enters_of
open Go.Proofs.Tryz
open Go.RowKit Go.Shelf
attribute [local go_sem] Oper.semAt_some
theorem nF(F:Fence)(n:Nat)(h7:F.fn 208)(WK:F.round=none)(hn:1<=n)(l Bs n₀ len cap:Nat)(A:Option Addr)(zs:List Int)(hz:zs.length=len)(hm:len<=1000000)(J Jx:List Int->World->Prop)
 (hY:∀pre x W,J pre W->pre.length<len->YieldAt F (n- 1) prog l #[.int .i64 x] W fun e W'=>
   (e=.returned (.bool true)/\J (pre++[x]) W'/\Below n₀ W W')\/(e=.returned (.bool false)/\Jx (pre++[x]) W'))
 (W:World) (yZ:W.cell? ⟨Bs,0,none⟩=some (.slice A len cap)) (hr:Reads W n₀ 1 A len (DF zs)) (h0:J [] W):
 CallsIn F n prog 208 #[.func (.yield l) #[] #[],.pointer (some ⟨Bs,0,none⟩)] W fun e W'=>(∃v,e=.returned v)/\
  ((∃ys,ys=zs/\J ys W')\/(∃pre,pre<+:zs/\Jx pre W')):=by
 have HZ:=I hz;have HR:=I hr;have HY:=I hY;clear hz hr hY;refine callsIn_of_wp func208 rfl h7 ?_ WK;simp only[ntmps208,Cv,AP,CZ,Nat.reduceAdd,Nat.reduceSub,AT1,AT2,AT3,AT4,Cm,Cg]
 gi_wp2
 gi_loopw [7] (fun i wr=>∃k:Nat,k<=len/\i=.int .i64 k/\J (zs.take k) wr/\Below n₀ W wr)
  (fun i _=>len- (intOf i).toNat)
 case atStart=>exact⟨0,AM _,rfl,h0,AA⟩
 case round=>
  obtain⟨k,hk,rfl,hJs,hnx⟩:=hrel;have HJ:=I hJs;have Ko:=I hnx;clear hJs hnx;by_cases DG:k<len
  ·obtain⟨b,off,rfl,hb,EC⟩:=(HR.out.below Ko.out AB).addr (by omega)
   have FR:=EC k _ (Fp zs k (by rw[HZ.out];exact DG));have T6:=I (So.SL (l:=zs) (k:=k) (by rw[HZ.out];exact DG));clear EC;obtain⟨fn,tmps,assign,body,hy,hR⟩:=HY.out _ (zs.getD k 0) wr HJ.out (by rw[AV];omega);generalize zs.getD k 0=x at*
   gi_wp2
   refine hR.mono ?_;rintro e W3 (⟨rfl,hJ3,IG⟩|⟨rfl,AGW⟩)
   ·gi_wp2
    go_roundw
    case rel=>exact⟨k+1,by omega,by simp,by rw[T6.out];exact hJ3,Ko.out.trans IG⟩
    case measure=>simp[intOf];omega
   ·gi_wp2
    refine AF (results_none rfl _ _ _) rfl ?_;exact⟨⟨_,rfl⟩,.inr ⟨_,by rw[<-T6.out];exact List.take_prefix _ _,AGW⟩⟩
  ·obtain rfl:k=len:=by omega
   have HL:=I (show zs.take k=zs by rw[<-HZ.out,Ap])
   gi_wp2
   go_end0
   exact⟨⟨_,rfl⟩,.inl ⟨_,rfl,by rw[<-HL.out];exact HJ.out⟩⟩
theorem fp(F:Fence)(n:Nat)(h7:F.fn 208)(WK:F.round=none)(hn:1<=n)(Bs n₀ len cap:Nat)(A:Option Addr)(zs:List Int)(hz:zs.length=len)(hm:len<=1000000)(w:World)(yZ:Bs<w.heap.size)(yU:n₀<=w.heap.size)
 (hc:w.cell? ⟨Bs,0,none⟩=some (.slice A len cap)) (hI:Reads w n₀ 1 A len (DF zs)):
 SeqStopsK F n prog 208 #[.pointer (some ⟨Bs,0,none⟩)] (fun x:Int=>#[Value.int .i64 x]) (Below n₀) (fun ys=>ys=zs) (fun pre=>pre<+:zs) len w:=fun l J Jx W hW _ _ hY h0=>
 nF F n h7 WK hn l Bs n₀ len cap A zs hz hm J Jx hY W ((hW.cell (p:=⟨Bs,0,none⟩) yZ).trans hc) (hI.below hW yU) h0
theorem gM(A:Option Addr)(len cap:Nat)(w:World):
 Calls prog 171 #[.slice A len cap] w fun e w'=>e=.returned (.func (.func 208) #[] #[.pointer (some ⟨w.heap.size,0,none⟩)])/\w'=w.alloc (.cells #[.slice A len cap] 53):=by
 go_in;go_wp2;go_ret;exact⟨rfl,rfl⟩
theorem gE:(Tryz.prog.info? 3).map (fun i=>(i.zero,i.size,i.bytes))=some (some (.int .i64 0),1,8):=by kernel_rfl
theorem WE(F:Fence)(n:Nat)(h11:F.fn 240)(h7:F.fn 208)(WK:F.round=none)(hn:3<=n)(Bs n₀ len cap:Nat)(A:Option Addr)(zs:List Int)(hz:zs.length=len)(hm:len<=1000000)(w:World)(yZ:Bs<w.heap.size)(yU:n₀<=w.heap.size)
 (hc:w.cell? ⟨Bs,0,none⟩=some (.slice A len cap)) (hI:Reads w n₀ 1 A len (DF zs)):
 CallsIn F n prog 240 #[.slice none 0 0,.func (.func 208) #[] #[.pointer (some ⟨Bs,0,none⟩)]] w fun e W'=>∃v,e=.returned v/\W'.ownsRow w.heap.size 3 1 v zs.length (DF zs)/\Below w.heap.size w W':=by
 have h1:1<=n:=by omega
 obtain⟨i0,hi,Fq,FZ,Fe⟩:=AO gE;refine callsIn_of_wp_marks func240 rfl h11 ?_ WK;simp only[ntmps240,Cv,AP,CZ,Nat.reduceAdd,Nat.reduceSub,AT1,AT2,AT3,AT4,Cm,Cg]
 gi_wp2
 have bO:=Boxed.new w 53 (.slice none 0 0);have hB0:Below w.heap.size w (w.alloc (.cells #[.slice none 0 0] 53)):=(AQ _ w).alloc AB _;refine wpIn_rangeFunc_ownG WK h1 (gf:=208) (lb:=#[.pointer (some ⟨Bs,0,none⟩)]) rfl h7 (BH func208 (by kernel_rfl) rfl)
  (fp F (n- 1) h7 WK (by omega) Bs n₀ len cap A zs hz hm _ (by simp;omega) (by simp;omega) ((hB0.cell (p:=⟨Bs,0,none⟩) yZ).trans hc) (hI.below hB0 yU)) belowK_t (belowK_b (by simp;omega)) AA (fun _=>rfl)
  (fun(pre:List Int) W=>(∃v,Boxed W w.heap.size 53 v/\W.ownsRow w.heap.size 3 1 v pre.length (pre.map (Value.int .i64))/\True)/\Below w.heap.size w W)
  (fun _ _ _=>False)
  (OwnFrom.and (Own.from (holdsRow_own w.heap.size w.heap.size 53 3 1 (fun pre:List Int=>pre.length) (fun pre:List Int=>pre.map (Value.int .i64)) (fun(_:List Int) (_:Value)=>True)) _) (ownFrom_below AB (by simp)))
  (fun _ _ _ _ _ hs _ _=>hs)
  ⟨⟨_,bO,AX _ _ _ _,trivial⟩,hB0⟩
  (fun x=>{tmps:=#[.slice none 0 0,.func (.func 208) #[] #[.pointer (some ⟨Bs,0,none⟩)],.pointer (some ⟨w.heap.size,0,none⟩),undef,.slice none 0 0,.int .i64 x,.func (.func 208) #[] #[.pointer (some ⟨Bs,0,none⟩)],.int .i64 x,undef,undef,undef,undef,undef],defers:=[]}) ?assign ?body ?done ?stop
 case assign=>
  intro l x W K hK
  gi_wp2
  exact hK
 case body=>
  rintro l pre x W ⟨⟨v,hv,Eg,_⟩,hB⟩ DG;have hc:=hv.cell
  gi_wp2_with (gi_at_builtin;refine wpListIn_append_own _ rfl _ _ 53 rfl w.heap.size 3 i0 (.int .i64 0) 1 8 underlying53 hi Fq FZ Fe rfl (by decide) _ _ _ rfl (Eg.alloc _) ⟨W.heap.size,0,none⟩ 1 1 [.int .i64 x] rfl rfl (cell_one_new _ _ _) (by simp[Value.oneCell']) (by unfold maxLen;omega) (by omega) (by have:=hB.size;simp;omega) ?_;intro v' w1 xZ AEJ _;obtain⟨g',AAa,rfl⟩:=Go.ownsRow_succ xZ;obtain⟨ZQ,af,bH,Et,DK⟩:=hv.appended (by decide) Eg hB.size AB xZ AEJ;have Qi:=ZQ.cell;have hf1:=ZQ.frozen)
  exact⟨Et.from _,DK.mono yU,⟨_,af,by simpa using bH,trivial⟩,hB.trans DK⟩
 case done=>
  rintro D ys W hD rfl ⟨⟨v,hv,Eg,_⟩,hB⟩ hK;have hc:=hv.cell
  gi_wp2
  refine⟨by simp,.inl ⟨_,_,rfl,run_takeDeferred hK,?_⟩⟩;exact⟨_,results_tmp rfl _ _ _,v,rfl,ownsRow_putObj Eg _ hK rfl,hB.trans (belowK_b (w:=w) AB W D _ _ (by simp at hD;omega) hK rfl rfl)⟩
 case stop=>
  rintro D c pre W _ _ h _;exact h.elim
theorem YC(F:Fence)(n:Nat)(h8:F.fn 206)(h11:F.fn 240)(h7:F.fn 208)(WK:F.round=none)(hn:4<=n)(Bs n₀ len cap:Nat)(A:Option Addr)(zs:List Int)(hz:zs.length=len)(hm:len<=1000000)(w:World)(yZ:Bs<w.heap.size)(yU:n₀<=w.heap.size)
 (hc:w.cell? ⟨Bs,0,none⟩=some (.slice A len cap)) (hI:Reads w n₀ 1 A len (DF zs)):
 CallsIn F n prog 206 #[.func (.func 208) #[] #[.pointer (some ⟨Bs,0,none⟩)]] w fun e W'=>∃v,e=.returned v/\W'.ownsRow w.heap.size 3 1 v zs.length (DF zs)/\Below w.heap.size w W':=by
 have h1:1<=n:=by omega
 refine callsIn_of_wp func206 rfl h8 ?_ WK;simp only[ntmps206,Cv,AP,CZ,Nat.reduceAdd,Nat.reduceSub,AT1,AT2,AT3,AT4,Cm,Cg]
 gi_wp2_with (gi_at_call 240;refine(WE F (n- 1) h11 h7 WK (by omega) Bs n₀ len cap A zs hz hm _ yZ yU hc hI).mono ?_;rintro e w' ⟨v,rfl,Eg,hb⟩)
 go_ret;exact⟨v,rfl,Eg,hb⟩
