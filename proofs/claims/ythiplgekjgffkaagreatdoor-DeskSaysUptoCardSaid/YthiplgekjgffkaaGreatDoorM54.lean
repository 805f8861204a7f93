/- DeskSays: for all scripts the call returns true, where the script and the variables that the reading takes are of bulk at most 1048576: the given statement DeskSaysUptoCardSaid. -/
import Derived.Test.YthiplgekjgffkaaGreatDoorM53
import Derived.Test.YthiplgekjgffkaaGreatDoorRows
import Derived.Test.YthiplgekjgffkaaGreatDoorCards
import Derived.Test.YthiplgekjgffkaaGreatDoorTie
import Derived.Lay
import Derived.Deep.DeepHandedRow
import Derived.Stop.LaidErr
set_option maxRecDepth 100000
set_option maxHeartbeats 99000000
set_option linter.all false
namespace Go.Proofs.YthiplgekjgffkaaGreatDoor.deskSays
open Go.Proofs.Tryz
open Go.ChangeShapes Go.WideShapes Go.ChangeAt Go.RowKit
open Go.ChangeMaps (open_string shut_string)
theorem own:ownKnob Tryz.prog.godebug=none:=by kernel_rfl
theorem laidOut:laidOutB prog=true:=by kernel_rfl
def laid:List (String×DataW Unit):=[("math/bits.deBruijn32tab",Rows.laid_math_bits_deBruijn32tab),("math/bits.deBruijn64tab",Rows.laid_math_bits_deBruijn64tab),("internal/strconv.uint64pow10",Rows.laid_internal_strconv_uint64pow10),("unicode/utf8.acceptRanges",Rows.laid_unicode_utf8_acceptRanges),("strconv.ErrRange",Rows.laid_strconv_ErrRange),("strconv.ErrSyntax",Rows.laid_strconv_ErrSyntax),("unicode/utf8.first",Rows.laid_unicode_utf8_first)]
theorem AIe:Tryz.prog.globalNamed "internal/strconv.uint64pow10" =some 5:=by kernel_rfl
theorem gES:Tryz.prog.globalNamed "strconv.ErrSyntax" =some 8:=by kernel_rfl
theorem gER:Tryz.prog.globalNamed "strconv.ErrRange" =some 9:=by kernel_rfl
theorem star: "*" ++ "errors.errorString" = "*errors.errorString" :=by decide
theorem ADI(u:TypeId)(h:Tryz.prog.typeName? 3 u=some "*errors.errorString"):u=320:=
 typeName_ptr_named (nm:= "errors.errorString") (by rw[star];kernel_rfl) (by kernel_rfl) (by decide) u (by rw[star];exact h)
theorem AEX{W:World}(h:laidMetH prog laid W)(tM:W.ShapedOpen prog):Gl W:=by
 rw[MakeChecks.laidMetH_plain _ _ _ (by kernel_rfl)]at h;obtain⟨m,hm⟩:=cell_of_shapedOpen_int (g:=0) (zero:=#[.int .i64 0]) (t:=3) tM (AUD (by kernel_rfl)) (by kernel_rfl) rfl (by kernel_rfl) (by kernel_rfl) underlying3;have hS:=laid_sentinel (W:=W) (g:=8) (ti:=46) (tp:=320) (te:=322) (ts:=9) h.tail.tail.tail.tail.tail gES (by kernel_rfl) underlying46 ADI underlying320 underlying322 rfl rfl underlying9 (by kernel_rfl) (by kernel_rfl);have hR:=laid_sentinel (W:=W) (g:=9) (ti:=46) (tp:=320) (te:=322) (ts:=9) h.tail.tail.tail.tail gER (by kernel_rfl) underlying46 ADI underlying320 underlying322 rfl rfl underlying9 (by kernel_rfl) (by kernel_rfl)
 obtain⟨a0,s0,h0,-⟩:=hS;obtain⟨a1,s1,h1,-⟩:=hR;refine⟨?_,⟨m,hm⟩,⟨_,by have h2:=World.var?_cell gES h0 0;simpa using h2,.inr ⟨_,_,rfl⟩⟩,⟨_,by have h2:=World.var?_cell gER h1 0;simpa using h2,.inr ⟨_,_,rfl⟩⟩⟩;exact Lib.tabIs_of_head (k:=.u64) (zs:=Lib.pow10Tab) AIe (by kernel_rfl) underlying264 underlying55 (by kernel_rfl) (by kernel_rfl) h.tail.tail
theorem AIU{H:Type}(s:List UInt8)(h:Rows.uptoSmall H [DataW.lit (.string s)]=true):s.length<=1048576:=by
 have:=AUD h;simp only[Rows.uptoBulkAll,Rows.uptoBulk]at this;omega
theorem ax{H:Type}{enc:TypeId×Value->H}{C:Checked}{os:Os}{f:FuncId}{fn:Func}{s:OpenSpec}{conds:List PathCond}{apart:Bool}{laid:List (String×DataW Unit)}(w0:World)(args:Array Value)(hos:w0.os=os)
 (tM:(w0.forCall (fun _ _=>0) ⟨#[],args,[]⟩).Shaped C.prog) (N7:Input.okWideB C.prog (w0.forCall (fun _ _=>0) ⟨#[],args,[]⟩) f ⟨#[],args,[]⟩=true)
 (Eg:s.preRow enc C.prog fn conds apart laid (w0.forCall (fun _ _=>0) ⟨#[],args,[]⟩).memory args):
 ∃(w:World)(tape:Tape)(i:Input),w.os=os/\(w.forCall tape i).Shaped C.prog/\i.vars=[]/\Input.okWide C.prog (w.forCall tape i) .any w.heap.size f i/\
  s.preRow enc C.prog fn conds apart laid (w.forCall tape i).memory i.args/\({}:Assume).holds C.prog (lone (Frame.enter C.prog f i.args .normal) [] (w.forCall tape i)):=
 ⟨w0,fun _ _=>0,⟨#[],args,[]⟩,hos,tM,(Input.okWide_of_okWideB (base:=0) N7).1,(Input.okWide_of_okWideB N7).2,Eg,by
   simp only[Assume.holds];exact⟨by simp,by simp,fun _=>Modest.zero,by simp,by simp⟩⟩
theorem reads(os:Os){H:Type}(enc:TypeId×Value->H):∃places,DataW.whole enc prog ((World.laidAll prog os laid).forCall (fun _ _=>0) ⟨#[],#[.string ⟨#[]⟩],[]⟩).memory Tryz.f3.params.toList Rows.deskSaysSpec.vars false #[Value.string ⟨#[]⟩].toList 8=some ([.lit (.string [])],[],places):=
 ⟨[],by kernel_rfl⟩
theorem lifted(os:Os)(started:os.Started)(H:Type)(enc:TypeId×Value->H)(F:Stop.Interp):
 ReturnsInHanded {} Tryz.checked os 3 .any ((Rows.OpenSpec.upto Rows.deskSaysSpec).preRow enc prog Tryz.f3 Rows.deskSaysUptoRow.domain false Rows.deskSaysUptoRow.laid) (((Rows.OpenSpec.upto Rows.deskSaysSpec).at F).post enc prog Tryz.f3 false true false false):=by
 obtain⟨places,hx⟩:=reads os enc;refine returnsInHanded_of_row (C:=Tryz.checked) (s:=Rows.OpenSpec.upto Rows.deskSaysSpec) own started (by kernel_rfl) func3
  (ax (enc:=enc) (C:=Tryz.checked) (World.laidAll prog os laid) #[.string ⟨#[]⟩] (World.laidAll_os _ _ _) (World.shaped_of_ZipB (by kernel_rfl) (by kernel_rfl)) (by kernel_rfl)
    (OpenSpec.preRow_of_cond 8 hx (by kernel_rfl) (fun k hk=>by cases hk;kernel_rfl) (by kernel_rfl) (by
      rw[show Rows.deskSaysUptoRow.laid=laid from rfl,MakeChecks.laidMetH_plain _ _ _ (by kernel_rfl)];exact laidMet_laidAll _ (by kernel_rfl) (by kernel_rfl)))) ?_
 intro W base args ds gs before ya hW _ yY _ hL tM _;have Td:∀(j:Nat) t v,Tryz.f3.params[j]? =some t->args[j]? =some v->Value.okWide prog W .any base t v:=ya;have hW':=hW;obtain⟨p,q,hA0,hV,rfl,hfz,hnd⟩:=hW;have hA:DataW.TrodAll enc prog W 0 (fun _=>true) true Tryz.f3.params.toList args.toList ds p:=hA0;rw[params3]at hA Td;obtain⟨v0,vs0,d0,ds0,p0,q0,AJ5,rfl,rfl,h0,r0⟩:=trodAll_cons hA;obtain⟨rfl,rfl,rfl⟩:=trodAll_nil r0;obtain rfl:args=#[v0]:=by cases args;simp_all
 obtain⟨rfl,rfl⟩:=trodVars_none hV;have k0:=h0;have lt0:∀x∈p0,x.block<W.heap.size:=by obtain⟨m,hm⟩:=k0;exact DataW.trod_lt m _ _ _ hm
 obtain⟨a0,rfl,fh,-,w0⟩:=open_string underlying9 (Td 0 9 v0 rfl rfl) h0;subst fh;have hs:a0.size<=1048576:=AIU _ (yY _ rfl);clear hA0 ya yY;refine(We a0 hs W (AEX hL tM)).mono fun e W' ⟨he,DI⟩=>?_;subst he;exact⟨_,rfl,_,_,_,[],_,[],hW',trodAll_mk1 (shut_bool underlying4 _),(trodAll_cons_mk (Below.trod laidOut (by kernel_rfl) (AUD (by kernel_rfl)) k0 DI lt0) trodAll_mk0),rfl,DI.frame _,fun h=>by cases h⟩
theorem over:Rows.DeskSaysUptoSaid:=
 OpenClaim.holds_of_cond 3 Tryz.f3 rfl rfl rfl rfl rfl rfl rfl ⟨rfl,rfl,rfl,rfl,rfl⟩ rfl rfl rfl rfl rfl (by kernel_rfl) func3 (by kernel_rfl)
  (AUD (by kernel_rfl)) (by unfold Func.isWrapper;first|(rw[AD (by decide+kernel)];kernel_rfl)|(rw[AC (by decide+kernel)];exact⟨rfl,rfl⟩))
  (fun os started H enc _ F=>by rw[OpenClaim.pre_eq_preRow];exact lifted os started H enc F)
theorem plain(f:FuncId)(fn:Func)(hf:Tryz.pinned.checked.prog.funcNamed "heartwood/hwlaw.DeskSays" =some f)(hfn:Tryz.pinned.checked.prog.funcs[f]? =some fn):
 true=Tryz.pinned.checked.prog.looks []/\∀(j:Nat) t,fn.params[j]? =some t->Tryz.pinned.checked.prog.wantsStandIn t=false:=by
 obtain rfl:f=3:=Option.some.inj ((show Tryz.prog.funcNamed "heartwood/hwlaw.DeskSays" =some 3 by kernel_rfl).symm.trans hf) |>.symm
 obtain rfl:fn=Tryz.f3:=(Option.some.inj (Tryz.func3.symm.trans hfn)).symm;refine⟨by kernel_rfl,fun j t ht=>?_⟩;rw[params3]at ht;obtain rfl:t=9:=by simpa using Array.mem_of_getElem? ht
 exact(show Tryz.prog.wantsStandIn 9=false by kernel_rfl)
theorem card:Rows.DeskSaysUptoCardSaid:=
 Claim7.holds_tied_plain_at .later [] _ _ _ _ over (fun _ h=>by cases h) (by kernel_rfl) (fun _ h=>by cases h) deskSaysUpto_row_tie rfl ⟨rfl,rfl⟩ (by kernel_rfl) rfl plain (by kernel_rfl)
#print axioms card
