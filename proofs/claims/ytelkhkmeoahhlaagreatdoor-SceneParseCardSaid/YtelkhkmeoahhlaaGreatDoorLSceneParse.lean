/- SceneParse: for every input the law returns true; each argument reads behind the call as it read before. No conditions. -/
import Derived.Test.YtelkhkmeoahhlaaGreatDoorQD
import Derived.Test.YtelkhkmeoahhlaaGreatDoorF52C3
import Derived.Test.YtelkhkmeoahhlaaGreatDoorV3
import Derived.Test.YtelkhkmeoahhlaaGreatDoorCards
import Derived.Test.YtelkhkmeoahhlaaGreatDoorTie
import Derived.Deep.DeepHandedRow
import Derived.Test.YtelkhkmeoahhlaaGreatDoorRows
set_option linter.all false
set_option maxRecDepth 100000
namespace Go.Proofs.YtelkhkmeoahhlaaGreatDoor
open Go.Rx GoForm Go.ChangeShapes Go.WideShapes Go.ChangeAt Go.RowKit
theorem own:ownKnob Tryz.prog.godebug=none:=by kernel_rfl
theorem laidOut:laidOutB Tryz.prog=true:=by kernel_rfl
theorem op9 (W:Go.World):jlH Tryz.prog W 9 (fun(x:(List UInt8))=>[KY x]) (fun(x:(List UInt8))=>(x).length<=9223372036854775807):=jf2 Tryz.underlying9
theorem uI (H:Type)(enc:TypeId × Value->H)(W:World)(base:Nat)(args:Array Value)(ds gs:List (DataW H))(before:List MemPlace)
 (hval:∀(j:Nat) t v,Tryz.f5.params[j]? = some t->args[j]? = some v->Value.okWide Tryz.prog W .any base t v)
 (hW:DataW.Whole enc Tryz.prog Tryz.f5.params.toList Rows.sceneParseSpec.vars false W args.toList ds gs before):
 Calls Tryz.prog 5 args W fun e W'=>∃v,e=.returned v/\Rows.sceneParseSpec.post enc Tryz.prog Tryz.f5 false true false false W args v W':=by
 have hW':=hW
 obtain⟨p,q,hA0,hV,rfl,hfz,hnd⟩:=hW
 have hA:DataW.TrodAll enc Tryz.prog W 0 (fun _=>true) true Tryz.f5.params.toList args.toList ds p:=hA0
 rw[Tryz.params5]at hA hval
 obtain⟨v0,vs0,d0,ds0,p0,q0,hargs,rfl,rfl,h0,r0⟩:=trodAll_cons hA
 obtain⟨rfl,rfl,rfl⟩:=trodAll_nil r0
 obtain rfl:args=#[v0]:=by cases args;simp_all
 obtain⟨rfl,rfl⟩:=trodVars_none hV
 have ok0:=hval 0 9 v0 rfl rfl
 obtain⟨a0,e0,w0⟩:=jlA (jkB Tryz.underlying9 rfl ok0) (op9 W) h0 ok0
 have hp:=GoForm.vM a0 w0
 have hc:FnR Tryz.prog 5 [KY a0] (.v (.bool true)) []:=c_5.ok (a0,()) _ true ⟨rfl,trivial⟩ hp
 exact jin laidOut (by kernel_rfl) rfl Tryz.underlying4 rfl hW' rfl (.cons e0 .nil) hc
noncomputable def vl (os:Os):World:=
 {World.holding Tryz.prog os ⟨#[],#[],[]⟩with heap:=(((World.holding Tryz.prog os ⟨#[],#[],[]⟩).heap.modify 2 fun| .cells _ t frozen=>.cells #[.int .u8 128,.int .u8 191,.int .u8 160,.int .u8 191,.int .u8 128,.int .u8 159,.int .u8 144,.int .u8 191,.int .u8 128,.int .u8 143,.int .u8 0,.int .u8 0,.int .u8 0,.int .u8 0,.int .u8 0,.int .u8 0,.int .u8 0,.int .u8 0,.int .u8 0,.int .u8 0,.int .u8 0,.int .u8 0,.int .u8 0,.int .u8 0,.int .u8 0,.int .u8 0,.int .u8 0,.int .u8 0,.int .u8 0,.int .u8 0,.int .u8 0,.int .u8 0] t frozen|o=>o).modify 1 fun| .cells _ t frozen=>.cells (Go.Pinned.utf8FirstZ.map fun(n:Nat)=>Value.int .u8 (n:Int)).toArray t frozen|o=>o)}
theorem uH (os:Os):laidMet Tryz.prog Rows.sceneParseRow.laid ((vl os).forCall (fun _ _=>0) ⟨#[],#[(.string ByteArray.empty)],[]⟩).memory:=
 laidMet_of_run' 8 (by kernel_rfl) (by kernel_rfl)
theorem Xz (os:Os){H:Type}(enc:TypeId × Value->H):∃places,DataW.whole enc Tryz.prog ((vl os).forCall (fun _ _=>0) ⟨#[],#[(.string ByteArray.empty)],[]⟩).memory Tryz.f5.params.toList Rows.sceneParseSpec.vars false (#[(.string ByteArray.empty)]:Array Value).toList 8=some ([.lit (.string [])],[],places):=
 ⟨[],by kernel_rfl⟩
theorem UY (os:Os)(started:os.Started)(H:Type)(enc:TypeId × Value->H)(F:Stop.Interp):
 ReturnsInHanded {} Tryz.checked os 5 .any ((OpenSpec.ofChange Rows.sceneParseSpec).preRow enc Tryz.prog Tryz.f5 Rows.sceneParseRow.domain false Rows.sceneParseRow.laid) (((OpenSpec.ofChange Rows.sceneParseSpec).at F).post enc Tryz.prog Tryz.f5 false true false false):=by
 obtain⟨places,hx⟩:=Xz os enc
 refine returnsInHanded_of_row (C:=Tryz.checked) (s:=OpenSpec.ofChange Rows.sceneParseSpec) own started (by kernel_rfl) Tryz.func5
  (witness_row_at (enc:=enc) (C:=Tryz.checked) false (vl os) #[(.string ByteArray.empty)] rfl (by kernel_rfl) (by kernel_rfl) (by kernel_rfl)
    (OpenSpec.preRow_of_cond 8 hx (by kernel_rfl) (fun k hk=>by cases hk) (by kernel_rfl) (uH os))) ?_
 intro W base args ds gs before hval hW _ _ _ _ _ _
 exact uI H enc W base args ds gs before hval hW
theorem pD:Rows.SceneParseSaid:=
 OpenClaim.holds_of_cond 5 Tryz.f5 rfl rfl rfl rfl rfl rfl rfl ⟨rfl,rfl,rfl,rfl,rfl⟩ rfl rfl rfl rfl rfl (by kernel_rfl) Tryz.func5 (by kernel_rfl)
  (of_decide_eq_true (by kernel_rfl)) (by unfold Func.isWrapper;first|(rw[if_pos (by decide +kernel)];kernel_rfl)|(rw[if_neg (by decide +kernel)];exact⟨rfl,rfl⟩))
  (fun os started H enc _ F=>by rw[OpenClaim.pre_eq_preRow];exact UY os started H enc F)
theorem XA (f:FuncId)(fn:Func)(hf:Tryz.pinned.checked.prog.funcNamed Rows.sceneParseRow.func=some f)(hfn:Tryz.pinned.checked.prog.funcs[f]? = some fn):
 true=Tryz.pinned.checked.prog.looks []/\∀(j:Nat) t,fn.params[j]? = some t->Tryz.pinned.checked.prog.wantsStandIn t=false:=by
 obtain rfl:f=5:=Option.some.inj ((show Tryz.prog.funcNamed Rows.sceneParseRow.func=some 5 by kernel_rfl).symm.trans hf)|>.symm
 obtain rfl:fn=Tryz.f5:=(Option.some.inj (Tryz.func5.symm.trans hfn)).symm
 refine⟨by kernel_rfl,fun j t ht=>?_⟩
 rw[Tryz.params5]at ht
 have hm:=Array.mem_of_getElem? ht
 simp only[List.mem_toArray,List.mem_cons,List.not_mem_nil,or_false]at hm
 subst hm
 exact(show Tryz.prog.wantsStandIn 9=false by kernel_rfl)
theorem sceneParse_holds:Rows.SceneParseCardSaid:=
 Claim7.holds_tied_plain_at .later [] _ _ _ _ pD (fun _ h=>by cases h) (by kernel_rfl) (fun _ h=>by cases h) sceneParse_row_tie rfl ⟨rfl,rfl⟩ (by kernel_rfl) rfl XA (by kernel_rfl)
end Go.Proofs.YtelkhkmeoahhlaaGreatDoor
