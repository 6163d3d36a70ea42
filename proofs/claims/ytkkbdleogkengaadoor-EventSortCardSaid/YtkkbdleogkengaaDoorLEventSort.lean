/- EventSort: for every input the law returns true; each argument reads behind the call as it read before. No conditions. -/
import Derived.Test.YtkkbdleogkengaaDoorQF
import Derived.Test.YtkkbdleogkengaaDoorF44C2
import Derived.Test.YtkkbdleogkengaaDoorWX
import Derived.Test.YtkkbdleogkengaaDoorCards
import Derived.Test.YtkkbdleogkengaaDoorTie
import Derived.Deep.DeepHandedRow
import Derived.Test.YtkkbdleogkengaaDoorRows
set_option linter.all false
set_option maxRecDepth 100000
namespace Go.Proofs.YtkkbdleogkengaaDoor
open Go.Rx GoForm Go.ChangeShapes Go.WideShapes Go.ChangeAt Go.RowKit
theorem own : ownKnob Tryd.prog.godebug = none := by kernel_rfl
theorem laidOut : laidOutB Tryd.prog = true := by kernel_rfl
def PairKey_Wf (x : PairKey) : Prop := (IntKind.i64.min ≤ x.BodyA ∧ x.BodyA ≤ IntKind.i64.max) ∧ (IntKind.i64.min ≤ x.FixtureA ∧ x.FixtureA ≤ IntKind.i64.max) ∧ (IntKind.i64.min ≤ x.BodyB ∧ x.BodyB ≤ IntKind.i64.max) ∧ (IntKind.i64.min ≤ x.FixtureB ∧ x.FixtureB ≤ IntKind.i64.max)
def Event_Wf (x : GoForm.Event) : Prop := (IntKind.i64.min ≤ x.Kind ∧ x.Kind ≤ IntKind.i64.max) ∧ PairKey_Wf x.Key
theorem op3 (W : Go.World) : Opens Tryd.prog W 3 (fun (x : Int) => [e_int x]) (fun (x : Int) => (IntKind.i64.min ≤ x ∧ x ≤ IntKind.i64.max)) := opens_int Tryd.underlying3
theorem op24 (W : Go.World) : Opens Tryd.prog W 24 (fun (x : PairKey) => a_PairKey.ca x) (fun (x : PairKey) => PairKey_Wf x) := opens_struct (N := 4) (fun b => ⟨b.1, b.2.1, b.2.2.1, b.2.2.2⟩) Tryd.underlying24 (by kernel_rfl) (opensF_cons (i := 0) (off := 0) (off' := 1) (n := 1) (N := 4) rfl rfl (by kernel_rfl) rfl (op3 W) (opensF_cons (i := 1) (off := 1) (off' := 2) (n := 1) (N := 4) rfl rfl (by kernel_rfl) rfl (op3 W) (opensF_cons (i := 2) (off := 2) (off' := 3) (n := 1) (N := 4) rfl rfl (by kernel_rfl) rfl (op3 W) (opensF_last (i := 3) (off := 3) (n := 1) rfl rfl (by kernel_rfl) (op3 W))))) (fun _ => rfl) (fun _ h => h)
theorem op22 (W : Go.World) : Opens Tryd.prog W 22 (fun (x : Int) => [e_int x]) (fun (x : Int) => (IntKind.i64.min ≤ x ∧ x ≤ IntKind.i64.max)) := opens_int Tryd.underlying22
theorem op26 (W : Go.World) : Opens Tryd.prog W 26 (fun (x : GoForm.Event) => a_Event.ca x) (fun (x : GoForm.Event) => Event_Wf x) := opens_struct (N := 5) (fun b => ⟨b.1, b.2⟩) Tryd.underlying26 (by kernel_rfl) (opensF_cons (i := 0) (off := 0) (off' := 1) (n := 1) (N := 5) rfl rfl (by kernel_rfl) rfl (op22 W) (opensF_last (i := 1) (off := 1) (n := 4) rfl rfl (by kernel_rfl) (op24 W))) (fun _ => rfl) (fun _ h => h)
theorem op39 (W : Go.World) : Opens Tryd.prog W 39 (fun (x : (List GoForm.Event)) => [e_sl_Event x]) (fun (x : (List GoForm.Event)) => ((∀ a ∈ x, Event_Wf a) ∧ (x).length ≤ 9223372036854775807)) := opens_slice (sz := 5) (E := e_Event) Tryd.underlying39 (by kernel_rfl) (by decide) (op26 W) (fun _ => rfl) (fun _ => rfl)
theorem op5 (W : Go.World) : Opens Tryd.prog W 5 (fun (x : UInt8) => [e_byte x]) (fun (x : UInt8) => True) := opens_byte Tryd.underlying5
theorem eventSort_contract (H : Type) (enc : TypeId × Value → H) (W : World) (base : Nat) (args : Array Value) (ds gs : List (DataW H)) (before : List MemPlace)
    (hval : ∀ (j : Nat) t v, Tryd.f9.params[j]? = some t → args[j]? = some v → Value.okWide Tryd.prog W .any base t v)
    (hW : DataW.Whole enc Tryd.prog Tryd.f9.params.toList Rows.eventSortSpec.vars false W args.toList ds gs before) :
    Calls Tryd.prog 9 args W fun e W' => ∃ v, e = .returned v ∧ Rows.eventSortSpec.post enc Tryd.prog Tryd.f9 false true false false W args v W' := by
  have hW' := hW
  obtain ⟨p, q, hA0, hV, rfl, hfz, hnd⟩ := hW
  have hA : DataW.TrodAll enc Tryd.prog W 0 (fun _ => true) true Tryd.f9.params.toList args.toList ds p := hA0
  rw [Tryd.params9] at hA hval
  obtain ⟨v0, vs0, d0, ds0, p0, q0, hargs, rfl, rfl, h0, r0⟩ := trodAll_cons hA
  obtain ⟨v1, vs1, d1, ds1, p1, q1, rfl, rfl, rfl, h1, r1⟩ := trodAll_cons r0
  obtain ⟨rfl, rfl, rfl⟩ := trodAll_nil r1
  obtain rfl : args = #[v0, v1] := by cases args; simp_all
  obtain ⟨rfl, rfl⟩ := trodVars_none hV
  have ok0 := hval 0 39 v0 rfl rfl
  obtain ⟨a0, e0, w0⟩ := arg_one (not_agg Tryd.underlying39 rfl ok0) (op39 W) h0 ok0
  have ok1 := hval 1 5 v1 rfl rfl
  obtain ⟨a1, e1, w1⟩ := arg_one (not_agg Tryd.underlying5 rfl ok1) (op5 W) h1 ok1
  have hp := GoForm.caromlaw44_EventSort_true a0 a1 w0 w1
  have hc : FnR Tryd.prog 9 [e_sl_Event a0, e_byte a1] (.v (.bool true)) [] := c_9.ok (a0, a1, ()) _ true ⟨rfl, rfl, trivial⟩ hp
  exact law_post laidOut (by kernel_rfl) rfl Tryd.underlying4 rfl hW' rfl (.cons e0 (.cons e1 .nil)) hc
noncomputable def eventSort_laid (os : Os) : World :=
  { World.holding Tryd.prog os ⟨#[], #[], []⟩ with heap := (((World.holding Tryd.prog os ⟨#[], #[], []⟩).heap.modify 2 fun | .cells _ t frozen => .cells #[.int .u8 128, .int .u8 191, .int .u8 160, .int .u8 191, .int .u8 128, .int .u8 159, .int .u8 144, .int .u8 191, .int .u8 128, .int .u8 143, .int .u8 0, .int .u8 0, .int .u8 0, .int .u8 0, .int .u8 0, .int .u8 0, .int .u8 0, .int .u8 0, .int .u8 0, .int .u8 0, .int .u8 0, .int .u8 0, .int .u8 0, .int .u8 0, .int .u8 0, .int .u8 0, .int .u8 0, .int .u8 0, .int .u8 0, .int .u8 0, .int .u8 0, .int .u8 0] t frozen | o => o).modify 1 fun | .cells _ t frozen => .cells (Go.Pinned.utf8FirstZ.map fun (n : Nat) => Value.int .u8 (n : Int)).toArray t frozen | o => o) }
theorem eventSort_laid_met (os : Os) : laidMet Tryd.prog Rows.eventSortRow.laid ((eventSort_laid os).forCall (fun _ _ => 0) ⟨#[], #[(.slice none 0 0), (.int .u8 0)], []⟩).memory :=
  laidMet_of_run' 8 (by kernel_rfl) (by kernel_rfl)
theorem eventSort_reads (os : Os) {H : Type} (enc : TypeId × Value → H) : ∃ places, DataW.whole enc Tryd.prog ((eventSort_laid os).forCall (fun _ _ => 0) ⟨#[], #[(.slice none 0 0), (.int .u8 0)], []⟩).memory Tryd.f9.params.toList Rows.eventSortSpec.vars false (#[(.slice none 0 0), (.int .u8 0)] : Array Value).toList 8 = some ([.nil, .lit (.int .u8 0)], [], places) :=
  ⟨[], by kernel_rfl⟩
theorem eventSort_lifted (os : Os) (started : os.Started) (H : Type) (enc : TypeId × Value → H) (F : Stop.Interp) :
    ReturnsInHanded {} Tryd.checked os 9 .any ((OpenSpec.ofChange Rows.eventSortSpec).preRow enc Tryd.prog Tryd.f9 Rows.eventSortRow.domain false Rows.eventSortRow.laid) (((OpenSpec.ofChange Rows.eventSortSpec).at F).post enc Tryd.prog Tryd.f9 false true false false) := by
  obtain ⟨places, hx⟩ := eventSort_reads os enc
  refine returnsInHanded_of_row (C := Tryd.checked) (s := OpenSpec.ofChange Rows.eventSortSpec) own started (by kernel_rfl) Tryd.func9
    (witness_row_at (enc := enc) (C := Tryd.checked) false (eventSort_laid os) #[(.slice none 0 0), (.int .u8 0)] rfl (by kernel_rfl) (by kernel_rfl) (by kernel_rfl)
      (OpenSpec.preRow_of_cond 8 hx (by kernel_rfl) (fun k hk => by cases hk) (by kernel_rfl) (eventSort_laid_met os))) ?_
  intro W base args ds gs before hval hW _ _ _ _ _ _
  exact eventSort_contract H enc W base args ds gs before hval hW
theorem eventSort_said : Rows.EventSortSaid :=
  OpenClaim.holds_of_cond 9 Tryd.f9 rfl rfl rfl rfl rfl rfl rfl ⟨rfl, rfl, rfl, rfl, rfl⟩ rfl rfl rfl rfl rfl (by kernel_rfl) Tryd.func9 (by kernel_rfl)
    (of_decide_eq_true (by kernel_rfl)) (by unfold Func.isWrapper; first | (rw [if_pos (by decide +kernel)]; kernel_rfl) | (rw [if_neg (by decide +kernel)]; exact ⟨rfl, rfl⟩))
    (fun os started H enc _ F => by rw [OpenClaim.pre_eq_preRow]; exact eventSort_lifted os started H enc F)
theorem eventSort_plain (f : FuncId) (fn : Func) (hf : Tryd.pinned.checked.prog.funcNamed Rows.eventSortRow.func = some f) (hfn : Tryd.pinned.checked.prog.funcs[f]? = some fn) :
    false = Tryd.pinned.checked.prog.looks [] ∧ ∀ (j : Nat) t, fn.params[j]? = some t → Tryd.pinned.checked.prog.wantsStandIn t = false := by
  obtain rfl : f = 9 := Option.some.inj ((show Tryd.prog.funcNamed Rows.eventSortRow.func = some 9 by kernel_rfl).symm.trans hf) |>.symm
  obtain rfl : fn = Tryd.f9 := (Option.some.inj (Tryd.func9.symm.trans hfn)).symm
  refine ⟨by kernel_rfl, fun j t ht => ?_⟩
  rw [Tryd.params9] at ht
  have hm := Array.mem_of_getElem? ht
  simp only [List.mem_toArray, List.mem_cons, List.not_mem_nil, or_false] at hm
  rcases hm with rfl | rfl
  · exact (show Tryd.prog.wantsStandIn 39 = false by kernel_rfl)
  · exact (show Tryd.prog.wantsStandIn 5 = false by kernel_rfl)
theorem eventSort_holds : Rows.EventSortCardSaid :=
  Claim7.holds_tied_plain_at .later [] _ _ _ _ eventSort_said (fun _ h => by cases h) (by kernel_rfl) (fun _ h => by cases h) eventSort_row_tie rfl ⟨rfl, rfl⟩ (by kernel_rfl) rfl eventSort_plain (by kernel_rfl)
end Go.Proofs.YtkkbdleogkengaaDoor
