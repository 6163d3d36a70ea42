/- FormatNumbers: for every input the law returns true; each argument reads behind the call as it read before. No conditions. -/
import Derived.Test.YtejehfmcodnecaaDoorRzU
import Derived.Test.YtejehfmcodnecaaDoorF08C
import Derived.Test.YtejehfmcodnecaaDoorW08
import Derived.Test.YtejehfmcodnecaaDoorCards
import Derived.Test.YtejehfmcodnecaaDoorTie
import Derived.Deep.DeepHandedRow
import Derived.Test.YtejehfmcodnecaaDoorRows
set_option linter.all false
set_option maxRecDepth 100000
namespace Go.Proofs.YtejehfmcodnecaaDoor
open Go.Rx GoForm Go.ChangeShapes Go.WideShapes Go.ChangeAt Go.RowKit
theorem own : ownKnob Tryd.prog.godebug = none := by kernel_rfl
theorem laidOut : laidOutB Tryd.prog = true := by kernel_rfl

theorem op3 (W : Go.World) : Opens Tryd.prog W 3 (fun (x : Int) => [e_int x]) (fun (x : Int) => (IntKind.i64.min ≤ x ∧ x ≤ IntKind.i64.max)) := opens_int Tryd.underlying3
theorem formatNumbers_contract (H : Type) (enc : TypeId × Value → H) (W : World) (base : Nat) (args : Array Value) (ds gs : List (DataW H)) (before : List MemPlace)
    (hval : ∀ (j : Nat) t v, Tryd.f3.params[j]? = some t → args[j]? = some v → Value.okWide Tryd.prog W .any base t v)
    (hW : DataW.Whole enc Tryd.prog Tryd.f3.params.toList Rows.formatNumbersSpec.vars false W args.toList ds gs before) :
    Calls Tryd.prog 3 args W fun e W' => ∃ v, e = .returned v ∧ Rows.formatNumbersSpec.post enc Tryd.prog Tryd.f3 false true false false W args v W' := by
  have hW' := hW
  obtain ⟨p, q, hA0, hV, rfl, hfz, hnd⟩ := hW
  have hA : DataW.TrodAll enc Tryd.prog W 0 (fun _ => true) true Tryd.f3.params.toList args.toList ds p := hA0
  rw [Tryd.params3] at hA hval
  obtain ⟨v0, vs0, d0, ds0, p0, q0, hargs, rfl, rfl, h0, r0⟩ := trodAll_cons hA
  obtain ⟨rfl, rfl, rfl⟩ := trodAll_nil r0
  obtain rfl : args = #[v0] := by cases args; simp_all
  obtain ⟨rfl, rfl⟩ := trodVars_none hV
  have ok0 := hval 0 3 v0 rfl rfl
  obtain ⟨a0, e0, w0⟩ := arg_one (not_agg Tryd.underlying3 rfl ok0) (op3 W) h0 ok0
  have hp := GoForm.caromlaw08_FormatNumbers_true a0 w0
  have hc : FnR Tryd.prog 3 [e_int a0] (.v (.bool true)) [] := c_3.ok (a0, ()) _ true ⟨rfl, trivial⟩ hp
  exact law_post laidOut (by kernel_rfl) rfl Tryd.underlying4 rfl hW' rfl (.cons e0 .nil) hc
noncomputable def formatNumbers_laid (os : Os) : World :=
  { World.holding Tryd.prog os ⟨#[], #[], []⟩ with heap := (((World.holding Tryd.prog os ⟨#[], #[], []⟩).heap.modify 2 fun | .cells _ t frozen => .cells #[.int .u8 128, .int .u8 191, .int .u8 160, .int .u8 191, .int .u8 128, .int .u8 159, .int .u8 144, .int .u8 191, .int .u8 128, .int .u8 143, .int .u8 0, .int .u8 0, .int .u8 0, .int .u8 0, .int .u8 0, .int .u8 0, .int .u8 0, .int .u8 0, .int .u8 0, .int .u8 0, .int .u8 0, .int .u8 0, .int .u8 0, .int .u8 0, .int .u8 0, .int .u8 0, .int .u8 0, .int .u8 0, .int .u8 0, .int .u8 0, .int .u8 0, .int .u8 0] t frozen | o => o).modify 1 fun | .cells _ t frozen => .cells (Go.Pinned.utf8FirstZ.map fun (n : Nat) => Value.int .u8 (n : Int)).toArray t frozen | o => o) }
theorem formatNumbers_laid_met (os : Os) : laidMet Tryd.prog Rows.formatNumbersRow.laid ((formatNumbers_laid os).forCall (fun _ _ => 0) ⟨#[], #[(.int .i64 0)], []⟩).memory :=
  laidMet_of_run' 8 (by kernel_rfl) (by kernel_rfl)
theorem formatNumbers_reads (os : Os) {H : Type} (enc : TypeId × Value → H) : ∃ places, DataW.whole enc Tryd.prog ((formatNumbers_laid os).forCall (fun _ _ => 0) ⟨#[], #[(.int .i64 0)], []⟩).memory Tryd.f3.params.toList Rows.formatNumbersSpec.vars false (#[(.int .i64 0)] : Array Value).toList 8 = some ([.lit (.int .i64 0)], [], places) :=
  ⟨[], by kernel_rfl⟩
theorem formatNumbers_lifted (os : Os) (started : os.Started) (H : Type) (enc : TypeId × Value → H) (F : Stop.Interp) :
    ReturnsInHanded {} Tryd.checked os 3 .any ((OpenSpec.ofChange Rows.formatNumbersSpec).preRow enc Tryd.prog Tryd.f3 Rows.formatNumbersRow.domain false Rows.formatNumbersRow.laid) (((OpenSpec.ofChange Rows.formatNumbersSpec).at F).post enc Tryd.prog Tryd.f3 false true false false) := by
  obtain ⟨places, hx⟩ := formatNumbers_reads os enc
  refine returnsInHanded_of_row (C := Tryd.checked) (s := OpenSpec.ofChange Rows.formatNumbersSpec) own started (by kernel_rfl) Tryd.func3
    (witness_row_at (enc := enc) (C := Tryd.checked) false (formatNumbers_laid os) #[(.int .i64 0)] rfl (by kernel_rfl) (by kernel_rfl) (by kernel_rfl)
      (OpenSpec.preRow_of_cond 8 hx (by kernel_rfl) (fun k hk => by cases hk) (by kernel_rfl) (formatNumbers_laid_met os))) ?_
  intro W base args ds gs before hval hW _ _ _ _ _ _
  exact formatNumbers_contract H enc W base args ds gs before hval hW
theorem formatNumbers_said : Rows.FormatNumbersSaid :=
  OpenClaim.holds_of_cond 3 Tryd.f3 rfl rfl rfl rfl rfl rfl rfl ⟨rfl, rfl, rfl, rfl, rfl⟩ rfl rfl rfl rfl rfl (by kernel_rfl) Tryd.func3 (by kernel_rfl)
    (of_decide_eq_true (by kernel_rfl)) (by unfold Func.isWrapper; first | (rw [if_pos (by decide +kernel)]; kernel_rfl) | (rw [if_neg (by decide +kernel)]; exact ⟨rfl, rfl⟩))
    (fun os started H enc _ F => by rw [OpenClaim.pre_eq_preRow]; exact formatNumbers_lifted os started H enc F)
theorem formatNumbers_plain (f : FuncId) (fn : Func) (hf : Tryd.pinned.checked.prog.funcNamed Rows.formatNumbersRow.func = some f) (hfn : Tryd.pinned.checked.prog.funcs[f]? = some fn) :
    false = Tryd.pinned.checked.prog.looks [] ∧ ∀ (j : Nat) t, fn.params[j]? = some t → Tryd.pinned.checked.prog.wantsStandIn t = false := by
  obtain rfl : f = 3 := Option.some.inj ((show Tryd.prog.funcNamed Rows.formatNumbersRow.func = some 3 by kernel_rfl).symm.trans hf) |>.symm
  obtain rfl : fn = Tryd.f3 := (Option.some.inj (Tryd.func3.symm.trans hfn)).symm
  refine ⟨by kernel_rfl, fun j t ht => ?_⟩
  rw [Tryd.params3] at ht
  have hm := Array.mem_of_getElem? ht
  simp only [List.mem_toArray, List.mem_cons, List.not_mem_nil, or_false] at hm
  subst hm
  exact (show Tryd.prog.wantsStandIn 3 = false by kernel_rfl)
theorem formatNumbers_holds : Rows.FormatNumbersCardSaid :=
  Claim7.holds_tied_plain_at .later [] _ _ _ _ formatNumbers_said (fun _ h => by cases h) (by kernel_rfl) (fun _ h => by cases h) formatNumbers_row_tie rfl ⟨rfl, rfl⟩ (by kernel_rfl) rfl formatNumbers_plain (by kernel_rfl)
end Go.Proofs.YtejehfmcodnecaaDoor
