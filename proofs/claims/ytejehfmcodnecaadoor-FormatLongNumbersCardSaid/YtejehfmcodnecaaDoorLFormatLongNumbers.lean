/- FormatLongNumbers: for every input the law returns true; each argument reads behind the call as it read before. No conditions. -/
import Derived.Test.YtejehfmcodnecaaDoorRzU
import Derived.Test.YtejehfmcodnecaaDoorF08C
import Derived.Test.YtejehfmcodnecaaDoorW08
import Derived.Test.YtejehfmcodnecaaDoorCards
import Derived.Test.YtejehfmcodnecaaDoorTie
import Derived.Deep.DeepHandedRow
import Derived.Test.YtejehfmcodnecaaDoorRows
set_option linter.all false
set_option maxRecDepth 100000
namespace Go.Proofs.YtejehfmcodnecaaDoor
open Go.Rx GoForm Go.ChangeShapes Go.WideShapes Go.ChangeAt Go.RowKit
theorem own : ownKnob Tryd.prog.godebug = none := by kernel_rfl
theorem laidOut : laidOutB Tryd.prog = true := by kernel_rfl

theorem op5 (W : Go.World) : Opens Tryd.prog W 5 (fun (x : UInt8) => [e_byte x]) (fun (x : UInt8) => True) := opens_byte Tryd.underlying5
theorem op4 (W : Go.World) : Opens Tryd.prog W 4 (fun (x : Bool) => [e_bool x]) (fun (x : Bool) => True) := opens_bool Tryd.underlying4
theorem formatLongNumbers_contract (H : Type) (enc : TypeId × Value → H) (W : World) (base : Nat) (args : Array Value) (ds gs : List (DataW H)) (before : List MemPlace)
    (hval : ∀ (j : Nat) t v, Tryd.f5.params[j]? = some t → args[j]? = some v → Value.okWide Tryd.prog W .any base t v)
    (hW : DataW.Whole enc Tryd.prog Tryd.f5.params.toList Rows.formatLongNumbersSpec.vars false W args.toList ds gs before) :
    Calls Tryd.prog 5 args W fun e W' => ∃ v, e = .returned v ∧ Rows.formatLongNumbersSpec.post enc Tryd.prog Tryd.f5 false true false false W args v W' := by
  have hW' := hW
  obtain ⟨p, q, hA0, hV, rfl, hfz, hnd⟩ := hW
  have hA : DataW.TrodAll enc Tryd.prog W 0 (fun _ => true) true Tryd.f5.params.toList args.toList ds p := hA0
  rw [Tryd.params5] at hA hval
  obtain ⟨v0, vs0, d0, ds0, p0, q0, hargs, rfl, rfl, h0, r0⟩ := trodAll_cons hA
  obtain ⟨v1, vs1, d1, ds1, p1, q1, rfl, rfl, rfl, h1, r1⟩ := trodAll_cons r0
  obtain ⟨v2, vs2, d2, ds2, p2, q2, rfl, rfl, rfl, h2, r2⟩ := trodAll_cons r1
  obtain ⟨rfl, rfl, rfl⟩ := trodAll_nil r2
  obtain rfl : args = #[v0, v1, v2] := by cases args; simp_all
  obtain ⟨rfl, rfl⟩ := trodVars_none hV
  have ok0 := hval 0 5 v0 rfl rfl
  obtain ⟨a0, e0, w0⟩ := arg_one (not_agg Tryd.underlying5 rfl ok0) (op5 W) h0 ok0
  have ok1 := hval 1 5 v1 rfl rfl
  obtain ⟨a1, e1, w1⟩ := arg_one (not_agg Tryd.underlying5 rfl ok1) (op5 W) h1 ok1
  have ok2 := hval 2 4 v2 rfl rfl
  obtain ⟨a2, e2, w2⟩ := arg_one (not_agg Tryd.underlying4 rfl ok2) (op4 W) h2 ok2
  have hp := GoForm.caromlaw08_FormatLongNumbers_true a0 a1 a2 w0 w1 w2
  have hc : FnR Tryd.prog 5 [e_byte a0, e_byte a1, e_bool a2] (.v (.bool true)) [] := c_5.ok (a0, a1, a2, ()) _ true ⟨rfl, rfl, rfl, trivial⟩ hp
  exact law_post laidOut (by kernel_rfl) rfl Tryd.underlying4 rfl hW' rfl (.cons e0 (.cons e1 (.cons e2 .nil))) hc
noncomputable def formatLongNumbers_laid (os : Os) : World :=
  { World.holding Tryd.prog os ⟨#[], #[], []⟩ with heap := (((World.holding Tryd.prog os ⟨#[], #[], []⟩).heap.modify 2 fun | .cells _ t frozen => .cells #[.int .u8 128, .int .u8 191, .int .u8 160, .int .u8 191, .int .u8 128, .int .u8 159, .int .u8 144, .int .u8 191, .int .u8 128, .int .u8 143, .int .u8 0, .int .u8 0, .int .u8 0, .int .u8 0, .int .u8 0, .int .u8 0, .int .u8 0, .int .u8 0, .int .u8 0, .int .u8 0, .int .u8 0, .int .u8 0, .int .u8 0, .int .u8 0, .int .u8 0, .int .u8 0, .int .u8 0, .int .u8 0, .int .u8 0, .int .u8 0, .int .u8 0, .int .u8 0] t frozen | o => o).modify 1 fun | .cells _ t frozen => .cells (Go.Pinned.utf8FirstZ.map fun (n : Nat) => Value.int .u8 (n : Int)).toArray t frozen | o => o) }
theorem formatLongNumbers_laid_met (os : Os) : laidMet Tryd.prog Rows.formatLongNumbersRow.laid ((formatLongNumbers_laid os).forCall (fun _ _ => 0) ⟨#[], #[(.int .u8 0), (.int .u8 0), (.bool false)], []⟩).memory :=
  laidMet_of_run' 8 (by kernel_rfl) (by kernel_rfl)
theorem formatLongNumbers_reads (os : Os) {H : Type} (enc : TypeId × Value → H) : ∃ places, DataW.whole enc Tryd.prog ((formatLongNumbers_laid os).forCall (fun _ _ => 0) ⟨#[], #[(.int .u8 0), (.int .u8 0), (.bool false)], []⟩).memory Tryd.f5.params.toList Rows.formatLongNumbersSpec.vars false (#[(.int .u8 0), (.int .u8 0), (.bool false)] : Array Value).toList 8 = some ([.lit (.int .u8 0), .lit (.int .u8 0), .lit (.bool false)], [], places) :=
  ⟨[], by kernel_rfl⟩
theorem formatLongNumbers_lifted (os : Os) (started : os.Started) (H : Type) (enc : TypeId × Value → H) (F : Stop.Interp) :
    ReturnsInHanded {} Tryd.checked os 5 .any ((OpenSpec.ofChange Rows.formatLongNumbersSpec).preRow enc Tryd.prog Tryd.f5 Rows.formatLongNumbersRow.domain false Rows.formatLongNumbersRow.laid) (((OpenSpec.ofChange Rows.formatLongNumbersSpec).at F).post enc Tryd.prog Tryd.f5 false true false false) := by
  obtain ⟨places, hx⟩ := formatLongNumbers_reads os enc
  refine returnsInHanded_of_row (C := Tryd.checked) (s := OpenSpec.ofChange Rows.formatLongNumbersSpec) own started (by kernel_rfl) Tryd.func5
    (witness_row_at (enc := enc) (C := Tryd.checked) false (formatLongNumbers_laid os) #[(.int .u8 0), (.int .u8 0), (.bool false)] rfl (by kernel_rfl) (by kernel_rfl) (by kernel_rfl)
      (OpenSpec.preRow_of_cond 8 hx (by kernel_rfl) (fun k hk => by cases hk) (by kernel_rfl) (formatLongNumbers_laid_met os))) ?_
  intro W base args ds gs before hval hW _ _ _ _ _ _
  exact formatLongNumbers_contract H enc W base args ds gs before hval hW
theorem formatLongNumbers_said : Rows.FormatLongNumbersSaid :=
  OpenClaim.holds_of_cond 5 Tryd.f5 rfl rfl rfl rfl rfl rfl rfl ⟨rfl, rfl, rfl, rfl, rfl⟩ rfl rfl rfl rfl rfl (by kernel_rfl) Tryd.func5 (by kernel_rfl)
    (of_decide_eq_true (by kernel_rfl)) (by unfold Func.isWrapper; first | (rw [if_pos (by decide +kernel)]; kernel_rfl) | (rw [if_neg (by decide +kernel)]; exact ⟨rfl, rfl⟩))
    (fun os started H enc _ F => by rw [OpenClaim.pre_eq_preRow]; exact formatLongNumbers_lifted os started H enc F)
theorem formatLongNumbers_plain (f : FuncId) (fn : Func) (hf : Tryd.pinned.checked.prog.funcNamed Rows.formatLongNumbersRow.func = some f) (hfn : Tryd.pinned.checked.prog.funcs[f]? = some fn) :
    false = Tryd.pinned.checked.prog.looks [] ∧ ∀ (j : Nat) t, fn.params[j]? = some t → Tryd.pinned.checked.prog.wantsStandIn t = false := by
  obtain rfl : f = 5 := Option.some.inj ((show Tryd.prog.funcNamed Rows.formatLongNumbersRow.func = some 5 by kernel_rfl).symm.trans hf) |>.symm
  obtain rfl : fn = Tryd.f5 := (Option.some.inj (Tryd.func5.symm.trans hfn)).symm
  refine ⟨by kernel_rfl, fun j t ht => ?_⟩
  rw [Tryd.params5] at ht
  have hm := Array.mem_of_getElem? ht
  simp only [List.mem_toArray, List.mem_cons, List.not_mem_nil, or_false] at hm
  rcases hm with rfl | rfl | rfl
  · exact (show Tryd.prog.wantsStandIn 5 = false by kernel_rfl)
  · exact (show Tryd.prog.wantsStandIn 5 = false by kernel_rfl)
  · exact (show Tryd.prog.wantsStandIn 4 = false by kernel_rfl)
theorem formatLongNumbers_holds : Rows.FormatLongNumbersCardSaid :=
  Claim7.holds_tied_plain_at .later [] _ _ _ _ formatLongNumbers_said (fun _ h => by cases h) (by kernel_rfl) (fun _ h => by cases h) formatLongNumbers_row_tie rfl ⟨rfl, rfl⟩ (by kernel_rfl) rfl formatLongNumbers_plain (by kernel_rfl)
end Go.Proofs.YtejehfmcodnecaaDoor
