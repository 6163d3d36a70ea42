/- CodecCapacity: for every input the law returns true; each argument reads behind the call as it read before. No conditions. -/
import Derived.Test.YtnjcfajaigokdaaRzU
import Derived.Test.YtnjcfajaigokdaaF07C
import Derived.Test.YtnjcfajaigokdaaW07
import Derived.Test.YtnjcfajaigokdaaRows
set_option linter.all false
set_option maxRecDepth 100000
namespace Go.Proofs.Ytnjcfajaigokdaa
open Go.Rx GoForm Go.ChangeShapes Go.WideShapes Go.ChangeAt Go.RowKit
theorem own : ownKnob Try.prog.godebug = none := by kernel_rfl
theorem laidOut : laidOutB Try.prog = true := by kernel_rfl

theorem op5 (W : Go.World) : Opens Try.prog W 5 (fun (x : UInt8) => [e_byte x]) (fun (x : UInt8) => True) := opens_byte Try.underlying5
theorem op22 (W : Go.World) : Opens Try.prog W 22 (fun (x : (List UInt8)) => [e_sl_byte x]) (fun (x : (List UInt8)) => ((∀ a ∈ x, True) ∧ (x).length ≤ 9223372036854775807)) := opens_slice (sz := 1) (E := e_byte) Try.underlying22 (by kernel_rfl) (by decide) (op5 W) (fun _ => rfl) (fun _ => rfl)
theorem op23 (W : Go.World) : Opens Try.prog W 23 (fun (x : Int) => [e_u16 x]) (fun (x : Int) => (IntKind.u16.min ≤ x ∧ x ≤ IntKind.u16.max)) := opens_int Try.underlying23
theorem op3 (W : Go.World) : Opens Try.prog W 3 (fun (x : Int) => [e_int x]) (fun (x : Int) => (IntKind.i64.min ≤ x ∧ x ≤ IntKind.i64.max)) := opens_int Try.underlying3
theorem codecCapacity_lifted (os : Os) (started : os.Started) (H : Type) (enc : TypeId × Value → H) :
    ReturnsInHanded {} Try.checked os 3 .any (Rows.codecCapacitySpec.pre6 enc Try.prog Try.f3 Rows.codecCapacityRow.domain false) (Rows.codecCapacitySpec.post enc Try.prog Try.f3 false true false false) := by
  refine returnsInHanded_of_change (C := Try.checked) own started (by kernel_rfl) Try.func3
    (ChangeSpec.witness6 (enc := enc) (C := Try.checked) false ⟨#[], #[(.slice none 0 0), (.int .u16 0), (.int .i64 0)], []⟩ 8 (by kernel_rfl) (by kernel_rfl) (by kernel_rfl) (by kernel_rfl)) ?_
  intro W base args ds gs before hval0 hW _ _
  have hval : ∀ (j : Nat) t v, Try.f3.params[j]? = some t → args[j]? = some v → Value.okWide Try.prog W .any base t v := hval0
  have hW' := hW
  obtain ⟨p, q, hA0, hV, rfl, hfz, hnd⟩ := hW
  have hA : DataW.TrodAll enc Try.prog W 0 (fun _ => true) true Try.f3.params.toList args.toList ds p := hA0
  rw [Try.params3] at hA hval
  obtain ⟨v0, vs0, d0, ds0, p0, q0, hargs, rfl, rfl, h0, r0⟩ := trodAll_cons hA
  obtain ⟨v1, vs1, d1, ds1, p1, q1, rfl, rfl, rfl, h1, r1⟩ := trodAll_cons r0
  obtain ⟨v2, vs2, d2, ds2, p2, q2, rfl, rfl, rfl, h2, r2⟩ := trodAll_cons r1
  obtain ⟨rfl, rfl, rfl⟩ := trodAll_nil r2
  obtain rfl : args = #[v0, v1, v2] := by cases args; simp_all
  obtain ⟨rfl, rfl⟩ := trodVars_none hV
  have ok0 := hval 0 22 v0 rfl rfl
  obtain ⟨a0, e0, w0⟩ := arg_one (not_agg Try.underlying22 rfl ok0) (op22 W) h0 ok0
  have ok1 := hval 1 23 v1 rfl rfl
  obtain ⟨a1, e1, w1⟩ := arg_one (not_agg Try.underlying23 rfl ok1) (op23 W) h1 ok1
  have ok2 := hval 2 3 v2 rfl rfl
  obtain ⟨a2, e2, w2⟩ := arg_one (not_agg Try.underlying3 rfl ok2) (op3 W) h2 ok2
  have hp := GoForm.caromlaw07_CodecCapacity_true a0 a1 a2 w0 w1 w2
  have hc : FnR Try.prog 3 [e_sl_byte a0, e_u16 a1, e_int a2] (.v (.bool true)) [] := c_3.ok (a0, a1, a2, ()) _ true ⟨rfl, rfl, rfl, trivial⟩ hp
  exact law_post laidOut (by kernel_rfl) rfl Try.underlying4 rfl hW' rfl (.cons e0 (.cons e1 (.cons e2 .nil))) hc
theorem codecCapacity_holds : Rows.CodecCapacitySaid :=
  OpenClaim.holds_of_wide 3 Try.f3 rfl rfl rfl rfl rfl rfl rfl ⟨rfl, rfl, rfl, rfl, rfl⟩ rfl rfl rfl rfl rfl (by kernel_rfl) Try.func3 (by kernel_rfl)
    (of_decide_eq_true (by kernel_rfl)) (by unfold Func.isWrapper; first | (rw [if_pos (by decide +kernel)]; kernel_rfl) | (rw [if_neg (by decide +kernel)]; exact ⟨rfl, rfl⟩))
    (fun os started H enc _ => codecCapacity_lifted os started H enc)
end Go.Proofs.Ytnjcfajaigokdaa
