/- CodecUnique: for every input the law returns true; each argument reads behind the call as it read before. No conditions. -/
import Derived.Test.YtnjcfajaigokdaaCxU
import Derived.Test.YtnjcfajaigokdaaF07W
import Derived.Test.YtnjcfajaigokdaaF07R
import Derived.Test.YtnjcfajaigokdaaRows
set_option linter.all false
set_option maxRecDepth 100000
namespace Go.Proofs.Ytnjcfajaigokdaa
open Go.Cx GoForm Go.ChangeShapes Go.WideShapes Go.ChangeAt Go.RowKit
theorem own : ownKnob Try.prog.godebug = none := by kernel_rfl
theorem laidOut : laidOutB Try.prog = true := by kernel_rfl
theorem op5 (W : World) : Opens Try.prog W 5 (fun (x : UInt8) => [(byteAV x)]) (fun (x : UInt8) => True) := opens_byte Try.underlying5
theorem op22 (W : World) : Opens Try.prog W 22 (fun (x : List UInt8) => [((slAV 1 byteAV) x)]) (fun (x : List UInt8) => ((∀ a ∈ x, True) ∧ (x).length ≤ 9223372036854775807)) := opens_slice (sz := 1) Try.underlying22 (by kernel_rfl) (by decide) (op5 W) (fun _ => rfl) (fun _ => rfl)
theorem op3 (W : World) : Opens Try.prog W 3 (fun (x : Int) => [(iAV x)]) (fun (x : Int) => (IntKind.i64.min ≤ x ∧ x ≤ IntKind.i64.max)) := opens_int Try.underlying3
theorem codecUnique_lifted (os : Os) (started : os.Started) (H : Type) (enc : TypeId × Value → H) :
    ReturnsInHanded {} Try.checked os 7 .any (Rows.codecUniqueSpec.pre6 enc Try.prog Try.f7 Rows.codecUniqueRow.domain false) (Rows.codecUniqueSpec.post enc Try.prog Try.f7 false true false false) := by
  refine returnsInHanded_of_change (C := Try.checked) own started (by kernel_rfl) Try.func7
    (ChangeSpec.witness6 (enc := enc) (C := Try.checked) false ⟨#[], #[.slice none 0 0, .int .i64 0], []⟩ 8 (by kernel_rfl) (by kernel_rfl) (by kernel_rfl) (by kernel_rfl)) ?_
  intro W base args ds gs before hval0 hW _ _
  have hval : ∀ (j : Nat) t v, Try.f7.params[j]? = some t → args[j]? = some v → Value.okWide Try.prog W .any base t v := hval0
  have hW' := hW
  obtain ⟨p, q, hA0, hV, rfl, hfz, hnd⟩ := hW
  have hA : DataW.TrodAll enc Try.prog W 0 (fun _ => true) true Try.f7.params.toList args.toList ds p := hA0
  rw [Try.params7] at hA hval
  obtain ⟨v0, vs0, d0, ds0, p0, q0, hargs, rfl, rfl, h0, r0⟩ := trodAll_cons hA
  obtain ⟨v1, vs1, d1, ds1, p1, q1, rfl, rfl, rfl, h1, r1⟩ := trodAll_cons r0
  obtain ⟨rfl, rfl, rfl⟩ := trodAll_nil r1
  obtain rfl : args = #[v0, v1] := by cases args; simp_all
  obtain ⟨rfl, rfl⟩ := trodVars_none hV
  have ok0 := hval 0 22 v0 rfl rfl
  obtain ⟨a0, e0, w0⟩ := arg_one (not_agg Try.underlying22 rfl ok0) (op22 W) h0 ok0
  have ok1 := hval 1 3 v1 rfl rfl
  obtain ⟨a1, e1, w1⟩ := arg_one (not_agg Try.underlying3 rfl ok1) (op3 W) h1 ok1
  exact law_post laidOut (by kernel_rfl) rfl Try.underlying4 rfl hW' rfl (.cons e0 (.cons e1 .nil)) (law07_CodecUnique_ok (GoForm.law07_CodecUnique_true a0 a1 w0 w1))
theorem codecUnique_holds : Rows.CodecUniqueSaid :=
  OpenClaim.holds_of_wide 7 Try.f7 rfl rfl rfl rfl rfl rfl rfl ⟨rfl, rfl, rfl, rfl, rfl⟩ rfl rfl rfl rfl rfl (by kernel_rfl) Try.func7 (by kernel_rfl)
    (of_decide_eq_true (by kernel_rfl)) (by unfold Func.isWrapper; first | (rw [if_pos (by decide +kernel)]; kernel_rfl) | (rw [if_neg (by decide +kernel)]; exact ⟨rfl, rfl⟩))
    (fun os started H enc _ => codecUnique_lifted os started H enc)
end Go.Proofs.Ytnjcfajaigokdaa
