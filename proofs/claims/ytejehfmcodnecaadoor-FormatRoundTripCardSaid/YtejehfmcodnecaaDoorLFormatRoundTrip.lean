/- FormatRoundTrip: for every input the law returns true; each argument reads behind the call as it read before. No conditions. -/
import Derived.Test.YtejehfmcodnecaaDoorRzU
import Derived.Test.YtejehfmcodnecaaDoorF08C
import Derived.Test.YtejehfmcodnecaaDoorW08
import Derived.Test.YtejehfmcodnecaaDoorCards
import Derived.Test.YtejehfmcodnecaaDoorTie
import Derived.Deep.DeepHandedRow
import Derived.Test.YtejehfmcodnecaaDoorRows
set_option linter.all false
set_option maxRecDepth 100000
namespace Go.Proofs.YtejehfmcodnecaaDoor
open Go.Rx GoForm Go.ChangeShapes Go.WideShapes Go.ChangeAt Go.RowKit
theorem own : ownKnob Tryd.prog.godebug = none := by kernel_rfl
theorem laidOut : laidOutB Tryd.prog = true := by kernel_rfl

theorem op3 (W : Go.World) : Opens Tryd.prog W 3 (fun (x : Int) => [e_int x]) (fun (x : Int) => (IntKind.i64.min ≤ x ∧ x ≤ IntKind.i64.max)) := opens_int Tryd.underlying3
theorem op9 (W : Go.World) : Opens Tryd.prog W 9 (fun (x : (List UInt8)) => [e_str x]) (fun (x : (List UInt8)) => (x).length ≤ 9223372036854775807) := opens_str Tryd.underlying9
theorem op32 (W : Go.World) : Opens Tryd.prog W 32 (fun (x : (List (List UInt8))) => [e_sl_str x]) (fun (x : (List (List UInt8))) => ((∀ a ∈ x, (a).length ≤ 9223372036854775807) ∧ (x).length ≤ 9223372036854775807)) := opens_slice (sz := 1) (E := e_str) Tryd.underlying32 (by kernel_rfl) (by decide) (op9 W) (fun _ => rfl) (fun _ => rfl)
theorem formatRoundTrip_contract (H : Type) (enc : TypeId × Value → H) (W : World) (base : Nat) (args : Array Value) (ds gs : List (DataW H)) (before : List MemPlace)
    (hval : ∀ (j : Nat) t v, Tryd.f7.params[j]? = some t → args[j]? = some v → Value.okWide Tryd.prog W .any base t v)
    (hW : DataW.Whole enc Tryd.prog Tryd.f7.params.toList Rows.formatRoundTripSpec.vars false W args.toList ds gs before) :
    Calls Tryd.prog 7 args W fun e W' => ∃ v, e = .returned v ∧ Rows.formatRoundTripSpec.post enc Tryd.prog Tryd.f7 false true false false W args v W' := by
  have hW' := hW
  obtain ⟨p, q, hA0, hV, rfl, hfz, hnd⟩ := hW
  have hA : DataW.TrodAll enc Tryd.prog W 0 (fun _ => true) true Tryd.f7.params.toList args.toList ds p := hA0
  rw [Tryd.params7] at hA hval
  obtain ⟨v0, vs0, d0, ds0, p0, q0, hargs, rfl, rfl, h0, r0⟩ := trodAll_cons hA
  obtain ⟨v1, vs1, d1, ds1, p1, q1, rfl, rfl, rfl, h1, r1⟩ := trodAll_cons r0
  obtain ⟨v2, vs2, d2, ds2, p2, q2, rfl, rfl, rfl, h2, r2⟩ := trodAll_cons r1
  obtain ⟨v3, vs3, d3, ds3, p3, q3, rfl, rfl, rfl, h3, r3⟩ := trodAll_cons r2
  obtain ⟨rfl, rfl, rfl⟩ := trodAll_nil r3
  obtain rfl : args = #[v0, v1, v2, v3] := by cases args; simp_all
  obtain ⟨rfl, rfl⟩ := trodVars_none hV
  have ok0 := hval 0 3 v0 rfl rfl
  obtain ⟨a0, e0, w0⟩ := arg_one (not_agg Tryd.underlying3 rfl ok0) (op3 W) h0 ok0
  have ok1 := hval 1 3 v1 rfl rfl
  obtain ⟨a1, e1, w1⟩ := arg_one (not_agg Tryd.underlying3 rfl ok1) (op3 W) h1 ok1
  have ok2 := hval 2 9 v2 rfl rfl
  obtain ⟨a2, e2, w2⟩ := arg_one (not_agg Tryd.underlying9 rfl ok2) (op9 W) h2 ok2
  have ok3 := hval 3 32 v3 rfl rfl
  obtain ⟨a3, e3, w3⟩ := arg_one (not_agg Tryd.underlying32 rfl ok3) (op32 W) h3 ok3
  have hp := GoForm.caromlaw08_FormatRoundTrip_true a0 a1 a2 a3 w0 w1 w2 w3
  have hc : FnR Tryd.prog 7 [e_int a0, e_int a1, e_str a2, e_sl_str a3] (.v (.bool true)) [] := c_7.ok (a0, a1, a2, a3, ()) _ true ⟨rfl, rfl, rfl, rfl, trivial⟩ hp
  exact law_post laidOut (by kernel_rfl) rfl Tryd.underlying4 rfl hW' rfl (.cons e0 (.cons e1 (.cons e2 (.cons e3 .nil)))) hc
noncomputable def formatRoundTrip_laid (os : Os) : World :=
  { World.holding Tryd.prog os ⟨#[], #[], []⟩ with heap := (((World.holding Tryd.prog os ⟨#[], #[], []⟩).heap.modify 2 fun | .cells _ t frozen => .cells #[.int .u8 128, .int .u8 191, .int .u8 160, .int .u8 191, .int .u8 128, .int .u8 159, .int .u8 144, .int .u8 191, .int .u8 128, .int .u8 143, .int .u8 0, .int .u8 0, .int .u8 0, .int .u8 0, .int .u8 0, .int .u8 0, .int .u8 0, .int .u8 0, .int .u8 0, .int .u8 0, .int .u8 0, .int .u8 0, .int .u8 0, .int .u8 0, .int .u8 0, .int .u8 0, .int .u8 0, .int .u8 0, .int .u8 0, .int .u8 0, .int .u8 0, .int .u8 0] t frozen | o => o).modify 1 fun | .cells _ t frozen => .cells (Go.Pinned.utf8FirstZ.map fun (n : Nat) => Value.int .u8 (n : Int)).toArray t frozen | o => o) }
theorem formatRoundTrip_laid_met (os : Os) : laidMet Tryd.prog Rows.formatRoundTripRow.laid ((formatRoundTrip_laid os).forCall (fun _ _ => 0) ⟨#[], #[(.int .i64 0), (.int .i64 0), (.string ByteArray.empty), (.slice none 0 0)], []⟩).memory :=
  laidMet_of_run' 8 (by kernel_rfl) (by kernel_rfl)
theorem formatRoundTrip_reads (os : Os) {H : Type} (enc : TypeId × Value → H) : ∃ places, DataW.whole enc Tryd.prog ((formatRoundTrip_laid os).forCall (fun _ _ => 0) ⟨#[], #[(.int .i64 0), (.int .i64 0), (.string ByteArray.empty), (.slice none 0 0)], []⟩).memory Tryd.f7.params.toList Rows.formatRoundTripSpec.vars false (#[(.int .i64 0), (.int .i64 0), (.string ByteArray.empty), (.slice none 0 0)] : Array Value).toList 8 = some ([.lit (.int .i64 0), .lit (.int .i64 0), .lit (.string []), .nil], [], places) :=
  ⟨[], by kernel_rfl⟩
theorem formatRoundTrip_lifted (os : Os) (started : os.Started) (H : Type) (enc : TypeId × Value → H) (F : Stop.Interp) :
    ReturnsInHanded {} Tryd.checked os 7 .any ((OpenSpec.ofChange Rows.formatRoundTripSpec).preRow enc Tryd.prog Tryd.f7 Rows.formatRoundTripRow.domain false Rows.formatRoundTripRow.laid) (((OpenSpec.ofChange Rows.formatRoundTripSpec).at F).post enc Tryd.prog Tryd.f7 false true false false) := by
  obtain ⟨places, hx⟩ := formatRoundTrip_reads os enc
  refine returnsInHanded_of_row (C := Tryd.checked) (s := OpenSpec.ofChange Rows.formatRoundTripSpec) own started (by kernel_rfl) Tryd.func7
    (witness_row_at (enc := enc) (C := Tryd.checked) false (formatRoundTrip_laid os) #[(.int .i64 0), (.int .i64 0), (.string ByteArray.empty), (.slice none 0 0)] rfl (by kernel_rfl) (by kernel_rfl) (by kernel_rfl)
      (OpenSpec.preRow_of_cond 8 hx (by kernel_rfl) (fun k hk => by cases hk) (by kernel_rfl) (formatRoundTrip_laid_met os))) ?_
  intro W base args ds gs before hval hW _ _ _ _ _ _
  exact formatRoundTrip_contract H enc W base args ds gs before hval hW
theorem formatRoundTrip_said : Rows.FormatRoundTripSaid :=
  OpenClaim.holds_of_cond 7 Tryd.f7 rfl rfl rfl rfl rfl rfl rfl ⟨rfl, rfl, rfl, rfl, rfl⟩ rfl rfl rfl rfl rfl (by kernel_rfl) Tryd.func7 (by kernel_rfl)
    (of_decide_eq_true (by kernel_rfl)) (by unfold Func.isWrapper; first | (rw [if_pos (by decide +kernel)]; kernel_rfl) | (rw [if_neg (by decide +kernel)]; exact ⟨rfl, rfl⟩))
    (fun os started H enc _ F => by rw [OpenClaim.pre_eq_preRow]; exact formatRoundTrip_lifted os started H enc F)
theorem formatRoundTrip_plain (f : FuncId) (fn : Func) (hf : Tryd.pinned.checked.prog.funcNamed Rows.formatRoundTripRow.func = some f) (hfn : Tryd.pinned.checked.prog.funcs[f]? = some fn) :
    false = Tryd.pinned.checked.prog.looks [] ∧ ∀ (j : Nat) t, fn.params[j]? = some t → Tryd.pinned.checked.prog.wantsStandIn t = false := by
  obtain rfl : f = 7 := Option.some.inj ((show Tryd.prog.funcNamed Rows.formatRoundTripRow.func = some 7 by kernel_rfl).symm.trans hf) |>.symm
  obtain rfl : fn = Tryd.f7 := (Option.some.inj (Tryd.func7.symm.trans hfn)).symm
  refine ⟨by kernel_rfl, fun j t ht => ?_⟩
  rw [Tryd.params7] at ht
  have hm := Array.mem_of_getElem? ht
  simp only [List.mem_toArray, List.mem_cons, List.not_mem_nil, or_false] at hm
  rcases hm with rfl | rfl | rfl | rfl
  · exact (show Tryd.prog.wantsStandIn 3 = false by kernel_rfl)
  · exact (show Tryd.prog.wantsStandIn 3 = false by kernel_rfl)
  · exact (show Tryd.prog.wantsStandIn 9 = false by kernel_rfl)
  · exact (show Tryd.prog.wantsStandIn 32 = false by kernel_rfl)
theorem formatRoundTrip_holds : Rows.FormatRoundTripCardSaid :=
  Claim7.holds_tied_plain_at .later [] _ _ _ _ formatRoundTrip_said (fun _ h => by cases h) (by kernel_rfl) (fun _ h => by cases h) formatRoundTrip_row_tie rfl ⟨rfl, rfl⟩ (by kernel_rfl) rfl formatRoundTrip_plain (by kernel_rfl)
end Go.Proofs.YtejehfmcodnecaaDoor
