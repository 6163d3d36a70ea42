/- The types that occur, as plain data. Printed by gen3.py. No conditions. -/
import Derived.Test.YtnjcfajaigokdaaRzX
import Derived.Test.YtnjcfajaigokdaaRzG
import Derived.Test.YtnjcfajaigokdaaProg
set_option linter.all false
set_option maxRecDepth 100000
open Go Go.Rx Go.Proofs Go.RowKit
namespace GoForm
structure Vec where
  X : Int
  Y : Int
  deriving DecidableEq, Inhabited
inductive Ix | tbyte | tsl_byte | tstr | tint | tsl_int | tbool | tu64 | tVec | tu16
  deriving DecidableEq
def e_byte : UInt8 → AV := (aByte).el1
def e_sl_byte : (List UInt8) → AV := ((aSl 1 e_byte)).el1
def e_str : (List UInt8) → AV := (aStr).el1
def e_int : Int → AV := ((aInt .i64)).el1
def e_sl_int : (List Int) → AV := ((aSl 1 e_int)).el1
def e_bool : Bool → AV := (aBool).el1
def e_u64 : Int → AV := ((aInt .u64)).el1
def a_Vec : Ac Vec := aIso (fun x => (x.X, x.Y)) (aPair (aInt .i64) (aInt .i64))
def e_Vec : Vec → AV := (a_Vec).elA
def e_u16 : Int → AV := ((aInt .u16)).el1
noncomputable def tb : Tb where
  P := Try.prog
  Ix := Ix
  dec := inferInstance
  T := fun | .tbyte => UInt8 | .tsl_byte => (List UInt8) | .tstr => (List UInt8) | .tint => Int | .tsl_int => (List Int) | .tbool => Bool | .tu64 => Int | .tVec => Vec | .tu16 => Int
  sz := fun | .tbyte => 1 | .tsl_byte => 1 | .tstr => 1 | .tint => 1 | .tsl_int => 1 | .tbool => 1 | .tu64 => 1 | .tVec => 2 | .tu16 => 1
  el := fun | .tbyte => e_byte | .tsl_byte => e_sl_byte | .tstr => e_str | .tint => e_int | .tsl_int => e_sl_int | .tbool => e_bool | .tu64 => e_u64 | .tVec => e_Vec | .tu16 => e_u16
  look n := find n [(5, Ix.tbyte), (22, Ix.tsl_byte), (9, Ix.tstr), (3, Ix.tint), (34, Ix.tint), (53, Ix.tsl_int), (4, Ix.tbool), (62, Ix.tu64), (32, Ix.tVec), (23, Ix.tu16)]
  byte := some ⟨.tbyte, rfl, rfl, fun _ => rfl⟩
noncomputable def f_Vec : Fc tb Vec := fIso (fun p => ⟨p.1, p.2⟩) (fun x => (x.X, x.Y)) (fPair (fInt .i64) (fInt .i64))
theorem o_Vec : FcOk (tb := tb) a_Vec f_Vec := okIso (fun _ => rfl) (okPair (okInt .i64) (okInt .i64))
noncomputable def cd : (i : Ix) → Cd tb i
  | .tbyte => cd1 (tb := tb) (i := Ix.tbyte) fByte (default : UInt8) true
  | .tsl_byte => cd1 (tb := tb) (i := Ix.tsl_byte) (fSl (tb := tb) .tbyte) (default : (List UInt8)) false
  | .tstr => cd1 (tb := tb) (i := Ix.tstr) fStr (default : (List UInt8)) true
  | .tint => cd1 (tb := tb) (i := Ix.tint) (fInt .i64) (default : Int) true
  | .tsl_int => cd1 (tb := tb) (i := Ix.tsl_int) (fSl (tb := tb) .tint) (default : (List Int)) false
  | .tbool => cd1 (tb := tb) (i := Ix.tbool) fBool (default : Bool) true
  | .tu64 => cd1 (tb := tb) (i := Ix.tu64) (fInt .u64) (default : Int) true
  | .tVec => cdA (tb := tb) (i := Ix.tVec) f_Vec (default : Vec) true
  | .tu16 => cd1 (tb := tb) (i := Ix.tu16) (fInt .u16) (default : Int) true
theorem cd_ok : ∀ i : Ix, CdOk (cd i)
  | .tbyte => ok1 (tb := tb) (i := Ix.tbyte) (a := aByte) okByte (fun _ => rfl) rfl rfl (fun _ _ => rfl)
  | .tsl_byte => ok1 (tb := tb) (i := Ix.tsl_byte) (a := (aSl 1 e_byte)) (okSl (tb := tb) .tbyte) (fun _ => rfl) rfl rfl (fun h => by cases h)
  | .tstr => ok1 (tb := tb) (i := Ix.tstr) (a := aStr) okStr (fun _ => rfl) rfl rfl (fun _ _ => rfl)
  | .tint => ok1 (tb := tb) (i := Ix.tint) (a := (aInt .i64)) (okInt .i64) (fun _ => rfl) rfl rfl (fun _ _ => rfl)
  | .tsl_int => ok1 (tb := tb) (i := Ix.tsl_int) (a := (aSl 1 e_int)) (okSl (tb := tb) .tint) (fun _ => rfl) rfl rfl (fun h => by cases h)
  | .tbool => ok1 (tb := tb) (i := Ix.tbool) (a := aBool) okBool (fun _ => rfl) rfl rfl (fun _ _ => rfl)
  | .tu64 => ok1 (tb := tb) (i := Ix.tu64) (a := (aInt .u64)) (okInt .u64) (fun _ => rfl) rfl rfl (fun _ _ => rfl)
  | .tVec => okA (tb := tb) (i := Ix.tVec) (a := a_Vec) o_Vec (fun _ => rfl) rfl rfl (fun _ _ => rfl)
  | .tu16 => ok1 (tb := tb) (i := Ix.tu16) (a := (aInt .u16)) (okInt .u16) (fun _ => rfl) rfl rfl (fun _ _ => rfl)
theorem mixed : Try.prog.follows .mixedOrders = true := by kernel_rfl
def Vec_beq (x y : Vec) : Bool := (decide (x.X = y.X) && decide (x.Y = y.Y))
theorem eqt_32 : EqT Try.prog 32 e_Vec Vec_beq := by
  refine ⟨by kernel_rfl, fun x => [.int .i64 x.X, .int .i64 x.Y], fun x => rfl, fun w x y => ?_⟩
  rw [run_equalIn_struct w 9999 32 _ _ (by kernel_rfl) (by kernel_rfl)]
  simp [Program.fieldsOf, Op.eqFields, go_sem, if_ok, Vec_beq, Try.underlying3, Try.underlying32] <;> grind
noncomputable def eqs : List (EqE Try.prog tb) := [⟨32, Ix.tVec, Vec_beq, eqt_32⟩]
noncomputable def hnds : List (Hnd Try.prog tb) := []
noncomputable def cx (Γ : List (Con Try.prog tb cd)) (J : List (Inl Try.prog tb)) : Ctx Try.prog tb := ⟨cd, cd_ok, Γ, J, eqs, mixed, rfl, hnds⟩
end GoForm
