/- The types that occur, as plain data. Printed by gen3.py. No conditions. -/
import Derived.Test.YtejehfmcodnecaaDoorRzX
import Derived.Test.YtejehfmcodnecaaDoorProg
set_option linter.all false
set_option maxRecDepth 100000
open Go Go.Rx Go.Proofs Go.RowKit
namespace GoForm
structure format_decimal where
  negative : Bool
  magnitude : Int
  unit : Int
  deriving DecidableEq, Inhabited
inductive Ix | tint | tstr | tu64 | tbyte | tbool | tformat_decimal | tsl_str
  deriving DecidableEq
def e_int : Int → AV := ((aInt .i64)).el1
def e_str : (List UInt8) → AV := (aStr).el1
def e_u64 : Int → AV := ((aInt .u64)).el1
def e_byte : UInt8 → AV := (aByte).el1
def e_bool : Bool → AV := (aBool).el1
def a_format_decimal : Ac format_decimal := aIso (fun x => (x.negative, x.magnitude, x.unit)) (aPair aBool (aPair (aInt .u64) (aInt .u64)))
def e_format_decimal : format_decimal → AV := (a_format_decimal).elA
def e_sl_str : (List (List UInt8)) → AV := ((aSl 1 e_str)).el1
noncomputable def tb : Tb where
  P := Tryd.prog
  Ix := Ix
  dec := inferInstance
  T := fun | .tint => Int | .tstr => (List UInt8) | .tu64 => Int | .tbyte => UInt8 | .tbool => Bool | .tformat_decimal => format_decimal | .tsl_str => (List (List UInt8))
  sz := fun | .tint => 1 | .tstr => 1 | .tu64 => 1 | .tbyte => 1 | .tbool => 1 | .tformat_decimal => 3 | .tsl_str => 1
  el := fun | .tint => e_int | .tstr => e_str | .tu64 => e_u64 | .tbyte => e_byte | .tbool => e_bool | .tformat_decimal => e_format_decimal | .tsl_str => e_sl_str
  look n := find n [(3, Ix.tint), (25, Ix.tint), (9, Ix.tstr), (41, Ix.tu64), (5, Ix.tbyte), (4, Ix.tbool), (45, Ix.tformat_decimal), (32, Ix.tsl_str)]
  byte := some ⟨.tbyte, rfl, rfl, fun _ => rfl⟩
noncomputable def f_format_decimal : Fc tb format_decimal := fIso (fun p => ⟨p.1, p.2.1, p.2.2⟩) (fun x => (x.negative, x.magnitude, x.unit)) (fPair fBool (fPair (fInt .u64) (fInt .u64)))
theorem o_format_decimal : FcOk (tb := tb) a_format_decimal f_format_decimal := okIso (fun _ => rfl) (okPair okBool (okPair (okInt .u64) (okInt .u64)))
noncomputable def cd : (i : Ix) → Cd tb i
  | .tint => cd1 (tb := tb) (i := Ix.tint) (fInt .i64) (default : Int) true
  | .tstr => cd1 (tb := tb) (i := Ix.tstr) fStr (default : (List UInt8)) true
  | .tu64 => cd1 (tb := tb) (i := Ix.tu64) (fInt .u64) (default : Int) true
  | .tbyte => cd1 (tb := tb) (i := Ix.tbyte) fByte (default : UInt8) true
  | .tbool => cd1 (tb := tb) (i := Ix.tbool) fBool (default : Bool) true
  | .tformat_decimal => cdA (tb := tb) (i := Ix.tformat_decimal) f_format_decimal (default : format_decimal) true
  | .tsl_str => cd1 (tb := tb) (i := Ix.tsl_str) (fSl (tb := tb) .tstr) (default : (List (List UInt8))) false
theorem cd_ok : ∀ i : Ix, CdOk (cd i)
  | .tint => ok1 (tb := tb) (i := Ix.tint) (a := (aInt .i64)) (okInt .i64) (fun _ => rfl) rfl rfl (fun _ _ => rfl)
  | .tstr => ok1 (tb := tb) (i := Ix.tstr) (a := aStr) okStr (fun _ => rfl) rfl rfl (fun _ _ => rfl)
  | .tu64 => ok1 (tb := tb) (i := Ix.tu64) (a := (aInt .u64)) (okInt .u64) (fun _ => rfl) rfl rfl (fun _ _ => rfl)
  | .tbyte => ok1 (tb := tb) (i := Ix.tbyte) (a := aByte) okByte (fun _ => rfl) rfl rfl (fun _ _ => rfl)
  | .tbool => ok1 (tb := tb) (i := Ix.tbool) (a := aBool) okBool (fun _ => rfl) rfl rfl (fun _ _ => rfl)
  | .tformat_decimal => okA (tb := tb) (i := Ix.tformat_decimal) (a := a_format_decimal) o_format_decimal (fun _ => rfl) rfl rfl (fun _ _ => rfl)
  | .tsl_str => ok1 (tb := tb) (i := Ix.tsl_str) (a := (aSl 1 e_str)) (okSl (tb := tb) .tstr) (fun _ => rfl) rfl rfl (fun h => by cases h)
theorem mixed : Tryd.prog.follows .mixedOrders = true := by kernel_rfl

noncomputable def eqs : List (EqE Tryd.prog tb) := []
noncomputable def cx (Γ : List (Con Tryd.prog tb cd)) (J : List (Inl Tryd.prog tb)) : Ctx Tryd.prog tb := ⟨cd, cd_ok, Γ, J, eqs, mixed, rfl⟩
end GoForm
