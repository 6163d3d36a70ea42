/- The types that occur, as plain data. Printed by gen3.py. No conditions. -/
import Derived.Test.YtkkbdleogkengaaDoorQE
import Derived.Test.YtkkbdleogkengaaDoorQE
import Derived.Test.YtkkbdleogkengaaDoorProg
set_option linter.all false
set_option maxRecDepth 100000
open Go Go.Rx Go.Proofs Go.RowKit
namespace GoForm
structure format_decimal where
  negative : Bool
  magnitude : Int
  unit : Int
  deriving DecidableEq, Inhabited
structure PairKey where
  BodyA : Int
  FixtureA : Int
  BodyB : Int
  FixtureB : Int
  deriving DecidableEq, Inhabited
structure Event where
  Kind : Int
  Key : PairKey
  deriving DecidableEq, Inhabited
inductive Ix | tstr | tint | tsl_str | tbool | tu64 | tformat_decimal | tPairKey | tEvent | tbyte | tsl_PairKey | tsl_Event | tsl_int
  deriving DecidableEq
def e_str : (List UInt8) → AV := (aStr).el1
def e_int : Int → AV := ((aInt .i64)).el1
def e_sl_str : (List (List UInt8)) → AV := ((aSl 1 e_str)).el1
def e_bool : Bool → AV := (aBool).el1
def e_u64 : Int → AV := ((aInt .u64)).el1
def a_format_decimal : Ac format_decimal := aIso (fun x => (x.negative, x.magnitude, x.unit)) (aPair aBool (aPair (aInt .u64) (aInt .u64)))
def e_format_decimal : format_decimal → AV := (a_format_decimal).elA
def a_PairKey : Ac PairKey := aIso (fun x => (x.BodyA, x.FixtureA, x.BodyB, x.FixtureB)) (aPair (aInt .i64) (aPair (aInt .i64) (aPair (aInt .i64) (aInt .i64))))
def e_PairKey : PairKey → AV := (a_PairKey).elA
def a_Event : Ac Event := aIso (fun x => (x.Kind, x.Key)) (aPair (aInt .i64) a_PairKey)
def e_Event : Event → AV := (a_Event).elA
def e_byte : UInt8 → AV := (aByte).el1
def e_sl_PairKey : (List PairKey) → AV := ((aSl 4 e_PairKey)).el1
def e_sl_Event : (List Event) → AV := ((aSl 5 e_Event)).el1
def e_sl_int : (List Int) → AV := ((aSl 1 e_int)).el1
noncomputable def tb : Tb where
  P := Tryd.prog
  Ix := Ix
  dec := inferInstance
  T := fun | .tstr => (List UInt8) | .tint => Int | .tsl_str => (List (List UInt8)) | .tbool => Bool | .tu64 => Int | .tformat_decimal => format_decimal | .tPairKey => PairKey | .tEvent => Event | .tbyte => UInt8 | .tsl_PairKey => (List PairKey) | .tsl_Event => (List Event) | .tsl_int => (List Int)
  sz := fun | .tstr => 1 | .tint => 1 | .tsl_str => 1 | .tbool => 1 | .tu64 => 1 | .tformat_decimal => 3 | .tPairKey => 4 | .tEvent => 5 | .tbyte => 1 | .tsl_PairKey => 1 | .tsl_Event => 1 | .tsl_int => 1
  el := fun | .tstr => e_str | .tint => e_int | .tsl_str => e_sl_str | .tbool => e_bool | .tu64 => e_u64 | .tformat_decimal => e_format_decimal | .tPairKey => e_PairKey | .tEvent => e_Event | .tbyte => e_byte | .tsl_PairKey => e_sl_PairKey | .tsl_Event => e_sl_Event | .tsl_int => e_sl_int
  look n := find n [(9, Ix.tstr), (3, Ix.tint), (22, Ix.tint), (28, Ix.tint), (53, Ix.tsl_str), (4, Ix.tbool), (82, Ix.tu64), (93, Ix.tformat_decimal), (24, Ix.tPairKey), (26, Ix.tEvent), (5, Ix.tbyte), (38, Ix.tsl_PairKey), (39, Ix.tsl_Event), (106, Ix.tsl_int)]
  byte := some ⟨.tbyte, rfl, rfl, fun _ => rfl⟩
noncomputable def f_format_decimal : Fc tb format_decimal := fIso (fun p => ⟨p.1, p.2.1, p.2.2⟩) (fun x => (x.negative, x.magnitude, x.unit)) (fPair fBool (fPair (fInt .u64) (fInt .u64)))
theorem o_format_decimal : FcOk (tb := tb) a_format_decimal f_format_decimal := okIso (fun _ => rfl) (okPair okBool (okPair (okInt .u64) (okInt .u64)))
noncomputable def f_PairKey : Fc tb PairKey := fIso (fun p => ⟨p.1, p.2.1, p.2.2.1, p.2.2.2⟩) (fun x => (x.BodyA, x.FixtureA, x.BodyB, x.FixtureB)) (fPair (fInt .i64) (fPair (fInt .i64) (fPair (fInt .i64) (fInt .i64))))
theorem o_PairKey : FcOk (tb := tb) a_PairKey f_PairKey := okIso (fun _ => rfl) (okPair (okInt .i64) (okPair (okInt .i64) (okPair (okInt .i64) (okInt .i64))))
noncomputable def f_Event : Fc tb Event := fIso (fun p => ⟨p.1, p.2⟩) (fun x => (x.Kind, x.Key)) (fPair (fInt .i64) f_PairKey)
theorem o_Event : FcOk (tb := tb) a_Event f_Event := okIso (fun _ => rfl) (okPair (okInt .i64) o_PairKey)
noncomputable def cd : (i : Ix) → Cd tb i
  | .tstr => cd1 (tb := tb) (i := Ix.tstr) fStr (default : (List UInt8)) true
  | .tint => cd1 (tb := tb) (i := Ix.tint) (fInt .i64) (default : Int) true
  | .tsl_str => cd1 (tb := tb) (i := Ix.tsl_str) (fSl (tb := tb) .tstr) (default : (List (List UInt8))) false
  | .tbool => cd1 (tb := tb) (i := Ix.tbool) fBool (default : Bool) true
  | .tu64 => cd1 (tb := tb) (i := Ix.tu64) (fInt .u64) (default : Int) true
  | .tformat_decimal => cdA (tb := tb) (i := Ix.tformat_decimal) f_format_decimal (default : format_decimal) true
  | .tPairKey => cdA (tb := tb) (i := Ix.tPairKey) f_PairKey (default : PairKey) true
  | .tEvent => cdA (tb := tb) (i := Ix.tEvent) f_Event (default : Event) true
  | .tbyte => cd1 (tb := tb) (i := Ix.tbyte) fByte (default : UInt8) true
  | .tsl_PairKey => cd1 (tb := tb) (i := Ix.tsl_PairKey) (fSl (tb := tb) .tPairKey) (default : (List PairKey)) false
  | .tsl_Event => cd1 (tb := tb) (i := Ix.tsl_Event) (fSl (tb := tb) .tEvent) (default : (List Event)) false
  | .tsl_int => cd1 (tb := tb) (i := Ix.tsl_int) (fSl (tb := tb) .tint) (default : (List Int)) false
theorem cd_ok : ∀ i : Ix, CdOk (cd i)
  | .tstr => ok1 (tb := tb) (i := Ix.tstr) (a := aStr) okStr (fun _ => rfl) rfl rfl (fun _ _ => rfl)
  | .tint => ok1 (tb := tb) (i := Ix.tint) (a := (aInt .i64)) (okInt .i64) (fun _ => rfl) rfl rfl (fun _ _ => rfl)
  | .tsl_str => ok1 (tb := tb) (i := Ix.tsl_str) (a := (aSl 1 e_str)) (okSl (tb := tb) .tstr) (fun _ => rfl) rfl rfl (fun h => by cases h)
  | .tbool => ok1 (tb := tb) (i := Ix.tbool) (a := aBool) okBool (fun _ => rfl) rfl rfl (fun _ _ => rfl)
  | .tu64 => ok1 (tb := tb) (i := Ix.tu64) (a := (aInt .u64)) (okInt .u64) (fun _ => rfl) rfl rfl (fun _ _ => rfl)
  | .tformat_decimal => okA (tb := tb) (i := Ix.tformat_decimal) (a := a_format_decimal) o_format_decimal (fun _ => rfl) rfl rfl (fun _ _ => rfl)
  | .tPairKey => okA (tb := tb) (i := Ix.tPairKey) (a := a_PairKey) o_PairKey (fun _ => rfl) rfl rfl (fun _ _ => rfl)
  | .tEvent => okA (tb := tb) (i := Ix.tEvent) (a := a_Event) o_Event (fun _ => rfl) rfl rfl (fun _ _ => rfl)
  | .tbyte => ok1 (tb := tb) (i := Ix.tbyte) (a := aByte) okByte (fun _ => rfl) rfl rfl (fun _ _ => rfl)
  | .tsl_PairKey => ok1 (tb := tb) (i := Ix.tsl_PairKey) (a := (aSl 4 e_PairKey)) (okSl (tb := tb) .tPairKey) (fun _ => rfl) rfl rfl (fun h => by cases h)
  | .tsl_Event => ok1 (tb := tb) (i := Ix.tsl_Event) (a := (aSl 5 e_Event)) (okSl (tb := tb) .tEvent) (fun _ => rfl) rfl rfl (fun h => by cases h)
  | .tsl_int => ok1 (tb := tb) (i := Ix.tsl_int) (a := (aSl 1 e_int)) (okSl (tb := tb) .tint) (fun _ => rfl) rfl rfl (fun h => by cases h)
theorem mixed : Tryd.prog.follows .mixedOrders = true := by kernel_rfl
def PairKey_beq (x y : PairKey) : Bool := (decide (x.BodyA = y.BodyA) && (decide (x.FixtureA = y.FixtureA) && (decide (x.BodyB = y.BodyB) && decide (x.FixtureB = y.FixtureB))))
def Event_beq (x y : Event) : Bool := (decide (x.Kind = y.Kind) && PairKey_beq x.Key y.Key)
theorem eqt_24 : EqT Tryd.prog 24 e_PairKey PairKey_beq := by
  refine ⟨by kernel_rfl, fun x => [.int .i64 x.BodyA, .int .i64 x.FixtureA, .int .i64 x.BodyB, .int .i64 x.FixtureB], fun x => rfl, fun w x y => ?_⟩
  rw [run_equalIn_struct w 9999 24 _ _ (by kernel_rfl) (by kernel_rfl)]
  simp [Program.fieldsOf, Op.eqFields, go_sem, if_ok, PairKey_beq, Tryd.underlying3, Tryd.underlying24] <;> grind
theorem eqt_26 : EqT Tryd.prog 26 e_Event Event_beq := by
  refine ⟨by kernel_rfl, fun x => [.int .i64 x.Kind, .int .i64 x.Key.BodyA, .int .i64 x.Key.FixtureA, .int .i64 x.Key.BodyB, .int .i64 x.Key.FixtureB], fun x => rfl, fun w x y => ?_⟩
  rw [run_equalIn_struct w 9999 26 _ _ (by kernel_rfl) (by kernel_rfl)]
  have q0 := fun (d : Nat) (w : Go.World) (xs ys : Array Value) => run_equalIn_struct (P := Tryd.prog) w d 24 xs ys (by kernel_rfl) (by kernel_rfl)
  simp [Program.fieldsOf, Op.eqFields, go_sem, if_ok, Event_beq, PairKey_beq, Tryd.underlying3, Tryd.underlying22, Tryd.underlying23, Tryd.underlying24, Tryd.underlying26, q0] <;> grind
noncomputable def eqs : List (EqE Tryd.prog tb) := [⟨24, Ix.tPairKey, PairKey_beq, eqt_24⟩, ⟨26, Ix.tEvent, Event_beq, eqt_26⟩]
noncomputable def hnds : List (Hnd Tryd.prog tb) := []
noncomputable def cx (Γ : List (Con Tryd.prog tb cd)) (J : List (Inl Tryd.prog tb)) : Ctx Tryd.prog tb := ⟨cd, cd_ok, Γ, J, eqs, mixed, rfl, hnds⟩
end GoForm
