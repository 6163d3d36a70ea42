/- Plain forms of the functions whose contracts are proved by hand. No conditions. -/
import Derived.Test.YtffgldbihpgjgaaGreatDoorF47T
set_option linter.all false
set_option maxRecDepth 100000
open Go Go.Rx
namespace GoForm
/-- Eight zero bits through the CRC register. -/
def updS (c : Int) : Int := if (bAnd .u32 c 1 == 1) = true then bXor .u32 (bShr .u32 c 1) 2197175160 else bShr .u32 c 1
def updN : Nat → Int → Int
  | 0, c => c
  | n + 1, c => updN n (updS c)
def crcF (b : List UInt8) : Int := b.foldl (fun c x => updN 8 (bXor .u32 c (x.toNat : Int))) 4294967295
def crcV (b : List UInt8) : Int := bXor .u32 4294967295 (crcF b)
def sealH (b : List UInt8) : Option (List UInt8) := if b.length ≤ 1099511627776 then some (b ++ [toByte (crcV b), toByte (bShr .u32 (crcV b) 8), toByte (bShr .u32 (crcV b) 16), toByte (bShr .u32 (crcV b) 24)]) else none
/-- The example's input. -/
def exB : Body := { ID := 0, Kind := 0, Transform := { Position := { X := 0, Y := 0 }, Angle := 0 }, Velocity := { X := 0, Y := 0 }, AngularVelocity := 0, Force := { X := 0, Y := 0 }, Torque := 0, LinearDamping := 0, AngularDamping := 0, GravityScale := 0, Bullet := false, FixedRotation := false, NoSleep := false, Asleep := false, IdleSteps := 0, Fixtures := [] }
def exJ : Joint := { ID := 0, Kind := 0, BodyA := 0, BodyB := 0, AnchorA := { X := 0, Y := 0 }, AnchorB := { X := 0, Y := 0 }, Axis := { X := 0, Y := 0 }, ReferenceAngle := 0, EnableLimit := false, Lower := 0, Upper := 0, EnableMotor := false, MotorSpeed := 0, MaxForce := 0, Softness := 0, BreakForce := 0, CollideConnected := false, Impulses := (0, 0, 0, 0) }
def exI : Input := { Kind := 1, ID := 3, Vec := { X := 65536, Y := 0 }, Value := 0, Body := exB, Joint := exJ }
def exP : List UInt8 := [1, 2, 0, 1, 1, 1, 1, 1, 3, 3, 1, 0, 0, 0, 0] ++ List.replicate 44 0
def exD : List UInt8 := exP ++ [202, 227, 83, 138]
def exS : List UInt8 := [102, 114, 97, 109, 101, 10, 105, 109, 112, 117, 108, 115, 101, 32, 51, 32, 49, 117, 10]
/-- What the example asks of recording.Decode and recording.Parse. -/
def recDecode (b : List UInt8) : Option (List (List Input) × Int) := if b = exD then some ([[], [exI]], 0) else none
def recParse (s : List UInt8) : Option (List (List Input) × Int × Int) := if s = exS then some ([], 2, 27) else none
/-- Empty frames up to frame k. -/
def padR (r : List (List Input)) (k : Nat) : List (List Input) := r ++ List.replicate (k + 1 - r.length) []
def recAppendG (V : List (List Input) → Option Int) (A : List Input → Option Bool) (I : List (List Input) → Int → Option (List Input)) (C : Input → Option Input) (r : List (List Input)) (frame : Int) (ins : List Input) : Option (List (List Input) × Int) :=
  if frame < 0 ∨ 4096 ≤ frame then some ([], 21)
  else match V r with
  | none => none
  | some c => if c ≠ 0 then some ([], 25) else match A ins with
    | none => none
    | some b => if b = false then some ([], 20) else match I r frame with
      | none => none
      | some x => if 32 < x.length + ins.length then (if x.length + ins.length ≤ 4294967296 then some ([], 11) else none)
        else if r.length ≤ 4096 ∧ (∀ f ∈ r, (∀ x ∈ f, C x = some x) ∧ f.length ≤ 1048576) ∧ (∀ x ∈ ins, C x = some x) ∧ ins.length ≤ 1048576 then some ((padR r frame.toNat).set frame.toNat ((padR r frame.toNat).getD frame.toNat [] ++ ins), 0) else none
end GoForm
