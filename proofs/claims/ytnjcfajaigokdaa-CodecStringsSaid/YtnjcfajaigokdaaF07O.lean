/- The plain forms of the program's functions: printed by gen2.py from the translation. No conditions. -/
import Derived.Test.YtnjcfajaigokdaaRzP
set_option linter.all false
open Go Go.Rx
namespace GoOld
structure Vec where
  X : Int
  Y : Int
  deriving DecidableEq, Inhabited
def Vec.zero : Vec := ⟨0, 0⟩
def Vec.beq (x y : Vec) : Bool := decide (x.X = y.X) && (decide (x.Y = y.Y))
def law07_small (b : List UInt8) (s : List UInt8) (l : List Int) : Bool :=
  Let ((cond (cond (decide (((b).length : Int) ≤ 2000)) (decide (((s).length : Int) ≤ 500)) false) (decide (((l).length : Int) ≤ 100)) false)) fun x1 =>
  x1
def codec_readByte (b : List UInt8) (at_1 : Int) : Option (UInt8 × Int) :=
  Let ((cond (decide (at_1 < 0)) true (decide (((b).length : Int) < at_1)))) fun x1 =>
  if x1 = true then
    some (0, 2)
  else
    Let ((at_1 == ((b).length : Int))) fun x2 =>
    if x2 = true then
      some (0, 4)
    else
      Chk (0 ≤ at_1 ∧ at_1 < ((b).length : Int)) <|
      Let ((ix b at_1)) fun x4 =>
      some (x4, 0)
def codec_magnitude (n_0 : Int) : Int :=
  if (decide (n_0 < 0)) = true then
    Let ((IntKind.u64.wrap (0 - (IntKind.u64.wrap (n_0))))) fun x1 =>
    x1
  else
    Let ((IntKind.u64.wrap (n_0))) fun x2 =>
    x2
def codec_ReadInt_l1 (kj2 : Int → Option (Int × Int × Int)) (x10 : List UInt8) : Nat → Int → Int → Option (Int × Int × Int)
  | 0, _, _ => none
  | n + 1, v11, v12 =>
    if (decide (v12 < ((x10).length : Int))) = true then
      Chk (0 ≤ v12 ∧ v12 < ((x10).length : Int)) <|
      Let ((ix x10 v12)) fun x14 =>
      Let ((bOr .u64 (bShl .u64 v11 8) ((x14).toNat : Int))) fun x15 =>
      Let ((w64 (v12 + 1))) fun x16 =>
      (codec_ReadInt_l1 kj2 x10 n) x15 x16
    else
      kj2 v11
def codec_ReadInt_j2 (at_1 : Int) (x3 : Bool) (v4 : Int) (x7 : List UInt8) (v8 : Int) (v18 : Int) : Option (Int × Int × Int) :=
  Chk (((decide (0 < v4)) == true) = true → 0 ≤ (0 : Int) ∧ 0 < ((x7).length : Int)) <|
  Let (codec_magnitude v18) fun r21 =>
  if (cond (cond (cond (decide (0 < v4)) ((ix x7 0) == 0) false) true (r21 != v8)) true ((decide (v18 < 0)) != x3)) = true then
    some (0, 0, 3)
  else
    Let ((w64 ((w64 (at_1 + 1)) + v4))) fun x22 =>
    some (v18, x22, 0)
def codec_ReadInt_j3 (at_1 : Int) (x3 : Bool) (v4 : Int) (x7 : List UInt8) (v8 : Int) : Option (Int × Int × Int) :=
  Let ((w64 (v8))) fun x17 =>
  if x3 = true then
    Let ((w64 (0 - x17))) fun x19 =>
    (codec_ReadInt_j2 at_1 x3 v4 x7 v8) x19
  else
    (codec_ReadInt_j2 at_1 x3 v4 x7 v8) x17
def codec_ReadInt_j4 (b : List UInt8) (at_1 : Int) (x3 : Bool) (v4 : Int) : Option (Int × Int × Int) :=
  if (decide (8 < v4)) = true then
    some (0, 0, 3)
  else
    Chk (0 ≤ (w64 (at_1 + 1)) ∧ (w64 (at_1 + 1)) ≤ (b.length : Int)) <|
    Let ((b.drop ((w64 (at_1 + 1))).toNat)) fun x7 =>
    if (decide (((x7).length : Int) < v4)) = true then
      some (0, 0, 4)
    else
      Chk (0 ≤ v4 ∧ v4 ≤ (x7.length : Int)) <|
      Let ((x7.take (v4).toNat)) fun x10 =>
      codec_ReadInt_l1 (codec_ReadInt_j3 at_1 x3 v4 x7) x10 fuel 0 0
def codec_ReadInt (b : List UInt8) (at_1 : Int) : Option (Int × Int × Int) :=
  Bind (codec_readByte b at_1) fun r1 =>
  if (r1.2 != 0) = true then
    some (0, 0, r1.2)
  else
    Let (((r1.1).toNat : Int)) fun x2 =>
    Let ((decide (16 < r1.1))) fun x3 =>
    if x3 = true then
      Let ((w64 (x2 - 16))) fun x5 =>
      (codec_ReadInt_j4 b at_1 x3) x5
    else
      (codec_ReadInt_j4 b at_1 x3) x2
def codec_extend (b : List UInt8) (more : List UInt8) : Option (List UInt8) :=
  Chk (((b).length + (more).length) * 1 ≤ 140737488355328) <|
  Let (b ++ more) fun x2 =>
  some x2
def codec_AppendInt_l1 (kj1 : List UInt8 → Option (List UInt8)) : Nat → List UInt8 → Int → Option (List UInt8)
  | 0, _, _ => none
  | n + 1, v3, v4 =>
    if (decide (0 < v4)) = true then
      Chk (((([(toByte v4)] : List UInt8)).length + (v3).length) * 1 ≤ 140737488355328) <|
      Let (([(toByte v4)] : List UInt8) ++ v3) fun x6 =>
      Let ((bShr .u64 v4 8)) fun x7 =>
      (codec_AppendInt_l1 kj1 n) x6 x7
    else
      kj1 v3
def codec_AppendInt_j2 (b : List UInt8) (v1 : List UInt8) (v8 : Int) : Option (List UInt8) :=
  Bind (codec_extend b ([(toByte v8)] : List UInt8)) fun r10 =>
  Bind (codec_extend r10 v1) fun r11 =>
  some r11
def codec_AppendInt_j3 (b : List UInt8) (n_1 : Int) (v1 : List UInt8) : Option (List UInt8) :=
  if (decide (n_1 < 0)) = true then
    Let ((w64 (((v1).length : Int) + 16))) fun x9 =>
    (codec_AppendInt_j2 b v1) x9
  else
    (codec_AppendInt_j2 b v1) ((v1).length : Int)
def codec_AppendInt (b : List UInt8) (n_1 : Int) : Option (List UInt8) :=
  Let (codec_magnitude n_1) fun r2 =>
  codec_AppendInt_l1 (codec_AppendInt_j3 b n_1) fuel ([] : List UInt8) r2
def law07_example  : Option Bool :=
  Bind (codec_ReadInt ([9, 17, 1] : List UInt8) (1)) fun r1 =>
  Bind (codec_ReadInt ([1, 0] : List UInt8) (0)) fun r2 =>
  Bind (codec_AppendInt (([] : List UInt8)) (258)) fun r3 =>
  Bind (if ((r3 == ([2, 1, 2] : List UInt8)) == true) = true then codec_AppendInt ([5] : List UInt8) ((-1)) else some default) fun r4 =>
  Bind (if ((cond (r3 == ([2, 1, 2] : List UInt8)) (r4 == ([5, 17, 1] : List UInt8)) false) == true) = true then codec_AppendInt (([] : List UInt8)) (0) else some default) fun r5 =>
  Let ((cond (cond (cond (cond (cond (cond (r3 == ([2, 1, 2] : List UInt8)) (r4 == ([5, 17, 1] : List UInt8)) false) (r5 == ([0] : List UInt8)) false) (r1.1 == (-1)) false) (r1.2.1 == 3) false) (r1.2.2 == 0) false) (r2.2.2 == 3) false)) fun x6 =>
  some x6
def ref07_ReadInt_l1 (b : List UInt8) (at_1 : Int) (v4 : Int) (kj2 : Int → Option (Int × Int × Int)) : Nat → Int → Int → Option (Int × Int × Int)
  | 0, _, _ => none
  | n + 1, v8, v9 =>
    if (decide (v9 ≤ v4)) = true then
      Chk (0 ≤ (w64 (at_1 + v9)) ∧ (w64 (at_1 + v9)) < ((b).length : Int)) <|
      Let ((IntKind.u64.wrap ((IntKind.u64.wrap (v8 * 256)) + (((ix b (w64 (at_1 + v9)))).toNat : Int)))) fun x11 =>
      Let ((w64 (v9 + 1))) fun x12 =>
      (ref07_ReadInt_l1 b at_1 v4 kj2 n) x11 x12
    else
      kj2 v8
def ref07_ReadInt_j2 (b : List UInt8) (at_1 : Int) (x3 : Bool) (v4 : Int) (v7 : Int) : Option (Int × Int × Int) :=
  Chk (((decide (0 < v4)) == true) = true → 0 ≤ (w64 (at_1 + 1)) ∧ (w64 (at_1 + 1)) < ((b).length : Int)) <|
  if (cond (cond (cond (decide (0 < v4)) ((ix b (w64 (at_1 + 1))) == 0) false) true (cond (!x3) (decide (9223372036854775807 < v7)) false)) true (cond x3 (decide (9223372036854775808 < v7)) false)) = true then
    some (0, 0, 3)
  else
    if x3 = true then
      Let ((w64 ((w64 (0 - (w64 ((IntKind.u64.wrap (v7 - 1)))))) - 1))) fun x14 =>
      Let ((w64 ((w64 (at_1 + 1)) + v4))) fun x15 =>
      some (x14, x15, 0)
    else
      Let ((w64 (v7))) fun x16 =>
      Let ((w64 ((w64 (at_1 + 1)) + v4))) fun x17 =>
      some (x16, x17, 0)
def ref07_ReadInt_j3 (b : List UInt8) (at_1 : Int) (x3 : Bool) (v4 : Int) : Option (Int × Int × Int) :=
  if (cond (cond (decide (8 < v4)) true (decide (v4 < 0))) true (cond x3 (v4 == 0) false)) = true then
    some (0, 0, 3)
  else
    Let ((decide ((w64 ((w64 (((b).length : Int) - at_1)) - 1)) < v4))) fun x6 =>
    if x6 = true then
      some (0, 0, 4)
    else
      ref07_ReadInt_l1 b at_1 v4 (ref07_ReadInt_j2 b at_1 x3 v4) fuel 0 1
def ref07_ReadInt (b : List UInt8) (at_1 : Int) : Option (Int × Int × Int) :=
  if (cond (decide (at_1 < 0)) true (decide (((b).length : Int) < at_1))) = true then
    some (0, 0, 2)
  else
    if (at_1 == ((b).length : Int)) = true then
      some (0, 0, 4)
    else
      Chk (0 ≤ at_1 ∧ at_1 < ((b).length : Int)) <|
      Let ((((ix b at_1)).toNat : Int)) fun x2 =>
      Let ((decide (16 ≤ x2))) fun x3 =>
      if x3 = true then
        Let ((w64 (x2 - 16))) fun x5 =>
        (ref07_ReadInt_j3 b at_1 x3) x5
      else
        (ref07_ReadInt_j3 b at_1 x3) x2
def codec_ReadBool (b : List UInt8) (at_1 : Int) : Option (Bool × Int × Int) :=
  Bind (codec_readByte b at_1) fun r1 =>
  Let ((r1.2 != 0)) fun x2 =>
  if x2 = true then
    some (false, 0, r1.2)
  else
    Let ((decide (1 < r1.1))) fun x3 =>
    if x3 = true then
      some (false, 0, 3)
    else
      Let ((r1.1 == 1)) fun x4 =>
      Let ((w64 (at_1 + 1))) fun x5 =>
      some (x4, x5, 0)
def ref07_ReadBool (b : List UInt8) (at_1 : Int) : Option (Bool × Int × Int) :=
  if (cond (decide (at_1 < 0)) true (decide (((b).length : Int) < at_1))) = true then
    some (false, 0, 2)
  else
    if (at_1 == ((b).length : Int)) = true then
      some (false, 0, 4)
    else
      Chk (0 ≤ at_1 ∧ at_1 < ((b).length : Int)) <|
      if (decide (1 < (ix b at_1))) = true then
        some (false, 0, 3)
      else
        Chk (0 ≤ at_1 ∧ at_1 < ((b).length : Int)) <|
        Let (((ix b at_1) == 1)) fun x3 =>
        Let ((w64 (at_1 + 1))) fun x4 =>
        some (x3, x4, 0)
def codec_ReadVec (b : List UInt8) (at_1 : Int) : Option (Vec × Int × Int) :=
  Bind (codec_ReadInt b at_1) fun r1 =>
  if (r1.2.2 != 0) = true then
    Let ((⟨0, 0⟩ : Vec)) fun x2 =>
    some (x2, 0, r1.2.2)
  else
    Bind (codec_ReadInt b r1.2.1) fun r3 =>
    if (r3.2.2 != 0) = true then
      Let ((⟨0, 0⟩ : Vec)) fun x4 =>
      some (x4, 0, r3.2.2)
    else
      Let ((⟨r1.1, r3.1⟩ : Vec)) fun x5 =>
      some (x5, r3.2.1, 0)
def ref07_ReadVec (b : List UInt8) (at_1 : Int) : Option (Vec × Int × Int) :=
  Bind (ref07_ReadInt b at_1) fun r1 =>
  if (r1.2.2 != 0) = true then
    Let ((⟨0, 0⟩ : Vec)) fun x2 =>
    some (x2, 0, r1.2.2)
  else
    Bind (ref07_ReadInt b r1.2.1) fun r3 =>
    if (r3.2.2 != 0) = true then
      Let ((⟨0, 0⟩ : Vec)) fun x4 =>
      some (x4, 0, r3.2.2)
    else
      Let ((⟨r1.1, r3.1⟩ : Vec)) fun x5 =>
      some (x5, r3.2.1, 0)
def law07_CodecScalars (b : List UInt8) (at_1 : Int) : Option Bool :=
  Let (law07_small b (([] : List UInt8)) (([] : List Int))) fun r1 =>
  if (!r1) = true then
    Bind (law07_example) fun r2 =>
    some r2
  else
    Bind (codec_ReadInt b at_1) fun r3 =>
    Bind (ref07_ReadInt b at_1) fun r4 =>
    if (cond (cond (r3.1 != r4.1) true (r3.2.1 != r4.2.1)) true (r3.2.2 != r4.2.2)) = true then
      some false
    else
      Bind (codec_ReadBool b at_1) fun r5 =>
      Bind (ref07_ReadBool b at_1) fun r6 =>
      if (cond (cond (r5.1 != r6.1) true (r5.2.1 != r6.2.1)) true (r5.2.2 != r6.2.2)) = true then
        some false
      else
        Bind (codec_ReadVec b at_1) fun r7 =>
        Let (r7.1) fun x8 =>
        Bind (ref07_ReadVec b at_1) fun r9 =>
        Let (r9.1) fun x10 =>
        Bind (if ((cond (cond (Vec.beq x8 x10) (r7.2.1 == r9.2.1) false) (r7.2.2 == r9.2.2) false) == true) = true then law07_example else some default) fun r11 =>
        Let ((cond (cond (cond (Vec.beq x8 x10) (r7.2.1 == r9.2.1) false) (r7.2.2 == r9.2.2) false) r11 false)) fun x12 =>
        some x12
def codec_AppendBool (b : List UInt8) (x_1 : Bool) : Option (List UInt8) :=
  if x_1 = true then
    Bind (codec_extend b ([1] : List UInt8)) fun r1 =>
    some r1
  else
    Bind (codec_extend b ([0] : List UInt8)) fun r2 =>
    some r2
def codec_AppendInts_l1 (values : List Int) (kj1 : List UInt8 → Option (List UInt8)) : Nat → List UInt8 → Int → Option (List UInt8)
  | 0, _, _ => none
  | n + 1, v3, v4 =>
    if (decide (v4 < ((values).length : Int))) = true then
      Chk (0 ≤ v4 ∧ v4 < ((values).length : Int)) <|
      Let ((ix values v4)) fun x6 =>
      Bind (codec_AppendInt v3 x6) fun r7 =>
      Let ((w64 (v4 + 1))) fun x8 =>
      (codec_AppendInts_l1 values kj1 n) r7 x8
    else
      kj1 v3
def codec_AppendInts_j2 (v2 : List UInt8) : Option (List UInt8) :=
  some v2
def codec_AppendInts (b : List UInt8) (values : List Int) : Option (List UInt8) :=
  Bind (codec_AppendInt b ((values).length : Int)) fun r1 =>
  codec_AppendInts_l1 values codec_AppendInts_j2 fuel r1 0
def codec_AppendVec (b : List UInt8) (v_1 : Vec) : Option (List UInt8) :=
  Bind (codec_AppendInt b v_1.X) fun r1 =>
  Bind (codec_AppendInt r1 v_1.Y) fun r2 =>
  some r2
def codec_readLength (b : List UInt8) (at_1 : Int) (limit : Int) : Option (Int × Int × Int) :=
  Bind (codec_ReadInt b at_1) fun r1 =>
  Let ((r1.2.2 != 0)) fun x2 =>
  if x2 = true then
    some (0, 0, r1.2.2)
  else
    Let ((decide (r1.1 < 0))) fun x3 =>
    if x3 = true then
      some (0, 0, 3)
    else
      Let ((decide ((max limit 0) < r1.1))) fun x4 =>
      if x4 = true then
        some (0, 0, 5)
      else
        some (r1.1, r1.2.1, 0)
def codec_ReadInts_l1 (b : List UInt8) (r1 : Int × Int × Int) (kj1 : Int → List Int → Option (List Int × Int × Int)) : Nat → Int → List Int → Int → Option (List Int × Int × Int)
  | 0, _, _, _ => none
  | n + 1, v4, v5, v6 =>
    if (decide (v6 < r1.1)) = true then
      Bind (codec_ReadInt b v4) fun r7 =>
      if (r7.2.2 != 0) = true then
        some (([] : List Int), 0, r7.2.2)
      else
        Chk (((v5).length + (([r7.1] : List Int)).length) * 8 ≤ 140737488355328) <|
        Let (v5 ++ ([r7.1] : List Int)) fun x9 =>
        Let ((w64 (v6 + 1))) fun x10 =>
        (codec_ReadInts_l1 b r1 kj1 n) r7.2.1 x9 x10
    else
      kj1 v4 v5
def codec_ReadInts_j2 (v2 : Int) (v3 : List Int) : Option (List Int × Int × Int) :=
  some (v3, v2, 0)
def codec_ReadInts (b : List UInt8) (at_1 : Int) (limit : Int) : Option (List Int × Int × Int) :=
  Bind (codec_readLength b at_1 limit) fun r1 =>
  if (r1.2.2 != 0) = true then
    some (([] : List Int), 0, r1.2.2)
  else
    codec_ReadInts_l1 b r1 codec_ReadInts_j2 fuel r1.2.1 ([] : List Int) 0
def ref07_Ints_l1 (a : List Int) (b : List Int) (kj1 : Option Bool) : Nat → Int → Option Bool
  | 0, _ => none
  | n + 1, v1 =>
    if (decide (v1 < ((a).length : Int))) = true then
      Chk (0 ≤ v1 ∧ v1 < ((a).length : Int)) <|
      Chk (0 ≤ v1 ∧ v1 < ((b).length : Int)) <|
      if ((ix a v1) != (ix b v1)) = true then
        some false
      else
        Let ((w64 (v1 + 1))) fun x4 =>
        (ref07_Ints_l1 a b kj1 n) x4
    else
      kj1
def ref07_Ints_j2 : Option Bool :=
  some true
def ref07_Ints (a : List Int) (b : List Int) : Option Bool :=
  if (((a).length : Int) != ((b).length : Int)) = true then
    some false
  else
    ref07_Ints_l1 a b ref07_Ints_j2 fuel 0
def law07_CodecRoundTrip (b : List UInt8) (n_1 : Int) (x_2 : Bool) (l : List Int) (more : List UInt8) : Option Bool :=
  Let (law07_small b (([] : List UInt8)) l) fun r1 =>
  if (cond (!r1) true (decide (2000 < ((more).length : Int)))) = true then
    Bind (law07_example) fun r2 =>
    some r2
  else
    Let ((⟨n_1, ((b).length : Int)⟩ : Vec)) fun x3 =>
    Bind (codec_AppendInt b n_1) fun r4 =>
    Chk (((r4).length + (more).length) * 1 ≤ 140737488355328) <|
    Let (r4 ++ more) fun x6 =>
    Bind (codec_AppendBool b x_2) fun r7 =>
    Chk (((r7).length + (more).length) * 1 ≤ 140737488355328) <|
    Let (r7 ++ more) fun x9 =>
    Bind (codec_AppendInts b l) fun r10 =>
    Chk (((r10).length + (more).length) * 1 ≤ 140737488355328) <|
    Let (r10 ++ more) fun x12 =>
    Bind (codec_AppendVec b x3) fun r13 =>
    Chk (((r13).length + (more).length) * 1 ≤ 140737488355328) <|
    Let (r13 ++ more) fun x15 =>
    Bind (codec_ReadInt x6 ((b).length : Int)) fun r16 =>
    Let ((r16.2.1 != (w64 (((x6).length : Int) - ((more).length : Int))))) fun x17 =>
    if (cond (cond (r16.1 != n_1) true x17) true (r16.2.2 != 0)) = true then
      some false
    else
      Bind (codec_ReadBool x9 ((b).length : Int)) fun r18 =>
      if (cond (cond (r18.1 != x_2) true (r18.2.1 != (w64 (((b).length : Int) + 1)))) true (r18.2.2 != 0)) = true then
        some false
      else
        Bind (codec_ReadInts x12 ((b).length : Int) ((l).length : Int)) fun r19 =>
        Bind (ref07_Ints r19.1 l) fun r20 =>
        Let ((r19.2.1 != (w64 (((x12).length : Int) - ((more).length : Int))))) fun x21 =>
        if (cond (cond (!r20) true x21) true (r19.2.2 != 0)) = true then
          some false
        else
          Bind (codec_ReadVec x15 ((b).length : Int)) fun r22 =>
          Let (r22.1) fun x23 =>
          Let ((r22.2.1 == (w64 (((x15).length : Int) - ((more).length : Int))))) fun x24 =>
          Bind (if ((cond (cond (Vec.beq x23 x3) x24 false) (r22.2.2 == 0) false) == true) = true then law07_example else some default) fun r25 =>
          Let ((cond (cond (cond (Vec.beq x23 x3) x24 false) (r22.2.2 == 0) false) r25 false)) fun x26 =>
          some x26
def codec_ReadString (b : List UInt8) (at_1 : Int) (limit : Int) : Option (List UInt8 × Int × Int) :=
  Bind (codec_readLength b at_1 limit) fun r1 =>
  Let ((r1.2.2 != 0)) fun x2 =>
  if x2 = true then
    some (([] : List UInt8), 0, r1.2.2)
  else
    Let ((decide ((w64 (((b).length : Int) - r1.2.1)) < r1.1))) fun x3 =>
    if x3 = true then
      some (([] : List UInt8), 0, 4)
    else
      Chk (0 ≤ r1.2.1 ∧ r1.2.1 ≤ (w64 (r1.2.1 + r1.1)) ∧ (w64 (r1.2.1 + r1.1)) ≤ (b.length : Int)) <|
      Let (((b.drop (r1.2.1).toNat).take (((w64 (r1.2.1 + r1.1))).toNat - (r1.2.1).toNat))) fun x5 =>
      Let ((w64 (r1.2.1 + r1.1))) fun x6 =>
      some (x5, x6, 0)
def codec_AppendString (b : List UInt8) (s : List UInt8) : Option (List UInt8) :=
  Bind (codec_AppendInt b ((s).length : Int)) fun r1 =>
  Bind (codec_extend r1 s) fun r2 =>
  some r2
def law07_CodecUnique (b : List UInt8) (at_1 : Int) : Option Bool :=
  Let (law07_small b (([] : List UInt8)) (([] : List Int))) fun r1 =>
  if (!r1) = true then
    Bind (law07_example) fun r2 =>
    some r2
  else
    Bind (codec_ReadInt b at_1) fun r3 =>
    Chk ((((r3.2.2 == 0) == true) && ((cond (decide (r3.2.1 ≤ at_1)) true (decide (((b).length : Int) < r3.2.1))) == false)) = true → 0 ≤ at_1 ∧ at_1 ≤ (b.length : Int)) <|
    Bind (if (((r3.2.2 == 0) == true) && ((cond (decide (r3.2.1 ≤ at_1)) true (decide (((b).length : Int) < r3.2.1))) == false)) = true then codec_AppendInt (b.take (at_1).toNat) r3.1 else some default) fun r5 =>
    Chk ((((r3.2.2 == 0) == true) && ((cond (decide (r3.2.1 ≤ at_1)) true (decide (((b).length : Int) < r3.2.1))) == false)) = true → 0 ≤ r3.2.1 ∧ r3.2.1 ≤ (b.length : Int)) <|
    if (cond (r3.2.2 == 0) (cond (cond (decide (r3.2.1 ≤ at_1)) true (decide (((b).length : Int) < r3.2.1))) true (r5 != (b.take (r3.2.1).toNat))) false) = true then
      some false
    else
      Bind (codec_ReadString b at_1 (3000)) fun r7 =>
      Chk ((((r7.2.2 == 0) == true) && ((cond (decide (r7.2.1 ≤ at_1)) true (decide (((b).length : Int) < r7.2.1))) == false)) = true → 0 ≤ at_1 ∧ at_1 ≤ (b.length : Int)) <|
      Bind (if (((r7.2.2 == 0) == true) && ((cond (decide (r7.2.1 ≤ at_1)) true (decide (((b).length : Int) < r7.2.1))) == false)) = true then codec_AppendString (b.take (at_1).toNat) r7.1 else some default) fun r9 =>
      Chk ((((r7.2.2 == 0) == true) && ((cond (decide (r7.2.1 ≤ at_1)) true (decide (((b).length : Int) < r7.2.1))) == false)) = true → 0 ≤ r7.2.1 ∧ r7.2.1 ≤ (b.length : Int)) <|
      if (cond (r7.2.2 == 0) (cond (cond (decide (r7.2.1 ≤ at_1)) true (decide (((b).length : Int) < r7.2.1))) true (r9 != (b.take (r7.2.1).toNat))) false) = true then
        some false
      else
        Bind (codec_ReadInts b at_1 (3000)) fun r11 =>
        Chk ((((r11.2.2 == 0) == true) && ((cond (decide (r11.2.1 ≤ at_1)) true (decide (((b).length : Int) < r11.2.1))) == false)) = true → 0 ≤ at_1 ∧ at_1 ≤ (b.length : Int)) <|
        Bind (if (((r11.2.2 == 0) == true) && ((cond (decide (r11.2.1 ≤ at_1)) true (decide (((b).length : Int) < r11.2.1))) == false)) = true then codec_AppendInts (b.take (at_1).toNat) r11.1 else some default) fun r13 =>
        Chk ((((r11.2.2 == 0) == true) && ((cond (decide (r11.2.1 ≤ at_1)) true (decide (((b).length : Int) < r11.2.1))) == false)) = true → 0 ≤ r11.2.1 ∧ r11.2.1 ≤ (b.length : Int)) <|
        if (cond (r11.2.2 == 0) (cond (cond (decide (r11.2.1 ≤ at_1)) true (decide (((b).length : Int) < r11.2.1))) true (r13 != (b.take (r11.2.1).toNat))) false) = true then
          some false
        else
          Bind (law07_example) fun r15 =>
          some r15
def ref07_length (b : List UInt8) (at_1 : Int) (most : Int) : Option (Int × Int × Int) :=
  Bind (ref07_ReadInt b at_1) fun r1 =>
  if (r1.2.2 != 0) = true then
    some (0, 0, r1.2.2)
  else
    if (decide (r1.1 < 0)) = true then
      some (0, 0, 3)
    else
      if (decide ((max most 0) < r1.1)) = true then
        some (0, 0, 5)
      else
        some (r1.1, r1.2.1, 0)
def ref07_ReadInts_l1 (b : List UInt8) (r1 : Int × Int × Int) (kj1 : Int → List Int → Option (List Int × Int × Int)) : Nat → Int → List Int → Int → Option (List Int × Int × Int)
  | 0, _, _, _ => none
  | n + 1, v4, v5, v6 =>
    if (decide (v6 < r1.1)) = true then
      Bind (ref07_ReadInt b v4) fun r7 =>
      if (r7.2.2 != 0) = true then
        some (([] : List Int), 0, r7.2.2)
      else
        Chk (((v5).length + (([r7.1] : List Int)).length) * 8 ≤ 140737488355328) <|
        Let (v5 ++ ([r7.1] : List Int)) fun x9 =>
        Let ((w64 (v6 + 1))) fun x10 =>
        (ref07_ReadInts_l1 b r1 kj1 n) r7.2.1 x9 x10
    else
      kj1 v4 v5
def ref07_ReadInts_j2 (v2 : Int) (v3 : List Int) : Option (List Int × Int × Int) :=
  some (v3, v2, 0)
def ref07_ReadInts (b : List UInt8) (at_1 : Int) (most : Int) : Option (List Int × Int × Int) :=
  Bind (ref07_length b at_1 most) fun r1 =>
  if (r1.2.2 != 0) = true then
    some (([] : List Int), 0, r1.2.2)
  else
    ref07_ReadInts_l1 b r1 ref07_ReadInts_j2 fuel r1.2.1 ([] : List Int) 0
def ref07_abs (n_0 : Int) : Int :=
  if (decide (n_0 < 0)) = true then
    Let ((IntKind.u64.wrap ((IntKind.u64.wrap ((w64 (0 - (w64 (n_0 + 1)))))) + 1))) fun x1 =>
    x1
  else
    Let ((IntKind.u64.wrap (n_0))) fun x2 =>
    x2
def ref07_AppendInt_l1 (kj1 : List UInt8 → Option (List UInt8)) : Nat → List UInt8 → Int → Option (List UInt8)
  | 0, _, _ => none
  | n + 1, v3, v4 =>
    if (decide (0 < v4)) = true then
      Chk (((([(toByte (Int.tmod v4 256))] : List UInt8)).length + (v3).length) * 1 ≤ 140737488355328) <|
      Let (([(toByte (Int.tmod v4 256))] : List UInt8) ++ v3) fun x6 =>
      Let ((IntKind.u64.wrap (Int.tdiv v4 256))) fun x7 =>
      (ref07_AppendInt_l1 kj1 n) x6 x7
    else
      kj1 v3
def ref07_AppendInt_j2 (b : List UInt8) (v1 : List UInt8) (v9 : UInt8) : Option (List UInt8) :=
  Chk (((([] : List UInt8)).length + (b).length) * 1 ≤ 140737488355328) <|
  Let (([] : List UInt8) ++ b) fun x12 =>
  Chk (((x12).length + (([v9] : List UInt8)).length) * 1 ≤ 140737488355328) <|
  Let (x12 ++ ([v9] : List UInt8)) fun x14 =>
  Chk (((x14).length + (v1).length) * 1 ≤ 140737488355328) <|
  Let (x14 ++ v1) fun x16 =>
  some x16
def ref07_AppendInt_j3 (b : List UInt8) (n_1 : Int) (v1 : List UInt8) : Option (List UInt8) :=
  Let ((toByte ((v1).length : Int))) fun x8 =>
  if (decide (n_1 < 0)) = true then
    Let ((x8 + 16)) fun x10 =>
    (ref07_AppendInt_j2 b v1) x10
  else
    (ref07_AppendInt_j2 b v1) x8
def ref07_AppendInt (b : List UInt8) (n_1 : Int) : Option (List UInt8) :=
  Let (ref07_abs n_1) fun r2 =>
  ref07_AppendInt_l1 (ref07_AppendInt_j3 b n_1) fuel ([] : List UInt8) r2
def ref07_AppendInts_l1 (l : List Int) (kj1 : List UInt8 → Option (List UInt8)) : Nat → List UInt8 → Int → Option (List UInt8)
  | 0, _, _ => none
  | n + 1, v3, v4 =>
    if (decide (v4 < ((l).length : Int))) = true then
      Chk (0 ≤ v4 ∧ v4 < ((l).length : Int)) <|
      Bind (ref07_AppendInt (([] : List UInt8)) (ix l v4)) fun r6 =>
      Chk (((v3).length + (r6).length) * 1 ≤ 140737488355328) <|
      Let (v3 ++ r6) fun x8 =>
      Let ((w64 (v4 + 1))) fun x9 =>
      (ref07_AppendInts_l1 l kj1 n) x8 x9
    else
      kj1 v3
def ref07_AppendInts_j2 (v2 : List UInt8) : Option (List UInt8) :=
  some v2
def ref07_AppendInts (b : List UInt8) (l : List Int) : Option (List UInt8) :=
  Bind (ref07_AppendInt b ((l).length : Int)) fun r1 =>
  ref07_AppendInts_l1 l ref07_AppendInts_j2 fuel r1 0
def law07_CodecSlices (b : List UInt8) (at_1 : Int) (most : Int) (l : List Int) : Option Bool :=
  Let (law07_small b (([] : List UInt8)) l) fun r1 =>
  if (!r1) = true then
    Bind (law07_example) fun r2 =>
    some r2
  else
    Bind (codec_ReadInts b at_1 most) fun r3 =>
    Bind (ref07_ReadInts b at_1 most) fun r4 =>
    Bind (ref07_Ints r3.1 r4.1) fun r5 =>
    Bind (if ((cond (cond r5 (r3.2.1 == r4.2.1) false) (r3.2.2 == r4.2.2) false) == true) = true then codec_AppendInts b l else some default) fun r6 =>
    Bind (if ((cond (cond r5 (r3.2.1 == r4.2.1) false) (r3.2.2 == r4.2.2) false) == true) = true then ref07_AppendInts b l else some default) fun r7 =>
    Bind (if ((cond (cond (cond r5 (r3.2.1 == r4.2.1) false) (r3.2.2 == r4.2.2) false) (r6 == r7) false) == true) = true then law07_example else some default) fun r8 =>
    Let ((cond (cond (cond (cond r5 (r3.2.1 == r4.2.1) false) (r3.2.2 == r4.2.2) false) (r6 == r7) false) r8 false)) fun x9 =>
    some x9
def ref07_ReadString (b : List UInt8) (at_1 : Int) (most : Int) : Option (List UInt8 × Int × Int) :=
  Bind (ref07_length b at_1 most) fun r1 =>
  if (r1.2.2 != 0) = true then
    some (([] : List UInt8), 0, r1.2.2)
  else
    if (decide ((w64 (((b).length : Int) - r1.2.1)) < r1.1)) = true then
      some (([] : List UInt8), 0, 4)
    else
      Chk (0 ≤ r1.2.1 ∧ r1.2.1 ≤ (w64 (r1.2.1 + r1.1)) ∧ (w64 (r1.2.1 + r1.1)) ≤ (b.length : Int)) <|
      Let (((b.drop (r1.2.1).toNat).take (((w64 (r1.2.1 + r1.1))).toNat - (r1.2.1).toNat))) fun x3 =>
      Let ((w64 (r1.2.1 + r1.1))) fun x4 =>
      some (x3, x4, 0)
end GoOld
