/- The functions' plain forms. Printed by go3.py. No conditions. -/
import Derived.Test.YtnjcfajaigokdaaF07T
set_option linter.all false
set_option maxRecDepth 100000
open Go Go.Rx Go.Proofs Go.RowKit
namespace GoForm

noncomputable def caromlaw07_small (b0 : (List UInt8)) (s1 : (List UInt8)) (l2 : (List Int)) : Option Bool :=
  Let (↑b0.length : Int) fun (x1 : Int) =>
  Let (decide (x1 ≤ (2000 : Int))) fun (x2 : Bool) =>
  Let (↑s1.length : Int) fun (x3 : Int) =>
  Let (decide (x3 ≤ (500 : Int))) fun (x4 : Bool) =>
  Let (bif x2 then x4 else false) fun (x5 : Bool) =>
  Let (↑l2.length : Int) fun (x6 : Int) =>
  Let (decide (x6 ≤ (100 : Int))) fun (x7 : Bool) => Let (bif x5 then x7 else false) fun (x8 : Bool) => some x8

noncomputable def codec_readByte (b0 : (List UInt8)) (at1 : Int) : Option (UInt8 × Int) :=
  Let (decide (at1 < (0 : Int))) fun (x9 : Bool) =>
  Let (↑b0.length : Int) fun (x10 : Int) =>
  Let (decide (at1 > x10)) fun (x11 : Bool) =>
  Let (bif x9 then true else x11) fun (x12 : Bool) =>
  if x12 = true then some (toByte (0 : Int), (2 : Int))
  else
  Let (↑b0.length : Int) fun (x13 : Int) =>
  Let (at1 == x13) fun (x14 : Bool) =>
  if x14 = true then some (toByte (0 : Int), (4 : Int))
  else Chk ((0 : Int) ≤ at1 ∧ at1 < (↑b0.length : Int)) (Let (ix b0 at1) fun (x15 : UInt8) => some (x15, (0 : Int)))

noncomputable def codec_magnitude (n0 : Int) : Option Int :=
  Let (decide (n0 < (0 : Int))) fun (x16 : Bool) =>
  if x16 = true then
  Let (IntKind.u64.wrap n0) fun (x17 : Int) => Let (IntKind.u64.wrap ((0 : Int) - x17)) fun (x18 : Int) => some x18
  else Let (IntKind.u64.wrap n0) fun (x19 : Int) => some x19

noncomputable def codec_ReadInt (b0 : (List UInt8)) (at1 : Int) : Option (Int × Int × Int) :=
  Rx.Bind (codec_readByte b0 at1) fun (r20 : UInt8 × Int) =>
  Let (r20.snd != (0 : Int)) fun (x21 : Bool) =>
  if x21 = true then some ((0 : Int), (0 : Int), r20.snd)
  else
  Let (↑(UInt8.toNat r20.fst) : Int) fun (x22 : Int) =>
  Let (decide (toByte (16 : Int) < r20.fst)) fun (x23 : Bool) =>
  Join
  (fun (v24 : Int) =>
  Let (decide (v24 > (8 : Int))) fun (x25 : Bool) =>
  if x25 = true then some ((0 : Int), (0 : Int), (3 : Int))
  else
  Let (IntKind.i64.wrap (at1 + (1 : Int))) fun (x26 : Int) =>
  Chk ((0 : Int) ≤ x26 ∧ x26 ≤ (↑b0.length : Int))
  (Let (List.drop x26.toNat b0) fun (x27 : List UInt8) =>
  Let (↑x27.length : Int) fun (x28 : Int) =>
  Let (decide (x28 < v24)) fun (x29 : Bool) =>
  if x29 = true then some ((0 : Int), (0 : Int), (4 : Int))
  else
  Chk ((0 : Int) ≤ v24 ∧ v24 ≤ (↑x27.length : Int))
  (Let (List.take v24.toNat x27) fun (x30 : List UInt8) =>
  Let (↑x30.length : Int) fun (x31 : Int) =>
  LOOP
  (fun (rec32 : Int × Int → Option (Int × Int × Int)) (s33 : Int × Int) =>
  Let (decide (s33.snd < x31)) fun (x34 : Bool) =>
  if x34 = true then
  Chk ((0 : Int) ≤ s33.snd ∧ s33.snd < (↑x30.length : Int))
  (Let (ix x30 s33.snd) fun (x35 : UInt8) =>
  Let (bShl IntKind.u64 s33.fst (8 : Int)) fun (x36 : Int) =>
  Let (↑x35.toNat : Int) fun (x37 : Int) =>
  Let (bOr IntKind.u64 x36 x37) fun (x38 : Int) =>
  Let (IntKind.i64.wrap (s33.snd + (1 : Int))) fun (x39 : Int) => rec32 (x38, x39))
  else
  Let (IntKind.i64.wrap s33.fst) fun (x40 : Int) =>
  Join
  (fun (v41 : Int) =>
  Let (decide (v24 > (0 : Int))) fun (x42 : Bool) =>
  Chk ((x42 == true) = true → (0 : Int) ≤ (0 : Int) ∧ (0 : Int) < (↑x27.length : Int))
  (Let (ix x27 (0 : Int)) fun (x43 : UInt8) =>
  Let (x43 == toByte (0 : Int)) fun (x44 : Bool) =>
  Let (bif x42 then x44 else false) fun (x45 : Bool) =>
  Rx.Bind (if (x45 == false) = true then codec_magnitude v41 else some default) fun (r46 : Int) =>
  Let (r46 != s33.fst) fun (x47 : Bool) =>
  Let (bif x45 then true else x47) fun (x48 : Bool) =>
  Let (decide (v41 < (0 : Int))) fun (x49 : Bool) =>
  Let (x49 != x23) fun (x50 : Bool) =>
  Let (bif x48 then true else x50) fun (x51 : Bool) =>
  if x51 = true then some ((0 : Int), (0 : Int), (3 : Int))
  else
  Let (IntKind.i64.wrap (at1 + (1 : Int))) fun (x52 : Int) =>
  Let (IntKind.i64.wrap (x52 + v24)) fun (x53 : Int) => some (v41, x53, (0 : Int))))
  fun (j54 : Int → Option (Int × Int × Int)) =>
  if x23 = true then Let (IntKind.i64.wrap ((0 : Int) - x40)) fun (x55 : Int) => j54 x55 else j54 x40)
  fuel ((0 : Int), (0 : Int)))))
  fun (j56 : Int → Option (Int × Int × Int)) =>
  if x23 = true then Let (IntKind.i64.wrap (x22 - (16 : Int))) fun (x57 : Int) => j56 x57 else j56 x22

noncomputable def codec_extend (b0 : (List UInt8)) (more1 : (List UInt8)) : Option (List UInt8) :=
  Let (↑b0.length : Int) fun (x58 : Int) =>
  Let (↑b0.length : Int) fun (x59 : Int) =>
  Chk ((0 : Int) ≤ x58 ∧ x58 ≤ (↑b0.length : Int) ∧ x59 = x58)
  (Let (List.take x58.toNat b0) fun (x60 : List UInt8) =>
  Chk ((x60.length + more1.length) * (1 : Nat) ≤ (140737488355328 : Nat))
  (Let (x60 ++ more1) fun (x61 : List UInt8) => some x61))

noncomputable def codec_AppendInt (b0 : (List UInt8)) (n1 : Int) : Option (List UInt8) :=
  Rx.Bind (codec_magnitude n1) fun (r62 : Int) =>
  LOOP
  (fun (rec63 : List UInt8 × Int → Option (List UInt8)) (s64 : List UInt8 × Int) =>
  Let (decide (s64.snd > (0 : Int))) fun (x65 : Bool) =>
  if x65 = true then
  Let (toByte s64.snd) fun (x66 : UInt8) =>
  Chk (([x66].length + List.length s64.fst) * (1 : Nat) ≤ (140737488355328 : Nat))
  (Let ([x66] ++ s64.fst) fun (x67 : List UInt8) =>
  Let (bShr IntKind.u64 s64.snd (8 : Int)) fun (x68 : Int) => rec63 (x67, x68))
  else
  Let (↑(List.length s64.fst) : Int) fun (x69 : Int) =>
  Join
  (fun (v70 : Int) =>
  Let (toByte v70) fun (x71 : UInt8) =>
  Rx.Bind (codec_extend b0 [x71]) fun (r72 : List UInt8) =>
  Rx.Bind (codec_extend r72 s64.fst) fun (r73 : List UInt8) => some r73)
  fun (j74 : Int → Option (List UInt8)) =>
  Let (decide (n1 < (0 : Int))) fun (x75 : Bool) =>
  if x75 = true then Let (IntKind.i64.wrap (x69 + (16 : Int))) fun (x76 : Int) => j74 x76 else j74 x69)
  fuel ([], r62)

noncomputable def caromlaw07_example  : Option Bool :=
  Rx.Bind (codec_ReadInt [toByte (9 : Int), toByte (17 : Int), toByte (1 : Int)] (1 : Int)) fun (r77 : Int × Int × Int) =>
  Rx.Bind (codec_ReadInt [toByte (1 : Int), toByte (0 : Int)] (0 : Int)) fun (r78 : Int × Int × Int) =>
  Rx.Bind (codec_AppendInt [] (258 : Int)) fun (r79 : List UInt8) =>
  Let (r79 == #[(2 : UInt8), (1 : UInt8), (2 : UInt8)].toList) fun (x80 : Bool) =>
  Rx.Bind (if (x80 == true) = true then codec_AppendInt [toByte (5 : Int)] (-1 : Int) else some default)
  fun (r81 : List UInt8) =>
  Let (r81 == #[(5 : UInt8), (17 : UInt8), (1 : UInt8)].toList) fun (x82 : Bool) =>
  Let (bif x80 then x82 else false) fun (x83 : Bool) =>
  Rx.Bind (if (x83 == true) = true then codec_AppendInt [] (0 : Int) else some default) fun (r84 : List UInt8) =>
  Let (r84 == #[(0 : UInt8)].toList) fun (x85 : Bool) =>
  Let (bif x83 then x85 else false) fun (x86 : Bool) =>
  Let (r77.fst == (-1 : Int)) fun (x87 : Bool) =>
  Let (bif x86 then x87 else false) fun (x88 : Bool) =>
  Let (r77.snd.fst == (3 : Int)) fun (x89 : Bool) =>
  Let (bif x88 then x89 else false) fun (x90 : Bool) =>
  Let (r77.snd.snd == (0 : Int)) fun (x91 : Bool) =>
  Let (bif x90 then x91 else false) fun (x92 : Bool) =>
  Let (r78.snd.snd == (3 : Int)) fun (x93 : Bool) => Let (bif x92 then x93 else false) fun (x94 : Bool) => some x94

noncomputable def codec_AppendString (b0 : (List UInt8)) (s1 : (List UInt8)) : Option (List UInt8) :=
  Let (↑s1.length : Int) fun (x95 : Int) =>
  Rx.Bind (codec_AppendInt b0 x95) fun (r96 : List UInt8) =>
  Rx.Bind (codec_extend r96 s1) fun (r97 : List UInt8) => some r97

noncomputable def codec_AppendBool (b0 : (List UInt8)) (x1 : Bool) : Option (List UInt8) :=
  if x1 = true then Rx.Bind (codec_extend b0 [toByte (1 : Int)]) fun (r98 : List UInt8) => some r98
  else Rx.Bind (codec_extend b0 [toByte (0 : Int)]) fun (r99 : List UInt8) => some r99

noncomputable def codec_AppendInts (b0 : (List UInt8)) (values1 : (List Int)) : Option (List UInt8) :=
  Let (↑values1.length : Int) fun (x100 : Int) =>
  Rx.Bind (codec_AppendInt b0 x100) fun (r101 : List UInt8) =>
  Let (↑values1.length : Int) fun (x102 : Int) =>
  LOOP
  (fun (rec103 : List UInt8 × Int → Option (List UInt8)) (s104 : List UInt8 × Int) =>
  Let (decide (s104.snd < x102)) fun (x105 : Bool) =>
  if x105 = true then
  Chk ((0 : Int) ≤ s104.snd ∧ s104.snd < (↑values1.length : Int))
  (Let (ix values1 s104.snd) fun (x106 : Int) =>
  Rx.Bind (codec_AppendInt s104.fst x106) fun (r107 : List UInt8) =>
  Let (IntKind.i64.wrap (s104.snd + (1 : Int))) fun (x108 : Int) => rec103 (r107, x108))
  else some s104.fst)
  fuel (r101, (0 : Int))

noncomputable def codec_AppendVec (b0 : (List UInt8)) (v1 : Vec) : Option (List UInt8) :=
  Rx.Bind (codec_AppendInt b0 v1.X) fun (r109 : List UInt8) =>
  Rx.Bind (codec_AppendInt r109 v1.Y) fun (r110 : List UInt8) => some r110

noncomputable def caromlaw07_CodecCapacity (b0 : (List UInt8)) (cut1 : Int) (n2 : Int) : Option Bool :=
  Rx.Bind (caromlaw07_small b0 #[].toList []) fun (r111 : Bool) =>
  Let (!r111) fun (x112 : Bool) =>
  if x112 = true then Rx.Bind caromlaw07_example fun (r113 : Bool) => some r113
  else
  Let (IntKind.i64.wrap cut1) fun (x114 : Int) =>
  Let (↑b0.length : Int) fun (x115 : Int) =>
  Let (IntKind.i64.wrap (x115 + (1 : Int))) fun (x116 : Int) =>
  Chk (x116 ≠ (0 : Int))
  (Let (x114.tmod x116) fun (x117 : Int) =>
  Chk ((0 : Int) ≤ x117 ∧ x117 ≤ (↑b0.length : Int))
  (Let (List.take x117.toNat b0) fun (x118 : List UInt8) =>
  Rx.Bind (codec_AppendInt x118 n2) fun (r119 : List UInt8) =>
  Chk ((0 : Int) ≤ x117 ∧ x117 ≤ (↑b0.length : Int))
  (Let (List.take x117.toNat b0) fun (x120 : List UInt8) =>
  Rx.Bind (codec_AppendString x120 #[(97 : UInt8), (98 : UInt8), (99 : UInt8)].toList) fun (r121 : List UInt8) =>
  Chk ((0 : Int) ≤ x117 ∧ x117 ≤ (↑b0.length : Int))
  (Let (List.take x117.toNat b0) fun (x122 : List UInt8) =>
  Rx.Bind (codec_AppendBool x122 true) fun (r123 : List UInt8) =>
  Chk ((0 : Int) ≤ x117 ∧ x117 ≤ (↑b0.length : Int))
  (Let (List.take x117.toNat b0) fun (x124 : List UInt8) =>
  Rx.Bind (codec_AppendInts x124 [n2, n2]) fun (r125 : List UInt8) =>
  Chk ((0 : Int) ≤ x117 ∧ x117 ≤ (↑b0.length : Int))
  (Let (List.take x117.toNat b0) fun (x126 : List UInt8) =>
  Rx.Bind (codec_AppendVec x126 { X := n2, Y := (1 : Int) : Vec }) fun (r127 : List UInt8) =>
  Let (b0 != b0) fun (x128 : Bool) =>
  Let (↑r119.length : Int) fun (x129 : Int) =>
  Let (decide (x129 ≤ x117)) fun (x130 : Bool) =>
  Let (bif x128 then true else x130) fun (x131 : Bool) =>
  Chk ((x131 == false) = true → (0 : Int) ≤ x117 ∧ x117 ≤ (↑r121.length : Int))
  (Let (List.take x117.toNat r121) fun (x132 : List UInt8) =>
  Chk ((x131 == false) = true → (0 : Int) ≤ x117 ∧ x117 ≤ (↑b0.length : Int))
  (Let (List.take x117.toNat b0) fun (x133 : List UInt8) =>
  Let (x132 != x133) fun (x134 : Bool) =>
  Let (bif x131 then true else x134) fun (x135 : Bool) => if x135 = true then some false else none))))))))

noncomputable def caromref07_ReadInt (b0 : (List UInt8)) (at1 : Int) : Option (Int × Int × Int) :=
  Let (decide (at1 < (0 : Int))) fun (x136 : Bool) =>
  Let (↑b0.length : Int) fun (x137 : Int) =>
  Let (decide (at1 > x137)) fun (x138 : Bool) =>
  Let (bif x136 then true else x138) fun (x139 : Bool) =>
  if x139 = true then some ((0 : Int), (0 : Int), (2 : Int))
  else
  Let (↑b0.length : Int) fun (x140 : Int) =>
  Let (at1 == x140) fun (x141 : Bool) =>
  if x141 = true then some ((0 : Int), (0 : Int), (4 : Int))
  else
  Chk ((0 : Int) ≤ at1 ∧ at1 < (↑b0.length : Int))
  (Let (ix b0 at1) fun (x142 : UInt8) =>
  Let (↑x142.toNat : Int) fun (x143 : Int) =>
  Let (decide (x143 ≥ (16 : Int))) fun (x144 : Bool) =>
  Join
  (fun (v145 : Int) =>
  Let (decide (v145 > (8 : Int))) fun (x146 : Bool) =>
  Let (decide (v145 < (0 : Int))) fun (x147 : Bool) =>
  Let (bif x146 then true else x147) fun (x148 : Bool) =>
  Let (v145 == (0 : Int)) fun (x149 : Bool) =>
  Let (bif x144 then x149 else false) fun (x150 : Bool) =>
  Let (bif x148 then true else x150) fun (x151 : Bool) =>
  if x151 = true then some ((0 : Int), (0 : Int), (3 : Int))
  else
  Let (↑b0.length : Int) fun (x152 : Int) =>
  Let (IntKind.i64.wrap (x152 - at1)) fun (x153 : Int) =>
  Let (IntKind.i64.wrap (x153 - (1 : Int))) fun (x154 : Int) =>
  Let (decide (x154 < v145)) fun (x155 : Bool) =>
  if x155 = true then some ((0 : Int), (0 : Int), (4 : Int))
  else
  LOOP
  (fun (rec156 : Int × Int → Option (Int × Int × Int)) (s157 : Int × Int) =>
  Let (decide (s157.snd ≤ v145)) fun (x158 : Bool) =>
  if x158 = true then
  Let (IntKind.u64.wrap (s157.fst * (256 : Int))) fun (x159 : Int) =>
  Let (IntKind.i64.wrap (at1 + s157.snd)) fun (x160 : Int) =>
  Chk ((0 : Int) ≤ x160 ∧ x160 < (↑b0.length : Int))
  (Let (ix b0 x160) fun (x161 : UInt8) =>
  Let (↑x161.toNat : Int) fun (x162 : Int) =>
  Let (IntKind.u64.wrap (x159 + x162)) fun (x163 : Int) =>
  Let (IntKind.i64.wrap (s157.snd + (1 : Int))) fun (x164 : Int) => rec156 (x163, x164))
  else
  Let (decide (v145 > (0 : Int))) fun (x165 : Bool) =>
  Let (IntKind.i64.wrap (at1 + (1 : Int))) fun (x166 : Int) =>
  Chk ((x165 == true) = true → (0 : Int) ≤ x166 ∧ x166 < (↑b0.length : Int))
  (Let (ix b0 x166) fun (x167 : UInt8) =>
  Let (x167 == toByte (0 : Int)) fun (x168 : Bool) =>
  Let (bif x165 then x168 else false) fun (x169 : Bool) =>
  Let (!x144) fun (x170 : Bool) =>
  Let (decide (s157.fst > (9223372036854775807 : Int))) fun (x171 : Bool) =>
  Let (bif x170 then x171 else false) fun (x172 : Bool) =>
  Let (bif x169 then true else x172) fun (x173 : Bool) =>
  Let (decide (s157.fst > (9223372036854775808 : Int))) fun (x174 : Bool) =>
  Let (bif x144 then x174 else false) fun (x175 : Bool) =>
  Let (bif x173 then true else x175) fun (x176 : Bool) =>
  if x176 = true then some ((0 : Int), (0 : Int), (3 : Int))
  else
  if x144 = true then
  Let (IntKind.u64.wrap (s157.fst - (1 : Int))) fun (x177 : Int) =>
  Let (IntKind.i64.wrap x177) fun (x178 : Int) =>
  Let (IntKind.i64.wrap ((0 : Int) - x178)) fun (x179 : Int) =>
  Let (IntKind.i64.wrap (x179 - (1 : Int))) fun (x180 : Int) =>
  Let (IntKind.i64.wrap (at1 + (1 : Int))) fun (x181 : Int) =>
  Let (IntKind.i64.wrap (x181 + v145)) fun (x182 : Int) => some (x180, x182, (0 : Int))
  else
  Let (IntKind.i64.wrap s157.fst) fun (x183 : Int) =>
  Let (IntKind.i64.wrap (at1 + (1 : Int))) fun (x184 : Int) =>
  Let (IntKind.i64.wrap (x184 + v145)) fun (x185 : Int) => some (x183, x185, (0 : Int))))
  fuel ((0 : Int), (1 : Int)))
  fun (j186 : Int → Option (Int × Int × Int)) =>
  if x144 = true then Let (IntKind.i64.wrap (x143 - (16 : Int))) fun (x187 : Int) => j186 x187 else j186 x143)

noncomputable def codec_ReadBool (b0 : (List UInt8)) (at1 : Int) : Option (Bool × Int × Int) :=
  Rx.Bind (codec_readByte b0 at1) fun (r188 : UInt8 × Int) =>
  Let (r188.snd != (0 : Int)) fun (x189 : Bool) =>
  if x189 = true then some (false, (0 : Int), r188.snd)
  else
  Let (decide (toByte (1 : Int) < r188.fst)) fun (x190 : Bool) =>
  if x190 = true then some (false, (0 : Int), (3 : Int))
  else
  Let (r188.fst == toByte (1 : Int)) fun (x191 : Bool) =>
  Let (IntKind.i64.wrap (at1 + (1 : Int))) fun (x192 : Int) => some (x191, x192, (0 : Int))

noncomputable def caromref07_ReadBool (b0 : (List UInt8)) (at1 : Int) : Option (Bool × Int × Int) :=
  Let (decide (at1 < (0 : Int))) fun (x193 : Bool) =>
  Let (↑b0.length : Int) fun (x194 : Int) =>
  Let (decide (at1 > x194)) fun (x195 : Bool) =>
  Let (bif x193 then true else x195) fun (x196 : Bool) =>
  if x196 = true then some (false, (0 : Int), (2 : Int))
  else
  Let (↑b0.length : Int) fun (x197 : Int) =>
  Let (at1 == x197) fun (x198 : Bool) =>
  if x198 = true then some (false, (0 : Int), (4 : Int))
  else
  Chk ((0 : Int) ≤ at1 ∧ at1 < (↑b0.length : Int))
  (Let (ix b0 at1) fun (x199 : UInt8) =>
  Let (decide (toByte (1 : Int) < x199)) fun (x200 : Bool) =>
  if x200 = true then some (false, (0 : Int), (3 : Int))
  else
  Chk ((0 : Int) ≤ at1 ∧ at1 < (↑b0.length : Int))
  (Let (ix b0 at1) fun (x201 : UInt8) =>
  Let (x201 == toByte (1 : Int)) fun (x202 : Bool) =>
  Let (IntKind.i64.wrap (at1 + (1 : Int))) fun (x203 : Int) => some (x202, x203, (0 : Int))))

noncomputable def codec_ReadVec (b0 : (List UInt8)) (at1 : Int) : Option (Vec × Int × Int) :=
  Rx.Bind (codec_ReadInt b0 at1) fun (r204 : Int × Int × Int) =>
  Let (r204.snd.snd != (0 : Int)) fun (x205 : Bool) =>
  if x205 = true then some ({ X := (0 : Int), Y := (0 : Int) : Vec }, (0 : Int), r204.snd.snd)
  else
  Rx.Bind (codec_ReadInt b0 r204.snd.fst) fun (r206 : Int × Int × Int) =>
  Let (r206.snd.snd != (0 : Int)) fun (x207 : Bool) =>
  if x207 = true then some ({ X := (0 : Int), Y := (0 : Int) : Vec }, (0 : Int), r206.snd.snd)
  else some ({ X := r204.fst, Y := r206.fst : Vec }, r206.snd.fst, (0 : Int))

noncomputable def caromref07_ReadVec (b0 : (List UInt8)) (at1 : Int) : Option (Vec × Int × Int) :=
  Rx.Bind (caromref07_ReadInt b0 at1) fun (r208 : Int × Int × Int) =>
  Let (r208.snd.snd != (0 : Int)) fun (x209 : Bool) =>
  if x209 = true then some ({ X := (0 : Int), Y := (0 : Int) : Vec }, (0 : Int), r208.snd.snd)
  else
  Rx.Bind (caromref07_ReadInt b0 r208.snd.fst) fun (r210 : Int × Int × Int) =>
  Let (r210.snd.snd != (0 : Int)) fun (x211 : Bool) =>
  if x211 = true then some ({ X := (0 : Int), Y := (0 : Int) : Vec }, (0 : Int), r210.snd.snd)
  else some ({ X := r208.fst, Y := r210.fst : Vec }, r210.snd.fst, (0 : Int))

noncomputable def caromlaw07_CodecScalars (b0 : (List UInt8)) (at1 : Int) : Option Bool :=
  Rx.Bind (caromlaw07_small b0 #[].toList []) fun (r212 : Bool) =>
  Let (!r212) fun (x213 : Bool) =>
  if x213 = true then Rx.Bind caromlaw07_example fun (r214 : Bool) => some r214
  else
  Rx.Bind (codec_ReadInt b0 at1) fun (r215 : Int × Int × Int) =>
  Rx.Bind (caromref07_ReadInt b0 at1) fun (r216 : Int × Int × Int) =>
  Let (r215.fst != r216.fst) fun (x217 : Bool) =>
  Let (r215.snd.fst != r216.snd.fst) fun (x218 : Bool) =>
  Let (bif x217 then true else x218) fun (x219 : Bool) =>
  Let (r215.snd.snd != r216.snd.snd) fun (x220 : Bool) =>
  Let (bif x219 then true else x220) fun (x221 : Bool) =>
  if x221 = true then some false
  else
  Rx.Bind (codec_ReadBool b0 at1) fun (r222 : Bool × Int × Int) =>
  Rx.Bind (caromref07_ReadBool b0 at1) fun (r223 : Bool × Int × Int) =>
  Let (r222.fst != r223.fst) fun (x224 : Bool) =>
  Let (r222.snd.fst != r223.snd.fst) fun (x225 : Bool) =>
  Let (bif x224 then true else x225) fun (x226 : Bool) =>
  Let (r222.snd.snd != r223.snd.snd) fun (x227 : Bool) =>
  Let (bif x226 then true else x227) fun (x228 : Bool) =>
  if x228 = true then some false
  else
  Rx.Bind (codec_ReadVec b0 at1) fun (r229 : Vec × Int × Int) =>
  Rx.Bind (caromref07_ReadVec b0 at1) fun (r230 : Vec × Int × Int) =>
  Let (decide (r229.fst.X = r230.fst.X) && decide (r229.fst.Y = r230.fst.Y)) fun (x231 : Bool) =>
  Let (r229.snd.fst == r230.snd.fst) fun (x232 : Bool) =>
  Let (bif x231 then x232 else false) fun (x233 : Bool) =>
  Let (r229.snd.snd == r230.snd.snd) fun (x234 : Bool) =>
  Let (bif x233 then x234 else false) fun (x235 : Bool) =>
  Rx.Bind (if (x235 == true) = true then caromlaw07_example else some default) fun (r236 : Bool) =>
  Let (bif x235 then r236 else false) fun (x237 : Bool) => some x237

noncomputable def codec_readLength (b0 : (List UInt8)) (at1 : Int) (limit2 : Int) : Option (Int × Int × Int) :=
  Rx.Bind (codec_ReadInt b0 at1) fun (r238 : Int × Int × Int) =>
  Let (r238.snd.snd != (0 : Int)) fun (x239 : Bool) =>
  if x239 = true then some ((0 : Int), (0 : Int), r238.snd.snd)
  else
  Let (decide (r238.fst < (0 : Int))) fun (x240 : Bool) =>
  if x240 = true then some ((0 : Int), (0 : Int), (3 : Int))
  else
  Let (max limit2 (0 : Int)) fun (x241 : Int) =>
  Let (decide (r238.fst > x241)) fun (x242 : Bool) =>
  if x242 = true then some ((0 : Int), (0 : Int), (5 : Int)) else some (r238.fst, r238.snd.fst, (0 : Int))

noncomputable def codec_ReadString (b0 : (List UInt8)) (at1 : Int) (limit2 : Int) : Option ((List UInt8) × Int × Int) :=
  Rx.Bind (codec_readLength b0 at1 limit2) fun (r243 : Int × Int × Int) =>
  Let (r243.snd.snd != (0 : Int)) fun (x244 : Bool) =>
  if x244 = true then some (#[].toList, (0 : Int), r243.snd.snd)
  else
  Let (↑b0.length : Int) fun (x245 : Int) =>
  Let (IntKind.i64.wrap (x245 - r243.snd.fst)) fun (x246 : Int) =>
  Let (decide (r243.fst > x246)) fun (x247 : Bool) =>
  if x247 = true then some (#[].toList, (0 : Int), (4 : Int))
  else
  Let (IntKind.i64.wrap (r243.snd.fst + r243.fst)) fun (x248 : Int) =>
  Chk ((0 : Int) ≤ r243.snd.fst ∧ r243.snd.fst ≤ x248 ∧ x248 ≤ (↑b0.length : Int))
  (Let (sub b0 r243.snd.fst x248) fun (x249 : List UInt8) =>
  Let (IntKind.i64.wrap (r243.snd.fst + r243.fst)) fun (x250 : Int) => some (x249, x250, (0 : Int)))

noncomputable def caromref07_length (b0 : (List UInt8)) (at1 : Int) (most2 : Int) : Option (Int × Int × Int) :=
  Rx.Bind (caromref07_ReadInt b0 at1) fun (r251 : Int × Int × Int) =>
  Let (r251.snd.snd != (0 : Int)) fun (x252 : Bool) =>
  if x252 = true then some ((0 : Int), (0 : Int), r251.snd.snd)
  else
  Let (decide (r251.fst < (0 : Int))) fun (x253 : Bool) =>
  if x253 = true then some ((0 : Int), (0 : Int), (3 : Int))
  else
  Let (max most2 (0 : Int)) fun (x254 : Int) =>
  Let (decide (r251.fst > x254)) fun (x255 : Bool) =>
  if x255 = true then some ((0 : Int), (0 : Int), (5 : Int)) else some (r251.fst, r251.snd.fst, (0 : Int))

noncomputable def caromref07_ReadString (b0 : (List UInt8)) (at1 : Int) (most2 : Int) : Option ((List UInt8) × Int × Int) :=
  Rx.Bind (caromref07_length b0 at1 most2) fun (r256 : Int × Int × Int) =>
  Let (r256.snd.snd != (0 : Int)) fun (x257 : Bool) =>
  if x257 = true then some (#[].toList, (0 : Int), r256.snd.snd)
  else
  Let (↑b0.length : Int) fun (x258 : Int) =>
  Let (IntKind.i64.wrap (x258 - r256.snd.fst)) fun (x259 : Int) =>
  Let (decide (x259 < r256.fst)) fun (x260 : Bool) =>
  if x260 = true then some (#[].toList, (0 : Int), (4 : Int))
  else
  Let (IntKind.i64.wrap (r256.snd.fst + r256.fst)) fun (x261 : Int) =>
  Chk ((0 : Int) ≤ r256.snd.fst ∧ r256.snd.fst ≤ x261 ∧ x261 ≤ (↑b0.length : Int))
  (Let (sub b0 r256.snd.fst x261) fun (x262 : List UInt8) =>
  Let (IntKind.i64.wrap (r256.snd.fst + r256.fst)) fun (x263 : Int) => some (x262, x263, (0 : Int)))

noncomputable def caromref07_abs (n0 : Int) : Option Int :=
  Let (decide (n0 < (0 : Int))) fun (x264 : Bool) =>
  if x264 = true then
  Let (IntKind.i64.wrap (n0 + (1 : Int))) fun (x265 : Int) =>
  Let (IntKind.i64.wrap ((0 : Int) - x265)) fun (x266 : Int) =>
  Let (IntKind.u64.wrap x266) fun (x267 : Int) => Let (IntKind.u64.wrap (x267 + (1 : Int))) fun (x268 : Int) => some x268
  else Let (IntKind.u64.wrap n0) fun (x269 : Int) => some x269

noncomputable def caromref07_AppendInt (b0 : (List UInt8)) (n1 : Int) : Option (List UInt8) :=
  Rx.Bind (caromref07_abs n1) fun (r270 : Int) =>
  LOOP
  (fun (rec271 : List UInt8 × Int → Option (List UInt8)) (s272 : List UInt8 × Int) =>
  Let (decide (s272.snd > (0 : Int))) fun (x273 : Bool) =>
  if x273 = true then
  Let (Int.tmod s272.snd (256 : Int)) fun (x274 : Int) =>
  Let (toByte x274) fun (x275 : UInt8) =>
  Chk (([x275].length + List.length s272.fst) * (1 : Nat) ≤ (140737488355328 : Nat))
  (Let ([x275] ++ s272.fst) fun (x276 : List UInt8) =>
  Let (IntKind.u64.wrap (Int.tdiv s272.snd (256 : Int))) fun (x277 : Int) => rec271 (x276, x277))
  else
  Let (↑(List.length s272.fst) : Int) fun (x278 : Int) =>
  Let (toByte x278) fun (x279 : UInt8) =>
  Join
  (fun (v280 : UInt8) =>
  Chk (b0.length * (1 : Nat) ≤ (140737488355328 : Nat))
  (Chk ((b0.length + [v280].length) * (1 : Nat) ≤ (140737488355328 : Nat))
  (Let (b0 ++ [v280]) fun (x281 : List UInt8) =>
  Chk ((x281.length + List.length s272.fst) * (1 : Nat) ≤ (140737488355328 : Nat))
  (Let (x281 ++ s272.fst) fun (x282 : List UInt8) => some x282))))
  fun (j283 : UInt8 → Option (List UInt8)) =>
  Let (decide (n1 < (0 : Int))) fun (x284 : Bool) =>
  if x284 = true then Let (x279 + toByte (16 : Int)) fun (x285 : UInt8) => j283 x285 else j283 x279)
  fuel ([], r270)

noncomputable def caromref07_AppendString (b0 : (List UInt8)) (s1 : (List UInt8)) : Option (List UInt8) :=
  Let (↑s1.length : Int) fun (x286 : Int) =>
  Rx.Bind (caromref07_AppendInt b0 x286) fun (r287 : List UInt8) =>
  Chk ((r287.length + s1.length) * (1 : Nat) ≤ (140737488355328 : Nat))
  (Let (r287 ++ s1) fun (x288 : List UInt8) => some x288)

noncomputable def caromlaw07_CodecStrings (b0 : (List UInt8)) (s1 : (List UInt8)) (at2 : Int) (most3 : Int) : Option Bool :=
  Rx.Bind (caromlaw07_small b0 s1 []) fun (r289 : Bool) =>
  Let (!r289) fun (x290 : Bool) =>
  if x290 = true then Rx.Bind caromlaw07_example fun (r291 : Bool) => some r291
  else
  Rx.Bind (codec_AppendString b0 s1) fun (r292 : List UInt8) =>
  Let (↑b0.length : Int) fun (x293 : Int) =>
  Rx.Bind (codec_ReadString r292 x293 most3) fun (r294 : List UInt8 × Int × Int) =>
  Join
  (fun (v295 : PUnit) =>
  Rx.Bind (codec_ReadString b0 at2 most3) fun (r296 : List UInt8 × Int × Int) =>
  Rx.Bind (caromref07_ReadString b0 at2 most3) fun (r297 : List UInt8 × Int × Int) =>
  Let (r296.fst == r297.fst) fun (x298 : Bool) =>
  Let (r296.snd.fst == r297.snd.fst) fun (x299 : Bool) =>
  Let (bif x298 then x299 else false) fun (x300 : Bool) =>
  Let (r296.snd.snd == r297.snd.snd) fun (x301 : Bool) =>
  Let (bif x300 then x301 else false) fun (x302 : Bool) =>
  Rx.Bind (if (x302 == true) = true then caromref07_AppendString b0 s1 else some default) fun (r303 : List UInt8) =>
  Let (r292 == r303) fun (x304 : Bool) =>
  Let (bif x302 then x304 else false) fun (x305 : Bool) =>
  Rx.Bind (if (x305 == true) = true then caromlaw07_example else some default) fun (r306 : Bool) =>
  Let (bif x305 then r306 else false) fun (x307 : Bool) => some x307)
  fun (j308 : PUnit → Option Bool) =>
  Let (↑s1.length : Int) fun (x309 : Int) =>
  Let (max most3 (0 : Int)) fun (x310 : Int) =>
  Let (decide (x309 > x310)) fun (x311 : Bool) =>
  if x311 = true then
  Let (r294.fst != #[].toList) fun (x312 : Bool) =>
  Let (r294.snd.fst != (0 : Int)) fun (x313 : Bool) =>
  Let (bif x312 then true else x313) fun (x314 : Bool) =>
  Let (r294.snd.snd != (5 : Int)) fun (x315 : Bool) =>
  Let (bif x314 then true else x315) fun (x316 : Bool) => if x316 = true then some false else j308 ()
  else
  Let (r294.fst != s1) fun (x317 : Bool) =>
  Let (↑r292.length : Int) fun (x318 : Int) =>
  Let (r294.snd.fst != x318) fun (x319 : Bool) =>
  Let (bif x317 then true else x319) fun (x320 : Bool) =>
  Let (r294.snd.snd != (0 : Int)) fun (x321 : Bool) =>
  Let (bif x320 then true else x321) fun (x322 : Bool) => if x322 = true then some false else j308 ()

noncomputable def codec_ReadInts (b0 : (List UInt8)) (at1 : Int) (limit2 : Int) : Option ((List Int) × Int × Int) :=
  Rx.Bind (codec_readLength b0 at1 limit2) fun (r323 : Int × Int × Int) =>
  Let (r323.snd.snd != (0 : Int)) fun (x324 : Bool) =>
  if x324 = true then some ([], (0 : Int), r323.snd.snd)
  else
  LOOP
  (fun (rec325 : Int × List Int × Int → Option (List Int × Int × Int)) (s326 : Int × List Int × Int) =>
  Let (decide (s326.snd.snd < r323.fst)) fun (x327 : Bool) =>
  if x327 = true then
  Rx.Bind (codec_ReadInt b0 s326.fst) fun (r328 : Int × Int × Int) =>
  Let (r328.snd.snd != (0 : Int)) fun (x329 : Bool) =>
  if x329 = true then some ([], (0 : Int), r328.snd.snd)
  else
  Chk ((List.length s326.snd.fst + [r328.fst].length) * (8 : Nat) ≤ (140737488355328 : Nat))
  (Let (s326.snd.fst ++ [r328.fst]) fun (x330 : List Int) =>
  Let (IntKind.i64.wrap (s326.snd.snd + (1 : Int))) fun (x331 : Int) => rec325 (r328.snd.fst, x330, x331))
  else some (s326.snd.fst, s326.fst, (0 : Int)))
  fuel (r323.snd.fst, [], (0 : Int))

noncomputable def caromref07_ReadInts (b0 : (List UInt8)) (at1 : Int) (most2 : Int) : Option ((List Int) × Int × Int) :=
  Rx.Bind (caromref07_length b0 at1 most2) fun (r332 : Int × Int × Int) =>
  Let (r332.snd.snd != (0 : Int)) fun (x333 : Bool) =>
  if x333 = true then some ([], (0 : Int), r332.snd.snd)
  else
  LOOP
  (fun (rec334 : Int × List Int × Int → Option (List Int × Int × Int)) (s335 : Int × List Int × Int) =>
  Let (decide (s335.snd.snd < r332.fst)) fun (x336 : Bool) =>
  if x336 = true then
  Rx.Bind (caromref07_ReadInt b0 s335.fst) fun (r337 : Int × Int × Int) =>
  Let (r337.snd.snd != (0 : Int)) fun (x338 : Bool) =>
  if x338 = true then some ([], (0 : Int), r337.snd.snd)
  else
  Chk ((List.length s335.snd.fst + [r337.fst].length) * (8 : Nat) ≤ (140737488355328 : Nat))
  (Let (s335.snd.fst ++ [r337.fst]) fun (x339 : List Int) =>
  Let (IntKind.i64.wrap (s335.snd.snd + (1 : Int))) fun (x340 : Int) => rec334 (r337.snd.fst, x339, x340))
  else some (s335.snd.fst, s335.fst, (0 : Int)))
  fuel (r332.snd.fst, [], (0 : Int))

noncomputable def caromref07_Ints (a0 : (List Int)) (b1 : (List Int)) : Option Bool :=
  Let (↑a0.length : Int) fun (x341 : Int) =>
  Let (↑b1.length : Int) fun (x342 : Int) =>
  Let (x341 != x342) fun (x343 : Bool) =>
  if x343 = true then some false
  else
  LOOP
  (fun (rec344 : Int → Option Bool) (s345 : Int) =>
  Let (↑a0.length : Int) fun (x346 : Int) =>
  Let (decide (s345 < x346)) fun (x347 : Bool) =>
  if x347 = true then
  Chk ((0 : Int) ≤ s345 ∧ s345 < (↑a0.length : Int))
  (Let (ix a0 s345) fun (x348 : Int) =>
  Chk ((0 : Int) ≤ s345 ∧ s345 < (↑b1.length : Int))
  (Let (ix b1 s345) fun (x349 : Int) =>
  Let (x348 != x349) fun (x350 : Bool) =>
  if x350 = true then some false else Let (IntKind.i64.wrap (s345 + (1 : Int))) fun (x351 : Int) => rec344 x351))
  else some true)
  fuel (0 : Int)

noncomputable def caromref07_AppendInts (b0 : (List UInt8)) (l1 : (List Int)) : Option (List UInt8) :=
  Let (↑l1.length : Int) fun (x352 : Int) =>
  Rx.Bind (caromref07_AppendInt b0 x352) fun (r353 : List UInt8) =>
  LOOP
  (fun (rec354 : List UInt8 × Int → Option (List UInt8)) (s355 : List UInt8 × Int) =>
  Let (↑l1.length : Int) fun (x356 : Int) =>
  Let (decide (s355.snd < x356)) fun (x357 : Bool) =>
  if x357 = true then
  Chk ((0 : Int) ≤ s355.snd ∧ s355.snd < (↑l1.length : Int))
  (Let (ix l1 s355.snd) fun (x358 : Int) =>
  Rx.Bind (caromref07_AppendInt [] x358) fun (r359 : List UInt8) =>
  Chk ((List.length s355.fst + r359.length) * (1 : Nat) ≤ (140737488355328 : Nat))
  (Let (s355.fst ++ r359) fun (x360 : List UInt8) =>
  Let (IntKind.i64.wrap (s355.snd + (1 : Int))) fun (x361 : Int) => rec354 (x360, x361)))
  else some s355.fst)
  fuel (r353, (0 : Int))

noncomputable def caromlaw07_CodecSlices (b0 : (List UInt8)) (at1 : Int) (most2 : Int) (l3 : (List Int)) : Option Bool :=
  Rx.Bind (caromlaw07_small b0 #[].toList l3) fun (r362 : Bool) =>
  Let (!r362) fun (x363 : Bool) =>
  if x363 = true then Rx.Bind caromlaw07_example fun (r364 : Bool) => some r364
  else
  Rx.Bind (codec_ReadInts b0 at1 most2) fun (r365 : List Int × Int × Int) =>
  Rx.Bind (caromref07_ReadInts b0 at1 most2) fun (r366 : List Int × Int × Int) =>
  Rx.Bind (caromref07_Ints r365.fst r366.fst) fun (r367 : Bool) =>
  Let (r365.snd.fst == r366.snd.fst) fun (x368 : Bool) =>
  Let (bif r367 then x368 else false) fun (x369 : Bool) =>
  Let (r365.snd.snd == r366.snd.snd) fun (x370 : Bool) =>
  Let (bif x369 then x370 else false) fun (x371 : Bool) =>
  Rx.Bind (if (x371 == true) = true then codec_AppendInts b0 l3 else some default) fun (r372 : List UInt8) =>
  Rx.Bind (if (x371 == true) = true then caromref07_AppendInts b0 l3 else some default) fun (r373 : List UInt8) =>
  Let (r372 == r373) fun (x374 : Bool) =>
  Let (bif x371 then x374 else false) fun (x375 : Bool) =>
  Rx.Bind (if (x375 == true) = true then caromlaw07_example else some default) fun (r376 : Bool) =>
  Let (bif x375 then r376 else false) fun (x377 : Bool) => some x377

noncomputable def caromlaw07_CodecUnique (b0 : (List UInt8)) (at1 : Int) : Option Bool :=
  Rx.Bind (caromlaw07_small b0 #[].toList []) fun (r378 : Bool) =>
  Let (!r378) fun (x379 : Bool) =>
  if x379 = true then Rx.Bind caromlaw07_example fun (r380 : Bool) => some r380
  else
  Rx.Bind (codec_ReadInt b0 at1) fun (r381 : Int × Int × Int) =>
  Let (r381.snd.snd == (0 : Int)) fun (x382 : Bool) =>
  Let (decide (r381.snd.fst ≤ at1)) fun (x383 : Bool) =>
  Let (↑b0.length : Int) fun (x384 : Int) =>
  Let (decide (r381.snd.fst > x384)) fun (x385 : Bool) =>
  Let (bif x383 then true else x385) fun (x386 : Bool) =>
  Chk ((x382 == true && x386 == false) = true → (0 : Int) ≤ at1 ∧ at1 ≤ (↑b0.length : Int))
  (Let (List.take at1.toNat b0) fun (x387 : List UInt8) =>
  Rx.Bind (if (x382 == true && x386 == false) = true then codec_AppendInt x387 r381.fst else some default)
  fun (r388 : List UInt8) =>
  Chk ((x382 == true && x386 == false) = true → (0 : Int) ≤ r381.snd.fst ∧ r381.snd.fst ≤ (↑b0.length : Int))
  (Let (List.take (Int.toNat r381.snd.fst) b0) fun (x389 : List UInt8) =>
  Let (r388 != x389) fun (x390 : Bool) =>
  Let (bif x386 then true else x390) fun (x391 : Bool) =>
  Let (bif x382 then x391 else false) fun (x392 : Bool) =>
  if x392 = true then some false
  else
  Rx.Bind (codec_ReadString b0 at1 (3000 : Int)) fun (r393 : List UInt8 × Int × Int) =>
  Let (r393.snd.snd == (0 : Int)) fun (x394 : Bool) =>
  Let (decide (r393.snd.fst ≤ at1)) fun (x395 : Bool) =>
  Let (↑b0.length : Int) fun (x396 : Int) =>
  Let (decide (r393.snd.fst > x396)) fun (x397 : Bool) =>
  Let (bif x395 then true else x397) fun (x398 : Bool) =>
  Chk ((x394 == true && x398 == false) = true → (0 : Int) ≤ at1 ∧ at1 ≤ (↑b0.length : Int))
  (Let (List.take at1.toNat b0) fun (x399 : List UInt8) =>
  Rx.Bind (if (x394 == true && x398 == false) = true then codec_AppendString x399 r393.fst else some default)
  fun (r400 : List UInt8) =>
  Chk ((x394 == true && x398 == false) = true → (0 : Int) ≤ r393.snd.fst ∧ r393.snd.fst ≤ (↑b0.length : Int))
  (Let (List.take (Int.toNat r393.snd.fst) b0) fun (x401 : List UInt8) =>
  Let (r400 != x401) fun (x402 : Bool) =>
  Let (bif x398 then true else x402) fun (x403 : Bool) =>
  Let (bif x394 then x403 else false) fun (x404 : Bool) =>
  if x404 = true then some false
  else
  Rx.Bind (codec_ReadInts b0 at1 (3000 : Int)) fun (r405 : List Int × Int × Int) =>
  Let (r405.snd.snd == (0 : Int)) fun (x406 : Bool) =>
  Let (decide (r405.snd.fst ≤ at1)) fun (x407 : Bool) =>
  Let (↑b0.length : Int) fun (x408 : Int) =>
  Let (decide (r405.snd.fst > x408)) fun (x409 : Bool) =>
  Let (bif x407 then true else x409) fun (x410 : Bool) =>
  Chk ((x406 == true && x410 == false) = true → (0 : Int) ≤ at1 ∧ at1 ≤ (↑b0.length : Int))
  (Let (List.take at1.toNat b0) fun (x411 : List UInt8) =>
  Rx.Bind (if (x406 == true && x410 == false) = true then codec_AppendInts x411 r405.fst else some default)
  fun (r412 : List UInt8) =>
  Chk ((x406 == true && x410 == false) = true → (0 : Int) ≤ r405.snd.fst ∧ r405.snd.fst ≤ (↑b0.length : Int))
  (Let (List.take (Int.toNat r405.snd.fst) b0) fun (x413 : List UInt8) =>
  Let (r412 != x413) fun (x414 : Bool) =>
  Let (bif x410 then true else x414) fun (x415 : Bool) =>
  Let (bif x406 then x415 else false) fun (x416 : Bool) =>
  if x416 = true then some false else Rx.Bind caromlaw07_example fun (r417 : Bool) => some r417))))))

noncomputable def caromlaw07_CodecRoundTrip (b0 : (List UInt8)) (n1 : Int) (x2 : Bool) (l3 : (List Int)) (more4 : (List UInt8)) : Option Bool :=
  Rx.Bind (caromlaw07_small b0 #[].toList l3) fun (r418 : Bool) =>
  Let (!r418) fun (x419 : Bool) =>
  Let (↑more4.length : Int) fun (x420 : Int) =>
  Let (decide (x420 > (2000 : Int))) fun (x421 : Bool) =>
  Let (bif x419 then true else x421) fun (x422 : Bool) =>
  if x422 = true then Rx.Bind caromlaw07_example fun (r423 : Bool) => some r423
  else Let (↑b0.length : Int) fun (x424 : Int) => Rx.Bind (codec_AppendInt b0 n1) fun (r425 : List UInt8) => none

end GoForm
