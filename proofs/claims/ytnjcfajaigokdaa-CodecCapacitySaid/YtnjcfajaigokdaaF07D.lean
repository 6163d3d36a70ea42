/- The functions' plain forms. Printed by go3.py. No conditions. -/
import Derived.Test.YtnjcfajaigokdaaF07T
set_option linter.all false
set_option maxRecDepth 100000
open Go Go.Rx Go.Proofs Go.RowKit
namespace GoForm

noncomputable def caromlaw07_small (b0 : (List UInt8)) (s1 : (List UInt8)) (l2 : (List Int)) : Option Bool :=
  Let (↑b0.length : Int) fun (x1 : Int) =>
  Let (decide (x1 ≤ (2000 : Int))) fun (x2 : Bool) =>
  Let (↑s1.length : Int) fun (x3 : Int) =>
  Let (decide (x3 ≤ (500 : Int))) fun (x4 : Bool) =>
  Let (bif x2 then x4 else false) fun (x5 : Bool) =>
  Let (↑l2.length : Int) fun (x6 : Int) =>
  Let (decide (x6 ≤ (100 : Int))) fun (x7 : Bool) => Let (bif x5 then x7 else false) fun (x8 : Bool) => some x8

noncomputable def codec_readByte (b0 : (List UInt8)) (at1 : Int) : Option (UInt8 × Int) :=
  Let (decide (at1 < (0 : Int))) fun (x9 : Bool) =>
  Let (↑b0.length : Int) fun (x10 : Int) =>
  Let (decide (at1 > x10)) fun (x11 : Bool) =>
  Let (bif x9 then true else x11) fun (x12 : Bool) =>
  if x12 = true then some (toByte (0 : Int), (2 : Int))
  else
  Let (↑b0.length : Int) fun (x13 : Int) =>
  Let (at1 == x13) fun (x14 : Bool) =>
  if x14 = true then some (toByte (0 : Int), (4 : Int))
  else Chk ((0 : Int) ≤ at1 ∧ at1 < (↑b0.length : Int)) (Let (ix b0 at1) fun (x15 : UInt8) => some (x15, (0 : Int)))

noncomputable def codec_magnitude (n0 : Int) : Option Int :=
  Let (decide (n0 < (0 : Int))) fun (x16 : Bool) =>
  if x16 = true then
  Let (IntKind.u64.wrap n0) fun (x17 : Int) => Let (IntKind.u64.wrap ((0 : Int) - x17)) fun (x18 : Int) => some x18
  else Let (IntKind.u64.wrap n0) fun (x19 : Int) => some x19

noncomputable def codec_ReadInt (b0 : (List UInt8)) (at1 : Int) : Option (Int × Int × Int) :=
  Rx.Bind (codec_readByte b0 at1) fun (r20 : UInt8 × Int) =>
  Let (r20.snd != (0 : Int)) fun (x21 : Bool) =>
  if x21 = true then some ((0 : Int), (0 : Int), r20.snd)
  else
  Let (↑(UInt8.toNat r20.fst) : Int) fun (x22 : Int) =>
  Let (decide (toByte (16 : Int) < r20.fst)) fun (x23 : Bool) =>
  Join
  (fun (v24 : Int) =>
  Let (decide (v24 > (8 : Int))) fun (x25 : Bool) =>
  if x25 = true then some ((0 : Int), (0 : Int), (3 : Int))
  else
  Let (IntKind.i64.wrap (at1 + (1 : Int))) fun (x26 : Int) =>
  Chk ((0 : Int) ≤ x26 ∧ x26 ≤ (↑b0.length : Int))
  (Let (List.drop x26.toNat b0) fun (x27 : List UInt8) =>
  Let (↑x27.length : Int) fun (x28 : Int) =>
  Let (decide (x28 < v24)) fun (x29 : Bool) =>
  if x29 = true then some ((0 : Int), (0 : Int), (4 : Int))
  else
  Chk ((0 : Int) ≤ v24 ∧ v24 ≤ (↑x27.length : Int))
  (Let (List.take v24.toNat x27) fun (x30 : List UInt8) =>
  Let (↑x30.length : Int) fun (x31 : Int) =>
  LOOP
  (fun (rec32 : Int × Int → Option (Int × Int × Int)) (s33 : Int × Int) =>
  Let (decide (s33.snd < x31)) fun (x34 : Bool) =>
  if x34 = true then
  Chk ((0 : Int) ≤ s33.snd ∧ s33.snd < (↑x30.length : Int))
  (Let (ix x30 s33.snd) fun (x35 : UInt8) =>
  Let (bShl IntKind.u64 s33.fst (8 : Int)) fun (x36 : Int) =>
  Let (↑x35.toNat : Int) fun (x37 : Int) =>
  Let (bOr IntKind.u64 x36 x37) fun (x38 : Int) =>
  Let (IntKind.i64.wrap (s33.snd + (1 : Int))) fun (x39 : Int) => rec32 (x38, x39))
  else
  Let (IntKind.i64.wrap s33.fst) fun (x40 : Int) =>
  Join
  (fun (v41 : Int) =>
  Let (decide (v24 > (0 : Int))) fun (x42 : Bool) =>
  Chk ((x42 == true) = true → (0 : Int) ≤ (0 : Int) ∧ (0 : Int) < (↑x27.length : Int))
  (Let (ix x27 (0 : Int)) fun (x43 : UInt8) =>
  Let (x43 == toByte (0 : Int)) fun (x44 : Bool) =>
  Let (bif x42 then x44 else false) fun (x45 : Bool) =>
  Rx.Bind (if (x45 == false) = true then codec_magnitude v41 else some default) fun (r46 : Int) =>
  Let (r46 != s33.fst) fun (x47 : Bool) =>
  Let (bif x45 then true else x47) fun (x48 : Bool) =>
  Let (decide (v41 < (0 : Int))) fun (x49 : Bool) =>
  Let (x49 != x23) fun (x50 : Bool) =>
  Let (bif x48 then true else x50) fun (x51 : Bool) =>
  if x51 = true then some ((0 : Int), (0 : Int), (3 : Int))
  else
  Let (IntKind.i64.wrap (at1 + (1 : Int))) fun (x52 : Int) =>
  Let (IntKind.i64.wrap (x52 + v24)) fun (x53 : Int) => some (v41, x53, (0 : Int))))
  fun (j54 : Int → Option (Int × Int × Int)) =>
  if x23 = true then Let (IntKind.i64.wrap ((0 : Int) - x40)) fun (x55 : Int) => j54 x55 else j54 x40)
  fuel ((0 : Int), (0 : Int)))))
  fun (j56 : Int → Option (Int × Int × Int)) =>
  if x23 = true then Let (IntKind.i64.wrap (x22 - (16 : Int))) fun (x57 : Int) => j56 x57 else j56 x22

noncomputable def codec_AppendInt (b0 : (List UInt8)) (n1 : Int) : Option (List UInt8) :=
  Rx.Bind (codec_magnitude n1) fun (r58 : Int) =>
  LOOP
  (fun (rec59 : List UInt8 × Int → Option (List UInt8)) (s60 : List UInt8 × Int) =>
  Let (decide (s60.snd > (0 : Int))) fun (x61 : Bool) =>
  if x61 = true then
  Let (toByte s60.snd) fun (x62 : UInt8) =>
  Chk (([x62].length + List.length s60.fst) * (1 : Nat) ≤ (140737488355328 : Nat))
  (Let ([x62] ++ s60.fst) fun (x63 : List UInt8) =>
  Let (bShr IntKind.u64 s60.snd (8 : Int)) fun (x64 : Int) => rec59 (x63, x64))
  else
  Let (↑(List.length s60.fst) : Int) fun (x65 : Int) =>
  Join
  (fun (v66 : Int) =>
  Let (toByte v66) fun (x67 : UInt8) =>
  Let (↑b0.length : Int) fun (x68 : Int) =>
  Let (↑b0.length : Int) fun (x69 : Int) =>
  Chk ((0 : Int) ≤ x68 ∧ x68 ≤ (↑b0.length : Int) ∧ x69 = x68)
  (Let (List.take x68.toNat b0) fun (x70 : List UInt8) =>
  Chk ((0 : Nat) < [x67].length ∧ (x70.length + [x67].length) * (1 : Nat) ≤ (140737488355328 : Nat))
  (Let (x70 ++ [x67]) fun (x71 : List UInt8) =>
  Let (↑x71.length : Int) fun (x72 : Int) =>
  Let (↑x71.length : Int) fun (x73 : Int) =>
  Chk (x72 = (↑x71.length : Int) ∧ x73 = (↑x71.length : Int))
  (Chk ((x71.length + List.length s60.fst) * (1 : Nat) ≤ (140737488355328 : Nat))
  (Let (x71 ++ s60.fst) fun (x74 : List UInt8) => some x74)))))
  fun (j75 : Int → Option (List UInt8)) =>
  Let (decide (n1 < (0 : Int))) fun (x76 : Bool) =>
  if x76 = true then Let (IntKind.i64.wrap (x65 + (16 : Int))) fun (x77 : Int) => j75 x77 else j75 x65)
  fuel ([], r58)

noncomputable def caromlaw07_example  : Option Bool :=
  Rx.Bind (codec_ReadInt [toByte (9 : Int), toByte (17 : Int), toByte (1 : Int)] (1 : Int)) fun (r78 : Int × Int × Int) =>
  Rx.Bind (codec_ReadInt [toByte (1 : Int), toByte (0 : Int)] (0 : Int)) fun (r79 : Int × Int × Int) =>
  Rx.Bind (codec_AppendInt [] (258 : Int)) fun (r80 : List UInt8) =>
  Let (r80 == #[(2 : UInt8), (1 : UInt8), (2 : UInt8)].toList) fun (x81 : Bool) =>
  Rx.Bind (if (x81 == true) = true then codec_AppendInt [toByte (5 : Int)] (-1 : Int) else some default)
  fun (r82 : List UInt8) =>
  Let (r82 == #[(5 : UInt8), (17 : UInt8), (1 : UInt8)].toList) fun (x83 : Bool) =>
  Let (bif x81 then x83 else false) fun (x84 : Bool) =>
  Rx.Bind (if (x84 == true) = true then codec_AppendInt [] (0 : Int) else some default) fun (r85 : List UInt8) =>
  Let (r85 == #[(0 : UInt8)].toList) fun (x86 : Bool) =>
  Let (bif x84 then x86 else false) fun (x87 : Bool) =>
  Let (r78.fst == (-1 : Int)) fun (x88 : Bool) =>
  Let (bif x87 then x88 else false) fun (x89 : Bool) =>
  Let (r78.snd.fst == (3 : Int)) fun (x90 : Bool) =>
  Let (bif x89 then x90 else false) fun (x91 : Bool) =>
  Let (r78.snd.snd == (0 : Int)) fun (x92 : Bool) =>
  Let (bif x91 then x92 else false) fun (x93 : Bool) =>
  Let (r79.snd.snd == (3 : Int)) fun (x94 : Bool) => Let (bif x93 then x94 else false) fun (x95 : Bool) => some x95

noncomputable def codec_AppendString (b0 : (List UInt8)) (s1 : (List UInt8)) : Option (List UInt8) :=
  Let (↑s1.length : Int) fun (x96 : Int) =>
  Rx.Bind (codec_AppendInt b0 x96) fun (r97 : List UInt8) =>
  Let (↑r97.length : Int) fun (x98 : Int) =>
  Let (↑r97.length : Int) fun (x99 : Int) =>
  Chk ((0 : Int) ≤ x98 ∧ x98 ≤ (↑r97.length : Int) ∧ x99 = x98)
  (Let (List.take x98.toNat r97) fun (x100 : List UInt8) =>
  Chk ((0 : Nat) < s1.length ∧ (x100.length + s1.length) * (1 : Nat) ≤ (140737488355328 : Nat))
  (Let (x100 ++ s1) fun (x101 : List UInt8) => some x101))

noncomputable def codec_AppendBool (b0 : (List UInt8)) (x1 : Bool) : Option (List UInt8) :=
  if x1 = true then
  Let (↑b0.length : Int) fun (x102 : Int) =>
  Let (↑b0.length : Int) fun (x103 : Int) =>
  Chk ((0 : Int) ≤ x102 ∧ x102 ≤ (↑b0.length : Int) ∧ x103 = x102)
  (Let (List.take x102.toNat b0) fun (x104 : List UInt8) =>
  Chk ((0 : Nat) < (1 : Nat) ∧ (x104.length + (1 : Nat)) * (1 : Nat) ≤ (140737488355328 : Nat))
  (Let (x104 ++ [toByte (1 : Int)]) fun (x105 : List UInt8) => some x105))
  else
  Let (↑b0.length : Int) fun (x106 : Int) =>
  Let (↑b0.length : Int) fun (x107 : Int) =>
  Chk ((0 : Int) ≤ x106 ∧ x106 ≤ (↑b0.length : Int) ∧ x107 = x106)
  (Let (List.take x106.toNat b0) fun (x108 : List UInt8) =>
  Chk ((0 : Nat) < (1 : Nat) ∧ (x108.length + (1 : Nat)) * (1 : Nat) ≤ (140737488355328 : Nat))
  (Let (x108 ++ [toByte (0 : Int)]) fun (x109 : List UInt8) => some x109))

noncomputable def codec_AppendInts (b0 : (List UInt8)) (values1 : (List Int)) : Option (List UInt8) :=
  Let (↑values1.length : Int) fun (x110 : Int) =>
  Rx.Bind (codec_AppendInt b0 x110) fun (r111 : List UInt8) =>
  Let (↑values1.length : Int) fun (x112 : Int) =>
  LOOP
  (fun (rec113 : List UInt8 × Int → Option (List UInt8)) (s114 : List UInt8 × Int) =>
  Let (decide (s114.snd < x112)) fun (x115 : Bool) =>
  if x115 = true then
  Chk ((0 : Int) ≤ s114.snd ∧ s114.snd < (↑values1.length : Int))
  (Let (ix values1 s114.snd) fun (x116 : Int) =>
  Rx.Bind (codec_AppendInt s114.fst x116) fun (r117 : List UInt8) =>
  Let (IntKind.i64.wrap (s114.snd + (1 : Int))) fun (x118 : Int) => rec113 (r117, x118))
  else some s114.fst)
  fuel (r111, (0 : Int))

noncomputable def codec_AppendVec (b0 : (List UInt8)) (v1 : Vec) : Option (List UInt8) :=
  Rx.Bind (codec_AppendInt b0 v1.X) fun (r119 : List UInt8) =>
  Rx.Bind (codec_AppendInt r119 v1.Y) fun (r120 : List UInt8) => some r120

noncomputable def caromlaw07_CodecCapacity (b0 : (List UInt8)) (cut1 : Int) (n2 : Int) : Option Bool :=
  Rx.Bind (caromlaw07_small b0 #[].toList []) fun (r121 : Bool) =>
  Let (!r121) fun (x122 : Bool) =>
  if x122 = true then Rx.Bind caromlaw07_example fun (r123 : Bool) => some r123
  else
  Let (IntKind.i64.wrap cut1) fun (x124 : Int) =>
  Let (↑b0.length : Int) fun (x125 : Int) =>
  Let (IntKind.i64.wrap (x125 + (1 : Int))) fun (x126 : Int) =>
  Chk (x126 ≠ (0 : Int))
  (Let (x124.tmod x126) fun (x127 : Int) =>
  Chk ((0 : Int) ≤ x127 ∧ x127 ≤ (↑b0.length : Int))
  (Let (List.take x127.toNat b0) fun (x128 : List UInt8) =>
  Rx.Bind (codec_magnitude n2) fun (r129 : Int) =>
  LOOP
  (fun (rec130 : List UInt8 × Int → Option Bool) (s131 : List UInt8 × Int) =>
  Let (decide (s131.snd > (0 : Int))) fun (x132 : Bool) =>
  if x132 = true then
  Let (toByte s131.snd) fun (x133 : UInt8) =>
  Chk (([x133].length + List.length s131.fst) * (1 : Nat) ≤ (140737488355328 : Nat))
  (Let ([x133] ++ s131.fst) fun (x134 : List UInt8) =>
  Let (bShr IntKind.u64 s131.snd (8 : Int)) fun (x135 : Int) => rec130 (x134, x135))
  else
  Let (↑(List.length s131.fst) : Int) fun (x136 : Int) =>
  Join
  (fun (v137 : Int) =>
  Let (toByte v137) fun (x138 : UInt8) =>
  Let (↑x128.length : Int) fun (x139 : Int) =>
  Let (↑x128.length : Int) fun (x140 : Int) =>
  Chk ((0 : Int) ≤ x139 ∧ x139 ≤ (↑x128.length : Int) ∧ x140 = x139)
  (Let (List.take x139.toNat x128) fun (x141 : List UInt8) =>
  Chk ((0 : Nat) < [x138].length ∧ (x141.length + [x138].length) * (1 : Nat) ≤ (140737488355328 : Nat))
  (Let (x141 ++ [x138]) fun (x142 : List UInt8) =>
  Let (↑x142.length : Int) fun (x143 : Int) =>
  Let (↑x142.length : Int) fun (x144 : Int) =>
  Chk (x143 = (↑x142.length : Int) ∧ x144 = (↑x142.length : Int))
  (Chk ((x142.length + List.length s131.fst) * (1 : Nat) ≤ (140737488355328 : Nat))
  (Let (x142 ++ s131.fst) fun (x145 : List UInt8) =>
  Chk ((0 : Int) ≤ x127 ∧ x127 ≤ (↑b0.length : Int))
  (Let (List.take x127.toNat b0) fun (x146 : List UInt8) =>
  Rx.Bind (codec_AppendString x146 #[(97 : UInt8), (98 : UInt8), (99 : UInt8)].toList) fun (r147 : List UInt8) =>
  Chk ((0 : Int) ≤ x127 ∧ x127 ≤ (↑b0.length : Int))
  (Let (List.take x127.toNat b0) fun (x148 : List UInt8) =>
  Rx.Bind (codec_AppendBool x148 true) fun (r149 : List UInt8) =>
  Chk ((0 : Int) ≤ x127 ∧ x127 ≤ (↑b0.length : Int))
  (Let (List.take x127.toNat b0) fun (x150 : List UInt8) =>
  Rx.Bind (codec_AppendInts x150 [n2, n2]) fun (r151 : List UInt8) =>
  Chk ((0 : Int) ≤ x127 ∧ x127 ≤ (↑b0.length : Int))
  (Let (List.take x127.toNat b0) fun (x152 : List UInt8) =>
  Rx.Bind (codec_AppendVec x152 { X := n2, Y := (1 : Int) : Vec }) fun (r153 : List UInt8) =>
  Let (b0 != b0) fun (x154 : Bool) =>
  Let (↑x145.length : Int) fun (x155 : Int) =>
  Let (decide (x155 ≤ x127)) fun (x156 : Bool) =>
  Let (bif x154 then true else x156) fun (x157 : Bool) =>
  Chk ((x157 == false) = true → (0 : Int) ≤ x127 ∧ x127 ≤ (↑r147.length : Int))
  (Let (List.take x127.toNat r147) fun (x158 : List UInt8) =>
  Chk ((x157 == false) = true → (0 : Int) ≤ x127 ∧ x127 ≤ (↑b0.length : Int))
  (Let (List.take x127.toNat b0) fun (x159 : List UInt8) =>
  Let (x158 != x159) fun (x160 : Bool) =>
  Let (bif x157 then true else x160) fun (x161 : Bool) =>
  if x161 = true then some false
  else
  LOOP
  (fun (rec162 : Int × List UInt8 → Option Bool) (s163 : Int × List UInt8) =>
  Let (↑(List.length s163.snd) : Int) fun (x164 : Int) =>
  Let (decide (s163.fst < x164)) fun (x165 : Bool) =>
  if x165 = true then
  Chk ((0 : Int) ≤ s163.fst ∧ s163.fst < (↑(List.length s163.snd) : Int))
  (Chk ((0 : Int) ≤ s163.fst ∧ s163.fst < (↑(List.length s163.snd) : Int))
  (Let (ix s163.snd s163.fst) fun (x166 : UInt8) =>
  Let (x166 + toByte (1 : Int)) fun (x167 : UInt8) =>
  Chk ((0 : Int) ≤ s163.fst ∧ s163.fst < (↑(List.length s163.snd) : Int))
  (Chk ((0 : Int) ≤ s163.fst ∧ s163.fst < (↑(List.length s163.snd) : Int))
  (Let (List.set s163.snd (Int.toNat s163.fst) x167) fun (x168 : List UInt8) =>
  Let (IntKind.i64.wrap (s163.fst + (1 : Int))) fun (x169 : Int) => rec162 (x169, x168)))))
  else
  Let (b0 == b0) fun (x170 : Bool) =>
  Rx.Bind (if (x170 == true) = true then caromlaw07_example else some default) fun (r171 : Bool) =>
  Let (bif x170 then r171 else false) fun (x172 : Bool) => some x172)
  fuel ((0 : Int), x145))))))))))))
  fun (j173 : Int → Option Bool) =>
  Let (decide (n2 < (0 : Int))) fun (x174 : Bool) =>
  if x174 = true then Let (IntKind.i64.wrap (x136 + (16 : Int))) fun (x175 : Int) => j173 x175 else j173 x136)
  fuel ([], r129)))

noncomputable def caromref07_ReadInt (b0 : (List UInt8)) (at1 : Int) : Option (Int × Int × Int) :=
  Let (decide (at1 < (0 : Int))) fun (x176 : Bool) =>
  Let (↑b0.length : Int) fun (x177 : Int) =>
  Let (decide (at1 > x177)) fun (x178 : Bool) =>
  Let (bif x176 then true else x178) fun (x179 : Bool) =>
  if x179 = true then some ((0 : Int), (0 : Int), (2 : Int))
  else
  Let (↑b0.length : Int) fun (x180 : Int) =>
  Let (at1 == x180) fun (x181 : Bool) =>
  if x181 = true then some ((0 : Int), (0 : Int), (4 : Int))
  else
  Chk ((0 : Int) ≤ at1 ∧ at1 < (↑b0.length : Int))
  (Let (ix b0 at1) fun (x182 : UInt8) =>
  Let (↑x182.toNat : Int) fun (x183 : Int) =>
  Let (decide (x183 ≥ (16 : Int))) fun (x184 : Bool) =>
  Join
  (fun (v185 : Int) =>
  Let (decide (v185 > (8 : Int))) fun (x186 : Bool) =>
  Let (decide (v185 < (0 : Int))) fun (x187 : Bool) =>
  Let (bif x186 then true else x187) fun (x188 : Bool) =>
  Let (v185 == (0 : Int)) fun (x189 : Bool) =>
  Let (bif x184 then x189 else false) fun (x190 : Bool) =>
  Let (bif x188 then true else x190) fun (x191 : Bool) =>
  if x191 = true then some ((0 : Int), (0 : Int), (3 : Int))
  else
  Let (↑b0.length : Int) fun (x192 : Int) =>
  Let (IntKind.i64.wrap (x192 - at1)) fun (x193 : Int) =>
  Let (IntKind.i64.wrap (x193 - (1 : Int))) fun (x194 : Int) =>
  Let (decide (x194 < v185)) fun (x195 : Bool) =>
  if x195 = true then some ((0 : Int), (0 : Int), (4 : Int))
  else
  LOOP
  (fun (rec196 : Int × Int → Option (Int × Int × Int)) (s197 : Int × Int) =>
  Let (decide (s197.snd ≤ v185)) fun (x198 : Bool) =>
  if x198 = true then
  Let (IntKind.u64.wrap (s197.fst * (256 : Int))) fun (x199 : Int) =>
  Let (IntKind.i64.wrap (at1 + s197.snd)) fun (x200 : Int) =>
  Chk ((0 : Int) ≤ x200 ∧ x200 < (↑b0.length : Int))
  (Let (ix b0 x200) fun (x201 : UInt8) =>
  Let (↑x201.toNat : Int) fun (x202 : Int) =>
  Let (IntKind.u64.wrap (x199 + x202)) fun (x203 : Int) =>
  Let (IntKind.i64.wrap (s197.snd + (1 : Int))) fun (x204 : Int) => rec196 (x203, x204))
  else
  Let (decide (v185 > (0 : Int))) fun (x205 : Bool) =>
  Let (IntKind.i64.wrap (at1 + (1 : Int))) fun (x206 : Int) =>
  Chk ((x205 == true) = true → (0 : Int) ≤ x206 ∧ x206 < (↑b0.length : Int))
  (Let (ix b0 x206) fun (x207 : UInt8) =>
  Let (x207 == toByte (0 : Int)) fun (x208 : Bool) =>
  Let (bif x205 then x208 else false) fun (x209 : Bool) =>
  Let (!x184) fun (x210 : Bool) =>
  Let (decide (s197.fst > (9223372036854775807 : Int))) fun (x211 : Bool) =>
  Let (bif x210 then x211 else false) fun (x212 : Bool) =>
  Let (bif x209 then true else x212) fun (x213 : Bool) =>
  Let (decide (s197.fst > (9223372036854775808 : Int))) fun (x214 : Bool) =>
  Let (bif x184 then x214 else false) fun (x215 : Bool) =>
  Let (bif x213 then true else x215) fun (x216 : Bool) =>
  if x216 = true then some ((0 : Int), (0 : Int), (3 : Int))
  else
  if x184 = true then
  Let (IntKind.u64.wrap (s197.fst - (1 : Int))) fun (x217 : Int) =>
  Let (IntKind.i64.wrap x217) fun (x218 : Int) =>
  Let (IntKind.i64.wrap ((0 : Int) - x218)) fun (x219 : Int) =>
  Let (IntKind.i64.wrap (x219 - (1 : Int))) fun (x220 : Int) =>
  Let (IntKind.i64.wrap (at1 + (1 : Int))) fun (x221 : Int) =>
  Let (IntKind.i64.wrap (x221 + v185)) fun (x222 : Int) => some (x220, x222, (0 : Int))
  else
  Let (IntKind.i64.wrap s197.fst) fun (x223 : Int) =>
  Let (IntKind.i64.wrap (at1 + (1 : Int))) fun (x224 : Int) =>
  Let (IntKind.i64.wrap (x224 + v185)) fun (x225 : Int) => some (x223, x225, (0 : Int))))
  fuel ((0 : Int), (1 : Int)))
  fun (j226 : Int → Option (Int × Int × Int)) =>
  if x184 = true then Let (IntKind.i64.wrap (x183 - (16 : Int))) fun (x227 : Int) => j226 x227 else j226 x183)

noncomputable def codec_ReadBool (b0 : (List UInt8)) (at1 : Int) : Option (Bool × Int × Int) :=
  Rx.Bind (codec_readByte b0 at1) fun (r228 : UInt8 × Int) =>
  Let (r228.snd != (0 : Int)) fun (x229 : Bool) =>
  if x229 = true then some (false, (0 : Int), r228.snd)
  else
  Let (decide (toByte (1 : Int) < r228.fst)) fun (x230 : Bool) =>
  if x230 = true then some (false, (0 : Int), (3 : Int))
  else
  Let (r228.fst == toByte (1 : Int)) fun (x231 : Bool) =>
  Let (IntKind.i64.wrap (at1 + (1 : Int))) fun (x232 : Int) => some (x231, x232, (0 : Int))

noncomputable def caromref07_ReadBool (b0 : (List UInt8)) (at1 : Int) : Option (Bool × Int × Int) :=
  Let (decide (at1 < (0 : Int))) fun (x233 : Bool) =>
  Let (↑b0.length : Int) fun (x234 : Int) =>
  Let (decide (at1 > x234)) fun (x235 : Bool) =>
  Let (bif x233 then true else x235) fun (x236 : Bool) =>
  if x236 = true then some (false, (0 : Int), (2 : Int))
  else
  Let (↑b0.length : Int) fun (x237 : Int) =>
  Let (at1 == x237) fun (x238 : Bool) =>
  if x238 = true then some (false, (0 : Int), (4 : Int))
  else
  Chk ((0 : Int) ≤ at1 ∧ at1 < (↑b0.length : Int))
  (Let (ix b0 at1) fun (x239 : UInt8) =>
  Let (decide (toByte (1 : Int) < x239)) fun (x240 : Bool) =>
  if x240 = true then some (false, (0 : Int), (3 : Int))
  else
  Chk ((0 : Int) ≤ at1 ∧ at1 < (↑b0.length : Int))
  (Let (ix b0 at1) fun (x241 : UInt8) =>
  Let (x241 == toByte (1 : Int)) fun (x242 : Bool) =>
  Let (IntKind.i64.wrap (at1 + (1 : Int))) fun (x243 : Int) => some (x242, x243, (0 : Int))))

noncomputable def codec_ReadVec (b0 : (List UInt8)) (at1 : Int) : Option (Vec × Int × Int) :=
  Rx.Bind (codec_ReadInt b0 at1) fun (r244 : Int × Int × Int) =>
  Let (r244.snd.snd != (0 : Int)) fun (x245 : Bool) =>
  if x245 = true then some ({ X := (0 : Int), Y := (0 : Int) : Vec }, (0 : Int), r244.snd.snd)
  else
  Rx.Bind (codec_ReadInt b0 r244.snd.fst) fun (r246 : Int × Int × Int) =>
  Let (r246.snd.snd != (0 : Int)) fun (x247 : Bool) =>
  if x247 = true then some ({ X := (0 : Int), Y := (0 : Int) : Vec }, (0 : Int), r246.snd.snd)
  else some ({ X := r244.fst, Y := r246.fst : Vec }, r246.snd.fst, (0 : Int))

noncomputable def caromref07_ReadVec (b0 : (List UInt8)) (at1 : Int) : Option (Vec × Int × Int) :=
  Rx.Bind (caromref07_ReadInt b0 at1) fun (r248 : Int × Int × Int) =>
  Let (r248.snd.snd != (0 : Int)) fun (x249 : Bool) =>
  if x249 = true then some ({ X := (0 : Int), Y := (0 : Int) : Vec }, (0 : Int), r248.snd.snd)
  else
  Rx.Bind (caromref07_ReadInt b0 r248.snd.fst) fun (r250 : Int × Int × Int) =>
  Let (r250.snd.snd != (0 : Int)) fun (x251 : Bool) =>
  if x251 = true then some ({ X := (0 : Int), Y := (0 : Int) : Vec }, (0 : Int), r250.snd.snd)
  else some ({ X := r248.fst, Y := r250.fst : Vec }, r250.snd.fst, (0 : Int))

noncomputable def caromlaw07_CodecScalars (b0 : (List UInt8)) (at1 : Int) : Option Bool :=
  Rx.Bind (caromlaw07_small b0 #[].toList []) fun (r252 : Bool) =>
  Let (!r252) fun (x253 : Bool) =>
  if x253 = true then Rx.Bind caromlaw07_example fun (r254 : Bool) => some r254
  else
  Rx.Bind (codec_ReadInt b0 at1) fun (r255 : Int × Int × Int) =>
  Rx.Bind (caromref07_ReadInt b0 at1) fun (r256 : Int × Int × Int) =>
  Let (r255.fst != r256.fst) fun (x257 : Bool) =>
  Let (r255.snd.fst != r256.snd.fst) fun (x258 : Bool) =>
  Let (bif x257 then true else x258) fun (x259 : Bool) =>
  Let (r255.snd.snd != r256.snd.snd) fun (x260 : Bool) =>
  Let (bif x259 then true else x260) fun (x261 : Bool) =>
  if x261 = true then some false
  else
  Rx.Bind (codec_ReadBool b0 at1) fun (r262 : Bool × Int × Int) =>
  Rx.Bind (caromref07_ReadBool b0 at1) fun (r263 : Bool × Int × Int) =>
  Let (r262.fst != r263.fst) fun (x264 : Bool) =>
  Let (r262.snd.fst != r263.snd.fst) fun (x265 : Bool) =>
  Let (bif x264 then true else x265) fun (x266 : Bool) =>
  Let (r262.snd.snd != r263.snd.snd) fun (x267 : Bool) =>
  Let (bif x266 then true else x267) fun (x268 : Bool) =>
  if x268 = true then some false
  else
  Rx.Bind (codec_ReadVec b0 at1) fun (r269 : Vec × Int × Int) =>
  Rx.Bind (caromref07_ReadVec b0 at1) fun (r270 : Vec × Int × Int) =>
  Let (decide (r269.fst.X = r270.fst.X) && decide (r269.fst.Y = r270.fst.Y)) fun (x271 : Bool) =>
  Let (r269.snd.fst == r270.snd.fst) fun (x272 : Bool) =>
  Let (bif x271 then x272 else false) fun (x273 : Bool) =>
  Let (r269.snd.snd == r270.snd.snd) fun (x274 : Bool) =>
  Let (bif x273 then x274 else false) fun (x275 : Bool) =>
  Rx.Bind (if (x275 == true) = true then caromlaw07_example else some default) fun (r276 : Bool) =>
  Let (bif x275 then r276 else false) fun (x277 : Bool) => some x277

noncomputable def codec_readLength (b0 : (List UInt8)) (at1 : Int) (limit2 : Int) : Option (Int × Int × Int) :=
  Rx.Bind (codec_ReadInt b0 at1) fun (r278 : Int × Int × Int) =>
  Let (r278.snd.snd != (0 : Int)) fun (x279 : Bool) =>
  if x279 = true then some ((0 : Int), (0 : Int), r278.snd.snd)
  else
  Let (decide (r278.fst < (0 : Int))) fun (x280 : Bool) =>
  if x280 = true then some ((0 : Int), (0 : Int), (3 : Int))
  else
  Let (max limit2 (0 : Int)) fun (x281 : Int) =>
  Let (decide (r278.fst > x281)) fun (x282 : Bool) =>
  if x282 = true then some ((0 : Int), (0 : Int), (5 : Int)) else some (r278.fst, r278.snd.fst, (0 : Int))

noncomputable def codec_ReadString (b0 : (List UInt8)) (at1 : Int) (limit2 : Int) : Option ((List UInt8) × Int × Int) :=
  Rx.Bind (codec_readLength b0 at1 limit2) fun (r283 : Int × Int × Int) =>
  Let (r283.snd.snd != (0 : Int)) fun (x284 : Bool) =>
  if x284 = true then some (#[].toList, (0 : Int), r283.snd.snd)
  else
  Let (↑b0.length : Int) fun (x285 : Int) =>
  Let (IntKind.i64.wrap (x285 - r283.snd.fst)) fun (x286 : Int) =>
  Let (decide (r283.fst > x286)) fun (x287 : Bool) =>
  if x287 = true then some (#[].toList, (0 : Int), (4 : Int))
  else
  Let (IntKind.i64.wrap (r283.snd.fst + r283.fst)) fun (x288 : Int) =>
  Chk ((0 : Int) ≤ r283.snd.fst ∧ r283.snd.fst ≤ x288 ∧ x288 ≤ (↑b0.length : Int))
  (Let (sub b0 r283.snd.fst x288) fun (x289 : List UInt8) =>
  Let (IntKind.i64.wrap (r283.snd.fst + r283.fst)) fun (x290 : Int) => some (x289, x290, (0 : Int)))

noncomputable def caromref07_length (b0 : (List UInt8)) (at1 : Int) (most2 : Int) : Option (Int × Int × Int) :=
  Rx.Bind (caromref07_ReadInt b0 at1) fun (r291 : Int × Int × Int) =>
  Let (r291.snd.snd != (0 : Int)) fun (x292 : Bool) =>
  if x292 = true then some ((0 : Int), (0 : Int), r291.snd.snd)
  else
  Let (decide (r291.fst < (0 : Int))) fun (x293 : Bool) =>
  if x293 = true then some ((0 : Int), (0 : Int), (3 : Int))
  else
  Let (max most2 (0 : Int)) fun (x294 : Int) =>
  Let (decide (r291.fst > x294)) fun (x295 : Bool) =>
  if x295 = true then some ((0 : Int), (0 : Int), (5 : Int)) else some (r291.fst, r291.snd.fst, (0 : Int))

noncomputable def caromref07_ReadString (b0 : (List UInt8)) (at1 : Int) (most2 : Int) : Option ((List UInt8) × Int × Int) :=
  Rx.Bind (caromref07_length b0 at1 most2) fun (r296 : Int × Int × Int) =>
  Let (r296.snd.snd != (0 : Int)) fun (x297 : Bool) =>
  if x297 = true then some (#[].toList, (0 : Int), r296.snd.snd)
  else
  Let (↑b0.length : Int) fun (x298 : Int) =>
  Let (IntKind.i64.wrap (x298 - r296.snd.fst)) fun (x299 : Int) =>
  Let (decide (x299 < r296.fst)) fun (x300 : Bool) =>
  if x300 = true then some (#[].toList, (0 : Int), (4 : Int))
  else
  Let (IntKind.i64.wrap (r296.snd.fst + r296.fst)) fun (x301 : Int) =>
  Chk ((0 : Int) ≤ r296.snd.fst ∧ r296.snd.fst ≤ x301 ∧ x301 ≤ (↑b0.length : Int))
  (Let (sub b0 r296.snd.fst x301) fun (x302 : List UInt8) =>
  Let (IntKind.i64.wrap (r296.snd.fst + r296.fst)) fun (x303 : Int) => some (x302, x303, (0 : Int)))

noncomputable def caromref07_abs (n0 : Int) : Option Int :=
  Let (decide (n0 < (0 : Int))) fun (x304 : Bool) =>
  if x304 = true then
  Let (IntKind.i64.wrap (n0 + (1 : Int))) fun (x305 : Int) =>
  Let (IntKind.i64.wrap ((0 : Int) - x305)) fun (x306 : Int) =>
  Let (IntKind.u64.wrap x306) fun (x307 : Int) => Let (IntKind.u64.wrap (x307 + (1 : Int))) fun (x308 : Int) => some x308
  else Let (IntKind.u64.wrap n0) fun (x309 : Int) => some x309

noncomputable def caromref07_AppendInt (b0 : (List UInt8)) (n1 : Int) : Option (List UInt8) :=
  Rx.Bind (caromref07_abs n1) fun (r310 : Int) =>
  LOOP
  (fun (rec311 : List UInt8 × Int → Option (List UInt8)) (s312 : List UInt8 × Int) =>
  Let (decide (s312.snd > (0 : Int))) fun (x313 : Bool) =>
  if x313 = true then
  Let (Int.tmod s312.snd (256 : Int)) fun (x314 : Int) =>
  Let (toByte x314) fun (x315 : UInt8) =>
  Chk (([x315].length + List.length s312.fst) * (1 : Nat) ≤ (140737488355328 : Nat))
  (Let ([x315] ++ s312.fst) fun (x316 : List UInt8) =>
  Let (IntKind.u64.wrap (Int.tdiv s312.snd (256 : Int))) fun (x317 : Int) => rec311 (x316, x317))
  else
  Let (↑(List.length s312.fst) : Int) fun (x318 : Int) =>
  Let (toByte x318) fun (x319 : UInt8) =>
  Join
  (fun (v320 : UInt8) =>
  Chk (b0.length * (1 : Nat) ≤ (140737488355328 : Nat))
  (Chk ((b0.length + [v320].length) * (1 : Nat) ≤ (140737488355328 : Nat))
  (Let (b0 ++ [v320]) fun (x321 : List UInt8) =>
  Chk ((x321.length + List.length s312.fst) * (1 : Nat) ≤ (140737488355328 : Nat))
  (Let (x321 ++ s312.fst) fun (x322 : List UInt8) => some x322))))
  fun (j323 : UInt8 → Option (List UInt8)) =>
  Let (decide (n1 < (0 : Int))) fun (x324 : Bool) =>
  if x324 = true then Let (x319 + toByte (16 : Int)) fun (x325 : UInt8) => j323 x325 else j323 x319)
  fuel ([], r310)

noncomputable def caromref07_AppendString (b0 : (List UInt8)) (s1 : (List UInt8)) : Option (List UInt8) :=
  Let (↑s1.length : Int) fun (x326 : Int) =>
  Rx.Bind (caromref07_AppendInt b0 x326) fun (r327 : List UInt8) =>
  Chk ((r327.length + s1.length) * (1 : Nat) ≤ (140737488355328 : Nat))
  (Let (r327 ++ s1) fun (x328 : List UInt8) => some x328)

noncomputable def caromlaw07_CodecStrings (b0 : (List UInt8)) (s1 : (List UInt8)) (at2 : Int) (most3 : Int) : Option Bool :=
  Rx.Bind (caromlaw07_small b0 s1 []) fun (r329 : Bool) =>
  Let (!r329) fun (x330 : Bool) =>
  if x330 = true then Rx.Bind caromlaw07_example fun (r331 : Bool) => some r331
  else
  Rx.Bind (codec_AppendString b0 s1) fun (r332 : List UInt8) =>
  Let (↑b0.length : Int) fun (x333 : Int) =>
  Rx.Bind (codec_ReadString r332 x333 most3) fun (r334 : List UInt8 × Int × Int) =>
  Join
  (fun (v335 : PUnit) =>
  Rx.Bind (codec_ReadString b0 at2 most3) fun (r336 : List UInt8 × Int × Int) =>
  Rx.Bind (caromref07_ReadString b0 at2 most3) fun (r337 : List UInt8 × Int × Int) =>
  Let (r336.fst == r337.fst) fun (x338 : Bool) =>
  Let (r336.snd.fst == r337.snd.fst) fun (x339 : Bool) =>
  Let (bif x338 then x339 else false) fun (x340 : Bool) =>
  Let (r336.snd.snd == r337.snd.snd) fun (x341 : Bool) =>
  Let (bif x340 then x341 else false) fun (x342 : Bool) =>
  Rx.Bind (if (x342 == true) = true then caromref07_AppendString b0 s1 else some default) fun (r343 : List UInt8) =>
  Let (r332 == r343) fun (x344 : Bool) =>
  Let (bif x342 then x344 else false) fun (x345 : Bool) =>
  Rx.Bind (if (x345 == true) = true then caromlaw07_example else some default) fun (r346 : Bool) =>
  Let (bif x345 then r346 else false) fun (x347 : Bool) => some x347)
  fun (j348 : PUnit → Option Bool) =>
  Let (↑s1.length : Int) fun (x349 : Int) =>
  Let (max most3 (0 : Int)) fun (x350 : Int) =>
  Let (decide (x349 > x350)) fun (x351 : Bool) =>
  if x351 = true then
  Let (r334.fst != #[].toList) fun (x352 : Bool) =>
  Let (r334.snd.fst != (0 : Int)) fun (x353 : Bool) =>
  Let (bif x352 then true else x353) fun (x354 : Bool) =>
  Let (r334.snd.snd != (5 : Int)) fun (x355 : Bool) =>
  Let (bif x354 then true else x355) fun (x356 : Bool) => if x356 = true then some false else j348 ()
  else
  Let (r334.fst != s1) fun (x357 : Bool) =>
  Let (↑r332.length : Int) fun (x358 : Int) =>
  Let (r334.snd.fst != x358) fun (x359 : Bool) =>
  Let (bif x357 then true else x359) fun (x360 : Bool) =>
  Let (r334.snd.snd != (0 : Int)) fun (x361 : Bool) =>
  Let (bif x360 then true else x361) fun (x362 : Bool) => if x362 = true then some false else j348 ()

noncomputable def codec_ReadInts (b0 : (List UInt8)) (at1 : Int) (limit2 : Int) : Option ((List Int) × Int × Int) :=
  Rx.Bind (codec_readLength b0 at1 limit2) fun (r363 : Int × Int × Int) =>
  Let (r363.snd.snd != (0 : Int)) fun (x364 : Bool) =>
  if x364 = true then some ([], (0 : Int), r363.snd.snd)
  else
  LOOP
  (fun (rec365 : Int × List Int × Int → Option (List Int × Int × Int)) (s366 : Int × List Int × Int) =>
  Let (decide (s366.snd.snd < r363.fst)) fun (x367 : Bool) =>
  if x367 = true then
  Rx.Bind (codec_ReadInt b0 s366.fst) fun (r368 : Int × Int × Int) =>
  Let (r368.snd.snd != (0 : Int)) fun (x369 : Bool) =>
  if x369 = true then some ([], (0 : Int), r368.snd.snd)
  else
  Chk ((List.length s366.snd.fst + [r368.fst].length) * (8 : Nat) ≤ (140737488355328 : Nat))
  (Let (s366.snd.fst ++ [r368.fst]) fun (x370 : List Int) =>
  Let (IntKind.i64.wrap (s366.snd.snd + (1 : Int))) fun (x371 : Int) => rec365 (r368.snd.fst, x370, x371))
  else some (s366.snd.fst, s366.fst, (0 : Int)))
  fuel (r363.snd.fst, [], (0 : Int))

noncomputable def caromref07_ReadInts (b0 : (List UInt8)) (at1 : Int) (most2 : Int) : Option ((List Int) × Int × Int) :=
  Rx.Bind (caromref07_length b0 at1 most2) fun (r372 : Int × Int × Int) =>
  Let (r372.snd.snd != (0 : Int)) fun (x373 : Bool) =>
  if x373 = true then some ([], (0 : Int), r372.snd.snd)
  else
  LOOP
  (fun (rec374 : Int × List Int × Int → Option (List Int × Int × Int)) (s375 : Int × List Int × Int) =>
  Let (decide (s375.snd.snd < r372.fst)) fun (x376 : Bool) =>
  if x376 = true then
  Rx.Bind (caromref07_ReadInt b0 s375.fst) fun (r377 : Int × Int × Int) =>
  Let (r377.snd.snd != (0 : Int)) fun (x378 : Bool) =>
  if x378 = true then some ([], (0 : Int), r377.snd.snd)
  else
  Chk ((List.length s375.snd.fst + [r377.fst].length) * (8 : Nat) ≤ (140737488355328 : Nat))
  (Let (s375.snd.fst ++ [r377.fst]) fun (x379 : List Int) =>
  Let (IntKind.i64.wrap (s375.snd.snd + (1 : Int))) fun (x380 : Int) => rec374 (r377.snd.fst, x379, x380))
  else some (s375.snd.fst, s375.fst, (0 : Int)))
  fuel (r372.snd.fst, [], (0 : Int))

noncomputable def caromref07_Ints (a0 : (List Int)) (b1 : (List Int)) : Option Bool :=
  Let (↑a0.length : Int) fun (x381 : Int) =>
  Let (↑b1.length : Int) fun (x382 : Int) =>
  Let (x381 != x382) fun (x383 : Bool) =>
  if x383 = true then some false
  else
  LOOP
  (fun (rec384 : Int → Option Bool) (s385 : Int) =>
  Let (↑a0.length : Int) fun (x386 : Int) =>
  Let (decide (s385 < x386)) fun (x387 : Bool) =>
  if x387 = true then
  Chk ((0 : Int) ≤ s385 ∧ s385 < (↑a0.length : Int))
  (Let (ix a0 s385) fun (x388 : Int) =>
  Chk ((0 : Int) ≤ s385 ∧ s385 < (↑b1.length : Int))
  (Let (ix b1 s385) fun (x389 : Int) =>
  Let (x388 != x389) fun (x390 : Bool) =>
  if x390 = true then some false else Let (IntKind.i64.wrap (s385 + (1 : Int))) fun (x391 : Int) => rec384 x391))
  else some true)
  fuel (0 : Int)

noncomputable def caromref07_AppendInts (b0 : (List UInt8)) (l1 : (List Int)) : Option (List UInt8) :=
  Let (↑l1.length : Int) fun (x392 : Int) =>
  Rx.Bind (caromref07_AppendInt b0 x392) fun (r393 : List UInt8) =>
  LOOP
  (fun (rec394 : List UInt8 × Int → Option (List UInt8)) (s395 : List UInt8 × Int) =>
  Let (↑l1.length : Int) fun (x396 : Int) =>
  Let (decide (s395.snd < x396)) fun (x397 : Bool) =>
  if x397 = true then
  Chk ((0 : Int) ≤ s395.snd ∧ s395.snd < (↑l1.length : Int))
  (Let (ix l1 s395.snd) fun (x398 : Int) =>
  Rx.Bind (caromref07_AppendInt [] x398) fun (r399 : List UInt8) =>
  Chk ((List.length s395.fst + r399.length) * (1 : Nat) ≤ (140737488355328 : Nat))
  (Let (s395.fst ++ r399) fun (x400 : List UInt8) =>
  Let (IntKind.i64.wrap (s395.snd + (1 : Int))) fun (x401 : Int) => rec394 (x400, x401)))
  else some s395.fst)
  fuel (r393, (0 : Int))

noncomputable def caromlaw07_CodecSlices (b0 : (List UInt8)) (at1 : Int) (most2 : Int) (l3 : (List Int)) : Option Bool :=
  Rx.Bind (caromlaw07_small b0 #[].toList l3) fun (r402 : Bool) =>
  Let (!r402) fun (x403 : Bool) =>
  if x403 = true then Rx.Bind caromlaw07_example fun (r404 : Bool) => some r404
  else
  Rx.Bind (codec_ReadInts b0 at1 most2) fun (r405 : List Int × Int × Int) =>
  Rx.Bind (caromref07_ReadInts b0 at1 most2) fun (r406 : List Int × Int × Int) =>
  Rx.Bind (caromref07_Ints r405.fst r406.fst) fun (r407 : Bool) =>
  Let (r405.snd.fst == r406.snd.fst) fun (x408 : Bool) =>
  Let (bif r407 then x408 else false) fun (x409 : Bool) =>
  Let (r405.snd.snd == r406.snd.snd) fun (x410 : Bool) =>
  Let (bif x409 then x410 else false) fun (x411 : Bool) =>
  Rx.Bind (if (x411 == true) = true then codec_AppendInts b0 l3 else some default) fun (r412 : List UInt8) =>
  Rx.Bind (if (x411 == true) = true then caromref07_AppendInts b0 l3 else some default) fun (r413 : List UInt8) =>
  Let (r412 == r413) fun (x414 : Bool) =>
  Let (bif x411 then x414 else false) fun (x415 : Bool) =>
  Rx.Bind (if (x415 == true) = true then caromlaw07_example else some default) fun (r416 : Bool) =>
  Let (bif x415 then r416 else false) fun (x417 : Bool) => some x417

noncomputable def caromlaw07_CodecUnique (b0 : (List UInt8)) (at1 : Int) : Option Bool :=
  Rx.Bind (caromlaw07_small b0 #[].toList []) fun (r418 : Bool) =>
  Let (!r418) fun (x419 : Bool) =>
  if x419 = true then Rx.Bind caromlaw07_example fun (r420 : Bool) => some r420
  else
  Rx.Bind (codec_ReadInt b0 at1) fun (r421 : Int × Int × Int) =>
  Let (r421.snd.snd == (0 : Int)) fun (x422 : Bool) =>
  Let (decide (r421.snd.fst ≤ at1)) fun (x423 : Bool) =>
  Let (↑b0.length : Int) fun (x424 : Int) =>
  Let (decide (r421.snd.fst > x424)) fun (x425 : Bool) =>
  Let (bif x423 then true else x425) fun (x426 : Bool) =>
  Chk ((x422 == true && x426 == false) = true → (0 : Int) ≤ at1 ∧ at1 ≤ (↑b0.length : Int))
  (Let (List.take at1.toNat b0) fun (x427 : List UInt8) =>
  Rx.Bind (if (x422 == true && x426 == false) = true then codec_AppendInt x427 r421.fst else some default)
  fun (r428 : List UInt8) =>
  Chk ((x422 == true && x426 == false) = true → (0 : Int) ≤ r421.snd.fst ∧ r421.snd.fst ≤ (↑b0.length : Int))
  (Let (List.take (Int.toNat r421.snd.fst) b0) fun (x429 : List UInt8) =>
  Let (r428 != x429) fun (x430 : Bool) =>
  Let (bif x426 then true else x430) fun (x431 : Bool) =>
  Let (bif x422 then x431 else false) fun (x432 : Bool) =>
  if x432 = true then some false
  else
  Rx.Bind (codec_ReadString b0 at1 (3000 : Int)) fun (r433 : List UInt8 × Int × Int) =>
  Let (r433.snd.snd == (0 : Int)) fun (x434 : Bool) =>
  Let (decide (r433.snd.fst ≤ at1)) fun (x435 : Bool) =>
  Let (↑b0.length : Int) fun (x436 : Int) =>
  Let (decide (r433.snd.fst > x436)) fun (x437 : Bool) =>
  Let (bif x435 then true else x437) fun (x438 : Bool) =>
  Chk ((x434 == true && x438 == false) = true → (0 : Int) ≤ at1 ∧ at1 ≤ (↑b0.length : Int))
  (Let (List.take at1.toNat b0) fun (x439 : List UInt8) =>
  Rx.Bind (if (x434 == true && x438 == false) = true then codec_AppendString x439 r433.fst else some default)
  fun (r440 : List UInt8) =>
  Chk ((x434 == true && x438 == false) = true → (0 : Int) ≤ r433.snd.fst ∧ r433.snd.fst ≤ (↑b0.length : Int))
  (Let (List.take (Int.toNat r433.snd.fst) b0) fun (x441 : List UInt8) =>
  Let (r440 != x441) fun (x442 : Bool) =>
  Let (bif x438 then true else x442) fun (x443 : Bool) =>
  Let (bif x434 then x443 else false) fun (x444 : Bool) =>
  if x444 = true then some false
  else
  Rx.Bind (codec_ReadInts b0 at1 (3000 : Int)) fun (r445 : List Int × Int × Int) =>
  Let (r445.snd.snd == (0 : Int)) fun (x446 : Bool) =>
  Let (decide (r445.snd.fst ≤ at1)) fun (x447 : Bool) =>
  Let (↑b0.length : Int) fun (x448 : Int) =>
  Let (decide (r445.snd.fst > x448)) fun (x449 : Bool) =>
  Let (bif x447 then true else x449) fun (x450 : Bool) =>
  Chk ((x446 == true && x450 == false) = true → (0 : Int) ≤ at1 ∧ at1 ≤ (↑b0.length : Int))
  (Let (List.take at1.toNat b0) fun (x451 : List UInt8) =>
  Rx.Bind (if (x446 == true && x450 == false) = true then codec_AppendInts x451 r445.fst else some default)
  fun (r452 : List UInt8) =>
  Chk ((x446 == true && x450 == false) = true → (0 : Int) ≤ r445.snd.fst ∧ r445.snd.fst ≤ (↑b0.length : Int))
  (Let (List.take (Int.toNat r445.snd.fst) b0) fun (x453 : List UInt8) =>
  Let (r452 != x453) fun (x454 : Bool) =>
  Let (bif x450 then true else x454) fun (x455 : Bool) =>
  Let (bif x446 then x455 else false) fun (x456 : Bool) =>
  if x456 = true then some false else Rx.Bind caromlaw07_example fun (r457 : Bool) => some r457))))))

noncomputable def caromlaw07_CodecRoundTrip (b0 : (List UInt8)) (n1 : Int) (x2 : Bool) (l3 : (List Int)) (more4 : (List UInt8)) : Option Bool :=
  Rx.Bind (caromlaw07_small b0 #[].toList l3) fun (r458 : Bool) =>
  Let (!r458) fun (x459 : Bool) =>
  Let (↑more4.length : Int) fun (x460 : Int) =>
  Let (decide (x460 > (2000 : Int))) fun (x461 : Bool) =>
  Let (bif x459 then true else x461) fun (x462 : Bool) =>
  if x462 = true then Rx.Bind caromlaw07_example fun (r463 : Bool) => some r463
  else Let (↑b0.length : Int) fun (x464 : Int) => Rx.Bind (codec_AppendInt b0 n1) fun (r465 : List UInt8) => none

end GoForm
