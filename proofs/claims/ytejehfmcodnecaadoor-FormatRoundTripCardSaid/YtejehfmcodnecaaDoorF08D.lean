/- The functions' plain forms. Printed by go3.py. No conditions. -/
import Derived.Test.YtejehfmcodnecaaDoorF08T
set_option linter.all false
set_option maxRecDepth 100000
open Go Go.Rx Go.Proofs Go.RowKit
namespace GoForm

noncomputable def format_FormatInt (n0 : Int) : Option (List UInt8) :=
  Let (IntKind.u64.wrap n0) fun (x1 : Int) =>
  Join
  (fun (v2 : Int) =>
  LOOP
  (fun (rec3 : Int × Int × List UInt8 → Option (List UInt8)) (s4 : Int × Int × List UInt8) =>
  Let (IntKind.i64.wrap (s4.snd.fst - (1 : Int))) fun (x5 : Int) =>
  Let (Int.tmod s4.fst (10 : Int)) fun (x6 : Int) =>
  Let (IntKind.u64.wrap ((48 : Int) + x6)) fun (x7 : Int) =>
  Let (toByte x7) fun (x8 : UInt8) =>
  Chk ((0 : Int) ≤ x5 ∧ x5 < (↑(20 : Nat) : Int))
  (Chk ((0 : Int) ≤ x5 ∧ x5 < (↑(List.length s4.snd.snd) : Int))
  (Let (List.set s4.snd.snd x5.toNat x8) fun (x9 : List UInt8) =>
  Let (IntKind.u64.wrap (Int.tdiv s4.fst (10 : Int))) fun (x10 : Int) =>
  Let (x10 == (0 : Int)) fun (x11 : Bool) =>
  if x11 = true then
  Join
  (fun (v12 : Int × List UInt8) =>
  Chk
  ((0 : Int) ≤ (some v12.fst).getD (0 : Int) ∧
  (0 : Int) ≤ none.getD (0 : Int) ∧
  Int.toNat v12.fst ≤ (20 : Nat) ∧ (20 : Nat) ≤ (20 : Nat) ∧ (20 : Nat) ≤ List.length v12.snd)
  (Chk (Int.toNat v12.fst + ((20 : Nat) - Int.toNat v12.fst) ≤ List.length v12.snd)
  (some (List.take ((20 : Nat) - Int.toNat v12.fst) (List.drop (Int.toNat v12.fst) v12.snd)))))
  fun (j13 : Int × List UInt8 → Option (List UInt8)) =>
  Let (decide (n0 < (0 : Int))) fun (x14 : Bool) =>
  if x14 = true then
  Let (IntKind.i64.wrap (x5 - (1 : Int))) fun (x15 : Int) =>
  Chk ((0 : Int) ≤ x15 ∧ x15 < (↑(20 : Nat) : Int))
  (Chk ((0 : Int) ≤ x15 ∧ x15 < (↑x9.length : Int))
  (Let (x9.set x15.toNat (toByte (45 : Int))) fun (x16 : List UInt8) => j13 (x15, x16)))
  else j13 (x5, x9)
  else rec3 (x10, x5, x9))))
  fuel
  (v2, (20 : Int),
  [toByte (0 : Int), toByte (0 : Int), toByte (0 : Int), toByte (0 : Int), toByte (0 : Int), toByte (0 : Int),
  toByte (0 : Int), toByte (0 : Int), toByte (0 : Int), toByte (0 : Int), toByte (0 : Int), toByte (0 : Int),
  toByte (0 : Int), toByte (0 : Int), toByte (0 : Int), toByte (0 : Int), toByte (0 : Int), toByte (0 : Int),
  toByte (0 : Int), toByte (0 : Int)]))
  fun (j17 : Int → Option (List UInt8)) =>
  Let (decide (n0 < (0 : Int))) fun (x18 : Bool) =>
  if x18 = true then Let (IntKind.u64.wrap ((0 : Int) - x1)) fun (x19 : Int) => j17 x19 else j17 x1

noncomputable def caromref08_digits (n0 : Int) : Option (List UInt8) :=
  LOOP
  (fun (rec20 : Int × List UInt8 → Option (List UInt8)) (s21 : Int × List UInt8) =>
  Let (s21.fst != (0 : Int)) fun (x22 : Bool) =>
  if x22 = true then
  Let (Int.tmod s21.fst (10 : Int)) fun (x23 : Int) =>
  Join
  (fun (v24 : Int) =>
  Let (IntKind.i64.wrap (v24 + (1 : Int))) fun (x25 : Int) =>
  Chk ((0 : Int) ≤ v24 ∧ v24 ≤ x25 ∧ x25 ≤ (↑(10 : Nat) : Int))
  (Let
  (sub
  #[(48 : UInt8), (49 : UInt8), (50 : UInt8), (51 : UInt8), (52 : UInt8), (53 : UInt8), (54 : UInt8), (55 : UInt8),
  (56 : UInt8), (57 : UInt8)].toList
  v24 x25)
  fun (x26 : List UInt8) =>
  Chk (x26.length + List.length s21.snd ≤ (9223372036854775807 : Nat))
  (Let (x26 ++ s21.snd) fun (x27 : List UInt8) =>
  Let (IntKind.i64.wrap (Int.tdiv s21.fst (10 : Int))) fun (x28 : Int) => rec20 (x28, x27))))
  fun (j29 : Int → Option (List UInt8)) =>
  Let (decide (x23 < (0 : Int))) fun (x30 : Bool) =>
  if x30 = true then Let (IntKind.i64.wrap ((0 : Int) - x23)) fun (x31 : Int) => j29 x31 else j29 x23
  else some s21.snd)
  fuel (n0, #[].toList)

noncomputable def caromref08_FormatInt (n0 : Int) : Option (List UInt8) :=
  Let (n0 == (0 : Int)) fun (x32 : Bool) =>
  if x32 = true then some #[(48 : UInt8)].toList
  else
  Let (decide (n0 < (0 : Int))) fun (x33 : Bool) =>
  if x33 = true then
  Rx.Bind (caromref08_digits n0) fun (r34 : List UInt8) =>
  Chk ((1 : Nat) + r34.length ≤ (9223372036854775807 : Nat))
  (Let (#[(45 : UInt8)].toList ++ r34) fun (x35 : List UInt8) => some x35)
  else Rx.Bind (caromref08_digits n0) fun (r36 : List UInt8) => some r36

noncomputable def format_FormatFixed (x0 : Int) : Option (List UInt8) :=
  Let (x0 != (0 : Int)) fun (x37 : Bool) =>
  Let (x0.tmod (65536 : Int)) fun (x38 : Int) =>
  Let (x38 == (0 : Int)) fun (x39 : Bool) =>
  Let (bif x37 then x39 else false) fun (x40 : Bool) =>
  if x40 = true then
  Let (IntKind.i64.wrap (x0.tdiv (65536 : Int))) fun (x41 : Int) =>
  Rx.Bind (format_FormatInt x41) fun (r42 : List UInt8) =>
  Chk (r42.length + (1 : Nat) ≤ (9223372036854775807 : Nat))
  (Let (r42 ++ #[(117 : UInt8)].toList) fun (x43 : List UInt8) => some x43)
  else Rx.Bind (format_FormatInt x0) fun (r44 : List UInt8) => some r44

noncomputable def caromref08_FormatFixed (x0 : Int) : Option (List UInt8) :=
  Let (x0 != (0 : Int)) fun (x45 : Bool) =>
  Let (x0.tmod (65536 : Int)) fun (x46 : Int) =>
  Let (x46 == (0 : Int)) fun (x47 : Bool) =>
  Let (bif x45 then x47 else false) fun (x48 : Bool) =>
  if x48 = true then
  Let (IntKind.i64.wrap (x0.tdiv (65536 : Int))) fun (x49 : Int) =>
  Rx.Bind (caromref08_FormatInt x49) fun (r50 : List UInt8) =>
  Chk (r50.length + (1 : Nat) ≤ (9223372036854775807 : Nat))
  (Let (r50 ++ #[(117 : UInt8)].toList) fun (x51 : List UInt8) => some x51)
  else Rx.Bind (caromref08_FormatInt x0) fun (r52 : List UInt8) => some r52

noncomputable def stringslite_HasSuffix (s0 : (List UInt8)) (suffix1 : (List UInt8)) : Option Bool :=
  Let (↑s0.length : Int) fun (x53 : Int) =>
  Let (↑suffix1.length : Int) fun (x54 : Int) =>
  Let (decide (x53 ≥ x54)) fun (x55 : Bool) =>
  Let (↑s0.length : Int) fun (x56 : Int) =>
  Let (↑suffix1.length : Int) fun (x57 : Int) =>
  Let (IntKind.i64.wrap (x56 - x57)) fun (x58 : Int) =>
  Chk ((x55 == true) = true → (0 : Int) ≤ x58 ∧ x58 ≤ (↑s0.length : Int))
  (Let (List.drop x58.toNat s0) fun (x59 : List UInt8) =>
  Let (x59 == suffix1) fun (x60 : Bool) => Let (bif x55 then x60 else false) fun (x61 : Bool) => some x61)

noncomputable def stringslite_CutSuffix (s0 : (List UInt8)) (suffix1 : (List UInt8)) : Option ((List UInt8) × Bool) :=
  Rx.Bind (stringslite_HasSuffix s0 suffix1) fun (r62 : Bool) =>
  Let (!r62) fun (x63 : Bool) =>
  if x63 = true then some (s0, false)
  else
  Let (↑s0.length : Int) fun (x64 : Int) =>
  Let (↑suffix1.length : Int) fun (x65 : Int) =>
  Let (IntKind.i64.wrap (x64 - x65)) fun (x66 : Int) =>
  Chk ((0 : Int) ≤ x66 ∧ x66 ≤ (↑s0.length : Int))
  (Let (List.take x66.toNat s0) fun (x67 : List UInt8) => some (x67, true))

noncomputable def strings_CutSuffix (s0 : (List UInt8)) (suffix1 : (List UInt8)) : Option ((List UInt8) × Bool) :=
  Rx.Bind (stringslite_CutSuffix s0 suffix1) fun (r68 : List UInt8 × Bool) => some r68

noncomputable def stringslite_HasPrefix (s0 : (List UInt8)) (prefix1 : (List UInt8)) : Option Bool :=
  Let (↑s0.length : Int) fun (x69 : Int) =>
  Let (↑prefix1.length : Int) fun (x70 : Int) =>
  Let (decide (x69 ≥ x70)) fun (x71 : Bool) =>
  Let (↑prefix1.length : Int) fun (x72 : Int) =>
  Chk ((x71 == true) = true → (0 : Int) ≤ x72 ∧ x72 ≤ (↑s0.length : Int))
  (Let (List.take x72.toNat s0) fun (x73 : List UInt8) =>
  Let (x73 == prefix1) fun (x74 : Bool) => Let (bif x71 then x74 else false) fun (x75 : Bool) => some x75)

noncomputable def stringslite_CutPrefix (s0 : (List UInt8)) (prefix1 : (List UInt8)) : Option ((List UInt8) × Bool) :=
  Rx.Bind (stringslite_HasPrefix s0 prefix1) fun (r76 : Bool) =>
  Let (!r76) fun (x77 : Bool) =>
  if x77 = true then some (s0, false)
  else
  Let (↑prefix1.length : Int) fun (x78 : Int) =>
  Chk ((0 : Int) ≤ x78 ∧ x78 ≤ (↑s0.length : Int))
  (Let (List.drop x78.toNat s0) fun (x79 : List UInt8) => some (x79, true))

noncomputable def strings_CutPrefix (s0 : (List UInt8)) (prefix1 : (List UInt8)) : Option ((List UInt8) × Bool) :=
  Rx.Bind (stringslite_CutPrefix s0 prefix1) fun (r80 : List UInt8 × Bool) => some r80

noncomputable def format_parseDecimal (s0 : (List UInt8)) : Option (format_decimal × Bool) :=
  Rx.Bind (strings_CutPrefix s0 #[(45 : UInt8)].toList) fun (r81 : List UInt8 × Bool) =>
  Let (r81.fst == #[].toList) fun (x82 : Bool) =>
  Chk ((x82 == false) = true → (0 : Int) ≤ (0 : Int) ∧ (0 : Int) < (↑(List.length r81.fst) : Int))
  (Let (ix r81.fst (0 : Int)) fun (x83 : UInt8) =>
  Let (x83 == toByte (48 : Int)) fun (x84 : Bool) =>
  Let (s0 != #[(48 : UInt8)].toList) fun (x85 : Bool) =>
  Let (bif x84 then x85 else false) fun (x86 : Bool) =>
  Let (bif x82 then true else x86) fun (x87 : Bool) =>
  if x87 = true then some ({ negative := false, magnitude := (0 : Int), unit := (0 : Int) : format_decimal }, false)
  else
  LOOP
  (fun (rec88 : format_decimal × format_decimal × List UInt8 × Nat → Option (format_decimal × Bool))
  (s89 : format_decimal × format_decimal × List UInt8 × Nat) =>
  if decide (s89.snd.snd.snd < s89.snd.snd.fst.length) = true then
  Let (decide ((↑(Utf8.decode { data := s89.snd.snd.fst.toArray : ByteArray } s89.snd.snd.snd).fst : Int) < (48 : Int)))
  fun (x90 : Bool) =>
  Let (decide ((↑(Utf8.decode { data := s89.snd.snd.fst.toArray : ByteArray } s89.snd.snd.snd).fst : Int) > (57 : Int)))
  fun (x91 : Bool) =>
  Let (bif x90 then true else x91) fun (x92 : Bool) =>
  if x92 = true then some ({ negative := false, magnitude := (0 : Int), unit := (0 : Int) : format_decimal }, false)
  else
  Let
  (IntKind.i32.wrap
  ((↑(Utf8.decode { data := s89.snd.snd.fst.toArray : ByteArray } s89.snd.snd.snd).fst : Int) - (48 : Int)))
  fun (x93 : Int) =>
  Let (IntKind.u64.wrap x93) fun (x94 : Int) =>
  Join
  (fun (v95 : format_decimal) =>
  Let (IntKind.u64.wrap (v95.unit * (10 : Int))) fun (x96 : Int) =>
  Let (IntKind.u64.wrap (x96 + x94)) fun (x97 : Int) =>
  Let (x97.tmod (65536 : Int)) fun (x98 : Int) =>
  rec88
  (s89.fst, { negative := v95.negative, magnitude := v95.magnitude, unit := x98 : format_decimal }, s89.snd.snd.fst,
  s89.snd.snd.snd + (Utf8.decode { data := s89.snd.snd.fst.toArray : ByteArray } s89.snd.snd.snd).snd))
  fun (j99 : format_decimal → Option (format_decimal × Bool)) =>
  Let (decide (s89.snd.fst.magnitude > (461168601842738790 : Int))) fun (x100 : Bool) =>
  if x100 = true then
  j99
  { negative := s89.snd.fst.negative, magnitude := (4611686018427387905 : Int), unit := s89.snd.fst.unit : format_decimal }
  else
  Let (IntKind.u64.wrap (s89.snd.fst.magnitude * (10 : Int))) fun (x101 : Int) =>
  Let (IntKind.u64.wrap (x101 + x94)) fun (x102 : Int) =>
  Let (min x102 (4611686018427387905 : Int)) fun (x103 : Int) =>
  j99 { negative := s89.snd.fst.negative, magnitude := x103, unit := s89.snd.fst.unit : format_decimal }
  else some (s89.snd.fst, true))
  fuel
  ({ negative := false, magnitude := (0 : Int), unit := (0 : Int) : format_decimal },
  { negative := r81.snd, magnitude := (0 : Int), unit := (0 : Int) : format_decimal }, r81.fst, (0 : Nat)))

noncomputable def format_decimal_value (d0 : format_decimal) : Option Int :=
  if d0.negative = true then
  Let (IntKind.i64.wrap d0.magnitude) fun (x104 : Int) =>
  Let (IntKind.i64.wrap ((0 : Int) - x104)) fun (x105 : Int) => some x105
  else Let (IntKind.i64.wrap d0.magnitude) fun (x106 : Int) => some x106

noncomputable def format_ParseFixed (s0 : (List UInt8)) : Option (Int × Int) :=
  Rx.Bind (strings_CutSuffix s0 #[(117 : UInt8)].toList) fun (r107 : List UInt8 × Bool) =>
  Rx.Bind (format_parseDecimal r107.fst) fun (r108 : format_decimal × Bool) =>
  Let (r108.fst.magnitude == (0 : Int)) fun (x109 : Bool) =>
  Join
  (fun (v110 : Bool) =>
  if v110 = true then some ((0 : Int), (3 : Int))
  else
  Join
  (fun (v111 : Bool) =>
  if v111 = true then some ((0 : Int), (6 : Int))
  else
  if r107.snd = true then
  Rx.Bind (format_decimal_value r108.fst) fun (r112 : Int) =>
  Let (IntKind.i64.wrap (r112 * (65536 : Int))) fun (x113 : Int) => some (x113, (0 : Int))
  else Rx.Bind (format_decimal_value r108.fst) fun (r114 : Int) => some (r114, (0 : Int)))
  fun (j115 : Bool → Option (Int × Int)) =>
  Let (decide (r108.fst.magnitude > (8191 : Int))) fun (x116 : Bool) =>
  Let (bif r107.snd then x116 else false) fun (x117 : Bool) =>
  if x117 = true then j115 x117 else Let (decide (r108.fst.magnitude > (536870911 : Int))) fun (x118 : Bool) => j115 x118)
  fun (j119 : Bool → Option (Int × Int)) =>
  Let (!r108.snd) fun (x120 : Bool) =>
  if x120 = true then j119 x120
  else
  Let (bif r107.snd then x109 else false) fun (x121 : Bool) =>
  if x121 = true then j119 x121
  else
  Let (!r107.snd) fun (x122 : Bool) =>
  Let (!x109) fun (x123 : Bool) =>
  Let (bif x122 then x123 else false) fun (x124 : Bool) =>
  Let (r108.fst.unit == (0 : Int)) fun (x125 : Bool) => Let (bif x124 then x125 else false) fun (x126 : Bool) => j119 x126

noncomputable def strings_explode (s0 : (List UInt8)) (n1 : Int) : Option (List (List UInt8)) :=
  none

noncomputable def strings_Count (s0 : (List UInt8)) (substr1 : (List UInt8)) : Option Int :=
  count1 s0 substr1

noncomputable def strings_Index (s0 : (List UInt8)) (substr1 : (List UInt8)) : Option Int :=
  index1 s0 substr1

noncomputable def strings_genSplit (s0 : (List UInt8)) (sep1 : (List UInt8)) (sepSave2 : Int) (n3 : Int) : Option (List (List UInt8)) :=
  Let (n3 == (0 : Int)) fun (x127 : Bool) =>
  if x127 = true then some []
  else
  Let (sep1 == #[].toList) fun (x128 : Bool) =>
  if x128 = true then Rx.Bind (strings_explode s0 n3) fun (r129 : List (List UInt8)) => some r129
  else
  Join
  (fun (v130 : Int) =>
  Let (↑s0.length : Int) fun (x131 : Int) =>
  Let (IntKind.i64.wrap (x131 + (1 : Int))) fun (x132 : Int) =>
  Let (min v130 x132) fun (x133 : Int) =>
  Chk
  ((0 : Int) ≤ x133 ∧
  x133 ≤ x133 ∧ (↑(16 : Nat) : Int) * x133 ≤ (281474976710656 : Int) ∧ x133 ≤ (9223372036854775807 : Int))
  (Let (List.replicate x133.toNat #[].toList) fun (x134 : List (List UInt8)) =>
  Let (IntKind.i64.wrap (x133 - (1 : Int))) fun (x135 : Int) =>
  Join
  (fun (v136 : List UInt8 × Int × List (List UInt8)) =>
  Chk ((0 : Int) ≤ v136.snd.fst ∧ v136.snd.fst < (↑(List.length v136.snd.snd) : Int))
  (Chk ((0 : Int) ≤ v136.snd.fst ∧ v136.snd.fst < (↑(List.length v136.snd.snd) : Int))
  (Let (List.set v136.snd.snd (Int.toNat v136.snd.fst) v136.fst) fun (x137 : List (List UInt8)) =>
  Let (IntKind.i64.wrap (v136.snd.fst + (1 : Int))) fun (x138 : Int) =>
  Chk
  ((0 : Int) ≤ none.getD (0 : Int) ∧
  (0 : Int) ≤ (some x138).getD (0 : Int) ∧ (0 : Nat) ≤ x138.toNat ∧ x138.toNat ≤ x137.length)
  (Chk (x138.toNat - (0 : Nat) ≤ x137.length)
  (Let (List.take (x138.toNat - (0 : Nat)) x137) fun (x139 : List (List UInt8)) => some x139)))))
  fun (j140 : List UInt8 × Int × List (List UInt8) → Option (List (List UInt8))) =>
  LOOP
  (fun (rec141 : List UInt8 × Int × List (List UInt8) → Option (List (List UInt8)))
  (s142 : List UInt8 × Int × List (List UInt8)) =>
  Let (decide (s142.snd.fst < x135)) fun (x143 : Bool) =>
  if x143 = true then
  Rx.Bind (strings_Index s142.fst sep1) fun (r144 : Int) =>
  Let (decide (r144 < (0 : Int))) fun (x145 : Bool) =>
  if x145 = true then j140 s142
  else
  Let (IntKind.i64.wrap (r144 + sepSave2)) fun (x146 : Int) =>
  Chk ((0 : Int) ≤ x146 ∧ x146 ≤ (↑(List.length s142.fst) : Int))
  (Let (List.take x146.toNat s142.fst) fun (x147 : List UInt8) =>
  Chk ((0 : Int) ≤ s142.snd.fst ∧ s142.snd.fst < (↑(List.length s142.snd.snd) : Int))
  (Chk ((0 : Int) ≤ s142.snd.fst ∧ s142.snd.fst < (↑(List.length s142.snd.snd) : Int))
  (Let (List.set s142.snd.snd (Int.toNat s142.snd.fst) x147) fun (x148 : List (List UInt8)) =>
  Let (↑sep1.length : Int) fun (x149 : Int) =>
  Let (IntKind.i64.wrap (r144 + x149)) fun (x150 : Int) =>
  Chk ((0 : Int) ≤ x150 ∧ x150 ≤ (↑(List.length s142.fst) : Int))
  (Let (List.drop x150.toNat s142.fst) fun (x151 : List UInt8) =>
  Let (IntKind.i64.wrap (s142.snd.fst + (1 : Int))) fun (x152 : Int) => rec141 (x151, x152, x148)))))
  else j140 s142)
  fuel (s0, (0 : Int), x134)))
  fun (j153 : Int → Option (List (List UInt8))) =>
  Let (decide (n3 < (0 : Int))) fun (x154 : Bool) =>
  if x154 = true then
  Rx.Bind (strings_Count s0 sep1) fun (r155 : Int) =>
  Let (IntKind.i64.wrap (r155 + (1 : Int))) fun (x156 : Int) => j153 x156
  else j153 n3

noncomputable def strings_Split (s0 : (List UInt8)) (sep1 : (List UInt8)) : Option (List (List UInt8)) :=
  Rx.Bind (strings_genSplit s0 sep1 (0 : Int) (-1 : Int)) fun (r157 : List (List UInt8)) => some r157

noncomputable def format_Fields (line0 : (List UInt8)) : Option ((List (List UInt8)) × Int) :=
  Let (line0 == #[].toList) fun (x158 : Bool) =>
  if x158 = true then some ([], (0 : Int))
  else
  Let (↑line0.length : Int) fun (x159 : Int) =>
  LOOP
  (fun (rec160 : Int → Option (List (List UInt8) × Int)) (s161 : Int) =>
  Let (decide (s161 < x159)) fun (x162 : Bool) =>
  if x162 = true then
  Chk ((0 : Int) ≤ s161 ∧ s161 < (↑line0.length : Int))
  (Let (ix line0 s161) fun (x163 : UInt8) =>
  Let (decide (x163 < toByte (32 : Int))) fun (x164 : Bool) =>
  Let (decide (toByte (126 : Int) < x163)) fun (x165 : Bool) =>
  Let (bif x164 then true else x165) fun (x166 : Bool) =>
  if x166 = true then some ([], (3 : Int)) else Let (IntKind.i64.wrap (s161 + (1 : Int))) fun (x167 : Int) => rec160 x167)
  else
  Rx.Bind (strings_Split line0 #[(32 : UInt8)].toList) fun (r168 : List (List UInt8)) =>
  Let (↑r168.length : Int) fun (x169 : Int) =>
  LOOP
  (fun (rec170 : Int → Option (List (List UInt8) × Int)) (s171 : Int) =>
  Let (decide (s171 < x169)) fun (x172 : Bool) =>
  if x172 = true then
  Chk ((0 : Int) ≤ s171 ∧ s171 < (↑r168.length : Int))
  (Let (ix r168 s171) fun (x173 : List UInt8) =>
  Let (x173 == #[].toList) fun (x174 : Bool) =>
  if x174 = true then some ([], (3 : Int)) else Let (IntKind.i64.wrap (s171 + (1 : Int))) fun (x175 : Int) => rec170 x175)
  else some (r168, (0 : Int)))
  fuel (0 : Int))
  fuel (0 : Int)

noncomputable def caromref08_EqualStrings (a0 : (List (List UInt8))) (b1 : (List (List UInt8))) : Option Bool :=
  Let (↑a0.length : Int) fun (x176 : Int) =>
  Let (↑b1.length : Int) fun (x177 : Int) =>
  Let (x176 != x177) fun (x178 : Bool) =>
  if x178 = true then some false
  else
  LOOP
  (fun (rec179 : Int → Option Bool) (s180 : Int) =>
  Let (↑a0.length : Int) fun (x181 : Int) =>
  Let (decide (s180 < x181)) fun (x182 : Bool) =>
  Let (↑b1.length : Int) fun (x183 : Int) =>
  Let (decide (s180 < x183)) fun (x184 : Bool) =>
  Let (bif x182 then x184 else false) fun (x185 : Bool) =>
  if x185 = true then
  Chk ((0 : Int) ≤ s180 ∧ s180 < (↑a0.length : Int))
  (Let (ix a0 s180) fun (x186 : List UInt8) =>
  Chk ((0 : Int) ≤ s180 ∧ s180 < (↑b1.length : Int))
  (Let (ix b1 s180) fun (x187 : List UInt8) =>
  Let (x186 != x187) fun (x188 : Bool) =>
  if x188 = true then some false else Let (IntKind.i64.wrap (s180 + (1 : Int))) fun (x189 : Int) => rec179 x189))
  else some true)
  fuel (0 : Int)

noncomputable def format_IsIdentifier (s0 : (List UInt8)) : Option Bool :=
  Let (↑s0.length : Int) fun (x190 : Int) =>
  Let (decide (x190 < (1 : Int))) fun (x191 : Bool) =>
  Let (↑s0.length : Int) fun (x192 : Int) =>
  Let (decide (x192 > (24 : Int))) fun (x193 : Bool) =>
  Let (bif x191 then true else x193) fun (x194 : Bool) =>
  if x194 = true then some false
  else
  LOOP
  (fun (rec195 : List UInt8 × Nat → Option Bool) (s196 : List UInt8 × Nat) =>
  if decide (s196.snd < s196.fst.length) = true then
  Let (decide ((↑(Utf8.decode { data := s196.fst.toArray : ByteArray } s196.snd).fst : Int) ≥ (97 : Int)))
  fun (x197 : Bool) =>
  Let (decide ((↑(Utf8.decode { data := s196.fst.toArray : ByteArray } s196.snd).fst : Int) ≤ (122 : Int)))
  fun (x198 : Bool) =>
  Let (bif x197 then x198 else false) fun (x199 : Bool) =>
  Let (decide ((↑(Utf8.decode { data := s196.fst.toArray : ByteArray } s196.snd).fst : Int) ≥ (48 : Int)))
  fun (x200 : Bool) =>
  Let (decide ((↑(Utf8.decode { data := s196.fst.toArray : ByteArray } s196.snd).fst : Int) ≤ (57 : Int)))
  fun (x201 : Bool) =>
  Let (bif x200 then x201 else false) fun (x202 : Bool) =>
  Let ((↑(Utf8.decode { data := s196.fst.toArray : ByteArray } s196.snd).fst : Int) == (45 : Int)) fun (x203 : Bool) =>
  Let (bif x202 then true else x203) fun (x204 : Bool) =>
  Let (!x199) fun (x205 : Bool) =>
  Let ((↑s196.snd : Int) == (0 : Int)) fun (x206 : Bool) =>
  Let (!x204) fun (x207 : Bool) =>
  Let (bif x206 then true else x207) fun (x208 : Bool) =>
  Let (bif x205 then x208 else false) fun (x209 : Bool) =>
  if x209 = true then some false
  else rec195 (s196.fst, s196.snd + (Utf8.decode { data := s196.fst.toArray : ByteArray } s196.snd).snd)
  else some true)
  fuel (s0, (0 : Nat))

noncomputable def caromlaw08_example  : Option Bool :=
  Rx.Bind (format_ParseFixed #[(54 : UInt8), (53 : UInt8), (53 : UInt8), (51 : UInt8), (54 : UInt8)].toList)
  fun (r210 : Int × Int) =>
  Rx.Bind (format_Fields #[(97 : UInt8), (32 : UInt8), (98 : UInt8), (99 : UInt8)].toList)
  fun (r211 : List (List UInt8) × Int) =>
  Rx.Bind (format_ParseFixed #[(45 : UInt8), (50 : UInt8), (117 : UInt8)].toList) fun (r212 : Int × Int) =>
  Rx.Bind (format_FormatFixed (65536 : Int)) fun (r213 : List UInt8) =>
  Let (r213 == #[(49 : UInt8), (117 : UInt8)].toList) fun (x214 : Bool) =>
  Rx.Bind (if (x214 == true) = true then format_FormatFixed (98304 : Int) else some default) fun (r215 : List UInt8) =>
  Let (r215 == #[(57 : UInt8), (56 : UInt8), (51 : UInt8), (48 : UInt8), (52 : UInt8)].toList) fun (x216 : Bool) =>
  Let (bif x214 then x216 else false) fun (x217 : Bool) =>
  Rx.Bind (if (x217 == true) = true then format_FormatFixed (0 : Int) else some default) fun (r218 : List UInt8) =>
  Let (r218 == #[(48 : UInt8)].toList) fun (x219 : Bool) =>
  Let (bif x217 then x219 else false) fun (x220 : Bool) =>
  Rx.Bind (if (x220 == true) = true then format_FormatInt (-7 : Int) else some default) fun (r221 : List UInt8) =>
  Let (r221 == #[(45 : UInt8), (55 : UInt8)].toList) fun (x222 : Bool) =>
  Let (bif x220 then x222 else false) fun (x223 : Bool) =>
  Let (r210.snd == (3 : Int)) fun (x224 : Bool) =>
  Let (bif x223 then x224 else false) fun (x225 : Bool) =>
  Let (r211.snd == (0 : Int)) fun (x226 : Bool) =>
  Let (bif x225 then x226 else false) fun (x227 : Bool) =>
  Rx.Bind
  (if (x227 == true) = true then
  caromref08_EqualStrings r211.fst [#[(97 : UInt8)].toList, #[(98 : UInt8), (99 : UInt8)].toList]
  else some default)
  fun (r228 : Bool) =>
  Let (bif x227 then r228 else false) fun (x229 : Bool) =>
  Let (r212.snd == (0 : Int)) fun (x230 : Bool) =>
  Let (bif x229 then x230 else false) fun (x231 : Bool) =>
  Let (r212.fst == (-131072 : Int)) fun (x232 : Bool) =>
  Let (bif x231 then x232 else false) fun (x233 : Bool) =>
  Rx.Bind
  (if (x233 == true) = true then format_IsIdentifier #[(97 : UInt8), (45 : UInt8), (49 : UInt8)].toList else some default)
  fun (r234 : Bool) => Let (bif x233 then r234 else false) fun (x235 : Bool) => some x235

noncomputable def caromlaw08_FormatNumbers (n0 : Int) : Option Bool :=
  Rx.Bind (format_FormatInt n0) fun (r236 : List UInt8) =>
  Rx.Bind (caromref08_FormatInt n0) fun (r237 : List UInt8) =>
  Let (r236 == r237) fun (x238 : Bool) =>
  Rx.Bind (if (x238 == true) = true then format_FormatFixed n0 else some default) fun (r239 : List UInt8) =>
  Rx.Bind (if (x238 == true) = true then caromref08_FormatFixed n0 else some default) fun (r240 : List UInt8) =>
  Let (r239 == r240) fun (x241 : Bool) =>
  Let (bif x238 then x241 else false) fun (x242 : Bool) =>
  Rx.Bind (if (x242 == true) = true then caromlaw08_example else some default) fun (r243 : Bool) =>
  Let (bif x242 then r243 else false) fun (x244 : Bool) => some x244

noncomputable def format_ParseInt (s0 : (List UInt8)) : Option (Int × Int) :=
  Rx.Bind (format_parseDecimal s0) fun (r245 : format_decimal × Bool) =>
  Let (!r245.snd) fun (x246 : Bool) =>
  if x246 = true then some ((0 : Int), (3 : Int))
  else
  Let (decide (r245.fst.magnitude > (4611686018427387904 : Int))) fun (x247 : Bool) =>
  if x247 = true then some ((0 : Int), (6 : Int))
  else Rx.Bind (format_decimal_value r245.fst) fun (r248 : Int) => some (r248, (0 : Int))

noncomputable def caromref08_IsInteger (s0 : (List UInt8)) : Option Bool :=
  Let (s0 == #[(48 : UInt8)].toList) fun (x249 : Bool) =>
  if x249 = true then some true
  else
  Join
  (fun (v250 : List UInt8) =>
  LOOP
  (fun (rec251 : Int → Option Bool) (s252 : Int) =>
  Let (↑v250.length : Int) fun (x253 : Int) =>
  Let (decide (s252 < x253)) fun (x254 : Bool) =>
  if x254 = true then
  Chk ((0 : Int) ≤ s252 ∧ s252 < (↑v250.length : Int))
  (Let (ix v250 s252) fun (x255 : UInt8) =>
  Let (decide (x255 < toByte (48 : Int))) fun (x256 : Bool) =>
  Chk ((x256 == false) = true → (0 : Int) ≤ s252 ∧ s252 < (↑v250.length : Int))
  (Let (ix v250 s252) fun (x257 : UInt8) =>
  Let (decide (toByte (57 : Int) < x257)) fun (x258 : Bool) =>
  Let (bif x256 then true else x258) fun (x259 : Bool) =>
  if x259 = true then some false else Let (IntKind.i64.wrap (s252 + (1 : Int))) fun (x260 : Int) => rec251 x260))
  else
  Let (↑v250.length : Int) fun (x261 : Int) =>
  Let (decide (x261 > (0 : Int))) fun (x262 : Bool) =>
  Chk ((x262 == true) = true → (0 : Int) ≤ (0 : Int) ∧ (0 : Int) < (↑v250.length : Int))
  (Let (ix v250 (0 : Int)) fun (x263 : UInt8) =>
  Let (x263 != toByte (48 : Int)) fun (x264 : Bool) =>
  Let (bif x262 then x264 else false) fun (x265 : Bool) => some x265))
  fuel (0 : Int))
  fun (j266 : List UInt8 → Option Bool) =>
  Let (↑s0.length : Int) fun (x267 : Int) =>
  Let (decide (x267 > (0 : Int))) fun (x268 : Bool) =>
  Chk ((x268 == true) = true → (0 : Int) ≤ (0 : Int) ∧ (0 : Int) < (↑s0.length : Int))
  (Let (ix s0 (0 : Int)) fun (x269 : UInt8) =>
  Let (x269 == toByte (45 : Int)) fun (x270 : Bool) =>
  Let (bif x268 then x270 else false) fun (x271 : Bool) =>
  if x271 = true then
  Chk ((0 : Int) ≤ (1 : Int) ∧ (1 : Int) ≤ (↑s0.length : Int))
  (Let (List.drop (1 : Nat) s0) fun (x272 : List UInt8) => j266 x272)
  else j266 s0)

noncomputable def caromref08_value (s0 : (List UInt8)) (limit1 : Int) : Option (Int × Bool) :=
  LOOP
  (fun (rec273 : Int × Bool × Int → Option (Int × Bool)) (s274 : Int × Bool × Int) =>
  Let (↑s0.length : Int) fun (x275 : Int) =>
  Let (decide (s274.snd.snd < x275)) fun (x276 : Bool) =>
  if x276 = true then
  Join
  (fun (v277 : Int × Bool) =>
  Let (IntKind.i64.wrap (s274.snd.snd + (1 : Int))) fun (x278 : Int) => rec273 (v277.fst, v277.snd, x278))
  fun (j279 : Int × Bool → Option (Int × Bool)) =>
  Chk ((0 : Int) ≤ s274.snd.snd ∧ s274.snd.snd < (↑s0.length : Int))
  (Let (ix s0 s274.snd.snd) fun (x280 : UInt8) =>
  Let (x280 == toByte (45 : Int)) fun (x281 : Bool) =>
  if x281 = true then j279 (s274.fst, true)
  else
  Chk ((0 : Int) ≤ s274.snd.snd ∧ s274.snd.snd < (↑s0.length : Int))
  (Let (ix s0 s274.snd.snd) fun (x282 : UInt8) =>
  Let (↑x282.toNat : Int) fun (x283 : Int) =>
  Let (IntKind.i64.wrap (x283 - (48 : Int))) fun (x284 : Int) =>
  Let (IntKind.i64.wrap (limit1 - x284)) fun (x285 : Int) =>
  Let (IntKind.i64.wrap (x285.tdiv (10 : Int))) fun (x286 : Int) =>
  Let (decide (s274.fst > x286)) fun (x287 : Bool) =>
  if x287 = true then some ((0 : Int), false)
  else
  Let (IntKind.i64.wrap ((10 : Int) * s274.fst)) fun (x288 : Int) =>
  Let (IntKind.i64.wrap (x288 + x284)) fun (x289 : Int) => j279 (x289, s274.snd.fst)))
  else
  Join (fun (v290 : Int) => some (v290, true)) fun (j291 : Int → Option (Int × Bool)) =>
  if s274.snd.fst = true then Let (IntKind.i64.wrap ((0 : Int) - s274.fst)) fun (x292 : Int) => j291 x292
  else j291 s274.fst)
  fuel ((0 : Int), false, (0 : Int))

noncomputable def caromref08_ParseInt (s0 : (List UInt8)) : Option (Int × Int) :=
  Rx.Bind (caromref08_IsInteger s0) fun (r293 : Bool) =>
  Let (!r293) fun (x294 : Bool) =>
  if x294 = true then some ((0 : Int), (3 : Int))
  else
  Rx.Bind (caromref08_value s0 (4611686018427387904 : Int)) fun (r295 : Int × Bool) =>
  Let (!r295.snd) fun (x296 : Bool) => if x296 = true then some ((0 : Int), (6 : Int)) else some (r295.fst, (0 : Int))

noncomputable def caromref08_remainder (s0 : (List UInt8)) : Option Int :=
  LOOP
  (fun (rec297 : Int × Int → Option Int) (s298 : Int × Int) =>
  Let (↑s0.length : Int) fun (x299 : Int) =>
  Let (decide (s298.snd < x299)) fun (x300 : Bool) =>
  if x300 = true then
  Join (fun (v301 : Int) => Let (IntKind.i64.wrap (s298.snd + (1 : Int))) fun (x302 : Int) => rec297 (v301, x302))
  fun (j303 : Int → Option Int) =>
  Chk ((0 : Int) ≤ s298.snd ∧ s298.snd < (↑s0.length : Int))
  (Let (ix s0 s298.snd) fun (x304 : UInt8) =>
  Let (x304 != toByte (45 : Int)) fun (x305 : Bool) =>
  if x305 = true then
  Let (IntKind.i64.wrap ((10 : Int) * s298.fst)) fun (x306 : Int) =>
  Chk ((0 : Int) ≤ s298.snd ∧ s298.snd < (↑s0.length : Int))
  (Let (ix s0 s298.snd) fun (x307 : UInt8) =>
  Let (↑x307.toNat : Int) fun (x308 : Int) =>
  Let (IntKind.i64.wrap (x306 + x308)) fun (x309 : Int) =>
  Let (IntKind.i64.wrap (x309 - (48 : Int))) fun (x310 : Int) =>
  Let (x310.tmod (65536 : Int)) fun (x311 : Int) => j303 x311)
  else j303 s298.fst)
  else some s298.fst)
  fuel ((0 : Int), (0 : Int))

noncomputable def caromref08_ParseFixed (s0 : (List UInt8)) : Option (Int × Int) :=
  Let (↑s0.length : Int) fun (x312 : Int) =>
  Let (IntKind.i64.wrap (x312 - (1 : Int))) fun (x313 : Int) =>
  Let (decide (x313 ≥ (0 : Int))) fun (x314 : Bool) =>
  Chk ((x314 == true) = true → (0 : Int) ≤ x313 ∧ x313 < (↑s0.length : Int))
  (Let (ix s0 x313) fun (x315 : UInt8) =>
  Let (x315 == toByte (117 : Int)) fun (x316 : Bool) =>
  Let (bif x314 then x316 else false) fun (x317 : Bool) =>
  if x317 = true then
  Chk ((0 : Int) ≤ x313 ∧ x313 ≤ (↑s0.length : Int))
  (Let (List.take x313.toNat s0) fun (x318 : List UInt8) =>
  Rx.Bind (caromref08_IsInteger x318) fun (r319 : Bool) =>
  Let (!r319) fun (x320 : Bool) =>
  Chk ((x320 == false) = true → (0 : Int) ≤ x313 ∧ x313 ≤ (↑s0.length : Int))
  (Let (List.take x313.toNat s0) fun (x321 : List UInt8) =>
  Let (x321 == #[(48 : UInt8)].toList) fun (x322 : Bool) =>
  Let (bif x320 then true else x322) fun (x323 : Bool) =>
  if x323 = true then some ((0 : Int), (3 : Int))
  else
  Chk ((0 : Int) ≤ x313 ∧ x313 ≤ (↑s0.length : Int))
  (Let (List.take x313.toNat s0) fun (x324 : List UInt8) =>
  Rx.Bind (caromref08_value x324 (8191 : Int)) fun (r325 : Int × Bool) =>
  Let (!r325.snd) fun (x326 : Bool) =>
  if x326 = true then some ((0 : Int), (6 : Int))
  else Let (IntKind.i64.wrap (r325.fst * (65536 : Int))) fun (x327 : Int) => some (x327, (0 : Int)))))
  else
  Rx.Bind (caromref08_IsInteger s0) fun (r328 : Bool) =>
  Let (!r328) fun (x329 : Bool) =>
  Let (s0 != #[(48 : UInt8)].toList) fun (x330 : Bool) =>
  Rx.Bind (if (x329 == false && x330 == true) = true then caromref08_remainder s0 else some default) fun (r331 : Int) =>
  Let (r331 == (0 : Int)) fun (x332 : Bool) =>
  Let (bif x330 then x332 else false) fun (x333 : Bool) =>
  Let (bif x329 then true else x333) fun (x334 : Bool) =>
  if x334 = true then some ((0 : Int), (3 : Int))
  else
  Rx.Bind (caromref08_value s0 (536870911 : Int)) fun (r335 : Int × Bool) =>
  Let (!r335.snd) fun (x336 : Bool) => if x336 = true then some ((0 : Int), (6 : Int)) else some (r335.fst, (0 : Int)))

noncomputable def caromlaw08_FormatParseNumbers (s0 : (List UInt8)) : Option Bool :=
  Let (↑s0.length : Int) fun (x337 : Int) =>
  Let (decide (x337 > (200 : Int))) fun (x338 : Bool) =>
  if x338 = true then Rx.Bind caromlaw08_example fun (r339 : Bool) => some r339
  else
  Rx.Bind (format_ParseInt s0) fun (r340 : Int × Int) =>
  Rx.Bind (caromref08_ParseInt s0) fun (r341 : Int × Int) =>
  Rx.Bind (format_ParseFixed s0) fun (r342 : Int × Int) =>
  Rx.Bind (caromref08_ParseFixed s0) fun (r343 : Int × Int) =>
  Let (r340.fst == r341.fst) fun (x344 : Bool) =>
  Let (r340.snd == r341.snd) fun (x345 : Bool) =>
  Let (bif x344 then x345 else false) fun (x346 : Bool) =>
  Let (r342.fst == r343.fst) fun (x347 : Bool) =>
  Let (bif x346 then x347 else false) fun (x348 : Bool) =>
  Let (r342.snd == r343.snd) fun (x349 : Bool) =>
  Let (bif x348 then x349 else false) fun (x350 : Bool) =>
  Rx.Bind (if (x350 == true) = true then caromlaw08_example else some default) fun (r351 : Bool) =>
  Let (bif x350 then r351 else false) fun (x352 : Bool) => some x352

noncomputable def caromlaw08_FormatLongNumbers (digit0 : UInt8) (n1 : UInt8) (negative2 : Bool) : Option Bool :=
  Chk (toByte (9 : Int) ≠ (0 : UInt8))
  (Let (digit0 % toByte (9 : Int)) fun (x353 : UInt8) =>
  Chk (toByte (9 : Int) ≠ (0 : UInt8))
  (Let (digit0 % toByte (9 : Int)) fun (x354 : UInt8) =>
  Let (x354 + toByte (1 : Int)) fun (x355 : UInt8) =>
  Chk
  ((0 : Int) ≤ (↑x353.toNat : Int) ∧ (↑x353.toNat : Int) ≤ (↑x355.toNat : Int) ∧ (↑x355.toNat : Int) ≤ (↑(9 : Nat) : Int))
  (Let
  (sub
  #[(49 : UInt8), (50 : UInt8), (51 : UInt8), (52 : UInt8), (53 : UInt8), (54 : UInt8), (55 : UInt8), (56 : UInt8),
  (57 : UInt8)].toList
  (↑x353.toNat : Int) (↑x355.toNat : Int))
  fun (x356 : List UInt8) =>
  LOOP
  (fun (rec357 : List UInt8 × Int → Option Bool) (s358 : List UInt8 × Int) =>
  Chk (toByte (60 : Int) ≠ (0 : UInt8))
  (Let (n1 % toByte (60 : Int)) fun (x359 : UInt8) =>
  Let (↑x359.toNat : Int) fun (x360 : Int) =>
  Let (IntKind.i64.wrap ((20 : Int) + x360)) fun (x361 : Int) =>
  Let (decide (s358.snd < x361)) fun (x362 : Bool) =>
  if x362 = true then
  Chk (List.length s358.fst + x356.length ≤ (9223372036854775807 : Nat))
  (Let (s358.fst ++ x356) fun (x363 : List UInt8) =>
  Let (IntKind.i64.wrap (s358.snd + (1 : Int))) fun (x364 : Int) => rec357 (x363, x364))
  else
  Join
  (fun (v365 : List UInt8) =>
  Rx.Bind (format_ParseInt v365) fun (r366 : Int × Int) =>
  Chk (v365.length + (1 : Nat) ≤ (9223372036854775807 : Nat))
  (Let (v365 ++ #[(117 : UInt8)].toList) fun (x367 : List UInt8) =>
  Rx.Bind (format_ParseFixed x367) fun (r368 : Int × Int) =>
  Chk (v365.length + (1 : Nat) ≤ (9223372036854775807 : Nat))
  (Let (v365 ++ #[(120 : UInt8)].toList) fun (x369 : List UInt8) =>
  Rx.Bind (format_ParseInt x369) fun (r370 : Int × Int) =>
  Chk ((1 : Nat) + v365.length ≤ (9223372036854775807 : Nat))
  (Let (#[(48 : UInt8)].toList ++ v365) fun (x371 : List UInt8) =>
  Rx.Bind (format_ParseInt x371) fun (r372 : Int × Int) =>
  Let (r366.snd == (6 : Int)) fun (x373 : Bool) =>
  Let (r368.snd == (6 : Int)) fun (x374 : Bool) =>
  Let (bif x373 then x374 else false) fun (x375 : Bool) =>
  Let (r370.snd == (3 : Int)) fun (x376 : Bool) =>
  Let (bif x375 then x376 else false) fun (x377 : Bool) =>
  Let (r372.snd == (3 : Int)) fun (x378 : Bool) =>
  Let (bif x377 then x378 else false) fun (x379 : Bool) =>
  Rx.Bind (if (x379 == true) = true then caromlaw08_example else some default) fun (r380 : Bool) =>
  Let (bif x379 then r380 else false) fun (x381 : Bool) => some x381))))
  fun (j382 : List UInt8 → Option Bool) =>
  if negative2 = true then
  Chk ((1 : Nat) + List.length s358.fst ≤ (9223372036854775807 : Nat))
  (Let (#[(45 : UInt8)].toList ++ s358.fst) fun (x383 : List UInt8) => j382 x383)
  else j382 s358.fst))
  fuel (#[].toList, (0 : Int)))))

noncomputable def format_SplitLines (text0 : (List UInt8)) : Option ((List (List UInt8)) × Int) :=
  Let (text0 == #[].toList) fun (x384 : Bool) =>
  if x384 = true then some ([], (0 : Int))
  else
  Rx.Bind (strings_CutSuffix text0 #[(10 : UInt8)].toList) fun (r385 : List UInt8 × Bool) =>
  Let (!r385.snd) fun (x386 : Bool) =>
  if x386 = true then some ([], (3 : Int))
  else Rx.Bind (strings_Split r385.fst #[(10 : UInt8)].toList) fun (r387 : List (List UInt8)) => some (r387, (0 : Int))

noncomputable def caromlaw08_FormatSplitLines (s0 : (List UInt8)) : Option Bool :=
  Let (↑s0.length : Int) fun (x388 : Int) =>
  Let (decide (x388 > (300 : Int))) fun (x389 : Bool) =>
  if x389 = true then Rx.Bind caromlaw08_example fun (r390 : Bool) => some r390
  else
  Rx.Bind (format_SplitLines s0) fun (r391 : List (List UInt8) × Int) =>
  Let (r391.snd != (0 : Int)) fun (x392 : Bool) =>
  if x392 = true then
  Let (r391.snd == (3 : Int)) fun (x393 : Bool) =>
  Let (↑(List.length r391.fst) : Int) fun (x394 : Int) =>
  Let (x394 == (0 : Int)) fun (x395 : Bool) =>
  Let (bif x393 then x395 else false) fun (x396 : Bool) =>
  Let (s0 != #[].toList) fun (x397 : Bool) =>
  Let (bif x396 then x397 else false) fun (x398 : Bool) =>
  Let (↑s0.length : Int) fun (x399 : Int) =>
  Let (IntKind.i64.wrap (x399 - (1 : Int))) fun (x400 : Int) =>
  Chk ((x398 == true) = true → (0 : Int) ≤ x400 ∧ x400 < (↑s0.length : Int))
  (Let (ix s0 x400) fun (x401 : UInt8) =>
  Let (x401 != toByte (10 : Int)) fun (x402 : Bool) =>
  Let (bif x398 then x402 else false) fun (x403 : Bool) =>
  Rx.Bind (if (x403 == true) = true then caromlaw08_example else some default) fun (r404 : Bool) =>
  Let (bif x403 then r404 else false) fun (x405 : Bool) => some x405)
  else
  LOOP
  (fun (rec406 : List UInt8 × Int → Option Bool) (s407 : List UInt8 × Int) =>
  Let (↑(List.length r391.fst) : Int) fun (x408 : Int) =>
  Let (decide (s407.snd < x408)) fun (x409 : Bool) =>
  if x409 = true then
  LOOP
  (fun (rec410 : Int → Option Bool) (s411 : Int) =>
  Chk ((0 : Int) ≤ s407.snd ∧ s407.snd < (↑(List.length r391.fst) : Int))
  (Let (ix r391.fst s407.snd) fun (x412 : List UInt8) =>
  Let (↑x412.length : Int) fun (x413 : Int) =>
  Let (decide (s411 < x413)) fun (x414 : Bool) =>
  if x414 = true then
  Chk ((0 : Int) ≤ s407.snd ∧ s407.snd < (↑(List.length r391.fst) : Int))
  (Let (ix r391.fst s407.snd) fun (x415 : List UInt8) =>
  Chk ((0 : Int) ≤ s411 ∧ s411 < (↑x415.length : Int))
  (Let (ix x415 s411) fun (x416 : UInt8) =>
  Let (x416 == toByte (10 : Int)) fun (x417 : Bool) =>
  if x417 = true then some false else Let (IntKind.i64.wrap (s411 + (1 : Int))) fun (x418 : Int) => rec410 x418))
  else
  Chk ((0 : Int) ≤ s407.snd ∧ s407.snd < (↑(List.length r391.fst) : Int))
  (Let (ix r391.fst s407.snd) fun (x419 : List UInt8) =>
  Chk (List.length s407.fst + x419.length ≤ (9223372036854775807 : Nat))
  (Let (s407.fst ++ x419) fun (x420 : List UInt8) =>
  Chk (x420.length + (1 : Nat) ≤ (9223372036854775807 : Nat))
  (Let (x420 ++ #[(10 : UInt8)].toList) fun (x421 : List UInt8) =>
  Let (IntKind.i64.wrap (s407.snd + (1 : Int))) fun (x422 : Int) => rec406 (x421, x422))))))
  fuel (0 : Int)
  else
  Let (s407.fst == s0) fun (x423 : Bool) =>
  Rx.Bind (if (x423 == true) = true then caromlaw08_example else some default) fun (r424 : Bool) =>
  Let (bif x423 then r424 else false) fun (x425 : Bool) => some x425)
  fuel (#[].toList, (0 : Int))

noncomputable def caromref08_IsField (s0 : (List UInt8)) : Option Bool :=
  LOOP
  (fun (rec426 : Int → Option Bool) (s427 : Int) =>
  Let (↑s0.length : Int) fun (x428 : Int) =>
  Let (decide (s427 < x428)) fun (x429 : Bool) =>
  if x429 = true then
  Chk ((0 : Int) ≤ s427 ∧ s427 < (↑s0.length : Int))
  (Let (ix s0 s427) fun (x430 : UInt8) =>
  Let (decide (x430 < toByte (33 : Int))) fun (x431 : Bool) =>
  Chk ((x431 == false) = true → (0 : Int) ≤ s427 ∧ s427 < (↑s0.length : Int))
  (Let (ix s0 s427) fun (x432 : UInt8) =>
  Let (decide (toByte (126 : Int) < x432)) fun (x433 : Bool) =>
  Let (bif x431 then true else x433) fun (x434 : Bool) =>
  if x434 = true then some false else Let (IntKind.i64.wrap (s427 + (1 : Int))) fun (x435 : Int) => rec426 x435))
  else Let (s0 != #[].toList) fun (x436 : Bool) => some x436)
  fuel (0 : Int)

noncomputable def strings_Join (elems0 : (List (List UInt8))) (sep1 : (List UInt8)) : Option (List UInt8) :=
  joinS elems0 sep1

noncomputable def format_JoinFields (fields0 : (List (List UInt8))) : Option (List UInt8) :=
  Rx.Bind (strings_Join fields0 #[(32 : UInt8)].toList) fun (r437 : List UInt8) => some r437

noncomputable def caromlaw08_FormatRoundTrip (n0 : Int) (x1 : Int) (s2 : (List UInt8)) (fields3 : (List (List UInt8))) : Option Bool :=
  Let (↑s2.length : Int) fun (x438 : Int) =>
  Let (decide (x438 > (200 : Int))) fun (x439 : Bool) =>
  Let (↑fields3.length : Int) fun (x440 : Int) =>
  Let (decide (x440 > (20 : Int))) fun (x441 : Bool) =>
  Let (bif x439 then true else x441) fun (x442 : Bool) =>
  if x442 = true then Rx.Bind caromlaw08_example fun (r443 : Bool) => some r443
  else
  Rx.Bind (format_FormatInt n0) fun (r444 : List UInt8) =>
  Rx.Bind (format_ParseInt r444) fun (r445 : Int × Int) =>
  Rx.Bind (format_FormatFixed x1) fun (r446 : List UInt8) =>
  Rx.Bind (format_ParseFixed r446) fun (r447 : Int × Int) =>
  Let (decide (n0 < (-4611686018427387904 : Int))) fun (x448 : Bool) =>
  Let (decide (n0 > (4611686018427387904 : Int))) fun (x449 : Bool) =>
  Let (bif x448 then true else x449) fun (x450 : Bool) =>
  Let (decide (x1 < (-536870911 : Int))) fun (x451 : Bool) =>
  Let (decide (x1 > (536870911 : Int))) fun (x452 : Bool) =>
  Let (bif x451 then true else x452) fun (x453 : Bool) =>
  Let (r445.snd != (6 : Int)) fun (x454 : Bool) =>
  Let (r445.fst != (0 : Int)) fun (x455 : Bool) =>
  Let (bif x454 then true else x455) fun (x456 : Bool) =>
  Let (bif x450 then x456 else false) fun (x457 : Bool) =>
  Let (!x450) fun (x458 : Bool) =>
  Let (r445.snd != (0 : Int)) fun (x459 : Bool) =>
  Let (r445.fst != n0) fun (x460 : Bool) =>
  Let (bif x459 then true else x460) fun (x461 : Bool) =>
  Let (bif x458 then x461 else false) fun (x462 : Bool) =>
  Let (bif x457 then true else x462) fun (x463 : Bool) =>
  Let (r447.snd != (6 : Int)) fun (x464 : Bool) =>
  Let (r447.fst != (0 : Int)) fun (x465 : Bool) =>
  Let (bif x464 then true else x465) fun (x466 : Bool) =>
  Let (bif x453 then x466 else false) fun (x467 : Bool) =>
  Let (bif x463 then true else x467) fun (x468 : Bool) =>
  Let (!x453) fun (x469 : Bool) =>
  Let (r447.snd != (0 : Int)) fun (x470 : Bool) =>
  Let (r447.fst != x1) fun (x471 : Bool) =>
  Let (bif x470 then true else x471) fun (x472 : Bool) =>
  Let (bif x469 then x472 else false) fun (x473 : Bool) =>
  Let (bif x468 then true else x473) fun (x474 : Bool) =>
  if x474 = true then some false
  else
  Rx.Bind (format_ParseInt s2) fun (r475 : Int × Int) =>
  Rx.Bind (format_ParseFixed s2) fun (r476 : Int × Int) =>
  Let (r475.snd == (0 : Int)) fun (x477 : Bool) =>
  Rx.Bind (if (x477 == true) = true then format_FormatInt r475.fst else some default) fun (r478 : List UInt8) =>
  Let (r478 != s2) fun (x479 : Bool) =>
  Let (bif x477 then x479 else false) fun (x480 : Bool) =>
  Let (r476.snd == (0 : Int)) fun (x481 : Bool) =>
  Rx.Bind (if (x480 == false && x481 == true) = true then format_FormatFixed r476.fst else some default)
  fun (r482 : List UInt8) =>
  Let (r482 != s2) fun (x483 : Bool) =>
  Let (bif x481 then x483 else false) fun (x484 : Bool) =>
  Let (bif x480 then true else x484) fun (x485 : Bool) =>
  if x485 = true then some false
  else
  LOOP
  (fun (rec486 : Int → Option Bool) (s487 : Int) =>
  Let (↑fields3.length : Int) fun (x488 : Int) =>
  Let (decide (s487 < x488)) fun (x489 : Bool) =>
  if x489 = true then
  Chk ((0 : Int) ≤ s487 ∧ s487 < (↑fields3.length : Int))
  (Let (ix fields3 s487) fun (x490 : List UInt8) =>
  Let (↑x490.length : Int) fun (x491 : Int) =>
  Let (decide (x491 > (40 : Int))) fun (x492 : Bool) =>
  Chk ((x492 == false) = true → (0 : Int) ≤ s487 ∧ s487 < (↑fields3.length : Int))
  (Let (ix fields3 s487) fun (x493 : List UInt8) =>
  Rx.Bind (if (x492 == false) = true then caromref08_IsField x493 else some default) fun (r494 : Bool) =>
  Let (!r494) fun (x495 : Bool) =>
  Let (bif x492 then true else x495) fun (x496 : Bool) =>
  if x496 = true then Rx.Bind caromlaw08_example fun (r497 : Bool) => some r497
  else Let (IntKind.i64.wrap (s487 + (1 : Int))) fun (x498 : Int) => rec486 x498))
  else
  Rx.Bind (format_JoinFields fields3) fun (r499 : List UInt8) =>
  Rx.Bind (format_Fields r499) fun (r500 : List (List UInt8) × Int) =>
  Let (r500.snd == (0 : Int)) fun (x501 : Bool) =>
  Rx.Bind (if (x501 == true) = true then caromref08_EqualStrings r500.fst fields3 else some default) fun (r502 : Bool) =>
  Let (bif x501 then r502 else false) fun (x503 : Bool) =>
  Rx.Bind (if (x503 == true) = true then caromlaw08_example else some default) fun (r504 : Bool) =>
  Let (bif x503 then r504 else false) fun (x505 : Bool) => some x505)
  fuel (0 : Int)

noncomputable def caromref08_Fields (line0 : (List UInt8)) : Option ((List (List UInt8)) × Int) :=
  Let (line0 == #[].toList) fun (x506 : Bool) =>
  if x506 = true then some ([], (0 : Int))
  else
  LOOP
  (fun (rec507 : List (List UInt8) × Int × Int → Option (List (List UInt8) × Int))
  (s508 : List (List UInt8) × Int × Int) =>
  Let (↑line0.length : Int) fun (x509 : Int) =>
  Let (decide (s508.snd.snd ≤ x509)) fun (x510 : Bool) =>
  if x510 = true then
  Join
  (fun (v511 : List (List UInt8) × Int) =>
  Let (IntKind.i64.wrap (s508.snd.snd + (1 : Int))) fun (x512 : Int) => rec507 (v511.fst, v511.snd, x512))
  fun (j513 : List (List UInt8) × Int → Option (List (List UInt8) × Int)) =>
  Let (↑line0.length : Int) fun (x514 : Int) =>
  Let (decide (s508.snd.snd < x514)) fun (x515 : Bool) =>
  Chk ((x515 == true) = true → (0 : Int) ≤ s508.snd.snd ∧ s508.snd.snd < (↑line0.length : Int))
  (Let (ix line0 s508.snd.snd) fun (x516 : UInt8) =>
  Let (x516 != toByte (32 : Int)) fun (x517 : Bool) =>
  Let (bif x515 then x517 else false) fun (x518 : Bool) =>
  if x518 = true then j513 (s508.fst, s508.snd.fst)
  else
  Chk ((0 : Int) ≤ s508.snd.fst ∧ s508.snd.fst ≤ s508.snd.snd ∧ s508.snd.snd ≤ (↑line0.length : Int))
  (Let (sub line0 s508.snd.fst s508.snd.snd) fun (x519 : List UInt8) =>
  Rx.Bind (caromref08_IsField x519) fun (r520 : Bool) =>
  Let (!r520) fun (x521 : Bool) =>
  if x521 = true then some ([], (3 : Int))
  else
  Chk ((0 : Int) ≤ s508.snd.fst ∧ s508.snd.fst ≤ s508.snd.snd ∧ s508.snd.snd ≤ (↑line0.length : Int))
  (Let (sub line0 s508.snd.fst s508.snd.snd) fun (x522 : List UInt8) =>
  Chk ((List.length s508.fst + [x522].length) * (16 : Nat) ≤ (140737488355328 : Nat))
  (Let (s508.fst ++ [x522]) fun (x523 : List (List UInt8)) =>
  Let (IntKind.i64.wrap (s508.snd.snd + (1 : Int))) fun (x524 : Int) => j513 (x523, x524)))))
  else some (s508.fst, (0 : Int)))
  fuel ([], (0 : Int), (0 : Int))

noncomputable def caromref08_SplitLines (text0 : (List UInt8)) : Option ((List (List UInt8)) × Int) :=
  LOOP
  (fun (rec525 : List (List UInt8) × Int × Int → Option (List (List UInt8) × Int))
  (s526 : List (List UInt8) × Int × Int) =>
  Let (↑text0.length : Int) fun (x527 : Int) =>
  Let (decide (s526.snd.snd < x527)) fun (x528 : Bool) =>
  if x528 = true then
  Join
  (fun (v529 : List (List UInt8) × Int) =>
  Let (IntKind.i64.wrap (s526.snd.snd + (1 : Int))) fun (x530 : Int) => rec525 (v529.fst, v529.snd, x530))
  fun (j531 : List (List UInt8) × Int → Option (List (List UInt8) × Int)) =>
  Chk ((0 : Int) ≤ s526.snd.snd ∧ s526.snd.snd < (↑text0.length : Int))
  (Let (ix text0 s526.snd.snd) fun (x532 : UInt8) =>
  Let (x532 == toByte (10 : Int)) fun (x533 : Bool) =>
  if x533 = true then
  Chk ((0 : Int) ≤ s526.snd.fst ∧ s526.snd.fst ≤ s526.snd.snd ∧ s526.snd.snd ≤ (↑text0.length : Int))
  (Let (sub text0 s526.snd.fst s526.snd.snd) fun (x534 : List UInt8) =>
  Chk ((List.length s526.fst + [x534].length) * (16 : Nat) ≤ (140737488355328 : Nat))
  (Let (s526.fst ++ [x534]) fun (x535 : List (List UInt8)) =>
  Let (IntKind.i64.wrap (s526.snd.snd + (1 : Int))) fun (x536 : Int) => j531 (x535, x536)))
  else j531 (s526.fst, s526.snd.fst))
  else
  Let (↑text0.length : Int) fun (x537 : Int) =>
  Let (decide (s526.snd.fst < x537)) fun (x538 : Bool) =>
  if x538 = true then some ([], (3 : Int)) else some (s526.fst, (0 : Int)))
  fuel ([], (0 : Int), (0 : Int))

noncomputable def caromref08_IsIdentifier (s0 : (List UInt8)) : Option Bool :=
  LOOP
  (fun (rec539 : Int → Option Bool) (s540 : Int) =>
  Let (↑s0.length : Int) fun (x541 : Int) =>
  Let (decide (s540 < x541)) fun (x542 : Bool) =>
  if x542 = true then
  Chk ((0 : Int) ≤ s540 ∧ s540 < (↑s0.length : Int))
  (Let (ix s0 s540) fun (x543 : UInt8) =>
  Let (decide (toByte (97 : Int) ≤ x543)) fun (x544 : Bool) =>
  Chk ((x544 == true) = true → (0 : Int) ≤ s540 ∧ s540 < (↑s0.length : Int))
  (Let (ix s0 s540) fun (x545 : UInt8) =>
  Let (decide (x545 ≤ toByte (122 : Int))) fun (x546 : Bool) =>
  Let (bif x544 then x546 else false) fun (x547 : Bool) =>
  Let (!x547) fun (x548 : Bool) =>
  Let (s540 == (0 : Int)) fun (x549 : Bool) =>
  Chk ((x548 == true && x549 == false) = true → (0 : Int) ≤ s540 ∧ s540 < (↑s0.length : Int))
  (Let (ix s0 s540) fun (x550 : UInt8) =>
  Let (x550 != toByte (45 : Int)) fun (x551 : Bool) =>
  Chk ((x548 == true && x549 == false && x551 == true) = true → (0 : Int) ≤ s540 ∧ s540 < (↑s0.length : Int))
  (Let (ix s0 s540) fun (x552 : UInt8) =>
  Let (decide (x552 < toByte (48 : Int))) fun (x553 : Bool) =>
  Chk
  ((x548 == true && x549 == false && x551 == true && x553 == false) = true → (0 : Int) ≤ s540 ∧ s540 < (↑s0.length : Int))
  (Let (ix s0 s540) fun (x554 : UInt8) =>
  Let (decide (toByte (57 : Int) < x554)) fun (x555 : Bool) =>
  Let (bif x553 then true else x555) fun (x556 : Bool) =>
  Let (bif x551 then x556 else false) fun (x557 : Bool) =>
  Let (bif x549 then true else x557) fun (x558 : Bool) =>
  Let (bif x548 then x558 else false) fun (x559 : Bool) =>
  if x559 = true then some false else Let (IntKind.i64.wrap (s540 + (1 : Int))) fun (x560 : Int) => rec539 x560)))))
  else
  Let (↑s0.length : Int) fun (x561 : Int) =>
  Let (decide (x561 ≥ (1 : Int))) fun (x562 : Bool) =>
  Let (↑s0.length : Int) fun (x563 : Int) =>
  Let (decide (x563 ≤ (24 : Int))) fun (x564 : Bool) =>
  Let (bif x562 then x564 else false) fun (x565 : Bool) => some x565)
  fuel (0 : Int)

noncomputable def caromref08_JoinFields (fields0 : (List (List UInt8))) : Option (List UInt8) :=
  LOOP
  (fun (rec566 : List UInt8 × Int → Option (List UInt8)) (s567 : List UInt8 × Int) =>
  Let (↑fields0.length : Int) fun (x568 : Int) =>
  Let (decide (s567.snd < x568)) fun (x569 : Bool) =>
  if x569 = true then
  Join
  (fun (v570 : List UInt8) =>
  Chk ((0 : Int) ≤ s567.snd ∧ s567.snd < (↑fields0.length : Int))
  (Let (ix fields0 s567.snd) fun (x571 : List UInt8) =>
  Chk (v570.length + x571.length ≤ (9223372036854775807 : Nat))
  (Let (v570 ++ x571) fun (x572 : List UInt8) =>
  Let (IntKind.i64.wrap (s567.snd + (1 : Int))) fun (x573 : Int) => rec566 (x572, x573))))
  fun (j574 : List UInt8 → Option (List UInt8)) =>
  Let (decide (s567.snd > (0 : Int))) fun (x575 : Bool) =>
  if x575 = true then
  Chk (List.length s567.fst + (1 : Nat) ≤ (9223372036854775807 : Nat))
  (Let (s567.fst ++ #[(32 : UInt8)].toList) fun (x576 : List UInt8) => j574 x576)
  else j574 s567.fst
  else some s567.fst)
  fuel (#[].toList, (0 : Int))

noncomputable def caromlaw08_FormatFieldsAndLines (s0 : (List UInt8)) (fields1 : (List (List UInt8))) : Option Bool :=
  Let (↑s0.length : Int) fun (x577 : Int) =>
  Let (decide (x577 > (300 : Int))) fun (x578 : Bool) =>
  Let (↑fields1.length : Int) fun (x579 : Int) =>
  Let (decide (x579 > (20 : Int))) fun (x580 : Bool) =>
  Let (bif x578 then true else x580) fun (x581 : Bool) =>
  if x581 = true then Rx.Bind caromlaw08_example fun (r582 : Bool) => some r582
  else
  LOOP
  (fun (rec583 : Int → Option Bool) (s584 : Int) =>
  Let (↑fields1.length : Int) fun (x585 : Int) =>
  Let (decide (s584 < x585)) fun (x586 : Bool) =>
  if x586 = true then
  Chk ((0 : Int) ≤ s584 ∧ s584 < (↑fields1.length : Int))
  (Let (ix fields1 s584) fun (x587 : List UInt8) =>
  Let (↑x587.length : Int) fun (x588 : Int) =>
  Let (decide (x588 > (40 : Int))) fun (x589 : Bool) =>
  if x589 = true then Rx.Bind caromlaw08_example fun (r590 : Bool) => some r590
  else Let (IntKind.i64.wrap (s584 + (1 : Int))) fun (x591 : Int) => rec583 x591)
  else
  Rx.Bind (format_Fields s0) fun (r592 : List (List UInt8) × Int) =>
  Rx.Bind (caromref08_Fields s0) fun (r593 : List (List UInt8) × Int) =>
  Rx.Bind (format_SplitLines s0) fun (r594 : List (List UInt8) × Int) =>
  Rx.Bind (caromref08_SplitLines s0) fun (r595 : List (List UInt8) × Int) =>
  Rx.Bind (format_IsIdentifier s0) fun (r596 : Bool) =>
  Rx.Bind (caromref08_IsIdentifier s0) fun (r597 : Bool) =>
  Let (r596 == r597) fun (x598 : Bool) =>
  Rx.Bind (if (x598 == true) = true then caromref08_EqualStrings r592.fst r593.fst else some default) fun (r599 : Bool) =>
  Let (bif x598 then r599 else false) fun (x600 : Bool) =>
  Let (r592.snd == r593.snd) fun (x601 : Bool) =>
  Let (bif x600 then x601 else false) fun (x602 : Bool) =>
  Rx.Bind (if (x602 == true) = true then caromref08_EqualStrings r594.fst r595.fst else some default) fun (r603 : Bool) =>
  Let (bif x602 then r603 else false) fun (x604 : Bool) =>
  Let (r594.snd == r595.snd) fun (x605 : Bool) =>
  Let (bif x604 then x605 else false) fun (x606 : Bool) =>
  Rx.Bind (if (x606 == true) = true then format_JoinFields fields1 else some default) fun (r607 : List UInt8) =>
  Rx.Bind (if (x606 == true) = true then caromref08_JoinFields fields1 else some default) fun (r608 : List UInt8) =>
  Let (r607 == r608) fun (x609 : Bool) =>
  Let (bif x606 then x609 else false) fun (x610 : Bool) =>
  Rx.Bind (if (x610 == true) = true then caromlaw08_example else some default) fun (r611 : Bool) =>
  Let (bif x610 then r611 else false) fun (x612 : Bool) => some x612)
  fuel (0 : Int)

end GoForm
