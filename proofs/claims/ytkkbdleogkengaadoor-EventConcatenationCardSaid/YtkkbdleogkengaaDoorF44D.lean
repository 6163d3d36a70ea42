/- The functions' plain forms. Printed by go3.py. No conditions. -/
import Derived.Test.YtkkbdleogkengaaDoorF44T
set_option linter.all false
set_option maxRecDepth 100000
open Go Go.Rx Go.Proofs Go.RowKit
namespace GoForm

noncomputable def strings_explode (s0 : (List UInt8)) (n1 : Int) : Option (List (List UInt8)) :=
  none

noncomputable def strings_Count (s0 : (List UInt8)) (substr1 : (List UInt8)) : Option Int :=
  count1 s0 substr1

noncomputable def strings_Index (s0 : (List UInt8)) (substr1 : (List UInt8)) : Option Int :=
  index1 s0 substr1

noncomputable def strings_genSplit (s0 : (List UInt8)) (sep1 : (List UInt8)) (sepSave2 : Int) (n3 : Int) : Option (List (List UInt8)) :=
  Let (n3 == (0 : Int)) fun (x1 : Bool) =>
  if x1 = true then some []
  else
  Let (sep1 == #[].toList) fun (x2 : Bool) =>
  if x2 = true then Rx.Bind (strings_explode s0 n3) fun (r3 : List (List UInt8)) => some r3
  else
  Join
  (fun (v4 : Int) =>
  Let (↑s0.length : Int) fun (x5 : Int) =>
  Let (IntKind.i64.wrap (x5 + (1 : Int))) fun (x6 : Int) =>
  Let (min v4 x6) fun (x7 : Int) =>
  Chk ((0 : Int) ≤ x7 ∧ x7 ≤ x7 ∧ (↑(16 : Nat) : Int) * x7 ≤ (281474976710656 : Int) ∧ x7 ≤ (9223372036854775807 : Int))
  (Let (List.replicate x7.toNat #[].toList) fun (x8 : List (List UInt8)) =>
  Let (IntKind.i64.wrap (x7 - (1 : Int))) fun (x9 : Int) =>
  Join
  (fun (v10 : List UInt8 × Int × List (List UInt8)) =>
  Chk ((0 : Int) ≤ v10.snd.fst ∧ v10.snd.fst < (↑(List.length v10.snd.snd) : Int))
  (Chk ((0 : Int) ≤ v10.snd.fst ∧ v10.snd.fst < (↑(List.length v10.snd.snd) : Int))
  (Let (List.set v10.snd.snd (Int.toNat v10.snd.fst) v10.fst) fun (x11 : List (List UInt8)) =>
  Let (IntKind.i64.wrap (v10.snd.fst + (1 : Int))) fun (x12 : Int) =>
  Chk
  ((0 : Int) ≤ none.getD (0 : Int) ∧
  (0 : Int) ≤ (some x12).getD (0 : Int) ∧ (0 : Nat) ≤ x12.toNat ∧ x12.toNat ≤ x11.length)
  (Chk (x12.toNat - (0 : Nat) ≤ x11.length)
  (Let (List.take (x12.toNat - (0 : Nat)) x11) fun (x13 : List (List UInt8)) => some x13)))))
  fun (j14 : List UInt8 × Int × List (List UInt8) → Option (List (List UInt8))) =>
  LOOP
  (fun (rec15 : List UInt8 × Int × List (List UInt8) → Option (List (List UInt8)))
  (s16 : List UInt8 × Int × List (List UInt8)) =>
  Let (decide (s16.snd.fst < x9)) fun (x17 : Bool) =>
  if x17 = true then
  Rx.Bind (strings_Index s16.fst sep1) fun (r18 : Int) =>
  Let (decide (r18 < (0 : Int))) fun (x19 : Bool) =>
  if x19 = true then j14 s16
  else
  Let (IntKind.i64.wrap (r18 + sepSave2)) fun (x20 : Int) =>
  Chk ((0 : Int) ≤ x20 ∧ x20 ≤ (↑(List.length s16.fst) : Int))
  (Let (List.take x20.toNat s16.fst) fun (x21 : List UInt8) =>
  Chk ((0 : Int) ≤ s16.snd.fst ∧ s16.snd.fst < (↑(List.length s16.snd.snd) : Int))
  (Chk ((0 : Int) ≤ s16.snd.fst ∧ s16.snd.fst < (↑(List.length s16.snd.snd) : Int))
  (Let (List.set s16.snd.snd (Int.toNat s16.snd.fst) x21) fun (x22 : List (List UInt8)) =>
  Let (↑sep1.length : Int) fun (x23 : Int) =>
  Let (IntKind.i64.wrap (r18 + x23)) fun (x24 : Int) =>
  Chk ((0 : Int) ≤ x24 ∧ x24 ≤ (↑(List.length s16.fst) : Int))
  (Let (List.drop x24.toNat s16.fst) fun (x25 : List UInt8) =>
  Let (IntKind.i64.wrap (s16.snd.fst + (1 : Int))) fun (x26 : Int) => rec15 (x25, x26, x22)))))
  else j14 s16)
  fuel (s0, (0 : Int), x8)))
  fun (j27 : Int → Option (List (List UInt8))) =>
  Let (decide (n3 < (0 : Int))) fun (x28 : Bool) =>
  if x28 = true then
  Rx.Bind (strings_Count s0 sep1) fun (r29 : Int) => Let (IntKind.i64.wrap (r29 + (1 : Int))) fun (x30 : Int) => j27 x30
  else j27 n3

noncomputable def strings_Split (s0 : (List UInt8)) (sep1 : (List UInt8)) : Option (List (List UInt8)) :=
  Rx.Bind (strings_genSplit s0 sep1 (0 : Int) (-1 : Int)) fun (r31 : List (List UInt8)) => some r31

noncomputable def format_Fields (line0 : (List UInt8)) : Option ((List (List UInt8)) × Int) :=
  Let (line0 == #[].toList) fun (x32 : Bool) =>
  if x32 = true then some ([], (0 : Int))
  else
  Let (↑line0.length : Int) fun (x33 : Int) =>
  LOOP
  (fun (rec34 : Int → Option (List (List UInt8) × Int)) (s35 : Int) =>
  Let (decide (s35 < x33)) fun (x36 : Bool) =>
  if x36 = true then
  Chk ((0 : Int) ≤ s35 ∧ s35 < (↑line0.length : Int))
  (Let (ix line0 s35) fun (x37 : UInt8) =>
  Let (decide (x37 < toByte (32 : Int))) fun (x38 : Bool) =>
  Let (decide (toByte (126 : Int) < x37)) fun (x39 : Bool) =>
  Let (bif x38 then true else x39) fun (x40 : Bool) =>
  if x40 = true then some ([], (3 : Int)) else Let (IntKind.i64.wrap (s35 + (1 : Int))) fun (x41 : Int) => rec34 x41)
  else
  Rx.Bind (strings_Split line0 #[(32 : UInt8)].toList) fun (r42 : List (List UInt8)) =>
  Let (↑r42.length : Int) fun (x43 : Int) =>
  LOOP
  (fun (rec44 : Int → Option (List (List UInt8) × Int)) (s45 : Int) =>
  Let (decide (s45 < x43)) fun (x46 : Bool) =>
  if x46 = true then
  Chk ((0 : Int) ≤ s45 ∧ s45 < (↑r42.length : Int))
  (Let (ix r42 s45) fun (x47 : List UInt8) =>
  Let (x47 == #[].toList) fun (x48 : Bool) =>
  if x48 = true then some ([], (3 : Int)) else Let (IntKind.i64.wrap (s45 + (1 : Int))) fun (x49 : Int) => rec44 x49)
  else some (r42, (0 : Int)))
  fuel (0 : Int))
  fuel (0 : Int)

noncomputable def event_word (k0 : Int) : Option (List UInt8) :=
  Chk ((0 : Int) ≤ k0 ∧ k0 < (↑(9 : Nat) : Int))
  (Let
  (ix
  [#[].toList,
  #[(99 : UInt8), (111 : UInt8), (110 : UInt8), (116 : UInt8), (97 : UInt8), (99 : UInt8), (116 : UInt8), (45 : UInt8),
  (98 : UInt8), (101 : UInt8), (103 : UInt8), (105 : UInt8), (110 : UInt8)].toList,
  #[(99 : UInt8), (111 : UInt8), (110 : UInt8), (116 : UInt8), (97 : UInt8), (99 : UInt8), (116 : UInt8), (45 : UInt8),
  (101 : UInt8), (110 : UInt8), (100 : UInt8)].toList,
  #[(115 : UInt8), (101 : UInt8), (110 : UInt8), (115 : UInt8), (111 : UInt8), (114 : UInt8), (45 : UInt8), (101 : UInt8),
  (110 : UInt8), (116 : UInt8), (101 : UInt8), (114 : UInt8)].toList,
  #[(115 : UInt8), (101 : UInt8), (110 : UInt8), (115 : UInt8), (111 : UInt8), (114 : UInt8), (45 : UInt8), (101 : UInt8),
  (120 : UInt8), (105 : UInt8), (116 : UInt8)].toList,
  #[(106 : UInt8), (111 : UInt8), (105 : UInt8), (110 : UInt8), (116 : UInt8), (45 : UInt8), (98 : UInt8), (114 : UInt8),
  (101 : UInt8), (97 : UInt8), (107 : UInt8)].toList,
  #[(98 : UInt8), (111 : UInt8), (100 : UInt8), (121 : UInt8), (45 : UInt8), (115 : UInt8), (108 : UInt8), (101 : UInt8),
  (101 : UInt8), (112 : UInt8)].toList,
  #[(98 : UInt8), (111 : UInt8), (100 : UInt8), (121 : UInt8), (45 : UInt8), (119 : UInt8), (97 : UInt8), (107 : UInt8),
  (101 : UInt8)].toList,
  #[(98 : UInt8), (117 : UInt8), (108 : UInt8), (108 : UInt8), (101 : UInt8), (116 : UInt8), (45 : UInt8), (115 : UInt8),
  (116 : UInt8), (111 : UInt8), (112 : UInt8)].toList]
  k0)
  fun (x50 : List UInt8) => some x50)

noncomputable def stringslite_HasPrefix (s0 : (List UInt8)) (prefix1 : (List UInt8)) : Option Bool :=
  Let (↑s0.length : Int) fun (x51 : Int) =>
  Let (↑prefix1.length : Int) fun (x52 : Int) =>
  Let (decide (x51 ≥ x52)) fun (x53 : Bool) =>
  Let (↑prefix1.length : Int) fun (x54 : Int) =>
  Chk ((x53 == true) = true → (0 : Int) ≤ x54 ∧ x54 ≤ (↑s0.length : Int))
  (Let (List.take x54.toNat s0) fun (x55 : List UInt8) =>
  Let (x55 == prefix1) fun (x56 : Bool) => Let (bif x53 then x56 else false) fun (x57 : Bool) => some x57)

noncomputable def stringslite_CutPrefix (s0 : (List UInt8)) (prefix1 : (List UInt8)) : Option ((List UInt8) × Bool) :=
  Rx.Bind (stringslite_HasPrefix s0 prefix1) fun (r58 : Bool) =>
  Let (!r58) fun (x59 : Bool) =>
  if x59 = true then some (s0, false)
  else
  Let (↑prefix1.length : Int) fun (x60 : Int) =>
  Chk ((0 : Int) ≤ x60 ∧ x60 ≤ (↑s0.length : Int))
  (Let (List.drop x60.toNat s0) fun (x61 : List UInt8) => some (x61, true))

noncomputable def strings_CutPrefix (s0 : (List UInt8)) (prefix1 : (List UInt8)) : Option ((List UInt8) × Bool) :=
  Rx.Bind (stringslite_CutPrefix s0 prefix1) fun (r62 : List UInt8 × Bool) => some r62

noncomputable def format_parseDecimal (s0 : (List UInt8)) : Option (format_decimal × Bool) :=
  Rx.Bind (strings_CutPrefix s0 #[(45 : UInt8)].toList) fun (r63 : List UInt8 × Bool) =>
  Let (r63.fst == #[].toList) fun (x64 : Bool) =>
  Chk ((x64 == false) = true → (0 : Int) ≤ (0 : Int) ∧ (0 : Int) < (↑(List.length r63.fst) : Int))
  (Let (ix r63.fst (0 : Int)) fun (x65 : UInt8) =>
  Let (x65 == toByte (48 : Int)) fun (x66 : Bool) =>
  Let (s0 != #[(48 : UInt8)].toList) fun (x67 : Bool) =>
  Let (bif x66 then x67 else false) fun (x68 : Bool) =>
  Let (bif x64 then true else x68) fun (x69 : Bool) =>
  if x69 = true then some ({ negative := false, magnitude := (0 : Int), unit := (0 : Int) : format_decimal }, false)
  else
  LOOP
  (fun (rec70 : format_decimal × format_decimal × List UInt8 × Nat → Option (format_decimal × Bool))
  (s71 : format_decimal × format_decimal × List UInt8 × Nat) =>
  if decide (s71.snd.snd.snd < s71.snd.snd.fst.length) = true then
  Let (decide ((↑(Utf8.decode { data := s71.snd.snd.fst.toArray : ByteArray } s71.snd.snd.snd).fst : Int) < (48 : Int)))
  fun (x72 : Bool) =>
  Let (decide ((↑(Utf8.decode { data := s71.snd.snd.fst.toArray : ByteArray } s71.snd.snd.snd).fst : Int) > (57 : Int)))
  fun (x73 : Bool) =>
  Let (bif x72 then true else x73) fun (x74 : Bool) =>
  if x74 = true then some ({ negative := false, magnitude := (0 : Int), unit := (0 : Int) : format_decimal }, false)
  else
  Let
  (IntKind.i32.wrap
  ((↑(Utf8.decode { data := s71.snd.snd.fst.toArray : ByteArray } s71.snd.snd.snd).fst : Int) - (48 : Int)))
  fun (x75 : Int) =>
  Let (IntKind.u64.wrap x75) fun (x76 : Int) =>
  Join
  (fun (v77 : format_decimal) =>
  Let (IntKind.u64.wrap (v77.unit * (10 : Int))) fun (x78 : Int) =>
  Let (IntKind.u64.wrap (x78 + x76)) fun (x79 : Int) =>
  Let (x79.tmod (65536 : Int)) fun (x80 : Int) =>
  rec70
  (s71.fst, { negative := v77.negative, magnitude := v77.magnitude, unit := x80 : format_decimal }, s71.snd.snd.fst,
  s71.snd.snd.snd + (Utf8.decode { data := s71.snd.snd.fst.toArray : ByteArray } s71.snd.snd.snd).snd))
  fun (j81 : format_decimal → Option (format_decimal × Bool)) =>
  Let (decide (s71.snd.fst.magnitude > (461168601842738790 : Int))) fun (x82 : Bool) =>
  if x82 = true then
  j81
  { negative := s71.snd.fst.negative, magnitude := (4611686018427387905 : Int), unit := s71.snd.fst.unit : format_decimal }
  else
  Let (IntKind.u64.wrap (s71.snd.fst.magnitude * (10 : Int))) fun (x83 : Int) =>
  Let (IntKind.u64.wrap (x83 + x76)) fun (x84 : Int) =>
  Let (min x84 (4611686018427387905 : Int)) fun (x85 : Int) =>
  j81 { negative := s71.snd.fst.negative, magnitude := x85, unit := s71.snd.fst.unit : format_decimal }
  else some (s71.snd.fst, true))
  fuel
  ({ negative := false, magnitude := (0 : Int), unit := (0 : Int) : format_decimal },
  { negative := r63.snd, magnitude := (0 : Int), unit := (0 : Int) : format_decimal }, r63.fst, (0 : Nat)))

noncomputable def format_decimal_value (d0 : format_decimal) : Option Int :=
  if d0.negative = true then
  Let (IntKind.i64.wrap d0.magnitude) fun (x86 : Int) =>
  Let (IntKind.i64.wrap ((0 : Int) - x86)) fun (x87 : Int) => some x87
  else Let (IntKind.i64.wrap d0.magnitude) fun (x88 : Int) => some x88

noncomputable def format_ParseInt (s0 : (List UInt8)) : Option (Int × Int) :=
  Rx.Bind (format_parseDecimal s0) fun (r89 : format_decimal × Bool) =>
  Let (!r89.snd) fun (x90 : Bool) =>
  if x90 = true then some ((0 : Int), (3 : Int))
  else
  Let (decide (r89.fst.magnitude > (4611686018427387904 : Int))) fun (x91 : Bool) =>
  if x91 = true then some ((0 : Int), (6 : Int))
  else Rx.Bind (format_decimal_value r89.fst) fun (r92 : Int) => some (r92, (0 : Int))

noncomputable def event_parseFields (fields0 : (List (List UInt8))) : Option (Event × Bool) :=
  LOOP
  (fun (rec93 : Int × Event → Option (Event × Bool)) (s94 : Int × Event) =>
  Let (decide (s94.fst < (9 : Int))) fun (x95 : Bool) =>
  if x95 = true then
  Join (fun (v96 : Event) => Let (IntKind.i64.wrap (s94.fst + (1 : Int))) fun (x97 : Int) => rec93 (x97, v96))
  fun (j98 : Event → Option (Event × Bool)) =>
  Rx.Bind (event_word s94.fst) fun (r99 : List UInt8) =>
  Chk ((0 : Int) ≤ (0 : Int) ∧ (0 : Int) < (↑fields0.length : Int))
  (Let (ix fields0 (0 : Int)) fun (x100 : List UInt8) =>
  Let (r99 == x100) fun (x101 : Bool) =>
  if x101 = true then j98 { Kind := s94.fst, Key := s94.snd.Key : Event } else j98 s94.snd)
  else
  Let (↑fields0.length : Int) fun (x102 : Int) =>
  Let (decide (x102 > IntKind.i64.wrap ((1 : Int) + (↑(4 : Nat) : Int)))) fun (x103 : Bool) =>
  if x103 = true then
  some
  ({ Kind := (0 : Int), Key := { BodyA := (0 : Int), FixtureA := (0 : Int), BodyB := (0 : Int), FixtureB := (0 : Int) : PairKey } : Event },
  false)
  else
  Chk ((0 : Int) ≤ (1 : Int) ∧ (1 : Int) ≤ (↑fields0.length : Int))
  (Let (List.drop (1 : Nat) fields0) fun (x104 : List (List UInt8)) =>
  Let (↑x104.length : Int) fun (x105 : Int) =>
  Let (decide ((0 : Int) < x105)) fun (x106 : Bool) =>
  if x106 = true then
  Chk ((0 : Int) ≤ (0 : Int) ∧ (0 : Int) < (↑x104.length : Int))
  (Let (ix x104 (0 : Int)) fun (x107 : List UInt8) =>
  Rx.Bind (format_ParseInt x107) fun (r108 : Int × Int) =>
  Let (r108.snd != (0 : Int)) fun (x109 : Bool) =>
  if x109 = true then
  some
  ({ Kind := (0 : Int), Key := { BodyA := (0 : Int), FixtureA := (0 : Int), BodyB := (0 : Int), FixtureB := (0 : Int) : PairKey } : Event },
  false)
  else
  Let (decide (IntKind.i64.wrap ((0 : Int) + (1 : Int)) < x105)) fun (x110 : Bool) =>
  if x110 = true then
  Chk
  ((0 : Int) ≤ IntKind.i64.wrap ((0 : Int) + (1 : Int)) ∧ IntKind.i64.wrap ((0 : Int) + (1 : Int)) < (↑x104.length : Int))
  (Let (ix x104 (IntKind.i64.wrap ((0 : Int) + (1 : Int)))) fun (x111 : List UInt8) =>
  Rx.Bind (format_ParseInt x111) fun (r112 : Int × Int) =>
  Let (r112.snd != (0 : Int)) fun (x113 : Bool) =>
  if x113 = true then
  some
  ({ Kind := (0 : Int), Key := { BodyA := (0 : Int), FixtureA := (0 : Int), BodyB := (0 : Int), FixtureB := (0 : Int) : PairKey } : Event },
  false)
  else
  Let (decide (IntKind.i64.wrap (IntKind.i64.wrap ((0 : Int) + (1 : Int)) + (1 : Int)) < x105)) fun (x114 : Bool) =>
  if x114 = true then
  Chk
  ((0 : Int) ≤ IntKind.i64.wrap (IntKind.i64.wrap ((0 : Int) + (1 : Int)) + (1 : Int)) ∧
  IntKind.i64.wrap (IntKind.i64.wrap ((0 : Int) + (1 : Int)) + (1 : Int)) < (↑x104.length : Int))
  (Let (ix x104 (IntKind.i64.wrap (IntKind.i64.wrap ((0 : Int) + (1 : Int)) + (1 : Int)))) fun (x115 : List UInt8) =>
  Rx.Bind (format_ParseInt x115) fun (r116 : Int × Int) =>
  Let (r116.snd != (0 : Int)) fun (x117 : Bool) =>
  if x117 = true then
  some
  ({ Kind := (0 : Int), Key := { BodyA := (0 : Int), FixtureA := (0 : Int), BodyB := (0 : Int), FixtureB := (0 : Int) : PairKey } : Event },
  false)
  else
  Let
  (decide (IntKind.i64.wrap (IntKind.i64.wrap (IntKind.i64.wrap ((0 : Int) + (1 : Int)) + (1 : Int)) + (1 : Int)) < x105))
  fun (x118 : Bool) =>
  if x118 = true then
  Chk
  ((0 : Int) ≤ IntKind.i64.wrap (IntKind.i64.wrap (IntKind.i64.wrap ((0 : Int) + (1 : Int)) + (1 : Int)) + (1 : Int)) ∧
  IntKind.i64.wrap (IntKind.i64.wrap (IntKind.i64.wrap ((0 : Int) + (1 : Int)) + (1 : Int)) + (1 : Int)) <
  (↑x104.length : Int))
  (Let (ix x104 (IntKind.i64.wrap (IntKind.i64.wrap (IntKind.i64.wrap ((0 : Int) + (1 : Int)) + (1 : Int)) + (1 : Int))))
  fun (x119 : List UInt8) =>
  Rx.Bind (format_ParseInt x119) fun (r120 : Int × Int) =>
  Let (r120.snd != (0 : Int)) fun (x121 : Bool) =>
  if x121 = true then
  some
  ({ Kind := (0 : Int), Key := { BodyA := (0 : Int), FixtureA := (0 : Int), BodyB := (0 : Int), FixtureB := (0 : Int) : PairKey } : Event },
  false)
  else
  Let
  (decide
  (IntKind.i64.wrap
  (IntKind.i64.wrap (IntKind.i64.wrap (IntKind.i64.wrap ((0 : Int) + (1 : Int)) + (1 : Int)) + (1 : Int)) + (1 : Int)) <
  x105))
  fun (x122 : Bool) =>
  if x122 = true then
  Chk
  ((0 : Int) ≤
  IntKind.i64.wrap
  (IntKind.i64.wrap (IntKind.i64.wrap (IntKind.i64.wrap ((0 : Int) + (1 : Int)) + (1 : Int)) + (1 : Int)) + (1 : Int)) ∧
  IntKind.i64.wrap
  (IntKind.i64.wrap (IntKind.i64.wrap (IntKind.i64.wrap ((0 : Int) + (1 : Int)) + (1 : Int)) + (1 : Int)) + (1 : Int)) <
  (↑x104.length : Int))
  (Let
  (ix x104
  (IntKind.i64.wrap
  (IntKind.i64.wrap (IntKind.i64.wrap (IntKind.i64.wrap ((0 : Int) + (1 : Int)) + (1 : Int)) + (1 : Int)) + (1 : Int))))
  fun (x123 : List UInt8) =>
  Rx.Bind (format_ParseInt x123) fun (r124 : Int × Int) =>
  Let (r124.snd != (0 : Int)) fun (x125 : Bool) =>
  if x125 = true then
  some
  ({ Kind := (0 : Int), Key := { BodyA := (0 : Int), FixtureA := (0 : Int), BodyB := (0 : Int), FixtureB := (0 : Int) : PairKey } : Event },
  false)
  else none)
  else
  some
  ({ Kind := s94.snd.Kind, Key := { BodyA := r108.fst, FixtureA := r112.fst, BodyB := r116.fst, FixtureB := r120.fst : PairKey } : Event },
  true))
  else
  some
  ({ Kind := s94.snd.Kind, Key := { BodyA := r108.fst, FixtureA := r112.fst, BodyB := r116.fst, FixtureB := s94.snd.Key.FixtureB : PairKey } : Event },
  true))
  else
  some
  ({ Kind := s94.snd.Kind, Key := { BodyA := r108.fst, FixtureA := r112.fst, BodyB := s94.snd.Key.BodyB, FixtureB := s94.snd.Key.FixtureB : PairKey } : Event },
  true))
  else
  some
  ({ Kind := s94.snd.Kind, Key := { BodyA := r108.fst, FixtureA := s94.snd.Key.FixtureA, BodyB := s94.snd.Key.BodyB, FixtureB := s94.snd.Key.FixtureB : PairKey } : Event },
  true))
  else some (s94.snd, true)))
  fuel
  ((1 : Int),
  { Kind := (0 : Int), Key := { BodyA := (0 : Int), FixtureA := (0 : Int), BodyB := (0 : Int), FixtureB := (0 : Int) : PairKey } : Event })

noncomputable def event_known (k0 : Int) : Option Bool :=
  Let (decide (k0 ≥ (1 : Int))) fun (x126 : Bool) =>
  Let (decide (k0 < (9 : Int))) fun (x127 : Bool) => Let (bif x126 then x127 else false) fun (x128 : Bool) => some x128

noncomputable def event_Valid_1 (n0 : Int) : Option Bool :=
  Let (decide (n0 ≥ (0 : Int))) fun (x129 : Bool) =>
  Let (decide (n0 ≤ (1099511627776 : Int))) fun (x130 : Bool) =>
  Let (bif x129 then x130 else false) fun (x131 : Bool) => some x131

noncomputable def event_isPairEvent (k0 : Int) : Option Bool :=
  Let (decide (k0 ≥ (1 : Int))) fun (x132 : Bool) =>
  Let (decide (k0 ≤ (4 : Int))) fun (x133 : Bool) => Let (bif x132 then x133 else false) fun (x134 : Bool) => some x134

noncomputable def event_Valid (e0 : Event) : Option Bool :=
  Rx.Bind (event_known e0.Kind) fun (r135 : Bool) =>
  Let (!r135) fun (x136 : Bool) =>
  if x136 = true then some false
  else
  Rx.Bind (event_isPairEvent e0.Kind) fun (r137 : Bool) =>
  Let (!r137) fun (x138 : Bool) =>
  if x138 = true then
  Rx.Bind (event_Valid_1 e0.Key.BodyA) fun (r139 : Bool) =>
  Let
  (decide (e0.Key.BodyA = e0.Key.BodyA) &&
  (decide (e0.Key.FixtureA = (0 : Int)) && (decide (e0.Key.BodyB = (0 : Int)) && decide (e0.Key.FixtureB = (0 : Int)))))
  fun (x140 : Bool) => Let (bif r139 then x140 else false) fun (x141 : Bool) => some x141
  else
  Rx.Bind (event_Valid_1 e0.Key.BodyA) fun (r142 : Bool) =>
  Rx.Bind (if (r142 == true) = true then event_Valid_1 e0.Key.FixtureA else some default) fun (r143 : Bool) =>
  Let (bif r142 then r143 else false) fun (x144 : Bool) =>
  Rx.Bind (if (x144 == true) = true then event_Valid_1 e0.Key.BodyB else some default) fun (r145 : Bool) =>
  Let (bif x144 then r145 else false) fun (x146 : Bool) =>
  Rx.Bind (if (x146 == true) = true then event_Valid_1 e0.Key.FixtureB else some default) fun (r147 : Bool) =>
  Let (bif x146 then r147 else false) fun (x148 : Bool) => some x148

noncomputable def format_FormatInt (n0 : Int) : Option (List UInt8) :=
  Let (IntKind.u64.wrap n0) fun (x149 : Int) =>
  Join
  (fun (v150 : Int) =>
  LOOP
  (fun (rec151 : Int × Int × List UInt8 → Option (List UInt8)) (s152 : Int × Int × List UInt8) =>
  Let (IntKind.i64.wrap (s152.snd.fst - (1 : Int))) fun (x153 : Int) =>
  Let (Int.tmod s152.fst (10 : Int)) fun (x154 : Int) =>
  Let (IntKind.u64.wrap ((48 : Int) + x154)) fun (x155 : Int) =>
  Let (toByte x155) fun (x156 : UInt8) =>
  Chk ((0 : Int) ≤ x153 ∧ x153 < (↑(20 : Nat) : Int))
  (Chk ((0 : Int) ≤ x153 ∧ x153 < (↑(List.length s152.snd.snd) : Int))
  (Let (List.set s152.snd.snd x153.toNat x156) fun (x157 : List UInt8) =>
  Let (IntKind.u64.wrap (Int.tdiv s152.fst (10 : Int))) fun (x158 : Int) =>
  Let (x158 == (0 : Int)) fun (x159 : Bool) =>
  if x159 = true then
  Join
  (fun (v160 : Int × List UInt8) =>
  Chk
  ((0 : Int) ≤ (some v160.fst).getD (0 : Int) ∧
  (0 : Int) ≤ none.getD (0 : Int) ∧
  Int.toNat v160.fst ≤ (20 : Nat) ∧ (20 : Nat) ≤ (20 : Nat) ∧ (20 : Nat) ≤ List.length v160.snd)
  (Chk (Int.toNat v160.fst + ((20 : Nat) - Int.toNat v160.fst) ≤ List.length v160.snd)
  (some (List.take ((20 : Nat) - Int.toNat v160.fst) (List.drop (Int.toNat v160.fst) v160.snd)))))
  fun (j161 : Int × List UInt8 → Option (List UInt8)) =>
  Let (decide (n0 < (0 : Int))) fun (x162 : Bool) =>
  if x162 = true then
  Let (IntKind.i64.wrap (x153 - (1 : Int))) fun (x163 : Int) =>
  Chk ((0 : Int) ≤ x163 ∧ x163 < (↑(20 : Nat) : Int))
  (Chk ((0 : Int) ≤ x163 ∧ x163 < (↑x157.length : Int))
  (Let (x157.set x163.toNat (toByte (45 : Int))) fun (x164 : List UInt8) => j161 (x163, x164)))
  else j161 (x153, x157)
  else rec151 (x158, x153, x157))))
  fuel
  (v150, (20 : Int),
  [toByte (0 : Int), toByte (0 : Int), toByte (0 : Int), toByte (0 : Int), toByte (0 : Int), toByte (0 : Int),
  toByte (0 : Int), toByte (0 : Int), toByte (0 : Int), toByte (0 : Int), toByte (0 : Int), toByte (0 : Int),
  toByte (0 : Int), toByte (0 : Int), toByte (0 : Int), toByte (0 : Int), toByte (0 : Int), toByte (0 : Int),
  toByte (0 : Int), toByte (0 : Int)]))
  fun (j165 : Int → Option (List UInt8)) =>
  Let (decide (n0 < (0 : Int))) fun (x166 : Bool) =>
  if x166 = true then Let (IntKind.u64.wrap ((0 : Int) - x149)) fun (x167 : Int) => j165 x167 else j165 x149

noncomputable def strings_Join (elems0 : (List (List UInt8))) (sep1 : (List UInt8)) : Option (List UInt8) :=
  joinS elems0 sep1

noncomputable def format_JoinFields (fields0 : (List (List UInt8))) : Option (List UInt8) :=
  Rx.Bind (strings_Join fields0 #[(32 : UInt8)].toList) fun (r168 : List UInt8) => some r168

noncomputable def event_Format (e0 : Event) : Option (List UInt8) :=
  Rx.Bind (event_Valid e0) fun (r169 : Bool) =>
  Let (!r169) fun (x170 : Bool) =>
  if x170 = true then some #[].toList
  else
  Rx.Bind (event_isPairEvent e0.Kind) fun (r171 : Bool) =>
  Let (!r171) fun (x172 : Bool) =>
  if x172 = true then
  Rx.Bind (event_word e0.Kind) fun (r173 : List UInt8) =>
  Rx.Bind (format_FormatInt e0.Key.BodyA) fun (r174 : List UInt8) =>
  Rx.Bind (format_JoinFields [r173, r174]) fun (r175 : List UInt8) => some r175
  else
  Rx.Bind (event_word e0.Kind) fun (r176 : List UInt8) =>
  Rx.Bind (format_FormatInt e0.Key.BodyA) fun (r177 : List UInt8) =>
  Rx.Bind (format_FormatInt e0.Key.FixtureA) fun (r178 : List UInt8) =>
  Rx.Bind (format_FormatInt e0.Key.BodyB) fun (r179 : List UInt8) =>
  Rx.Bind (format_FormatInt e0.Key.FixtureB) fun (r180 : List UInt8) =>
  Rx.Bind (format_JoinFields [r176, r177, r178, r179, r180]) fun (r181 : List UInt8) => some r181

noncomputable def event_Parse (s0 : (List UInt8)) : Option (Event × Int) :=
  Rx.Bind (format_Fields s0) fun (r182 : List (List UInt8) × Int) =>
  Let (r182.snd != (0 : Int)) fun (x183 : Bool) =>
  Let (↑(List.length r182.fst) : Int) fun (x184 : Int) =>
  Let (x184 == (0 : Int)) fun (x185 : Bool) =>
  Let (bif x183 then true else x185) fun (x186 : Bool) =>
  if x186 = true then
  some
  ({ Kind := (0 : Int), Key := { BodyA := (0 : Int), FixtureA := (0 : Int), BodyB := (0 : Int), FixtureB := (0 : Int) : PairKey } : Event },
  (3 : Int))
  else
  Rx.Bind (event_parseFields r182.fst) fun (r187 : Event × Bool) =>
  Let (!r187.snd) fun (x188 : Bool) =>
  Rx.Bind (if (x188 == false) = true then event_Format r187.fst else some default) fun (r189 : List UInt8) =>
  Let (r189 != s0) fun (x190 : Bool) =>
  Let (bif x188 then true else x190) fun (x191 : Bool) =>
  if x191 = true then
  some
  ({ Kind := (0 : Int), Key := { BodyA := (0 : Int), FixtureA := (0 : Int), BodyB := (0 : Int), FixtureB := (0 : Int) : PairKey } : Event },
  (3 : Int))
  else some (r187.fst, (0 : Int))

noncomputable def slices_Clone (s0 : (List PairKey)) : Option (List PairKey) :=
  Rx.Alike (s0 = []) (some []) (Chk (s0.length * (32 : Nat) ≤ (140737488355328 : Nat)) (some s0))

noncomputable def slices_Index (s0 : (List PairKey)) (v1 : PairKey) : Option Int :=
  Let (↑s0.length : Int) fun (x192 : Int) =>
  LOOP
  (fun (rec193 : Int → Option Int) (s194 : Int) =>
  Let (decide (s194 < x192)) fun (x195 : Bool) =>
  if x195 = true then
  Chk ((0 : Int) ≤ s194 ∧ s194 < (↑s0.length : Int))
  (Let (ix s0 s194) fun (x196 : PairKey) =>
  Let
  (decide (v1.BodyA = x196.BodyA) &&
  (decide (v1.FixtureA = x196.FixtureA) && (decide (v1.BodyB = x196.BodyB) && decide (v1.FixtureB = x196.FixtureB))))
  fun (x197 : Bool) =>
  if x197 = true then some s194 else Let (IntKind.i64.wrap (s194 + (1 : Int))) fun (x198 : Int) => rec193 x198)
  else some (-1 : Int))
  fuel (0 : Int)

noncomputable def event_ActiveContacts (active0 : (List PairKey)) (events1 : (List Event)) : Option ((List PairKey) × Int) :=
  Rx.Bind (slices_Clone active0) fun (r199 : List PairKey) =>
  Let (↑events1.length : Int) fun (x200 : Int) =>
  LOOP
  (fun (rec201 : List PairKey × Int → Option (List PairKey × Int)) (s202 : List PairKey × Int) =>
  Let (decide (s202.snd < x200)) fun (x203 : Bool) =>
  if x203 = true then
  Join
  (fun (v204 : List PairKey) => Let (IntKind.i64.wrap (s202.snd + (1 : Int))) fun (x205 : Int) => rec201 (v204, x205))
  fun (j206 : List PairKey → Option (List PairKey × Int)) =>
  Chk ((0 : Int) ≤ s202.snd ∧ s202.snd < (↑events1.length : Int))
  (Let (ix events1 s202.snd) fun (x207 : Event) =>
  Rx.Bind (slices_Index s202.fst x207.Key) fun (r208 : Int) =>
  Let (x207.Kind == (1 : Int)) fun (x209 : Bool) =>
  Let (decide (r208 ≥ (0 : Int))) fun (x210 : Bool) =>
  Let (bif x209 then x210 else false) fun (x211 : Bool) =>
  if x211 = true then some ([], (7 : Int))
  else
  Let (x207.Kind == (1 : Int)) fun (x212 : Bool) =>
  if x212 = true then
  Chk ((List.length s202.fst + [x207.Key].length) * (32 : Nat) ≤ (140737488355328 : Nat))
  (Let (s202.fst ++ [x207.Key]) fun (x213 : List PairKey) => j206 x213)
  else
  Let (x207.Kind == (2 : Int)) fun (x214 : Bool) =>
  Let (decide (r208 < (0 : Int))) fun (x215 : Bool) =>
  Let (bif x214 then x215 else false) fun (x216 : Bool) =>
  if x216 = true then some ([], (8 : Int))
  else
  Let (x207.Kind == (2 : Int)) fun (x217 : Bool) =>
  if x217 = true then
  Let (IntKind.i64.wrap (r208 + (1 : Int))) fun (x218 : Int) =>
  Let (↑(List.length s202.fst) : Int) fun (x219 : Int) =>
  Chk ((0 : Int) ≤ r208 ∧ r208 ≤ x218 ∧ x218 ≤ x219 ∧ x219 ≤ (↑(List.length s202.fst) : Int))
  (Let (r208 == x218) fun (x220 : Bool) =>
  if x220 = true then j206 s202.fst
  else
  Let (↑(List.length s202.fst) : Int) fun (x221 : Int) =>
  Chk
  ((0 : Int) ≤ none.getD (0 : Int) ∧
  (0 : Int) ≤ (some r208).getD (0 : Int) ∧ (0 : Nat) ≤ r208.toNat ∧ r208.toNat ≤ List.length s202.fst)
  (Chk
  ((0 : Int) ≤ (some x218).getD (0 : Int) ∧
  (0 : Int) ≤ none.getD (0 : Int) ∧ x218.toNat ≤ List.length s202.fst ∧ List.length s202.fst ≤ List.length s202.fst)
  (Chk (x218.toNat + (List.length s202.fst - x218.toNat) ≤ List.length s202.fst)
  (Let (List.take (List.length s202.fst - x218.toNat) (List.drop x218.toNat s202.fst)) fun (x222 : List PairKey) =>
  Chk
  ((0 : Nat) + (r208.toNat - (0 : Nat) + x222.length) ≤ List.length s202.fst ∧
  r208.toNat - (0 : Nat) + x222.length ≤ List.length s202.fst - (0 : Nat) ∧ (0 : Nat) < List.length s202.fst - (0 : Nat))
  (Let
  (List.take ((0 : Nat) + (r208.toNat - (0 : Nat))) s202.fst ++ x222 ++
  List.drop ((0 : Nat) + (r208.toNat - (0 : Nat)) + x222.length) s202.fst)
  fun (x223 : List PairKey) =>
  Chk
  ((0 : Int) ≤ (some (↑(r208.toNat - (0 : Nat) + x222.length) : Int)).getD (0 : Int) ∧
  (0 : Int) ≤ (some x221).getD (0 : Int) ∧
  (↑(r208.toNat - (0 : Nat) + x222.length) : Int).toNat ≤ x221.toNat ∧
  x221.toNat ≤ List.length s202.fst - (0 : Nat) ∧ r208.toNat - (0 : Nat) + x222.length ≤ List.length s202.fst - (0 : Nat))
  (Chk
  ((0 : Nat) + (↑(r208.toNat - (0 : Nat) + x222.length) : Int).toNat +
  (x221.toNat - (↑(r208.toNat - (0 : Nat) + x222.length) : Int).toNat) ≤
  x223.length ∧
  (0 : Nat) < List.length s202.fst - (0 : Nat) - (↑(r208.toNat - (0 : Nat) + x222.length) : Int).toNat)
  (Let
  (List.take ((0 : Nat) + (↑(r208.toNat - (0 : Nat) + x222.length) : Int).toNat) x223 ++
  List.replicate (x221.toNat - (↑(r208.toNat - (0 : Nat) + x222.length) : Int).toNat)
  { BodyA := (0 : Int), FixtureA := (0 : Int), BodyB := (0 : Int), FixtureB := (0 : Int) : PairKey } ++
  List.drop
  ((0 : Nat) + (↑(r208.toNat - (0 : Nat) + x222.length) : Int).toNat +
  (x221.toNat - (↑(r208.toNat - (0 : Nat) + x222.length) : Int).toNat))
  x223)
  fun (x224 : List PairKey) =>
  Chk (r208.toNat - (0 : Nat) + x222.length ≤ x224.length)
  (Let (List.take (r208.toNat - (0 : Nat) + x222.length) x224) fun (x225 : List PairKey) => j206 x225))))))))
  else j206 s202.fst)
  else some (s202.fst, (0 : Int)))
  fuel (r199, (0 : Int))

noncomputable def cmp_isNaN (x0 : Int) : Option Bool :=
  Let (x0 != x0) fun (x226 : Bool) => some x226

noncomputable def cmp_Compare (x0 : Int) (y1 : Int) : Option Int :=
  Rx.Bind (cmp_isNaN x0) fun (r227 : Bool) =>
  Rx.Bind (cmp_isNaN y1) fun (r228 : Bool) =>
  if r227 = true then if r228 = true then some (0 : Int) else some (-1 : Int)
  else
  if r228 = true then some (1 : Int)
  else
  Let (decide (x0 < y1)) fun (x229 : Bool) =>
  if x229 = true then some (-1 : Int)
  else Let (decide (x0 > y1)) fun (x230 : Bool) => if x230 = true then some (1 : Int) else some (0 : Int)

noncomputable def cmp_isNaN_68 (x0 : Int) : Option Bool :=
  Let (x0 != x0) fun (x231 : Bool) => some x231

noncomputable def cmp_Compare_59 (x0 : Int) (y1 : Int) : Option Int :=
  Rx.Bind (cmp_isNaN_68 x0) fun (r232 : Bool) =>
  Rx.Bind (cmp_isNaN_68 y1) fun (r233 : Bool) =>
  if r232 = true then if r233 = true then some (0 : Int) else some (-1 : Int)
  else
  if r233 = true then some (1 : Int)
  else
  Let (decide (x0 < y1)) fun (x234 : Bool) =>
  if x234 = true then some (-1 : Int)
  else Let (decide (x0 > y1)) fun (x235 : Bool) => if x235 = true then some (1 : Int) else some (0 : Int)

noncomputable def cmp_Or (vals0 : (List Int)) : Option Int :=
  Let (↑vals0.length : Int) fun (x236 : Int) =>
  LOOP
  (fun (rec237 : Int → Option Int) (s238 : Int) =>
  Let (decide (s238 < x236)) fun (x239 : Bool) =>
  if x239 = true then
  Chk ((0 : Int) ≤ s238 ∧ s238 < (↑vals0.length : Int))
  (Let (ix vals0 s238) fun (x240 : Int) =>
  Let (x240 != (0 : Int)) fun (x241 : Bool) =>
  if x241 = true then some x240 else Let (IntKind.i64.wrap (s238 + (1 : Int))) fun (x242 : Int) => rec237 x242)
  else some (0 : Int))
  fuel (0 : Int)

noncomputable def event_compare (a0 : Event) (b1 : Event) : Option Int :=
  Rx.Bind (cmp_Compare a0.Kind b1.Kind) fun (r243 : Int) =>
  Rx.Bind (cmp_Compare_59 a0.Key.BodyA b1.Key.BodyA) fun (r244 : Int) =>
  Rx.Bind (cmp_Compare_59 a0.Key.FixtureA b1.Key.FixtureA) fun (r245 : Int) =>
  Rx.Bind (cmp_Compare_59 a0.Key.BodyB b1.Key.BodyB) fun (r246 : Int) =>
  Rx.Bind (cmp_Compare_59 a0.Key.FixtureB b1.Key.FixtureB) fun (r247 : Int) =>
  Rx.Bind (cmp_Or [r243, r244, r245, r246, r247]) fun (r248 : Int) => some r248

noncomputable def event_Less (a0 : Event) (b1 : Event) : Option Bool :=
  Rx.Bind (event_compare a0 b1) fun (r249 : Int) => Let (decide (r249 < (0 : Int))) fun (x250 : Bool) => some x250

noncomputable def event_Count (events0 : (List Event)) (k1 : Int) : Option Int :=
  Let (↑events0.length : Int) fun (x251 : Int) =>
  LOOP
  (fun (rec252 : Int × Int → Option Int) (s253 : Int × Int) =>
  Let (decide (s253.snd < x251)) fun (x254 : Bool) =>
  if x254 = true then
  Join (fun (v255 : Int) => Let (IntKind.i64.wrap (s253.snd + (1 : Int))) fun (x256 : Int) => rec252 (v255, x256))
  fun (j257 : Int → Option Int) =>
  Chk ((0 : Int) ≤ s253.snd ∧ s253.snd < (↑events0.length : Int))
  (Let (ix events0 s253.snd) fun (x258 : Event) =>
  Let (x258.Kind == k1) fun (x259 : Bool) =>
  if x259 = true then Let (IntKind.i64.wrap (s253.fst + (1 : Int))) fun (x260 : Int) => j257 x260 else j257 s253.fst)
  else some s253.fst)
  fuel ((0 : Int), (0 : Int))

noncomputable def caromref38_EqualKeys (a0 : (List PairKey)) (b1 : (List PairKey)) : Option Bool :=
  Let (↑a0.length : Int) fun (x261 : Int) =>
  Let (↑b1.length : Int) fun (x262 : Int) =>
  Let (x261 != x262) fun (x263 : Bool) =>
  if x263 = true then some false
  else
  LOOP
  (fun (rec264 : Int → Option Bool) (s265 : Int) =>
  Let (↑a0.length : Int) fun (x266 : Int) =>
  Let (decide (s265 < x266)) fun (x267 : Bool) =>
  Let (↑b1.length : Int) fun (x268 : Int) =>
  Let (decide (s265 < x268)) fun (x269 : Bool) =>
  Let (bif x267 then x269 else false) fun (x270 : Bool) =>
  if x270 = true then
  Chk ((0 : Int) ≤ s265 ∧ s265 < (↑a0.length : Int))
  (Let (ix a0 s265) fun (x271 : PairKey) =>
  Chk ((0 : Int) ≤ s265 ∧ s265 < (↑b1.length : Int))
  (Let (ix b1 s265) fun (x272 : PairKey) =>
  Let
  (!(decide (x271.BodyA = x272.BodyA) &&
  (decide (x271.FixtureA = x272.FixtureA) &&
  (decide (x271.BodyB = x272.BodyB) && decide (x271.FixtureB = x272.FixtureB)))))
  fun (x273 : Bool) =>
  if x273 = true then some false else Let (IntKind.i64.wrap (s265 + (1 : Int))) fun (x274 : Int) => rec264 x274))
  else some true)
  fuel (0 : Int)

noncomputable def event_concerns (e0 : Event) (id1 : Int) : Option Bool :=
  Rx.Bind (event_isPairEvent e0.Kind) fun (r275 : Bool) =>
  if r275 = true then
  Let (e0.Key.BodyA == id1) fun (x276 : Bool) =>
  Let (e0.Key.BodyB == id1) fun (x277 : Bool) => Let (bif x276 then true else x277) fun (x278 : Bool) => some x278
  else
  Let (decide (e0.Kind ≥ (6 : Int))) fun (x279 : Bool) =>
  Let (decide (e0.Kind ≤ (8 : Int))) fun (x280 : Bool) =>
  Let (bif x279 then x280 else false) fun (x281 : Bool) =>
  Let (e0.Key.BodyA == id1) fun (x282 : Bool) => Let (bif x281 then x282 else false) fun (x283 : Bool) => some x283

noncomputable def event_ForBody (events0 : (List Event)) (id1 : Int) : Option (List Event) :=
  Let (↑events0.length : Int) fun (x284 : Int) =>
  LOOP
  (fun (rec285 : List Event × Int → Option (List Event)) (s286 : List Event × Int) =>
  Let (decide (s286.snd < x284)) fun (x287 : Bool) =>
  if x287 = true then
  Join (fun (v288 : List Event) => Let (IntKind.i64.wrap (s286.snd + (1 : Int))) fun (x289 : Int) => rec285 (v288, x289))
  fun (j290 : List Event → Option (List Event)) =>
  Chk ((0 : Int) ≤ s286.snd ∧ s286.snd < (↑events0.length : Int))
  (Let (ix events0 s286.snd) fun (x291 : Event) =>
  Rx.Bind (event_concerns x291 id1) fun (r292 : Bool) =>
  if r292 = true then
  Chk ((List.length s286.fst + [x291].length) * (40 : Nat) ≤ (140737488355328 : Nat))
  (Let (s286.fst ++ [x291]) fun (x293 : List Event) => j290 x293)
  else j290 s286.fst)
  else some s286.fst)
  fuel ([], (0 : Int))

noncomputable def caromlaw44_example  : Option Bool :=
  Rx.Bind
  (event_Parse
  #[(98 : UInt8), (117 : UInt8), (108 : UInt8), (108 : UInt8), (101 : UInt8), (116 : UInt8), (45 : UInt8), (115 : UInt8),
  (116 : UInt8), (111 : UInt8), (112 : UInt8), (32 : UInt8), (55 : UInt8)].toList)
  fun (r294 : Event × Int) =>
  Rx.Bind
  (event_ActiveContacts []
  [{ Kind := (8 : Int), Key := { BodyA := (7 : Int), FixtureA := (0 : Int), BodyB := (0 : Int), FixtureB := (0 : Int) : PairKey } : Event },
  { Kind := (1 : Int), Key := { BodyA := (1 : Int), FixtureA := (0 : Int), BodyB := (2 : Int), FixtureB := (0 : Int) : PairKey } : Event }])
  fun (r295 : List PairKey × Int) =>
  Rx.Bind
  (event_Format
  { Kind := (1 : Int), Key := { BodyA := (1 : Int), FixtureA := (0 : Int), BodyB := (2 : Int), FixtureB := (0 : Int) : PairKey } : Event })
  fun (r296 : List UInt8) =>
  Let
  (r296 ==
  #[(99 : UInt8), (111 : UInt8), (110 : UInt8), (116 : UInt8), (97 : UInt8), (99 : UInt8), (116 : UInt8), (45 : UInt8),
  (98 : UInt8), (101 : UInt8), (103 : UInt8), (105 : UInt8), (110 : UInt8), (32 : UInt8), (49 : UInt8), (32 : UInt8),
  (48 : UInt8), (32 : UInt8), (50 : UInt8), (32 : UInt8), (48 : UInt8)].toList)
  fun (x297 : Bool) =>
  Rx.Bind
  (if (x297 == true) = true then
  event_Format
  { Kind := (8 : Int), Key := { BodyA := (7 : Int), FixtureA := (0 : Int), BodyB := (0 : Int), FixtureB := (0 : Int) : PairKey } : Event }
  else some default)
  fun (r298 : List UInt8) =>
  Let
  (r298 ==
  #[(98 : UInt8), (117 : UInt8), (108 : UInt8), (108 : UInt8), (101 : UInt8), (116 : UInt8), (45 : UInt8), (115 : UInt8),
  (116 : UInt8), (111 : UInt8), (112 : UInt8), (32 : UInt8), (55 : UInt8)].toList)
  fun (x299 : Bool) =>
  Let (bif x297 then x299 else false) fun (x300 : Bool) =>
  Let
  (decide (r294.fst.Kind = (8 : Int)) &&
  (decide (r294.fst.Key.BodyA = (7 : Int)) &&
  (decide (r294.fst.Key.FixtureA = (0 : Int)) &&
  (decide (r294.fst.Key.BodyB = (0 : Int)) && decide (r294.fst.Key.FixtureB = (0 : Int))))))
  fun (x301 : Bool) =>
  Let (bif x300 then x301 else false) fun (x302 : Bool) =>
  Let (r294.snd == (0 : Int)) fun (x303 : Bool) =>
  Let (bif x302 then x303 else false) fun (x304 : Bool) =>
  Rx.Bind
  (if (x304 == true) = true then
  event_Format
  { Kind := (0 : Int), Key := { BodyA := (0 : Int), FixtureA := (0 : Int), BodyB := (0 : Int), FixtureB := (0 : Int) : PairKey } : Event }
  else some default)
  fun (r305 : List UInt8) =>
  Let (r305 == #[].toList) fun (x306 : Bool) =>
  Let (bif x304 then x306 else false) fun (x307 : Bool) =>
  Rx.Bind
  (if (x307 == true) = true then
  event_Less
  { Kind := (1 : Int), Key := { BodyA := (1 : Int), FixtureA := (0 : Int), BodyB := (2 : Int), FixtureB := (0 : Int) : PairKey } : Event }
  { Kind := (8 : Int), Key := { BodyA := (7 : Int), FixtureA := (0 : Int), BodyB := (0 : Int), FixtureB := (0 : Int) : PairKey } : Event }
  else some default)
  fun (r308 : Bool) =>
  Let (bif x307 then r308 else false) fun (x309 : Bool) =>
  Rx.Bind
  (if (x309 == true) = true then
  event_Count
  [{ Kind := (1 : Int), Key := { BodyA := (1 : Int), FixtureA := (0 : Int), BodyB := (2 : Int), FixtureB := (0 : Int) : PairKey } : Event },
  { Kind := (8 : Int), Key := { BodyA := (7 : Int), FixtureA := (0 : Int), BodyB := (0 : Int), FixtureB := (0 : Int) : PairKey } : Event },
  { Kind := (1 : Int), Key := { BodyA := (1 : Int), FixtureA := (0 : Int), BodyB := (2 : Int), FixtureB := (0 : Int) : PairKey } : Event }]
  (1 : Int)
  else some default)
  fun (r310 : Int) =>
  Let (r310 == (2 : Int)) fun (x311 : Bool) =>
  Let (bif x309 then x311 else false) fun (x312 : Bool) =>
  Rx.Bind
  (if (x312 == true) = true then
  caromref38_EqualKeys r295.fst
  [{ BodyA := (1 : Int), FixtureA := (0 : Int), BodyB := (2 : Int), FixtureB := (0 : Int) : PairKey }]
  else some default)
  fun (r313 : Bool) =>
  Let (bif x312 then r313 else false) fun (x314 : Bool) =>
  Let (r295.snd == (0 : Int)) fun (x315 : Bool) =>
  Let (bif x314 then x315 else false) fun (x316 : Bool) =>
  Rx.Bind
  (if (x316 == true) = true then
  event_ForBody
  [{ Kind := (1 : Int), Key := { BodyA := (1 : Int), FixtureA := (0 : Int), BodyB := (2 : Int), FixtureB := (0 : Int) : PairKey } : Event },
  { Kind := (8 : Int), Key := { BodyA := (7 : Int), FixtureA := (0 : Int), BodyB := (0 : Int), FixtureB := (0 : Int) : PairKey } : Event }]
  (2 : Int)
  else some default)
  fun (r317 : List Event) =>
  Let (↑r317.length : Int) fun (x318 : Int) =>
  Let (x318 == (1 : Int)) fun (x319 : Bool) => Let (bif x316 then x319 else false) fun (x320 : Bool) => some x320

noncomputable def caromlaw44_EventRoundTrip (e0 : Event) (s1 : (List UInt8)) : Option Bool :=
  Let (↑s1.length : Int) fun (x321 : Int) =>
  Let (decide (x321 > (200 : Int))) fun (x322 : Bool) =>
  if x322 = true then Rx.Bind caromlaw44_example fun (r323 : Bool) => some r323
  else
  Rx.Bind (event_Format e0) fun (r324 : List UInt8) =>
  Rx.Bind (event_Parse r324) fun (r325 : Event × Int) =>
  Rx.Bind (event_Valid e0) fun (r326 : Bool) =>
  Let (r325.snd != (0 : Int)) fun (x327 : Bool) =>
  Let
  (!(decide (r325.fst.Kind = e0.Kind) &&
  (decide (r325.fst.Key.BodyA = e0.Key.BodyA) &&
  (decide (r325.fst.Key.FixtureA = e0.Key.FixtureA) &&
  (decide (r325.fst.Key.BodyB = e0.Key.BodyB) && decide (r325.fst.Key.FixtureB = e0.Key.FixtureB))))))
  fun (x328 : Bool) =>
  Let (bif x327 then true else x328) fun (x329 : Bool) =>
  Let (bif r326 then x329 else false) fun (x330 : Bool) =>
  Rx.Bind (if (x330 == false) = true then event_Valid e0 else some default) fun (r331 : Bool) =>
  Let (!r331) fun (x332 : Bool) =>
  Let (r325.snd != (3 : Int)) fun (x333 : Bool) =>
  Let
  (!(decide (r325.fst.Kind = (0 : Int)) &&
  (decide (r325.fst.Key.BodyA = (0 : Int)) &&
  (decide (r325.fst.Key.FixtureA = (0 : Int)) &&
  (decide (r325.fst.Key.BodyB = (0 : Int)) && decide (r325.fst.Key.FixtureB = (0 : Int)))))))
  fun (x334 : Bool) =>
  Let (bif x333 then true else x334) fun (x335 : Bool) =>
  Rx.Bind (if (x330 == false && x332 == true && x335 == false) = true then event_Format e0 else some default)
  fun (r336 : List UInt8) =>
  Let (r336 != #[].toList) fun (x337 : Bool) =>
  Let (bif x335 then true else x337) fun (x338 : Bool) =>
  Let (bif x332 then x338 else false) fun (x339 : Bool) =>
  Let (bif x330 then true else x339) fun (x340 : Bool) =>
  if x340 = true then some false
  else
  Rx.Bind (event_Parse s1) fun (r341 : Event × Int) =>
  Let (r341.snd != (0 : Int)) fun (x342 : Bool) =>
  if x342 = true then
  Let (r341.snd == (3 : Int)) fun (x343 : Bool) =>
  Let
  (decide (r341.fst.Kind = (0 : Int)) &&
  (decide (r341.fst.Key.BodyA = (0 : Int)) &&
  (decide (r341.fst.Key.FixtureA = (0 : Int)) &&
  (decide (r341.fst.Key.BodyB = (0 : Int)) && decide (r341.fst.Key.FixtureB = (0 : Int))))))
  fun (x344 : Bool) =>
  Let (bif x343 then x344 else false) fun (x345 : Bool) =>
  Rx.Bind (if (x345 == true) = true then caromlaw44_example else some default) fun (r346 : Bool) =>
  Let (bif x345 then r346 else false) fun (x347 : Bool) => some x347
  else
  Rx.Bind (event_Valid r341.fst) fun (r348 : Bool) =>
  Rx.Bind (if (r348 == true) = true then event_Format r341.fst else some default) fun (r349 : List UInt8) =>
  Let (r349 == s1) fun (x350 : Bool) =>
  Let (bif r348 then x350 else false) fun (x351 : Bool) =>
  Rx.Bind (if (x351 == true) = true then caromlaw44_example else some default) fun (r352 : Bool) =>
  Let (bif x351 then r352 else false) fun (x353 : Bool) => some x353

noncomputable def caromref08_IsField (s0 : (List UInt8)) : Option Bool :=
  LOOP
  (fun (rec354 : Int → Option Bool) (s355 : Int) =>
  Let (↑s0.length : Int) fun (x356 : Int) =>
  Let (decide (s355 < x356)) fun (x357 : Bool) =>
  if x357 = true then
  Chk ((0 : Int) ≤ s355 ∧ s355 < (↑s0.length : Int))
  (Let (ix s0 s355) fun (x358 : UInt8) =>
  Let (decide (x358 < toByte (33 : Int))) fun (x359 : Bool) =>
  Chk ((x359 == false) = true → (0 : Int) ≤ s355 ∧ s355 < (↑s0.length : Int))
  (Let (ix s0 s355) fun (x360 : UInt8) =>
  Let (decide (toByte (126 : Int) < x360)) fun (x361 : Bool) =>
  Let (bif x359 then true else x361) fun (x362 : Bool) =>
  if x362 = true then some false else Let (IntKind.i64.wrap (s355 + (1 : Int))) fun (x363 : Int) => rec354 x363))
  else Let (s0 != #[].toList) fun (x364 : Bool) => some x364)
  fuel (0 : Int)

noncomputable def caromref08_Fields (line0 : (List UInt8)) : Option ((List (List UInt8)) × Int) :=
  Let (line0 == #[].toList) fun (x365 : Bool) =>
  if x365 = true then some ([], (0 : Int))
  else
  LOOP
  (fun (rec366 : List (List UInt8) × Int × Int → Option (List (List UInt8) × Int))
  (s367 : List (List UInt8) × Int × Int) =>
  Let (↑line0.length : Int) fun (x368 : Int) =>
  Let (decide (s367.snd.snd ≤ x368)) fun (x369 : Bool) =>
  if x369 = true then
  Join
  (fun (v370 : List (List UInt8) × Int) =>
  Let (IntKind.i64.wrap (s367.snd.snd + (1 : Int))) fun (x371 : Int) => rec366 (v370.fst, v370.snd, x371))
  fun (j372 : List (List UInt8) × Int → Option (List (List UInt8) × Int)) =>
  Let (↑line0.length : Int) fun (x373 : Int) =>
  Let (decide (s367.snd.snd < x373)) fun (x374 : Bool) =>
  Chk ((x374 == true) = true → (0 : Int) ≤ s367.snd.snd ∧ s367.snd.snd < (↑line0.length : Int))
  (Let (ix line0 s367.snd.snd) fun (x375 : UInt8) =>
  Let (x375 != toByte (32 : Int)) fun (x376 : Bool) =>
  Let (bif x374 then x376 else false) fun (x377 : Bool) =>
  if x377 = true then j372 (s367.fst, s367.snd.fst)
  else
  Chk ((0 : Int) ≤ s367.snd.fst ∧ s367.snd.fst ≤ s367.snd.snd ∧ s367.snd.snd ≤ (↑line0.length : Int))
  (Let (sub line0 s367.snd.fst s367.snd.snd) fun (x378 : List UInt8) =>
  Rx.Bind (caromref08_IsField x378) fun (r379 : Bool) =>
  Let (!r379) fun (x380 : Bool) =>
  if x380 = true then some ([], (3 : Int))
  else
  Chk ((0 : Int) ≤ s367.snd.fst ∧ s367.snd.fst ≤ s367.snd.snd ∧ s367.snd.snd ≤ (↑line0.length : Int))
  (Let (sub line0 s367.snd.fst s367.snd.snd) fun (x381 : List UInt8) =>
  Chk ((List.length s367.fst + [x381].length) * (16 : Nat) ≤ (140737488355328 : Nat))
  (Let (s367.fst ++ [x381]) fun (x382 : List (List UInt8)) =>
  Let (IntKind.i64.wrap (s367.snd.snd + (1 : Int))) fun (x383 : Int) => j372 (x382, x383)))))
  else some (s367.fst, (0 : Int)))
  fuel ([], (0 : Int), (0 : Int))

noncomputable def caromref08_IsInteger (s0 : (List UInt8)) : Option Bool :=
  Let (s0 == #[(48 : UInt8)].toList) fun (x384 : Bool) =>
  if x384 = true then some true
  else
  Join
  (fun (v385 : List UInt8) =>
  LOOP
  (fun (rec386 : Int → Option Bool) (s387 : Int) =>
  Let (↑v385.length : Int) fun (x388 : Int) =>
  Let (decide (s387 < x388)) fun (x389 : Bool) =>
  if x389 = true then
  Chk ((0 : Int) ≤ s387 ∧ s387 < (↑v385.length : Int))
  (Let (ix v385 s387) fun (x390 : UInt8) =>
  Let (decide (x390 < toByte (48 : Int))) fun (x391 : Bool) =>
  Chk ((x391 == false) = true → (0 : Int) ≤ s387 ∧ s387 < (↑v385.length : Int))
  (Let (ix v385 s387) fun (x392 : UInt8) =>
  Let (decide (toByte (57 : Int) < x392)) fun (x393 : Bool) =>
  Let (bif x391 then true else x393) fun (x394 : Bool) =>
  if x394 = true then some false else Let (IntKind.i64.wrap (s387 + (1 : Int))) fun (x395 : Int) => rec386 x395))
  else
  Let (↑v385.length : Int) fun (x396 : Int) =>
  Let (decide (x396 > (0 : Int))) fun (x397 : Bool) =>
  Chk ((x397 == true) = true → (0 : Int) ≤ (0 : Int) ∧ (0 : Int) < (↑v385.length : Int))
  (Let (ix v385 (0 : Int)) fun (x398 : UInt8) =>
  Let (x398 != toByte (48 : Int)) fun (x399 : Bool) =>
  Let (bif x397 then x399 else false) fun (x400 : Bool) => some x400))
  fuel (0 : Int))
  fun (j401 : List UInt8 → Option Bool) =>
  Let (↑s0.length : Int) fun (x402 : Int) =>
  Let (decide (x402 > (0 : Int))) fun (x403 : Bool) =>
  Chk ((x403 == true) = true → (0 : Int) ≤ (0 : Int) ∧ (0 : Int) < (↑s0.length : Int))
  (Let (ix s0 (0 : Int)) fun (x404 : UInt8) =>
  Let (x404 == toByte (45 : Int)) fun (x405 : Bool) =>
  Let (bif x403 then x405 else false) fun (x406 : Bool) =>
  if x406 = true then
  Chk ((0 : Int) ≤ (1 : Int) ∧ (1 : Int) ≤ (↑s0.length : Int))
  (Let (List.drop (1 : Nat) s0) fun (x407 : List UInt8) => j401 x407)
  else j401 s0)

noncomputable def caromref08_value (s0 : (List UInt8)) (limit1 : Int) : Option (Int × Bool) :=
  LOOP
  (fun (rec408 : Int × Bool × Int → Option (Int × Bool)) (s409 : Int × Bool × Int) =>
  Let (↑s0.length : Int) fun (x410 : Int) =>
  Let (decide (s409.snd.snd < x410)) fun (x411 : Bool) =>
  if x411 = true then
  Join
  (fun (v412 : Int × Bool) =>
  Let (IntKind.i64.wrap (s409.snd.snd + (1 : Int))) fun (x413 : Int) => rec408 (v412.fst, v412.snd, x413))
  fun (j414 : Int × Bool → Option (Int × Bool)) =>
  Chk ((0 : Int) ≤ s409.snd.snd ∧ s409.snd.snd < (↑s0.length : Int))
  (Let (ix s0 s409.snd.snd) fun (x415 : UInt8) =>
  Let (x415 == toByte (45 : Int)) fun (x416 : Bool) =>
  if x416 = true then j414 (s409.fst, true)
  else
  Chk ((0 : Int) ≤ s409.snd.snd ∧ s409.snd.snd < (↑s0.length : Int))
  (Let (ix s0 s409.snd.snd) fun (x417 : UInt8) =>
  Let (↑x417.toNat : Int) fun (x418 : Int) =>
  Let (IntKind.i64.wrap (x418 - (48 : Int))) fun (x419 : Int) =>
  Let (IntKind.i64.wrap (limit1 - x419)) fun (x420 : Int) =>
  Let (IntKind.i64.wrap (x420.tdiv (10 : Int))) fun (x421 : Int) =>
  Let (decide (s409.fst > x421)) fun (x422 : Bool) =>
  if x422 = true then some ((0 : Int), false)
  else
  Let (IntKind.i64.wrap ((10 : Int) * s409.fst)) fun (x423 : Int) =>
  Let (IntKind.i64.wrap (x423 + x419)) fun (x424 : Int) => j414 (x424, s409.snd.fst)))
  else
  Join (fun (v425 : Int) => some (v425, true)) fun (j426 : Int → Option (Int × Bool)) =>
  if s409.snd.fst = true then Let (IntKind.i64.wrap ((0 : Int) - s409.fst)) fun (x427 : Int) => j426 x427
  else j426 s409.fst)
  fuel ((0 : Int), false, (0 : Int))

noncomputable def caromref08_ParseInt (s0 : (List UInt8)) : Option (Int × Int) :=
  Rx.Bind (caromref08_IsInteger s0) fun (r428 : Bool) =>
  Let (!r428) fun (x429 : Bool) =>
  if x429 = true then some ((0 : Int), (3 : Int))
  else
  Rx.Bind (caromref08_value s0 (4611686018427387904 : Int)) fun (r430 : Int × Bool) =>
  Let (!r430.snd) fun (x431 : Bool) => if x431 = true then some ((0 : Int), (6 : Int)) else some (r430.fst, (0 : Int))

noncomputable def caromref44_isID (n0 : Int) : Option Bool :=
  Let (decide (n0 ≥ (0 : Int))) fun (x432 : Bool) =>
  Let (decide (n0 ≤ (1099511627776 : Int))) fun (x433 : Bool) =>
  Let (bif x432 then x433 else false) fun (x434 : Bool) => some x434

noncomputable def caromref44_Valid (e0 : Event) : Option Bool :=
  Let (decide (e0.Kind < (1 : Int))) fun (x435 : Bool) =>
  Let (decide (e0.Kind > (8 : Int))) fun (x436 : Bool) =>
  Let (bif x435 then true else x436) fun (x437 : Bool) =>
  Rx.Bind (if (x437 == false) = true then caromref44_isID e0.Key.BodyA else some default) fun (r438 : Bool) =>
  Let (!r438) fun (x439 : Bool) =>
  Let (bif x437 then true else x439) fun (x440 : Bool) =>
  if x440 = true then some false
  else
  Let (decide (e0.Kind > (4 : Int))) fun (x441 : Bool) =>
  if x441 = true then
  Let (e0.Key.BodyB == (0 : Int)) fun (x442 : Bool) =>
  Let (e0.Key.FixtureA == (0 : Int)) fun (x443 : Bool) =>
  Let (bif x442 then x443 else false) fun (x444 : Bool) =>
  Let (e0.Key.FixtureB == (0 : Int)) fun (x445 : Bool) =>
  Let (bif x444 then x445 else false) fun (x446 : Bool) => some x446
  else
  Rx.Bind (caromref44_isID e0.Key.BodyB) fun (r447 : Bool) =>
  Rx.Bind (if (r447 == true) = true then caromref44_isID e0.Key.FixtureA else some default) fun (r448 : Bool) =>
  Let (bif r447 then r448 else false) fun (x449 : Bool) =>
  Rx.Bind (if (x449 == true) = true then caromref44_isID e0.Key.FixtureB else some default) fun (r450 : Bool) =>
  Let (bif x449 then r450 else false) fun (x451 : Bool) => some x451

noncomputable def caromref44_word (k0 : Int) : Option (List UInt8) :=
  Let (k0 == (1 : Int)) fun (x452 : Bool) =>
  if x452 = true then
  some
  #[(99 : UInt8), (111 : UInt8), (110 : UInt8), (116 : UInt8), (97 : UInt8), (99 : UInt8), (116 : UInt8), (45 : UInt8),
  (98 : UInt8), (101 : UInt8), (103 : UInt8), (105 : UInt8), (110 : UInt8)].toList
  else
  Let (k0 == (2 : Int)) fun (x453 : Bool) =>
  if x453 = true then
  some
  #[(99 : UInt8), (111 : UInt8), (110 : UInt8), (116 : UInt8), (97 : UInt8), (99 : UInt8), (116 : UInt8), (45 : UInt8),
  (101 : UInt8), (110 : UInt8), (100 : UInt8)].toList
  else
  Let (k0 == (3 : Int)) fun (x454 : Bool) =>
  if x454 = true then
  some
  #[(115 : UInt8), (101 : UInt8), (110 : UInt8), (115 : UInt8), (111 : UInt8), (114 : UInt8), (45 : UInt8), (101 : UInt8),
  (110 : UInt8), (116 : UInt8), (101 : UInt8), (114 : UInt8)].toList
  else
  Let (k0 == (4 : Int)) fun (x455 : Bool) =>
  if x455 = true then
  some
  #[(115 : UInt8), (101 : UInt8), (110 : UInt8), (115 : UInt8), (111 : UInt8), (114 : UInt8), (45 : UInt8), (101 : UInt8),
  (120 : UInt8), (105 : UInt8), (116 : UInt8)].toList
  else
  Let (k0 == (5 : Int)) fun (x456 : Bool) =>
  if x456 = true then
  some
  #[(106 : UInt8), (111 : UInt8), (105 : UInt8), (110 : UInt8), (116 : UInt8), (45 : UInt8), (98 : UInt8), (114 : UInt8),
  (101 : UInt8), (97 : UInt8), (107 : UInt8)].toList
  else
  Let (k0 == (6 : Int)) fun (x457 : Bool) =>
  if x457 = true then
  some
  #[(98 : UInt8), (111 : UInt8), (100 : UInt8), (121 : UInt8), (45 : UInt8), (115 : UInt8), (108 : UInt8), (101 : UInt8),
  (101 : UInt8), (112 : UInt8)].toList
  else
  Let (k0 == (7 : Int)) fun (x458 : Bool) =>
  if x458 = true then
  some
  #[(98 : UInt8), (111 : UInt8), (100 : UInt8), (121 : UInt8), (45 : UInt8), (119 : UInt8), (97 : UInt8), (107 : UInt8),
  (101 : UInt8)].toList
  else
  Let (k0 == (8 : Int)) fun (x459 : Bool) =>
  if x459 = true then
  some
  #[(98 : UInt8), (117 : UInt8), (108 : UInt8), (108 : UInt8), (101 : UInt8), (116 : UInt8), (45 : UInt8), (115 : UInt8),
  (116 : UInt8), (111 : UInt8), (112 : UInt8)].toList
  else some #[].toList

noncomputable def caromref08_digits (n0 : Int) : Option (List UInt8) :=
  LOOP
  (fun (rec460 : Int × List UInt8 → Option (List UInt8)) (s461 : Int × List UInt8) =>
  Let (s461.fst != (0 : Int)) fun (x462 : Bool) =>
  if x462 = true then
  Let (Int.tmod s461.fst (10 : Int)) fun (x463 : Int) =>
  Join
  (fun (v464 : Int) =>
  Let (IntKind.i64.wrap (v464 + (1 : Int))) fun (x465 : Int) =>
  Chk ((0 : Int) ≤ v464 ∧ v464 ≤ x465 ∧ x465 ≤ (↑(10 : Nat) : Int))
  (Let
  (sub
  #[(48 : UInt8), (49 : UInt8), (50 : UInt8), (51 : UInt8), (52 : UInt8), (53 : UInt8), (54 : UInt8), (55 : UInt8),
  (56 : UInt8), (57 : UInt8)].toList
  v464 x465)
  fun (x466 : List UInt8) =>
  Chk (x466.length + List.length s461.snd ≤ (9223372036854775807 : Nat))
  (Let (x466 ++ s461.snd) fun (x467 : List UInt8) =>
  Let (IntKind.i64.wrap (Int.tdiv s461.fst (10 : Int))) fun (x468 : Int) => rec460 (x468, x467))))
  fun (j469 : Int → Option (List UInt8)) =>
  Let (decide (x463 < (0 : Int))) fun (x470 : Bool) =>
  if x470 = true then Let (IntKind.i64.wrap ((0 : Int) - x463)) fun (x471 : Int) => j469 x471 else j469 x463
  else some s461.snd)
  fuel (n0, #[].toList)

noncomputable def caromref08_FormatInt (n0 : Int) : Option (List UInt8) :=
  Let (n0 == (0 : Int)) fun (x472 : Bool) =>
  if x472 = true then some #[(48 : UInt8)].toList
  else
  Let (decide (n0 < (0 : Int))) fun (x473 : Bool) =>
  if x473 = true then
  Rx.Bind (caromref08_digits n0) fun (r474 : List UInt8) =>
  Chk ((1 : Nat) + r474.length ≤ (9223372036854775807 : Nat))
  (Let (#[(45 : UInt8)].toList ++ r474) fun (x475 : List UInt8) => some x475)
  else Rx.Bind (caromref08_digits n0) fun (r476 : List UInt8) => some r476

noncomputable def caromref08_JoinFields (fields0 : (List (List UInt8))) : Option (List UInt8) :=
  LOOP
  (fun (rec477 : List UInt8 × Int → Option (List UInt8)) (s478 : List UInt8 × Int) =>
  Let (↑fields0.length : Int) fun (x479 : Int) =>
  Let (decide (s478.snd < x479)) fun (x480 : Bool) =>
  if x480 = true then
  Join
  (fun (v481 : List UInt8) =>
  Chk ((0 : Int) ≤ s478.snd ∧ s478.snd < (↑fields0.length : Int))
  (Let (ix fields0 s478.snd) fun (x482 : List UInt8) =>
  Chk (v481.length + x482.length ≤ (9223372036854775807 : Nat))
  (Let (v481 ++ x482) fun (x483 : List UInt8) =>
  Let (IntKind.i64.wrap (s478.snd + (1 : Int))) fun (x484 : Int) => rec477 (x483, x484))))
  fun (j485 : List UInt8 → Option (List UInt8)) =>
  Let (decide (s478.snd > (0 : Int))) fun (x486 : Bool) =>
  if x486 = true then
  Chk (List.length s478.fst + (1 : Nat) ≤ (9223372036854775807 : Nat))
  (Let (s478.fst ++ #[(32 : UInt8)].toList) fun (x487 : List UInt8) => j485 x487)
  else j485 s478.fst
  else some s478.fst)
  fuel (#[].toList, (0 : Int))

noncomputable def caromref44_Format (e0 : Event) : Option (List UInt8) :=
  Rx.Bind (caromref44_Valid e0) fun (r488 : Bool) =>
  Let (!r488) fun (x489 : Bool) =>
  if x489 = true then some #[].toList
  else
  Let (decide (e0.Kind > (4 : Int))) fun (x490 : Bool) =>
  if x490 = true then
  Rx.Bind (caromref44_word e0.Kind) fun (r491 : List UInt8) =>
  Rx.Bind (caromref08_FormatInt e0.Key.BodyA) fun (r492 : List UInt8) =>
  Rx.Bind (caromref08_JoinFields [r491, r492]) fun (r493 : List UInt8) => some r493
  else
  Rx.Bind (caromref44_word e0.Kind) fun (r494 : List UInt8) =>
  Rx.Bind (caromref08_FormatInt e0.Key.BodyA) fun (r495 : List UInt8) =>
  Rx.Bind (caromref08_FormatInt e0.Key.FixtureA) fun (r496 : List UInt8) =>
  Rx.Bind (caromref08_FormatInt e0.Key.BodyB) fun (r497 : List UInt8) =>
  Rx.Bind (caromref08_FormatInt e0.Key.FixtureB) fun (r498 : List UInt8) =>
  Rx.Bind (caromref08_JoinFields [r494, r495, r496, r497, r498]) fun (r499 : List UInt8) => some r499

noncomputable def caromref44_Parse (s0 : (List UInt8)) : Option (Event × Int) :=
  Rx.Bind (caromref08_Fields s0) fun (r500 : List (List UInt8) × Int) =>
  Let (r500.snd != (0 : Int)) fun (x501 : Bool) =>
  Let (↑(List.length r500.fst) : Int) fun (x502 : Int) =>
  Let (x502 != (2 : Int)) fun (x503 : Bool) =>
  Let (↑(List.length r500.fst) : Int) fun (x504 : Int) =>
  Let (x504 != (5 : Int)) fun (x505 : Bool) =>
  Let (bif x503 then x505 else false) fun (x506 : Bool) =>
  Let (bif x501 then true else x506) fun (x507 : Bool) =>
  if x507 = true then
  some
  ({ Kind := (0 : Int), Key := { BodyA := (0 : Int), FixtureA := (0 : Int), BodyB := (0 : Int), FixtureB := (0 : Int) : PairKey } : Event },
  (3 : Int))
  else
  LOOP
  (fun (rec508 : Int × Event × List Int → Option (Event × Int)) (s509 : Int × Event × List Int) =>
  Let (↑(List.length r500.fst) : Int) fun (x510 : Int) =>
  Let (decide (s509.fst < x510)) fun (x511 : Bool) =>
  if x511 = true then
  Chk ((0 : Int) ≤ s509.fst ∧ s509.fst < (↑(List.length r500.fst) : Int))
  (Let (ix r500.fst s509.fst) fun (x512 : List UInt8) =>
  Rx.Bind (caromref08_ParseInt x512) fun (r513 : Int × Int) =>
  Let (r513.snd != (0 : Int)) fun (x514 : Bool) =>
  if x514 = true then
  some
  ({ Kind := (0 : Int), Key := { BodyA := (0 : Int), FixtureA := (0 : Int), BodyB := (0 : Int), FixtureB := (0 : Int) : PairKey } : Event },
  (3 : Int))
  else
  Let (IntKind.i64.wrap (s509.fst - (1 : Int))) fun (x515 : Int) =>
  Chk ((0 : Int) ≤ x515 ∧ x515 < (↑(4 : Nat) : Int))
  (Chk ((0 : Int) ≤ x515 ∧ x515 < (↑(List.length s509.snd.snd) : Int))
  (Let (List.set s509.snd.snd x515.toNat r513.fst) fun (x516 : List Int) =>
  Let (IntKind.i64.wrap (s509.fst + (1 : Int))) fun (x517 : Int) => rec508 (x517, s509.snd.fst, x516))))
  else
  LOOP
  (fun (rec518 : Int × Event → Option (Event × Int)) (s519 : Int × Event) =>
  Let (decide (s519.fst ≤ (8 : Int))) fun (x520 : Bool) =>
  if x520 = true then
  Chk ((0 : Int) ≤ (0 : Int) ∧ (0 : Int) < (↑(4 : Nat) : Int))
  (Chk ((0 : Int) ≤ (0 : Int) ∧ (0 : Int) < (↑(List.length s509.snd.snd) : Int))
  (Let (ix s509.snd.snd (0 : Int)) fun (x521 : Int) =>
  Chk ((0 : Int) ≤ (1 : Int) ∧ (1 : Int) < (↑(4 : Nat) : Int))
  (Chk ((0 : Int) ≤ (1 : Int) ∧ (1 : Int) < (↑(List.length s509.snd.snd) : Int))
  (Let (ix s509.snd.snd (1 : Int)) fun (x522 : Int) =>
  Chk ((0 : Int) ≤ (2 : Int) ∧ (2 : Int) < (↑(4 : Nat) : Int))
  (Chk ((0 : Int) ≤ (2 : Int) ∧ (2 : Int) < (↑(List.length s509.snd.snd) : Int))
  (Let (ix s509.snd.snd (2 : Int)) fun (x523 : Int) =>
  Chk ((0 : Int) ≤ (3 : Int) ∧ (3 : Int) < (↑(4 : Nat) : Int))
  (Chk ((0 : Int) ≤ (3 : Int) ∧ (3 : Int) < (↑(List.length s509.snd.snd) : Int))
  (Let (ix s509.snd.snd (3 : Int)) fun (x524 : Int) =>
  Rx.Bind
  (caromref44_Valid
  { Kind := s519.fst, Key := { BodyA := x521, FixtureA := x522, BodyB := x523, FixtureB := x524 : PairKey } : Event })
  fun (r525 : Bool) =>
  Rx.Bind
  (if (r525 == true) = true then
  caromref44_Format
  { Kind := s519.fst, Key := { BodyA := x521, FixtureA := x522, BodyB := x523, FixtureB := x524 : PairKey } : Event }
  else some default)
  fun (r526 : List UInt8) =>
  Let (r526 == s0) fun (x527 : Bool) =>
  Let (bif r525 then x527 else false) fun (x528 : Bool) =>
  if x528 = true then
  some
  ({ Kind := s519.fst, Key := { BodyA := x521, FixtureA := x522, BodyB := x523, FixtureB := x524 : PairKey } : Event },
  (0 : Int))
  else Let (IntKind.i64.wrap (s519.fst + (1 : Int))) fun (x529 : Int) => rec518 (x529, s519.snd)))))))))
  else
  some
  ({ Kind := (0 : Int), Key := { BodyA := (0 : Int), FixtureA := (0 : Int), BodyB := (0 : Int), FixtureB := (0 : Int) : PairKey } : Event },
  (3 : Int)))
  fuel ((1 : Int), s509.snd.fst))
  fuel
  ((1 : Int),
  { Kind := (0 : Int), Key := { BodyA := (0 : Int), FixtureA := (0 : Int), BodyB := (0 : Int), FixtureB := (0 : Int) : PairKey } : Event },
  [(0 : Int), (0 : Int), (0 : Int), (0 : Int)])

noncomputable def caromlaw44_EventText (e0 : Event) (s1 : (List UInt8)) : Option Bool :=
  Let (↑s1.length : Int) fun (x530 : Int) =>
  Let (decide (x530 > (200 : Int))) fun (x531 : Bool) =>
  if x531 = true then Rx.Bind caromlaw44_example fun (r532 : Bool) => some r532
  else
  Rx.Bind (event_Parse s1) fun (r533 : Event × Int) =>
  Rx.Bind (caromref44_Parse s1) fun (r534 : Event × Int) =>
  Rx.Bind (event_Valid e0) fun (r535 : Bool) =>
  Rx.Bind (caromref44_Valid e0) fun (r536 : Bool) =>
  Let (r535 == r536) fun (x537 : Bool) =>
  Rx.Bind (if (x537 == true) = true then event_Format e0 else some default) fun (r538 : List UInt8) =>
  Rx.Bind (if (x537 == true) = true then caromref44_Format e0 else some default) fun (r539 : List UInt8) =>
  Let (r538 == r539) fun (x540 : Bool) =>
  Let (bif x537 then x540 else false) fun (x541 : Bool) =>
  Let
  (decide (r533.fst.Kind = r534.fst.Kind) &&
  (decide (r533.fst.Key.BodyA = r534.fst.Key.BodyA) &&
  (decide (r533.fst.Key.FixtureA = r534.fst.Key.FixtureA) &&
  (decide (r533.fst.Key.BodyB = r534.fst.Key.BodyB) && decide (r533.fst.Key.FixtureB = r534.fst.Key.FixtureB)))))
  fun (x542 : Bool) =>
  Let (bif x541 then x542 else false) fun (x543 : Bool) =>
  Let (r533.snd == r534.snd) fun (x544 : Bool) =>
  Let (bif x543 then x544 else false) fun (x545 : Bool) =>
  Rx.Bind (if (x545 == true) = true then caromlaw44_example else some default) fun (r546 : Bool) =>
  Let (bif x545 then r546 else false) fun (x547 : Bool) => some x547

noncomputable def caromref44_Less (a0 : Event) (b1 : Event) : Option Bool :=
  Let (a0.Kind != b1.Kind) fun (x548 : Bool) =>
  if x548 = true then Let (decide (a0.Kind < b1.Kind)) fun (x549 : Bool) => some x549
  else
  LOOP
  (fun (rec550 : Int → Option Bool) (s551 : Int) =>
  Let (decide (s551 < (4 : Int))) fun (x552 : Bool) =>
  if x552 = true then
  Chk ((0 : Int) ≤ s551 ∧ s551 < (↑(4 : Nat) : Int))
  (Chk ((0 : Int) ≤ s551 ∧ s551 < (↑[a0.Key.BodyA, a0.Key.FixtureA, a0.Key.BodyB, a0.Key.FixtureB].length : Int))
  (Let (ix [a0.Key.BodyA, a0.Key.FixtureA, a0.Key.BodyB, a0.Key.FixtureB] s551) fun (x553 : Int) =>
  Chk ((0 : Int) ≤ s551 ∧ s551 < (↑(4 : Nat) : Int))
  (Chk ((0 : Int) ≤ s551 ∧ s551 < (↑[b1.Key.BodyA, b1.Key.FixtureA, b1.Key.BodyB, b1.Key.FixtureB].length : Int))
  (Let (ix [b1.Key.BodyA, b1.Key.FixtureA, b1.Key.BodyB, b1.Key.FixtureB] s551) fun (x554 : Int) =>
  Let (x553 != x554) fun (x555 : Bool) =>
  if x555 = true then
  Chk ((0 : Int) ≤ s551 ∧ s551 < (↑(4 : Nat) : Int))
  (Chk ((0 : Int) ≤ s551 ∧ s551 < (↑[a0.Key.BodyA, a0.Key.FixtureA, a0.Key.BodyB, a0.Key.FixtureB].length : Int))
  (Let (ix [a0.Key.BodyA, a0.Key.FixtureA, a0.Key.BodyB, a0.Key.FixtureB] s551) fun (x556 : Int) =>
  Chk ((0 : Int) ≤ s551 ∧ s551 < (↑(4 : Nat) : Int))
  (Chk ((0 : Int) ≤ s551 ∧ s551 < (↑[b1.Key.BodyA, b1.Key.FixtureA, b1.Key.BodyB, b1.Key.FixtureB].length : Int))
  (Let (ix [b1.Key.BodyA, b1.Key.FixtureA, b1.Key.BodyB, b1.Key.FixtureB] s551) fun (x557 : Int) =>
  Let (decide (x556 < x557)) fun (x558 : Bool) => some x558))))
  else Let (IntKind.i64.wrap (s551 + (1 : Int))) fun (x559 : Int) => rec550 x559))))
  else some false)
  fuel (0 : Int)

noncomputable def caromlaw44_EventLess (a0 : Event) (b1 : Event) (c2 : Event) : Option Bool :=
  Rx.Bind (event_Less a0 b1) fun (r560 : Bool) =>
  Rx.Bind (event_Less b1 a0) fun (r561 : Bool) =>
  Rx.Bind (caromref44_Less a0 b1) fun (r562 : Bool) =>
  Let (r560 != r562) fun (x563 : Bool) =>
  Let (bif r560 then r561 else false) fun (x564 : Bool) =>
  Let (bif x563 then true else x564) fun (x565 : Bool) =>
  Let
  (decide (a0.Kind = b1.Kind) &&
  (decide (a0.Key.BodyA = b1.Key.BodyA) &&
  (decide (a0.Key.FixtureA = b1.Key.FixtureA) &&
  (decide (a0.Key.BodyB = b1.Key.BodyB) && decide (a0.Key.FixtureB = b1.Key.FixtureB)))))
  fun (x566 : Bool) =>
  Let (bif r560 then true else r561) fun (x567 : Bool) =>
  Let (x566 == x567) fun (x568 : Bool) =>
  Let (bif x565 then true else x568) fun (x569 : Bool) =>
  if x569 = true then some false
  else
  Let (!r560) fun (x570 : Bool) =>
  Rx.Bind (if (x570 == false) = true then event_Less b1 c2 else some default) fun (r571 : Bool) =>
  Let (!r571) fun (x572 : Bool) =>
  Let (bif x570 then true else x572) fun (x573 : Bool) =>
  Rx.Bind (if (x573 == false) = true then event_Less a0 c2 else some default) fun (r574 : Bool) =>
  Let (bif x573 then true else r574) fun (x575 : Bool) =>
  Rx.Bind (if (x575 == true) = true then caromlaw44_example else some default) fun (r576 : Bool) =>
  Let (bif x575 then r576 else false) fun (x577 : Bool) => some x577

noncomputable def caromref44_ActiveContacts (active0 : (List PairKey)) (events1 : (List Event)) : Option ((List PairKey) × Int) :=
  Chk (active0.length * (32 : Nat) ≤ (140737488355328 : Nat))
  (LOOP
  (fun (rec578 : List PairKey × Int → Option (List PairKey × Int)) (s579 : List PairKey × Int) =>
  Let (↑events1.length : Int) fun (x580 : Int) =>
  Let (decide (s579.snd < x580)) fun (x581 : Bool) =>
  if x581 = true then
  Join
  (fun (v582 : List PairKey) => Let (IntKind.i64.wrap (s579.snd + (1 : Int))) fun (x583 : Int) => rec578 (v582, x583))
  fun (j584 : List PairKey → Option (List PairKey × Int)) =>
  Let (↑(List.length s579.fst) : Int) fun (x585 : Int) =>
  Let (IntKind.i64.wrap (x585 - (1 : Int))) fun (x586 : Int) =>
  LOOP
  (fun (rec587 : Int × Int → Option (List PairKey × Int)) (s588 : Int × Int) =>
  Let (decide (s588.snd ≥ (0 : Int))) fun (x589 : Bool) =>
  if x589 = true then
  Join (fun (v590 : Int) => Let (IntKind.i64.wrap (s588.snd - (1 : Int))) fun (x591 : Int) => rec587 (v590, x591))
  fun (j592 : Int → Option (List PairKey × Int)) =>
  Chk ((0 : Int) ≤ s588.snd ∧ s588.snd < (↑(List.length s579.fst) : Int))
  (Chk ((0 : Int) ≤ s588.snd ∧ s588.snd < (↑(List.length s579.fst) : Int))
  (Let (ix s579.fst s588.snd) fun (x593 : PairKey) =>
  Chk ((0 : Int) ≤ s579.snd ∧ s579.snd < (↑events1.length : Int))
  (Let (ix events1 s579.snd) fun (x594 : Event) =>
  Let
  (decide (x593.BodyA = x594.Key.BodyA) &&
  (decide (x593.FixtureA = x594.Key.FixtureA) &&
  (decide (x593.BodyB = x594.Key.BodyB) && decide (x593.FixtureB = x594.Key.FixtureB))))
  fun (x595 : Bool) => if x595 = true then j592 s588.snd else j592 s588.fst)))
  else
  Join
  (fun (v596 : List PairKey) =>
  Chk ((0 : Int) ≤ s579.snd ∧ s579.snd < (↑events1.length : Int))
  (Let (ix events1 s579.snd) fun (x597 : Event) =>
  Let (x597.Kind == (2 : Int)) fun (x598 : Bool) =>
  if x598 = true then
  Let (decide (s588.fst < (0 : Int))) fun (x599 : Bool) =>
  if x599 = true then some ([], (8 : Int))
  else
  Chk
  ((0 : Int) ≤ none.getD (0 : Int) ∧
  (0 : Int) ≤ (some s588.fst).getD (0 : Int) ∧ (0 : Nat) ≤ Int.toNat s588.fst ∧ Int.toNat s588.fst ≤ v596.length)
  (Chk ((0 : Nat) + (Int.toNat s588.fst - (0 : Nat)) ≤ v596.length)
  (Let (List.take (Int.toNat s588.fst - (0 : Nat)) (List.drop (0 : Nat) v596)) fun (x600 : List PairKey) =>
  Chk (x600.length * (32 : Nat) ≤ (140737488355328 : Nat))
  (Let (IntKind.i64.wrap (s588.fst + (1 : Int))) fun (x601 : Int) =>
  Chk
  ((0 : Int) ≤ (some x601).getD (0 : Int) ∧
  (0 : Int) ≤ none.getD (0 : Int) ∧ x601.toNat ≤ v596.length ∧ v596.length ≤ v596.length)
  (Chk (x601.toNat + (v596.length - x601.toNat) ≤ v596.length)
  (Let (List.take (v596.length - x601.toNat) (List.drop x601.toNat v596)) fun (x602 : List PairKey) =>
  Chk ((x600.length + x602.length) * (32 : Nat) ≤ (140737488355328 : Nat))
  (Let (x600 ++ x602) fun (x603 : List PairKey) => j584 x603))))))
  else j584 v596))
  fun (j604 : List PairKey → Option (List PairKey × Int)) =>
  Chk ((0 : Int) ≤ s579.snd ∧ s579.snd < (↑events1.length : Int))
  (Let (ix events1 s579.snd) fun (x605 : Event) =>
  Let (x605.Kind == (1 : Int)) fun (x606 : Bool) =>
  if x606 = true then
  Let (decide (s588.fst ≥ (0 : Int))) fun (x607 : Bool) =>
  if x607 = true then some ([], (7 : Int))
  else
  Chk ((0 : Int) ≤ s579.snd ∧ s579.snd < (↑events1.length : Int))
  (Let (ix events1 s579.snd) fun (x608 : Event) =>
  Chk ((List.length s579.fst + [x608.Key].length) * (32 : Nat) ≤ (140737488355328 : Nat))
  (Let (s579.fst ++ [x608.Key]) fun (x609 : List PairKey) => j604 x609))
  else j604 s579.fst))
  fuel ((-1 : Int), x586)
  else some (s579.fst, (0 : Int)))
  fuel (active0, (0 : Int)))

noncomputable def caromlaw44_EventActiveContacts (active0 : (List PairKey)) (events1 : (List Event)) : Option Bool :=
  Let (↑events1.length : Int) fun (x610 : Int) =>
  Let (decide (x610 > (40 : Int))) fun (x611 : Bool) =>
  Let (↑active0.length : Int) fun (x612 : Int) =>
  Let (decide (x612 > (40 : Int))) fun (x613 : Bool) =>
  Let (bif x611 then true else x613) fun (x614 : Bool) =>
  if x614 = true then Rx.Bind caromlaw44_example fun (r615 : Bool) => some r615
  else
  Rx.Bind (event_ActiveContacts active0 events1) fun (r616 : List PairKey × Int) =>
  Rx.Bind (caromref44_ActiveContacts active0 events1) fun (r617 : List PairKey × Int) =>
  Rx.Bind (caromref38_EqualKeys r616.fst r617.fst) fun (r618 : Bool) =>
  Let (r616.snd == r617.snd) fun (x619 : Bool) =>
  Let (bif r618 then x619 else false) fun (x620 : Bool) =>
  Rx.Bind (if (x620 == true) = true then caromlaw44_example else some default) fun (r621 : Bool) =>
  Let (bif x620 then r621 else false) fun (x622 : Bool) => some x622

noncomputable def caromlaw44_EventConcatenation (active0 : (List PairKey)) (events1 : (List Event)) (n2 : UInt8) : Option Bool :=
  Let (↑events1.length : Int) fun (x623 : Int) =>
  Let (decide (x623 > (40 : Int))) fun (x624 : Bool) =>
  Let (↑active0.length : Int) fun (x625 : Int) =>
  Let (decide (x625 > (40 : Int))) fun (x626 : Bool) =>
  Let (bif x624 then true else x626) fun (x627 : Bool) =>
  if x627 = true then Rx.Bind caromlaw44_example fun (r628 : Bool) => some r628
  else
  Let (↑n2.toNat : Int) fun (x629 : Int) =>
  Let (↑events1.length : Int) fun (x630 : Int) =>
  Let (IntKind.i64.wrap (x630 + (1 : Int))) fun (x631 : Int) =>
  Chk (x631 ≠ (0 : Int))
  (Let (x629.tmod x631) fun (x632 : Int) =>
  Chk ((0 : Int) ≤ x632 ∧ x632 ≤ (↑events1.length : Int))
  (Let (List.take x632.toNat events1) fun (x633 : List Event) =>
  Rx.Bind (event_ActiveContacts active0 x633) fun (r634 : List PairKey × Int) =>
  Rx.Bind (event_ActiveContacts active0 events1) fun (r635 : List PairKey × Int) =>
  Let (r634.snd != (0 : Int)) fun (x636 : Bool) =>
  if x636 = true then
  Let (r635.snd == r634.snd) fun (x637 : Bool) =>
  Let (↑(List.length r635.fst) : Int) fun (x638 : Int) =>
  Let (x638 == (0 : Int)) fun (x639 : Bool) =>
  Let (bif x637 then x639 else false) fun (x640 : Bool) =>
  Rx.Bind (if (x640 == true) = true then caromlaw44_example else some default) fun (r641 : Bool) =>
  Let (bif x640 then r641 else false) fun (x642 : Bool) => some x642
  else
  Chk ((0 : Int) ≤ x632 ∧ x632 ≤ (↑events1.length : Int))
  (Let (List.drop x632.toNat events1) fun (x643 : List Event) =>
  Rx.Bind (event_ActiveContacts r634.fst x643) fun (r644 : List PairKey × Int) =>
  Rx.Bind (caromref38_EqualKeys r635.fst r644.fst) fun (r645 : Bool) =>
  Let (r644.snd == r635.snd) fun (x646 : Bool) =>
  Let (bif r645 then x646 else false) fun (x647 : Bool) =>
  Rx.Bind (if (x647 == true) = true then caromlaw44_example else some default) fun (r648 : Bool) =>
  Let (bif x647 then r648 else false) fun (x649 : Bool) => some x649)))

noncomputable def slices_Clone_47 (s0 : (List Event)) : Option (List Event) :=
  Rx.Alike (s0 = []) (some []) (Chk (s0.length * (40 : Nat) ≤ (140737488355328 : Nat)) (some s0))

noncomputable def slices_SortStableFunc (x0 : (List Event)) (cmp1 : ((Event × Event) → Option Int)) : Option Unit :=
  none

noncomputable def event_Sort (events0 : (List Event)) : Option (List Event) :=
  Rx.Bind (slices_Clone_47 events0) fun (r650 : List Event) =>
  Rx.Bind (slices_SortStableFunc r650 fun (a : Tup tb [Ix.tEvent, Ix.tEvent]) => event_compare a.fst a.snd)
  fun (r651 : PUnit) => some r650

noncomputable def caromref44_Sort (events0 : (List Event)) : Option (List Event) :=
  LOOP
  (fun (rec652 : List Event × Int → Option (List Event)) (s653 : List Event × Int) =>
  Let (↑events0.length : Int) fun (x654 : Int) =>
  Let (decide (s653.snd < x654)) fun (x655 : Bool) =>
  if x655 = true then
  Let (↑(List.length s653.fst) : Int) fun (x656 : Int) =>
  LOOP
  (fun (rec657 : Int → Option (List Event)) (s658 : Int) =>
  Let (decide (s658 > (0 : Int))) fun (x659 : Bool) =>
  Chk ((x659 == true) = true → (0 : Int) ≤ s653.snd ∧ s653.snd < (↑events0.length : Int))
  (Let (ix events0 s653.snd) fun (x660 : Event) =>
  Let (IntKind.i64.wrap (s658 - (1 : Int))) fun (x661 : Int) =>
  Chk ((x659 == true) = true → (0 : Int) ≤ x661 ∧ x661 < (↑(List.length s653.fst) : Int))
  (Chk ((x659 == true) = true → (0 : Int) ≤ x661 ∧ x661 < (↑(List.length s653.fst) : Int))
  (Let (ix s653.fst x661) fun (x662 : Event) =>
  Rx.Bind (if (x659 == true) = true then caromref44_Less x660 x662 else some default) fun (r663 : Bool) =>
  Let (bif x659 then r663 else false) fun (x664 : Bool) =>
  if x664 = true then Let (IntKind.i64.wrap (s658 - (1 : Int))) fun (x665 : Int) => rec657 x665
  else
  Chk
  ((0 : Int) ≤ none.getD (0 : Int) ∧
  (0 : Int) ≤ (some s658).getD (0 : Int) ∧ (0 : Nat) ≤ s658.toNat ∧ s658.toNat ≤ List.length s653.fst)
  (Chk ((0 : Nat) + (s658.toNat - (0 : Nat)) ≤ List.length s653.fst)
  (Let (List.take (s658.toNat - (0 : Nat)) (List.drop (0 : Nat) s653.fst)) fun (x666 : List Event) =>
  Chk (x666.length * (40 : Nat) ≤ (140737488355328 : Nat))
  (Chk ((0 : Int) ≤ s653.snd ∧ s653.snd < (↑events0.length : Int))
  (Let (ix events0 s653.snd) fun (x667 : Event) =>
  Chk ((x666.length + [x667].length) * (40 : Nat) ≤ (140737488355328 : Nat))
  (Let (x666 ++ [x667]) fun (x668 : List Event) =>
  Chk
  ((0 : Int) ≤ (some s658).getD (0 : Int) ∧
  (0 : Int) ≤ none.getD (0 : Int) ∧ s658.toNat ≤ List.length s653.fst ∧ List.length s653.fst ≤ List.length s653.fst)
  (Chk (s658.toNat + (List.length s653.fst - s658.toNat) ≤ List.length s653.fst)
  (Let (List.take (List.length s653.fst - s658.toNat) (List.drop s658.toNat s653.fst)) fun (x669 : List Event) =>
  Chk ((x668.length + x669.length) * (40 : Nat) ≤ (140737488355328 : Nat))
  (Let (x668 ++ x669) fun (x670 : List Event) =>
  Let (IntKind.i64.wrap (s653.snd + (1 : Int))) fun (x671 : Int) => rec652 (x670, x671)))))))))))))
  fuel x656
  else some s653.fst)
  fuel ([], (0 : Int))

noncomputable def caromref38_EqualEvents (a0 : (List Event)) (b1 : (List Event)) : Option Bool :=
  Let (↑a0.length : Int) fun (x672 : Int) =>
  Let (↑b1.length : Int) fun (x673 : Int) =>
  Let (x672 != x673) fun (x674 : Bool) =>
  if x674 = true then some false
  else
  LOOP
  (fun (rec675 : Int → Option Bool) (s676 : Int) =>
  Let (↑a0.length : Int) fun (x677 : Int) =>
  Let (decide (s676 < x677)) fun (x678 : Bool) =>
  Let (↑b1.length : Int) fun (x679 : Int) =>
  Let (decide (s676 < x679)) fun (x680 : Bool) =>
  Let (bif x678 then x680 else false) fun (x681 : Bool) =>
  if x681 = true then
  Chk ((0 : Int) ≤ s676 ∧ s676 < (↑a0.length : Int))
  (Let (ix a0 s676) fun (x682 : Event) =>
  Chk ((0 : Int) ≤ s676 ∧ s676 < (↑b1.length : Int))
  (Let (ix b1 s676) fun (x683 : Event) =>
  Let
  (!(decide (x682.Kind = x683.Kind) &&
  (decide (x682.Key.BodyA = x683.Key.BodyA) &&
  (decide (x682.Key.FixtureA = x683.Key.FixtureA) &&
  (decide (x682.Key.BodyB = x683.Key.BodyB) && decide (x682.Key.FixtureB = x683.Key.FixtureB))))))
  fun (x684 : Bool) =>
  if x684 = true then some false else Let (IntKind.i64.wrap (s676 + (1 : Int))) fun (x685 : Int) => rec675 x685))
  else some true)
  fuel (0 : Int)

noncomputable def caromref44_Count (events0 : (List Event)) (k1 : Int) : Option Int :=
  LOOP
  (fun (rec686 : Int × Int → Option Int) (s687 : Int × Int) =>
  Let (↑events0.length : Int) fun (x688 : Int) =>
  Let (decide (s687.snd < x688)) fun (x689 : Bool) =>
  if x689 = true then
  Join (fun (v690 : Int) => Let (IntKind.i64.wrap (s687.snd + (1 : Int))) fun (x691 : Int) => rec686 (v690, x691))
  fun (j692 : Int → Option Int) =>
  Chk ((0 : Int) ≤ s687.snd ∧ s687.snd < (↑events0.length : Int))
  (Let (ix events0 s687.snd) fun (x693 : Event) =>
  Let (x693.Kind == k1) fun (x694 : Bool) =>
  if x694 = true then Let (IntKind.i64.wrap (s687.fst + (1 : Int))) fun (x695 : Int) => j692 x695 else j692 s687.fst)
  else some s687.fst)
  fuel ((0 : Int), (0 : Int))

noncomputable def caromref44_ForBody (events0 : (List Event)) (id1 : Int) : Option (List Event) :=
  LOOP
  (fun (rec696 : List Event × Int → Option (List Event)) (s697 : List Event × Int) =>
  Let (↑events0.length : Int) fun (x698 : Int) =>
  Let (decide (s697.snd < x698)) fun (x699 : Bool) =>
  if x699 = true then
  Join (fun (v700 : List Event) => Let (IntKind.i64.wrap (s697.snd + (1 : Int))) fun (x701 : Int) => rec696 (v700, x701))
  fun (j702 : List Event → Option (List Event)) =>
  Chk ((0 : Int) ≤ s697.snd ∧ s697.snd < (↑events0.length : Int))
  (Let (ix events0 s697.snd) fun (x703 : Event) =>
  Let (decide (x703.Kind ≥ (1 : Int))) fun (x704 : Bool) =>
  Let (decide (x703.Kind ≤ (4 : Int))) fun (x705 : Bool) =>
  Let (bif x704 then x705 else false) fun (x706 : Bool) =>
  Let (x703.Kind == (6 : Int)) fun (x707 : Bool) =>
  Let (x703.Kind == (7 : Int)) fun (x708 : Bool) =>
  Let (bif x707 then true else x708) fun (x709 : Bool) =>
  Let (x703.Kind == (8 : Int)) fun (x710 : Bool) =>
  Let (bif x709 then true else x710) fun (x711 : Bool) =>
  Let (bif x706 then true else x711) fun (x712 : Bool) =>
  Chk ((x712 == true) = true → (0 : Int) ≤ s697.snd ∧ s697.snd < (↑events0.length : Int))
  (Let (ix events0 s697.snd) fun (x713 : Event) =>
  Let (x713.Key.BodyA == id1) fun (x714 : Bool) =>
  Let (bif x712 then x714 else false) fun (x715 : Bool) =>
  Chk ((x715 == false && x706 == true) = true → (0 : Int) ≤ s697.snd ∧ s697.snd < (↑events0.length : Int))
  (Let (ix events0 s697.snd) fun (x716 : Event) =>
  Let (x716.Key.BodyB == id1) fun (x717 : Bool) =>
  Let (bif x706 then x717 else false) fun (x718 : Bool) =>
  Let (bif x715 then true else x718) fun (x719 : Bool) =>
  if x719 = true then
  Chk ((0 : Int) ≤ s697.snd ∧ s697.snd < (↑events0.length : Int))
  (Let (ix events0 s697.snd) fun (x720 : Event) =>
  Chk ((List.length s697.fst + [x720].length) * (40 : Nat) ≤ (140737488355328 : Nat))
  (Let (s697.fst ++ [x720]) fun (x721 : List Event) => j702 x721))
  else j702 s697.fst)))
  else some s697.fst)
  fuel ([], (0 : Int))

noncomputable def caromlaw44_EventLists (events0 : (List Event)) (k1 : Int) (id2 : Int) : Option Bool :=
  Let (↑events0.length : Int) fun (x722 : Int) =>
  Let (decide (x722 > (40 : Int))) fun (x723 : Bool) =>
  if x723 = true then Rx.Bind caromlaw44_example fun (r724 : Bool) => some r724
  else
  Rx.Bind (event_Sort events0) fun (r725 : List Event) =>
  Rx.Bind (caromref44_Sort events0) fun (r726 : List Event) =>
  Rx.Bind (caromref38_EqualEvents r725 r726) fun (r727 : Bool) =>
  Rx.Bind (if (r727 == true) = true then event_Count events0 k1 else some default) fun (r728 : Int) =>
  Rx.Bind (if (r727 == true) = true then caromref44_Count events0 k1 else some default) fun (r729 : Int) =>
  Let (r728 == r729) fun (x730 : Bool) =>
  Let (bif r727 then x730 else false) fun (x731 : Bool) =>
  Rx.Bind (if (x731 == true) = true then event_ForBody events0 id2 else some default) fun (r732 : List Event) =>
  Rx.Bind (if (x731 == true) = true then caromref44_ForBody events0 id2 else some default) fun (r733 : List Event) =>
  Rx.Bind (if (x731 == true) = true then caromref38_EqualEvents r732 r733 else some default) fun (r734 : Bool) =>
  Let (bif x731 then r734 else false) fun (x735 : Bool) =>
  Rx.Bind (if (x735 == true) = true then caromlaw44_example else some default) fun (r736 : Bool) =>
  Let (bif x735 then r736 else false) fun (x737 : Bool) => some x737

noncomputable def caromlaw44_EventSort (events0 : (List Event)) (n1 : UInt8) : Option Bool :=
  Let (↑events0.length : Int) fun (x738 : Int) =>
  Let (decide (x738 > (40 : Int))) fun (x739 : Bool) =>
  if x739 = true then Rx.Bind caromlaw44_example fun (r740 : Bool) => some r740
  else
  Rx.Bind (event_Sort events0) fun (r741 : List Event) =>
  Let (↑r741.length : Int) fun (x742 : Int) =>
  Let (↑events0.length : Int) fun (x743 : Int) =>
  Let (x742 != x743) fun (x744 : Bool) =>
  if x744 = true then some false
  else
  LOOP
  (fun (rec745 : Int → Option Bool) (s746 : Int) =>
  Let (IntKind.i64.wrap (s746 + (1 : Int))) fun (x747 : Int) =>
  Let (↑r741.length : Int) fun (x748 : Int) =>
  Let (decide (x747 < x748)) fun (x749 : Bool) =>
  if x749 = true then
  Let (IntKind.i64.wrap (s746 + (1 : Int))) fun (x750 : Int) =>
  Chk ((0 : Int) ≤ x750 ∧ x750 < (↑r741.length : Int))
  (Let (ix r741 x750) fun (x751 : Event) =>
  Chk ((0 : Int) ≤ s746 ∧ s746 < (↑r741.length : Int))
  (Let (ix r741 s746) fun (x752 : Event) =>
  Rx.Bind (event_Less x751 x752) fun (r753 : Bool) =>
  if r753 = true then some false else Let (IntKind.i64.wrap (s746 + (1 : Int))) fun (x754 : Int) => rec745 x754))
  else
  Join
  (fun (v755 : Int) =>
  Chk ((0 : Int) ≤ v755 ∧ v755 ≤ (↑events0.length : Int))
  (Let (List.drop v755.toNat events0) fun (x756 : List Event) =>
  Chk (x756.length * (40 : Nat) ≤ (140737488355328 : Nat))
  (Chk ((0 : Int) ≤ v755 ∧ v755 ≤ (↑events0.length : Int))
  (Let (List.take v755.toNat events0) fun (x757 : List Event) =>
  Chk ((x756.length + x757.length) * (40 : Nat) ≤ (140737488355328 : Nat))
  (Let (x756 ++ x757) fun (x758 : List Event) =>
  LOOP
  (fun (rec759 : Int → Option Bool) (s760 : Int) =>
  Let (decide (s760 ≤ (8 : Int))) fun (x761 : Bool) =>
  if x761 = true then
  Rx.Bind (event_Count r741 s760) fun (r762 : Int) =>
  Rx.Bind (event_Count events0 s760) fun (r763 : Int) =>
  Let (r762 != r763) fun (x764 : Bool) =>
  if x764 = true then some false else Let (IntKind.i64.wrap (s760 + (1 : Int))) fun (x765 : Int) => rec759 x765
  else
  Rx.Bind (event_Sort x758) fun (r766 : List Event) =>
  Rx.Bind (caromref38_EqualEvents r766 r741) fun (r767 : Bool) =>
  Rx.Bind (if (r767 == true) = true then event_Sort r741 else some default) fun (r768 : List Event) =>
  Rx.Bind (if (r767 == true) = true then caromref38_EqualEvents r768 r741 else some default) fun (r769 : Bool) =>
  Let (bif r767 then r769 else false) fun (x770 : Bool) =>
  Rx.Bind (if (x770 == true) = true then caromlaw44_example else some default) fun (r771 : Bool) =>
  Let (bif x770 then r771 else false) fun (x772 : Bool) => some x772)
  fuel (1 : Int))))))
  fun (j773 : Int → Option Bool) =>
  Let (↑events0.length : Int) fun (x774 : Int) =>
  Let (decide (x774 > (0 : Int))) fun (x775 : Bool) =>
  if x775 = true then
  Let (↑n1.toNat : Int) fun (x776 : Int) =>
  Let (↑events0.length : Int) fun (x777 : Int) =>
  Chk (x777 ≠ (0 : Int)) (Let (x776.tmod x777) fun (x778 : Int) => j773 x778)
  else j773 (0 : Int))
  fuel (0 : Int)

end GoForm
