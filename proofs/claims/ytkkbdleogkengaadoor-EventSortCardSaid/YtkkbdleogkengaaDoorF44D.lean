/- The functions' plain forms. Printed by go3.py. No conditions. -/
import Derived.Test.YtkkbdleogkengaaDoorF44T
set_option linter.all false
set_option maxRecDepth 100000
open Go Go.Rx Go.Proofs Go.RowKit
namespace GoForm

noncomputable def strings_explode (s0 : (List UInt8)) (n1 : Int) : Option (List (List UInt8)) :=
  none

noncomputable def strings_Count (s0 : (List UInt8)) (substr1 : (List UInt8)) : Option Int :=
  count1 s0 substr1

noncomputable def strings_Index (s0 : (List UInt8)) (substr1 : (List UInt8)) : Option Int :=
  index1 s0 substr1

noncomputable def strings_genSplit (s0 : (List UInt8)) (sep1 : (List UInt8)) (sepSave2 : Int) (n3 : Int) : Option (List (List UInt8)) :=
  Let (n3 == (0 : Int)) fun (x1 : Bool) =>
  if x1 = true then some []
  else
  Let (sep1 == #[].toList) fun (x2 : Bool) =>
  if x2 = true then Rx.Bind (strings_explode s0 n3) fun (r3 : List (List UInt8)) => some r3
  else
  Join
  (fun (v4 : Int) =>
  Let (↑s0.length : Int) fun (x5 : Int) =>
  Let (IntKind.i64.wrap (x5 + (1 : Int))) fun (x6 : Int) =>
  Let (min v4 x6) fun (x7 : Int) =>
  Chk ((0 : Int) ≤ x7 ∧ x7 ≤ x7 ∧ (↑(16 : Nat) : Int) * x7 ≤ (281474976710656 : Int) ∧ x7 ≤ (9223372036854775807 : Int))
  (Let (List.replicate x7.toNat #[].toList) fun (x8 : List (List UInt8)) =>
  Let (IntKind.i64.wrap (x7 - (1 : Int))) fun (x9 : Int) =>
  Join
  (fun (v10 : List UInt8 × Int × List (List UInt8)) =>
  Chk ((0 : Int) ≤ v10.snd.fst ∧ v10.snd.fst < (↑(List.length v10.snd.snd) : Int))
  (Chk ((0 : Int) ≤ v10.snd.fst ∧ v10.snd.fst < (↑(List.length v10.snd.snd) : Int))
  (Let (List.set v10.snd.snd (Int.toNat v10.snd.fst) v10.fst) fun (x11 : List (List UInt8)) =>
  Let (IntKind.i64.wrap (v10.snd.fst + (1 : Int))) fun (x12 : Int) =>
  Chk
  ((0 : Int) ≤ none.getD (0 : Int) ∧
  (0 : Int) ≤ (some x12).getD (0 : Int) ∧ (0 : Nat) ≤ x12.toNat ∧ x12.toNat ≤ x11.length)
  (Chk (x12.toNat - (0 : Nat) ≤ x11.length)
  (Let (List.take (x12.toNat - (0 : Nat)) x11) fun (x13 : List (List UInt8)) => some x13)))))
  fun (j14 : List UInt8 × Int × List (List UInt8) → Option (List (List UInt8))) =>
  LOOP
  (fun (rec15 : List UInt8 × Int × List (List UInt8) → Option (List (List UInt8)))
  (s16 : List UInt8 × Int × List (List UInt8)) =>
  Let (decide (s16.snd.fst < x9)) fun (x17 : Bool) =>
  if x17 = true then
  Rx.Bind (strings_Index s16.fst sep1) fun (r18 : Int) =>
  Let (decide (r18 < (0 : Int))) fun (x19 : Bool) =>
  if x19 = true then j14 s16
  else
  Let (IntKind.i64.wrap (r18 + sepSave2)) fun (x20 : Int) =>
  Chk ((0 : Int) ≤ x20 ∧ x20 ≤ (↑(List.length s16.fst) : Int))
  (Let (List.take x20.toNat s16.fst) fun (x21 : List UInt8) =>
  Chk ((0 : Int) ≤ s16.snd.fst ∧ s16.snd.fst < (↑(List.length s16.snd.snd) : Int))
  (Chk ((0 : Int) ≤ s16.snd.fst ∧ s16.snd.fst < (↑(List.length s16.snd.snd) : Int))
  (Let (List.set s16.snd.snd (Int.toNat s16.snd.fst) x21) fun (x22 : List (List UInt8)) =>
  Let (↑sep1.length : Int) fun (x23 : Int) =>
  Let (IntKind.i64.wrap (r18 + x23)) fun (x24 : Int) =>
  Chk ((0 : Int) ≤ x24 ∧ x24 ≤ (↑(List.length s16.fst) : Int))
  (Let (List.drop x24.toNat s16.fst) fun (x25 : List UInt8) =>
  Let (IntKind.i64.wrap (s16.snd.fst + (1 : Int))) fun (x26 : Int) => rec15 (x25, x26, x22)))))
  else j14 s16)
  fuel (s0, (0 : Int), x8)))
  fun (j27 : Int → Option (List (List UInt8))) =>
  Let (decide (n3 < (0 : Int))) fun (x28 : Bool) =>
  if x28 = true then
  Rx.Bind (strings_Count s0 sep1) fun (r29 : Int) => Let (IntKind.i64.wrap (r29 + (1 : Int))) fun (x30 : Int) => j27 x30
  else j27 n3

noncomputable def strings_Split (s0 : (List UInt8)) (sep1 : (List UInt8)) : Option (List (List UInt8)) :=
  Rx.Bind (strings_genSplit s0 sep1 (0 : Int) (-1 : Int)) fun (r31 : List (List UInt8)) => some r31

noncomputable def format_Fields (line0 : (List UInt8)) : Option ((List (List UInt8)) × Int) :=
  Let (line0 == #[].toList) fun (x32 : Bool) =>
  if x32 = true then some ([], (0 : Int))
  else
  Let (↑line0.length : Int) fun (x33 : Int) =>
  LOOP
  (fun (rec34 : Int → Option (List (List UInt8) × Int)) (s35 : Int) =>
  Let (decide (s35 < x33)) fun (x36 : Bool) =>
  if x36 = true then
  Chk ((0 : Int) ≤ s35 ∧ s35 < (↑line0.length : Int))
  (Let (ix line0 s35) fun (x37 : UInt8) =>
  Let (decide (x37 < toByte (32 : Int))) fun (x38 : Bool) =>
  Let (decide (toByte (126 : Int) < x37)) fun (x39 : Bool) =>
  Let (bif x38 then true else x39) fun (x40 : Bool) =>
  if x40 = true then some ([], (3 : Int)) else Let (IntKind.i64.wrap (s35 + (1 : Int))) fun (x41 : Int) => rec34 x41)
  else
  Rx.Bind (strings_Split line0 #[(32 : UInt8)].toList) fun (r42 : List (List UInt8)) =>
  Let (↑r42.length : Int) fun (x43 : Int) =>
  LOOP
  (fun (rec44 : Int → Option (List (List UInt8) × Int)) (s45 : Int) =>
  Let (decide (s45 < x43)) fun (x46 : Bool) =>
  if x46 = true then
  Chk ((0 : Int) ≤ s45 ∧ s45 < (↑r42.length : Int))
  (Let (ix r42 s45) fun (x47 : List UInt8) =>
  Let (x47 == #[].toList) fun (x48 : Bool) =>
  if x48 = true then some ([], (3 : Int)) else Let (IntKind.i64.wrap (s45 + (1 : Int))) fun (x49 : Int) => rec44 x49)
  else some (r42, (0 : Int)))
  fuel (0 : Int))
  fuel (0 : Int)

noncomputable def event_word (k0 : Int) : Option (List UInt8) :=
  Chk ((0 : Int) ≤ k0 ∧ k0 < (↑(9 : Nat) : Int))
  (Let
  (ix
  [#[].toList,
  #[(99 : UInt8), (111 : UInt8), (110 : UInt8), (116 : UInt8), (97 : UInt8), (99 : UInt8), (116 : UInt8), (45 : UInt8),
  (98 : UInt8), (101 : UInt8), (103 : UInt8), (105 : UInt8), (110 : UInt8)].toList,
  #[(99 : UInt8), (111 : UInt8), (110 : UInt8), (116 : UInt8), (97 : UInt8), (99 : UInt8), (116 : UInt8), (45 : UInt8),
  (101 : UInt8), (110 : UInt8), (100 : UInt8)].toList,
  #[(115 : UInt8), (101 : UInt8), (110 : UInt8), (115 : UInt8), (111 : UInt8), (114 : UInt8), (45 : UInt8), (101 : UInt8),
  (110 : UInt8), (116 : UInt8), (101 : UInt8), (114 : UInt8)].toList,
  #[(115 : UInt8), (101 : UInt8), (110 : UInt8), (115 : UInt8), (111 : UInt8), (114 : UInt8), (45 : UInt8), (101 : UInt8),
  (120 : UInt8), (105 : UInt8), (116 : UInt8)].toList,
  #[(106 : UInt8), (111 : UInt8), (105 : UInt8), (110 : UInt8), (116 : UInt8), (45 : UInt8), (98 : UInt8), (114 : UInt8),
  (101 : UInt8), (97 : UInt8), (107 : UInt8)].toList,
  #[(98 : UInt8), (111 : UInt8), (100 : UInt8), (121 : UInt8), (45 : UInt8), (115 : UInt8), (108 : UInt8), (101 : UInt8),
  (101 : UInt8), (112 : UInt8)].toList,
  #[(98 : UInt8), (111 : UInt8), (100 : UInt8), (121 : UInt8), (45 : UInt8), (119 : UInt8), (97 : UInt8), (107 : UInt8),
  (101 : UInt8)].toList,
  #[(98 : UInt8), (117 : UInt8), (108 : UInt8), (108 : UInt8), (101 : UInt8), (116 : UInt8), (45 : UInt8), (115 : UInt8),
  (116 : UInt8), (111 : UInt8), (112 : UInt8)].toList]
  k0)
  fun (x50 : List UInt8) => some x50)

noncomputable def stringslite_HasPrefix (s0 : (List UInt8)) (prefix1 : (List UInt8)) : Option Bool :=
  Let (↑s0.length : Int) fun (x51 : Int) =>
  Let (↑prefix1.length : Int) fun (x52 : Int) =>
  Let (decide (x51 ≥ x52)) fun (x53 : Bool) =>
  Let (↑prefix1.length : Int) fun (x54 : Int) =>
  Chk ((x53 == true) = true → (0 : Int) ≤ x54 ∧ x54 ≤ (↑s0.length : Int))
  (Let (List.take x54.toNat s0) fun (x55 : List UInt8) =>
  Let (x55 == prefix1) fun (x56 : Bool) => Let (bif x53 then x56 else false) fun (x57 : Bool) => some x57)

noncomputable def stringslite_CutPrefix (s0 : (List UInt8)) (prefix1 : (List UInt8)) : Option ((List UInt8) × Bool) :=
  Rx.Bind (stringslite_HasPrefix s0 prefix1) fun (r58 : Bool) =>
  Let (!r58) fun (x59 : Bool) =>
  if x59 = true then some (s0, false)
  else
  Let (↑prefix1.length : Int) fun (x60 : Int) =>
  Chk ((0 : Int) ≤ x60 ∧ x60 ≤ (↑s0.length : Int))
  (Let (List.drop x60.toNat s0) fun (x61 : List UInt8) => some (x61, true))

noncomputable def strings_CutPrefix (s0 : (List UInt8)) (prefix1 : (List UInt8)) : Option ((List UInt8) × Bool) :=
  Rx.Bind (stringslite_CutPrefix s0 prefix1) fun (r62 : List UInt8 × Bool) => some r62

noncomputable def format_parseDecimal (s0 : (List UInt8)) : Option (format_decimal × Bool) :=
  Rx.Bind (strings_CutPrefix s0 #[(45 : UInt8)].toList) fun (r63 : List UInt8 × Bool) =>
  Let (r63.fst == #[].toList) fun (x64 : Bool) =>
  Chk ((x64 == false) = true → (0 : Int) ≤ (0 : Int) ∧ (0 : Int) < (↑(List.length r63.fst) : Int))
  (Let (ix r63.fst (0 : Int)) fun (x65 : UInt8) =>
  Let (x65 == toByte (48 : Int)) fun (x66 : Bool) =>
  Let (s0 != #[(48 : UInt8)].toList) fun (x67 : Bool) =>
  Let (bif x66 then x67 else false) fun (x68 : Bool) =>
  Let (bif x64 then true else x68) fun (x69 : Bool) =>
  if x69 = true then some ({ negative := false, magnitude := (0 : Int), unit := (0 : Int) : format_decimal }, false)
  else
  LOOP
  (fun (rec70 : format_decimal × format_decimal × List UInt8 × Nat → Option (format_decimal × Bool))
  (s71 : format_decimal × format_decimal × List UInt8 × Nat) =>
  if decide (s71.snd.snd.snd < s71.snd.snd.fst.length) = true then
  Let (decide ((↑(Utf8.decode { data := s71.snd.snd.fst.toArray : ByteArray } s71.snd.snd.snd).fst : Int) < (48 : Int)))
  fun (x72 : Bool) =>
  Let (decide ((↑(Utf8.decode { data := s71.snd.snd.fst.toArray : ByteArray } s71.snd.snd.snd).fst : Int) > (57 : Int)))
  fun (x73 : Bool) =>
  Let (bif x72 then true else x73) fun (x74 : Bool) =>
  if x74 = true then some ({ negative := false, magnitude := (0 : Int), unit := (0 : Int) : format_decimal }, false)
  else
  Let
  (IntKind.i32.wrap
  ((↑(Utf8.decode { data := s71.snd.snd.fst.toArray : ByteArray } s71.snd.snd.snd).fst : Int) - (48 : Int)))
  fun (x75 : Int) =>
  Let (IntKind.u64.wrap x75) fun (x76 : Int) =>
  Join
  (fun (v77 : format_decimal) =>
  Let (IntKind.u64.wrap (v77.unit * (10 : Int))) fun (x78 : Int) =>
  Let (IntKind.u64.wrap (x78 + x76)) fun (x79 : Int) =>
  Let (x79.tmod (65536 : Int)) fun (x80 : Int) =>
  rec70
  (s71.fst, { negative := v77.negative, magnitude := v77.magnitude, unit := x80 : format_decimal }, s71.snd.snd.fst,
  s71.snd.snd.snd + (Utf8.decode { data := s71.snd.snd.fst.toArray : ByteArray } s71.snd.snd.snd).snd))
  fun (j81 : format_decimal → Option (format_decimal × Bool)) =>
  Let (decide (s71.snd.fst.magnitude > (461168601842738790 : Int))) fun (x82 : Bool) =>
  if x82 = true then
  j81
  { negative := s71.snd.fst.negative, magnitude := (4611686018427387905 : Int), unit := s71.snd.fst.unit : format_decimal }
  else
  Let (IntKind.u64.wrap (s71.snd.fst.magnitude * (10 : Int))) fun (x83 : Int) =>
  Let (IntKind.u64.wrap (x83 + x76)) fun (x84 : Int) =>
  Let (min x84 (4611686018427387905 : Int)) fun (x85 : Int) =>
  j81 { negative := s71.snd.fst.negative, magnitude := x85, unit := s71.snd.fst.unit : format_decimal }
  else some (s71.snd.fst, true))
  fuel
  ({ negative := false, magnitude := (0 : Int), unit := (0 : Int) : format_decimal },
  { negative := r63.snd, magnitude := (0 : Int), unit := (0 : Int) : format_decimal }, r63.fst, (0 : Nat)))

noncomputable def format_decimal_value (d0 : format_decimal) : Option Int :=
  if d0.negative = true then
  Let (IntKind.i64.wrap d0.magnitude) fun (x86 : Int) =>
  Let (IntKind.i64.wrap ((0 : Int) - x86)) fun (x87 : Int) => some x87
  else Let (IntKind.i64.wrap d0.magnitude) fun (x88 : Int) => some x88

noncomputable def format_ParseInt (s0 : (List UInt8)) : Option (Int × Int) :=
  Rx.Bind (format_parseDecimal s0) fun (r89 : format_decimal × Bool) =>
  Let (!r89.snd) fun (x90 : Bool) =>
  if x90 = true then some ((0 : Int), (3 : Int))
  else
  Let (decide (r89.fst.magnitude > (4611686018427387904 : Int))) fun (x91 : Bool) =>
  if x91 = true then some ((0 : Int), (6 : Int))
  else Rx.Bind (format_decimal_value r89.fst) fun (r92 : Int) => some (r92, (0 : Int))

noncomputable def event_parseFields (fields0 : (List (List UInt8))) : Option (Event × Bool) :=
  LOOP
  (fun (rec93 : Int × Event → Option (Event × Bool)) (s94 : Int × Event) =>
  Let (decide (s94.fst < (9 : Int))) fun (x95 : Bool) =>
  if x95 = true then
  Join (fun (v96 : Event) => Let (IntKind.i64.wrap (s94.fst + (1 : Int))) fun (x97 : Int) => rec93 (x97, v96))
  fun (j98 : Event → Option (Event × Bool)) =>
  Rx.Bind (event_word s94.fst) fun (r99 : List UInt8) =>
  Chk ((0 : Int) ≤ (0 : Int) ∧ (0 : Int) < (↑fields0.length : Int))
  (Let (ix fields0 (0 : Int)) fun (x100 : List UInt8) =>
  Let (r99 == x100) fun (x101 : Bool) =>
  if x101 = true then j98 { Kind := s94.fst, Key := s94.snd.Key : Event } else j98 s94.snd)
  else
  Let (↑fields0.length : Int) fun (x102 : Int) =>
  Let (decide (x102 > IntKind.i64.wrap ((1 : Int) + (↑(4 : Nat) : Int)))) fun (x103 : Bool) =>
  if x103 = true then
  some
  ({ Kind := (0 : Int), Key := { BodyA := (0 : Int), FixtureA := (0 : Int), BodyB := (0 : Int), FixtureB := (0 : Int) : PairKey } : Event },
  false)
  else
  Chk ((0 : Int) ≤ (1 : Int) ∧ (1 : Int) ≤ (↑fields0.length : Int))
  (Let (List.drop (1 : Nat) fields0) fun (x104 : List (List UInt8)) =>
  Let (↑x104.length : Int) fun (x105 : Int) =>
  Let (decide ((0 : Int) < x105)) fun (x106 : Bool) =>
  if x106 = true then
  Chk ((0 : Int) ≤ (0 : Int) ∧ (0 : Int) < (↑x104.length : Int))
  (Let (ix x104 (0 : Int)) fun (x107 : List UInt8) =>
  Rx.Bind (format_ParseInt x107) fun (r108 : Int × Int) =>
  Let (r108.snd != (0 : Int)) fun (x109 : Bool) =>
  if x109 = true then
  some
  ({ Kind := (0 : Int), Key := { BodyA := (0 : Int), FixtureA := (0 : Int), BodyB := (0 : Int), FixtureB := (0 : Int) : PairKey } : Event },
  false)
  else
  Let (decide (IntKind.i64.wrap ((0 : Int) + (1 : Int)) < x105)) fun (x110 : Bool) =>
  if x110 = true then
  Chk
  ((0 : Int) ≤ IntKind.i64.wrap ((0 : Int) + (1 : Int)) ∧ IntKind.i64.wrap ((0 : Int) + (1 : Int)) < (↑x104.length : Int))
  (Let (ix x104 (IntKind.i64.wrap ((0 : Int) + (1 : Int)))) fun (x111 : List UInt8) =>
  Rx.Bind (format_ParseInt x111) fun (r112 : Int × Int) =>
  Let (r112.snd != (0 : Int)) fun (x113 : Bool) =>
  if x113 = true then
  some
  ({ Kind := (0 : Int), Key := { BodyA := (0 : Int), FixtureA := (0 : Int), BodyB := (0 : Int), FixtureB := (0 : Int) : PairKey } : Event },
  false)
  else
  Let (decide (IntKind.i64.wrap (IntKind.i64.wrap ((0 : Int) + (1 : Int)) + (1 : Int)) < x105)) fun (x114 : Bool) =>
  if x114 = true then
  Chk
  ((0 : Int) ≤ IntKind.i64.wrap (IntKind.i64.wrap ((0 : Int) + (1 : Int)) + (1 : Int)) ∧
  IntKind.i64.wrap (IntKind.i64.wrap ((0 : Int) + (1 : Int)) + (1 : Int)) < (↑x104.length : Int))
  (Let (ix x104 (IntKind.i64.wrap (IntKind.i64.wrap ((0 : Int) + (1 : Int)) + (1 : Int)))) fun (x115 : List UInt8) =>
  Rx.Bind (format_ParseInt x115) fun (r116 : Int × Int) =>
  Let (r116.snd != (0 : Int)) fun (x117 : Bool) =>
  if x117 = true then
  some
  ({ Kind := (0 : Int), Key := { BodyA := (0 : Int), FixtureA := (0 : Int), BodyB := (0 : Int), FixtureB := (0 : Int) : PairKey } : Event },
  false)
  else
  Let
  (decide (IntKind.i64.wrap (IntKind.i64.wrap (IntKind.i64.wrap ((0 : Int) + (1 : Int)) + (1 : Int)) + (1 : Int)) < x105))
  fun (x118 : Bool) =>
  if x118 = true then
  Chk
  ((0 : Int) ≤ IntKind.i64.wrap (IntKind.i64.wrap (IntKind.i64.wrap ((0 : Int) + (1 : Int)) + (1 : Int)) + (1 : Int)) ∧
  IntKind.i64.wrap (IntKind.i64.wrap (IntKind.i64.wrap ((0 : Int) + (1 : Int)) + (1 : Int)) + (1 : Int)) <
  (↑x104.length : Int))
  (Let (ix x104 (IntKind.i64.wrap (IntKind.i64.wrap (IntKind.i64.wrap ((0 : Int) + (1 : Int)) + (1 : Int)) + (1 : Int))))
  fun (x119 : List UInt8) =>
  Rx.Bind (format_ParseInt x119) fun (r120 : Int × Int) =>
  Let (r120.snd != (0 : Int)) fun (x121 : Bool) =>
  if x121 = true then
  some
  ({ Kind := (0 : Int), Key := { BodyA := (0 : Int), FixtureA := (0 : Int), BodyB := (0 : Int), FixtureB := (0 : Int) : PairKey } : Event },
  false)
  else
  Let
  (decide
  (IntKind.i64.wrap
  (IntKind.i64.wrap (IntKind.i64.wrap (IntKind.i64.wrap ((0 : Int) + (1 : Int)) + (1 : Int)) + (1 : Int)) + (1 : Int)) <
  x105))
  fun (x122 : Bool) =>
  if x122 = true then
  Chk
  ((0 : Int) ≤
  IntKind.i64.wrap
  (IntKind.i64.wrap (IntKind.i64.wrap (IntKind.i64.wrap ((0 : Int) + (1 : Int)) + (1 : Int)) + (1 : Int)) + (1 : Int)) ∧
  IntKind.i64.wrap
  (IntKind.i64.wrap (IntKind.i64.wrap (IntKind.i64.wrap ((0 : Int) + (1 : Int)) + (1 : Int)) + (1 : Int)) + (1 : Int)) <
  (↑x104.length : Int))
  (Let
  (ix x104
  (IntKind.i64.wrap
  (IntKind.i64.wrap (IntKind.i64.wrap (IntKind.i64.wrap ((0 : Int) + (1 : Int)) + (1 : Int)) + (1 : Int)) + (1 : Int))))
  fun (x123 : List UInt8) =>
  Rx.Bind (format_ParseInt x123) fun (r124 : Int × Int) =>
  Let (r124.snd != (0 : Int)) fun (x125 : Bool) =>
  if x125 = true then
  some
  ({ Kind := (0 : Int), Key := { BodyA := (0 : Int), FixtureA := (0 : Int), BodyB := (0 : Int), FixtureB := (0 : Int) : PairKey } : Event },
  false)
  else none)
  else
  some
  ({ Kind := s94.snd.Kind, Key := { BodyA := r108.fst, FixtureA := r112.fst, BodyB := r116.fst, FixtureB := r120.fst : PairKey } : Event },
  true))
  else
  some
  ({ Kind := s94.snd.Kind, Key := { BodyA := r108.fst, FixtureA := r112.fst, BodyB := r116.fst, FixtureB := s94.snd.Key.FixtureB : PairKey } : Event },
  true))
  else
  some
  ({ Kind := s94.snd.Kind, Key := { BodyA := r108.fst, FixtureA := r112.fst, BodyB := s94.snd.Key.BodyB, FixtureB := s94.snd.Key.FixtureB : PairKey } : Event },
  true))
  else
  some
  ({ Kind := s94.snd.Kind, Key := { BodyA := r108.fst, FixtureA := s94.snd.Key.FixtureA, BodyB := s94.snd.Key.BodyB, FixtureB := s94.snd.Key.FixtureB : PairKey } : Event },
  true))
  else some (s94.snd, true)))
  fuel
  ((1 : Int),
  { Kind := (0 : Int), Key := { BodyA := (0 : Int), FixtureA := (0 : Int), BodyB := (0 : Int), FixtureB := (0 : Int) : PairKey } : Event })

noncomputable def event_known (k0 : Int) : Option Bool :=
  Let (decide (k0 ≥ (1 : Int))) fun (x126 : Bool) =>
  Let (decide (k0 < (9 : Int))) fun (x127 : Bool) => Let (bif x126 then x127 else false) fun (x128 : Bool) => some x128

noncomputable def event_Valid_1 (n0 : Int) : Option Bool :=
  Let (decide (n0 ≥ (0 : Int))) fun (x129 : Bool) =>
  Let (decide (n0 ≤ (1099511627776 : Int))) fun (x130 : Bool) =>
  Let (bif x129 then x130 else false) fun (x131 : Bool) => some x131

noncomputable def event_isPairEvent (k0 : Int) : Option Bool :=
  Let (decide (k0 ≥ (1 : Int))) fun (x132 : Bool) =>
  Let (decide (k0 ≤ (4 : Int))) fun (x133 : Bool) => Let (bif x132 then x133 else false) fun (x134 : Bool) => some x134

noncomputable def event_Valid (e0 : Event) : Option Bool :=
  Rx.Bind (event_known e0.Kind) fun (r135 : Bool) =>
  Let (!r135) fun (x136 : Bool) =>
  if x136 = true then some false
  else
  Rx.Bind (event_isPairEvent e0.Kind) fun (r137 : Bool) =>
  Let (!r137) fun (x138 : Bool) =>
  if x138 = true then
  Rx.Bind (event_Valid_1 e0.Key.BodyA) fun (r139 : Bool) =>
  Let
  (decide (e0.Key.BodyA = e0.Key.BodyA) &&
  (decide (e0.Key.FixtureA = (0 : Int)) && (decide (e0.Key.BodyB = (0 : Int)) && decide (e0.Key.FixtureB = (0 : Int)))))
  fun (x140 : Bool) => Let (bif r139 then x140 else false) fun (x141 : Bool) => some x141
  else
  Rx.Bind (event_Valid_1 e0.Key.BodyA) fun (r142 : Bool) =>
  Rx.Bind (if (r142 == true) = true then event_Valid_1 e0.Key.FixtureA else some default) fun (r143 : Bool) =>
  Let (bif r142 then r143 else false) fun (x144 : Bool) =>
  Rx.Bind (if (x144 == true) = true then event_Valid_1 e0.Key.BodyB else some default) fun (r145 : Bool) =>
  Let (bif x144 then r145 else false) fun (x146 : Bool) =>
  Rx.Bind (if (x146 == true) = true then event_Valid_1 e0.Key.FixtureB else some default) fun (r147 : Bool) =>
  Let (bif x146 then r147 else false) fun (x148 : Bool) => some x148

noncomputable def format_FormatInt (n0 : Int) : Option (List UInt8) :=
  Let (IntKind.u64.wrap n0) fun (x149 : Int) =>
  Join
  (fun (v150 : Int) =>
  LOOP
  (fun (rec151 : Int × Int × List UInt8 → Option (List UInt8)) (s152 : Int × Int × List UInt8) =>
  Let (IntKind.i64.wrap (s152.snd.fst - (1 : Int))) fun (x153 : Int) =>
  Let (Int.tmod s152.fst (10 : Int)) fun (x154 : Int) =>
  Let (IntKind.u64.wrap ((48 : Int) + x154)) fun (x155 : Int) =>
  Let (toByte x155) fun (x156 : UInt8) =>
  Chk ((0 : Int) ≤ x153 ∧ x153 < (↑(20 : Nat) : Int))
  (Chk ((0 : Int) ≤ x153 ∧ x153 < (↑(List.length s152.snd.snd) : Int))
  (Let (List.set s152.snd.snd x153.toNat x156) fun (x157 : List UInt8) =>
  Let (IntKind.u64.wrap (Int.tdiv s152.fst (10 : Int))) fun (x158 : Int) =>
  Let (x158 == (0 : Int)) fun (x159 : Bool) =>
  if x159 = true then
  Join
  (fun (v160 : Int × List UInt8) =>
  Chk
  ((0 : Int) ≤ (some v160.fst).getD (0 : Int) ∧
  (0 : Int) ≤ none.getD (0 : Int) ∧
  Int.toNat v160.fst ≤ (20 : Nat) ∧ (20 : Nat) ≤ (20 : Nat) ∧ (20 : Nat) ≤ List.length v160.snd)
  (Chk (Int.toNat v160.fst + ((20 : Nat) - Int.toNat v160.fst) ≤ List.length v160.snd)
  (some (List.take ((20 : Nat) - Int.toNat v160.fst) (List.drop (Int.toNat v160.fst) v160.snd)))))
  fun (j161 : Int × List UInt8 → Option (List UInt8)) =>
  Let (decide (n0 < (0 : Int))) fun (x162 : Bool) =>
  if x162 = true then
  Let (IntKind.i64.wrap (x153 - (1 : Int))) fun (x163 : Int) =>
  Chk ((0 : Int) ≤ x163 ∧ x163 < (↑(20 : Nat) : Int))
  (Chk ((0 : Int) ≤ x163 ∧ x163 < (↑x157.length : Int))
  (Let (x157.set x163.toNat (toByte (45 : Int))) fun (x164 : List UInt8) => j161 (x163, x164)))
  else j161 (x153, x157)
  else rec151 (x158, x153, x157))))
  fuel
  (v150, (20 : Int),
  [toByte (0 : Int), toByte (0 : Int), toByte (0 : Int), toByte (0 : Int), toByte (0 : Int), toByte (0 : Int),
  toByte (0 : Int), toByte (0 : Int), toByte (0 : Int), toByte (0 : Int), toByte (0 : Int), toByte (0 : Int),
  toByte (0 : Int), toByte (0 : Int), toByte (0 : Int), toByte (0 : Int), toByte (0 : Int), toByte (0 : Int),
  toByte (0 : Int), toByte (0 : Int)]))
  fun (j165 : Int → Option (List UInt8)) =>
  Let (decide (n0 < (0 : Int))) fun (x166 : Bool) =>
  if x166 = true then Let (IntKind.u64.wrap ((0 : Int) - x149)) fun (x167 : Int) => j165 x167 else j165 x149

noncomputable def strings_Join (elems0 : (List (List UInt8))) (sep1 : (List UInt8)) : Option (List UInt8) :=
  joinS elems0 sep1

noncomputable def format_JoinFields (fields0 : (List (List UInt8))) : Option (List UInt8) :=
  Rx.Bind (strings_Join fields0 #[(32 : UInt8)].toList) fun (r168 : List UInt8) => some r168

noncomputable def event_Format (e0 : Event) : Option (List UInt8) :=
  Rx.Bind (event_Valid e0) fun (r169 : Bool) =>
  Let (!r169) fun (x170 : Bool) =>
  if x170 = true then some #[].toList
  else
  Rx.Bind (event_isPairEvent e0.Kind) fun (r171 : Bool) =>
  Let (!r171) fun (x172 : Bool) =>
  if x172 = true then
  Rx.Bind (event_word e0.Kind) fun (r173 : List UInt8) =>
  Rx.Bind (format_FormatInt e0.Key.BodyA) fun (r174 : List UInt8) =>
  Rx.Bind (format_JoinFields [r173, r174]) fun (r175 : List UInt8) => some r175
  else
  Rx.Bind (event_word e0.Kind) fun (r176 : List UInt8) =>
  Rx.Bind (format_FormatInt e0.Key.BodyA) fun (r177 : List UInt8) =>
  Rx.Bind (format_FormatInt e0.Key.FixtureA) fun (r178 : List UInt8) =>
  Rx.Bind (format_FormatInt e0.Key.BodyB) fun (r179 : List UInt8) =>
  Rx.Bind (format_FormatInt e0.Key.FixtureB) fun (r180 : List UInt8) =>
  Rx.Bind (format_JoinFields [r176, r177, r178, r179, r180]) fun (r181 : List UInt8) => some r181

noncomputable def event_Parse (s0 : (List UInt8)) : Option (Event × Int) :=
  Rx.Bind (format_Fields s0) fun (r182 : List (List UInt8) × Int) =>
  Let (r182.snd != (0 : Int)) fun (x183 : Bool) =>
  Let (↑(List.length r182.fst) : Int) fun (x184 : Int) =>
  Let (x184 == (0 : Int)) fun (x185 : Bool) =>
  Let (bif x183 then true else x185) fun (x186 : Bool) =>
  if x186 = true then
  some
  ({ Kind := (0 : Int), Key := { BodyA := (0 : Int), FixtureA := (0 : Int), BodyB := (0 : Int), FixtureB := (0 : Int) : PairKey } : Event },
  (3 : Int))
  else
  Rx.Bind (event_parseFields r182.fst) fun (r187 : Event × Bool) =>
  Let (!r187.snd) fun (x188 : Bool) =>
  Rx.Bind (if (x188 == false) = true then event_Format r187.fst else some default) fun (r189 : List UInt8) =>
  Let (r189 != s0) fun (x190 : Bool) =>
  Let (bif x188 then true else x190) fun (x191 : Bool) =>
  if x191 = true then
  some
  ({ Kind := (0 : Int), Key := { BodyA := (0 : Int), FixtureA := (0 : Int), BodyB := (0 : Int), FixtureB := (0 : Int) : PairKey } : Event },
  (3 : Int))
  else some (r187.fst, (0 : Int))

noncomputable def slices_Clone (s0 : (List PairKey)) : Option (List PairKey) :=
  Rx.Alike (s0 = []) (some []) (Chk (s0.length * (32 : Nat) ≤ (140737488355328 : Nat)) (some s0))

noncomputable def slices_Index (s0 : (List PairKey)) (v1 : PairKey) : Option Int :=
  Let (↑s0.length : Int) fun (x192 : Int) =>
  LOOP
  (fun (rec193 : Int → Option Int) (s194 : Int) =>
  Let (decide (s194 < x192)) fun (x195 : Bool) =>
  if x195 = true then
  Chk ((0 : Int) ≤ s194 ∧ s194 < (↑s0.length : Int))
  (Let (ix s0 s194) fun (x196 : PairKey) =>
  Let
  (decide (v1.BodyA = x196.BodyA) &&
  (decide (v1.FixtureA = x196.FixtureA) && (decide (v1.BodyB = x196.BodyB) && decide (v1.FixtureB = x196.FixtureB))))
  fun (x197 : Bool) =>
  if x197 = true then some s194 else Let (IntKind.i64.wrap (s194 + (1 : Int))) fun (x198 : Int) => rec193 x198)
  else some (-1 : Int))
  fuel (0 : Int)

noncomputable def event_ActiveContacts (active0 : (List PairKey)) (events1 : (List Event)) : Option ((List PairKey) × Int) :=
  Rx.Bind (slices_Clone active0) fun (r199 : List PairKey) =>
  Let (↑events1.length : Int) fun (x200 : Int) =>
  LOOP
  (fun (rec201 : List PairKey × Int → Option (List PairKey × Int)) (s202 : List PairKey × Int) =>
  Let (decide (s202.snd < x200)) fun (x203 : Bool) =>
  if x203 = true then
  Join
  (fun (v204 : List PairKey) => Let (IntKind.i64.wrap (s202.snd + (1 : Int))) fun (x205 : Int) => rec201 (v204, x205))
  fun (j206 : List PairKey → Option (List PairKey × Int)) =>
  Chk ((0 : Int) ≤ s202.snd ∧ s202.snd < (↑events1.length : Int))
  (Let (ix events1 s202.snd) fun (x207 : Event) =>
  Rx.Bind (slices_Index s202.fst x207.Key) fun (r208 : Int) =>
  Let (x207.Kind == (1 : Int)) fun (x209 : Bool) =>
  Let (decide (r208 ≥ (0 : Int))) fun (x210 : Bool) =>
  Let (bif x209 then x210 else false) fun (x211 : Bool) =>
  if x211 = true then some ([], (7 : Int))
  else
  Let (x207.Kind == (1 : Int)) fun (x212 : Bool) =>
  if x212 = true then
  Chk ((List.length s202.fst + [x207.Key].length) * (32 : Nat) ≤ (140737488355328 : Nat))
  (Let (s202.fst ++ [x207.Key]) fun (x213 : List PairKey) => j206 x213)
  else
  Let (x207.Kind == (2 : Int)) fun (x214 : Bool) =>
  Let (decide (r208 < (0 : Int))) fun (x215 : Bool) =>
  Let (bif x214 then x215 else false) fun (x216 : Bool) =>
  if x216 = true then some ([], (8 : Int))
  else
  Let (x207.Kind == (2 : Int)) fun (x217 : Bool) =>
  if x217 = true then
  Let (IntKind.i64.wrap (r208 + (1 : Int))) fun (x218 : Int) =>
  Let (↑(List.length s202.fst) : Int) fun (x219 : Int) =>
  Chk ((0 : Int) ≤ r208 ∧ r208 ≤ x218 ∧ x218 ≤ x219 ∧ x219 ≤ (↑(List.length s202.fst) : Int))
  (Let (r208 == x218) fun (x220 : Bool) =>
  if x220 = true then j206 s202.fst
  else
  Let (↑(List.length s202.fst) : Int) fun (x221 : Int) =>
  Chk
  ((0 : Int) ≤ none.getD (0 : Int) ∧
  (0 : Int) ≤ (some r208).getD (0 : Int) ∧ (0 : Nat) ≤ r208.toNat ∧ r208.toNat ≤ List.length s202.fst)
  (Chk
  ((0 : Int) ≤ (some x218).getD (0 : Int) ∧
  (0 : Int) ≤ none.getD (0 : Int) ∧ x218.toNat ≤ List.length s202.fst ∧ List.length s202.fst ≤ List.length s202.fst)
  (Chk (x218.toNat + (List.length s202.fst - x218.toNat) ≤ List.length s202.fst)
  (Let (List.take (List.length s202.fst - x218.toNat) (List.drop x218.toNat s202.fst)) fun (x222 : List PairKey) =>
  Chk
  ((0 : Nat) + (r208.toNat - (0 : Nat) + x222.length) ≤ List.length s202.fst ∧
  r208.toNat - (0 : Nat) + x222.length ≤ List.length s202.fst - (0 : Nat) ∧ (0 : Nat) < List.length s202.fst - (0 : Nat))
  (Let
  (List.take ((0 : Nat) + (r208.toNat - (0 : Nat))) s202.fst ++ x222 ++
  List.drop ((0 : Nat) + (r208.toNat - (0 : Nat)) + x222.length) s202.fst)
  fun (x223 : List PairKey) =>
  Chk
  ((0 : Int) ≤ (some (↑(r208.toNat - (0 : Nat) + x222.length) : Int)).getD (0 : Int) ∧
  (0 : Int) ≤ (some x221).getD (0 : Int) ∧
  (↑(r208.toNat - (0 : Nat) + x222.length) : Int).toNat ≤ x221.toNat ∧
  x221.toNat ≤ List.length s202.fst - (0 : Nat) ∧ r208.toNat - (0 : Nat) + x222.length ≤ List.length s202.fst - (0 : Nat))
  (Chk
  ((0 : Nat) + (↑(r208.toNat - (0 : Nat) + x222.length) : Int).toNat +
  (x221.toNat - (↑(r208.toNat - (0 : Nat) + x222.length) : Int).toNat) ≤
  x223.length ∧
  (0 : Nat) < List.length s202.fst - (0 : Nat) - (↑(r208.toNat - (0 : Nat) + x222.length) : Int).toNat)
  (Let
  (List.take ((0 : Nat) + (↑(r208.toNat - (0 : Nat) + x222.length) : Int).toNat) x223 ++
  List.replicate (x221.toNat - (↑(r208.toNat - (0 : Nat) + x222.length) : Int).toNat)
  { BodyA := (0 : Int), FixtureA := (0 : Int), BodyB := (0 : Int), FixtureB := (0 : Int) : PairKey } ++
  List.drop
  ((0 : Nat) + (↑(r208.toNat - (0 : Nat) + x222.length) : Int).toNat +
  (x221.toNat - (↑(r208.toNat - (0 : Nat) + x222.length) : Int).toNat))
  x223)
  fun (x224 : List PairKey) =>
  Chk (r208.toNat - (0 : Nat) + x222.length ≤ x224.length)
  (Let (List.take (r208.toNat - (0 : Nat) + x222.length) x224) fun (x225 : List PairKey) => j206 x225))))))))
  else j206 s202.fst)
  else some (s202.fst, (0 : Int)))
  fuel (r199, (0 : Int))

noncomputable def cmp_isNaN (x0 : Int) : Option Bool :=
  Let (x0 != x0) fun (x226 : Bool) => some x226

noncomputable def cmp_Compare (x0 : Int) (y1 : Int) : Option Int :=
  Rx.Bind (cmp_isNaN x0) fun (r227 : Bool) =>
  Rx.Bind (cmp_isNaN y1) fun (r228 : Bool) =>
  if r227 = true then if r228 = true then some (0 : Int) else some (-1 : Int)
  else
  if r228 = true then some (1 : Int)
  else
  Let (decide (x0 < y1)) fun (x229 : Bool) =>
  if x229 = true then some (-1 : Int)
  else Let (decide (x0 > y1)) fun (x230 : Bool) => if x230 = true then some (1 : Int) else some (0 : Int)

noncomputable def cmp_isNaN_68 (x0 : Int) : Option Bool :=
  Let (x0 != x0) fun (x231 : Bool) => some x231

noncomputable def cmp_Compare_59 (x0 : Int) (y1 : Int) : Option Int :=
  Rx.Bind (cmp_isNaN_68 x0) fun (r232 : Bool) =>
  Rx.Bind (cmp_isNaN_68 y1) fun (r233 : Bool) =>
  if r232 = true then if r233 = true then some (0 : Int) else some (-1 : Int)
  else
  if r233 = true then some (1 : Int)
  else
  Let (decide (x0 < y1)) fun (x234 : Bool) =>
  if x234 = true then some (-1 : Int)
  else Let (decide (x0 > y1)) fun (x235 : Bool) => if x235 = true then some (1 : Int) else some (0 : Int)

noncomputable def cmp_Or (vals0 : (List Int)) : Option Int :=
  Let (↑vals0.length : Int) fun (x236 : Int) =>
  LOOP
  (fun (rec237 : Int → Option Int) (s238 : Int) =>
  Let (decide (s238 < x236)) fun (x239 : Bool) =>
  if x239 = true then
  Chk ((0 : Int) ≤ s238 ∧ s238 < (↑vals0.length : Int))
  (Let (ix vals0 s238) fun (x240 : Int) =>
  Let (x240 != (0 : Int)) fun (x241 : Bool) =>
  if x241 = true then some x240 else Let (IntKind.i64.wrap (s238 + (1 : Int))) fun (x242 : Int) => rec237 x242)
  else some (0 : Int))
  fuel (0 : Int)

noncomputable def event_compare (a0 : Event) (b1 : Event) : Option Int :=
  Rx.Bind (cmp_Compare a0.Kind b1.Kind) fun (r243 : Int) =>
  Rx.Bind (cmp_Compare_59 a0.Key.BodyA b1.Key.BodyA) fun (r244 : Int) =>
  Rx.Bind (cmp_Compare_59 a0.Key.FixtureA b1.Key.FixtureA) fun (r245 : Int) =>
  Rx.Bind (cmp_Compare_59 a0.Key.BodyB b1.Key.BodyB) fun (r246 : Int) =>
  Rx.Bind (cmp_Compare_59 a0.Key.FixtureB b1.Key.FixtureB) fun (r247 : Int) =>
  Rx.Bind (cmp_Or [r243, r244, r245, r246, r247]) fun (r248 : Int) => some r248

noncomputable def event_Less (a0 : Event) (b1 : Event) : Option Bool :=
  Rx.Bind (event_compare a0 b1) fun (r249 : Int) => Let (decide (r249 < (0 : Int))) fun (x250 : Bool) => some x250

noncomputable def event_Count (events0 : (List Event)) (k1 : Int) : Option Int :=
  Let (↑events0.length : Int) fun (x251 : Int) =>
  LOOP
  (fun (rec252 : Int × Int → Option Int) (s253 : Int × Int) =>
  Let (decide (s253.snd < x251)) fun (x254 : Bool) =>
  if x254 = true then
  Join (fun (v255 : Int) => Let (IntKind.i64.wrap (s253.snd + (1 : Int))) fun (x256 : Int) => rec252 (v255, x256))
  fun (j257 : Int → Option Int) =>
  Chk ((0 : Int) ≤ s253.snd ∧ s253.snd < (↑events0.length : Int))
  (Let (ix events0 s253.snd) fun (x258 : Event) =>
  Let (x258.Kind == k1) fun (x259 : Bool) =>
  if x259 = true then Let (IntKind.i64.wrap (s253.fst + (1 : Int))) fun (x260 : Int) => j257 x260 else j257 s253.fst)
  else some s253.fst)
  fuel ((0 : Int), (0 : Int))

noncomputable def caromref38_EqualKeys (a0 : (List PairKey)) (b1 : (List PairKey)) : Option Bool :=
  Let (↑a0.length : Int) fun (x261 : Int) =>
  Let (↑b1.length : Int) fun (x262 : Int) =>
  Let (x261 != x262) fun (x263 : Bool) =>
  if x263 = true then some false
  else
  LOOP
  (fun (rec264 : Int → Option Bool) (s265 : Int) =>
  Let (↑a0.length : Int) fun (x266 : Int) =>
  Let (decide (s265 < x266)) fun (x267 : Bool) =>
  Let (↑b1.length : Int) fun (x268 : Int) =>
  Let (decide (s265 < x268)) fun (x269 : Bool) =>
  Let (bif x267 then x269 else false) fun (x270 : Bool) =>
  if x270 = true then
  Chk ((0 : Int) ≤ s265 ∧ s265 < (↑a0.length : Int))
  (Let (ix a0 s265) fun (x271 : PairKey) =>
  Chk ((0 : Int) ≤ s265 ∧ s265 < (↑b1.length : Int))
  (Let (ix b1 s265) fun (x272 : PairKey) =>
  Let
  (!(decide (x271.BodyA = x272.BodyA) &&
  (decide (x271.FixtureA = x272.FixtureA) &&
  (decide (x271.BodyB = x272.BodyB) && decide (x271.FixtureB = x272.FixtureB)))))
  fun (x273 : Bool) =>
  if x273 = true then some false else Let (IntKind.i64.wrap (s265 + (1 : Int))) fun (x274 : Int) => rec264 x274))
  else some true)
  fuel (0 : Int)

noncomputable def event_concerns (e0 : Event) (id1 : Int) : Option Bool :=
  Rx.Bind (event_isPairEvent e0.Kind) fun (r275 : Bool) =>
  if r275 = true then
  Let (e0.Key.BodyA == id1) fun (x276 : Bool) =>
  Let (e0.Key.BodyB == id1) fun (x277 : Bool) => Let (bif x276 then true else x277) fun (x278 : Bool) => some x278
  else
  Let (decide (e0.Kind ≥ (6 : Int))) fun (x279 : Bool) =>
  Let (decide (e0.Kind ≤ (8 : Int))) fun (x280 : Bool) =>
  Let (bif x279 then x280 else false) fun (x281 : Bool) =>
  Let (e0.Key.BodyA == id1) fun (x282 : Bool) => Let (bif x281 then x282 else false) fun (x283 : Bool) => some x283

noncomputable def event_ForBody (events0 : (List Event)) (id1 : Int) : Option (List Event) :=
  Let (↑events0.length : Int) fun (x284 : Int) =>
  LOOP
  (fun (rec285 : List Event × Int → Option (List Event)) (s286 : List Event × Int) =>
  Let (decide (s286.snd < x284)) fun (x287 : Bool) =>
  if x287 = true then
  Join (fun (v288 : List Event) => Let (IntKind.i64.wrap (s286.snd + (1 : Int))) fun (x289 : Int) => rec285 (v288, x289))
  fun (j290 : List Event → Option (List Event)) =>
  Chk ((0 : Int) ≤ s286.snd ∧ s286.snd < (↑events0.length : Int))
  (Let (ix events0 s286.snd) fun (x291 : Event) =>
  Rx.Bind (event_concerns x291 id1) fun (r292 : Bool) =>
  if r292 = true then
  Chk ((List.length s286.fst + [x291].length) * (40 : Nat) ≤ (140737488355328 : Nat))
  (Let (s286.fst ++ [x291]) fun (x293 : List Event) => j290 x293)
  else j290 s286.fst)
  else some s286.fst)
  fuel ([], (0 : Int))

noncomputable def caromlaw44_example  : Option Bool :=
  Rx.Bind
  (event_Parse
  #[(98 : UInt8), (117 : UInt8), (108 : UInt8), (108 : UInt8), (101 : UInt8), (116 : UInt8), (45 : UInt8), (115 : UInt8),
  (116 : UInt8), (111 : UInt8), (112 : UInt8), (32 : UInt8), (55 : UInt8)].toList)
  fun (r294 : Event × Int) =>
  Rx.Bind
  (event_ActiveContacts []
  [{ Kind := (8 : Int), Key := { BodyA := (7 : Int), FixtureA := (0 : Int), BodyB := (0 : Int), FixtureB := (0 : Int) : PairKey } : Event },
  { Kind := (1 : Int), Key := { BodyA := (1 : Int), FixtureA := (0 : Int), BodyB := (2 : Int), FixtureB := (0 : Int) : PairKey } : Event }])
  fun (r295 : List PairKey × Int) =>
  Rx.Bind
  (event_Format
  { Kind := (1 : Int), Key := { BodyA := (1 : Int), FixtureA := (0 : Int), BodyB := (2 : Int), FixtureB := (0 : Int) : PairKey } : Event })
  fun (r296 : List UInt8) =>
  Let
  (r296 ==
  #[(99 : UInt8), (111 : UInt8), (110 : UInt8), (116 : UInt8), (97 : UInt8), (99 : UInt8), (116 : UInt8), (45 : UInt8),
  (98 : UInt8), (101 : UInt8), (103 : UInt8), (105 : UInt8), (110 : UInt8), (32 : UInt8), (49 : UInt8), (32 : UInt8),
  (48 : UInt8), (32 : UInt8), (50 : UInt8), (32 : UInt8), (48 : UInt8)].toList)
  fun (x297 : Bool) =>
  Rx.Bind
  (if (x297 == true) = true then
  event_Format
  { Kind := (8 : Int), Key := { BodyA := (7 : Int), FixtureA := (0 : Int), BodyB := (0 : Int), FixtureB := (0 : Int) : PairKey } : Event }
  else some default)
  fun (r298 : List UInt8) =>
  Let
  (r298 ==
  #[(98 : UInt8), (117 : UInt8), (108 : UInt8), (108 : UInt8), (101 : UInt8), (116 : UInt8), (45 : UInt8), (115 : UInt8),
  (116 : UInt8), (111 : UInt8), (112 : UInt8), (32 : UInt8), (55 : UInt8)].toList)
  fun (x299 : Bool) =>
  Let (bif x297 then x299 else false) fun (x300 : Bool) =>
  Let
  (decide (r294.fst.Kind = (8 : Int)) &&
  (decide (r294.fst.Key.BodyA = (7 : Int)) &&
  (decide (r294.fst.Key.FixtureA = (0 : Int)) &&
  (decide (r294.fst.Key.BodyB = (0 : Int)) && decide (r294.fst.Key.FixtureB = (0 : Int))))))
  fun (x301 : Bool) =>
  Let (bif x300 then x301 else false) fun (x302 : Bool) =>
  Let (r294.snd == (0 : Int)) fun (x303 : Bool) =>
  Let (bif x302 then x303 else false) fun (x304 : Bool) =>
  Rx.Bind
  (if (x304 == true) = true then
  event_Format
  { Kind := (0 : Int), Key := { BodyA := (0 : Int), FixtureA := (0 : Int), BodyB := (0 : Int), FixtureB := (0 : Int) : PairKey } : Event }
  else some default)
  fun (r305 : List UInt8) =>
  Let (r305 == #[].toList) fun (x306 : Bool) =>
  Let (bif x304 then x306 else false) fun (x307 : Bool) =>
  Rx.Bind
  (if (x307 == true) = true then
  event_Less
  { Kind := (1 : Int), Key := { BodyA := (1 : Int), FixtureA := (0 : Int), BodyB := (2 : Int), FixtureB := (0 : Int) : PairKey } : Event }
  { Kind := (8 : Int), Key := { BodyA := (7 : Int), FixtureA := (0 : Int), BodyB := (0 : Int), FixtureB := (0 : Int) : PairKey } : Event }
  else some default)
  fun (r308 : Bool) =>
  Let (bif x307 then r308 else false) fun (x309 : Bool) =>
  Rx.Bind
  (if (x309 == true) = true then
  event_Count
  [{ Kind := (1 : Int), Key := { BodyA := (1 : Int), FixtureA := (0 : Int), BodyB := (2 : Int), FixtureB := (0 : Int) : PairKey } : Event },
  { Kind := (8 : Int), Key := { BodyA := (7 : Int), FixtureA := (0 : Int), BodyB := (0 : Int), FixtureB := (0 : Int) : PairKey } : Event },
  { Kind := (1 : Int), Key := { BodyA := (1 : Int), FixtureA := (0 : Int), BodyB := (2 : Int), FixtureB := (0 : Int) : PairKey } : Event }]
  (1 : Int)
  else some default)
  fun (r310 : Int) =>
  Let (r310 == (2 : Int)) fun (x311 : Bool) =>
  Let (bif x309 then x311 else false) fun (x312 : Bool) =>
  Rx.Bind
  (if (x312 == true) = true then
  caromref38_EqualKeys r295.fst
  [{ BodyA := (1 : Int), FixtureA := (0 : Int), BodyB := (2 : Int), FixtureB := (0 : Int) : PairKey }]
  else some default)
  fun (r313 : Bool) =>
  Let (bif x312 then r313 else false) fun (x314 : Bool) =>
  Let (r295.snd == (0 : Int)) fun (x315 : Bool) =>
  Let (bif x314 then x315 else false) fun (x316 : Bool) =>
  Rx.Bind
  (if (x316 == true) = true then
  event_ForBody
  [{ Kind := (1 : Int), Key := { BodyA := (1 : Int), FixtureA := (0 : Int), BodyB := (2 : Int), FixtureB := (0 : Int) : PairKey } : Event },
  { Kind := (8 : Int), Key := { BodyA := (7 : Int), FixtureA := (0 : Int), BodyB := (0 : Int), FixtureB := (0 : Int) : PairKey } : Event }]
  (2 : Int)
  else some default)
  fun (r317 : List Event) =>
  Let (↑r317.length : Int) fun (x318 : Int) =>
  Let (x318 == (1 : Int)) fun (x319 : Bool) => Let (bif x316 then x319 else false) fun (x320 : Bool) => some x320

noncomputable def slices_Clone_47 (s0 : (List Event)) : Option (List Event) :=
  Rx.Alike (s0 = []) (some []) (Chk (s0.length * (40 : Nat) ≤ (140737488355328 : Nat)) (some s0))

noncomputable def event_Sort (events0 : (List Event)) : Option (List Event) :=
  if events0.length ≤ 40 then some (events0.mergeSort (fun x y => !decide ((event_compare y x).getD 0 < 0))) else none

noncomputable def caromref38_EqualEvents (a0 : (List Event)) (b1 : (List Event)) : Option Bool :=
  Let (↑a0.length : Int) fun (x672 : Int) =>
  Let (↑b1.length : Int) fun (x673 : Int) =>
  Let (x672 != x673) fun (x674 : Bool) =>
  if x674 = true then some false
  else
  LOOP
  (fun (rec675 : Int → Option Bool) (s676 : Int) =>
  Let (↑a0.length : Int) fun (x677 : Int) =>
  Let (decide (s676 < x677)) fun (x678 : Bool) =>
  Let (↑b1.length : Int) fun (x679 : Int) =>
  Let (decide (s676 < x679)) fun (x680 : Bool) =>
  Let (bif x678 then x680 else false) fun (x681 : Bool) =>
  if x681 = true then
  Chk ((0 : Int) ≤ s676 ∧ s676 < (↑a0.length : Int))
  (Let (ix a0 s676) fun (x682 : Event) =>
  Chk ((0 : Int) ≤ s676 ∧ s676 < (↑b1.length : Int))
  (Let (ix b1 s676) fun (x683 : Event) =>
  Let
  (!(decide (x682.Kind = x683.Kind) &&
  (decide (x682.Key.BodyA = x683.Key.BodyA) &&
  (decide (x682.Key.FixtureA = x683.Key.FixtureA) &&
  (decide (x682.Key.BodyB = x683.Key.BodyB) && decide (x682.Key.FixtureB = x683.Key.FixtureB))))))
  fun (x684 : Bool) =>
  if x684 = true then some false else Let (IntKind.i64.wrap (s676 + (1 : Int))) fun (x685 : Int) => rec675 x685))
  else some true)
  fuel (0 : Int)

noncomputable def caromlaw44_EventSort (events0 : (List Event)) (n1 : UInt8) : Option Bool :=
  Let (↑events0.length : Int) fun (x738 : Int) =>
  Let (decide (x738 > (40 : Int))) fun (x739 : Bool) =>
  if x739 = true then Rx.Bind caromlaw44_example fun (r740 : Bool) => some r740
  else
  Rx.Bind (event_Sort events0) fun (r741 : List Event) =>
  Let (↑r741.length : Int) fun (x742 : Int) =>
  Let (↑events0.length : Int) fun (x743 : Int) =>
  Let (x742 != x743) fun (x744 : Bool) =>
  if x744 = true then some false
  else
  LOOP
  (fun (rec745 : Int → Option Bool) (s746 : Int) =>
  Let (IntKind.i64.wrap (s746 + (1 : Int))) fun (x747 : Int) =>
  Let (↑r741.length : Int) fun (x748 : Int) =>
  Let (decide (x747 < x748)) fun (x749 : Bool) =>
  if x749 = true then
  Let (IntKind.i64.wrap (s746 + (1 : Int))) fun (x750 : Int) =>
  Chk ((0 : Int) ≤ x750 ∧ x750 < (↑r741.length : Int))
  (Let (ix r741 x750) fun (x751 : Event) =>
  Chk ((0 : Int) ≤ s746 ∧ s746 < (↑r741.length : Int))
  (Let (ix r741 s746) fun (x752 : Event) =>
  Rx.Bind (event_Less x751 x752) fun (r753 : Bool) =>
  if r753 = true then some false else Let (IntKind.i64.wrap (s746 + (1 : Int))) fun (x754 : Int) => rec745 x754))
  else
  Join
  (fun (v755 : Int) =>
  Chk ((0 : Int) ≤ v755 ∧ v755 ≤ (↑events0.length : Int))
  (Let (List.drop v755.toNat events0) fun (x756 : List Event) =>
  Chk (x756.length * (40 : Nat) ≤ (140737488355328 : Nat))
  (Chk ((0 : Int) ≤ v755 ∧ v755 ≤ (↑events0.length : Int))
  (Let (List.take v755.toNat events0) fun (x757 : List Event) =>
  Chk ((x756.length + x757.length) * (40 : Nat) ≤ (140737488355328 : Nat))
  (Let (x756 ++ x757) fun (x758 : List Event) =>
  LOOP
  (fun (rec759 : Int → Option Bool) (s760 : Int) =>
  Let (decide (s760 ≤ (8 : Int))) fun (x761 : Bool) =>
  if x761 = true then
  Rx.Bind (event_Count r741 s760) fun (r762 : Int) =>
  Rx.Bind (event_Count events0 s760) fun (r763 : Int) =>
  Let (r762 != r763) fun (x764 : Bool) =>
  if x764 = true then some false else Let (IntKind.i64.wrap (s760 + (1 : Int))) fun (x765 : Int) => rec759 x765
  else
  Rx.Bind (event_Sort x758) fun (r766 : List Event) =>
  Rx.Bind (caromref38_EqualEvents r766 r741) fun (r767 : Bool) =>
  Rx.Bind (if (r767 == true) = true then event_Sort r741 else some default) fun (r768 : List Event) =>
  Rx.Bind (if (r767 == true) = true then caromref38_EqualEvents r768 r741 else some default) fun (r769 : Bool) =>
  Let (bif r767 then r769 else false) fun (x770 : Bool) =>
  Rx.Bind (if (x770 == true) = true then caromlaw44_example else some default) fun (r771 : Bool) =>
  Let (bif x770 then r771 else false) fun (x772 : Bool) => some x772)
  fuel (1 : Int))))))
  fun (j773 : Int → Option Bool) =>
  Let (↑events0.length : Int) fun (x774 : Int) =>
  Let (decide (x774 > (0 : Int))) fun (x775 : Bool) =>
  if x775 = true then
  Let (↑n1.toNat : Int) fun (x776 : Int) =>
  Let (↑events0.length : Int) fun (x777 : Int) =>
  Chk (x777 ≠ (0 : Int)) (Let (x776.tmod x777) fun (x778 : Int) => j773 x778)
  else j773 (0 : Int))
  fuel (0 : Int)

end GoForm
