/- The plain forms of two printers are the same functions; the law of strings. No conditions. -/
import Derived.Test.YtnjcfajaigokdaaF07B
set_option linter.all false
open Go Go.Rx
namespace GoForm
theorem br_ref_ReadInt (b : List UInt8) (a : Int) : caromref07_ReadInt b a = GoOld.ref07_ReadInt b a := by
  unfold caromref07_ReadInt GoOld.ref07_ReadInt
  show (if (bif decide (a < 0) then true else decide (a > (b.length : Int))) = true then _ else (if (a == (b.length : Int)) = true then _ else Chk (0 ≤ a ∧ a < (b.length : Int)) _)) = (if (bif decide (a < 0) then true else decide ((b.length : Int) < a)) = true then _ else (if (a == (b.length : Int)) = true then _ else Chk (0 ≤ a ∧ a < (b.length : Int)) (if decide (16 ≤ ((ix b a).toNat : Int)) = true then _ else _)))
  split
  · rfl
  split
  · rfl
  refine congrArg (Chk _) ?_
  rw [Let_eq, Let_eq, Let_eq]
  refine (Join_br (K' := GoOld.ref07_ReadInt_j3 b a (decide (16 ≤ ((ix b a).toNat : Int)))) ?_).trans ?_
  · intro v
    unfold GoOld.ref07_ReadInt_j3
    show (if (bif bif decide (v > 8) then true else decide (v < 0) then true else bif decide (((ix b a).toNat : Int) ≥ 16) then v == 0 else false) = true then _ else (if decide (w64 (w64 ((b.length : Int) - a) - 1) < v) = true then _ else LOOP _ _ _)) = (if (bif bif decide (8 < v) then true else decide (v < 0) then true else bif decide (16 ≤ ((ix b a).toNat : Int)) then v == 0 else false) = true then _ else (if decide (w64 (w64 ((b.length : Int) - a) - 1) < v) = true then _ else _))
    split
    · rfl
    split
    · rfl
    refine LOOP_br (fun k s => GoOld.ref07_ReadInt_l1 b a v (GoOld.ref07_ReadInt_j2 b a (decide (16 ≤ ((ix b a).toNat : Int))) v) k s.1 s.2) (fun _ => rfl) ?_ fuel (0, 1)
    intro k q ih s
    show _ = GoOld.ref07_ReadInt_l1 b a v (GoOld.ref07_ReadInt_j2 b a (decide (16 ≤ ((ix b a).toNat : Int))) v) (k + 1) s.1 s.2
    have h0 : toByte 0 = 0 := by decide
    unfold GoOld.ref07_ReadInt_l1 GoOld.ref07_ReadInt_j2
    simp only [ih, Let_eq, h0, gt_iff_lt, ge_iff_le]
    first | done | rfl
  · rfl
theorem br_readLength (b : List UInt8) (a l : Int) : codec_readLength b a l = GoOld.codec_readLength b a l := by
  unfold codec_readLength GoOld.codec_readLength
  rw [br_ReadInt]
  refine congrArg (Bind _) (funext fun r => ?_)
  simp only [Let_eq, gt_iff_lt]
  try rfl
theorem br_length (b : List UInt8) (a l : Int) : caromref07_length b a l = GoOld.ref07_length b a l := by
  unfold caromref07_length GoOld.ref07_length
  rw [br_ref_ReadInt]
  refine congrArg (Bind _) (funext fun r => ?_)
  simp only [Let_eq, gt_iff_lt]
  try rfl
theorem br_ReadString (b : List UInt8) (a l : Int) : codec_ReadString b a l = GoOld.codec_ReadString b a l := by
  unfold codec_ReadString GoOld.codec_ReadString
  rw [br_readLength]
  refine congrArg (Bind _) (funext fun r => ?_)
  simp only [Let_eq, gt_iff_lt]
  try rfl
theorem br_ref_ReadString (b : List UInt8) (a l : Int) : caromref07_ReadString b a l = GoOld.ref07_ReadString b a l := by
  unfold caromref07_ReadString GoOld.ref07_ReadString
  rw [br_length]
  refine congrArg (Bind _) (funext fun r => ?_)
  simp only [Let_eq, gt_iff_lt]
  try rfl
open GoOld in
theorem ref_ReadString_eq (b : List UInt8) (at_ limit : Int) (hb : b.length ≤ 1000000) : GoOld.ref07_ReadString b at_ limit = some (rdStr b at_ limit) := by
  unfold GoOld.ref07_ReadString rdStr
  rw [ref_length_eq _ _ _ (by omega), Bind_some]
  simp only [Let_eq, bne_iff_ne, decide_eq_true_eq]
  by_cases h : (rdLen b at_ limit).2.2 ≠ 0
  · rw [if_pos h, if_pos h]
  rw [if_neg h, if_neg h]
  obtain ⟨h1, h2, h3, h4, h5, ⟨h6, h6'⟩, -⟩ := rdLen_in (Decidable.not_not.1 h)
  rw [w64_of ((b.length : Int) - _) (by omega)]
  by_cases h7 : (b.length : Int) - (rdLen b at_ limit).2.1 < (rdLen b at_ limit).1
  · rw [if_pos h7, if_pos h7]
  · rw [if_neg h7, if_neg h7, w64_of _ (by omega), Chk_of (by omega)]
    have : ((rdLen b at_ limit).2.1 + (rdLen b at_ limit).1).toNat - (rdLen b at_ limit).2.1.toNat = (rdLen b at_ limit).1.toNat := by omega
    rw [this]
open GoOld in
theorem ref_AppendString_eq (b t : List UInt8) (hb : b.length ≤ 1000000) (ht : t.length ≤ 1000000) : caromref07_AppendString b t = some (b ++ encInt t.length ++ t) := by
  have h9 := encInt_le (t.length : Int) ⟨by omega, by omega⟩
  unfold caromref07_AppendString
  rw [Let_eq, br_ref_AppendInt, ref_AppendInt_eq _ _ ⟨by omega, by omega⟩ (by omega), Bind_some, Chk_of (by simp only [List.length_append]; omega)]; rfl
open GoOld in
/-- What was appended is read back. -/
theorem rdStr_enc (b t : List UInt8) (most : Int) (hb : b.length ≤ 1000000) (ht : t.length ≤ 1000000) :
    rdStr (b ++ encInt t.length ++ t) b.length most = if max most 0 < (t.length : Int) then ([], 0, 5) else (t, ((b ++ encInt t.length ++ t).length : Int), 0) := by
  have h1 := rdInt_enc b t (t.length : Int) ⟨by omega, by omega⟩
  have hl : rdLen (b ++ encInt t.length ++ t) b.length most = if max most 0 < (t.length : Int) then (0, 0, 5) else ((t.length : Int), (b.length : Int) + ((encInt (t.length : Int)).length : Int), 0) := by
    unfold rdLen
    rw [h1]
    simp only [ne_eq, not_true_eq_false, if_false]
    rw [if_neg (by omega)]
  unfold rdStr
  rw [hl]
  by_cases h : max most 0 < (t.length : Int)
  · rw [if_pos h, if_pos h]; rfl
  · rw [if_neg h, if_neg h]
    simp only [ne_eq, not_true_eq_false, if_false]
    rw [if_neg (by simp only [List.length_append]; omega)]
    have e1 : ((b.length : Int) + ((encInt (t.length : Int)).length : Int)).toNat = (b ++ encInt (t.length : Int)).length := by simp only [List.length_append]; omega
    have e2 : ((t.length : Int)).toNat = t.length := by omega
    rw [e1, e2, List.drop_left, List.take_length]
    simp only [List.length_append]
    congr 2
theorem example_true : caromlaw07_example = some true := by kernel_rfl
theorem caromlaw07_CodecStrings_true (a0 : List UInt8) (a1 : List UInt8) (a2 : Int) (a3 : Int) (_w0 : ((∀ a ∈ a0, True) ∧ (a0).length ≤ 9223372036854775807)) (_w1 : (a1).length ≤ 9223372036854775807) (_w2 : (IntKind.i64.min ≤ a2 ∧ a2 ≤ IntKind.i64.max)) (_w3 : (IntKind.i64.min ≤ a3 ∧ a3 ≤ IntKind.i64.max)) : caromlaw07_CodecStrings a0 a1 a2 a3 = some true := by
  unfold caromlaw07_CodecStrings
  rw [br_small, Bind_some, Let_eq]
  by_cases hs : (!GoOld.law07_small a0 a1 []) = true
  · rw [if_pos hs, example_true]; rfl
  rw [if_neg hs]
  have hs : GoOld.law07_small a0 a1 [] = true := by simpa using hs
  rw [GoOld.small_eq] at hs
  simp only [Bool.and_eq_true, decide_eq_true_eq] at hs
  obtain ⟨⟨h1, h2⟩, -⟩ := hs
  have h9 := GoOld.encInt_le (a1.length : Int) ⟨by omega, by omega⟩
  have hA : codec_AppendString a0 a1 = some (a0 ++ GoOld.encInt a1.length ++ a1) := by rw [br_AppendString, GoOld.AppendString_eq _ _ (by omega) (by omega)]
  have hR := ref_AppendString_eq a0 a1 (by omega) (by omega)
  have hS : codec_ReadString (a0 ++ GoOld.encInt a1.length ++ a1) a0.length a3 = some (GoOld.rdStr (a0 ++ GoOld.encInt a1.length ++ a1) a0.length a3) := by
    rw [br_ReadString, GoOld.ReadString_eq _ _ _ (by simp only [List.length_append]; omega)]
  have hT : codec_ReadString a0 a2 a3 = some (GoOld.rdStr a0 a2 a3) := by rw [br_ReadString, GoOld.ReadString_eq _ _ _ (by omega)]
  have hU : caromref07_ReadString a0 a2 a3 = some (GoOld.rdStr a0 a2 a3) := by rw [br_ref_ReadString, ref_ReadString_eq _ _ _ (by omega)]
  rw [hA, Bind_some]
  simp only [Let_eq]
  rw [hS, Bind_some, Join_eq]
  rw [hT, hU, hR, example_true, rdStr_enc a0 a1 a3 (by omega) (by omega)]
  simp only [Bind_some]
  by_cases h : max a3 0 < (a1.length : Int)
  · simp [h]
  · simp [h]
end GoForm
