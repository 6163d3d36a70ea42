/- The plain forms of two printers are the same functions. No conditions. -/
import Derived.Test.YtnjcfajaigokdaaF07OR
import Derived.Test.YtnjcfajaigokdaaF07D
set_option linter.all false
open Go Go.Rx
namespace GoForm
theorem Join_eq {V ρ : Type} (K : V → Option ρ) (b : (V → Option ρ) → Option ρ) : Join K b = b K := rfl
theorem Join_br {V ρ : Type} {K K' : V → Option ρ} {b : (V → Option ρ) → Option ρ} (h : ∀ v, K v = K' v) : Join K b = b K' := by
  rw [funext h]; rfl
theorem LOOP_br {V X : Type} {step : (V → Option X) → V → Option X} (g : Nat → V → Option X) (h0 : ∀ v, g 0 v = none) (hs : ∀ n (r : V → Option X), (∀ w, r w = g n w) → ∀ v, step r v = g (n + 1) v) : ∀ n v, LOOP step n v = g n v
  | 0, v => (h0 v).symm
  | n + 1, v => hs n _ (LOOP_br g h0 hs n) v
theorem br_small (b s : List UInt8) (l : List Int) : caromlaw07_small b s l = some (GoOld.law07_small b s l) := by kernel_rfl
theorem br_readByte (b : List UInt8) (a : Int) : codec_readByte b a = GoOld.codec_readByte b a := by kernel_rfl
theorem br_magnitude (n : Int) : codec_magnitude n = some (GoOld.codec_magnitude n) := by
  unfold codec_magnitude GoOld.codec_magnitude
  simp only [Let_eq]
  split <;> rfl
theorem br_abs (n : Int) : caromref07_abs n = some (GoOld.ref07_abs n) := by
  unfold caromref07_abs GoOld.ref07_abs
  simp only [Let_eq]
  split <;> rfl
theorem br_extend (b m : List UInt8) : codec_extend b m = GoOld.codec_extend b m := by
  unfold codec_extend GoOld.codec_extend
  simp only [Let_eq]
  rw [Chk_of ⟨by omega, Int.le_refl _, trivial⟩]
  have : List.take (b.length : Int).toNat b = b := by simp
  rw [this]
theorem br_AppendInt (b : List UInt8) (n : Int) : codec_AppendInt b n = GoOld.codec_AppendInt b n := by
  unfold codec_AppendInt GoOld.codec_AppendInt
  rw [br_magnitude, Bind_some, Let_eq]
  refine LOOP_br (fun k v => GoOld.codec_AppendInt_l1 (GoOld.codec_AppendInt_j3 b n) k v.1 v.2) (fun _ => rfl) ?_ fuel ([], GoOld.codec_magnitude n)
  intro k r ih v
  show _ = GoOld.codec_AppendInt_l1 (GoOld.codec_AppendInt_j3 b n) (k + 1) v.1 v.2
  unfold GoOld.codec_AppendInt_l1
  simp only [Let_eq, ih, Join_eq, br_extend]
  rfl
theorem br_ref_AppendInt (b : List UInt8) (n : Int) : caromref07_AppendInt b n = GoOld.ref07_AppendInt b n := by
  unfold caromref07_AppendInt GoOld.ref07_AppendInt
  rw [br_abs, Bind_some, Let_eq]
  refine LOOP_br (fun k v => GoOld.ref07_AppendInt_l1 (GoOld.ref07_AppendInt_j3 b n) k v.1 v.2) (fun _ => rfl) ?_ fuel ([], GoOld.ref07_abs n)
  intro k r ih v
  show _ = GoOld.ref07_AppendInt_l1 (GoOld.ref07_AppendInt_j3 b n) (k + 1) v.1 v.2
  unfold GoOld.ref07_AppendInt_l1
  simp only [Let_eq, ih, Join_eq]
  unfold GoOld.ref07_AppendInt_j3 GoOld.ref07_AppendInt_j2
  simp only [Let_eq, List.nil_append, List.length_nil, Nat.zero_add]
  first | done | rfl | (split <;> first | rfl | (split <;> rfl))
theorem br_AppendString (b s : List UInt8) : codec_AppendString b s = GoOld.codec_AppendString b s := by
  unfold codec_AppendString GoOld.codec_AppendString
  simp only [Let_eq, br_AppendInt, br_extend]
  first | done | rfl | simp
theorem br_ReadInt (b : List UInt8) (a : Int) : codec_ReadInt b a = GoOld.codec_ReadInt b a := by
  unfold codec_ReadInt GoOld.codec_ReadInt
  rw [br_readByte]
  refine congrArg (Bind _) (funext fun r => ?_)
  show (if (r.snd != 0) = true then some ((0 : Int), (0 : Int), r.snd) else _) = (if (r.2 != 0) = true then _ else (if decide (16 < r.1) = true then _ else _))
  split
  · rfl
  rw [Let_eq, Let_eq]
  refine (Join_br (K' := GoOld.codec_ReadInt_j4 b a (decide (16 < r.1))) ?_).trans ?_
  · intro v
    unfold GoOld.codec_ReadInt_j4
    show (if decide (v > 8) = true then _ else Chk (0 ≤ w64 (a + 1) ∧ w64 (a + 1) ≤ (b.length : Int)) (if decide (((b.drop (w64 (a + 1)).toNat).length : Int) < v) = true then _ else Chk (0 ≤ v ∧ v ≤ ((b.drop (w64 (a + 1)).toNat).length : Int)) (LOOP _ _ _))) = (if decide (8 < v) = true then _ else Chk (0 ≤ w64 (a + 1) ∧ w64 (a + 1) ≤ (b.length : Int)) (if decide (((b.drop (w64 (a + 1)).toNat).length : Int) < v) = true then _ else Chk (0 ≤ v ∧ v ≤ ((b.drop (w64 (a + 1)).toNat).length : Int)) _))
    split
    · rfl
    refine congrArg (Chk _) ?_
    split
    · rfl
    refine congrArg (Chk _) ?_
    refine LOOP_br (fun k s => GoOld.codec_ReadInt_l1 (GoOld.codec_ReadInt_j3 a (decide (16 < r.1)) v (b.drop (w64 (a + 1)).toNat)) ((b.drop (w64 (a + 1)).toNat).take v.toNat) k s.1 s.2) (fun _ => rfl) ?_ fuel (0, 0)
    intro k q ih s
    show _ = GoOld.codec_ReadInt_l1 (GoOld.codec_ReadInt_j3 a (decide (16 < r.1)) v (b.drop (w64 (a + 1)).toNat)) ((b.drop (w64 (a + 1)).toNat).take v.toNat) (k + 1) s.1 s.2
    unfold GoOld.codec_ReadInt_l1
    generalize b.drop (w64 (a + 1)).toNat = y at ih ⊢
    show (if decide (s.2 < ((y.take v.toNat).length : Int)) = true then Chk (0 ≤ s.2 ∧ s.2 < ((y.take v.toNat).length : Int)) (q _) else _) = (if decide (s.2 < ((y.take v.toNat).length : Int)) = true then Chk (0 ≤ s.2 ∧ s.2 < ((y.take v.toNat).length : Int)) _ else _)
    split
    · rw [ih]; rfl
    · rw [Let_eq]
      refine (Join_br (K' := GoOld.codec_ReadInt_j2 a (decide (16 < r.1)) v y s.1) ?_).trans ?_
      · intro w
        unfold GoOld.codec_ReadInt_j2
        rw [Let_eq]
        show Chk ((decide (0 < v) == true) = true → (0 : Int) ≤ (0 : Int) ∧ (0 : Int) < (y.length : Int)) _ = Chk ((decide (0 < v) == true) = true → (0 : Int) ≤ (0 : Int) ∧ (0 : Int) < (y.length : Int)) _
        refine congrArg (Chk _) ?_
        have h0 : toByte 0 = 0 := by decide
        have h16 : toByte 16 = 16 := by decide
        simp only [Let_eq, br_magnitude, h0, h16, gt_iff_lt]
        cases hq : (bif decide (0 < v) then ix y 0 == 0 else false) with
        | true => simp
        | false => simp
      · rfl
  · rfl
end GoForm
