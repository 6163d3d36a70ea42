/- The plain law of angles and transforms: the reference computes the same. No conditions. -/
import Derived.Test.YtblkmlpjhpgkjaaGreatF23XA2
import Derived.Test.YtblkmlpjhpgkjaaGreatF23XB1
set_option linter.all false
open Go Go.Cx
namespace GoForm
theorem ref01_Div_eq (a b : Int) : ref01_Div a b = some (divS a b) := by
  unfold ref01_Div divS
  have ha := sat_bd a; have hb := sat_bd b
  simp only [Let_eq, ref01_Saturate_eq, beq_iff_eq, decide_eq_true_eq, ref01_RoundDiv_eq, Bind_some, cond_and, Bool.and_eq_true]
  rw [w64_of (0 - sat a) (by omega), w64_of ((0 - sat a) * 65536) (by omega), w64_of (0 - sat b) (by omega), w64_of (sat a * 65536) (by omega)]
  have e1 : (0 - sat a) * 65536 = -(sat a * 65536) := by omega
  have e2 : 0 - sat b = - sat b := by omega
  rw [e1, e2]
  by_cases h : sat b = 0
  · rw [if_pos h]
    by_cases h1 : 0 < sat a
    · rw [if_pos ⟨h, h1⟩, if_pos h1]
    · rw [if_neg (fun c => h1 c.2), if_neg h1]
      by_cases h2 : sat a < 0
      · rw [if_pos ⟨h, h2⟩, if_pos h2]
      · rw [if_neg (fun c => h2 c.2), if_neg h2, if_neg (by omega), h]; rfl
  · rw [if_neg (fun c => h c.1), if_neg (fun c => h c.1), if_neg h]
    split <;> rfl
theorem ref02_Normalize_eq (a : Int) : ref02_Normalize a = normA a := by
  have := tdm a 411776 (by omega)
  unfold ref02_Normalize normA ref02_Normalize_j1
  simp only [Let_eq, decide_eq_true_eq]
  rw [w64_of (Int.tmod a 411776 - 411776) (by omega), w64_of (Int.tmod a 411776 + 411776) (by omega)]
  split
  · rw [if_neg (by omega)]
  · rfl
theorem ref02_abs_eq (a : Int) (h : -9223372036854775808 < a ∧ a ≤ 9223372036854775807) : ref02_abs a = absS a := by
  unfold ref02_abs absS
  simp only [Let_eq, decide_eq_true_eq]
  rw [w64_of _ (by omega)]
  split <;> omega
theorem ref02_firstQuadrant_eq (q : Int) : ref02_firstQuadrant q = some (sinQ q) := by
  unfold ref02_firstQuadrant
  simp only [ref01_Div_eq, ref01_Mul_eq, ref01_Sub_eq, Bind_some, Let_eq]
  rfl
theorem ref02_Sin_eq (a : Int) : ref02_Sin a = some (sinA a) := by
  have hb := normA_bd a
  have ha : 0 ≤ absS (normA a) ∧ absS (normA a) ≤ 205888 := by unfold absS; split <;> omega
  have j : ∀ q, ref02_Sin_j1 (normA a) q = some (if normA a < 0 then -(sinQ q) else sinQ q) := by
    intro q
    unfold ref02_Sin_j1
    simp only [ref02_firstQuadrant_eq, Bind_some, Let_eq, decide_eq_true_eq]
    have h : -536870911 ≤ sinQ q ∧ sinQ q ≤ 536870911 := mulS_bd _ _
    rw [w64_of _ (by omega), show 0 - sinQ q = -sinQ q by omega]
    split <;> rfl
  unfold ref02_Sin sinA
  simp only [Let_eq, ref02_Normalize_eq, ref02_abs_eq _ (show -9223372036854775808 < normA a ∧ normA a ≤ 9223372036854775807 by omega), decide_eq_true_eq, j]
  rw [w64_of _ (by omega)]
  split <;> rfl
theorem ref02_Cos_eq (a : Int) : ref02_Cos a = some (cosA a) := by
  have hb := normA_bd a
  have ha : 0 ≤ absS (normA a) ∧ absS (normA a) ≤ 205888 := by unfold absS; split <;> omega
  unfold ref02_Cos cosA
  simp only [Let_eq, ref02_Normalize_eq, ref02_abs_eq _ (show -9223372036854775808 < normA a ∧ normA a ≤ 9223372036854775807 by omega), ref02_Sin_eq, Bind_some]
  rw [w64_of _ (by omega)]
theorem ref02_Rot_eq (a : Int) : ref02_Rot a = some (rotA a) := by
  have h1 := mul_bd 536870911 536870911 (sinA_bd a) (sinA_bd a)
  have h2 := mul_bd 536870911 536870911 (cosA_bd a) (cosA_bd a)
  unfold ref02_Rot rotA
  simp only [Let_eq, ref02_Cos_eq, ref02_Sin_eq, Bind_some, ref01_Isqrt_eq, ref01_Div_eq]
  rw [w64_of (cosA a * cosA a) (by omega), w64_of (sinA a * sinA a) (by omega), w64_of _ (by omega)]
theorem ref03_Rotate_eq (r : Rot) (v : Vec) : ref03_Rotate r v = some (rotV r v) := by
  have h1 := sat_mul r.Cos v.X; have h2 := sat_mul r.Sin v.Y; have h3 := sat_mul r.Sin v.X; have h4 := sat_mul r.Cos v.Y
  unfold ref03_Rotate rotV
  simp only [Let_eq, ref01_Saturate_eq, ref03_Saturated_eq, satV, ref01_RoundDiv_eq, Bind_some]
  rw [w64_of (sat r.Cos * sat v.X) (by omega), w64_of (sat r.Sin * sat v.Y) (by omega), w64_of (sat r.Sin * sat v.X) (by omega), w64_of (sat r.Cos * sat v.Y) (by omega), w64_of (sat r.Cos * sat v.X - sat r.Sin * sat v.Y) (by omega), w64_of (sat r.Sin * sat v.X + sat r.Cos * sat v.Y) (by omega)]
  rfl
theorem ref04_Apply_eq (t : Transform) (v : Vec) : ref04_Apply t v = some (applyT t v) := by
  unfold ref04_Apply; simp only [ref02_Rot_eq, ref03_Rotate_eq, Bind_some, Let_eq, ref03_Add_eq]; rfl
end GoForm
