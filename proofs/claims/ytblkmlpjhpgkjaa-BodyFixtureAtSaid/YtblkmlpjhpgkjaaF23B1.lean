/- The plain law of angles and transforms. No conditions. -/
import Derived.Test.YtblkmlpjhpgkjaaF23A1
set_option linter.all false
open Go Go.Cx
namespace GoForm
def clampS (x lo hi : Int) : Int := if hi < lo ∨ x < lo then lo else if hi < x then hi else x
theorem fixed_Clamp_eq (x lo hi : Int) : fixed_Clamp x lo hi = clampS x lo hi := by
  unfold fixed_Clamp clampS; simp only [Let_eq, cond_or, Bool.or_eq_true, decide_eq_true_eq]
theorem clampS_bd {x lo hi : Int} (h : lo ≤ hi) : lo ≤ clampS x lo hi ∧ clampS x lo hi ≤ hi := by unfold clampS; split <;> (try split) <;> omega
theorem clampS_id {x lo hi : Int} (h : lo ≤ x ∧ x ≤ hi) : clampS x lo hi = x := by unfold clampS; split <;> (try split) <;> omega
theorem mulS_bd (a b : Int) : -536870911 ≤ mulS a b ∧ mulS a b ≤ 536870911 := sat_bd _
theorem subS_bd (a b : Int) : -536870911 ≤ subS a b ∧ subS a b ≤ 536870911 := sat_bd _
theorem addS_bd (a b : Int) : -536870911 ≤ addS a b ∧ addS a b ≤ 536870911 := sat_bd _
theorem prodS_bd (a : Int) : -536870911 ≤ prodS a ∧ prodS a ≤ 536870911 := sat_bd _
theorem divS_bd (a b : Int) : -536870911 ≤ divS a b ∧ divS a b ≤ 536870911 := by
  unfold divS
  split
  · split
    · omega
    · split <;> omega
  · split <;> exact sat_bd _
theorem fixed_Div_eq (a b : Int) : fixed_Div a b = some (divS a b) := by
  unfold fixed_Div divS
  have ha := sat_bd a; have hb := sat_bd b
  simp only [Let_eq, fixed_Saturate_eq, beq_iff_eq, decide_eq_true_eq, fixed_Clamp_eq, fixed_RoundDiv_eq, Bind_some]
  rw [w64_of (sat a * 65536) (by omega), w64_of (0 - sat a * 65536) (by omega), w64_of (0 - sat b) (by omega)]
  by_cases h : sat b = 0
  · rw [if_pos h, if_pos h]
    congr 1
    by_cases h1 : 0 < sat a
    · rw [if_pos h1]; unfold clampS; rw [if_neg (by omega), if_pos (by omega)]; rfl
    · rw [if_neg h1]
      by_cases h2 : sat a < 0
      · rw [if_pos h2]; unfold clampS; rw [if_pos (by omega)]; rfl
      · rw [if_neg h2]; unfold clampS; rw [if_neg (by omega), if_neg (by omega), show sat a = 0 by omega]; rfl
  rw [if_neg h, if_neg h]
  have e1 : 0 - sat a * 65536 = -(sat a * 65536) := by omega
  have e2 : 0 - sat b = - sat b := by omega
  rw [e1, e2]
  split <;> rfl
def normA (a : Int) : Int :=
  if 205888 ≤ Int.tmod a 411776 then Int.tmod a 411776 - 411776 else if Int.tmod a 411776 < -205888 then Int.tmod a 411776 + 411776 else Int.tmod a 411776
theorem normA_bd (a : Int) : -205888 ≤ normA a ∧ normA a < 205888 := by
  have := tdm a 411776 (by omega)
  unfold normA
  split
  · omega
  · split <;> omega
theorem normA_id {a : Int} (h : -205888 ≤ a ∧ a < 205888) : normA a = a := by
  have := tdm a 411776 (by omega)
  have e : Int.tmod a 411776 = a := by
    by_cases h0 : 0 ≤ a
    · have := this.2.2.2.1 h0; omega
    · have := this.2.2.2.2 (by omega); omega
  unfold normA
  rw [e, if_neg (by omega), if_neg (by omega)]
theorem angle_Normalize_eq (a : Int) : angle_Normalize a = normA a := by
  have := tdm a 411776 (by omega)
  unfold angle_Normalize normA
  simp only [Let_eq, decide_eq_true_eq]
  rw [w64_of _ (by omega), w64_of _ (by omega)]
def absS (a : Int) : Int := if a < 0 then -a else a
theorem angle_abs_eq (a : Int) (h : -9223372036854775808 < a ∧ a ≤ 9223372036854775807) : angle_abs a = absS a := by
  unfold angle_abs absS
  simp only [Let_eq, decide_eq_true_eq]
  rw [w64_of _ (by omega)]
  split <;> omega
def sinQ (x : Int) : Int :=
  mulS (divS x 102944) (subS 102873 (mulS (mulS (divS x 102944) (divS x 102944)) (subS 41906 (mulS (mulS (divS x 102944) (divS x 102944)) 4569))))
def sinA (a : Int) : Int :=
  let x := absS (normA a)
  let q := if 102944 < x then 205888 - x else x
  if normA a < 0 then -(sinQ q) else sinQ q
theorem sinA_bd (a : Int) : -536870911 ≤ sinA a ∧ sinA a ≤ 536870911 := by
  unfold sinA
  have := fun q => mulS_bd (divS q 102944) (subS 102873 (mulS (mulS (divS q 102944) (divS q 102944)) (subS 41906 (mulS (mulS (divS q 102944) (divS q 102944)) 4569))))
  have h : ∀ q, -536870911 ≤ sinQ q ∧ sinQ q ≤ 536870911 := this
  have h2 := h (if 102944 < absS (normA a) then 205888 - absS (normA a) else absS (normA a))
  simp only
  split <;> omega
theorem angle_Sin_eq (a : Int) : angle_Sin a = some (sinA a) := by
  have hb := normA_bd a
  have ha : 0 ≤ absS (normA a) ∧ absS (normA a) ≤ 205888 := by unfold absS; split <;> omega
  have j : ∀ q, angle_Sin_j1 (normA a) q = some (if normA a < 0 then -(sinQ q) else sinQ q) := by
    intro q
    unfold angle_Sin_j1
    simp only [fixed_Div_eq, fixed_Mul_eq, fixed_Sub_eq, Bind_some, Let_eq, decide_eq_true_eq]
    rw [show mulS (divS q 102944) (subS 102873 (mulS (mulS (divS q 102944) (divS q 102944)) (subS 41906 (mulS (mulS (divS q 102944) (divS q 102944)) 4569)))) = sinQ q from rfl]
    have h : -536870911 ≤ sinQ q ∧ sinQ q ≤ 536870911 := mulS_bd _ _
    rw [w64_of _ (by omega), show 0 - sinQ q = -sinQ q by omega]
    split <;> rfl
  unfold angle_Sin sinA
  simp only [Let_eq, angle_Normalize_eq, angle_abs_eq _ (show -9223372036854775808 < normA a ∧ normA a ≤ 9223372036854775807 by omega), decide_eq_true_eq, j]
  rw [w64_of _ (by omega)]
  split <;> rfl
def cosA (a : Int) : Int := sinA (102944 - absS (normA a))
theorem angle_Cos_eq (a : Int) : angle_Cos a = some (cosA a) := by
  have hb := normA_bd a
  have ha : 0 ≤ absS (normA a) ∧ absS (normA a) ≤ 205888 := by unfold absS; split <;> omega
  unfold angle_Cos cosA
  simp only [Let_eq, angle_Normalize_eq, angle_abs_eq _ (show -9223372036854775808 < normA a ∧ normA a ≤ 9223372036854775807 by omega), angle_Sin_eq, Bind_some]
  rw [w64_of _ (by omega)]
def rotA (a : Int) : Rot := ⟨divS (cosA a) (isq (cosA a * cosA a + sinA a * sinA a)), divS (sinA a) (isq (cosA a * cosA a + sinA a * sinA a))⟩
theorem cosA_bd (a : Int) : -536870911 ≤ cosA a ∧ cosA a ≤ 536870911 := sinA_bd _
theorem angle_Rot_eq (a : Int) : angle_Rot a = some (rotA a) := by
  have h1 := mul_bd 536870911 536870911 (sinA_bd a) (sinA_bd a)
  have h2 := mul_bd 536870911 536870911 (cosA_bd a) (cosA_bd a)
  unfold angle_Rot rotA
  simp only [Let_eq, angle_Cos_eq, angle_Sin_eq, Bind_some, fixed_Isqrt_eq, fixed_Div_eq]
  rw [w64_of (cosA a * cosA a) (by omega), w64_of (sinA a * sinA a) (by omega), w64_of _ (by omega)]
def rotV (r : Rot) (v : Vec) : Vec := ⟨prodS (sat r.Cos * sat v.X - sat r.Sin * sat v.Y), prodS (sat r.Sin * sat v.X + sat r.Cos * sat v.Y)⟩
theorem vec2_Rotate_eq (r : Rot) (v : Vec) : vec2_Rotate r v = some (rotV r v) := by
  have h1 := sat_mul r.Cos v.X; have h2 := sat_mul r.Sin v.Y; have h3 := sat_mul r.Sin v.X; have h4 := sat_mul r.Cos v.Y
  unfold vec2_Rotate rotV
  simp only [Let_eq, fixed_Saturate_eq, vec2_saturate_eq, satV, vec2_product_eq, Bind_some]
  rw [w64_of (sat r.Cos * sat v.X) (by omega), w64_of (sat r.Sin * sat v.Y) (by omega), w64_of (sat r.Sin * sat v.X) (by omega), w64_of (sat r.Cos * sat v.Y) (by omega), w64_of (sat r.Cos * sat v.X - sat r.Sin * sat v.Y) (by omega), w64_of (sat r.Sin * sat v.X + sat r.Cos * sat v.Y) (by omega)]
def applyT (t : Transform) (v : Vec) : Vec := addV (rotV (rotA t.Angle) v) t.Position
theorem transform_Apply_eq (t : Transform) (v : Vec) : transform_Apply t v = some (applyT t v) := by
  unfold transform_Apply; simp only [angle_Rot_eq, vec2_Rotate_eq, Bind_some, Let_eq, vec2_Add_eq]; rfl
def turnA (a d : Int) : Int := normA (normA a + d)
def integT (t : Transform) (c v : Vec) (w dt : Int) : Transform :=
  ⟨subV (addV (applyT t c) (scaleV v dt)) (rotV (rotA (turnA t.Angle (mulS w dt))) c), turnA t.Angle (mulS w dt)⟩
end GoForm
