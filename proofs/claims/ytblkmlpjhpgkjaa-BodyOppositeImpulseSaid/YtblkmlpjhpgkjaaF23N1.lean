/- The plain law of opposite impulses. No conditions. -/
import Derived.Test.YtblkmlpjhpgkjaaF23M1
set_option linter.all false
open Go Go.Cx
namespace GoForm
theorem sat_neg (x : Int) : sat (-x) = - sat x := by unfold sat; omega
theorem mulS_negl (a b : Int) : mulS (-a) b = - mulS a b := by
  unfold mulS; rw [sat_neg, Int.neg_mul, rdv_neg, sat_neg]
theorem prodS_neg (n : Int) : prodS (-n) = - prodS n := by unfold prodS; rw [rdv_neg, sat_neg]
theorem crossV_neg (a i : Vec) : crossV a ⟨-i.X, -i.Y⟩ = - crossV a i := by
  unfold crossV
  rw [← prodS_neg, sat_neg, sat_neg, Int.mul_neg, Int.mul_neg]; congr 1; omega
theorem clampS_in {x lo hi : Int} (h : lo < clampS x lo hi ∧ clampS x lo hi < hi) : clampS x lo hi = x := by
  unfold clampS at h ⊢
  by_cases c1 : hi < lo ∨ x < lo
  · rw [if_pos c1] at h; omega
  · rw [if_neg c1] at h ⊢
    by_cases c2 : hi < x
    · rw [if_pos c2] at h; omega
    · rw [if_neg c2]
/-- Forth and back, where neither end is clamped. -/
theorem back (v s lim : Int) (hl : 0 ≤ lim ∧ lim ≤ 16777216) (hs : -536870911 ≤ s ∧ s ≤ 536870911) (hv : -lim < v ∧ v < lim) (h : -lim < clampS (addS v s) (-lim) lim ∧ clampS (addS v s) (-lim) lim < lim) :
    clampS (addS (clampS (addS v s) (-lim) lim) (-s)) (-lim) lim = v := by
  have e := clampS_in h
  rw [e] at h ⊢
  have e2 : addS v s = v + s := by
    unfold addS at h ⊢
    rw [sat_id (x := v) (by omega), sat_id (x := s) (by omega)] at h ⊢
    unfold sat at h ⊢; omega
  rw [e2] at h ⊢
  have e3 : addS (v + s) (-s) = v := by
    unfold addS
    rw [sat_id (x := v + s) (by omega), sat_id (x := -s) (by omega), sat_id (by omega)]; omega
  rw [e3, clampS_id (by omega)]
def uncl (b : Body) : Prop := (-16777216 < b.Velocity.X ∧ b.Velocity.X < 16777216) ∧ (-16777216 < b.Velocity.Y ∧ b.Velocity.Y < 16777216) ∧ (-4194304 < b.AngularVelocity ∧ b.AngularVelocity < 4194304)
theorem unclamped_eq (b : Body) : law23_unclamped b = true ↔ uncl b := by
  unfold law23_unclamped uncl
  simp only [Let_eq, cond_and, Bool.and_eq_true, decide_eq_true_eq]; grind
theorem back_imp (b : Body) (p i : Vec) (hb : uncl b) (hx : uncl (impB b p i)) : (impB (impB b p i) p ⟨-i.X, -i.Y⟩).Velocity = b.Velocity ∧ (impB (impB b p i) p ⟨-i.X, -i.Y⟩).AngularVelocity = b.AngularVelocity := by
  by_cases k : b.Kind ≠ 3
  · rw [show impB b p i = b from if_pos k, show impB b p ⟨-i.X, -i.Y⟩ = b from if_pos k]; exact ⟨rfl, rfl⟩
  have e := fun (c : Body) (i : Vec) (h : ¬ c.Kind ≠ 3) => show impB c p i = awakeB { c with Velocity := addV c.Velocity (scaleV i (solverB c).InvMass), AngularVelocity := addS c.AngularVelocity (mulS (crossV (subV p (centerW c)) i) (solverB c).InvInertia) } from if_neg h
  have k2 : ¬ (impB b p i).Kind ≠ 3 := by rw [e b i k]; exact k
  have sm : (solverB (impB b p i)).InvMass = (solverB b).InvMass ∧ (solverB (impB b p i)).InvInertia = (solverB b).InvInertia := by rw [e b i k]; exact ⟨rfl, rfl⟩
  have sc : centerW (impB b p i) = centerW b := by rw [e b i k]; rfl
  rw [e (impB b p i) ⟨-i.X, -i.Y⟩ k2, sm.1, sm.2, sc, crossV_neg, mulS_negl]
  unfold uncl at hb hx
  rw [e b i k] at hx ⊢
  have bx := back b.Velocity.X (mulS i.X (solverB b).InvMass) 16777216 (by omega) (mulS_bd _ _) hb.1 hx.1
  have bY := back b.Velocity.Y (mulS i.Y (solverB b).InvMass) 16777216 (by omega) (mulS_bd _ _) hb.2.1 hx.2.1
  have bw := back b.AngularVelocity (mulS (crossV (subV p (centerW b)) i) (solverB b).InvInertia) 4194304 (by omega) (mulS_bd _ _) hb.2.2 hx.2.2
  rw [← mulS_negl] at bx bY
  refine ⟨?_, bw⟩
  show (⟨clampS (addS (clampS (addS b.Velocity.X (mulS i.X (solverB b).InvMass)) (-16777216) 16777216) (mulS (-i.X) (solverB b).InvMass)) (-16777216) 16777216, clampS (addS (clampS (addS b.Velocity.Y (mulS i.Y (solverB b).InvMass)) (-16777216) 16777216) (mulS (-i.Y) (solverB b).InvMass)) (-16777216) 16777216⟩ : Vec) = b.Velocity
  rw [bx, bY]
theorem back_ang (b : Body) (i : Int) (hb : uncl b) (hx : uncl (angB b i)) : (angB (angB b i) (-i)).Velocity = b.Velocity ∧ (angB (angB b i) (-i)).AngularVelocity = b.AngularVelocity := by
  by_cases k : b.Kind ≠ 3
  · rw [show angB b i = b from if_pos k, show angB b (-i) = b from if_pos k]; exact ⟨rfl, rfl⟩
  have e := fun (c : Body) (i : Int) (h : ¬ c.Kind ≠ 3) => show angB c i = awakeB { c with AngularVelocity := addS c.AngularVelocity (mulS i (solverB c).InvInertia) } from if_neg h
  have k2 : ¬ (angB b i).Kind ≠ 3 := by rw [e b i k]; exact k
  have sm : (solverB (angB b i)).InvInertia = (solverB b).InvInertia := by rw [e b i k]; rfl
  rw [e (angB b i) (-i) k2, sm, mulS_negl]
  unfold uncl at hb hx
  rw [e b i k] at hx ⊢
  have bw := back b.AngularVelocity (mulS i (solverB b).InvInertia) 4194304 (by omega) (mulS_bd _ _) hb.2.2 hx.2.2
  refine ⟨?_, bw⟩
  have c1 := clampS_id (x := b.Velocity.X) (lo := -16777216) (hi := 16777216) (by omega)
  have c2 := clampS_id (x := b.Velocity.Y) (lo := -16777216) (hi := 16777216) (by omega)
  show (⟨clampS (clampS b.Velocity.X (-16777216) 16777216) (-16777216) 16777216, clampS (clampS b.Velocity.Y (-16777216) 16777216) (-16777216) 16777216⟩ : Vec) = b.Velocity
  rw [c1, c2, c1, c2]
theorem law23_BodyOppositeImpulse_true (a0 : Body) (a1 : Vec) (a2 : Vec) (a3 : Int) (w0 : Body.Wf a0) (w1 : Vec.Wf a1) (w2 : Vec.Wf a2) (w3 : (IntKind.i64.min ≤ a3 ∧ a3 ≤ IntKind.i64.max)) : law23_BodyOppositeImpulse a0 a1 a2 a3 = some true := by
  unfold law23_BodyOppositeImpulse
  rw [ref23_Small_eq, Bind_some, example23]
  cases hs : smallB a0
  · rfl
  simp only [body_ApplyImpulse_eq, body_ApplyAngularImpulse_eq, body_Validate_eq, Bind_some, Let_eq, cond_or, Vec_beq_eq]
  by_cases hv : validB a0 = 0
  rotate_left
  · simp [hv]
  by_cases hu : uncl a0
  rotate_left
  · have : law23_unclamped a0 = false := by rw [← Bool.not_eq_true, unclamped_eq]; exact hu
    simp [hv, this]
  have hu' := (unclamped_eq a0).2 hu
  by_cases hr : (-536870911 ≤ a2.X ∧ a2.X ≤ 536870911) ∧ (-536870911 ≤ a2.Y ∧ a2.Y ≤ 536870911) ∧ (-536870911 ≤ a3 ∧ a3 ≤ 536870911)
  rotate_left
  · rw [if_pos (by rfl), Bind_some, if_pos]
    simp only [Bool.or_eq_true, decide_eq_true_eq]; omega
  rw [if_pos (by rfl), Bind_some, if_neg (by simp [hv, hu']; omega)]
  rw [w64_of (0 - a2.X) (by omega), w64_of (0 - a2.Y) (by omega), show 0 - a2.X = -a2.X by omega, show 0 - a2.Y = -a2.Y by omega]
  have j : law23_BodyOppositeImpulse_j1 a0 a3 (angB a0 a3) = some true := by
    unfold law23_BodyOppositeImpulse_j1
    simp only [body_ApplyAngularImpulse_eq, Let_eq, Bind_some, example23, cond_or, Vec_beq_eq]
    rw [w64_of (0 - a3) (by omega), show 0 - a3 = -a3 by omega]
    by_cases c : law23_unclamped (angB a0 a3) = true
    · rw [if_pos c]
      obtain ⟨b1, b2⟩ := back_ang a0 a3 hu ((unclamped_eq _).1 c)
      rw [if_neg (by simp [b1, b2])]
    · rw [if_neg c]
  by_cases c : law23_unclamped (impB a0 a1 a2) = true
  · rw [if_pos c]
    obtain ⟨b1, b2⟩ := back_imp a0 a1 a2 hu ((unclamped_eq _).1 c)
    rw [if_neg (by simp [b1, b2]), j]
  · rw [if_neg c, j]
end GoForm
