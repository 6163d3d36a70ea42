/- The plain law of bodies that are valid: the reference says the same. No conditions. -/
import Derived.Test.YtblkmlpjhpgkjaaGreatF23YE2
import Derived.Test.YtblkmlpjhpgkjaaGreatF23YH1
set_option linter.all false
open Go Go.Cx
namespace GoForm
theorem ref23_in_eq (x lo hi : Int) : ref23_in x lo hi = decide (Wn x lo hi) := by
  unfold ref23_in; rw [Let_eq, cond_and, Bool.eq_iff_iff]; simp only [Bool.and_eq_true, decide_eq_true_eq]; exact Iff.rfl
theorem ref04_Valid_eq (t : Transform) : ref04_Valid t = decide (TrOk t) := by
  unfold ref04_Valid ref04_outside TrOk Bd Wn; simp only [Let_eq, cond_and, cond_or]
  rw [Bool.eq_iff_iff]; simp only [Bool.and_eq_true, Bool.not_eq_true', Bool.or_eq_false_iff, decide_eq_true_eq, decide_eq_false_iff_not]; grind
theorem ref23_inRange_eq (b : Body) : ref23_inRange b = decide (RngOk b) := by
  unfold ref23_inRange
  simp only [Let_eq, cond_and, cond_or, ref23_in_eq, ref04_Valid_eq]
  have e : decide (RngOk b) = (decide (Wn b.ID 1 1099511627776) && decide (TrOk b.Transform) && decide (Wn b.Velocity.X (-16777216) 16777216) && decide (Wn b.Velocity.Y (-16777216) 16777216) && decide (Wn b.AngularVelocity (-4194304) 4194304) &&
      (decide (Wn b.Force.X (-536870911) 536870911) && decide (Wn b.Force.Y (-536870911) 536870911) && decide (Wn b.Torque (-536870911) 536870911)) &&
      (decide (Wn b.LinearDamping 0 65536) && decide (Wn b.AngularDamping 0 65536) && decide (Wn b.GravityScale (-262144) 262144) && decide (Wn b.IdleSteps 0 1048576))) := by
    rw [Bool.eq_iff_iff]; simp only [Bool.and_eq_true, decide_eq_true_eq]; unfold RngOk Bd; grind
  rw [e]
  have n3 : ∀ a b c d e : Bool, (!a || !b || !c || !d || !e) = !(a && b && c && d && e) := by intro a b c d e; cases a <;> cases b <;> cases c <;> cases d <;> cases e <;> rfl
  have n2 : ∀ a b c : Bool, (!a || !b || !c) = !(a && b && c) := by intro a b c; cases a <;> cases b <;> cases c <;> rfl
  rw [n3, n2]
  generalize (decide (Wn b.ID 1 1099511627776) && decide (TrOk b.Transform) && decide (Wn b.Velocity.X (-16777216) 16777216) && decide (Wn b.Velocity.Y (-16777216) 16777216) && decide (Wn b.AngularVelocity (-4194304) 4194304)) = P
  generalize (decide (Wn b.Force.X (-536870911) 536870911) && decide (Wn b.Force.Y (-536870911) 536870911) && decide (Wn b.Torque (-536870911) 536870911)) = Q
  cases P
  · rfl
  · cases Q
    · rfl
    · simp
theorem ref23_ValidateFixture_eq (f : Fixture) : ref23_ValidateFixture f = some (validF f) := by
  unfold ref23_ValidateFixture validF
  rw [ref12_Validate_eq, Bind_some]
  simp only [bne_iff_ne, Let_eq, cond_or, ref23_in_eq]
  by_cases h : validS f.Shape ≠ 0
  · rw [if_pos h, if_pos h]
  rw [if_neg h, if_neg h]
  by_cases c : Wn f.Density 0 262144 ∧ Wn f.Friction 0 131072 ∧ Wn f.Restitution 0 65536 ∧ Wn f.Category 0 65535 ∧ Wn f.Mask 0 65535 ∧ Wn f.Group (-32) 32
  · rw [if_pos c, if_neg (by simp only [Bool.or_eq_true, Bool.not_eq_true', decide_eq_false_iff_not]; grind)]
  · rw [if_neg c, if_pos (by simp only [Bool.or_eq_true, Bool.not_eq_true', decide_eq_false_iff_not]; grind)]
theorem ref23_Validate_eq (b : Body) : ref23_Validate b = some (validB b) := by
  unfold ref23_Validate validB
  simp only [Let_eq, cond_and, Bool.and_eq_true, bne_iff_ne, ref23_inRange_eq, Bool.not_eq_true', decide_eq_false_iff_not, decide_eq_true_eq, and_assoc]
  by_cases h1 : b.Kind ≠ 1 ∧ b.Kind ≠ 2 ∧ b.Kind ≠ 3
  · rw [if_pos h1, if_pos h1]
  rw [if_neg h1, if_neg h1]
  by_cases h2 : RngOk b
  · have h2' : ¬ ¬ RngOk b := fun h => h h2
    rw [if_neg h2', if_neg h2']
    by_cases h3 : 4 < b.Fixtures.length
    · rw [if_pos (show 4 < (b.Fixtures.length : Int) by omega), if_pos h3]
    rw [if_neg (show ¬ 4 < (b.Fixtures.length : Int) by omega), if_neg h3]
    have := loop_gen b.Fixtures.length (fun i => decide (validF (ix b.Fixtures (i : Int)) = 0)) (fun _ (s : Unit) => s) (fun _ _ => True) (fun n _ i => ref23_Validate_l1 b (ref23_Validate_j2 b) n i) (fun _ => ref23_Validate_j2 b) (some 13)
      (fun n i s hi _ => by
        refine ⟨?_, fun _ => trivial⟩
        rw [ref23_Validate_l1]
        rw [if_pos (by simpa using hi), Chk_of (by omega), ref23_ValidateFixture_eq, Bind_some, Let_eq, w64_of _ (by omega)]
        by_cases e : validF (ix b.Fixtures (i : Int)) = 0
        · rw [if_neg (by simp [e]), if_pos (decide_eq_true e)]
        · rw [if_pos (by simp [e]), if_neg (by simpa using e)])
      (fun n s _ => by rw [ref23_Validate_l1, if_neg (by simp)])
      fuel 0 () (by omega) (fuel_lt _ (by omega)) trivial
    rw [Nat.sub_zero, allR_all (fun f => decide (validF f = 0))] at this
    refine Eq.trans this ?_
    cases hA : b.Fixtures.all (fun f => decide (validF f = 0))
    · rfl
    rw [if_pos rfl, if_neg (by simp)]
    unfold ref23_Validate_j2 consB
    simp only [Let_eq, cond_and, cond_or, Vec_beq_eq]
    by_cases c1 : b.Kind = 1 ∧ (b.Velocity ≠ ⟨0, 0⟩ ∨ b.AngularVelocity ≠ 0 ∨ b.Force ≠ ⟨0, 0⟩ ∨ b.Torque ≠ 0)
    · rw [if_pos c1, if_pos rfl, if_pos (by simp only [Bool.and_eq_true, Bool.or_eq_true, beq_iff_eq, bne_iff_ne, Bool.not_eq_true', decide_eq_false_iff_not]; grind)]
    rw [if_neg c1]
    by_cases c2 : b.Kind ≠ 3 ∧ (b.Asleep = true ∨ b.Bullet = true)
    · rw [if_pos c2, if_pos rfl, if_pos (by simp only [Bool.and_eq_true, Bool.or_eq_true, beq_iff_eq, bne_iff_ne, Bool.not_eq_true', decide_eq_false_iff_not]; grind)]
    rw [if_neg c2]
    by_cases c3 : b.Asleep = true → b.Velocity = ⟨0, 0⟩ ∧ b.AngularVelocity = 0
    · rw [if_neg (show ¬ decide _ = false by simpa using c3), if_neg (by simp only [Bool.and_eq_true, Bool.or_eq_true, beq_iff_eq, bne_iff_ne, Bool.not_eq_true', decide_eq_false_iff_not]; grind)]
    · rw [if_pos (show decide _ = false by simpa using c3), if_pos (by simp only [Bool.and_eq_true, Bool.or_eq_true, beq_iff_eq, bne_iff_ne, Bool.not_eq_true', decide_eq_false_iff_not]; grind)]
  · rw [if_pos h2, if_pos h2]
theorem example23 : law23_example = some true := by kernel_rfl
theorem law23_BodyValidation_true (a0 : Body) (a1 : Fixture) (w0 : Body.Wf a0) (w1 : Fixture.Wf a1) : law23_BodyValidation a0 a1 = some true := by
  unfold law23_BodyValidation
  rw [ref23_Small_eq, Bind_some, example23]
  simp only [body_Validate_eq, ref23_Validate_eq, body_ValidateFixture_eq, ref23_ValidateFixture_eq, Bind_some, Let_eq]
  split
  · rfl
  · simp
end GoForm
