/- The plain law of bodies that are valid. No conditions. -/
import Derived.Test.YtblkmlpjhpgkjaaF23E1
set_option linter.all false
open Go Go.Cx
namespace GoForm
def Wn (x lo hi : Int) : Prop := lo ≤ x ∧ x ≤ hi
instance (x lo hi : Int) : Decidable (Wn x lo hi) := inferInstanceAs (Decidable (_ ∧ _))
def Bd (v : Vec) (lim : Int) : Prop := Wn v.X (-lim) lim ∧ Wn v.Y (-lim) lim
instance (v : Vec) (lim : Int) : Decidable (Bd v lim) := inferInstanceAs (Decidable (_ ∧ _))
theorem body_within_eq (x lo hi : Int) : body_within x lo hi = decide (Wn x lo hi) := by
  unfold body_within; rw [Let_eq, cond_and, Bool.eq_iff_iff]; simp only [Bool.and_eq_true, decide_eq_true_eq]; exact Iff.rfl
theorem body_bounded_eq (v : Vec) (lim : Int) (h : 0 ≤ lim ∧ lim ≤ 9223372036854775807) : body_bounded v lim = decide (Bd v lim) := by
  unfold body_bounded; simp only [Let_eq, cond_and, body_within_eq]
  rw [w64_of _ (by omega), show 0 - lim = -lim by omega, Bool.eq_iff_iff]; simp only [Bool.and_eq_true, decide_eq_true_eq]; exact Iff.rfl
def TrOk (t : Transform) : Prop := Bd t.Position 268435456 ∧ -205888 ≤ t.Angle ∧ t.Angle < 205888
instance (t : Transform) : Decidable (TrOk t) := inferInstanceAs (Decidable (_ ∧ _))
theorem transform_Valid_eq (t : Transform) : transform_Valid t = decide (TrOk t) := by
  unfold transform_Valid transform_inWorld TrOk Bd Wn; simp only [Let_eq, cond_and, Bool.decide_and]
  rw [Bool.eq_iff_iff]; simp only [Bool.and_eq_true, decide_eq_true_eq]; grind
def RngOk (b : Body) : Prop :=
  Wn b.ID 1 1099511627776 ∧ TrOk b.Transform ∧ Bd b.Velocity 16777216 ∧ Wn b.AngularVelocity (-4194304) 4194304 ∧ Bd b.Force 536870911 ∧ Wn b.Torque (-536870911) 536870911 ∧
  Wn b.LinearDamping 0 65536 ∧ Wn b.AngularDamping 0 65536 ∧ Wn b.GravityScale (-262144) 262144 ∧ Wn b.IdleSteps 0 1048576
instance (b : Body) : Decidable (RngOk b) := inferInstanceAs (Decidable (_ ∧ _))
theorem body_inRange_eq (b : Body) : body_inRange b = decide (RngOk b) := by
  unfold body_inRange RngOk
  simp only [Let_eq, cond_and, body_within_eq, transform_Valid_eq]
  rw [body_bounded_eq _ _ (by omega), body_bounded_eq _ _ (by omega)]
  rw [Bool.eq_iff_iff]; simp only [Bool.and_eq_true, decide_eq_true_eq]; grind
def validF (f : Fixture) : Int :=
  if validS f.Shape ≠ 0 then validS f.Shape else
  if Wn f.Density 0 262144 ∧ Wn f.Friction 0 131072 ∧ Wn f.Restitution 0 65536 ∧ Wn f.Category 0 65535 ∧ Wn f.Mask 0 65535 ∧ Wn f.Group (-32) 32 then 0 else 6
theorem body_ValidateFixture_eq (f : Fixture) : body_ValidateFixture f = some (validF f) := by
  unfold body_ValidateFixture validF
  rw [shape_Validate_eq, Bind_some]
  simp only [bne_iff_ne, Let_eq, cond_and, cond_or, body_within_eq]
  by_cases h : validS f.Shape ≠ 0
  · rw [if_pos h, if_pos h]
  rw [if_neg h, if_neg h]
  by_cases c : Wn f.Density 0 262144 ∧ Wn f.Friction 0 131072 ∧ Wn f.Restitution 0 65536 ∧ Wn f.Category 0 65535 ∧ Wn f.Mask 0 65535 ∧ Wn f.Group (-32) 32
  · rw [if_pos c, if_neg (by simp only [Bool.or_eq_true, Bool.not_eq_true', Bool.and_eq_false_iff, decide_eq_false_iff_not]; grind)]
  · rw [if_neg c, if_pos (by simp only [Bool.or_eq_true, Bool.not_eq_true', Bool.and_eq_false_iff, decide_eq_false_iff_not]; grind)]
def consB (b : Body) : Bool :=
  if b.Kind = 1 ∧ (b.Velocity ≠ ⟨0, 0⟩ ∨ b.AngularVelocity ≠ 0 ∨ b.Force ≠ ⟨0, 0⟩ ∨ b.Torque ≠ 0) then false else
  if b.Kind ≠ 3 ∧ (b.Asleep = true ∨ b.Bullet = true) then false else
  decide (b.Asleep = true → b.Velocity = ⟨0, 0⟩ ∧ b.AngularVelocity = 0)
theorem body_consistent_eq (b : Body) : body_consistent b = consB b := by
  unfold body_consistent consB body_moving
  simp only [Let_eq, cond_and, cond_or, Vec_beq_eq]
  by_cases h1 : b.Kind = 1 ∧ (b.Velocity ≠ ⟨0, 0⟩ ∨ b.AngularVelocity ≠ 0 ∨ b.Force ≠ ⟨0, 0⟩ ∨ b.Torque ≠ 0)
  · rw [if_pos h1, if_pos (by simp only [Bool.and_eq_true, Bool.or_eq_true, beq_iff_eq, bne_iff_ne, Bool.not_eq_true', decide_eq_false_iff_not]; grind)]
  rw [if_neg h1, if_neg (by simp only [Bool.and_eq_true, Bool.or_eq_true, beq_iff_eq, bne_iff_ne, Bool.not_eq_true', decide_eq_false_iff_not]; grind)]
  by_cases h2 : b.Kind ≠ 3 ∧ (b.Asleep = true ∨ b.Bullet = true)
  · rw [if_pos h2, if_pos (by simp only [Bool.and_eq_true, Bool.or_eq_true, bne_iff_ne]; exact h2)]
  rw [if_neg h2, if_neg (by simp only [Bool.and_eq_true, Bool.or_eq_true, bne_iff_ne]; exact h2), Bool.eq_iff_iff]
  simp only [Bool.or_eq_true, Bool.not_eq_true', decide_eq_true_eq, Bool.or_eq_false_iff, Bool.not_eq_false', bne_eq_false_iff_eq]
  cases b.Asleep <;> simp
def validB (b : Body) : Int :=
  if b.Kind ≠ 1 ∧ b.Kind ≠ 2 ∧ b.Kind ≠ 3 then 10 else if ¬ RngOk b then 6 else if 4 < b.Fixtures.length then 11 else
  if b.Fixtures.all (fun f => decide (validF f = 0)) = false then 13 else if consB b = false then 14 else 0
theorem body_Validate_eq (b : Body) : body_Validate b = some (validB b) := by
  unfold body_Validate validB
  simp only [Let_eq, cond_and, Bool.and_eq_true, bne_iff_ne, body_inRange_eq, Bool.not_eq_true', decide_eq_false_iff_not, decide_eq_true_eq, and_assoc]
  by_cases h1 : b.Kind ≠ 1 ∧ b.Kind ≠ 2 ∧ b.Kind ≠ 3
  · rw [if_pos h1, if_pos h1]
  rw [if_neg h1, if_neg h1]
  by_cases h2 : RngOk b
  · have h2' : ¬ ¬ RngOk b := fun h => h h2
    rw [if_neg h2', if_neg h2']
    by_cases h3 : 4 < b.Fixtures.length
    · rw [if_pos (show 4 < (b.Fixtures.length : Int) by omega), if_pos h3]
    rw [if_neg (show ¬ 4 < (b.Fixtures.length : Int) by omega), if_neg h3]
    have := loop_gen b.Fixtures.length (fun i => decide (validF (ix b.Fixtures (i : Int)) = 0)) (fun _ (s : Unit) => s) (fun _ _ => True) (fun n _ i => body_Validate_l1 b (body_Validate_j2 b) n i) (fun _ => body_Validate_j2 b) (some 13)
      (fun n i s hi _ => by
        refine ⟨?_, fun _ => trivial⟩
        rw [body_Validate_l1]
        rw [if_pos (by simpa using hi), Chk_of (by omega), Let_eq, body_ValidateFixture_eq, Bind_some, Let_eq, w64_of _ (by omega)]
        by_cases e : validF (ix b.Fixtures (i : Int)) = 0
        · rw [if_neg (by simp [e]), if_pos (decide_eq_true e)]
        · rw [if_pos (by simp [e]), if_neg (by simpa using e)])
      (fun n s _ => by rw [body_Validate_l1, if_neg (by simp)])
      fuel 0 () (by omega) (fuel_lt _ (by omega)) trivial
    rw [Nat.sub_zero, allR_all (fun f => decide (validF f = 0))] at this
    refine Eq.trans this ?_
    cases hA : b.Fixtures.all (fun f => decide (validF f = 0))
    · rfl
    rw [if_pos rfl, if_neg (by simp)]
    unfold body_Validate_j2
    simp only [Let_eq, body_consistent_eq]
    cases consB b <;> rfl
  · rw [if_pos h2, if_pos h2]
theorem validB_ok {b : Body} : validB b = 0 ↔ (b.Kind = 1 ∨ b.Kind = 2 ∨ b.Kind = 3) ∧ RngOk b ∧ b.Fixtures.length ≤ 4 ∧ (∀ f ∈ b.Fixtures, validF f = 0) ∧ consB b = true := by
  unfold validB
  by_cases h1 : b.Kind ≠ 1 ∧ b.Kind ≠ 2 ∧ b.Kind ≠ 3
  · rw [if_pos h1]; constructor
    · intro h; omega
    · intro h; omega
  rw [if_neg h1]
  by_cases h2 : RngOk b
  · rw [if_neg (fun h => h h2)]
    by_cases h3 : 4 < b.Fixtures.length
    · rw [if_pos h3]; constructor
      · intro h; omega
      · intro h; omega
    rw [if_neg h3]
    cases hA : b.Fixtures.all (fun f => decide (validF f = 0))
    · rw [if_pos rfl]
      constructor
      · intro h; omega
      · intro h
        have : b.Fixtures.all (fun f => decide (validF f = 0)) = true := by rw [List.all_eq_true]; intro f hf; exact decide_eq_true (h.2.2.2.1 f hf)
        rw [this] at hA; cases hA
    · rw [if_neg (by simp)]
      have hA' : ∀ f ∈ b.Fixtures, validF f = 0 := by
        rw [List.all_eq_true] at hA; intro f hf; exact of_decide_eq_true (hA f hf)
      cases consB b
      · rw [if_pos rfl]; constructor
        · intro h; omega
        · intro h; cases h.2.2.2.2
      · rw [if_neg (by simp)]
        exact ⟨fun _ => ⟨by omega, h2, by omega, hA', rfl⟩, fun _ => rfl⟩
  · rw [if_pos h2]; constructor
    · intro h; omega
    · intro h; exact absurd h.2.1 h2
theorem consB_iff (b : Body) : consB b = true ↔ (b.Kind = 1 → b.Velocity = ⟨0, 0⟩ ∧ b.AngularVelocity = 0 ∧ b.Force = ⟨0, 0⟩ ∧ b.Torque = 0) ∧ (b.Kind ≠ 3 → b.Asleep = false ∧ b.Bullet = false) ∧ (b.Asleep = true → b.Velocity = ⟨0, 0⟩ ∧ b.AngularVelocity = 0) := by
  unfold consB
  by_cases h1 : b.Kind = 1 ∧ (b.Velocity ≠ ⟨0, 0⟩ ∨ b.AngularVelocity ≠ 0 ∨ b.Force ≠ ⟨0, 0⟩ ∨ b.Torque ≠ 0)
  · rw [if_pos h1]; simp only [Bool.false_eq_true, false_iff]; grind
  rw [if_neg h1]
  by_cases h2 : b.Kind ≠ 3 ∧ (b.Asleep = true ∨ b.Bullet = true)
  · rw [if_pos h2]; simp only [Bool.false_eq_true, false_iff]; grind
  rw [if_neg h2, decide_eq_true_eq]
  cases hA : b.Asleep <;> cases hB : b.Bullet <;> grind
end GoForm
