/- The plain law of bodies: the reference compares and clamps them as the program does. No conditions. -/
import Derived.Test.YtblkmlpjhpgkjaaGreatF23UD2
import Derived.Test.YtblkmlpjhpgkjaaGreatF23UE1
set_option linter.all false
open Go Go.Cx
namespace GoForm
theorem ref12_EqualVecs_eq (a b : List Vec) (h : a.length ≤ 4611686018427387904) : ref12_EqualVecs a b = some (decide (a = b)) := by
  unfold ref12_EqualVecs
  by_cases hl : a.length = b.length
  · rw [if_neg (by simp [hl])]
    have := loop_gen a.length (fun i => decide (ix a (i : Int) = ix b (i : Int))) (fun _ (s : Unit) => s) (fun _ _ => True) (fun n _ i => ref12_EqualVecs_l1 a b ref12_EqualVecs_j2 n i) (fun _ => some true) (some false)
      (fun n i s hi _ => by
        refine ⟨?_, fun _ => trivial⟩
        rw [ref12_EqualVecs_l1]
        rw [if_pos (by simpa using hi), Chk_of (by omega), Chk_of (by omega), Let_eq, Vec_beq_eq, w64_of _ (by omega)]
        by_cases e : ix a (i : Int) = ix b (i : Int)
        · rw [decide_eq_true e]; rfl
        · rw [decide_eq_false e]; rfl)
      (fun n s _ => by rw [ref12_EqualVecs_l1, if_neg (by simp)]; rfl)
      fuel 0 () (by omega) (fuel_lt _ (by omega)) trivial
    rw [Nat.sub_zero, allR_eq a b hl] at this
    rw [show ref12_EqualVecs_l1 a b ref12_EqualVecs_j2 fuel 0 = ref12_EqualVecs_l1 a b ref12_EqualVecs_j2 fuel ((0 : Nat) : Int) from rfl, this]
    by_cases e : a = b
    · rw [decide_eq_true e]; rfl
    · rw [decide_eq_false e]; rfl
  · rw [if_pos (by simpa using fun h => hl (by omega)), decide_eq_false (fun h => hl (by rw [h]))]
theorem ref12_Equal_eq (a b : Shape) (h : a.Vertices.length ≤ 4611686018427387904) : ref12_Equal a b = some (decide (a = b)) := by
  unfold ref12_Equal
  rw [ref12_EqualVecs_eq _ _ h]
  cases a with | mk ak ar av => cases b with | mk bk br bv =>
  simp only [cond_and, Let_eq]
  by_cases h1 : ak = bk
  · by_cases h2 : ar = br
    · subst h1 h2; simp
    · simp [h1, h2]
  · simp [h1]
theorem ref23_EqualFixture_eq (a b : Fixture) (h : a.Shape.Vertices.length ≤ 4611686018427387904) : ref23_EqualFixture a b = some (decide (a = b)) := by
  unfold ref23_EqualFixture
  rw [ref12_Equal_eq _ _ h, Bind_some]
  cases a; cases b
  simp only [cond_and, Let_eq, Bind_some]
  congr 1
  rw [Bool.eq_iff_iff]
  simp only [Bool.and_eq_true, decide_eq_true_eq, beq_iff_eq, Fixture.mk.injEq]
  grind
theorem ref23_Equal_eq (a b : Body) (h : FixOk a) : ref23_Equal a b = some (decide (a = b)) := by
  obtain ⟨h1, h2⟩ := h
  unfold ref23_Equal
  by_cases hl : a.Fixtures.length = b.Fixtures.length
  · rw [if_neg (by simp [hl])]
    have := loop_gen a.Fixtures.length (fun i => decide (ix a.Fixtures (i : Int) = ix b.Fixtures (i : Int))) (fun _ (s : Unit) => s) (fun _ _ => True) (fun n _ i => ref23_Equal_l1 a b (ref23_Equal_j2 a b) n i) (fun _ => ref23_Equal_j2 a b) (some false)
      (fun n i s hi _ => by
        refine ⟨?_, fun _ => trivial⟩
        rw [ref23_Equal_l1, cond_and]
        rw [if_pos (by simp; omega), Chk_of (by omega), Chk_of (by omega), ref23_EqualFixture_eq _ _ (h2 _ (ix_mem _ _ (by omega))), Bind_some, Let_eq, w64_of _ (by omega)]
        by_cases e : ix a.Fixtures (i : Int) = ix b.Fixtures (i : Int)
        · rw [decide_eq_true e]; rfl
        · rw [decide_eq_false e]; rfl)
      (fun n s _ => by rw [ref23_Equal_l1, cond_and, if_neg (by simp)])
      fuel 0 () (by omega) (fuel_lt _ (by omega)) trivial
    rw [Nat.sub_zero, allR_eq _ _ hl] at this
    rw [show ref23_Equal_l1 a b (ref23_Equal_j2 a b) fuel 0 = ref23_Equal_l1 a b (ref23_Equal_j2 a b) fuel ((0 : Nat) : Int) from rfl, this]
    by_cases e : a.Fixtures = b.Fixtures
    · rw [if_pos (decide_eq_true e)]
      unfold ref23_Equal_j2
      simp only [Let_eq, cond_and, cond_or, Vec_beq_eq, Transform_beq_eq]
      by_cases c : (a.ID ≠ b.ID ∨ a.Kind ≠ b.Kind ∨ a.Transform ≠ b.Transform ∨ a.Velocity ≠ b.Velocity ∨ a.AngularVelocity ≠ b.AngularVelocity ∨ a.Force ≠ b.Force ∨ a.Torque ≠ b.Torque)
      · rw [if_pos (by simp only [Bool.or_eq_true, bne_iff_ne, Bool.not_eq_true', decide_eq_false_iff_not]; grind), decide_eq_false (by rintro rfl; grind)]
      · rw [if_neg (by simp only [Bool.or_eq_true, bne_iff_ne, Bool.not_eq_true', decide_eq_false_iff_not]; grind)]
        congr 1
        cases a; cases b
        rw [Bool.eq_iff_iff]
        simp only [Bool.and_eq_true, decide_eq_true_eq, beq_iff_eq, Body.mk.injEq] at e c ⊢
        grind
    · rw [if_neg (by simpa using e), decide_eq_false (fun h => e (by rw [h]))]
  · rw [if_pos (by simpa using fun h => hl (by omega)), decide_eq_false (fun h => hl (by rw [h]))]
theorem ref23_ClampVelocity_eq (b : Body) : ref23_ClampVelocity b = clampB b := by
  unfold ref23_ClampVelocity clampB; simp only [Let_eq, ref01_Clamp_eq]
end GoForm
