/- The plain law of bodies that are compared and moved. No conditions. -/
import Derived.Test.YtblkmlpjhpgkjaaF23D1
set_option linter.all false
open Go Go.Cx
namespace GoForm
theorem Vec_beq_eq (x y : Vec) : Vec.beq x y = decide (x = y) := by
  cases x; cases y; unfold Vec.beq; rw [Bool.eq_iff_iff]; simp
theorem Transform_beq_eq (x y : Transform) : Transform.beq x y = decide (x = y) := by
  cases x; cases y; unfold Transform.beq; rw [Vec_beq_eq, Bool.eq_iff_iff]; simp
theorem slices_Equal_Vec_eq (a b : List Vec) (h : a.length ≤ 4611686018427387904) : slices_Equal_Vec a b = some (decide (a = b)) := by
  unfold slices_Equal_Vec
  by_cases hl : a.length = b.length
  · rw [if_neg (by simp [hl])]
    have := loop_gen a.length (fun i => decide (ix a (i : Int) = ix b (i : Int))) (fun _ (s : Unit) => s) (fun _ _ => True) (fun n _ i => slices_Equal_Vec_l1 a b slices_Equal_Vec_j2 n i) (fun _ => some true) (some false)
      (fun n i s hi _ => by
        refine ⟨?_, fun _ => trivial⟩
        rw [slices_Equal_Vec_l1]
        rw [if_pos (by simpa using hi), Chk_of (by omega), Chk_of (by omega), Let_eq, Vec_beq_eq, w64_of _ (by omega)]
        by_cases e : ix a (i : Int) = ix b (i : Int)
        · rw [decide_eq_true e]; rfl
        · rw [decide_eq_false e]; rfl)
      (fun n s _ => by rw [slices_Equal_Vec_l1, if_neg (by simp)]; rfl)
      fuel 0 () (by omega) (fuel_lt _ (by omega)) trivial
    rw [Nat.sub_zero, allR_eq a b hl] at this
    rw [show slices_Equal_Vec_l1 a b slices_Equal_Vec_j2 fuel 0 = slices_Equal_Vec_l1 a b slices_Equal_Vec_j2 fuel ((0 : Nat) : Int) from rfl, this]
    by_cases e : a = b
    · rw [decide_eq_true e]; rfl
    · rw [decide_eq_false e]; rfl
  · rw [if_pos (by simpa using fun h => hl (by omega)), decide_eq_false (fun h => hl (by rw [h]))]
theorem shape_Equal_eq (a b : Shape) (h : a.Vertices.length ≤ 4611686018427387904) : shape_Equal a b = some (decide (a = b)) := by
  unfold shape_Equal
  rw [slices_Equal_Vec_eq _ _ h]
  cases a with | mk ak ar av => cases b with | mk bk br bv =>
  simp only [cond_and, Let_eq]
  by_cases h1 : ak = bk
  · by_cases h2 : ar = br
    · subst h1 h2; simp
    · simp [h1, h2]
  · simp [h1]
theorem body_equalFixtures_eq (a b : Fixture) (h : a.Shape.Vertices.length ≤ 4611686018427387904) : body_equalFixtures a b = some (decide (a = b)) := by
  unfold body_equalFixtures
  rw [shape_Equal_eq _ _ h]
  cases a; cases b
  simp only [cond_and, Let_eq, Bind_some]
  congr 1
  rw [Bool.eq_iff_iff]
  simp only [Bool.and_eq_true, decide_eq_true_eq, beq_iff_eq, Fixture.mk.injEq]
  grind
def FixOk (b : Body) : Prop := b.Fixtures.length ≤ 4611686018427387904 ∧ ∀ f ∈ b.Fixtures, f.Shape.Vertices.length ≤ 4611686018427387904
theorem body_Equal_eq (a b : Body) (h : FixOk a) : body_Equal a b = some (decide (a = b)) := by
  obtain ⟨h1, h2⟩ := h
  unfold body_Equal
  by_cases hl : a.Fixtures.length = b.Fixtures.length
  · rw [if_neg (by simp [hl])]
    have := loop_gen a.Fixtures.length (fun i => decide (ix a.Fixtures (i : Int) = ix b.Fixtures (i : Int))) (fun _ (s : Unit) => s) (fun _ _ => True) (fun n _ i => body_Equal_l1 a b (body_Equal_j2 a b) n i) (fun _ => body_Equal_j2 a b) (some false)
      (fun n i s hi _ => by
        refine ⟨?_, fun _ => trivial⟩
        rw [body_Equal_l1]
        rw [if_pos (by simpa using hi), Chk_of (by omega), Let_eq, Chk_of (by omega), body_equalFixtures_eq _ _ (h2 _ (ix_mem _ _ (by omega))), Bind_some, Let_eq, w64_of _ (by omega)]
        by_cases e : ix a.Fixtures (i : Int) = ix b.Fixtures (i : Int)
        · rw [decide_eq_true e]; rfl
        · rw [decide_eq_false e]; rfl)
      (fun n s _ => by rw [body_Equal_l1, if_neg (by simp)])
      fuel 0 () (by omega) (fuel_lt _ (by omega)) trivial
    rw [Nat.sub_zero, allR_eq _ _ hl] at this
    rw [show body_Equal_l1 a b (body_Equal_j2 a b) fuel 0 = body_Equal_l1 a b (body_Equal_j2 a b) fuel ((0 : Nat) : Int) from rfl, this]
    by_cases e : a.Fixtures = b.Fixtures
    · rw [if_pos (decide_eq_true e)]
      unfold body_Equal_j2
      simp only [Let_eq, cond_and, Vec_beq_eq, Transform_beq_eq]
      congr 1
      cases a; cases b
      rw [Bool.eq_iff_iff]
      simp only [Bool.and_eq_true, decide_eq_true_eq, beq_iff_eq, Body.mk.injEq] at e ⊢
      grind
    · rw [if_neg (by simpa using e), decide_eq_false (fun h => e (by rw [h]))]
  · rw [if_pos (by simpa using fun h => hl (by omega)), decide_eq_false (fun h => hl (by rw [h]))]
def smallB (b : Body) : Bool := allR (fun i => decide ((ix b.Fixtures (i : Int)).Shape.Vertices.length ≤ 20)) 0 (min b.Fixtures.length 8) && decide (b.Fixtures.length ≤ 8)
theorem ref23_Small_eq (b : Body) : ref23_Small b = some (smallB b) := by
  unfold ref23_Small smallB
  have := loop_gen (min b.Fixtures.length 8) (fun i => decide ((ix b.Fixtures (i : Int)).Shape.Vertices.length ≤ 20)) (fun _ (s : Unit) => s) (fun _ _ => True) (fun n _ i => ref23_Small_l1 b (ref23_Small_j2 b) n i) (fun _ => ref23_Small_j2 b) (some false)
    (fun n i s hi _ => by
      refine ⟨?_, fun _ => trivial⟩
      rw [ref23_Small_l1, cond_and]
      rw [if_pos (by simp; omega), Chk_of (by omega), Let_eq, Let_eq, w64_of _ (by omega)]
      by_cases e : (ix b.Fixtures (i : Int)).Shape.Vertices.length ≤ 20
      · rw [if_neg (by simp; omega), if_pos (decide_eq_true e)]
      · rw [if_pos (by simp; omega), if_neg (by simpa using e)])
    (fun n s _ => by rw [ref23_Small_l1, cond_and, if_neg (by simp; omega)])
    fuel 0 () (by omega) (fuel_lt _ (by omega)) trivial
  rw [Nat.sub_zero] at this
  rw [show ref23_Small_l1 b (ref23_Small_j2 b) fuel 0 = ref23_Small_l1 b (ref23_Small_j2 b) fuel ((0 : Nat) : Int) from rfl, this]
  unfold ref23_Small_j2
  rw [Let_eq]
  have e : decide ((b.Fixtures.length : Int) ≤ 8) = decide (b.Fixtures.length ≤ 8) := by rw [Bool.eq_iff_iff]; simp only [decide_eq_true_eq]; omega
  rw [e]
  cases allR (fun i => decide ((ix b.Fixtures (i : Int)).Shape.Vertices.length ≤ 20)) 0 (min b.Fixtures.length 8) <;> simp
theorem smallB_ok {b : Body} (h : smallB b = true) : b.Fixtures.length ≤ 8 ∧ ∀ f ∈ b.Fixtures, f.Shape.Vertices.length ≤ 20 := by
  unfold smallB at h
  simp only [Bool.and_eq_true, decide_eq_true_eq, allR_true] at h
  refine ⟨h.2, fun f hf => ?_⟩
  obtain ⟨i, hi, rfl⟩ := List.getElem_of_mem hf
  have := h.1 i (by omega) (by omega)
  rw [ix_lt _ _ hi] at this; exact this
theorem smallB_fix {b : Body} (h : smallB b = true) : FixOk b := ⟨by have := (smallB_ok h).1; omega, fun f hf => by have := (smallB_ok h).2 f hf; omega⟩
theorem smallB_same {b c : Body} (h : c.Fixtures = b.Fixtures) : smallB c = smallB b := by unfold smallB; rw [h]
def clampB (b : Body) : Body := { b with Velocity := ⟨clampS b.Velocity.X (-16777216) 16777216, clampS b.Velocity.Y (-16777216) 16777216⟩, AngularVelocity := clampS b.AngularVelocity (-4194304) 4194304 }
theorem body_ClampVelocity_eq (b : Body) : body_ClampVelocity b = clampB b := by
  unfold body_ClampVelocity clampB; simp only [Let_eq, fixed_Clamp_eq]
end GoForm
