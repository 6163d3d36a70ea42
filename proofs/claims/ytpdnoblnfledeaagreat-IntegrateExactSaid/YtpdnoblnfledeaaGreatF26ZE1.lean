/- The plain law of bodies that are compared and moved. No conditions. -/
import Derived.Test.YtpdnoblnfledeaaGreatF26ZD1
set_option linter.all false
open Go Go.Cx
namespace GoForm
theorem Vec_beq_eq (x y : Vec) : Vec.beq x y = decide (x = y) := by
  cases x; cases y; unfold Vec.beq; rw [Bool.eq_iff_iff]; simp
theorem Transform_beq_eq (x y : Transform) : Transform.beq x y = decide (x = y) := by
  cases x; cases y; unfold Transform.beq; rw [Vec_beq_eq, Bool.eq_iff_iff]; simp
def FixOk (b : Body) : Prop := b.Fixtures.length ≤ 4611686018427387904 ∧ ∀ f ∈ b.Fixtures, f.Shape.Vertices.length ≤ 4611686018427387904
def smallB (b : Body) : Bool := allR (fun i => decide ((ix b.Fixtures (i : Int)).Shape.Vertices.length ≤ 20)) 0 (min b.Fixtures.length 8) && decide (b.Fixtures.length ≤ 8)
theorem ref23_Small_eq (b : Body) : ref23_Small b = some (smallB b) := by
  unfold ref23_Small smallB
  have := loop_gen (min b.Fixtures.length 8) (fun i => decide ((ix b.Fixtures (i : Int)).Shape.Vertices.length ≤ 20)) (fun _ (s : Unit) => s) (fun _ _ => True) (fun n _ i => ref23_Small_l1 b (ref23_Small_j2 b) n i) (fun _ => ref23_Small_j2 b) (some false)
    (fun n i s hi _ => by
      refine ⟨?_, fun _ => trivial⟩
      rw [ref23_Small_l1, cond_and]
      rw [if_pos (by simp; omega), Chk_of (by omega), Let_eq, Let_eq, w64_of _ (by omega)]
      by_cases e : (ix b.Fixtures (i : Int)).Shape.Vertices.length ≤ 20
      · rw [if_neg (by simp; omega), if_pos (decide_eq_true e)]
      · rw [if_pos (by simp; omega), if_neg (by simpa using e)])
    (fun n s _ => by rw [ref23_Small_l1, cond_and, if_neg (by simp; omega)])
    fuel 0 () (by omega) (fuel_lt _ (by omega)) trivial
  rw [Nat.sub_zero] at this
  rw [show ref23_Small_l1 b (ref23_Small_j2 b) fuel 0 = ref23_Small_l1 b (ref23_Small_j2 b) fuel ((0 : Nat) : Int) from rfl, this]
  unfold ref23_Small_j2
  rw [Let_eq]
  have e : decide ((b.Fixtures.length : Int) ≤ 8) = decide (b.Fixtures.length ≤ 8) := by rw [Bool.eq_iff_iff]; simp only [decide_eq_true_eq]; omega
  rw [e]
  cases allR (fun i => decide ((ix b.Fixtures (i : Int)).Shape.Vertices.length ≤ 20)) 0 (min b.Fixtures.length 8) <;> simp
theorem smallB_ok {b : Body} (h : smallB b = true) : b.Fixtures.length ≤ 8 ∧ ∀ f ∈ b.Fixtures, f.Shape.Vertices.length ≤ 20 := by
  unfold smallB at h
  simp only [Bool.and_eq_true, decide_eq_true_eq, allR_true] at h
  refine ⟨h.2, fun f hf => ?_⟩
  obtain ⟨i, hi, rfl⟩ := List.getElem_of_mem hf
  have := h.1 i (by omega) (by omega)
  rw [ix_lt _ _ hi] at this; exact this
theorem smallB_fix {b : Body} (h : smallB b = true) : FixOk b := ⟨by have := (smallB_ok h).1; omega, fun f hf => by have := (smallB_ok h).2 f hf; omega⟩
theorem smallB_same {b c : Body} (h : c.Fixtures = b.Fixtures) : smallB c = smallB b := by unfold smallB; rw [h]
def clampB (b : Body) : Body := { b with Velocity := ⟨clampS b.Velocity.X (-16777216) 16777216, clampS b.Velocity.Y (-16777216) 16777216⟩, AngularVelocity := clampS b.AngularVelocity (-4194304) 4194304 }
theorem body_ClampVelocity_eq (b : Body) : body_ClampVelocity b = clampB b := by
  unfold body_ClampVelocity clampB; simp only [Let_eq, fixed_Clamp_eq]
end GoForm
