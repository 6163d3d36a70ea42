/- The plain laws of chapter 26: bodies that move freely. No conditions. -/
import Derived.Test.YtpdnoblnfledeaaF26J1
set_option linter.all false
open Go Go.Cx
namespace GoForm
theorem slices_Clone_Vec_eq (l : List Vec) (h : l.length ≤ 8000000000000) : slices_Clone_Vec l = some l := by
  unfold slices_Clone_Vec; rw [Chk_of (by simp; omega)]
theorem shape_Clone_eq (s : Shape) (h : s.Vertices.length ≤ 8000000000000) : shape_Clone s = some s := by
  unfold shape_Clone; rw [slices_Clone_Vec_eq _ h, Bind_some]; rfl
theorem body_Clone_eq (b : Body) (h : b.Fixtures.length ≤ 1000000000000) (h2 : ∀ f ∈ b.Fixtures, f.Shape.Vertices.length ≤ 8000000000000) : body_Clone b = some b := by
  unfold body_Clone
  have := loop_gen b.Fixtures.length (fun _ => true) (fun i l => l ++ [ix b.Fixtures (i : Int)]) (fun i l => l.length = i) (fun n x j => body_Clone_l1 b (body_Clone_j2 b) n x j) (fun l => some { b with Fixtures := l }) none
    (fun n i x hi hI => by
      refine ⟨?_, fun _ => by simp [hI]⟩
      rw [body_Clone_l1]
      rw [if_pos (by simpa using hi), Chk_of (by omega), Let_eq, shape_Clone_eq _ (h2 _ (ix_mem _ _ (by omega))), Bind_some, Let_eq, Chk_of (by simp; omega), Let_eq, Let_eq, w64_of ((i : Int) + 1) (by omega), if_pos rfl])
    (fun n x _ => by rw [body_Clone_l1, if_neg (by simp)]; rfl)
    fuel 0 [] (by omega) (fuel_lt _ (by omega)) rfl
  rw [Nat.sub_zero, allR_tt, if_pos rfl, foldR_list] at this
  refine Eq.trans this ?_
  have e : [] ++ (List.range' 0 b.Fixtures.length).map (fun i : Nat => ix b.Fixtures (i : Int)) = b.Fixtures := by
    rw [List.nil_append, ← list_eq_ix _ _ (by simp)]
    intro i hi
    simp only [List.length_map, List.length_range'] at hi
    rw [ix_map_range _ _ _ _ hi, Nat.zero_add]
  rw [e]
theorem free {b : Body} {dt : Int} (hv : validB b = 0) :
    (velB { clearB b with LinearDamping := 0, AngularDamping := 0 } ⟨dt, Vec.zero, 0, 0⟩).Velocity = b.Velocity ∧
    (velB { clearB b with LinearDamping := 0, AngularDamping := 0 } ⟨dt, Vec.zero, 0, 0⟩).AngularVelocity = (if b.FixedRotation = true ∧ b.Kind = 3 then 0 else b.AngularVelocity) := by
  rw [validB_ok] at hv
  obtain ⟨h1, h2, h3, h4, h5⟩ := hv
  rw [consB_iff] at h5
  unfold RngOk Bd Wn at h2
  obtain ⟨-, -, ⟨x1, x2⟩, x3, -⟩ := h2
  by_cases c : b.Kind ≠ 3 ∨ b.Asleep = true
  · rw [show velB { clearB b with LinearDamping := 0, AngularDamping := 0 } ⟨dt, Vec.zero, 0, 0⟩ = { clearB b with LinearDamping := 0, AngularDamping := 0 } from if_pos c]
    refine ⟨rfl, ?_⟩
    show b.AngularVelocity = _
    split
    · rename_i hk
      rcases c with c | c
      · exact absurd hk.2 c
      · exact (h5.2.2 c).2
    · rfl
  rw [show velB { clearB b with LinearDamping := 0, AngularDamping := 0 } ⟨dt, Vec.zero, 0, 0⟩ = _ from if_neg c]
  have vx : (velV { clearB b with LinearDamping := 0, AngularDamping := 0 } ⟨dt, Vec.zero, 0, 0⟩) = b.Velocity := by
    unfold velV addV scaleV subV clearB Vec.zero
    simp only [mulS_zl, mulS_zr]
    rw [addS_zero (a := b.Velocity.X) (by omega), addS_zero (a := b.Velocity.X) (by omega), addS_zero (a := b.Velocity.Y) (by omega), addS_zero (a := b.Velocity.Y) (by omega), subS_zero (by omega), subS_zero (by omega)]
  have vw : velW { clearB b with LinearDamping := 0, AngularDamping := 0 } ⟨dt, Vec.zero, 0, 0⟩ = b.AngularVelocity := by
    unfold velW clearB
    simp only [mulS_zl, mulS_zr]
    rw [addS_zero (a := b.AngularVelocity) (by omega), subS_zero (by omega)]
  have k3 : b.Kind = 3 := by omega
  unfold clampB
  simp only [vx, vw]
  rw [clampS_id (by omega), clampS_id (by omega)]
  refine ⟨rfl, ?_⟩
  show clampS (if b.FixedRotation = true then 0 else b.AngularVelocity) (-4194304) 4194304 = _
  rw [clampS_id (by split <;> omega)]
  by_cases hf : b.FixedRotation = true
  · rw [if_pos hf, if_pos ⟨hf, k3⟩]
  · rw [if_neg hf, if_neg (fun h => hf h.1)]
theorem law26_IntegrateFreeMotion_true (a0 : Body) (a1 : Int) (w0 : Body.Wf a0) (w1 : (IntKind.i64.min ≤ a1 ∧ a1 ≤ IntKind.i64.max)) : law26_IntegrateFreeMotion a0 a1 = some true := by
  unfold law26_IntegrateFreeMotion
  rw [ref23_Small_eq, Bind_some, example26]
  cases hs : smallB a0
  · rfl
  obtain ⟨s1, s2⟩ := smallB_ok hs
  simp only [integrate_Velocity_eq, integrate_ClearForces_eq, body_Validate_eq, Bind_some, Let_eq, cond_or, cond_and, body_Clone_eq a0 (by omega) (fun f hf => by have := s2 f hf; omega)]
  by_cases hv : validB a0 = 0
  rotate_left
  · simp [hv]
  rw [if_pos (by rfl), Bind_some, if_neg (by simp [hv])]
  obtain ⟨f1, f2⟩ := free (dt := a1) hv
  have ft := velB_tr { clearB a0 with LinearDamping := 0, AngularDamping := 0 } ⟨a1, Vec.zero, 0, 0⟩
  generalize velB { clearB a0 with LinearDamping := 0, AngularDamping := 0 } ⟨a1, Vec.zero, 0, 0⟩ = v at *
  have j : ∀ w, w = v.AngularVelocity → law26_IntegrateFreeMotion_j1 { { clearB a0 with LinearDamping := 0 } with AngularDamping := 0 } v w = some true := by
    intro w hw
    unfold law26_IntegrateFreeMotion_j1
    simp only [cond_and, Vec_beq_eq, Transform_beq_eq, example26]
    rw [decide_eq_true (show v.Velocity = (clearB a0).Velocity from f1), decide_eq_true (show v.Transform = (clearB a0).Transform from ft), hw]
    simp
  by_cases hf : a0.FixedRotation = true ∧ a0.Kind = 3
  · rw [if_pos (by simpa [clearB] using hf)]
    rw [if_pos hf] at f2
    exact j 0 f2.symm
  · rw [if_neg (by simpa [clearB] using hf)]
    rw [if_neg hf] at f2
    exact j _ f2.symm
end GoForm
