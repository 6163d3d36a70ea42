/- The plain law BodyFixtureAt. No conditions. -/
import Derived.Test.YtblkmlpjhpgkjaaF23T4
set_option linter.all false
set_option maxRecDepth 100000
open Go Go.Cx
namespace GoForm
open GoGeo
theorem example23t : law23_example = some true := by kernel_rfl
theorem first_spec (p : Fixture → Bool) : ∀ (l : List Fixture) (i : Int), (firstAt p l i = -1 ∧ ∀ k : Nat, k < l.length → p (ix l (k : Int)) = false) ∨ (∃ k : Nat, k < l.length ∧ firstAt p l i = i + k ∧ p (ix l (k : Int)) = true ∧ ∀ j : Nat, j < k → p (ix l (j : Int)) = false)
  | [], i => .inl ⟨rfl, fun k hk => by simp at hk⟩
  | f :: l, i => by
    have h0 : ix (f :: l) ((0 : Nat) : Int) = f := by rw [ix_lt _ 0 (by simp)]; rfl
    have hs : ∀ j : Nat, j < l.length → ix (f :: l) ((j + 1 : Nat) : Int) = ix l (j : Int) := fun j hj => by
      rw [ix_lt _ (j + 1) (by simp; omega), ix_lt l j hj]; rfl
    unfold firstAt
    by_cases hp : p f = true
    · rw [if_pos hp]
      exact .inr ⟨0, by simp, by omega, by rw [h0]; exact hp, fun j hj => by omega⟩
    · rw [if_neg hp]
      have hp : p f = false := by simpa using hp
      rcases first_spec p l (i + 1) with ⟨e, h⟩ | ⟨k, hk, e, h1, h2⟩
      · refine .inl ⟨e, fun k hk => ?_⟩
        cases k with
        | zero => rw [h0]; exact hp
        | succ k => rw [hs k (by simpa using hk)]; exact h k (by simpa using hk)
      · refine .inr ⟨k + 1, by simp; omega, by rw [e]; push_cast; omega, by rw [hs k hk]; exact h1, fun j hj => ?_⟩
        cases j with
        | zero => rw [h0]; exact hp
        | succ j => rw [hs j (by omega)]; exact h2 j (by omega)
theorem expand_in {b : AABB} {v : Vec} (hb : OKB b) (hv : Inb b (satV v)) : aabb_ContainsPoint (aabb_Expand b 2) v = true := by
  unfold aabb_Expand
  simp only [Let_eq, aabb_Valid_eq, (okBx_iff b).2 hb, fixed_Sub_eq, fixed_Add_eq]
  rw [if_neg (by simp)]
  obtain ⟨h1, h2, h3, h4, h5, h6⟩ := hb
  obtain ⟨k1, k2, k3, k4⟩ := hv
  have s1 : subS b.Min.X 2 ≤ b.Min.X ∧ -536870911 ≤ subS b.Min.X 2 := by unfold subS sat; omega
  have s2 : subS b.Min.Y 2 ≤ b.Min.Y ∧ -536870911 ≤ subS b.Min.Y 2 := by unfold subS sat; omega
  have s3 : b.Max.X ≤ addS b.Max.X 2 ∧ addS b.Max.X 2 ≤ 536870911 := by unfold addS sat; omega
  have s4 : b.Max.Y ≤ addS b.Max.Y 2 ∧ addS b.Max.Y 2 ≤ 536870911 := by unfold addS sat; omega
  have ho : okBx ⟨⟨subS b.Min.X 2, subS b.Min.Y 2⟩, ⟨addS b.Max.X 2, addS b.Max.Y 2⟩⟩ = true := by
    refine (okBx_iff _).2 ⟨?_, ?_, ?_, ?_, ?_, ?_⟩ <;> dsimp only <;> omega
  rw [ho, if_neg (by simp)]
  unfold aabb_ContainsPoint
  simp only [Let_eq, aabb_Valid_eq, ho, cond_and, show aabb_saturate v = satV v from rfl, Bool.true_and, Bool.and_eq_true, decide_eq_true_eq]
  exact ⟨⟨⟨by omega, by omega⟩, by omega⟩, by omega⟩
theorem law23_BodyFixtureAt_true (a0 : Body) (a1 : Vec) (w0 : Body.Wf a0) (w1 : Vec.Wf a1) : law23_BodyFixtureAt a0 a1 = some true := by
  unfold law23_BodyFixtureAt
  rw [ref23_Small_eq, Bind_some, example23t]
  cases hs : smallB a0
  · rfl
  obtain ⟨s1, s2⟩ := smallB_ok hs
  rw [if_pos (show ((!true) == false) = true from rfl), body_Validate_eq, Bind_some]
  by_cases hv : validB a0 = 0
  case neg =>
    rw [if_pos (by simp [hv])]; rfl
  rw [hv, if_neg (by simp), body_FixtureAt_eq a0 a1 (by omega), Bind_some, body_Bounds_eq a0 (by omega), Bind_some, Let_eq]
  have hb2 : (bodyBx a0).2 = decide (0 < (a0.Fixtures.length : Int)) := by
    unfold bodyBx
    by_cases h : a0.Fixtures.length = 0
    · rw [if_pos h, h]; rfl
    · rw [if_neg h, decide_eq_true (by omega)]
  rw [hb2]
  generalize hk : firstAt (fun f => containsP f.Shape a0.Transform a1) a0.Fixtures 0 = r4
  have hsp := first_spec (fun f => containsP f.Shape a0.Transform a1) a0.Fixtures 0
  rw [hk] at hsp
  have hr : -1 ≤ r4 ∧ r4 < (a0.Fixtures.length : Int) ∨ r4 = -1 := by rcases hsp with ⟨e, -⟩ | ⟨k, h1, e, -⟩ <;> omega
  rw [if_neg (by simp; omega)]
  have hfin : law23_BodyFixtureAt_j2 a1 r4 (bodyBx a0).1 = some true := by
    unfold law23_BodyFixtureAt_j2
    simp only [Let_eq, example23t]
    rcases hsp with ⟨e, -⟩ | ⟨k, h1, e, h2, -⟩
    · rw [decide_eq_true (show r4 < 0 by omega)]; rfl
    · have hbx := body_box hv (by omega)
      rw [expand_in hbx.1 (hbx.2 k a1 h1 h2)]
      cases decide (r4 < 0) <;> rfl
  rw [hfin]
  have := loop_gen a0.Fixtures.length (fun _ => true) (fun _ (s : Unit) => s) (fun _ _ => True) (fun n _ i => law23_BodyFixtureAt_l1 a0 a1 r4 (some true) n i) (fun _ => some true) none
    (fun n i s hi _ => by
      refine ⟨?_, fun _ => trivial⟩
      rw [law23_BodyFixtureAt_l1]
      rw [if_pos (by simpa using hi), Chk_of (by omega), shape_ContainsPoint_eq, Bind_some, if_neg ?_, Let_eq, w64_of _ (by omega), if_pos rfl]
      simp only [cond_and, cond_or]
      rcases hsp with ⟨e, h2⟩ | ⟨k, h1, e, h2, h3⟩
      · have := h2 i hi
        rw [this]
        simp; omega
      · skip
        by_cases c1 : i < k
        · rw [h3 i c1]; simp; omega
        · by_cases c2 : i = k
          · subst c2
            rw [h2]; simp; omega
          · simp; omega)
    (fun n s _ => by rw [law23_BodyFixtureAt_l1, if_neg (by simp)])
    fuel 0 () (by omega) (fuel_lt _ (by omega)) trivial
  rw [allR_tt, if_pos rfl] at this
  exact this
end GoForm
