/- The plain laws of chapter 26. No conditions. -/
import Derived.Test.YtpdnoblnfledeaaF26G1
import Derived.Test.YtpdnoblnfledeaaF26H1
set_option linter.all false
open Go Go.Cx
namespace GoForm
theorem law26_IntegrateUnchanged_true (a0 : Body) (a1 : Settings) (a2 : Int) (w0 : Body.Wf a0) (w1 : Settings.Wf a1) (w2 : (IntKind.i64.min ≤ a2 ∧ a2 ≤ IntKind.i64.max)) : law26_IntegrateUnchanged a0 a1 a2 = some true := by
  unfold law26_IntegrateUnchanged
  rw [ref23_Small_eq, Bind_some, example26]
  cases hs : smallB a0
  · rfl
  have f : body_Equal a0 a0 = some true := by rw [body_Equal_eq a0 a0 (smallB_fix hs)]; simp
  have g : ({ { clearB a0 with Force := a0.Force } with Torque := a0.Torque } : Body) = a0 := by cases a0; rfl
  simp only [integrate_Velocity_eq, integrate_Position_eq, integrate_ClearForces_eq, Bind_some, Let_eq, cond_or, cond_and, g, f]
  have v : (a0.Kind != 3 || a0.Asleep) = true → velB a0 a1 = a0 := fun h => if_pos (by simpa using h)
  have p : (a0.Kind == 1 || a0.Asleep) = true → posB a0 a2 = a0 := fun h => if_pos (by simpa using h)
  cases c1 : (a0.Kind != 3 || a0.Asleep)
  · cases c2 : (a0.Kind == 1 || a0.Asleep)
    · rfl
    · rw [p c2]; simp [f]
  · rw [v c1]
    cases c2 : (a0.Kind == 1 || a0.Asleep)
    · simp [f]
    · rw [p c2]; simp [f]
theorem consB_iff (b : Body) : consB b = true ↔ (b.Kind = 1 → b.Velocity = ⟨0, 0⟩ ∧ b.AngularVelocity = 0 ∧ b.Force = ⟨0, 0⟩ ∧ b.Torque = 0) ∧ (b.Kind ≠ 3 → b.Asleep = false ∧ b.Bullet = false) ∧ (b.Asleep = true → b.Velocity = ⟨0, 0⟩ ∧ b.AngularVelocity = 0) := by
  unfold consB
  by_cases h1 : b.Kind = 1 ∧ (b.Velocity ≠ ⟨0, 0⟩ ∨ b.AngularVelocity ≠ 0 ∨ b.Force ≠ ⟨0, 0⟩ ∨ b.Torque ≠ 0)
  · rw [if_pos h1]; simp only [Bool.false_eq_true, false_iff]; grind
  rw [if_neg h1]
  by_cases h2 : b.Kind ≠ 3 ∧ (b.Asleep = true ∨ b.Bullet = true)
  · rw [if_pos h2]; simp only [Bool.false_eq_true, false_iff]; grind
  rw [if_neg h2, decide_eq_true_eq]
  cases hA : b.Asleep <;> cases hB : b.Bullet <;> grind
theorem velB_valid {b : Body} (s : Settings) (h : validB b = 0) : validB (velB b s) = 0 := by
  by_cases c : b.Kind ≠ 3 ∨ b.Asleep = true
  · rw [show velB b s = b from if_pos c]; exact h
  rw [show velB b s = _ from if_neg c]
  rw [validB_ok] at h ⊢
  obtain ⟨h1, h2, h3, h4, h5⟩ := h
  rw [consB_iff] at h5 ⊢
  refine ⟨h1, ?_, h3, h4, ?_⟩
  · unfold RngOk Bd Wn at h2 ⊢
    refine ⟨h2.1, h2.2.1, ⟨clampS_bd (by omega), clampS_bd (by omega)⟩, clampS_bd (by omega), h2.2.2.2.2⟩
  · have k3 : b.Kind = 3 := by omega
    have hA : b.Asleep = false := by
      cases h : b.Asleep
      · rfl
      · exact absurd (.inr h) c
    refine ⟨fun k => ?_, fun k => absurd k3 k, fun k => ?_⟩
    · have : b.Kind = 1 := k
      omega
    · have : b.Asleep = true := k
      rw [hA] at this; cases this
theorem confV_bd {x v lim : Int} (h : -lim ≤ v ∧ v ≤ lim) : -lim ≤ confV x v ∧ confV x v ≤ lim := by unfold confV; split <;> omega
theorem movedT_angle (b : Body) (dt : Int) : -205888 ≤ (movedT b dt).Angle ∧ (movedT b dt).Angle < 205888 := by
  have : (movedT b dt).Angle = normA (normA b.Transform.Angle + mulS b.AngularVelocity dt) := rfl
  rw [this]; exact normA_bd _
theorem confP_bd (x : Int) : -268435456 ≤ confP x ∧ confP x ≤ 268435456 := clampS_bd (by omega)
theorem posB_valid {b : Body} (dt : Int) (h : validB b = 0) : validB (posB b dt) = 0 := by
  by_cases c : b.Kind = 1 ∨ b.Asleep = true
  · rw [show posB b dt = b from if_pos c]; exact h
  rw [show posB b dt = _ from if_neg c]
  rw [validB_ok] at h ⊢
  obtain ⟨h1, h2, h3, h4, h5⟩ := h
  rw [consB_iff] at h5 ⊢
  refine ⟨h1, ?_, h3, h4, ?_⟩
  · obtain ⟨r1, r2, r3, r4⟩ := h2
    have a1 := confP_bd (movedT b dt).Position.X
    have a2 := confP_bd (movedT b dt).Position.Y
    have a3 := movedT_angle b dt
    have a4 := confV_bd (x := (movedT b dt).Position.X) (lim := 16777216) r3.1
    have a5 := confV_bd (x := (movedT b dt).Position.Y) (lim := 16777216) r3.2
    refine ⟨r1, ?_, ?_, r4⟩
    · generalize movedT b dt = t at *
      exact ⟨⟨a1, a2⟩, a3⟩
    · generalize movedT b dt = t at *
      exact ⟨a4, a5⟩
  · have hA : b.Asleep = false := by
      cases h : b.Asleep
      · rfl
      · exact absurd (.inr h) c
    refine ⟨fun k => absurd (.inl k) c, h5.2.1, fun k => ?_⟩
    have : b.Asleep = true := k
    rw [hA] at this; cases this
theorem clearB_valid {b : Body} (h : validB b = 0) : validB (clearB b) = 0 := by
  rw [validB_ok] at h ⊢
  obtain ⟨h1, h2, h3, h4, h5⟩ := h
  rw [consB_iff] at h5 ⊢
  refine ⟨h1, ?_, h3, h4, ?_⟩
  · unfold RngOk Bd Wn at h2 ⊢
    exact ⟨h2.1, h2.2.1, h2.2.2.1, h2.2.2.2.1, ⟨by simp [clearB], by simp [clearB]⟩, by simp [clearB], h2.2.2.2.2.2.2⟩
  · exact ⟨fun k => ⟨(h5.1 k).1, (h5.1 k).2.1, rfl, rfl⟩, h5.2.1, h5.2.2⟩
theorem velB_tr (b : Body) (s : Settings) : (velB b s).Transform = b.Transform := by unfold velB; split <;> rfl
theorem law26_IntegrateValid_true (a0 : Body) (a1 : Settings) (a2 : Int) (w0 : Body.Wf a0) (w1 : Settings.Wf a1) (w2 : (IntKind.i64.min ≤ a2 ∧ a2 ≤ IntKind.i64.max)) : law26_IntegrateValid a0 a1 a2 = some true := by
  unfold law26_IntegrateValid
  rw [ref23_Small_eq, Bind_some, example26]
  cases hs : smallB a0
  · rfl
  simp only [integrate_Velocity_eq, integrate_Position_eq, integrate_ClearForces_eq, body_Validate_eq, Bind_some, Let_eq, cond_or, cond_and]
  by_cases hv : validB a0 = 0
  · have v1 := velB_valid a1 hv
    have v2 := posB_valid a2 v1
    have v3 := clearB_valid v2
    simp [hv, v1, v2, v3, Vec_beq_eq, Transform_beq_eq, velB_tr]
    simp [clearB]
  · simp [hv]
theorem addS_zero {a : Int} (h : -536870911 ≤ a ∧ a ≤ 536870911) : addS a 0 = a := by
  unfold addS; rw [sat_id (x := 0) (by omega), sat_id (x := a) h, Int.add_zero, sat_id h]
theorem subS_zero {a : Int} (h : -536870911 ≤ a ∧ a ≤ 536870911) : subS a 0 = a := by
  unfold subS; rw [sat_id (x := 0) (by omega), sat_id (x := a) h, Int.sub_zero, sat_id h]
theorem rdv_zero (d : Int) : rdv 0 d = 0 := by have := rdv_abs 0 d; omega
theorem mulS_zl (a : Int) : mulS 0 a = 0 := by unfold mulS; rw [sat_id (x := 0) (by omega), Int.zero_mul, rdv_zero]; rfl
theorem mulS_zr (a : Int) : mulS a 0 = 0 := by unfold mulS; rw [sat_id (x := 0) (by omega), Int.mul_zero, rdv_zero]; rfl
/-- Damping by at most the whole: nearer to 0, on the same side. -/
theorem damp {v k : Int} (hv : -16777216 ≤ v ∧ v ≤ 16777216) (hk : 0 ≤ k ∧ k ≤ 65536) : (0 ≤ v → 0 ≤ subS v (mulS v k) ∧ subS v (mulS v k) ≤ v) ∧ (v ≤ 0 → v ≤ subS v (mulS v k) ∧ subS v (mulS v k) ≤ 0) := by
  have pos : ∀ v : Int, 0 ≤ v → v ≤ 16777216 → 0 ≤ rdv (v * k) 65536 ∧ rdv (v * k) 65536 ≤ v := by
    intro v h0 h1
    have h2 : 0 ≤ v * k := Int.mul_nonneg h0 hk.1
    have h3 : v * k ≤ v * 65536 := Int.mul_le_mul_of_nonneg_left hk.2 h0
    have := rdv_pos (n := v * k) (d := 65536) h2 (by omega) (by omega) (by omega)
    omega
  have e : mulS v k = rdv (v * k) 65536 := by
    unfold mulS
    rw [sat_id (x := v) (by omega), sat_id (x := k) (by omega)]
    apply sat_id
    by_cases h : 0 ≤ v
    · have := pos v h hv.2; omega
    · have := pos (-v) (by omega) (by omega)
      rw [Int.neg_mul, rdv_neg] at this; omega
  rw [e]
  unfold subS
  constructor
  · intro h
    have := pos v h hv.2
    rw [sat_id (x := v) (by omega), sat_id (x := rdv (v * k) 65536) (by omega), sat_id (by omega)]; omega
  · intro h
    have := pos (-v) (by omega) (by omega)
    rw [Int.neg_mul, rdv_neg] at this
    rw [sat_id (x := v) (by omega), sat_id (x := rdv (v * k) 65536) (by omega), sat_id (by omega)]; omega
def Near (x v : Int) : Prop := (0 ≤ v → 0 ≤ x ∧ x ≤ v) ∧ (v ≤ 0 → v ≤ x ∧ x ≤ 0)
theorem Near.self (v : Int) : Near v v := ⟨fun h => ⟨h, by omega⟩, fun h => ⟨by omega, h⟩⟩
theorem Near.zero (v : Int) : Near 0 v := ⟨fun h => ⟨by omega, h⟩, fun h => ⟨h, by omega⟩⟩
theorem Near.clamp {x v lim : Int} (h : Near x v) (hv : -lim ≤ v ∧ v ≤ lim) : Near (clampS x (-lim) lim) v := by
  rw [clampS_id]
  · exact h
  · unfold Near at h; omega
theorem mulS_k {d t : Int} (hd : 0 ≤ d ∧ d ≤ 65536) (ht : 0 ≤ t ∧ t ≤ 8192) : 0 ≤ mulS d t ∧ mulS d t ≤ 65536 := by
  have h2 : 0 ≤ d * t := Int.mul_nonneg hd.1 ht.1
  have h3 : d * t ≤ 65536 * 8192 := Int.mul_le_mul hd.2 ht.2 ht.1 (by omega)
  have h4 := rdv_pos (n := d * t) (d := 65536) h2 (by omega) (by omega) (by omega)
  unfold mulS
  rw [sat_id (x := d) (by omega), sat_id (x := t) (by omega), sat_id (by omega)]; omega
theorem damped {b : Body} {dt : Int} (hv : validB b = 0) (ht : 0 ≤ dt ∧ dt ≤ 8192) :
    Near (velB (clearB b) ⟨dt, Vec.zero, 0, 0⟩).Velocity.X b.Velocity.X ∧ Near (velB (clearB b) ⟨dt, Vec.zero, 0, 0⟩).Velocity.Y b.Velocity.Y ∧ Near (velB (clearB b) ⟨dt, Vec.zero, 0, 0⟩).AngularVelocity b.AngularVelocity := by
  rw [validB_ok] at hv
  obtain ⟨h1, h2, h3, h4, h5⟩ := hv
  unfold RngOk Bd Wn at h2
  obtain ⟨-, -, ⟨x1, x2⟩, x3, -, -, d1, d2, -⟩ := h2
  by_cases c : (clearB b).Kind ≠ 3 ∨ (clearB b).Asleep = true
  · rw [show velB (clearB b) _ = clearB b from if_pos c]
    exact ⟨Near.self _, Near.self _, Near.self _⟩
  rw [show velB (clearB b) ⟨dt, Vec.zero, 0, 0⟩ = _ from if_neg c]
  have k1 := mulS_k d1 ht
  have k2 := mulS_k d2 ht
  have vx : (velV (clearB b) ⟨dt, Vec.zero, 0, 0⟩).X = subS b.Velocity.X (mulS b.Velocity.X (mulS b.LinearDamping dt)) := by
    unfold velV addV scaleV subV clearB Vec.zero
    simp only [mulS_zl]
    rw [addS_zero (a := b.Velocity.X) (by omega), addS_zero (a := b.Velocity.X) (by omega)]
  have vy : (velV (clearB b) ⟨dt, Vec.zero, 0, 0⟩).Y = subS b.Velocity.Y (mulS b.Velocity.Y (mulS b.LinearDamping dt)) := by
    unfold velV addV scaleV subV clearB Vec.zero
    simp only [mulS_zl]
    rw [addS_zero (a := b.Velocity.Y) (by omega), addS_zero (a := b.Velocity.Y) (by omega)]
  have vw : velW (clearB b) ⟨dt, Vec.zero, 0, 0⟩ = subS b.AngularVelocity (mulS b.AngularVelocity (mulS b.AngularDamping dt)) := by
    unfold velW clearB
    simp only [mulS_zl]
    rw [addS_zero (a := b.AngularVelocity) (by omega)]
  refine ⟨?_, ?_, ?_⟩
  · show Near (clampS (velV (clearB b) ⟨dt, Vec.zero, 0, 0⟩).X (-16777216) 16777216) _
    rw [vx]; exact Near.clamp (damp (by omega) k1) (by omega)
  · show Near (clampS (velV (clearB b) ⟨dt, Vec.zero, 0, 0⟩).Y (-16777216) 16777216) _
    rw [vy]; exact Near.clamp (damp (by omega) k1) (by omega)
  · show Near (clampS (if b.FixedRotation = true then 0 else velW (clearB b) ⟨dt, Vec.zero, 0, 0⟩) (-4194304) 4194304) _
    split
    · exact Near.clamp (Near.zero _) (by omega)
    · rw [vw]; exact Near.clamp (damp (by omega) k2) (by omega)
theorem law26_IntegrateDamping_true (a0 : Body) (a1 : Int) (w0 : Body.Wf a0) (w1 : (IntKind.i64.min ≤ a1 ∧ a1 ≤ IntKind.i64.max)) : law26_IntegrateDamping a0 a1 = some true := by
  unfold law26_IntegrateDamping
  rw [ref23_Small_eq, Bind_some, example26]
  cases hs : smallB a0
  · rfl
  simp only [integrate_Velocity_eq, integrate_ClearForces_eq, body_Validate_eq, Bind_some, Let_eq, cond_or]
  by_cases hv : validB a0 = 0
  rotate_left
  · simp [hv]
  by_cases ht : 0 ≤ a1 ∧ a1 ≤ 8192
  rotate_left
  · simp [hv]; intro h; omega
  obtain ⟨n1, n2, n3⟩ := damped hv ht
  rw [if_pos (by rfl), Bind_some, if_neg (by simp [hv]; omega)]
  generalize velB (clearB a0) ⟨a1, Vec.zero, 0, 0⟩ = v at *
  have st : ∀ (n i : Nat) (x y : Int), i < 3 → (⟨v.Velocity.X, v.Velocity.Y, v.AngularVelocity⟩ : Arr3 Int).get (i : Int) = x → (⟨a0.Velocity.X, a0.Velocity.Y, a0.AngularVelocity⟩ : Arr3 Int).get (i : Int) = y → Near x y →
      law26_IntegrateDamping_l1 ⟨v.Velocity.X, v.Velocity.Y, v.AngularVelocity⟩ ⟨a0.Velocity.X, a0.Velocity.Y, a0.AngularVelocity⟩ law26_IntegrateDamping_j2 (n + 1) (i : Int) = law26_IntegrateDamping_l1 ⟨v.Velocity.X, v.Velocity.Y, v.AngularVelocity⟩ ⟨a0.Velocity.X, a0.Velocity.Y, a0.AngularVelocity⟩ law26_IntegrateDamping_j2 n ((i : Int) + 1) := by
    intro n i x y hi hx hy hN
    rw [law26_IntegrateDamping_l1, hx, hy]
    rw [if_pos (by simp; omega)]
    repeat rw [Chk_of (by first | omega | (intro _; omega))]
    rw [if_neg, Let_eq, w64_of _ (by omega)]
    unfold Near at hN
    simp only [cond_and, cond_or, Bool.or_eq_true, Bool.and_eq_true, decide_eq_true_eq]
    omega
  rw [show fuel = (fuel - 4) + 1 + 1 + 1 + 1 by have := fuel_lt 5 (by decide); omega]
  rw [show (0 : Int) = ((0 : Nat) : Int) from rfl, st _ 0 _ _ (by omega) rfl rfl n1]
  rw [show ((0 : Nat) : Int) + 1 = ((1 : Nat) : Int) from rfl, st _ 1 _ _ (by omega) rfl rfl n2]
  rw [show ((1 : Nat) : Int) + 1 = ((2 : Nat) : Int) from rfl, st _ 2 _ _ (by omega) rfl rfl n3]
  rw [law26_IntegrateDamping_l1, if_neg (by decide)]
  unfold law26_IntegrateDamping_j2
  rw [example26]; rfl
end GoForm
