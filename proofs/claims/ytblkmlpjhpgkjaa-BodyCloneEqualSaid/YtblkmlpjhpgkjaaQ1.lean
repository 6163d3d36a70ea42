/- Equality of fixtures and bodies, the program's and the reference's; a reference's clone. No conditions. -/
import Derived.Test.YtblkmlpjhpgkjaaF23D
import Derived.Test.YtblkmlpjhpgkjaaQF
set_option linter.all false
set_option maxRecDepth 100000
open Go Go.Rx
namespace GoForm
theorem dec_of {p q : Prop} [Decidable p] [Decidable q] (h : p ↔ q) : decide p = decide q := by
  by_cases hp : p
  · rw [decide_eq_true hp, decide_eq_true (h.1 hp)]
  · rw [decide_eq_false hp, decide_eq_false (fun hq => hp (h.2 hq))]
theorem EV_eq (a b : List Vec) (h : Sm a) : slices_Equal a b = some (decide (a = b)) := by
  unfold slices_Equal
  simp only [Let_nr]
  by_cases hl : a.length = b.length
  · rw [if_neg (by simp [hl]), LOOP_eq2 a b (some true) (some false) _ h hl ?_ ?_]
    · split <;> simp [*]
    · intro r i hw hc hc2 hm
      rw [if_pos (dlt hc), Chk_of hc, Chk_of hc2, hw]
      obtain ⟨x1, y1⟩ := ix a (i : Int)
      obtain ⟨x2, y2⟩ := ix b (i : Int)
      by_cases e1 : x1 = x2 <;> by_cases e2 : y1 = y2 <;> simp [e1, e2]
    · intro r; rw [dll, if_neg (by simp)]
  · have : a ≠ b := fun e => hl (by rw [e])
    rw [if_pos (by simp only [bne_iff_ne, ne_eq]; omega)]; simp [this]
theorem EV2_eq (a b : List Vec) (h : Sm a) : caromref12_EqualVecs a b = some (decide (a = b)) := by
  unfold caromref12_EqualVecs
  simp only [Let_nr]
  by_cases hl : a.length = b.length
  · rw [if_neg (by simp [hl]), LOOP_eq2 a b (some true) (some false) _ h hl ?_ ?_]
    · split <;> simp [*]
    · intro r i hw hc hc2 hm
      rw [if_pos (dlt hc), Chk_of hc, Chk_of hc2, hw]
      obtain ⟨x1, y1⟩ := ix a (i : Int)
      obtain ⟨x2, y2⟩ := ix b (i : Int)
      by_cases e1 : x1 = x2 <;> by_cases e2 : y1 = y2 <;> simp [e1, e2]
    · intro r; rw [dll, if_neg (by simp)]
  · have : a ≠ b := fun e => hl (by rw [e])
    rw [if_pos (by simp only [bne_iff_ne, ne_eq]; omega)]; simp [this]
theorem ES_eq (a b : Shape) (h : Sm a.Vertices) : shape_Equal a b = some (decide (a = b)) := by
  unfold shape_Equal
  simp only [Let_nr, EV_eq _ _ h]
  obtain ⟨k1, r1, v1⟩ := a
  obtain ⟨k2, r2, v2⟩ := b
  by_cases e1 : k1 = k2 <;> by_cases e2 : r1 = r2 <;> by_cases e3 : v1 = v2 <;> simp [e1, e2, e3, Bind_snr]
theorem ES2_eq (a b : Shape) (h : Sm a.Vertices) : caromref12_Equal a b = some (decide (a = b)) := by
  unfold caromref12_Equal
  simp only [Let_nr, EV2_eq _ _ h]
  obtain ⟨k1, r1, v1⟩ := a
  obtain ⟨k2, r2, v2⟩ := b
  by_cases e1 : k1 = k2 <;> by_cases e2 : r1 = r2 <;> by_cases e3 : v1 = v2 <;> simp [e1, e2, e3, Bind_snr]
theorem fix_dec (a b : Fixture) : decide (a = b) = (decide (a.Shape = b.Shape) && decide (a.Density = b.Density) && decide (a.Friction = b.Friction) && decide (a.Restitution = b.Restitution) && decide (a.Sensor = b.Sensor) && decide (a.Category = b.Category) && decide (a.Mask = b.Mask) && decide (a.Group = b.Group)) := by
  simp only [← Bool.decide_and]
  refine dec_of ?_
  constructor
  · intro e; subst e; simp
  · intro h; cases a; cases b; simp_all
theorem beqI (a b : Int) : (a == b) = decide (a = b) := rfl
theorem beqB (a b : Bool) : (a == b) = decide (a = b) := by cases a <;> cases b <;> rfl
theorem EFx_eq (a b : Fixture) (h : Sm a.Shape.Vertices) : body_equalFixtures a b = some (decide (a = b)) := by
  unfold body_equalFixtures
  simp only [Let_nr, ES_eq _ _ h, Bind_snr, fix_dec a b, beqI, beqB, cond_and]
  generalize decide (a.Shape = b.Shape) = x1
  generalize decide (a.Density = b.Density) = x2
  generalize decide (a.Friction = b.Friction) = x3
  generalize decide (a.Restitution = b.Restitution) = x4
  generalize decide (a.Sensor = b.Sensor) = x5
  generalize decide (a.Category = b.Category) = x6
  generalize decide (a.Mask = b.Mask) = x7
  generalize decide (a.Group = b.Group) = x8
  simp only [Bool.and_assoc]
theorem EFx2_eq (a b : Fixture) (h : Sm a.Shape.Vertices) : caromref23_EqualFixture a b = some (decide (a = b)) := by
  unfold caromref23_EqualFixture
  simp only [Let_nr, ES2_eq _ _ h, Bind_snr, fix_dec a b, beqI, beqB, cond_and]
structure Bd (b : Body) : Prop where
  sm : Sm b.Fixtures
  vs : ∀ f ∈ b.Fixtures, Sm f.Shape.Vertices
def bodR (a b : Body) : Bool := decide (a.ID = b.ID) && decide (a.Kind = b.Kind) && (decide (a.Transform.Position.X = b.Transform.Position.X) && decide (a.Transform.Position.Y = b.Transform.Position.Y) && decide (a.Transform.Angle = b.Transform.Angle)) && (decide (a.Velocity.X = b.Velocity.X) && decide (a.Velocity.Y = b.Velocity.Y)) && decide (a.AngularVelocity = b.AngularVelocity) && (decide (a.Force.X = b.Force.X) && decide (a.Force.Y = b.Force.Y)) && decide (a.Torque = b.Torque) && decide (a.LinearDamping = b.LinearDamping) && decide (a.AngularDamping = b.AngularDamping) && decide (a.GravityScale = b.GravityScale) && decide (a.Bullet = b.Bullet) && decide (a.FixedRotation = b.FixedRotation) && decide (a.NoSleep = b.NoSleep) && decide (a.Asleep = b.Asleep) && decide (a.IdleSteps = b.IdleSteps)
theorem body_dec (a b : Body) : decide (a = b) = (bodR a b && decide (a.Fixtures = b.Fixtures)) := by
  unfold bodR
  simp only [← Bool.decide_and]
  refine dec_of ?_
  constructor
  · intro e; subst e; simp
  · intro h
    obtain ⟨a1, a2, ⟨⟨a3, a4⟩, a5⟩, ⟨a6, a7⟩, a8, ⟨a9, a10⟩, a11, a12, a13, a14, a15, a16, a17, a18, a19, a20⟩ := a
    obtain ⟨b1, b2, ⟨⟨b3, b4⟩, b5⟩, ⟨b6, b7⟩, b8, ⟨b9, b10⟩, b11, b12, b13, b14, b15, b16, b17, b18, b19, b20⟩ := b
    simp_all
theorem body_fin (a b : Body) : (if a.Fixtures = b.Fixtures then some (bodR a b) else some false) = some (decide (a = b)) := by
  rw [body_dec]
  by_cases h : a.Fixtures = b.Fixtures <;> simp [h]
theorem EB_eq (a b : Body) (h : Bd a) : body_Equal a b = some (decide (a = b)) := by
  unfold body_Equal
  simp only [Let_nr]
  by_cases hl : a.Fixtures.length = b.Fixtures.length
  · rw [if_neg (by simp [hl]), LOOP_eq2 a.Fixtures b.Fixtures (some (bodR a b)) (some false) _ h.sm hl ?_ ?_, body_fin]
    · intro r i hw hc hc2 hm
      rw [if_pos (dlt hc), Chk_of hc, Chk_of hc2, hw, EFx_eq _ _ (h.vs _ hm), Bind_snr]
      by_cases e : ix a.Fixtures (i : Int) = ix b.Fixtures (i : Int) <;> simp [e]
    · intro r
      rw [dll, if_neg (by simp)]
      simp only [beqI, beqB, cond_and, bodR]
      generalize decide (a.ID = b.ID) = x1
      generalize decide (a.Kind = b.Kind) = x2
      generalize (decide (a.Transform.Position.X = b.Transform.Position.X) && decide (a.Transform.Position.Y = b.Transform.Position.Y) && decide (a.Transform.Angle = b.Transform.Angle)) = x3
      generalize (decide (a.Velocity.X = b.Velocity.X) && decide (a.Velocity.Y = b.Velocity.Y)) = x4
      generalize (decide (a.Force.X = b.Force.X) && decide (a.Force.Y = b.Force.Y)) = x5
      simp only [Bool.and_assoc]
  · have : a ≠ b := fun e => hl (by rw [e])
    rw [if_pos (by simp only [bne_iff_ne, ne_eq]; omega)]; simp [this]
theorem EB2_eq (a b : Body) (h : Bd a) : caromref23_Equal a b = some (decide (a = b)) := by
  unfold caromref23_Equal
  simp only [Let_nr]
  by_cases hl : a.Fixtures.length = b.Fixtures.length
  · rw [if_neg (by simp [hl]), LOOP_eq2 a.Fixtures b.Fixtures (some (bodR a b)) (some false) _ h.sm hl ?_ ?_, body_fin]
    · intro r i hw hc hc2 hm
      rw [dlt hc, dlt hc2, if_pos (by rfl), Chk_of hc, Chk_of hc2, hw, EFx2_eq _ _ (h.vs _ hm), Bind_snr]
      by_cases e : ix a.Fixtures (i : Int) = ix b.Fixtures (i : Int) <;> simp [e]
    · intro r
      rw [dll, if_neg (by simp)]
      simp only [beqI, beqB, cond_and, cond_or, bodR, bne]
      generalize decide (a.ID = b.ID) = x1
      generalize decide (a.Kind = b.Kind) = x2
      generalize (decide (a.Transform.Position.X = b.Transform.Position.X) && decide (a.Transform.Position.Y = b.Transform.Position.Y) && decide (a.Transform.Angle = b.Transform.Angle)) = x3
      generalize (decide (a.Velocity.X = b.Velocity.X) && decide (a.Velocity.Y = b.Velocity.Y)) = x4
      generalize (decide (a.Force.X = b.Force.X) && decide (a.Force.Y = b.Force.Y)) = x5
      generalize decide (a.AngularVelocity = b.AngularVelocity) = x6
      generalize decide (a.Torque = b.Torque) = x7
      cases x1 <;> cases x2 <;> cases x3 <;> cases x4 <;> cases x5 <;> cases x6 <;> cases x7 <;> simp
  · have : a ≠ b := fun e => hl (by rw [e])
    rw [if_pos (by simp only [bne_iff_ne, ne_eq]; omega)]; simp [this]
theorem fuel20 : ∃ m, fuel = m + 20 := ⟨2 ^ 70 - 20, by unfold fuel; decide⟩
theorem cl0 : slices_Clone = fun s => Rx.Chk (s.length * 16 ≤ 140737488355328) (some s) := by
  funext s; unfold slices_Clone; exact Alike_of (by intro h; subst h; rw [Chk_of (by simp)])
theorem example23 : caromlaw23_example = some true := by
  unfold caromlaw23_example body_Clone shape_Clone
  simp only [cl0]
  kernel_rfl
theorem Small_ex (b : Body) : ∃ s, caromref23_Small b = some s ∧ (s = true → b.Fixtures.length ≤ 8 ∧ ∀ f ∈ b.Fixtures, f.Shape.Vertices.length ≤ 20) := by
  unfold caromref23_Small
  simp only [Let_nr]
  have key : ∀ (n i : Nat), i ≤ 8 → 8 - i < n → ∃ s, LOOP (fun (rec1 : Int → Option Bool) (s2 : Int) =>
      if (bif decide (s2 < (↑b.Fixtures.length : Int)) then decide (s2 < (8 : Int)) else false) = true then
        Rx.Chk ((0 : Int) ≤ s2 ∧ s2 < (↑b.Fixtures.length : Int)) (if decide ((↑(ix b.Fixtures s2).Shape.Vertices.length : Int) > (20 : Int)) = true then some false else rec1 (IntKind.i64.wrap (s2 + (1 : Int))))
      else some (decide ((↑b.Fixtures.length : Int) ≤ (8 : Int)))) n (i : Int) = some s ∧ (s = true → b.Fixtures.length ≤ 8 ∧ ∀ j, i ≤ j → j < b.Fixtures.length → (ix b.Fixtures (j : Int)).Shape.Vertices.length ≤ 20) := by
    intro n
    induction n with
    | zero => intro i h1 h2; omega
    | succ n ih =>
      intro i h1 h2
      rw [LOOP_s]
      by_cases hc : i < b.Fixtures.length ∧ i < 8
      · rw [decide_eq_true (show (i : Int) < (b.Fixtures.length : Int) by omega), decide_eq_true (show (i : Int) < 8 by omega), if_pos (by rfl), Chk_of (by omega)]
        by_cases hv : ((ix b.Fixtures (i : Int)).Shape.Vertices.length : Int) > 20
        · rw [if_pos (decide_eq_true hv)]
          exact ⟨false, rfl, fun h => by cases h⟩
        · rw [if_neg (by rw [decide_eq_false hv]; simp), w64_s i (by omega)]
          obtain ⟨s, h3, h4⟩ := ih (i + 1) (by omega) (by omega)
          refine ⟨s, h3, fun hs => ⟨(h4 hs).1, fun j hj1 hj2 => ?_⟩⟩
          by_cases e : j = i
          · subst e; omega
          · exact (h4 hs).2 j (by omega) hj2
      · rw [if_neg (by
          by_cases h3 : i < b.Fixtures.length
          · rw [decide_eq_false (show ¬ (i : Int) < 8 by omega)]; simp
          · rw [decide_eq_false (show ¬ (i : Int) < (b.Fixtures.length : Int) by omega)]; simp)]
        refine ⟨_, rfl, fun hs => ?_⟩
        have := of_decide_eq_true hs
        exact ⟨by omega, fun j hj1 hj2 => by omega⟩
  obtain ⟨s, h1, h2⟩ := key fuel 0 (by omega) (by unfold fuel; decide)
  refine ⟨s, h1, fun hs => ⟨(h2 hs).1, fun f hf => ?_⟩⟩
  obtain ⟨j, hj, e⟩ := List.getElem_of_mem hf
  have := (h2 hs).2 j (by omega) hj
  rw [ix_lt _ _ hj, e] at this
  exact this
end GoForm
