/- Several texts in one. No conditions. -/
import Derived.Test.YtmmijieefobdgaaGreatF43D
import Derived.Test.YtmmijieefobdgaaGreatQF
section
set_option linter.all false
set_option maxRecDepth 100000
open Go Go.Rx
namespace GoForm
def zV : Vec := ⟨0, 0⟩
def zBody : Body := { ID := 0, Kind := 0, Transform := { Position := { X := 0, Y := 0 }, Angle := 0 }, Velocity := { X := 0, Y := 0 }, AngularVelocity := 0, Force := { X := 0, Y := 0 }, Torque := 0, LinearDamping := 0, AngularDamping := 0, GravityScale := 0, Bullet := false, FixedRotation := false, NoSleep := false, Asleep := false, IdleSteps := 0, Fixtures := [] }
theorem fuel20 : ∃ m, fuel = m + 20 := ⟨2 ^ 70 - 20, by unfold fuel; decide⟩
theorem bodyZ (b : Body) : ∃ be, body_Equal b zBody = some be ∧ caromref23_Equal b zBody = some be := by
  obtain ⟨m, hm⟩ := fuel20
  unfold body_Equal caromref23_Equal
  rw [hm]
  simp only [Let_nr]
  by_cases h : b.Fixtures = []
  · refine ⟨_, by rw [if_neg (by rw [h]; decide), LOOP_s, if_neg (by rw [h]; simp)], ?_⟩
    rw [if_neg (by rw [h]; decide), LOOP_s, if_neg (by rw [h]; simp)]
    have key : ∀ (c d e : Bool), ((!c) && d) = e → (if c = true then some false else some d) = some e := by
      intro c d e h; cases c <;> simp_all
    refine key _ _ _ ?_
    simp only [cond_or, cond_and]
    rw [Bool.eq_iff_iff]
    simp only [Bool.and_eq_true, Bool.or_eq_true, Bool.not_eq_true', Bool.or_eq_false_iff, bne_eq_false_iff_eq, Bool.not_eq_false', beq_iff_eq, decide_eq_true_iff]
    grind
  · have hl : b.Fixtures.length ≠ 0 := fun q => h (List.length_eq_zero_iff.1 q)
    refine ⟨false, ?_, ?_⟩ <;> rw [if_pos (by rw [bne_iff_ne]; show ((b.Fixtures.length : Int)) ≠ ((0 : Nat) : Int); omega)]
theorem Used_eq (k : Int) : caromref43_UsedFields k = input_UsedFields k := by
  unfold caromref43_UsedFields input_UsedFields; rfl
def sat (n : Int) : Bool := decide (-536870911 ≤ n) && decide (n ≤ 536870911)
theorem isSat_eq (n : Int) : input_isSaturated n = some (sat n) := by
  unfold input_isSaturated sat; simp only [Let_nr, cond_and]; try rfl
theorem unsat_eq (n : Int) : caromref43_unsaturated n = some (!sat n) := by
  unfold caromref43_unsaturated sat
  simp only [Let_nr, cond_or]
  by_cases h1 : -536870911 ≤ n <;> by_cases h2 : n ≤ 536870911 <;> simp [h1, h2] <;> try omega
theorem if_some2 {α : Type} {p : Prop} [Decidable p] (a b : α) : (if p then some a else some b) = some (if p then a else b) := by split <;> rfl
theorem Validate43_eq (x : Input) : ∃ e, input_Validate x = some e ∧ caromref43_Validate x = some e := by
  obtain ⟨be, hb1, hb2⟩ := bodyZ x.Body
  obtain ⟨u, hu⟩ : ∃ u, input_UsedFields x.Kind = some u := by
    unfold input_UsedFields
    simp only [Let_nr, Join_nr, if_some2]
    exact ⟨_, rfl⟩
  unfold input_Validate caromref43_Validate
  unfold zBody at hb1 hb2
  rw [Used_eq, hu]
  simp only [Let_nr, Join_nr, Bind_snr, hb1, hb2, isSat_eq, unsat_eq, Bind_if, cond_or, cond_and, if_some2]
  refine ⟨_, rfl, ?_⟩
  congr 1
  obtain ⟨u1, u2, u3⟩ := u
  simp only
  generalize (decide (x.Kind < 1) || decide (x.Kind > 12)) = k0
  generalize (decide (x.ID < 1) || decide (x.ID > 1099511627776)) = i0
  generalize sat x.Vec.X = sx
  generalize sat x.Vec.Y = sy
  generalize sat x.Value = sv
  generalize (x.ID != 0) = i1
  generalize (!(decide (x.Vec.X = 0) && decide (x.Vec.Y = 0))) = v1
  generalize (x.Value != 0) = v2
  generalize (x.Kind != 9) = k9
  generalize (x.Kind != 11) = k11
  generalize (!(decide (x.Joint.ID = 0) && _)) = jz
  cases k0
  · cases u1 <;> cases u2 <;> cases u3 <;> cases i0 <;> cases sx <;> cases sy <;> cases sv <;> (try rfl) <;> cases i1 <;> cases v1 <;> cases v2 <;> (try rfl) <;> cases k9 <;> cases be <;> (try rfl) <;> cases k11 <;> cases jz <;> rfl
  · rfl
end GoForm
end

section
set_option linter.all false
set_option maxRecDepth 100000
open Go Go.Rx
namespace GoForm
def fewB (b : Body) : Bool := decide ((b.Fixtures.length : Int) ≤ 8) && b.Fixtures.all (fun f => decide ((f.Shape.Vertices.length : Int) ≤ 20))
def allF {X : Type} (fin bad : X) : List Fixture → X
  | [] => fin
  | f :: t => if decide ((f.Shape.Vertices.length : Int) > 20) = true then bad else allF fin bad t
theorem allF_eq {X : Type} (fin bad : X) : ∀ l : List Fixture, allF fin bad l = if l.all (fun f => decide ((f.Shape.Vertices.length : Int) ≤ 20)) = true then fin else bad
  | [] => rfl
  | f :: t => by
    unfold allF; rw [allF_eq fin bad t]
    by_cases h : (f.Shape.Vertices.length : Int) > 20
    · have : decide ((f.Shape.Vertices.length : Int) ≤ 20) = false := decide_eq_false (by omega)
      simp only [h, decide_true, if_true, List.all_cons, this, Bool.false_and, ff, if_false]
    · have : decide ((f.Shape.Vertices.length : Int) ≤ 20) = true := decide_eq_true (by omega)
      simp only [decide_eq_false h, ff, if_false, List.all_cons, this, Bool.true_and]
def allB : List Body → Bool
  | [] => true
  | b :: t => if decide ((b.Fixtures.length : Int) > 8) = true then false else if b.Fixtures.all (fun f => decide ((f.Shape.Vertices.length : Int) ≤ 20)) = true then allB t else false
theorem allB_eq : ∀ l : List Body, allB l = l.all fewB
  | [] => rfl
  | b :: t => by
    unfold allB fewB; rw [allB_eq t]
    by_cases h : (b.Fixtures.length : Int) > 8
    · have : decide ((b.Fixtures.length : Int) ≤ 8) = false := decide_eq_false (by omega)
      simp only [h, decide_true, if_true, List.all_cons, this, Bool.false_and]
    · have : decide ((b.Fixtures.length : Int) ≤ 8) = true := decide_eq_true (by omega)
      simp only [decide_eq_false h, ff, if_false, List.all_cons, this, Bool.true_and]
      cases b.Fixtures.all (fun f => decide ((f.Shape.Vertices.length : Int) ≤ 20)) <;> rfl
theorem ref22_Few_eq (l : List Body) (n : Nat) (hn : n ≤ 10000) : caromref22_Few l (n : Int) = some (decide ((l.length : Int) ≤ (n : Int)) && l.all fewB) := by
  unfold caromref22_Few
  simp only [Let_nr]
  by_cases h : (l.length : Int) > (n : Int)
  · have : decide ((l.length : Int) ≤ (n : Int)) = false := decide_eq_false (by omega)
    simp only [h, decide_true, if_true, this, Bool.false_and]
  · have hh : decide ((l.length : Int) ≤ (n : Int)) = true := decide_eq_true (by omega)
    simp only [decide_eq_false h, ff, if_false, hh, Bool.true_and]
    rw [← allB_eq]
    refine LOOP_l0 l (fun t _ => some (allB t)) _ (sm_of (n := 10000) (by omega) (by omega)) ?_ ?_
    · intro r i t hw hc hm hr
      simp only [dlt hc, if_true, Chk_of hc, allB]
      by_cases h8 : ((ix l (i : Int)).Fixtures.length : Int) > 8
      · simp only [h8, decide_true, if_true]
      · simp only [decide_eq_false h8, ff, if_false]
        refine (LOOP_l0 (ix l (i : Int)).Fixtures (fun t _ => allF (r ((i : Int) + 1)) (some false) t) _ (sm_of (n := 8) (by omega) (by omega)) ?_ ?_).trans ?_
        · intro r2 j u hw2 hc2 hm2 hr2
          simp only [dlt hc2, if_true, Chk_of hc2, hw2, hr2, allF]
        · intro r2; simp only [dll, ff, if_false, hw, allF]
        · rw [allF_eq, hr]; split <;> rfl
    · intro r; simp only [dll, ff, if_false, allB]
def few (w : World_) : Bool := decide ((w.Joints.length : Int) ≤ 40) && decide ((w.Contacts.length : Int) ≤ 80) && decide ((w.Overlaps.length : Int) ≤ 80) && (decide ((w.Bodies.length : Int) ≤ 40) && w.Bodies.all fewB) && w.Contacts.all (fun c => decide ((c.Manifold.Points.length : Int) ≤ 8))
def allC : List Contact → Bool
  | [] => true
  | c :: t => if decide ((c.Manifold.Points.length : Int) > 8) = true then false else allC t
theorem allC_eq : ∀ l : List Contact, allC l = l.all (fun c => decide ((c.Manifold.Points.length : Int) ≤ 8))
  | [] => rfl
  | c :: t => by
    unfold allC; rw [allC_eq t]
    by_cases h : (c.Manifold.Points.length : Int) > 8
    · have : decide ((c.Manifold.Points.length : Int) ≤ 8) = false := decide_eq_false (by omega)
      simp only [h, decide_true, if_true, List.all_cons, this, Bool.false_and]
    · have : decide ((c.Manifold.Points.length : Int) ≤ 8) = true := decide_eq_true (by omega)
      simp only [decide_eq_false h, ff, if_false, List.all_cons, this, Bool.true_and]
theorem few43_one (x : Input) : ∃ b, caromlaw43_few [x] = some b := by
  obtain ⟨m, hm⟩ := fuel20
  have hB : caromref22_Few [x.Body] (1 : Int) = _ := ref22_Few_eq [x.Body] 1 (by omega)
  unfold caromlaw43_few
  simp only [Let_nr]
  rw [hm, if_neg (by simp), LOOP_s, if_pos (by simp), Chk_of (by simp)]
  show ∃ b, (Rx.Bind (caromref22_Few [x.Body] (1 : Int)) _) = some b
  rw [hB, Bind_snr]
  split
  · exact ⟨_, rfl⟩
  · rw [show IntKind.i64.wrap ((0 : Int) + 1) = 1 by decide, LOOP_s, if_neg (by simp)]
    exact ⟨_, rfl⟩
end GoForm
end

section
set_option linter.all false
set_option maxRecDepth 100000
open Go Go.Rx
namespace GoForm
theorem cl0 : slices_Clone = fun s => Rx.Chk (s.length * 152 ≤ 140737488355328) (some s) := by
  funext s; unfold slices_Clone; exact Alike_of (by intro h; subst h; rw [Chk_of (by simp)])
theorem cl107 : slices_Clone_107 = fun s => Rx.Chk (s.length * 192 ≤ 140737488355328) (some s) := by
  funext s; unfold slices_Clone_107; exact Alike_of (by intro h; subst h; rw [Chk_of (by simp)])
theorem cl108 : slices_Clone_108 = fun s => Rx.Chk (s.length * 72 ≤ 140737488355328) (some s) := by
  funext s; unfold slices_Clone_108; exact Alike_of (by intro h; subst h; rw [Chk_of (by simp)])
theorem cl109 : slices_Clone_109 = fun s => Rx.Chk (s.length * 32 ≤ 140737488355328) (some s) := by
  funext s; unfold slices_Clone_109; exact Alike_of (by intro h; subst h; rw [Chk_of (by simp)])
theorem example43 : caromlaw43_example = some true := by
  unfold caromlaw43_example input_Apply input_applyToBody world_WakeBody world_Clone
  simp only [cl0, cl107, cl108, cl109]
  kernel_rfl
end GoForm
end

section
set_option linter.all false
set_option maxRecDepth 100000
open Go Go.Rx
namespace GoForm
theorem InputValidation_true (x : Input) (k : Int) : caromlaw43_InputValidation x k = some true := by
  obtain ⟨f, hf⟩ := few43_one x
  obtain ⟨u, hu⟩ : ∃ u, input_UsedFields k = some u := by
    unfold input_UsedFields
    simp only [Let_nr, Join_nr, if_some2]
    exact ⟨_, rfl⟩
  obtain ⟨e, h1, h2⟩ := Validate43_eq x
  unfold caromlaw43_InputValidation
  rw [hf, example43, Used_eq, hu, h1, h2]
  simp only [Bind_snr, Let_nr]
  cases f <;> simp [Bind_snr]
end GoForm
end

section
/- Equality of fixtures and bodies, the program's and the reference's; a reference's clone. No conditions. -/
set_option linter.all false
set_option maxRecDepth 100000
open Go Go.Rx
namespace GoForm
theorem dec_of {p q : Prop} [Decidable p] [Decidable q] (h : p ↔ q) : decide p = decide q := by
  by_cases hp : p
  · rw [decide_eq_true hp, decide_eq_true (h.1 hp)]
  · rw [decide_eq_false hp, decide_eq_false (fun hq => hp (h.2 hq))]
theorem EV_eq (a b : List Vec) (h : Sm a) : slices_Equal_166 a b = some (decide (a = b)) := by
  unfold slices_Equal_166
  simp only [Let_nr]
  by_cases hl : a.length = b.length
  · rw [if_neg (by simp [hl]), LOOP_eq2 a b (some true) (some false) _ h hl ?_ ?_]
    · split <;> simp [*]
    · intro r i hw hc hc2 hm
      rw [if_pos (dlt hc), Chk_of hc, Chk_of hc2, hw]
      obtain ⟨x1, y1⟩ := ix a (i : Int)
      obtain ⟨x2, y2⟩ := ix b (i : Int)
      by_cases e1 : x1 = x2 <;> by_cases e2 : y1 = y2 <;> simp [e1, e2]
    · intro r; rw [dll, if_neg (by simp)]
  · have : a ≠ b := fun e => hl (by rw [e])
    rw [if_pos (by simp only [bne_iff_ne, ne_eq]; omega)]; simp [this]
theorem EV2_eq (a b : List Vec) (h : Sm a) : caromref12_EqualVecs a b = some (decide (a = b)) := by
  unfold caromref12_EqualVecs
  simp only [Let_nr]
  by_cases hl : a.length = b.length
  · rw [if_neg (by simp [hl]), LOOP_eq2 a b (some true) (some false) _ h hl ?_ ?_]
    · split <;> simp [*]
    · intro r i hw hc hc2 hm
      rw [if_pos (dlt hc), Chk_of hc, Chk_of hc2, hw]
      obtain ⟨x1, y1⟩ := ix a (i : Int)
      obtain ⟨x2, y2⟩ := ix b (i : Int)
      by_cases e1 : x1 = x2 <;> by_cases e2 : y1 = y2 <;> simp [e1, e2]
    · intro r; rw [dll, if_neg (by simp)]
  · have : a ≠ b := fun e => hl (by rw [e])
    rw [if_pos (by simp only [bne_iff_ne, ne_eq]; omega)]; simp [this]
theorem ES_eq (a b : Shape) (h : Sm a.Vertices) : shape_Equal a b = some (decide (a = b)) := by
  unfold shape_Equal
  simp only [Let_nr, EV_eq _ _ h]
  obtain ⟨k1, r1, v1⟩ := a
  obtain ⟨k2, r2, v2⟩ := b
  by_cases e1 : k1 = k2 <;> by_cases e2 : r1 = r2 <;> by_cases e3 : v1 = v2 <;> simp [e1, e2, e3, Bind_snr]
theorem ES2_eq (a b : Shape) (h : Sm a.Vertices) : caromref12_Equal a b = some (decide (a = b)) := by
  unfold caromref12_Equal
  simp only [Let_nr, EV2_eq _ _ h]
  obtain ⟨k1, r1, v1⟩ := a
  obtain ⟨k2, r2, v2⟩ := b
  by_cases e1 : k1 = k2 <;> by_cases e2 : r1 = r2 <;> by_cases e3 : v1 = v2 <;> simp [e1, e2, e3, Bind_snr]
theorem fix_dec (a b : Fixture) : decide (a = b) = (decide (a.Shape = b.Shape) && decide (a.Density = b.Density) && decide (a.Friction = b.Friction) && decide (a.Restitution = b.Restitution) && decide (a.Sensor = b.Sensor) && decide (a.Category = b.Category) && decide (a.Mask = b.Mask) && decide (a.Group = b.Group)) := by
  simp only [← Bool.decide_and]
  refine dec_of ?_
  constructor
  · intro e; subst e; simp
  · intro h; cases a; cases b; simp_all
theorem beqI (a b : Int) : (a == b) = decide (a = b) := rfl
theorem beqB (a b : Bool) : (a == b) = decide (a = b) := by cases a <;> cases b <;> rfl
theorem EFx_eq (a b : Fixture) (h : Sm a.Shape.Vertices) : body_equalFixtures a b = some (decide (a = b)) := by
  unfold body_equalFixtures
  simp only [Let_nr, ES_eq _ _ h, Bind_snr, fix_dec a b, beqI, beqB, cond_and]
  generalize decide (a.Shape = b.Shape) = x1
  generalize decide (a.Density = b.Density) = x2
  generalize decide (a.Friction = b.Friction) = x3
  generalize decide (a.Restitution = b.Restitution) = x4
  generalize decide (a.Sensor = b.Sensor) = x5
  generalize decide (a.Category = b.Category) = x6
  generalize decide (a.Mask = b.Mask) = x7
  generalize decide (a.Group = b.Group) = x8
  simp only [Bool.and_assoc]
theorem EFx2_eq (a b : Fixture) (h : Sm a.Shape.Vertices) : caromref23_EqualFixture a b = some (decide (a = b)) := by
  unfold caromref23_EqualFixture
  simp only [Let_nr, ES2_eq _ _ h, Bind_snr, fix_dec a b, beqI, beqB, cond_and]
structure Bd (b : Body) : Prop where
  sm : Sm b.Fixtures
  vs : ∀ f ∈ b.Fixtures, Sm f.Shape.Vertices
def bodR (a b : Body) : Bool := decide (a.ID = b.ID) && decide (a.Kind = b.Kind) && (decide (a.Transform.Position.X = b.Transform.Position.X) && decide (a.Transform.Position.Y = b.Transform.Position.Y) && decide (a.Transform.Angle = b.Transform.Angle)) && (decide (a.Velocity.X = b.Velocity.X) && decide (a.Velocity.Y = b.Velocity.Y)) && decide (a.AngularVelocity = b.AngularVelocity) && (decide (a.Force.X = b.Force.X) && decide (a.Force.Y = b.Force.Y)) && decide (a.Torque = b.Torque) && decide (a.LinearDamping = b.LinearDamping) && decide (a.AngularDamping = b.AngularDamping) && decide (a.GravityScale = b.GravityScale) && decide (a.Bullet = b.Bullet) && decide (a.FixedRotation = b.FixedRotation) && decide (a.NoSleep = b.NoSleep) && decide (a.Asleep = b.Asleep) && decide (a.IdleSteps = b.IdleSteps)
theorem body_dec (a b : Body) : decide (a = b) = (bodR a b && decide (a.Fixtures = b.Fixtures)) := by
  unfold bodR
  simp only [← Bool.decide_and]
  refine dec_of ?_
  constructor
  · intro e; subst e; simp
  · intro h
    obtain ⟨a1, a2, ⟨⟨a3, a4⟩, a5⟩, ⟨a6, a7⟩, a8, ⟨a9, a10⟩, a11, a12, a13, a14, a15, a16, a17, a18, a19, a20⟩ := a
    obtain ⟨b1, b2, ⟨⟨b3, b4⟩, b5⟩, ⟨b6, b7⟩, b8, ⟨b9, b10⟩, b11, b12, b13, b14, b15, b16, b17, b18, b19, b20⟩ := b
    simp_all
theorem body_fin (a b : Body) : (if a.Fixtures = b.Fixtures then some (bodR a b) else some false) = some (decide (a = b)) := by
  rw [body_dec]
  by_cases h : a.Fixtures = b.Fixtures <;> simp [h]
theorem EB_eq (a b : Body) (h : Bd a) : body_Equal a b = some (decide (a = b)) := by
  unfold body_Equal
  simp only [Let_nr]
  by_cases hl : a.Fixtures.length = b.Fixtures.length
  · rw [if_neg (by simp [hl]), LOOP_eq2 a.Fixtures b.Fixtures (some (bodR a b)) (some false) _ h.sm hl ?_ ?_, body_fin]
    · intro r i hw hc hc2 hm
      rw [if_pos (dlt hc), Chk_of hc, Chk_of hc2, hw, EFx_eq _ _ (h.vs _ hm), Bind_snr]
      by_cases e : ix a.Fixtures (i : Int) = ix b.Fixtures (i : Int) <;> simp [e]
    · intro r
      rw [dll, if_neg (by simp)]
      simp only [beqI, beqB, cond_and, bodR]
      generalize decide (a.ID = b.ID) = x1
      generalize decide (a.Kind = b.Kind) = x2
      generalize (decide (a.Transform.Position.X = b.Transform.Position.X) && decide (a.Transform.Position.Y = b.Transform.Position.Y) && decide (a.Transform.Angle = b.Transform.Angle)) = x3
      generalize (decide (a.Velocity.X = b.Velocity.X) && decide (a.Velocity.Y = b.Velocity.Y)) = x4
      generalize (decide (a.Force.X = b.Force.X) && decide (a.Force.Y = b.Force.Y)) = x5
      simp only [Bool.and_assoc]
  · have : a ≠ b := fun e => hl (by rw [e])
    rw [if_pos (by simp only [bne_iff_ne, ne_eq]; omega)]; simp [this]
theorem EB2_eq (a b : Body) (h : Bd a) : caromref23_Equal a b = some (decide (a = b)) := by
  unfold caromref23_Equal
  simp only [Let_nr]
  by_cases hl : a.Fixtures.length = b.Fixtures.length
  · rw [if_neg (by simp [hl]), LOOP_eq2 a.Fixtures b.Fixtures (some (bodR a b)) (some false) _ h.sm hl ?_ ?_, body_fin]
    · intro r i hw hc hc2 hm
      rw [dlt hc, dlt hc2, if_pos (by rfl), Chk_of hc, Chk_of hc2, hw, EFx2_eq _ _ (h.vs _ hm), Bind_snr]
      by_cases e : ix a.Fixtures (i : Int) = ix b.Fixtures (i : Int) <;> simp [e]
    · intro r
      rw [dll, if_neg (by simp)]
      simp only [beqI, beqB, cond_and, cond_or, bodR, bne]
      generalize decide (a.ID = b.ID) = x1
      generalize decide (a.Kind = b.Kind) = x2
      generalize (decide (a.Transform.Position.X = b.Transform.Position.X) && decide (a.Transform.Position.Y = b.Transform.Position.Y) && decide (a.Transform.Angle = b.Transform.Angle)) = x3
      generalize (decide (a.Velocity.X = b.Velocity.X) && decide (a.Velocity.Y = b.Velocity.Y)) = x4
      generalize (decide (a.Force.X = b.Force.X) && decide (a.Force.Y = b.Force.Y)) = x5
      generalize decide (a.AngularVelocity = b.AngularVelocity) = x6
      generalize decide (a.Torque = b.Torque) = x7
      cases x1 <;> cases x2 <;> cases x3 <;> cases x4 <;> cases x5 <;> cases x6 <;> cases x7 <;> simp
  · have : a ≠ b := fun e => hl (by rw [e])
    rw [if_pos (by simp only [bne_iff_ne, ne_eq]; omega)]; simp [this]
theorem CS_eq (s : Shape) (h : s.Vertices.length ≤ 1000000) : caromref12_Clone s = some s := by
  unfold caromref12_Clone; rw [Chk_of (by omega)]
theorem CB_eq (b : Body) (h : b.Fixtures.length ≤ 1000000) (hv : ∀ f ∈ b.Fixtures, f.Shape.Vertices.length ≤ 1000000) : caromref23_Clone b = some b := by
  unfold caromref23_Clone
  simp only [Let_nr]
  refine (LOOP_i b.Fixtures (fun i s => s = b.Fixtures.take i) (fun _ _ _ => some b) _ [] (sm_of h (by omega)) rfl ?_ ?_).trans rfl
  · rintro r i t s rfl hw hc hm hr
    have hv1 := hv _ hm
    have hi : i < b.Fixtures.length := by omega
    have ht : (b.Fixtures.take i).length ≤ 1000000 := by rw [List.length_take]; omega
    have ht2 : b.Fixtures.take (i + 1) = b.Fixtures.take i ++ [ix b.Fixtures (i : Int)] := by
      rw [List.take_succ, ix_lt _ _ hi, List.getElem?_eq_getElem hi]; rfl
    have hr := hr _ rfl
    rw [ht2] at hr
    rw [if_pos (dlt hc), Chk_of hc, CS_eq _ hv1, Bind_snr, Chk_of (by simp only [List.length_singleton]; omega), hw]
    exact hr
  · rintro r s rfl
    rw [dll, if_neg (by simp), List.take_length]
theorem allF8 (b : Body) (h : fewB b = true) : b.Fixtures.length ≤ 8 ∧ ∀ f ∈ b.Fixtures, f.Shape.Vertices.length ≤ 20 := by
  unfold fewB at h
  rw [Bool.and_eq_true, List.all_eq_true] at h
  refine ⟨by have := of_decide_eq_true h.1; omega, fun f hf => by have := of_decide_eq_true (h.2 f hf); omega⟩
theorem few43_two (x y : Input) : caromlaw43_few [x, y] = some (fewB x.Body && fewB y.Body) := by
  obtain ⟨m, hm⟩ := fuel20
  have hB : ∀ z : Body, caromref22_Few [z] (1 : Int) = some (fewB z) := fun z => by
    have := ref22_Few_eq [z] 1 (by omega)
    simpa using this
  unfold caromlaw43_few
  simp only [Let_nr]
  rw [hm, if_neg (by simp), LOOP_s, if_pos (by simp), Chk_of (by simp)]
  rw [show ix [x, y] (0 : Int) = x from rfl, hB, Bind_snr]
  cases hx : fewB x.Body
  · simp
  · rw [if_neg (by simp), show IntKind.i64.wrap ((0 : Int) + 1) = 1 by decide, LOOP_s, if_pos (by simp), Chk_of (by simp)]
    rw [show ix [x, y] (1 : Int) = y from rfl, hB, Bind_snr]
    cases hy : fewB y.Body
    · simp
    · rw [if_neg (by simp), show IntKind.i64.wrap ((1 : Int) + 1) = 2 by decide, LOOP_s, if_neg (by simp)]
      simp
theorem EI_eq (x y : Input) (h : Bd x.Body) : ∃ q, input_Equal x y = some q ∧ caromref43_Equal x y = some q ∧ (x = y → q = true) := by
  unfold input_Equal caromref43_Equal
  simp only [Let_nr, EB_eq _ _ h, EB2_eq _ _ h, cond_and, Bind_if]
  refine ⟨_, rfl, ?_, ?_⟩
  · generalize (x.Kind == y.Kind) = x1
    generalize (x.ID == y.ID) = x2
    generalize (decide (x.Vec.X = y.Vec.X) && decide (x.Vec.Y = y.Vec.Y)) = x3
    generalize (x.Value == y.Value) = x4
    generalize (decide (x.Body = y.Body)) = x5
    refine congrArg some ?_
    generalize hz : (decide (x.Joint.ID = y.Joint.ID) && _) = x6
    cases x1 <;> cases x2 <;> cases x3 <;> cases x4 <;> cases x5 <;> cases x6 <;> rfl
  · intro e; subst e; simp
end GoForm
end
