/- Several texts in one. No conditions. -/
import Derived.Test.YtffgldbihpgjgaaGreatDoorF47D
import Derived.Test.YtffgldbihpgjgaaGreatDoorQF
import Derived.Test.YtffgldbihpgjgaaGreatDoorGX
section
/- Inputs: validation and equality, the program's and the reference's. No conditions. -/
set_option linter.all false
set_option maxRecDepth 100000
open Go Go.Rx
namespace GoForm
def zBody : Body := { ID := 0, Kind := 0, Transform := { Position := { X := 0, Y := 0 }, Angle := 0 }, Velocity := { X := 0, Y := 0 }, AngularVelocity := 0, Force := { X := 0, Y := 0 }, Torque := 0, LinearDamping := 0, AngularDamping := 0, GravityScale := 0, Bullet := false, FixedRotation := false, NoSleep := false, Asleep := false, IdleSteps := 0, Fixtures := [] }
theorem fuel20 : ∃ m, fuel = m + 20 := ⟨2 ^ 70 - 20, by unfold fuel; decide⟩
theorem bodyZ (b : Body) : ∃ be, body_Equal b zBody = some be ∧ caromref23_Equal b zBody = some be := by
  obtain ⟨m, hm⟩ := fuel20
  unfold body_Equal caromref23_Equal
  rw [hm]
  simp only [Let_nr]
  by_cases h : b.Fixtures = []
  · refine ⟨_, by rw [if_neg (by rw [h]; decide), LOOP_s, if_neg (by rw [h]; simp)], ?_⟩
    rw [if_neg (by rw [h]; decide), LOOP_s, if_neg (by rw [h]; simp)]
    have key : ∀ (c d e : Bool), ((!c) && d) = e → (if c = true then some false else some d) = some e := by
      intro c d e h; cases c <;> simp_all
    refine key _ _ _ ?_
    simp only [cond_or, cond_and]
    rw [Bool.eq_iff_iff]
    simp only [Bool.and_eq_true, Bool.or_eq_true, Bool.not_eq_true', Bool.or_eq_false_iff, bne_eq_false_iff_eq, Bool.not_eq_false', beq_iff_eq, decide_eq_true_iff]
    grind
  · have hl : b.Fixtures.length ≠ 0 := fun q => h (List.length_eq_zero_iff.1 q)
    refine ⟨false, ?_, ?_⟩ <;> rw [if_pos (by rw [bne_iff_ne]; show ((b.Fixtures.length : Int)) ≠ ((0 : Nat) : Int); omega)]
theorem Used_eq (k : Int) : caromref43_UsedFields k = input_UsedFields k := by
  unfold caromref43_UsedFields input_UsedFields; rfl
def sat (n : Int) : Bool := decide (-536870911 ≤ n) && decide (n ≤ 536870911)
theorem isSat_eq (n : Int) : input_isSaturated n = some (sat n) := by
  unfold input_isSaturated sat; simp only [Let_nr, cond_and]; try rfl
theorem unsat_eq (n : Int) : caromref43_unsaturated n = some (!sat n) := by
  unfold caromref43_unsaturated sat
  simp only [Let_nr, cond_or]
  by_cases h1 : -536870911 ≤ n <;> by_cases h2 : n ≤ 536870911 <;> simp [h1, h2] <;> try omega
theorem if_some2 {α : Type} {p : Prop} [Decidable p] (a b : α) : (if p then some a else some b) = some (if p then a else b) := by split <;> rfl
theorem Validate43_eq (x : Input) : ∃ e, input_Validate x = some e ∧ caromref43_Validate x = some e := by
  obtain ⟨be, hb1, hb2⟩ := bodyZ x.Body
  obtain ⟨u, hu⟩ : ∃ u, input_UsedFields x.Kind = some u := by
    unfold input_UsedFields
    simp only [Let_nr, Join_nr, if_some2]
    exact ⟨_, rfl⟩
  unfold input_Validate caromref43_Validate
  unfold zBody at hb1 hb2
  rw [Used_eq, hu]
  simp only [Let_nr, Join_nr, Bind_snr, hb1, hb2, isSat_eq, unsat_eq, Bind_if, cond_or, cond_and, if_some2]
  refine ⟨_, rfl, ?_⟩
  congr 1
  obtain ⟨u1, u2, u3⟩ := u
  simp only
  generalize (decide (x.Kind < 1) || decide (x.Kind > 12)) = k0
  generalize (decide (x.ID < 1) || decide (x.ID > 1099511627776)) = i0
  generalize sat x.Vec.X = sx
  generalize sat x.Vec.Y = sy
  generalize sat x.Value = sv
  generalize (x.ID != 0) = i1
  generalize (!(decide (x.Vec.X = 0) && decide (x.Vec.Y = 0))) = v1
  generalize (x.Value != 0) = v2
  generalize (x.Kind != 9) = k9
  generalize (x.Kind != 11) = k11
  generalize (!(decide (x.Joint.ID = 0) && _)) = jz
  cases k0
  · cases u1 <;> cases u2 <;> cases u3 <;> cases i0 <;> cases sx <;> cases sy <;> cases sv <;> (try rfl) <;> cases i1 <;> cases v1 <;> cases v2 <;> (try rfl) <;> cases k9 <;> cases be <;> (try rfl) <;> cases k11 <;> cases jz <;> rfl
  · rfl
theorem dec_of {p q : Prop} [Decidable p] [Decidable q] (h : p ↔ q) : decide p = decide q := by
  by_cases hp : p
  · rw [decide_eq_true hp, decide_eq_true (h.1 hp)]
  · rw [decide_eq_false hp, decide_eq_false (fun hq => hp (h.2 hq))]
theorem EV_eq (a b : List Vec) (h : Sm a) : slices_Equal a b = some (decide (a = b)) := by
  unfold slices_Equal
  simp only [Let_nr]
  by_cases hl : a.length = b.length
  · rw [if_neg (by simp [hl]), LOOP_eq2 a b (some true) (some false) _ h hl ?_ ?_]
    · split <;> simp [*]
    · intro r i hw hc hc2 hm
      rw [if_pos (dlt hc), Chk_of hc, Chk_of hc2, hw]
      obtain ⟨x1, y1⟩ := ix a (i : Int)
      obtain ⟨x2, y2⟩ := ix b (i : Int)
      by_cases e1 : x1 = x2 <;> by_cases e2 : y1 = y2 <;> simp [e1, e2]
    · intro r; rw [dll, if_neg (by simp)]
  · have : a ≠ b := fun e => hl (by rw [e])
    rw [if_pos (by simp only [bne_iff_ne, ne_eq]; omega)]; simp [this]
theorem EV2_eq (a b : List Vec) (h : Sm a) : caromref12_EqualVecs a b = some (decide (a = b)) := by
  unfold caromref12_EqualVecs
  simp only [Let_nr]
  by_cases hl : a.length = b.length
  · rw [if_neg (by simp [hl]), LOOP_eq2 a b (some true) (some false) _ h hl ?_ ?_]
    · split <;> simp [*]
    · intro r i hw hc hc2 hm
      rw [if_pos (dlt hc), Chk_of hc, Chk_of hc2, hw]
      obtain ⟨x1, y1⟩ := ix a (i : Int)
      obtain ⟨x2, y2⟩ := ix b (i : Int)
      by_cases e1 : x1 = x2 <;> by_cases e2 : y1 = y2 <;> simp [e1, e2]
    · intro r; rw [dll, if_neg (by simp)]
  · have : a ≠ b := fun e => hl (by rw [e])
    rw [if_pos (by simp only [bne_iff_ne, ne_eq]; omega)]; simp [this]
theorem ES_eq (a b : Shape) (h : Sm a.Vertices) : shape_Equal a b = some (decide (a = b)) := by
  unfold shape_Equal
  simp only [Let_nr, EV_eq _ _ h]
  obtain ⟨k1, r1, v1⟩ := a
  obtain ⟨k2, r2, v2⟩ := b
  by_cases e1 : k1 = k2 <;> by_cases e2 : r1 = r2 <;> by_cases e3 : v1 = v2 <;> simp [e1, e2, e3, Bind_snr]
theorem ES2_eq (a b : Shape) (h : Sm a.Vertices) : caromref12_Equal a b = some (decide (a = b)) := by
  unfold caromref12_Equal
  simp only [Let_nr, EV2_eq _ _ h]
  obtain ⟨k1, r1, v1⟩ := a
  obtain ⟨k2, r2, v2⟩ := b
  by_cases e1 : k1 = k2 <;> by_cases e2 : r1 = r2 <;> by_cases e3 : v1 = v2 <;> simp [e1, e2, e3, Bind_snr]
theorem fix_dec (a b : Fixture) : decide (a = b) = (decide (a.Shape = b.Shape) && decide (a.Density = b.Density) && decide (a.Friction = b.Friction) && decide (a.Restitution = b.Restitution) && decide (a.Sensor = b.Sensor) && decide (a.Category = b.Category) && decide (a.Mask = b.Mask) && decide (a.Group = b.Group)) := by
  simp only [← Bool.decide_and]
  refine dec_of ?_
  constructor
  · intro e; subst e; simp
  · intro h; cases a; cases b; simp_all
theorem beqI (a b : Int) : (a == b) = decide (a = b) := rfl
theorem beqB (a b : Bool) : (a == b) = decide (a = b) := by cases a <;> cases b <;> rfl
theorem EFx_eq (a b : Fixture) (h : Sm a.Shape.Vertices) : body_equalFixtures a b = some (decide (a = b)) := by
  unfold body_equalFixtures
  simp only [Let_nr, ES_eq _ _ h, Bind_snr, fix_dec a b, beqI, beqB, cond_and]
  generalize decide (a.Shape = b.Shape) = x1
  generalize decide (a.Density = b.Density) = x2
  generalize decide (a.Friction = b.Friction) = x3
  generalize decide (a.Restitution = b.Restitution) = x4
  generalize decide (a.Sensor = b.Sensor) = x5
  generalize decide (a.Category = b.Category) = x6
  generalize decide (a.Mask = b.Mask) = x7
  generalize decide (a.Group = b.Group) = x8
  simp only [Bool.and_assoc]
theorem EFx2_eq (a b : Fixture) (h : Sm a.Shape.Vertices) : caromref23_EqualFixture a b = some (decide (a = b)) := by
  unfold caromref23_EqualFixture
  simp only [Let_nr, ES2_eq _ _ h, Bind_snr, fix_dec a b, beqI, beqB, cond_and]
structure Bd (b : Body) : Prop where
  sm : Sm b.Fixtures
  vs : ∀ f ∈ b.Fixtures, Sm f.Shape.Vertices
def bodR (a b : Body) : Bool := decide (a.ID = b.ID) && decide (a.Kind = b.Kind) && (decide (a.Transform.Position.X = b.Transform.Position.X) && decide (a.Transform.Position.Y = b.Transform.Position.Y) && decide (a.Transform.Angle = b.Transform.Angle)) && (decide (a.Velocity.X = b.Velocity.X) && decide (a.Velocity.Y = b.Velocity.Y)) && decide (a.AngularVelocity = b.AngularVelocity) && (decide (a.Force.X = b.Force.X) && decide (a.Force.Y = b.Force.Y)) && decide (a.Torque = b.Torque) && decide (a.LinearDamping = b.LinearDamping) && decide (a.AngularDamping = b.AngularDamping) && decide (a.GravityScale = b.GravityScale) && decide (a.Bullet = b.Bullet) && decide (a.FixedRotation = b.FixedRotation) && decide (a.NoSleep = b.NoSleep) && decide (a.Asleep = b.Asleep) && decide (a.IdleSteps = b.IdleSteps)
theorem body_dec (a b : Body) : decide (a = b) = (bodR a b && decide (a.Fixtures = b.Fixtures)) := by
  unfold bodR
  simp only [← Bool.decide_and]
  refine dec_of ?_
  constructor
  · intro e; subst e; simp
  · intro h
    obtain ⟨a1, a2, ⟨⟨a3, a4⟩, a5⟩, ⟨a6, a7⟩, a8, ⟨a9, a10⟩, a11, a12, a13, a14, a15, a16, a17, a18, a19, a20⟩ := a
    obtain ⟨b1, b2, ⟨⟨b3, b4⟩, b5⟩, ⟨b6, b7⟩, b8, ⟨b9, b10⟩, b11, b12, b13, b14, b15, b16, b17, b18, b19, b20⟩ := b
    simp_all
theorem body_fin (a b : Body) : (if a.Fixtures = b.Fixtures then some (bodR a b) else some false) = some (decide (a = b)) := by
  rw [body_dec]
  by_cases h : a.Fixtures = b.Fixtures <;> simp [h]
theorem EB_eq (a b : Body) (h : Bd a) : body_Equal a b = some (decide (a = b)) := by
  unfold body_Equal
  simp only [Let_nr]
  by_cases hl : a.Fixtures.length = b.Fixtures.length
  · rw [if_neg (by simp [hl]), LOOP_eq2 a.Fixtures b.Fixtures (some (bodR a b)) (some false) _ h.sm hl ?_ ?_, body_fin]
    · intro r i hw hc hc2 hm
      rw [if_pos (dlt hc), Chk_of hc, Chk_of hc2, hw, EFx_eq _ _ (h.vs _ hm), Bind_snr]
      by_cases e : ix a.Fixtures (i : Int) = ix b.Fixtures (i : Int) <;> simp [e]
    · intro r
      rw [dll, if_neg (by simp)]
      simp only [beqI, beqB, cond_and, bodR]
      generalize decide (a.ID = b.ID) = x1
      generalize decide (a.Kind = b.Kind) = x2
      generalize (decide (a.Transform.Position.X = b.Transform.Position.X) && decide (a.Transform.Position.Y = b.Transform.Position.Y) && decide (a.Transform.Angle = b.Transform.Angle)) = x3
      generalize (decide (a.Velocity.X = b.Velocity.X) && decide (a.Velocity.Y = b.Velocity.Y)) = x4
      generalize (decide (a.Force.X = b.Force.X) && decide (a.Force.Y = b.Force.Y)) = x5
      simp only [Bool.and_assoc]
  · have : a ≠ b := fun e => hl (by rw [e])
    rw [if_pos (by simp only [bne_iff_ne, ne_eq]; omega)]; simp [this]
theorem EB2_eq (a b : Body) (h : Bd a) : caromref23_Equal a b = some (decide (a = b)) := by
  unfold caromref23_Equal
  simp only [Let_nr]
  by_cases hl : a.Fixtures.length = b.Fixtures.length
  · rw [if_neg (by simp [hl]), LOOP_eq2 a.Fixtures b.Fixtures (some (bodR a b)) (some false) _ h.sm hl ?_ ?_, body_fin]
    · intro r i hw hc hc2 hm
      rw [dlt hc, dlt hc2, if_pos (by rfl), Chk_of hc, Chk_of hc2, hw, EFx2_eq _ _ (h.vs _ hm), Bind_snr]
      by_cases e : ix a.Fixtures (i : Int) = ix b.Fixtures (i : Int) <;> simp [e]
    · intro r
      rw [dll, if_neg (by simp)]
      simp only [beqI, beqB, cond_and, cond_or, bodR, bne]
      generalize decide (a.ID = b.ID) = x1
      generalize decide (a.Kind = b.Kind) = x2
      generalize (decide (a.Transform.Position.X = b.Transform.Position.X) && decide (a.Transform.Position.Y = b.Transform.Position.Y) && decide (a.Transform.Angle = b.Transform.Angle)) = x3
      generalize (decide (a.Velocity.X = b.Velocity.X) && decide (a.Velocity.Y = b.Velocity.Y)) = x4
      generalize (decide (a.Force.X = b.Force.X) && decide (a.Force.Y = b.Force.Y)) = x5
      generalize decide (a.AngularVelocity = b.AngularVelocity) = x6
      generalize decide (a.Torque = b.Torque) = x7
      cases x1 <;> cases x2 <;> cases x3 <;> cases x4 <;> cases x5 <;> cases x6 <;> cases x7 <;> simp
  · have : a ≠ b := fun e => hl (by rw [e])
    rw [if_pos (by simp only [bne_iff_ne, ne_eq]; omega)]; simp [this]
theorem EI_eq (x y : Input) (h : Bd x.Body) : ∃ q, input_Equal x y = some q ∧ caromref43_Equal x y = some q ∧ (x = y → q = true) := by
  unfold input_Equal caromref43_Equal
  simp only [Let_nr, EB_eq _ _ h, EB2_eq _ _ h, cond_and, Bind_if]
  refine ⟨_, rfl, ?_, ?_⟩
  · generalize (x.Kind == y.Kind) = x1
    generalize (x.ID == y.ID) = x2
    generalize (decide (x.Vec.X = y.Vec.X) && decide (x.Vec.Y = y.Vec.Y)) = x3
    generalize (x.Value == y.Value) = x4
    generalize (decide (x.Body = y.Body)) = x5
    refine congrArg some ?_
    generalize hz : (decide (x.Joint.ID = y.Joint.ID) && _) = x6
    cases x1 <;> cases x2 <;> cases x3 <;> cases x4 <;> cases x5 <;> cases x6 <;> rfl
  · intro e; subst e; simp
end GoForm
end

section
/- Recordings in plain Lean: validation, equality, clones, small recordings. No conditions. -/
set_option linter.all false
set_option maxRecDepth 100000
open Go Go.Rx
namespace GoForm
/-- A loop that compares two lists of the same length. -/
theorem LOOP_two {α X : Type} [Inhabited α] (q : α → α → Bool) (l m : List α) (fin bad : Option X) (step : (Int → Option X) → Int → Option X) (hl : Sm l) (hlen : l.length = m.length)
    (hs : ∀ (r : Int → Option X) (i : Nat), IntKind.i64.wrap ((i : Int) + 1) = (i : Int) + 1 → (0 ≤ (i : Int) ∧ (i : Int) < (l.length : Int)) → (0 ≤ (i : Int) ∧ (i : Int) < (m.length : Int)) → ix l (i : Int) ∈ l → step r (i : Int) = if q (ix l (i : Int)) (ix m (i : Int)) = true then r ((i : Int) + 1) else bad)
    (he : ∀ (r : Int → Option X), step r (l.length : Int) = fin) : LOOP step fuel (0 : Int) = if (l.zip m).all (fun p => q p.1 p.2) = true then fin else bad := by
  have := LOOP_l0 l (fun t i => if (t.zip (m.drop i)).all (fun p => q p.1 p.2) = true then fin else bad) step hl ?_ ?_
  · exact this
  · intro r i t hw hc hm hr
    have hc2 : 0 ≤ (i : Int) ∧ (i : Int) < (m.length : Int) := by omega
    rw [hs r i hw hc hc2 hm, hr, drop_ix m i (by omega), List.zip_cons_cons, List.all_cons]
    show (if q (ix l (i : Int)) (ix m (i : Int)) = true then _ else bad) = if (q (ix l (i : Int)) (ix m (i : Int)) && _) = true then fin else bad
    cases q (ix l (i : Int)) (ix m (i : Int))
    · rfl
    · simp only [if_true, Bool.true_and]
  · intro r; rw [he]; rfl
noncomputable def eqI (x y : Input) : Bool := (input_Equal x y).getD false
theorem eqI_2 (x y : Input) (h : Bd x.Body) : caromref43_Equal x y = some (eqI x y) := by
  obtain ⟨q, h1, h2, -⟩ := EI_eq x y h
  unfold eqI; rw [h1, h2]; rfl
theorem eqI_r (x : Input) (h : Bd x.Body) : eqI x x = true := by
  obtain ⟨q, h1, -, h3⟩ := EI_eq x x h
  unfold eqI; rw [h1, h3 rfl]; rfl
noncomputable def eqF (a b : List Input) : Bool := decide (a.length = b.length) && (a.zip b).all (fun p => eqI p.1 p.2)
noncomputable def eqR (a b : List (List Input)) : Bool := decide (a.length = b.length) && (a.zip b).all (fun p => eqF p.1 p.2)
structure OkF (a : List Input) : Prop where
  sm : a.length ≤ 1000000
  bd : ∀ x ∈ a, x.Body.Fixtures.length ≤ 1000000 ∧ ∀ f ∈ x.Body.Fixtures, f.Shape.Vertices.length ≤ 1000000
structure OkR (a : List (List Input)) : Prop where
  sm : a.length ≤ 1000000
  fr : ∀ f ∈ a, OkF f
theorem OkF.b {a : List Input} (h : OkF a) {x : Input} (hx : x ∈ a) : Bd x.Body :=
  ⟨sm_of (h.bd x hx).1 (by decide), fun f hf => sm_of ((h.bd x hx).2 f hf) (by decide)⟩
theorem zip_self {α : Type} (q : α → α → Bool) : ∀ (l : List α), (∀ x ∈ l, q x x = true) → (l.zip l).all (fun p => q p.1 p.2) = true
  | [], _ => rfl
  | a :: l, h => by
    rw [List.zip_cons_cons, List.all_cons, zip_self q l (fun x hx => h x (List.mem_cons_of_mem _ hx))]
    show (q a a && true) = true
    rw [h a (List.mem_cons_self ..)]; rfl
theorem eqF_r (a : List Input) (h : OkF a) : eqF a a = true := by
  unfold eqF; rw [zip_self eqI a (fun x hx => eqI_r x (h.b hx))]; simp
theorem eqR_r (a : List (List Input)) (h : OkR a) : eqR a a = true := by
  unfold eqR; rw [zip_self eqF a (fun x hx => eqF_r x (h.fr x hx))]; simp
theorem refEqF (a b : List Input) (h : OkF a) : caromref47_EqualInputs a b = some (eqF a b) := by
  unfold caromref47_EqualInputs eqF
  simp only [Let_nr]
  by_cases hl : a.length = b.length
  · rw [if_neg (by simp [hl]), LOOP_two eqI a b (some true) (some false) _ (sm_of h.sm (by decide)) hl ?_ ?_]
    · rw [decide_eq_true hl, Bool.true_and]; split <;> simp [*]
    · intro r i hw hc hc2 hm
      rw [dlt hc, dlt hc2]
      simp only [cond_true, if_true]
      rw [Chk_of hc, Chk_of hc2, hw, eqI_2 _ _ (h.b hm), Bind_snr]
      cases eqI (ix a (i : Int)) (ix b (i : Int)) <;> simp
    · intro r; rw [dll]; simp
  · rw [if_pos (by simp only [bne_iff_ne, ne_eq]; omega), decide_eq_false hl]; rfl
theorem refEqR (a b : List (List Input)) (h : OkR a) : caromref47_Equal a b = some (eqR a b) := by
  unfold caromref47_Equal eqR
  simp only [Let_nr]
  by_cases hl : a.length = b.length
  · rw [if_neg (by simp [hl]), LOOP_two eqF a b (some true) (some false) _ (sm_of h.sm (by decide)) hl ?_ ?_]
    · rw [decide_eq_true hl, Bool.true_and]; split <;> simp [*]
    · intro r i hw hc hc2 hm
      rw [dlt hc, dlt hc2]
      simp only [cond_true, if_true]
      rw [Chk_of hc, Chk_of hc2, hw, refEqF _ _ (h.fr _ hm), Bind_snr]
      cases eqF (ix a (i : Int)) (ix b (i : Int)) <;> simp
    · intro r; rw [dll]; simp
  · rw [if_pos (by simp only [bne_iff_ne, ne_eq]; omega), decide_eq_false hl]; rfl
noncomputable def vld (x : Input) : Int := (input_Validate x).getD 0
theorem vld_1 (x : Input) : input_Validate x = some (vld x) := by
  obtain ⟨q, h1, -⟩ := Validate43_eq x
  unfold vld; rw [h1]; rfl
noncomputable def okV (x : Input) : Bool := decide (vld x = 0)
theorem progAll (a : List Input) (h : Sm a) : recording_allValid a = some (a.all okV) := by
  unfold recording_allValid
  simp only [Let_nr]
  rw [LOOP_all a okV (some true) (some false) _ h ?_ ?_]
  · split <;> simp [*]
  · intro r i hw hc hm
    rw [if_pos (dlt hc), Chk_of hc, hw, vld_1, Bind_snr]
    unfold okV
    by_cases h : vld (ix a (i : Int)) = 0 <;> simp [h]
  · intro r; rw [dll]; simp
/-- What Validate answers. -/
noncomputable def rvl (r : List (List Input)) : Int := if 4096 < r.length then 11 else if r.all (fun f => decide (f.length ≤ 32)) = true then (if r.all (fun f => f.all okV) = true then 0 else 20) else 11
theorem progVal (r : List (List Input)) : recording_Validate r = some (rvl r) := by
  unfold recording_Validate rvl
  simp only [Let_nr]
  by_cases h : 4096 < r.length
  · rw [if_pos (by simp; omega), if_pos h]
  · have hs : Sm r := sm_of (n := 4096) (by omega) (by decide)
    rw [if_neg (by simp; omega), if_neg h]
    by_cases h32 : r.all (fun f => decide (f.length ≤ 32)) = true
    · rw [LOOP_all r (fun f => decide (f.length ≤ 32)) (some (if r.all (fun f => f.all okV) = true then 0 else 20)) (some 11) _ hs ?_ ?_]
      · rw [if_pos h32, if_pos h32]
      · intro s i hw hc hm
        rw [if_pos (dlt hc), Chk_of hc, hw]
        by_cases h3 : (ix r (i : Int)).length ≤ 32
        · rw [if_neg (by simp; omega), if_pos (by simpa using h3)]
        · rw [if_pos (by simp; omega), if_neg (by simpa using h3)]
      · intro s
        rw [dll, if_neg (by simp)]
        rw [LOOP_all r (fun f => f.all okV) (some 0) (some 20) _ hs ?_ ?_]
        · split <;> rfl
        · intro s i hw hc hm
          have := List.all_eq_true.1 h32 _ hm
          rw [if_pos (dlt hc), Chk_of hc, hw, progAll _ (sm_of (of_decide_eq_true this) (by decide)), Bind_snr]
          cases (ix r (i : Int)).all okV <;> simp
        · intro s; rw [dll]; simp
    · rw [if_neg h32]
      have : ∀ fin, LOOP (fun (rec181 : Int → Option Int) (s182 : Int) => if decide (s182 < (r.length : Int)) = true then Chk ((0 : Int) ≤ s182 ∧ s182 < (r.length : Int)) (if decide (((ix r s182).length : Int) > 32) = true then some (11 : Int) else rec181 (IntKind.i64.wrap (s182 + 1))) else fin) fuel 0 = some 11 := by
        intro fin
        rw [LOOP_all r (fun f => decide (f.length ≤ 32)) fin (some 11) _ hs ?_ ?_]
        · rw [if_neg h32]
        · intro s i hw hc hm
          rw [if_pos (dlt hc), Chk_of hc, hw]
          by_cases h3 : (ix r (i : Int)).length ≤ 32
          · rw [if_neg (by simp; omega), if_pos (by simpa using h3)]
          · rw [if_pos (by simp; omega), if_neg (by simpa using h3)]
        · intro s; rw [dll]; simp
      exact this _
end GoForm
end

section
/- Recordings in plain Lean: clones, slices, small recordings. No conditions. -/
set_option linter.all false
set_option maxRecDepth 100000
open Go Go.Rx
namespace GoForm
theorem CS_eq (s : Shape) (h : s.Vertices.length ≤ 1000000) : shape_Clone s = some s := by
  unfold shape_Clone slices_Clone
  rw [Alike_of (by intro h; rw [h]; rfl), Chk_of (by omega)]; rfl
theorem CB_eq (b : Body) (h : b.Fixtures.length ≤ 1000000) (hv : ∀ f ∈ b.Fixtures, f.Shape.Vertices.length ≤ 1000000) : body_Clone b = some b := by
  unfold body_Clone
  simp only [Let_nr]
  refine (LOOP_i b.Fixtures (fun i s => s = b.Fixtures.take i) (fun _ _ _ => some b) _ [] (sm_of h (by omega)) rfl ?_ ?_).trans rfl
  · rintro r i t s rfl hw hc hm hr
    have hv1 := hv _ hm
    have hi : i < b.Fixtures.length := by omega
    have ht : (b.Fixtures.take i).length ≤ 1000000 := by rw [List.length_take]; omega
    have ht2 : b.Fixtures.take (i + 1) = b.Fixtures.take i ++ [ix b.Fixtures (i : Int)] := by
      rw [List.take_succ, ix_lt _ _ hi, List.getElem?_eq_getElem hi]; rfl
    have hr := hr _ rfl
    rw [ht2] at hr
    rw [if_pos (dlt hc), Chk_of hc, CS_eq _ hv1, Bind_snr, Chk_of (by simp only [List.length_singleton]; omega), hw]
    exact hr
  · rintro r s rfl
    rw [dll, if_neg (by simp), List.take_length]
theorem CI_eq (x : Input) (h : x.Body.Fixtures.length ≤ 1000000 ∧ ∀ f ∈ x.Body.Fixtures, f.Shape.Vertices.length ≤ 1000000) : input_Clone x = some x := by
  unfold input_Clone; rw [CB_eq _ h.1 h.2]; rfl
theorem CF_eq (a : List Input) (h : OkF a) : recording_cloneInputs a = some a := by
  have hl := h.sm
  unfold recording_cloneInputs
  simp only [Let_nr]
  refine (LOOP_i a (fun i s => s = a.take i) (fun _ _ _ => some a) _ [] (sm_of h.sm (by omega)) rfl ?_ ?_).trans rfl
  · rintro r i t s rfl hw hc hm hr
    have hi : i < a.length := by omega
    have ht : (a.take i).length ≤ 1000000 := by rw [List.length_take]; omega
    have ht2 : a.take (i + 1) = a.take i ++ [ix a (i : Int)] := by
      rw [List.take_succ, ix_lt _ _ hi, List.getElem?_eq_getElem hi]; rfl
    have hr := hr _ rfl
    rw [ht2] at hr
    rw [if_pos (dlt hc), Chk_of hc, CI_eq _ (h.bd _ hm), Bind_snr, Chk_of (by simp only [List.length_singleton]; omega), hw]
    exact hr
  · rintro r s rfl
    rw [dll, if_neg (by simp), List.take_length]
theorem OkR.sub {a b : List (List Input)} (h : OkR a) (hs : ∀ f ∈ b, f ∈ a) (hl : b.length ≤ a.length) : OkR b := ⟨by have := h.sm; omega, fun f hf => h.fr f (hs f hf)⟩
theorem OkF.sub {a b : List Input} (h : OkF a) (hs : ∀ f ∈ b, f ∈ a) (hl : b.length ≤ a.length) : OkF b := ⟨by have := h.sm; omega, fun f hf => h.bd f (hs f hf)⟩
theorem OkR.append {a b : List (List Input)} (ha : OkR a) (hb : OkR b) (h : a.length + b.length ≤ 1000000) : OkR (a ++ b) :=
  ⟨by rw [List.length_append]; exact h, fun f hf => (List.mem_append.1 hf).elim (ha.fr f) (hb.fr f)⟩
/-- Small inputs: the answer, and what it says. -/
def smX (x : Input) : Bool := (x.Body.Fixtures.take 6).all (fun f => decide (f.Shape.Vertices.length ≤ 12)) && decide (x.Body.Fixtures.length ≤ 6)
def smF (a : List Input) : Bool := (a.take 40).all smX && decide (a.length ≤ 40)
theorem ix_take {α : Type} [Inhabited α] (l : List α) (n i : Nat) (h : i < n) : ix (l.take n) (i : Int) = ix l (i : Int) := by
  unfold ix
  simp only [Int.toNat_natCast, List.getD_eq_getElem?_getD]
  rw [List.getElem?_take_of_lt h]
theorem smF_eq (a : List Input) : caromref47_SmallInputs a = some (smF a) := by
  unfold caromref47_SmallInputs
  simp only [Let_nr]
  rw [LOOP_all (a.take 40) smX (some (decide (a.length ≤ 40))) (some false) _ (sm_of (n := 40) (by rw [List.length_take]; omega) (by decide)) ?_ ?_]
  · unfold smF; cases (a.take 40).all smX <;> rfl
  · intro r i hw hc hm
    rw [List.length_take] at hc
    have h1 : (i : Int) < (a.length : Int) := by omega
    have h2 : (i : Int) < 40 := by omega
    rw [decide_eq_true h1, decide_eq_true h2]
    simp only [cond_true, if_true]
    rw [Chk_of (by omega), ix_take _ _ _ (by omega)]
    generalize ix a (i : Int) = x
    rw [LOOP_all (x.Body.Fixtures.take 6) (fun f => decide (f.Shape.Vertices.length ≤ 12)) (if decide ((x.Body.Fixtures.length : Int) > 6) = true then some false else r ((i : Int) + 1)) (some false) _ (sm_of (n := 6) (by rw [List.length_take]; omega) (by decide)) ?_ ?_]
    · unfold smX
      by_cases h6 : x.Body.Fixtures.length ≤ 6
      · have h7 : decide ((x.Body.Fixtures.length : Int) > 6) = false := decide_eq_false (by omega)
        rw [h7, decide_eq_true h6, Bool.and_true]; rfl
      · have h7 : decide ((x.Body.Fixtures.length : Int) > 6) = true := decide_eq_true (by omega)
        rw [h7, decide_eq_false h6, Bool.and_false]
        cases (x.Body.Fixtures.take 6).all (fun f => decide (f.Shape.Vertices.length ≤ 12)) <;> rfl
    · intro r2 j hw2 hd hm2
      rw [List.length_take] at hd
      have h3 : (j : Int) < (x.Body.Fixtures.length : Int) := by omega
      have h4 : (j : Int) < 6 := by omega
      rw [decide_eq_true h3, decide_eq_true h4]
      simp only [cond_true, if_true]
      rw [Chk_of (by omega), ix_take _ _ _ (by omega), hw2]
      by_cases h12 : (ix x.Body.Fixtures (j : Int)).Shape.Vertices.length ≤ 12
      · rw [if_neg (by simp; omega), if_pos (by simpa using h12)]
      · rw [if_pos (by simp; omega), if_neg (by simpa using h12)]
    · intro r2
      have : (bif decide (((x.Body.Fixtures.take 6).length : Int) < (x.Body.Fixtures.length : Int)) then decide (((x.Body.Fixtures.take 6).length : Int) < 6) else false) = false := by
        rw [List.length_take]
        by_cases h : x.Body.Fixtures.length ≤ 6
        · rw [decide_eq_false (by omega)]; rfl
        · have : ¬ (((min 6 x.Body.Fixtures.length : Nat) : Int) < 6) := by omega
          rw [decide_eq_false this, cond_and, Bool.and_false]
      rw [this, if_neg (by simp), hw]
  · intro r
    have : (bif decide (((a.take 40).length : Int) < (a.length : Int)) then decide (((a.take 40).length : Int) < 40) else false) = false := by
      rw [List.length_take]
      by_cases h : a.length ≤ 40
      · rw [decide_eq_false (by omega)]; rfl
      · have : ¬ (((min 40 a.length : Nat) : Int) < 40) := by omega
        rw [decide_eq_false this, cond_and, Bool.and_false]
    rw [this, if_neg (by simp)]
    exact congrArg some (dec_of (by omega))
theorem smF_ok {a : List Input} (h : smF a = true) : a.length ≤ 40 ∧ ∀ x ∈ a, x.Body.Fixtures.length ≤ 6 ∧ ∀ f ∈ x.Body.Fixtures, f.Shape.Vertices.length ≤ 12 := by
  unfold smF at h
  rw [Bool.and_eq_true] at h
  have h40 := of_decide_eq_true h.2
  rw [List.take_of_length_le h40] at h
  refine ⟨h40, fun x hx => ?_⟩
  have := List.all_eq_true.1 h.1 x hx
  unfold smX at this
  rw [Bool.and_eq_true] at this
  have h6 := of_decide_eq_true this.2
  rw [List.take_of_length_le h6] at this
  exact ⟨h6, fun f hf => of_decide_eq_true (List.all_eq_true.1 this.1 f hf)⟩
theorem smF_okF {a : List Input} (h : smF a = true) : OkF a := by
  obtain ⟨h1, h2⟩ := smF_ok h
  exact ⟨by omega, fun x hx => ⟨by have := (h2 x hx).1; omega, fun f hf => by have := (h2 x hx).2 f hf; omega⟩⟩
def smG (len : Nat) : List (List Input) → Int → Bool
  | [], _ => decide (len ≤ 5000)
  | f :: t, n => if decide (IntKind.i64.wrap (n + (f.length : Int)) > 100) = true ∨ smF f = false then false else smG len t (IntKind.i64.wrap (n + (f.length : Int)))
theorem smG_ok {len : Nat} : ∀ {t : List (List Input)} {n : Int}, smG len t n = true → len ≤ 5000 ∧ ∀ f ∈ t, smF f = true
  | [], n, h => ⟨of_decide_eq_true h, fun f hf => by cases hf⟩
  | f :: t, n, h => by
    unfold smG at h
    by_cases hc : decide (IntKind.i64.wrap (n + (f.length : Int)) > 100) = true ∨ smF f = false
    · rw [if_pos hc] at h; cases h
    · rw [if_neg hc] at h
      obtain ⟨h1, h2⟩ := smG_ok h
      refine ⟨h1, fun g hg => ?_⟩
      rcases List.mem_cons.1 hg with rfl | hg
      · cases e : smF g with
        | true => rfl
        | false => exact absurd (.inr e) hc
      · exact h2 g hg
theorem small_eq (r : List (List Input)) : caromref47_Small r = some (smG r.length (r.take 5000) 0) := by
  unfold caromref47_Small
  simp only [Let_nr]
  refine LOOP_l1 (r.take 5000) (fun t _ n => some (smG r.length t n)) _ 0 (sm_of (n := 5000) (by rw [List.length_take]; omega) (by decide)) ?_ ?_
  · intro s i t n hw hc hm hr
    rw [List.length_take] at hc
    have h1 : (i : Int) < (r.length : Int) := by omega
    have h2 : (i : Int) < 5000 := by omega
    rw [ix_take _ _ _ (by omega)]
    simp only
    rw [decide_eq_true h1, decide_eq_true h2]
    simp only [cond_true, if_true]
    rw [Chk_of (by omega), Chk_of (fun _ => by omega), smF_eq, hw, hr]
    generalize ix r (i : Int) = f
    show _ = some (if decide (IntKind.i64.wrap (n + (f.length : Int)) > 100) = true ∨ smF f = false then false else smG r.length t (IntKind.i64.wrap (n + (f.length : Int))))
    generalize smG r.length t (IntKind.i64.wrap (n + (f.length : Int))) = gg
    generalize IntKind.i64.wrap (n + (f.length : Int)) = nn
    cases hd : decide (nn > 100) <;> cases hf : smF f <;> rfl
  · intro s n
    simp only
    have : (bif decide (((r.take 5000).length : Int) < (r.length : Int)) then decide (((r.take 5000).length : Int) < 5000) else false) = false := by
      rw [List.length_take]
      by_cases h : r.length ≤ 5000
      · rw [decide_eq_false (by omega)]; rfl
      · have : ¬ (((min 5000 r.length : Nat) : Int) < 5000) := by omega
        rw [decide_eq_false this, cond_and, Bool.and_false]
    rw [this, if_neg (by simp)]
    exact congrArg some (dec_of (by omega))
noncomputable def smR (r : List (List Input)) : Bool := smG r.length (r.take 5000) 0
theorem smR_eq (r : List (List Input)) : caromref47_Small r = some (smR r) := small_eq r
theorem smR_ok {r : List (List Input)} (h : smR r = true) : r.length ≤ 5000 ∧ ∀ f ∈ r, smF f = true := by
  obtain ⟨h1, h2⟩ := smG_ok h
  rw [List.take_of_length_le h1] at h2
  exact ⟨h1, h2⟩
theorem smR_okR {r : List (List Input)} (h : smR r = true) : OkR r := by
  obtain ⟨h1, h2⟩ := smR_ok h
  exact ⟨by omega, fun f hf => smF_okF (h2 f hf)⟩
theorem ex_bind : (Rx.Bind caromlaw47_example fun (r : Bool) => some r) = some true := by rw [example47]; rfl
end GoForm
end

section
/- Recordings in plain Lean: appending inputs. No conditions. -/
set_option linter.all false
set_option maxRecDepth 100000
open Go Go.Rx
namespace GoForm
/-- The inputs of a frame. -/
def atR (r : List (List Input)) (k : Int) : List Input := if k < 0 ∨ (r.length : Int) ≤ k then [] else ix r k
theorem atR_ok {r : List (List Input)} (h : OkR r) (k : Int) : OkF (atR r k) := by
  unfold atR
  split
  · exact ⟨by simp, fun x hx => by cases hx⟩
  · exact h.fr _ (ix_mem _ _ (by omega))
theorem progAt (r : List (List Input)) (k : Int) (hr : OkR r) : recording_InputsAt r k = some (atR r k) := by
  have ho := atR_ok hr k
  unfold recording_InputsAt
  unfold atR at ho ⊢
  simp only [Let_nr]
  by_cases h : k < 0 ∨ (r.length : Int) ≤ k
  · rw [if_pos h, if_pos (by rcases h with h | h <;> simp [h])]
  · rw [if_neg h] at ho
    rw [if_neg h, if_neg (by
      have h1 : decide (k < 0) = false := decide_eq_false (by omega)
      have h2 : decide (k ≥ (r.length : Int)) = false := decide_eq_false (by omega)
      rw [h1, h2]; simp), Chk_of (by omega), CF_eq _ ho]; rfl
/-- The recording with the inputs appended to frame k. -/
def appL (r : List (List Input)) (k : Nat) (ins : List Input) : List (List Input) := (padR r k).set k ((padR r k).getD k [] ++ ins)
theorem padR_len (r : List (List Input)) (k : Nat) : (padR r k).length = max r.length (k + 1) := by
  unfold padR; rw [List.length_append, List.length_replicate]; omega
theorem padR_get (r : List (List Input)) (k i : Nat) : (padR r k).getD i [] = r.getD i [] := by
  unfold padR
  simp only [List.getD_eq_getElem?_getD]
  by_cases h : i < r.length
  · rw [List.getElem?_append_left h]
  · rw [List.getElem?_append_right (by omega), List.getElem?_eq_none (l := r) (by omega), List.getElem?_replicate]
    split <;> rfl
theorem appL_len (r : List (List Input)) (k : Nat) (ins : List Input) : (appL r k ins).length = max r.length (k + 1) := by
  unfold appL; rw [List.length_set, padR_len]
theorem appL_get (r : List (List Input)) (k : Nat) (ins : List Input) (i : Nat) : (appL r k ins).getD i [] = if i = k then r.getD k [] ++ ins else r.getD i [] := by
  unfold appL
  rw [padR_get, List.getD_eq_getElem?_getD, List.getElem?_set]
  by_cases h : k = i
  · subst h
    rw [if_pos rfl, if_pos (by rw [padR_len]; omega), if_pos rfl]; rfl
  · rw [if_neg h, if_neg (fun e => h e.symm), ← List.getD_eq_getElem?_getD, padR_get]
theorem atR_get (r : List (List Input)) (i : Nat) : atR r (i : Int) = r.getD i [] := by
  unfold atR
  by_cases h : i < r.length
  · rw [if_neg (by omega)]; rfl
  · rw [if_pos (by omega), List.getD_eq_getElem?_getD, List.getElem?_eq_none (by omega)]; rfl
/-- What Append answers. -/
noncomputable def appV (r : List (List Input)) (k : Int) (ins : List Input) : List (List Input) × Int :=
  if k < 0 ∨ 4096 ≤ k then ([], 21) else if rvl r ≠ 0 then ([], 25) else if ins.all okV = false then ([], 20)
  else if 32 < (atR r k).length + ins.length then ([], 11) else (appL r k.toNat ins, 0)
theorem rvl_len {r : List (List Input)} (h : rvl r = 0) : r.length ≤ 4096 := by
  unfold rvl at h
  by_cases h2 : 4096 < r.length
  · rw [if_pos h2] at h; cases h
  · omega
theorem progApp (r : List (List Input)) (k : Int) (ins : List Input) (hr : OkR r) (hi : OkF ins) : recording_Append r k ins = some (appV r k ins) := by
  unfold recording_Append recAppendG appV
  by_cases h1 : k < 0 ∨ 4096 ≤ k
  · rw [if_pos h1, if_pos h1]
  · rw [if_neg h1, if_neg h1, progVal]
    show (if rvl r ≠ 0 then some ([], 25) else _) = _
    by_cases h2 : rvl r ≠ 0
    · rw [if_pos h2, if_pos h2]
    · rw [if_neg h2, if_neg h2, progAll _ (sm_of hi.sm (by decide))]
      show (if ins.all okV = false then some ([], 20) else _) = _
      by_cases h3 : ins.all okV = false
      · rw [if_pos h3, if_pos h3]
      · rw [if_neg h3, if_neg h3, progAt _ _ hr]
        show (if 32 < (atR r k).length + ins.length then _ else _) = _
        have hl := (atR_ok hr k).sm
        have hl2 := hi.sm
        by_cases h4 : 32 < (atR r k).length + ins.length
        · rw [if_pos h4, if_pos h4, if_pos (by omega)]
        · rw [if_neg h4, if_neg h4, if_pos ⟨rvl_len (by omega), fun f hf => ⟨fun x hx => CI_eq x ((hr.fr f hf).bd x hx), by have := (hr.fr f hf).sm; omega⟩, fun x hx => CI_eq x (hi.bd x hx), by omega⟩]
          rfl
theorem appL_ok {r : List (List Input)} {k : Nat} {ins : List Input} (hr : OkR r) (hi : OkF ins) (h : (atR r (k : Int)).length + ins.length ≤ 1000000) (hk : k < 1000000) : OkR (appL r k ins) := by
  refine ⟨by rw [appL_len]; have := hr.sm; omega, fun f hf => ?_⟩
  obtain ⟨i, hlt, rfl⟩ := List.mem_iff_getElem.1 hf
  have e : (appL r k ins)[i] = (appL r k ins).getD i [] := by rw [List.getD_eq_getElem?_getD, List.getElem?_eq_getElem hlt]; rfl
  rw [e, appL_get]
  have hg : ∀ j : Nat, OkF (r.getD j []) := fun j => by rw [← atR_get]; exact atR_ok hr _
  split
  · rw [atR_get] at h
    exact ⟨by rw [List.length_append]; exact h, fun x hx => (List.mem_append.1 hx).elim ((hg k).bd x) (hi.bd x)⟩
  · exact hg i
end GoForm
end

section
/- Recordings in plain Lean: inputs appended twice. No conditions. -/
set_option linter.all false
set_option maxRecDepth 100000
open Go Go.Rx
namespace GoForm
theorem getD_mem_or {α : Type} (r : List (List α)) (i : Nat) : r.getD i [] ∈ r ∨ r.getD i [] = [] := by
  rw [List.getD_eq_getElem?_getD]
  cases h : r[i]? with
  | none => exact .inr rfl
  | some x => exact .inl (List.mem_of_getElem? h)
theorem rvl_zero (r : List (List Input)) : rvl r = 0 ↔ r.length ≤ 4096 ∧ ∀ i, (r.getD i []).length ≤ 32 ∧ (r.getD i []).all okV = true := by
  have hm : ∀ {p : List Input → Bool}, p [] = true → (r.all p = true ↔ ∀ i, p (r.getD i []) = true) := by
    intro p hp
    rw [List.all_eq_true]
    constructor
    · intro h i
      rcases getD_mem_or r i with hi | hi
      · exact h _ hi
      · rw [hi]; exact hp
    · intro h x hx
      obtain ⟨i, hi⟩ := List.mem_iff_getElem?.1 hx
      have := h i
      rw [List.getD_eq_getElem?_getD, hi] at this
      exact this
  unfold rvl
  by_cases h : 4096 < r.length
  · rw [if_pos h]; constructor
    · intro e; cases e
    · intro e; omega
  · rw [if_neg h]
    by_cases h1 : r.all (fun f => decide (f.length ≤ 32)) = true
    · rw [if_pos h1]
      have g1 := (hm (p := fun f => decide (f.length ≤ 32)) rfl).1 h1
      by_cases h2 : r.all (fun f => f.all okV) = true
      · rw [if_pos h2]
        have g2 := (hm (p := fun f => f.all okV) rfl).1 h2
        exact ⟨fun _ => ⟨by omega, fun i => ⟨of_decide_eq_true (g1 i), g2 i⟩⟩, fun _ => rfl⟩
      · rw [if_neg h2]
        constructor
        · intro e; cases e
        · intro e; exact absurd ((hm (p := fun f => f.all okV) rfl).2 fun i => (e.2 i).2) h2
    · rw [if_neg h1]
      constructor
      · intro e; cases e
      · intro e; exact absurd ((hm (p := fun f => decide (f.length ≤ 32)) rfl).2 fun i => decide_eq_true (e.2 i).1) h1
theorem rvl_app {r : List (List Input)} {n : Nat} {xs : List Input} (h : rvl r = 0) (hx : xs.all okV = true) (hl : (r.getD n []).length + xs.length ≤ 32) (hn : n < 4096) : rvl (appL r n xs) = 0 := by
  obtain ⟨h1, h2⟩ := (rvl_zero r).1 h
  refine (rvl_zero _).2 ⟨by rw [appL_len]; omega, fun i => ?_⟩
  rw [appL_get]
  split
  · exact ⟨by rw [List.length_append]; exact hl, by rw [List.all_append, (h2 n).2, hx]; rfl⟩
  · exact h2 i
theorem appL_twice (r : List (List Input)) (n : Nat) (xs ys : List Input) : appL (appL r n xs) n ys = appL r n (xs ++ ys) := by
  apply List.ext_getElem?
  intro i
  have hl : (appL (appL r n xs) n ys).length = (appL r n (xs ++ ys)).length := by simp only [appL_len]; omega
  by_cases hi : i < (appL r n (xs ++ ys)).length
  · have e1 : (appL (appL r n xs) n ys)[i]? = some ((appL (appL r n xs) n ys).getD i []) := by
      rw [List.getD_eq_getElem?_getD, List.getElem?_eq_getElem (by omega)]; rfl
    have e2 : (appL r n (xs ++ ys))[i]? = some ((appL r n (xs ++ ys)).getD i []) := by
      rw [List.getD_eq_getElem?_getD, List.getElem?_eq_getElem hi]; rfl
    rw [e1, e2]
    simp only [appL_get, if_true]
    split
    · rw [List.append_assoc]
    · rfl
  · rw [List.getElem?_eq_none (by omega), List.getElem?_eq_none (by omega)]
theorem appV_zero {r : List (List Input)} {k : Int} {ins : List Input} (h : (appV r k ins).2 = 0) : ∃ n : Nat, k = (n : Int) ∧ n < 4096 ∧ rvl r = 0 ∧ ins.all okV = true ∧ (r.getD n []).length + ins.length ≤ 32 ∧ appV r k ins = (appL r n ins, 0) := by
  unfold appV at h ⊢
  by_cases h1 : k < 0 ∨ 4096 ≤ k
  · rw [if_pos h1] at h; cases h
  · rw [if_neg h1] at h ⊢
    by_cases h2 : rvl r ≠ 0
    · rw [if_pos h2] at h; cases h
    · rw [if_neg h2] at h ⊢
      by_cases h3 : ins.all okV = false
      · rw [if_pos h3] at h; cases h
      · rw [if_neg h3] at h ⊢
        by_cases h4 : 32 < (atR r k).length + ins.length
        · rw [if_pos h4] at h; cases h
        · rw [if_neg h4] at h ⊢
          obtain ⟨n, rfl⟩ : ∃ n : Nat, k = (n : Int) := ⟨k.toNat, by omega⟩
          rw [atR_get] at h4
          exact ⟨n, rfl, by omega, by omega, by revert h3; cases ins.all okV <;> simp, by omega, rfl⟩
theorem appV_some {r : List (List Input)} {n : Nat} {ins : List Input} (hn : n < 4096) (hr : rvl r = 0) (ha : ins.all okV = true) (hl : (r.getD n []).length + ins.length ≤ 32) : appV r (n : Int) ins = (appL r n ins, 0) := by
  unfold appV
  rw [if_neg (by omega), if_neg (by omega), if_neg (by rw [ha]; simp), if_neg (by rw [atR_get]; omega)]; rfl
theorem appV_nz {r : List (List Input)} {k : Int} {ins : List Input} (h : (appV r k ins).2 ≠ 0) : (appV r k ins).1 = [] := by
  unfold appV at h ⊢
  split
  · rfl
  · rename_i h1
    rw [if_neg h1] at h
    split
    · rfl
    · rename_i h2
      rw [if_neg h2] at h
      split
      · rfl
      · rename_i h3
        rw [if_neg h3] at h
        split
        · rfl
        · rename_i h4
          rw [if_neg h4] at h
          exact absurd rfl h
theorem Twice_true (r : List (List Input)) (k : Int) (ins : List Input) (n : UInt8) : caromlaw47_RecordingAppendTwice r k ins n = some true := by
  unfold caromlaw47_RecordingAppendTwice
  simp only [Let_nr, smR_eq, smF_eq, Bind_snr]
  cases ha : smR r
  · simp [ex_bind, Bind_snr]
  · cases hc : smF ins
    · simp [ex_bind, Bind_snr]
    · have oa := smR_okR ha
      have oi := smF_okF hc
      have l40 := (smF_ok hc).1
      have p1 := progApp r k ins oa oi
      rw [p1]
      simp only [Bool.not_true, beq_self_eq_true, if_true, Bind_snr, cond_false, Bool.false_eq_true, if_false]
      have hw : IntKind.i64.wrap ((ins.length : Int) + 1) = (ins.length : Int) + 1 := wrap_in _ (by omega) (by omega)
      rw [hw, Chk_of (by omega)]
      obtain ⟨j, hj, hjl⟩ : ∃ j : Nat, ((n.toNat : Int)).tmod ((ins.length : Int) + 1) = (j : Int) ∧ j ≤ ins.length := by
        refine ⟨n.toNat % (ins.length + 1), ?_, by have := Nat.mod_lt n.toNat (show 0 < ins.length + 1 by omega); omega⟩
        rw [show ((ins.length : Int) + 1) = ((ins.length + 1 : Nat) : Int) by omega]
        rfl
      rw [hj]
      by_cases h0 : (appV r k ins).2 = 0
      · obtain ⟨m, rfl, hm, hr, hv, hl, he⟩ := appV_zero h0
        rw [he] at p1 ⊢
        have v1 : (ins.take j).all okV = true := by
          rw [List.all_eq_true] at hv ⊢; exact fun x hx => hv x (List.mem_of_mem_take hx)
        have v2 : (ins.drop j).all okV = true := by
          rw [List.all_eq_true] at hv ⊢; exact fun x hx => hv x (List.mem_of_mem_drop hx)
        have t1 : (ins.take j).length = j := by rw [List.length_take]; omega
        have t2 : (ins.drop j).length = ins.length - j := by rw [List.length_drop]
        have o1 : OkF (ins.take j) := oi.sub (fun x hx => List.mem_of_mem_take hx) (by omega)
        have o2 : OkF (ins.drop j) := oi.sub (fun x hx => List.mem_of_mem_drop hx) (by omega)
        have l1 : (r.getD m []).length + (ins.take j).length ≤ 32 := by omega
        have a1 := appV_some hm hr v1 l1
        have q1 := progApp r (m : Int) (ins.take j) oa o1
        rw [a1] at q1
        have oA : OkR (appL r m (ins.take j)) := appL_ok oa o1 (by rw [atR_get]; omega) (by omega)
        have rA := rvl_app hr v1 l1 hm
        have gA : (appL r m (ins.take j)).getD m [] = r.getD m [] ++ ins.take j := by rw [appL_get, if_pos rfl]
        have a2 := appV_some (ins := ins.drop j) hm rA v2 (by rw [gA, List.length_append]; omega)
        rw [appL_twice, List.take_append_drop] at a2
        have q2 := progApp (appL r m (ins.take j)) (m : Int) (ins.drop j) oA o2
        rw [a2] at q2
        have oL : OkR (appL r m ins) := appL_ok oa oi (by rw [atR_get]; omega) (by omega)
        have rL := rvl_app hr hv hl hm
        have lenL := appL_len r m ins
        have gL : ∀ i : Nat, i ≠ m → atR (appL r m ins) (i : Int) = atR r (i : Int) := by
          intro i hi
          rw [atR_get, atR_get, appL_get, if_neg hi]
        have e0 : ((0 : Int) != 0) = false := rfl
        simp only [Int.toNat_natCast]
        rw [e0, if_neg (by simp), Chk_of (by omega), q1, Bind_snr, Chk_of (by omega)]
        simp only
        rw [q2, Bind_snr]
        have hrl := rvl_len hr
        generalize appL r m ins = L at *
        have hw2 : IntKind.i64.wrap ((m : Int) + 1) = (m : Int) + 1 := wrap_in _ (by omega) (by omega)
        have hmax : ((L.length : Int) != max (r.length : Int) ((m : Int) + 1)) = false := by
          rw [ne_bne, decide_eq_true (by omega)]; rfl
        simp only [e0, cond_false, beq_self_eq_true, if_true, Bind_snr, refEqR _ _ oL, eqR_r _ oL, Bool.not_true, progVal, rL, hw2, hmax, Bool.false_eq_true, if_false]
        refine LOOP_l0 L (fun _ _ => some true) _ (sm_of oL.sm (by decide)) ?_ ?_
        · intro s i t hws hcs hms hrr
          rw [if_pos (dlt hcs)]
          by_cases him : i = m
          · subst him
            have : ((i : Int) != (i : Int)) = false := by simp
            rw [this]
            simp only [Bool.false_eq_true, if_false, cond_false, Bind_snr]
            rw [hws, hrr]
            rfl
          · have hne : ((i : Int) != (m : Int)) = true := by rw [bne_iff_ne]; omega
            have hO := atR_ok oa (i : Int)
            rw [hne]
            simp only [beq_self_eq_true, if_true, cond_true]
            rw [progAt _ _ oL, progAt _ _ oa, Bind_snr, Bind_snr, gL i him, refEqF _ _ hO, Bind_snr, eqF_r _ hO]
            simp only [Bool.not_true, Bool.false_eq_true, if_false]
            rw [hws, hrr]
        · intro s
          rw [dll, if_neg (by simp)]
          exact ex_bind
      · have hz := appV_nz h0
        have : ((appV r k ins).2 != 0) = true := by rw [bne_iff_ne]; exact h0
        rw [this, if_pos rfl, hz]
        simp only [List.length_nil, beq_self_eq_true, if_true, example47, Bind_snr, cond_true, show (((0 : Nat) : Int) == 0) = true from rfl]
end GoForm
end

section
open Go
namespace GoForm
theorem caromlaw47_RecordingAppendTwice_true (r : List (List Input)) (k : Int) (ins : List Input) (n : UInt8) {P Q R S : Prop} (_ : P) (_ : Q) (_ : R) (_ : S) : caromlaw47_RecordingAppendTwice r k ins n = some true := Twice_true r k ins n
end GoForm
end
