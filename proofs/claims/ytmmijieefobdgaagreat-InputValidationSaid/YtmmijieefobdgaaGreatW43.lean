/- Plain laws, joined from several texts. No conditions. -/
import Derived.Test.YtmmijieefobdgaaGreatF43D
import Derived.Test.YtmmijieefobdgaaGreatRzQ
set_option linter.all false
set_option maxRecDepth 100000
open Go Go.Rx

namespace GoForm
def zV : Vec := ⟨0, 0⟩
def zBody : Body := { ID := 0, Kind := 0, Transform := { Position := { X := 0, Y := 0 }, Angle := 0 }, Velocity := { X := 0, Y := 0 }, AngularVelocity := 0, Force := { X := 0, Y := 0 }, Torque := 0, LinearDamping := 0, AngularDamping := 0, GravityScale := 0, Bullet := false, FixedRotation := false, NoSleep := false, Asleep := false, IdleSteps := 0, Fixtures := [] }
theorem fuel20 : ∃ m, fuel = m + 20 := ⟨2 ^ 70 - 20, by unfold fuel; decide⟩
theorem bodyZ (b : Body) : ∃ be, body_Equal b zBody = some be ∧ caromref23_Equal b zBody = some be := by
  obtain ⟨m, hm⟩ := fuel20
  unfold body_Equal caromref23_Equal
  rw [hm]
  simp only [Let_nr]
  by_cases h : b.Fixtures = []
  · refine ⟨_, by rw [if_neg (by rw [h]; decide), LOOP_s, if_neg (by rw [h]; simp)], ?_⟩
    rw [if_neg (by rw [h]; decide), LOOP_s, if_neg (by rw [h]; simp)]
    have key : ∀ (c d e : Bool), ((!c) && d) = e → (if c = true then some false else some d) = some e := by
      intro c d e h; cases c <;> simp_all
    refine key _ _ _ ?_
    simp only [cond_or, cond_and]
    rw [Bool.eq_iff_iff]
    simp only [Bool.and_eq_true, Bool.or_eq_true, Bool.not_eq_true', Bool.or_eq_false_iff, bne_eq_false_iff_eq, Bool.not_eq_false', beq_iff_eq, decide_eq_true_iff]
    grind
  · have hl : b.Fixtures.length ≠ 0 := fun q => h (List.length_eq_zero_iff.1 q)
    refine ⟨false, ?_, ?_⟩ <;> rw [if_pos (by rw [bne_iff_ne]; show ((b.Fixtures.length : Int)) ≠ ((0 : Nat) : Int); omega)]
theorem Used_eq (k : Int) : caromref43_UsedFields k = input_UsedFields k := by
  unfold caromref43_UsedFields input_UsedFields; rfl
def sat (n : Int) : Bool := decide (-536870911 ≤ n) && decide (n ≤ 536870911)
theorem isSat_eq (n : Int) : input_isSaturated n = some (sat n) := by
  unfold input_isSaturated sat; simp only [Let_nr, cond_and]; try rfl
theorem unsat_eq (n : Int) : caromref43_unsaturated n = some (!sat n) := by
  unfold caromref43_unsaturated sat
  simp only [Let_nr, cond_or]
  by_cases h1 : -536870911 ≤ n <;> by_cases h2 : n ≤ 536870911 <;> simp [h1, h2] <;> try omega
theorem if_some2 {α : Type} {p : Prop} [Decidable p] (a b : α) : (if p then some a else some b) = some (if p then a else b) := by split <;> rfl
theorem Validate43_eq (x : Input) : ∃ e, input_Validate x = some e ∧ caromref43_Validate x = some e := by
  obtain ⟨be, hb1, hb2⟩ := bodyZ x.Body
  obtain ⟨u, hu⟩ : ∃ u, input_UsedFields x.Kind = some u := by
    unfold input_UsedFields
    simp only [Let_nr, Join_nr, if_some2]
    exact ⟨_, rfl⟩
  unfold input_Validate caromref43_Validate
  unfold zBody at hb1 hb2
  rw [Used_eq, hu]
  simp only [Let_nr, Join_nr, Bind_snr, hb1, hb2, isSat_eq, unsat_eq, Bind_if, cond_or, cond_and, if_some2]
  refine ⟨_, rfl, ?_⟩
  congr 1
  obtain ⟨u1, u2, u3⟩ := u
  simp only
  generalize (decide (x.Kind < 1) || decide (x.Kind > 12)) = k0
  generalize (decide (x.ID < 1) || decide (x.ID > 1099511627776)) = i0
  generalize sat x.Vec.X = sx
  generalize sat x.Vec.Y = sy
  generalize sat x.Value = sv
  generalize (x.ID != 0) = i1
  generalize (!(decide (x.Vec.X = 0) && decide (x.Vec.Y = 0))) = v1
  generalize (x.Value != 0) = v2
  generalize (x.Kind != 9) = k9
  generalize (x.Kind != 11) = k11
  generalize (!(decide (x.Joint.ID = 0) && _)) = jz
  cases k0
  · cases u1 <;> cases u2 <;> cases u3 <;> cases i0 <;> cases sx <;> cases sy <;> cases sv <;> (try rfl) <;> cases i1 <;> cases v1 <;> cases v2 <;> (try rfl) <;> cases k9 <;> cases be <;> (try rfl) <;> cases k11 <;> cases jz <;> rfl
  · rfl
end GoForm


set_option linter.all false
set_option maxRecDepth 100000
open Go Go.Rx

namespace GoForm
def fewB (b : Body) : Bool := decide ((b.Fixtures.length : Int) ≤ 8) && b.Fixtures.all (fun f => decide ((f.Shape.Vertices.length : Int) ≤ 20))
def allF {X : Type} (fin bad : X) : List Fixture → X
  | [] => fin
  | f :: t => if decide ((f.Shape.Vertices.length : Int) > 20) = true then bad else allF fin bad t
theorem allF_eq {X : Type} (fin bad : X) : ∀ l : List Fixture, allF fin bad l = if l.all (fun f => decide ((f.Shape.Vertices.length : Int) ≤ 20)) = true then fin else bad
  | [] => rfl
  | f :: t => by
    unfold allF; rw [allF_eq fin bad t]
    by_cases h : (f.Shape.Vertices.length : Int) > 20
    · have : decide ((f.Shape.Vertices.length : Int) ≤ 20) = false := decide_eq_false (by omega)
      simp only [h, decide_true, if_true, List.all_cons, this, Bool.false_and, ff, if_false]
    · have : decide ((f.Shape.Vertices.length : Int) ≤ 20) = true := decide_eq_true (by omega)
      simp only [decide_eq_false h, ff, if_false, List.all_cons, this, Bool.true_and]
def allB : List Body → Bool
  | [] => true
  | b :: t => if decide ((b.Fixtures.length : Int) > 8) = true then false else if b.Fixtures.all (fun f => decide ((f.Shape.Vertices.length : Int) ≤ 20)) = true then allB t else false
theorem allB_eq : ∀ l : List Body, allB l = l.all fewB
  | [] => rfl
  | b :: t => by
    unfold allB fewB; rw [allB_eq t]
    by_cases h : (b.Fixtures.length : Int) > 8
    · have : decide ((b.Fixtures.length : Int) ≤ 8) = false := decide_eq_false (by omega)
      simp only [h, decide_true, if_true, List.all_cons, this, Bool.false_and]
    · have : decide ((b.Fixtures.length : Int) ≤ 8) = true := decide_eq_true (by omega)
      simp only [decide_eq_false h, ff, if_false, List.all_cons, this, Bool.true_and]
      cases b.Fixtures.all (fun f => decide ((f.Shape.Vertices.length : Int) ≤ 20)) <;> rfl
theorem ref22_Few_eq (l : List Body) (n : Nat) (hn : n ≤ 10000) : caromref22_Few l (n : Int) = some (decide ((l.length : Int) ≤ (n : Int)) && l.all fewB) := by
  unfold caromref22_Few
  simp only [Let_nr]
  by_cases h : (l.length : Int) > (n : Int)
  · have : decide ((l.length : Int) ≤ (n : Int)) = false := decide_eq_false (by omega)
    simp only [h, decide_true, if_true, this, Bool.false_and]
  · have hh : decide ((l.length : Int) ≤ (n : Int)) = true := decide_eq_true (by omega)
    simp only [decide_eq_false h, ff, if_false, hh, Bool.true_and]
    rw [← allB_eq]
    refine LOOP_l0 l (fun t _ => some (allB t)) _ (sm_of (n := 10000) (by omega) (by omega)) ?_ ?_
    · intro r i t hw hc hm hr
      simp only [dlt hc, if_true, Chk_of hc, allB]
      by_cases h8 : ((ix l (i : Int)).Fixtures.length : Int) > 8
      · simp only [h8, decide_true, if_true]
      · simp only [decide_eq_false h8, ff, if_false]
        refine (LOOP_l0 (ix l (i : Int)).Fixtures (fun t _ => allF (r ((i : Int) + 1)) (some false) t) _ (sm_of (n := 8) (by omega) (by omega)) ?_ ?_).trans ?_
        · intro r2 j u hw2 hc2 hm2 hr2
          simp only [dlt hc2, if_true, Chk_of hc2, hw2, hr2, allF]
        · intro r2; simp only [dll, ff, if_false, hw, allF]
        · rw [allF_eq, hr]; split <;> rfl
    · intro r; simp only [dll, ff, if_false, allB]
def few (w : World_) : Bool := decide ((w.Joints.length : Int) ≤ 40) && decide ((w.Contacts.length : Int) ≤ 80) && decide ((w.Overlaps.length : Int) ≤ 80) && (decide ((w.Bodies.length : Int) ≤ 40) && w.Bodies.all fewB) && w.Contacts.all (fun c => decide ((c.Manifold.Points.length : Int) ≤ 8))
def allC : List Contact → Bool
  | [] => true
  | c :: t => if decide ((c.Manifold.Points.length : Int) > 8) = true then false else allC t
theorem allC_eq : ∀ l : List Contact, allC l = l.all (fun c => decide ((c.Manifold.Points.length : Int) ≤ 8))
  | [] => rfl
  | c :: t => by
    unfold allC; rw [allC_eq t]
    by_cases h : (c.Manifold.Points.length : Int) > 8
    · have : decide ((c.Manifold.Points.length : Int) ≤ 8) = false := decide_eq_false (by omega)
      simp only [h, decide_true, if_true, List.all_cons, this, Bool.false_and]
    · have : decide ((c.Manifold.Points.length : Int) ≤ 8) = true := decide_eq_true (by omega)
      simp only [decide_eq_false h, ff, if_false, List.all_cons, this, Bool.true_and]
theorem few43_one (x : Input) : ∃ b, caromlaw43_few [x] = some b := by
  obtain ⟨m, hm⟩ := fuel20
  have hB : caromref22_Few [x.Body] (1 : Int) = _ := ref22_Few_eq [x.Body] 1 (by omega)
  unfold caromlaw43_few
  simp only [Let_nr]
  rw [hm, if_neg (by simp), LOOP_s, if_pos (by simp), Chk_of (by simp)]
  show ∃ b, (Rx.Bind (caromref22_Few [x.Body] (1 : Int)) _) = some b
  rw [hB, Bind_snr]
  split
  · exact ⟨_, rfl⟩
  · rw [show IntKind.i64.wrap ((0 : Int) + 1) = 1 by decide, LOOP_s, if_neg (by simp)]
    exact ⟨_, rfl⟩
end GoForm


set_option linter.all false
set_option maxRecDepth 100000
open Go Go.Rx

namespace GoForm
theorem cl0 : slices_Clone = fun s => Rx.Chk (s.length * 152 ≤ 140737488355328) (some s) := by
  funext s; unfold slices_Clone; exact Alike_of (by intro h; subst h; rw [Chk_of (by simp)])
theorem cl107 : slices_Clone_107 = fun s => Rx.Chk (s.length * 192 ≤ 140737488355328) (some s) := by
  funext s; unfold slices_Clone_107; exact Alike_of (by intro h; subst h; rw [Chk_of (by simp)])
theorem cl108 : slices_Clone_108 = fun s => Rx.Chk (s.length * 72 ≤ 140737488355328) (some s) := by
  funext s; unfold slices_Clone_108; exact Alike_of (by intro h; subst h; rw [Chk_of (by simp)])
theorem cl109 : slices_Clone_109 = fun s => Rx.Chk (s.length * 32 ≤ 140737488355328) (some s) := by
  funext s; unfold slices_Clone_109; exact Alike_of (by intro h; subst h; rw [Chk_of (by simp)])
theorem example43 : caromlaw43_example = some true := by
  unfold caromlaw43_example input_Apply input_applyToBody world_WakeBody world_Clone
  simp only [cl0, cl107, cl108, cl109]
  kernel_rfl
end GoForm


set_option linter.all false
set_option maxRecDepth 100000
open Go Go.Rx

namespace GoForm
theorem InputValidation_true (x : Input) (k : Int) : caromlaw43_InputValidation x k = some true := by
  obtain ⟨f, hf⟩ := few43_one x
  obtain ⟨u, hu⟩ : ∃ u, input_UsedFields k = some u := by
    unfold input_UsedFields
    simp only [Let_nr, Join_nr, if_some2]
    exact ⟨_, rfl⟩
  obtain ⟨e, h1, h2⟩ := Validate43_eq x
  unfold caromlaw43_InputValidation
  rw [hf, example43, Used_eq, hu, h1, h2]
  simp only [Bind_snr, Let_nr]
  cases f <;> simp [Bind_snr]
end GoForm


open Go

namespace GoForm
theorem caromlaw43_InputValidation_true (a0 : Input) (a1 : Int) {P Q : Prop} (_ : P) (_ : Q) : caromlaw43_InputValidation a0 a1 = some true := InputValidation_true a0 a1
end GoForm

