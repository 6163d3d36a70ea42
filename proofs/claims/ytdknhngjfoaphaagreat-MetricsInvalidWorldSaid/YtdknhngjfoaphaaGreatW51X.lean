/- Plain laws, joined from several texts. No conditions. -/
import Derived.Test.YtdknhngjfoaphaaGreatF51D
import Derived.Test.YtdknhngjfoaphaaGreatF51B
import Derived.Test.YtdknhngjfoaphaaGreatF51OL
import Derived.Test.YtdknhngjfoaphaaGreatRzQ
/- Plain laws, joined from several texts. No conditions. -/
/-
  Plain laws of world: what validation computes. No conditions.
-/
set_option linter.all false
set_option maxRecDepth 100000
open Go Go.Rx

namespace GoForm
theorem bodyV (b : Body) : body_Validate b = caromref23_Validate b := by rw [br_body_Validate, br_caromref23_Validate, GoOld.body_Validate_eq, GoOld.ref23_Validate_eq]
theorem bodyV' (b : Body) : caromref23_Validate b = some (GoOld.validB b) := by rw [br_caromref23_Validate, GoOld.ref23_Validate_eq]
def inb (x a b : Int) : Bool := decide (a ≤ x) && decide (x ≤ b)
theorem world_in_eq (x a b : Int) : world_in x a b = some (inb x a b) := by
  unfold world_in inb; simp only [Let_nr, ge_iff_le, cond_and]
theorem joint_in_eq (x a b : Int) : joint_inRange x a b = some (inb x a b) := by
  unfold joint_inRange inb; simp only [Let_nr, ge_iff_le, cond_and]
def vset (s : Settings) : Int := if (inb s.TimeStep 64 8192 && inb s.Gravity.X (-16777216) 16777216 && inb s.Gravity.Y (-16777216) 16777216 && inb s.Iterations 1 32 && inb s.SleepSteps 0 1048576) = true then 0 else 6
theorem world_set_eq (s : Settings) : world_ValidateSettings s = some (vset s) := by
  unfold world_ValidateSettings vset
  simp only [world_in_eq, Let_nr, Bind_snr, Bind_if]
  generalize inb s.TimeStep 64 8192 = b1
  generalize inb s.Gravity.X (-16777216) 16777216 = b2
  generalize inb s.Gravity.Y (-16777216) 16777216 = b3
  generalize inb s.Iterations 1 32 = b4
  generalize inb s.SleepSteps 0 1048576 = b5
  cases b1 <;> cases b2 <;> cases b3 <;> cases b4 <;> cases b5 <;> rfl
/-! FindBody -/
def fb (w : World_) (id : Int) : Int := idx (fun b : Body => b.ID == id) w.Bodies 0
theorem world_Find_eq (w : World_) (id : Int) (h : Sm w.Bodies) : world_FindBody w id = some (fb w id) := by
  unfold world_FindBody slices_IndexFunc fb
  simp only [Let_nr]
  rw [show LOOP _ fuel (0 : Int) = _ from LOOP_l0 w.Bodies (fun t i => some (idx (fun b : Body => b.ID == id) t i)) _ h ?_ ?_]
  · exact Bind_snr _ _
  · intro r i t hw hc hm hr
    simp only [dlt hc, if_true, hw, Chk_of hc, world_FindBody_1, Let_nr, Bind_snr, hr, idx]
    split <;> rfl
  · intro r; simp only [dll, ff, if_false, idx]
theorem fb_bd (w : World_) (id : Int) : fb w id = -1 ∨ (0 ≤ fb w id ∧ fb w id < (w.Bodies.length : Int)) := by
  have := idx_bd (fun b : Body => b.ID == id) w.Bodies 0; unfold fb; simpa using this
/-! bodies -/
def vbs (N : Int) : List Body → Nat → Int → Bool
  | [], _, _ => true
  | b :: t, i, p => if (GoOld.validB b != 0 || decide (N ≤ b.ID) || decide (b.ID ≤ p)) = true then false else vbs N t (i + 1) b.ID
theorem world_bodies_eq (w : World_) (h : Sm w.Bodies) : world_validBodies w = some (vbs w.NextID w.Bodies 0 0) := by
  unfold world_validBodies
  simp only [Let_nr]
  refine LOOP_l1 w.Bodies (fun t i p => some (vbs w.NextID t i p)) _ 0 h ?_ ?_
  · intro r i t s hw hc hm hr
    simp only [dlt hc, if_true, hw, Chk_of hc, Let_nr, bodyV, bodyV', Bind_snr, hr, vbs, cond_or, ge_iff_le]
    split <;> rfl
  · intro r s; simp only [dll, ff, if_false, vbs]
/-! joints -/
def inv4 (v : Vec) (m : Int) : Bool := inb v.X (-m) m && inb v.Y (-m) m
theorem joint_pt_eq (v : Vec) (m : Int) (h : 0 ≤ m ∧ m ≤ 1000000000000) : joint_pointInRange v m = some (inv4 v m) := by
  unfold joint_pointInRange inv4
  have e : IntKind.i64.wrap ((0 : Int) - m) = -m := by rw [wrap_in _ (by omega) (by omega)]; omega
  simp only [Let_nr, joint_in_eq, Bind_snr, Bind_if, e, cond_and, ga1]
def reach (k : Int) : Int := if (k == 5) = true then 268435456 else 1048576
def limR (k : Int) : Int × Int := if (k == 1) = true then (0, 268435456) else if (k == 2) = true then (-205888, 205888) else (-268435456, 268435456)
theorem joint_lim_eq (k : Int) : joint_limitRange k = some (limR k) := by
  unfold joint_limitRange limR; simp only [Let_nr]; split <;> (try split) <;> rfl
def impOk (j : Joint) : Bool := [j.Impulses.fst, j.Impulses.snd.fst, j.Impulses.snd.snd.fst, j.Impulses.snd.snd.snd].all fun x => inb x (-536870911) 536870911
def numOk (j : Joint) : Bool := impOk j && (inb j.ID 1 1099511627776 && inv4 j.AnchorA (reach j.Kind) && inv4 j.AnchorB 1048576 && inb j.ReferenceAngle (-205888) 205887 && inb j.Lower (limR j.Kind).1 (limR j.Kind).2 && inb j.Upper (limR j.Kind).1 (limR j.Kind).2 && decide (j.Lower ≤ j.Upper) && inb j.MotorSpeed (-16777216) 16777216 && inb j.MaxForce 0 536870911 && inb j.Softness 0 536870911 && inb j.BreakForce 0 536870911)
theorem reach_bd (k : Int) : 0 ≤ reach k ∧ reach k ≤ 1000000000000 := by unfold reach; split <;> omega
theorem sm4 (a b c d : Int) : Sm [a, b, c, d] := by unfold Sm; simp
def all4 (fin : Bool) : List Int → Bool
  | [] => fin
  | a :: t => if (!inb a (-536870911) 536870911) = true then false else all4 fin t
theorem all4_eq (fin : Bool) : ∀ l : List Int, all4 fin l = (l.all (fun x => inb x (-536870911) 536870911) && fin)
  | [] => rfl
  | a :: t => by unfold all4; rw [all4_eq fin t]; cases h : inb a (-536870911) 536870911 <;> simp [h]
theorem joint_num_eq (j : Joint) : joint_numbersInRange j = some (numOk j) := by
  unfold joint_numbersInRange numOk impOk
  rw [← all4_eq]
  have h1 : ∀ m : Int, 0 ≤ m ∧ m ≤ 1000000000000 → joint_pointInRange j.AnchorA m = some (inv4 j.AnchorA m) := fun m => joint_pt_eq _ m
  have h2 := joint_pt_eq j.AnchorB 1048576 (by omega)
  have hK : ∀ m : Int, reach j.Kind = m → 0 ≤ m ∧ m ≤ 1000000000000 := fun m h => h ▸ reach_bd _
  by_cases hk : (j.Kind == 5) = true <;> simp only [Join_nr, Let_nr, hk, ff, if_true, if_false, joint_lim_eq, Bind_snr, joint_in_eq, h2, h1 268435456 (by omega), h1 1048576 (by omega), Bind_if, cond_and, ga1, reach]
  all_goals
    refine LOOP_l0 [j.Impulses.fst, j.Impulses.snd.fst, j.Impulses.snd.snd.fst, j.Impulses.snd.snd.snd] (fun t _ => some (all4 _ t)) _ (sm4 _ _ _ _) ?_ ?_
    · intro r i t hw hc hm hr
      have hc4 : (0 : Int) ≤ (i : Int) ∧ (i : Int) < ((4 : Nat) : Int) := hc
      have hd4 : decide ((i : Int) < (4 : Int)) = true := dlt hc
      simp only [hd4, if_true, hw, Chk_of hc4, hr, all4]
      split <;> rfl
    · intro r
      have : decide (([j.Impulses.fst, j.Impulses.snd.fst, j.Impulses.snd.snd.fst, j.Impulses.snd.snd.snd].length : Int) < (4 : Int)) = false := rfl
      simp only [this, ff, if_false, all4]
def jbOk (j : Joint) : Bool := if (j.Kind == 5) = true then (j.BodyA == 0 && inb j.BodyB 1 1099511627776) else (inb j.BodyA 1 1099511627776 && inb j.BodyB 1 1099511627776 && (j.BodyA != j.BodyB))
theorem joint_bod_eq (j : Joint) : joint_validBodies j = some (jbOk j) := by
  unfold joint_validBodies jbOk
  simp only [Let_nr, joint_in_eq, Bind_snr, Bind_if, cond_and, ga1]
  split <;> rfl
def plainA (j : Joint) : Bool := decide (j.Axis.X = 0) && decide (j.Axis.Y = 0)
def jinc (j : Joint) : Bool := if (j.Kind == 3) = true then !inb (GoOld.lenV j.Axis) 65520 65552 else if (j.Kind == 1) = true then (!plainA j || j.EnableMotor || !j.EnableLimit) else if (j.Kind == 4) = true then (!plainA j || j.EnableMotor || j.EnableLimit) else if (j.Kind == 5) = true then (!plainA j || j.EnableMotor || j.EnableLimit) else !plainA j
theorem joint_inc_eq (j : Joint) : joint_inconsistent j = some (jinc j) := by
  unfold joint_inconsistent jinc plainA
  simp only [Let_nr, Join_nr, br_vec2_Length, GoOld.vec2_Length_eq, joint_in_eq, Bind_snr, Bind_if, cond_and, cond_or]
  repeat' split
  all_goals rfl
def jv (j : Joint) : Int := if (decide (j.Kind < 1) || decide (5 < j.Kind)) = true then 10 else if (!numOk j) = true then 6 else if (!jbOk j) = true then 14 else if jinc j = true then 15 else 0
theorem joint_Val_eq (j : Joint) : joint_Validate j = some (jv j) := by
  unfold joint_Validate jv
  simp only [Let_nr, joint_num_eq, joint_bod_eq, joint_inc_eq, Bind_snr, cond_or, gt_iff_lt]
  repeat' split
  all_goals rfl
end GoForm


/-
  Plain laws of world: what validation of joints and contacts computes. No conditions.
-/
set_option linter.all false
set_option maxRecDepth 100000
open Go Go.Rx

namespace GoForm
def jex (w : World_) (j : Joint) : Bool := decide (0 ≤ fb w j.BodyB) && (j.Kind == 5 || decide (0 ≤ fb w j.BodyA))
theorem world_ex_eq (w : World_) (j : Joint) (h : Sm w.Bodies) : world_bodiesExist w j = some (jex w j) := by
  unfold world_bodiesExist jex
  simp only [Let_nr, world_Find_eq w _ h, Bind_snr, Bind_if, cond_and, cond_or, ge_iff_le, ga8]
def jcon (w : World_) (j : Joint) : Bool := (j.BodyA == 0 || decide (0 ≤ fb w j.BodyA)) && (j.BodyB == 0 || decide (0 ≤ fb w j.BodyB))
theorem jv_zero {j : Joint} (h : jv j = 0) : numOk j = true ∧ jbOk j = true ∧ jinc j = false ∧ 1 ≤ j.Kind ∧ j.Kind ≤ 5 := by
  unfold jv at h
  split at h
  · omega
  · split at h
    · omega
    · split at h
      · omega
      · split at h
        · omega
        · simp_all
theorem jex_con {w : World_} {j : Joint} (h : jv j = 0) : jex w j = jcon w j := by
  have h2 := (jv_zero h).2.1
  unfold jbOk inb at h2
  unfold jex jcon
  by_cases hk : j.Kind = 5
  · simp [hk] at h2 ⊢
    have : ¬ j.BodyB = 0 := by omega
    simp [h2.1, this]
  · simp [hk] at h2 ⊢
    have : ¬ j.BodyB = 0 := by omega
    have : ¬ j.BodyA = 0 := by omega
    have e1 : (j.BodyA == 0) = false := by simpa using this
    have e2 : (j.BodyB == 0) = false := by simp; omega
    have e3 : (j.Kind == 5) = false := by simpa using hk
    rw [e1, e2, e3]; simp only [Bool.false_or]; exact Bool.and_comm _ _
def vjs (w : World_) : List Joint → Nat → Int → Bool
  | [], _, _ => true
  | j :: t, i, p => if (jv j != 0 || decide (w.NextID ≤ j.ID) || decide (j.ID ≤ p) || !jcon w j || decide (0 ≤ fb w j.ID)) = true then false else vjs w t (i + 1) j.ID
theorem world_joints_eq (w : World_) (h : Sm w.Joints) (hb : Sm w.Bodies) : world_validJoints w = some (vjs w w.Joints 0 0) := by
  unfold world_validJoints
  simp only [Let_nr]
  refine LOOP_l1 w.Joints (fun t i p => some (vjs w t i p)) _ 0 h ?_ ?_
  · intro r i t s hw hc hm hr
    simp only [dlt hc, if_true, hw, Chk_of hc, Let_nr, joint_Val_eq, world_ex_eq w _ hb, world_Find_eq w _ hb, Bind_snr, Bind_if, hr, vjs, cond_or, ge_iff_le, ga3, ga5]
    by_cases hj : jv (ix w.Joints (i : Int)) = 0
    · rw [jex_con hj]; split <;> rfl
    · simp [hj]
  · intro r s; simp only [dll, ff, if_false, vjs]
end GoForm


/-
  Plain laws of world: what validation of contacts computes. No conditions.
-/
set_option linter.all false
set_option maxRecDepth 100000
open Go Go.Rx

namespace GoForm
theorem cmp_nan (x : Int) : cmp_isNaN x = some false := by unfold cmp_isNaN; simp [Let_nr]
def cmpZ (x y : Int) : Int := if x < y then -1 else if y < x then 1 else 0
theorem cmp_eq (x y : Int) : cmp_Compare x y = some (cmpZ x y) := by
  unfold cmp_Compare cmpZ
  simp only [cmp_nan, Bind_snr, ff, if_false, Let_nr, decide_eq_true_eq, gt_iff_lt]
  split
  · rfl
  · split <;> rfl
def orZ : List Int → Int
  | [] => 0
  | a :: t => if (a != 0) = true then a else orZ t
theorem or_eq (l : List Int) (h : Sm l) : cmp_Or l = some (orZ l) := by
  unfold cmp_Or
  simp only [Let_nr]
  refine LOOP_l0 l (fun t _ => some (orZ t)) _ h ?_ ?_
  · intro r i t hw hc hm hr
    simp only [dlt hc, if_true, hw, Chk_of hc, Let_nr, hr, orZ]
    split <;> rfl
  · intro r; simp only [dll, ff, if_false, orZ]
def lessK (a b : PairKey) : Bool := if a.BodyA ≠ b.BodyA then decide (a.BodyA < b.BodyA) else if a.FixtureA ≠ b.FixtureA then decide (a.FixtureA < b.FixtureA) else if a.BodyB ≠ b.BodyB then decide (a.BodyB < b.BodyB) else decide (a.FixtureB < b.FixtureB)
theorem cmpZ_0 (x y : Int) : cmpZ x y = 0 ↔ x = y := by unfold cmpZ; split <;> (try split) <;> omega
theorem cmpZ_n (x y : Int) : cmpZ x y < 0 ↔ x < y := by unfold cmpZ; split <;> (try split) <;> omega
theorem less_eq (a b : PairKey) : broadphase_Less a b = some (lessK a b) := by
  unfold broadphase_Less broadphase_compare lessK
  simp only [cmp_eq, Bind_snr]
  rw [or_eq _ (sm4 _ _ _ _)]
  simp only [Bind_snr, Let_nr, orZ, bne_iff_ne, ne_eq, cmpZ_0]
  by_cases h1 : a.BodyA = b.BodyA
  · by_cases h2 : a.FixtureA = b.FixtureA
    · by_cases h3 : a.BodyB = b.BodyB
      · by_cases h4 : a.FixtureB = b.FixtureB
        · simp [h1, h2, h3, h4]
        · simp [h1, h2, h3, h4, cmpZ_n]
      · simp [h1, h2, h3, cmpZ_n]
    · simp [h1, h2, cmpZ_n]
  · simp [h1, cmpZ_n]
theorem lessK_irr (a : PairKey) : lessK a a = false := by unfold lessK; simp
def okK (k : PairKey) : Bool := decide (k.BodyA < k.BodyB) && decide (0 ≤ k.FixtureA) && decide (k.FixtureA < 4) && decide (0 ≤ k.FixtureB) && decide (k.FixtureB < 4)
theorem valid_eq (k : PairKey) : broadphase_valid k = some (okK k) := by
  unfold broadphase_valid okK; simp only [Let_nr, cond_and, ge_iff_le]
def vks : List PairKey → Nat → PairKey → Bool
  | [], _, _ => true
  | k :: t, i, p => if (!okK k || (decide (0 < (i : Int)) && !lessK p k)) = true then false else vks t (i + 1) k
theorem keq (a b : PairKey) : (decide (a.BodyA = b.BodyA) && (decide (a.FixtureA = b.FixtureA) && (decide (a.BodyB = b.BodyB) && decide (a.FixtureB = b.FixtureB)))) = decide (a = b) := by
  rw [Bool.eq_iff_iff]; cases a; cases b; simp
theorem vk_eq (l : List PairKey) (h : Sm l) : broadphase_ValidKeys l = some (vks l 0 ⟨0, 0, 0, 0⟩) := by
  unfold broadphase_ValidKeys
  simp only [Let_nr, keq]
  refine LOOP_l2 l (fun t i p => some (vks t i p)) _ _ h ?_ ?_
  · intro r i t s hw hc hm hr
    have g : ∀ (c e f a d : Bool), (c || (e && (f || !(if (c == false && e == true && f == false) = true then a else d)))) = (c || (e && (f || !a))) := by intro c e f a d; cases c <;> cases e <;> cases f <;> rfl
    simp only [dlt hc, if_true, hw, Chk_of hc, Let_nr, valid_eq, less_eq, Bind_snr, Bind_if, hr, vks, cond_or, cond_and, gt_iff_lt, g]
    have e : (decide (ix l (i : Int) = s) || !lessK s (ix l (i : Int))) = !lessK s (ix l (i : Int)) := by
      by_cases hh : ix l (i : Int) = s
      · rw [hh, lessK_irr]; simp
      · simp [hh]
    rw [e]; split <;> rfl
  · intro r s; simp only [dll, ff, if_false, vks]
end GoForm


/-
  Plain laws of world: what validation of contacts computes. No conditions.
-/
set_option linter.all false
set_option maxRecDepth 100000
open Go Go.Rx

namespace GoForm
/-! the standard library's searches -/
theorem ixf_int (l : List Int) (f : Int → Option Bool) (g : Int → Bool) (h : Sm l) (hf : ∀ a ∈ l, f a = some (g a)) : slices_IndexFunc_194 l f = some (idx g l 0) := by
  unfold slices_IndexFunc_194
  simp only [Let_nr]
  refine LOOP_l0 l (fun t i => some (idx g t i)) _ h ?_ ?_
  · intro r i t hw hc hm hr
    simp only [dlt hc, if_true, hw, Chk_of hc, Let_nr, hf _ hm, Bind_snr, hr, idx]
    split <;> rfl
  · intro r; simp only [dll, ff, if_false, idx]
theorem ixf_pt (l : List ContactPoint) (f : ContactPoint → Option Bool) (g : ContactPoint → Bool) (h : Sm l) (hf : ∀ a ∈ l, f a = some (g a)) : slices_IndexFunc_160 l f = some (idx g l 0) := by
  unfold slices_IndexFunc_160
  simp only [Let_nr]
  refine LOOP_l0 l (fun t i => some (idx g t i)) _ h ?_ ?_
  · intro r i t hw hc hm hr
    simp only [dlt hc, if_true, hw, Chk_of hc, Let_nr, hf _ hm, Bind_snr, hr, idx]
    split <;> rfl
  · intro r; simp only [dll, ff, if_false, idx]
theorem ixf_key (l : List PairKey) (f : PairKey → Option Bool) (g : PairKey → Bool) (h : Sm l) (hf : ∀ a ∈ l, f a = some (g a)) : slices_IndexFunc_124 l f = some (idx g l 0) := by
  unfold slices_IndexFunc_124
  simp only [Let_nr]
  refine LOOP_l0 l (fun t i => some (idx g t i)) _ h ?_ ?_
  · intro r i t hw hc hm hr
    simp only [dlt hc, if_true, hw, Chk_of hc, Let_nr, hf _ hm, Bind_snr, hr, idx]
    split <;> rfl
  · intro r; simp only [dll, ff, if_false, idx]
theorem ctf_int (l : List Int) (f : Int → Option Bool) (g : Int → Bool) (h : Sm l) (hf : ∀ a ∈ l, f a = some (g a)) : slices_ContainsFunc_158 l f = some (l.any g) := by
  unfold slices_ContainsFunc_158; simp only [ixf_int l f g h hf, Bind_snr, Let_nr, ge_iff_le, idx_any]
theorem ctf_pt (l : List ContactPoint) (f : ContactPoint → Option Bool) (g : ContactPoint → Bool) (h : Sm l) (hf : ∀ a ∈ l, f a = some (g a)) : slices_ContainsFunc_120 l f = some (l.any g) := by
  unfold slices_ContainsFunc_120; simp only [ixf_pt l f g h hf, Bind_snr, Let_nr, ge_iff_le, idx_any]
theorem ctf_key (l : List PairKey) (f : PairKey → Option Bool) (g : PairKey → Bool) (h : Sm l) (hf : ∀ a ∈ l, f a = some (g a)) : slices_ContainsFunc l f = some (l.any g) := by
  unfold slices_ContainsFunc; simp only [ixf_key l f g h hf, Bind_snr, Let_nr, ge_iff_le, idx_any]
/-! manifolds -/
def sat (x : Int) : Bool := inb x (-536870911) 536870911
theorem world_sat_eq (l : List Int) (h : Sm l) : world_saturated l = some (l.all sat) := by
  unfold world_saturated
  show Rx.Bind (slices_ContainsFunc_158 l world_saturated_1) (fun r => Let (!r) fun x => some x) = _
  rw [ctf_int l _ (fun n => !sat n) h (fun a _ => by unfold world_saturated_1 sat; simp only [world_in_eq, Bind_snr, Let_nr])]
  simp only [Bind_snr, Let_nr, List.any_eq_not_all_not, Bool.not_not]
def pOk (p : ContactPoint) : Bool := !decide (p.NormalImpulse < 0) && (sat p.Point.X && (sat p.Point.Y && (sat p.Separation && (sat p.ID && (sat p.NormalImpulse && sat p.TangentImpulse)))))
def mOk (m : Manifold) : Bool := !(decide ((m.Points.length : Int) < 1) || decide (2 < (m.Points.length : Int)) || ((m.Points.length : Int) == 2 && (ix m.Points 0).ID == (ix m.Points 1).ID) || !(sat m.Normal.X && sat m.Normal.Y)) && m.Points.all pOk
theorem world_pt1 (p : ContactPoint) : world_validManifold_1 p = some (!pOk p) := by
  have h6 : ∀ a b c d e f : Int, Sm [a, b, c, d, e, f] := by intros; unfold Sm; simp
  unfold world_validManifold_1 pOk
  simp only [Let_nr, world_sat_eq _ (h6 _ _ _ _ _ _), Bind_snr, Bind_if, cond_or, ga3, List.all_cons, List.all_nil, Bool.and_true, Bool.not_and, Bool.not_not]
theorem chkP {l : List ContactPoint} {a : Bool} : ((!a && ((l.length : Int) == 2)) = true → (0 : Int) ≤ (0 : Int) ∧ (0 : Int) < (l.length : Int)) ∧ ((!a && ((l.length : Int) == 2)) = true → (0 : Int) ≤ (1 : Int) ∧ (1 : Int) < (l.length : Int)) := by
  constructor <;> intro h <;> simp at h <;> omega
theorem world_man_eq (m : Manifold) (h : Sm m.Points) : world_validManifold m = some (mOk m) := by
  have h2 : ∀ a b : Int, Sm [a, b] := by intros; unfold Sm; simp
  have hg : ∀ a b : Bool, (a == false && b == true) = (!a && b) := by intro a b; cases a <;> cases b <;> rfl
  unfold world_validManifold mOk
  simp only [Let_nr, hg]
  rw [Chk_of chkP.1, Chk_of chkP.2]
  simp only [world_sat_eq _ (h2 _ _), Bind_snr, Bind_if, cond_or, cond_and, ga3, List.all_cons, List.all_nil, Bool.and_true, gt_iff_lt]
  rw [ctf_pt m.Points _ (fun p => !pOk p) h (fun p _ => world_pt1 p)]
  simp only [Bind_snr, List.any_eq_not_all_not, Bool.not_not]
  generalize (decide ((m.Points.length : Int) < 1) || decide (2 < (m.Points.length : Int)) || ((m.Points.length : Int) == 2 && (ix m.Points 0).ID == (ix m.Points 1).ID) || !(sat m.Normal.X && sat m.Normal.Y)) = c
  cases c <;> simp
end GoForm


/-
  Plain laws of world: validation agrees with the reference. No conditions.
-/
set_option linter.all false
set_option maxRecDepth 100000
open Go Go.Rx

namespace GoForm
def exw (w : World_) (id n : Int) : Bool := decide (0 ≤ fb w id) && decide (0 ≤ n) && decide (n < ((ix w.Bodies (fb w id)).Fixtures.length : Int))
def exk (w : World_) (k : PairKey) : Bool := exw w k.BodyA k.FixtureA && exw w k.BodyB k.FixtureB
theorem world_fix_eq (w : World_) (k : PairKey) (h : Sm w.Bodies) (hk : okK k = true) : world_fixturesExist w k = some (exk w k) := by
  unfold world_fixturesExist exk exw
  simp only [Let_nr, world_Find_eq w _ h, Bind_snr, ge_iff_le, cond_and]
  have h1 := fb_bd w k.BodyA
  have h2 := fb_bd w k.BodyB
  rw [Chk_of (by intro hh; simp at hh; omega), Chk_of (by intro hh; simp at hh; omega)]
  refine congrArg some ?_
  unfold okK at hk; simp at hk
  rw [Bool.eq_iff_iff]; simp; omega
theorem concat_eq (a b : List PairKey) (ha : a.length ≤ 10000) (hb : b.length ≤ 10000) : slices_Concat [a, b] = some (a ++ b) := by
  obtain ⟨n, hn⟩ : ∃ n, fuel = n + 3 := ⟨2 ^ 70 - 3, rfl⟩
  have w1 : IntKind.i64.wrap ((0 : Int) + (a.length : Int)) = (a.length : Int) := by rw [wrap_in _ (by omega) (by omega)]; omega
  have w2 : IntKind.i64.wrap ((a.length : Int) + (b.length : Int)) = (a.length : Int) + (b.length : Int) := wrap_in _ (by omega) (by omega)
  have w3 : IntKind.i64.wrap ((0 : Int) + (1 : Int)) = 1 := rfl
  have w4 : IntKind.i64.wrap ((1 : Int) + (1 : Int)) = 2 := rfl
  have w5 : IntKind.i64.wrap ((0 : Int) - (0 : Int)) = 0 := rfl
  have w6 : IntKind.i64.wrap ((a.length : Int) + (b.length : Int) - 0) = (a.length : Int) + (b.length : Int) := by rw [wrap_in _ (by omega) (by omega)]; omega
  have x0 : ix [a, b] (0 : Int) = a := rfl
  have x1 : ix [a, b] (1 : Int) = b := rfl
  have l2 : (([a, b] : List (List PairKey)).length : Int) = 2 := rfl
  have d0 : decide ((0 : Int) < 2) = true := rfl
  have d1 : decide ((1 : Int) < 2) = true := rfl
  have d2 : decide ((2 : Int) < 2) = false := rfl
  have e1 : decide ((a.length : Int) < 0) = false := decide_eq_false (by omega)
  have e2 : decide ((a.length : Int) + (b.length : Int) < 0) = false := decide_eq_false (by omega)
  have c0 : (0 : Int) ≤ (0 : Int) ∧ (0 : Int) < 2 := by omega
  have c1 : (0 : Int) ≤ (1 : Int) ∧ (1 : Int) < 2 := by omega
  have inner : ∀ v : List PairKey, v = [] → LOOP (fun (rec688 : List PairKey × Int → Option (List PairKey)) (s689 : List PairKey × Int) =>
      if decide (s689.snd < (2 : Int)) = true then Chk ((0 : Int) ≤ s689.snd ∧ s689.snd < (2 : Int))
      (Chk ((List.length s689.fst + (ix [a, b] s689.snd).length) * (32 : Nat) ≤ (140737488355328 : Nat)) (rec688 (s689.fst ++ ix [a, b] s689.snd, IntKind.i64.wrap (s689.snd + (1 : Int))))) else some s689.fst) (n + 3) (v, (0 : Int)) = some (a ++ b) := by
    intro v hv; subst hv
    have b1 : (List.length ([] : List PairKey) + a.length) * 32 ≤ 140737488355328 := by simp; omega
    have b2 : (a.length + b.length) * 32 ≤ 140737488355328 := by omega
    simp only [LOOP_s, d0, d1, d2, if_true, ff, if_false, Chk_of c0, Chk_of c1, x0, x1, w3, w4, Chk_of b1, List.nil_append, Chk_of b2]
  unfold slices_Concat
  rw [hn]
  simp only [Let_nr, Join_nr, l2]
  rw [LOOP_s]
  simp only [d0, if_true, Chk_of c0, x0, w1, e1, ff, if_false, w3]
  rw [LOOP_s]
  simp only [d1, if_true, Chk_of c1, x1, w2, e2, ff, if_false, w4]
  rw [LOOP_s]
  simp only [d2, ff, if_false, e2, w5, w6]
  by_cases hz : (a.length : Int) + (b.length : Int) > 0
  · rw [if_pos (decide_eq_true hz)]
    rw [Chk_true, Chk_of ⟨hz, by omega, by omega⟩, Chk_of (by simp), Chk_of (by simp)]
    exact inner _ (by simp)
  · rw [if_neg (by simpa using hz)]
    exact inner _ rfl
end GoForm


/-
  Plain laws of world: validation agrees with the reference. No conditions.
-/
set_option linter.all false
set_option maxRecDepth 100000
open Go Go.Rx

namespace GoForm
/-- A world that is small enough. -/
structure Few (w : World_) : Prop where
  bodies : w.Bodies.length ≤ 40
  joints : w.Joints.length ≤ 40
  contacts : w.Contacts.length ≤ 80
  overlaps : w.Overlaps.length ≤ 80
  points : ∀ c ∈ w.Contacts, c.Manifold.Points.length ≤ 8
  fixtures : ∀ b ∈ w.Bodies, b.Fixtures.length ≤ 8
  vertices : ∀ b ∈ w.Bodies, ∀ f ∈ b.Fixtures, f.Shape.Vertices.length ≤ 20
theorem Few.sb {w : World_} (h : Few w) : Sm w.Bodies := sm_of h.bodies (by omega)
theorem Few.sj {w : World_} (h : Few w) : Sm w.Joints := sm_of h.joints (by omega)
theorem Few.sc {w : World_} (h : Few w) : Sm w.Contacts := sm_of h.contacts (by omega)
theorem Few.so {w : World_} (h : Few w) : Sm w.Overlaps := sm_of h.overlaps (by omega)
def keysOf (w : World_) : List PairKey := w.Contacts.map (·.Key)
def k0 : PairKey := ⟨0, 0, 0, 0⟩
def cOk (w : World_) : Bool := w.Contacts.all (fun c => mOk c.Manifold) && (vks (keysOf w) 0 k0 && vks w.Overlaps 0 k0 && ((keysOf w).all (exk w) && w.Overlaps.all (exk w)))
theorem vks_ok : ∀ (l : List PairKey) (i : Nat) (p : PairKey), vks l i p = true → ∀ k ∈ l, okK k = true
  | [], _, _, _, _, h => by simp at h
  | a :: t, i, p, h, k, hk => by
    unfold vks at h
    split at h
    · exact absurd h (by simp)
    · rename_i hh
      rcases List.mem_cons.1 hk with e | e
      · subst e; simp at hh; exact hh.1
      · exact vks_ok t _ _ h k e
def vcs (fin : List PairKey → Bool) : List Contact → List PairKey → Bool
  | [], s => fin s
  | c :: t, s => if (!mOk c.Manifold) = true then false else vcs fin t (s ++ [c.Key])
theorem vcs_eq (fin : List PairKey → Bool) : ∀ (l : List Contact) (s : List PairKey), vcs fin l s = (l.all (fun c => mOk c.Manifold) && fin (s ++ l.map (·.Key)))
  | [], s => by simp [vcs]
  | c :: t, s => by unfold vcs; rw [vcs_eq fin t]; cases h : mOk c.Manifold <;> simp [h]
theorem world_con_eq (w : World_) (h : Few w) : world_validContacts w = some (cOk w) := by
  have hf : ∀ s : List PairKey, s.length ≤ 80 → (Rx.Bind (broadphase_ValidKeys s) fun (r726 : Bool) =>
      Rx.Bind (if ((!r726) == false) = true then broadphase_ValidKeys w.Overlaps else some default) fun (r728 : Bool) =>
      if (bif !r726 then true else !r728) = true then some false
      else
      Rx.Bind (slices_Concat [s, w.Overlaps]) fun (r731 : List PairKey) =>
      Rx.Bind (slices_ContainsFunc r731 fun a => world_validContacts_1 a w) fun (r732 : Bool) => some !r732) = some (vks s 0 k0 && vks w.Overlaps 0 k0 && (s.all (exk w) && w.Overlaps.all (exk w))) := by
    intro s hs
    simp only [vk_eq s (sm_of hs (by omega)), vk_eq _ h.so, Bind_snr, Bind_if, cond_or, ga3]
    show (if (!vks s 0 k0 || !vks w.Overlaps 0 k0) = true then some false else _) = _
    cases h1 : vks s 0 k0
    · rfl
    · cases h2 : vks w.Overlaps 0 k0
      · rfl
      · simp only [Bool.not_true, Bool.or_false, ff, if_false, Bool.true_and]
        rw [concat_eq s w.Overlaps (by omega) (by have := h.overlaps; omega), Bind_snr]
        rw [ctf_key (s ++ w.Overlaps) _ (fun k => !exk w k) (sm_of (n := 200) (by have := h.overlaps; simp; omega) (by omega))]
        · rw [Bind_snr, List.any_append, List.any_eq_not_all_not, List.any_eq_not_all_not]
          simp only [Bool.not_not, Bool.not_or]
        · intro k hk
          have : okK k = true := by
            rcases List.mem_append.1 hk with e | e
            · exact vks_ok _ _ _ h1 k e
            · exact vks_ok _ _ _ h2 k e
          unfold world_validContacts_1
          rw [world_fix_eq w k h.sb this, Bind_snr, Let_nr]
  unfold world_validContacts
  simp only [Let_nr]
  have hc0 : cOk w = vcs (fun s => vks s 0 k0 && vks w.Overlaps 0 k0 && (s.all (exk w) && w.Overlaps.all (exk w))) w.Contacts [] := by rw [vcs_eq]; rfl
  rw [hc0]
  refine (LOOP_i w.Contacts (fun i s => s.length = i) (fun t _ s => some (vcs (fun s => vks s 0 k0 && vks w.Overlaps 0 k0 && (s.all (exk w) && w.Overlaps.all (exk w))) t s)) _ _ h.sc rfl ?_ ?_)
  · intro r i t s hp hw hc hm hr
    have hl := h.contacts
    have hp2 : (s ++ [(ix w.Contacts (i : Int)).Key]).length = i + 1 := by simp [hp]
    have hb : (List.length s + [(ix w.Contacts (i : Int)).Key].length) * 32 ≤ 140737488355328 := by simp [hp]; omega
    simp only [dlt hc, if_true, hw, Chk_of hc, Chk_of hb, world_man_eq _ (sm_of (h.points _ hm) (by omega)), Bind_snr, Let_nr, hr _ hp2, vcs]
    split <;> rfl
  · intro r s hp
    have hl := h.contacts
    simp only [dll, ff, if_false]
    exact hf s (by omega)
def wv (w : World_) : Int := if (vset w.Settings != 0) = true then 17 else if (decide (32 < (w.Bodies.length : Int)) || decide (32 < (w.Joints.length : Int)) || decide (8192 < (w.Contacts.length : Int)) || decide (8192 < (w.Overlaps.length : Int))) = true then 11 else if (!inb w.NextID 1 1099511627776 || !inb w.Frame 0 1099511627776) = true then 6 else if (!vbs w.NextID w.Bodies 0 0) = true then 14 else if (!vjs w w.Joints 0 0) = true then 15 else if (!cOk w) = true then 16 else 0
theorem world_Val_eq (w : World_) (h : Few w) : world_Validate w = some (wv w) := by
  unfold world_Validate wv
  simp only [Let_nr, world_set_eq, world_in_eq, world_bodies_eq w h.sb, world_joints_eq w h.sj h.sb, world_con_eq w h, Bind_snr, Bind_if, cond_or, ga3, gt_iff_lt]
  repeat' split
  all_goals rfl
end GoForm


/-
  Plain laws of world: a clone equals what it was made of. No conditions.
-/
set_option linter.all false
set_option maxRecDepth 100000
open Go Go.Rx

namespace GoForm
/-- A body that is small enough. -/
def SmB (b : Body) : Prop := b.Fixtures.length ≤ 10000 ∧ ∀ f ∈ b.Fixtures, f.Shape.Vertices.length ≤ 10000
theorem Few.smb {w : World_} (h : Few w) : ∀ b ∈ w.Bodies, SmB b := fun b hb => ⟨Nat.le_trans (h.fixtures b hb) (by omega), fun f hf => Nat.le_trans (h.vertices b hb f hf) (by omega)⟩
/-- A world that is small enough to be cloned. -/
structure SmW (w : World_) : Prop where
  bodies : w.Bodies.length ≤ 10000
  joints : w.Joints.length ≤ 10000
  contacts : w.Contacts.length ≤ 10000
  overlaps : w.Overlaps.length ≤ 10000
  points : ∀ c ∈ w.Contacts, c.Manifold.Points.length ≤ 10000
  body : ∀ b ∈ w.Bodies, SmB b
end GoForm


/-
  WorldValidation in plain Lean: the law holds of every world. No conditions.
-/
set_option linter.all false
set_option maxRecDepth 100000
open Go Go.Rx

namespace GoForm
def allB : List Body → Bool
  | [] => true
  | b :: t => if decide ((b.Fixtures.length : Int) > 8) = true then false else if b.Fixtures.all (fun f => decide ((f.Shape.Vertices.length : Int) ≤ 20)) = true then allB t else false
end GoForm


/-
  Plain laws of metrics: what each measurement computes. No conditions.
-/
set_option linter.all false
set_option maxRecDepth 100000
open Go Go.Rx

namespace GoForm
/-! the functions below, by their values -/
theorem mFA (a b : Int) : fixed_Add a b = some (GoOld.addS a b) := by rw [br_fixed_Add, GoOld.fixed_Add_eq]
theorem mFM (a b : Int) : fixed_Mul a b = some (GoOld.mulS a b) := by rw [br_fixed_Mul, GoOld.fixed_Mul_eq]
theorem mFD (a b : Int) : fixed_RoundDiv a b = some (GoOld.rdv a b) := by rw [br_fixed_RoundDiv, GoOld.fixed_RoundDiv_eq]
theorem mFR (a b : Int) : fixed_Ratio a b = some (GoOld.ratio a b) := by rw [br_fixed_Ratio, GoOld.fixed_Ratio_eq]
theorem mVA (a b : Vec) : vec2_Add a b = some (GoOld.addV a b) := by rw [br_vec2_Add, GoOld.vec2_Add_eq]
theorem mVS (a : Vec) (k : Int) : vec2_Scale a k = some (GoOld.scaleV a k) := by rw [br_vec2_Scale, GoOld.vec2_Scale_eq]
theorem mVD (a b : Vec) : vec2_Dot a b = some (GoOld.dotV a b) := by rw [br_vec2_Dot, GoOld.vec2_Dot_eq]
theorem mVL (a b : Vec) (t : Int) : vec2_Lerp a b t = some (GoOld.lerpV a b t) := by rw [br_vec2_Lerp, GoOld.vec2_Lerp_eq]
theorem mVN (a : Vec) : vec2_Length a = some (GoOld.lenV a) := by rw [br_vec2_Length, GoOld.vec2_Length_eq]
theorem mMD (b : Body) : body_MassData b = some (GoOld.massM b.Fixtures) := by rw [br_body_MassData, GoOld.body_MassData_eq]
theorem mWC (b : Body) : body_WorldCenter b = some (GoOld.centerW b) := by rw [br_body_WorldCenter, GoOld.body_WorldCenter_eq]
theorem mBB (b : Body) (h : SmB b) : body_Bounds b = some (GoOld.bodyBx b) := by rw [br_body_Bounds, GoOld.body_Bounds_eq b (Nat.le_trans h.1 (by omega))]
theorem mAU (a b : AABB) : aabb_Union a b = some (GoOld.unionBx a b) := by rw [br_aabb_Union, GoOld.aabb_Union_eq]
/-! the dynamic bodies, the contact points -/
def dyn (w : World_) : List Body := if (wv w != 0) = true then [] else w.Bodies.filter (fun b => b.Kind == 3)
theorem dyn_len (w : World_) (h : Few w) : (dyn w).length ≤ 40 := by
  unfold dyn; split
  · simp
  · exact Nat.le_trans (List.length_filter_le _ _) h.bodies
theorem met_dyn_eq (w : World_) (h : Few w) : metrics_dynamicBodies w = some (dyn w) := by
  have hl := h.bodies
  unfold metrics_dynamicBodies dyn
  simp only [world_Val_eq w h, Bind_snr, Let_nr, Join_nr]
  split
  · rfl
  · refine LOOP_i w.Bodies (fun i s => s.length ≤ i) (fun t _ s => some (s ++ t.filter (fun b => b.Kind == 3))) _ [] h.sb (Nat.le_refl _) ?_ ?_
    · intro r i t s hp hw hc hm hr
      have hb : ∀ x : Body, (s.length + [x].length) * 152 ≤ 140737488355328 := by intro x; simp; omega
      simp only [dlt hc, if_true, hw, Chk_of hc, List.filter_cons, Chk_of (hb _)]
      split
      · rw [hr _ (by simp; omega)]; simp
      · rw [hr _ (by omega)]
    · intro r s hp; simp only [dll, ff, if_false, List.filter_nil, List.append_nil]
def cps (w : World_) : List ContactPoint := if (wv w != 0) = true then [] else w.Contacts.flatMap (fun c => c.Manifold.Points)
theorem cps_len (w : World_) (h : Few w) : (cps w).length ≤ 800 := by
  have : ∀ l : List Contact, (∀ c ∈ l, c.Manifold.Points.length ≤ 8) → (l.flatMap (fun c => c.Manifold.Points)).length ≤ l.length * 8 := by
    intro l; induction l with
    | nil => intro _; simp
    | cons a t ih => intro hh; have h1 := hh a (by simp); have h2 := ih (fun c hc => hh c (by simp [hc])); simp only [List.flatMap_cons, List.length_append, List.length_cons]; omega
  unfold cps; split
  · simp
  · have := this w.Contacts h.points; have := h.contacts; omega
theorem met_cps_eq (w : World_) (h : Few w) : metrics_contactPoints w = some (cps w) := by
  have hl := h.contacts
  unfold metrics_contactPoints cps
  simp only [world_Val_eq w h, Bind_snr, Let_nr]
  split
  · rfl
  · refine LOOP_i w.Contacts (fun i s => s.length ≤ i * 8) (fun t _ s => some (s ++ t.flatMap (fun c => c.Manifold.Points))) _ [] h.sc (Nat.zero_le _) ?_ ?_
    · intro r i t s hp hw hc hm hr
      have h8 := h.points _ hm
      have hb : (s.length + (ix w.Contacts (i : Int)).Manifold.Points.length) * 48 ≤ 140737488355328 := by omega
      simp only [dlt hc, if_true, hw, Chk_of hc, Chk_of hb, List.flatMap_cons]
      rw [hr _ (by simp; omega)]; simp
    · intro r s hp; simp only [dll, ff, if_false, List.flatMap_nil, List.append_nil]
/-! the measurements -/
def momF (p : Vec) (b : Body) : Vec := GoOld.addV p (GoOld.scaleV b.Velocity (GoOld.massM b.Fixtures).Mass)
def mom (l : List Body) : Vec := l.foldl momF ⟨0, 0⟩
theorem met_mom_eq (w : World_) (h : Few w) : metrics_Momentum w = some (mom (dyn w)) := by
  unfold metrics_Momentum mom
  simp only [met_dyn_eq w h, Bind_snr, Let_nr]
  refine LOOP_l2 (dyn w) (fun t _ s => some (t.foldl momF s)) _ _ (sm_of (dyn_len w h) (by omega)) ?_ ?_
  · intro r i t s hw hc hm hr
    simp only [dlt hc, if_true, hw, Chk_of hc, mMD, mVS, mVA, Bind_snr, hr, List.foldl_cons, momF]
  · intro r s; simp only [dll, ff, if_false, List.foldl_nil]
def keF (s : Int) (b : Body) : Int := GoOld.addS (GoOld.addS s (GoOld.rdv (GoOld.mulS (GoOld.massM b.Fixtures).Mass (GoOld.dotV b.Velocity b.Velocity)) 2)) (GoOld.rdv (GoOld.mulS (GoOld.massM b.Fixtures).Inertia (GoOld.mulS b.AngularVelocity b.AngularVelocity)) 2)
def ke (l : List Body) : Int := l.foldl keF 0
theorem met_ke_eq (w : World_) (h : Few w) : metrics_KineticEnergy w = some (ke (dyn w)) := by
  unfold metrics_KineticEnergy ke
  simp only [met_dyn_eq w h, Bind_snr, Let_nr]
  refine LOOP_l1 (dyn w) (fun t _ s => some (t.foldl keF s)) _ _ (sm_of (dyn_len w h) (by omega)) ?_ ?_
  · intro r i t s hw hc hm hr
    simp only [dlt hc, if_true, hw, Chk_of hc, mMD, mVD, mFM, mFD, mFA, Bind_snr, hr, List.foldl_cons, keF]
  · intro r s; simp only [dll, ff, if_false, List.foldl_nil]
def comF : List Body → Int → Vec → Vec × Bool
  | [], m, c => (c, decide (0 < m))
  | b :: t, m, c => if decide ((GoOld.massM b.Fixtures).Mass < 1) = true then comF t m c else if (m == 0) = true then comF t (GoOld.massM b.Fixtures).Mass (GoOld.centerW b) else comF t (GoOld.addS m (GoOld.massM b.Fixtures).Mass) (GoOld.lerpV c (GoOld.centerW b) (GoOld.ratio (GoOld.massM b.Fixtures).Mass (GoOld.addS m (GoOld.massM b.Fixtures).Mass)))
def com (l : List Body) : Vec × Bool := comF l 0 ⟨0, 0⟩
theorem met_com_eq (w : World_) (h : Few w) : metrics_CenterOfMass w = some (com (dyn w)) := by
  unfold metrics_CenterOfMass com
  simp only [met_dyn_eq w h, Bind_snr, Let_nr, Join_nr]
  refine LOOP_g (dyn w) (fun (v : Int × Int × Vec) => v.2.1) (fun _ _ => True) (fun t v => some (comF t v.1 v.2.2)) _ _ (sm_of (dyn_len w h) (by omega)) rfl trivial ?_ ?_
  · rintro r i t ⟨m, j, c⟩ hj - hw hc hm hr
    dsimp only at hj; subst hj
    have hr' : ∀ m c, r (m, (i : Int) + 1, c) = some (comF t m c) := fun m c => hr (m, (i : Int) + 1, c) rfl trivial
    simp only [dlt hc, if_true, hw, Chk_of hc, mMD, mWC, mFA, mFR, mVL, Bind_snr, hr', comF]
    split
    · rfl
    · split <;> rfl
  · rintro r ⟨m, j, c⟩ hj -
    dsimp only at hj; subst hj
    simp only [dll, ff, if_false, comF, gt_iff_lt]
def penF (s : Int) (p : ContactPoint) : Int := max s (IntKind.i64.wrap (0 - p.Separation))
theorem met_pen_eq (w : World_) (h : Few w) : metrics_MaxPenetration w = some ((cps w).foldl penF 0) := by
  unfold metrics_MaxPenetration
  simp only [met_cps_eq w h, Bind_snr, Let_nr]
  refine LOOP_l1 (cps w) (fun t _ s => some (t.foldl penF s)) _ _ (sm_of (cps_len w h) (by omega)) ?_ ?_
  · intro r i t s hw hc hm hr
    simp only [dlt hc, if_true, hw, Chk_of hc, hr, List.foldl_cons, penF]
  · intro r s; simp only [dll, ff, if_false, List.foldl_nil]
def impF (s : Int) (p : ContactPoint) : Int := GoOld.addS s p.NormalImpulse
theorem met_imp_eq (w : World_) (h : Few w) : metrics_TotalNormalImpulse w = some ((cps w).foldl impF 0) := by
  unfold metrics_TotalNormalImpulse
  simp only [met_cps_eq w h, Bind_snr, Let_nr]
  refine LOOP_l1 (cps w) (fun t _ s => some (t.foldl impF s)) _ _ (sm_of (cps_len w h) (by omega)) ?_ ?_
  · intro r i t s hw hc hm hr
    simp only [dlt hc, if_true, hw, Chk_of hc, mFA, Bind_snr, hr, List.foldl_cons, impF]
  · intro r s; simp only [dll, ff, if_false, List.foldl_nil]
def fastF : List Body → Int → Int → Int × Int
  | [], id, s => (id, max s 0)
  | b :: t, id, s => if decide (s < GoOld.lenV b.Velocity) = true then fastF t b.ID (GoOld.lenV b.Velocity) else fastF t id s
theorem met_fast_eq (w : World_) (h : Few w) : metrics_FastestBody w = some (fastF (dyn w) 0 (-1)) := by
  unfold metrics_FastestBody
  simp only [met_dyn_eq w h, Bind_snr, Let_nr, Join_nr]
  refine LOOP_g (dyn w) (fun (v : Int × Int × Int) => v.2.2) (fun _ _ => True) (fun t v => some (fastF t v.1 v.2.1)) _ _ (sm_of (dyn_len w h) (by omega)) rfl trivial ?_ ?_
  · rintro r i t ⟨m, c, j⟩ hj - hw hc hm hr
    dsimp only at hj; subst hj
    have hr' : ∀ m c, r (m, c, (i : Int) + 1) = some (fastF t m c) := fun m c => hr (m, c, (i : Int) + 1) rfl trivial
    simp only [dlt hc, if_true, hw, Chk_of hc, mVN, Bind_snr, hr', fastF, gt_iff_lt]
    split <;> rfl
  · rintro r ⟨m, c, j⟩ hj -
    dsimp only at hj; subst hj
    simp only [dll, ff, if_false, fastF]
def slpF (n : Int) (b : Body) : Int := if b.Asleep = true then IntKind.i64.wrap (n + 1) else n
theorem met_slp_eq (w : World_) (h : Few w) : metrics_SleepingBodies w = some ((dyn w).foldl slpF 0) := by
  unfold metrics_SleepingBodies
  simp only [met_dyn_eq w h, Bind_snr, Let_nr, Join_nr]
  refine LOOP_l1 (dyn w) (fun t _ s => some (t.foldl slpF s)) _ _ (sm_of (dyn_len w h) (by omega)) ?_ ?_
  · intro r i t s hw hc hm hr
    simp only [dlt hc, if_true, hw, Chk_of hc, hr, List.foldl_cons, slpF]
    split <;> rfl
  · intro r s; simp only [dll, ff, if_false, List.foldl_nil]
def bdsF : List Body → Bool → AABB → AABB × Bool
  | [], f, c => (c, f)
  | b :: t, f, c => if (!(GoOld.bodyBx b).2) = true then bdsF t f c else if (!f) = true then bdsF t true (GoOld.bodyBx b).1 else bdsF t f (GoOld.unionBx c (GoOld.bodyBx b).1)
def bds (w : World_) : AABB × Bool := if (wv w != 0) = true then (⟨⟨0, 0⟩, ⟨0, 0⟩⟩, false) else bdsF w.Bodies false ⟨⟨0, 0⟩, ⟨0, 0⟩⟩
theorem met_bds_eq (w : World_) (h : Few w) : metrics_Bounds w = some (bds w) := by
  unfold metrics_Bounds bds
  simp only [world_Val_eq w h, Bind_snr, Let_nr, Join_nr]
  split
  · rfl
  · refine LOOP_g w.Bodies (fun (v : Bool × Int × AABB) => v.2.1) (fun _ _ => True) (fun t v => some (bdsF t v.1 v.2.2)) _ _ h.sb rfl trivial ?_ ?_
    · rintro r i t ⟨m, j, c⟩ hj - hw hc hm hr
      dsimp only at hj; subst hj
      have hr' : ∀ m c, r (m, (i : Int) + 1, c) = some (bdsF t m c) := fun m c => hr (m, (i : Int) + 1, c) rfl trivial
      simp only [dlt hc, if_true, hw, Chk_of hc, mBB _ (h.smb _ hm), mAU, Bind_snr, hr', bdsF]
      split
      · rfl
      · split <;> rfl
    · rintro r ⟨m, j, c⟩ hj -
      dsimp only at hj; subst hj
      simp only [dll, ff, if_false, bdsF]
end GoForm


/-
  MetricsExact and MetricsExtremes in plain Lean. No conditions.
-/
set_option linter.all false
set_option maxRecDepth 100000
open Go Go.Rx

namespace GoForm
def smFix (b : Body) : Bool := decide ((b.Fixtures.length : Int) ≤ 4) && b.Fixtures.all (fun f => decide ((f.Shape.Vertices.length : Int) ≤ 10))
def smPts (c : Contact) : Bool := decide ((c.Manifold.Points.length : Int) ≤ 6)
def small (w : World_) : Bool := (decide ((w.Bodies.length : Int) ≤ 8) && decide ((w.Joints.length : Int) ≤ 8) && decide ((w.Contacts.length : Int) ≤ 20) && decide ((w.Overlaps.length : Int) ≤ 20) && decide (w.Settings.Iterations ≤ 16)) && (w.Bodies.all smFix && w.Contacts.all smPts)
theorem FewPoints_eq (l : List Contact) (h : l.length ≤ 40) : caromref27_FewPoints l = some (l.all smPts) := by
  unfold caromref27_FewPoints
  simp only [Let_nr]
  rw [show LOOP _ fuel (0 : Int) = _ from LOOP_all l smPts (some true) (some false) _ (sm_of h (by omega)) ?_ ?_]
  · exact if_some (X := Bool) _
  · intro r i hw hc hm
    simp only [dlt hc, if_true, hw, Chk_of hc, if_gt, smPts]
    rfl
  · intro r; simp only [dll, ff, if_false]; exact congrArg some (decide_eq_true (by omega))
theorem IsSmall_eq (w : World_) : caromref27_IsSmall w = some (small w) := by
  unfold caromref27_IsSmall small
  simp only [Let_nr, dec_gt (w.Bodies.length : Int) 8, dec_gt (w.Joints.length : Int) 8, dec_gt (w.Contacts.length : Int) 20, dec_gt (w.Overlaps.length : Int) 20, dec_gt w.Settings.Iterations 16, cond_or]
  have hn : ∀ a b c d e : Bool, ((((!a || !b) || !c) || !d) || !e) = !((((a && b) && c) && d) && e) := by intro a b c d e; cases a <;> cases b <;> cases c <;> cases d <;> cases e <;> rfl
  rw [hn]
  cases hb : (decide ((w.Bodies.length : Int) ≤ 8) && decide ((w.Joints.length : Int) ≤ 8) && decide ((w.Contacts.length : Int) ≤ 20) && decide ((w.Overlaps.length : Int) ≤ 20) && decide (w.Settings.Iterations ≤ 16))
  · rfl
  · simp only [Bool.and_eq_true, decide_eq_true_eq] at hb
    simp only [Bool.not_true, ff, if_false, Bool.true_and]
    rw [show LOOP _ fuel (0 : Int) = _ from LOOP_all w.Bodies smFix (some (w.Contacts.all smPts)) (some false) _ (sm_of (n := 8) (by omega) (by omega)) ?_ ?_]
    · cases w.Bodies.all smFix <;> rfl
    · intro r i hw hc hm
      simp only [dlt hc, if_true, Chk_of hc, smFix, dec_gt ((ix w.Bodies (i : Int)).Fixtures.length : Int) 4]
      by_cases h4 : ((ix w.Bodies (i : Int)).Fixtures.length : Int) ≤ 4
      rotate_left
      · simp only [decide_eq_false h4, Bool.not_false, if_true, Bool.false_and, ff, if_false]
      · simp only [decide_eq_true h4, Bool.not_true, ff, if_false, Bool.true_and]
        rw [show LOOP _ fuel (0 : Int) = _ from LOOP_all (ix w.Bodies (i : Int)).Fixtures (fun f => decide ((f.Shape.Vertices.length : Int) ≤ 10)) (r ((i : Int) + 1)) (some false) _ (sm_of (n := 8) (by omega) (by omega)) ?_ ?_]
        · intro r2 j hw2 hc2 hm2
          simp only [dlt hc2, if_true, Chk_of hc2, hw2, dec_gt ((ix (ix w.Bodies (i : Int)).Fixtures (j : Int)).Shape.Vertices.length : Int) 10]
          cases decide (((ix (ix w.Bodies (i : Int)).Fixtures (j : Int)).Shape.Vertices.length : Int) ≤ 10) <;> rfl
        · intro r2; simp only [dll, ff, if_false, hw]
    · intro r; simp only [dll, ff, if_false, FewPoints_eq w.Contacts (by omega), Bind_snr]
theorem small_Few {w : World_} (h : small w = true) : Few w := by
  unfold small smFix smPts at h
  simp only [Bool.and_eq_true, decide_eq_true_eq, List.all_eq_true] at h
  obtain ⟨⟨⟨⟨⟨h1, h2⟩, h3⟩, h4⟩, -⟩, h5, h6⟩ := h
  exact ⟨by omega, by omega, by omega, by omega, fun c hc => by have := h6 c hc; omega, fun b hb => by have := (h5 b hb).1; omega, fun b hb f hf => by have := (h5 b hb).2 f hf; omega⟩
def exB : Body := { ID := (1 : Int), Kind := (3 : Int), Transform := { Position := { X := (0 : Int), Y := (0 : Int) : Vec }, Angle := (0 : Int) : Transform }, Velocity := { X := (65536 : Int), Y := (0 : Int) : Vec }, AngularVelocity := (0 : Int), Force := { X := (0 : Int), Y := (0 : Int) : Vec }, Torque := (0 : Int), LinearDamping := (0 : Int), AngularDamping := (0 : Int), GravityScale := (0 : Int), Bullet := false, FixedRotation := false, NoSleep := false, Asleep := false, IdleSteps := (0 : Int), Fixtures := [{ Shape := { Kind := (3 : Int), Radius := (0 : Int), Vertices := [{ X := (-65536 : Int), Y := (0 : Int) : Vec }, { X := (65536 : Int), Y := (0 : Int) : Vec }, { X := (65536 : Int), Y := (65536 : Int) : Vec }, { X := (-65536 : Int), Y := (65536 : Int) : Vec }] : Shape }, Density := (65536 : Int), Friction := (0 : Int), Restitution := (0 : Int), Sensor := false, Category := (0 : Int), Mask := (0 : Int), Group := (0 : Int) : Fixture }] : Body }
def exW : World_ := { Settings := { TimeStep := (8192 : Int), Gravity := { X := (0 : Int), Y := (0 : Int) : Vec }, Iterations := (1 : Int), SleepSteps := (0 : Int) : Settings }, Bodies := [exB], Joints := [], Contacts := [], Overlaps := [], NextID := (2 : Int), Frame := (0 : Int) : World_ }
theorem exW_few : Few exW := small_Few (by decide +kernel)
theorem exW_val : wv exW = 0 := by decide +kernel
theorem exW_dyn : dyn exW = [exB] := by unfold dyn; rw [exW_val]; rfl
theorem exF : metrics_FastestBody exW = some (1, 65536) := by rw [met_fast_eq _ exW_few, exW_dyn]; exact congrArg some (by decide +kernel)
theorem exM : metrics_Momentum exW = some ⟨131072, 0⟩ := by rw [met_mom_eq _ exW_few, exW_dyn]; exact congrArg some (by decide +kernel)
theorem exK : metrics_KineticEnergy exW = some 65536 := by rw [met_ke_eq _ exW_few, exW_dyn]; exact congrArg some (by decide +kernel)
theorem exS : metrics_SleepingBodies exW = some 0 := by rw [met_slp_eq _ exW_few, exW_dyn]; exact congrArg some (by decide +kernel)
theorem example51 : caromlaw51_example = some true := by
  unfold caromlaw51_example
  refine (Bind_of exF).trans ?_
  refine (Bind_of exM).trans ?_
  simp only [Let_nr]
  refine (Bind_of (x := (65536 : Int)) exK).trans ?_
  refine (Bind_of (x := (0 : Int)) exS).trans ?_
  rfl
end GoForm


/-
  MetricsDynamicOnly and MetricsSleepingWorld in plain Lean. No conditions.
-/
set_option linter.all false
set_option maxRecDepth 100000
open Go Go.Rx

namespace GoForm
theorem wv_zero {w : World_} (h : wv w = 0) : vset w.Settings = 0 ∧ (decide (32 < (w.Bodies.length : Int)) || decide (32 < (w.Joints.length : Int)) || decide (8192 < (w.Contacts.length : Int)) || decide (8192 < (w.Overlaps.length : Int))) = false ∧ (!inb w.NextID 1 1099511627776 || !inb w.Frame 0 1099511627776) = false ∧ vbs w.NextID w.Bodies 0 0 = true ∧ vjs w w.Joints 0 0 = true ∧ cOk w = true := by
  unfold wv at h
  split at h
  · omega
  · split at h
    · omega
    · split at h
      · omega
      · split at h
        · omega
        · split at h
          · omega
          · split at h
            · omega
            · simp_all
end GoForm


/-
  MetricsSleepingWorld in plain Lean. No conditions.
-/
set_option linter.all false
set_option maxRecDepth 100000
open Go Go.Rx

namespace GoForm
end GoForm



namespace GoForm
end GoForm


/- Plain laws, joined from several texts. No conditions. -/
/- The plain law of points in shapes: a point that a shape contains lies in the shape's box, but for two units. No conditions. -/
set_option linter.all false
set_option maxRecDepth 100000
open Go Go.Rx
namespace GoGeo
abbrev V := Int × Int
def cr (a b : V) : Int := a.1 * b.2 - a.2 * b.1
def sb (a v : V) : V := (a.1 - v.1, a.2 - v.2)
theorem cr_anti (a b : V) : cr b a = - cr a b := by unfold cr; grind
/-- Slopes rise on the left half plane. -/
theorem cr_trans {a b c : V} (ha : a.1 < 0) (hb : b.1 < 0) (hc : c.1 < 0) (h1 : 0 ≤ cr a b) (h2 : 0 ≤ cr b c) : 0 ≤ cr a c := by
  have e : (-b.1) * cr a c = (-a.1) * cr b c + (-c.1) * cr a b := by unfold cr; grind
  have h3 : 0 ≤ (-a.1) * cr b c := Int.mul_nonneg (by omega) h2
  have h4 : 0 ≤ (-c.1) * cr a b := Int.mul_nonneg (by omega) h1
  have h5 : 0 ≤ (-b.1) * cr a c := by omega
  rcases Int.lt_or_le (cr a c) 0 with h | h
  · have := Int.mul_neg_of_pos_of_neg (show 0 < -b.1 by omega) h
    omega
  · exact h
/-- The crosses along a path that ends in f. -/
def sumC (f : V) : V → List V → Int
  | a, [] => cr a f
  | a, b :: t => cr a b + sumC f b t
/-- They are all at least 0. -/
def okC (f : V) : V → List V → Prop
  | a, [] => 0 ≤ cr a f
  | a, b :: t => 0 ≤ cr a b ∧ okC f b t
theorem okC_last {f : V} (hf : f.1 < 0) : ∀ (t : List V) (b : V), b.1 < 0 → (∀ x ∈ t, x.1 < 0) → okC f b t → 0 ≤ cr b f
  | [], b, hb, _, h => h
  | c :: t, b, hb, ht, ⟨h1, h2⟩ => cr_trans hb (ht c (by simp)) hf h1 (okC_last hf t c (ht c (by simp)) (fun x hx => ht x (List.mem_cons_of_mem _ hx)) h2)
theorem sumC_zero {f : V} (hf : f.1 < 0) : ∀ (t : List V) (a : V), a.1 < 0 → (∀ x ∈ t, x.1 < 0) → 0 ≤ cr f a → okC f a t → sumC f a t = 0
  | [], a, ha, _, h0, h => by
    have h : 0 ≤ cr a f := h
    have := cr_anti a f
    show cr a f = 0
    omega
  | b :: t, a, ha, ht, h0, ⟨h1, h2⟩ => by
    have hb := ht b (by simp)
    have ht' := fun x hx => ht x (List.mem_cons_of_mem b hx)
    have h3 := okC_last hf t b hb ht' h2
    have h4 := cr_trans hb hf ha h3 h0
    have h5 := cr_anti a b
    have h6 := sumC_zero hf t b hb ht' (cr_trans hf ha hb h0 h1) h2
    show cr a b + sumC f b t = 0
    omega
/-- The sum around a cycle does not depend on the origin. -/
theorem sumC_move (v f : V) : ∀ (t : List V) (a : V), sumC (sb f v) (sb a v) (t.map (sb · v)) = sumC f a t + cr v a - cr v f
  | [], a => by show cr (sb a v) (sb f v) = cr a f + _ - _; unfold cr sb; grind
  | b :: t, a => by
    show cr (sb a v) (sb b v) + sumC (sb f v) (sb b v) (t.map (sb · v)) = cr a b + sumC f b t + cr v a - cr v f
    rw [sumC_move v f t b]
    unfold cr sb; grind
theorem cyc_move (v a : V) (t : List V) : sumC (sb a v) (sb a v) (t.map (sb · v)) = sumC a a t := by rw [sumC_move]; omega
theorem mb {x y X Y : Int} (h1 : -X ≤ x) (h2 : x ≤ X) (h3 : -Y ≤ y) (h4 : y ≤ Y) : -(X * Y) ≤ x * y ∧ x * y ≤ X * Y := by
  have k1 := Int.mul_nonneg (show 0 ≤ X - x by omega) (show 0 ≤ Y + y by omega)
  have k2 := Int.mul_nonneg (show 0 ≤ X + x by omega) (show 0 ≤ Y - y by omega)
  have k3 := Int.mul_nonneg (show 0 ≤ X - x by omega) (show 0 ≤ Y - y by omega)
  have k4 := Int.mul_nonneg (show 0 ≤ X + x by omega) (show 0 ≤ Y + y by omega)
  have e1 : (X - x) * (Y + y) + (X + x) * (Y - y) = 2 * (X * Y) - 2 * (x * y) := by grind
  have e2 : (X - x) * (Y - y) + (X + x) * (Y + y) = 2 * (X * Y) + 2 * (x * y) := by grind
  omega
end GoGeo

namespace GoGeo
theorem pick {A B W : Int} (h1 : A + B ≤ W) (h2 : A - B ≤ W) (h3 : B - A ≤ W) (h4 : -A - B ≤ W) : ∃ a b, -a ≤ A ∧ A ≤ a ∧ -b ≤ B ∧ B ≤ b ∧ a + b ≤ W := by
  rcases Int.le_total 0 A with h | h <;> rcases Int.le_total 0 B with k | k
  · exact ⟨A, B, by omega, by omega, by omega, by omega, by omega⟩
  · exact ⟨A, -B, by omega, by omega, by omega, by omega, by omega⟩
  · exact ⟨-A, B, by omega, by omega, by omega, by omega, by omega⟩
  · exact ⟨-A, -B, by omega, by omega, by omega, by omega, by omega⟩
theorem abs_ex (x : Int) : ∃ X, -X ≤ x ∧ x ≤ X ∧ (X = x ∨ X = -x) := by
  rcases Int.le_total 0 x with h | h
  · exact ⟨x, by omega, by omega, .inl rfl⟩
  · exact ⟨-x, by omega, by omega, .inr rfl⟩
theorem rot_sum {c s x y : Int} (hc1 : -65537 ≤ c) (hc2 : c ≤ 65537) (hs1 : -65537 ≤ s) (hs2 : s ≤ 65537) (hx1 : -1048576 ≤ x) (hx2 : x ≤ 1048576) (hy1 : -1048576 ≤ y) (hy2 : y ≤ 1048576) :
    ∃ a b, -a ≤ c * x - s * y ∧ c * x - s * y ≤ a ∧ -b ≤ s * x + c * y ∧ s * x + c * y ≤ b ∧ a + b ≤ 137441050624 := by
  obtain ⟨X1, p1, p2, p3⟩ := abs_ex (c + s)
  obtain ⟨X2, q1, q2, q3⟩ := abs_ex (c - s)
  have m1 := mb p1 p2 hx1 hx2
  have m2 := mb p1 p2 hy1 hy2
  have m3 := mb q1 q2 hx1 hx2
  have m4 := mb q1 q2 hy1 hy2
  have e1 : (c * x - s * y) + (s * x + c * y) = (c + s) * x + (c - s) * y := by grind
  have e2 : (c * x - s * y) - (s * x + c * y) = (c - s) * x - (c + s) * y := by grind
  have hX : X1 + X2 ≤ 131074 := by omega
  exact pick (by omega) (by omega) (by omega) (by omega)
/-- One edge. -/
theorem edge {c s x y x' y' n1 n2 m1 m2 : Int} (hc1 : -65537 ≤ c) (hc2 : c ≤ 65537) (hs1 : -65537 ≤ s) (hs2 : s ≤ 65537) (hx1 : -1048576 ≤ x) (hx2 : x ≤ 1048576) (hy1 : -1048576 ≤ y) (hy2 : y ≤ 1048576)
    (hx1' : -1048576 ≤ x') (hx2' : x' ≤ 1048576) (hy1' : -1048576 ≤ y') (hy2' : y' ≤ 1048576) (a1 : -32768 ≤ n1) (a2 : n1 ≤ 32768) (a3 : -32768 ≤ n2) (a4 : n2 ≤ 32768) (b1 : -32768 ≤ m1) (b2 : m1 ≤ 32768) (b3 : -32768 ≤ m2) (b4 : m2 ≤ 32768) :
    (c * c + s * s) * cr (x, y) (x', y') - 9007338841178112 ≤ cr (c * x - s * y + n1, s * x + c * y + n2) (c * x' - s * y' + m1, s * x' + c * y' + m2) := by
  obtain ⟨a, b, g1, g2, g3, g4, g5⟩ := rot_sum hc1 hc2 hs1 hs2 hx1 hx2 hy1 hy2
  obtain ⟨a', b', g1', g2', g3', g4', g5'⟩ := rot_sum hc1 hc2 hs1 hs2 hx1' hx2' hy1' hy2'
  have e : cr (c * x - s * y + n1, s * x + c * y + n2) (c * x' - s * y' + m1, s * x' + c * y' + m2) = (c * c + s * s) * cr (x, y) (x', y') + ((c * x - s * y) * m2 - (s * x + c * y) * m1) + ((s * x' + c * y') * n1 - (c * x' - s * y') * n2) + (n1 * m2 - n2 * m1) := by
    unfold cr; grind
  have k1 := mb g1 g2 b3 b4
  have k2 := mb g3 g4 b1 b2
  have k3 := mb g3' g4' a1 a2
  have k4 := mb g1' g2' a3 a4
  have k5 := mb a1 a2 b3 b4
  have k6 := mb a3 a4 b1 b2
  rw [e]
  omega
/-- A vertex rotated and rounded: One times the image is off by at most a half. -/
def Img (c s : Int) (p u : V) : Prop := ∃ n1 n2, -32768 ≤ n1 ∧ n1 ≤ 32768 ∧ -32768 ≤ n2 ∧ n2 ≤ 32768 ∧ 65536 * u.1 = c * p.1 - s * p.2 + n1 ∧ 65536 * u.2 = s * p.1 + c * p.2 + n2
def inM (p : V) : Prop := -1048576 ≤ p.1 ∧ p.1 ≤ 1048576 ∧ -1048576 ≤ p.2 ∧ p.2 ≤ 1048576
theorem img_edge {c s : Int} (hc1 : -65537 ≤ c) (hc2 : c ≤ 65537) (hs1 : -65537 ≤ s) (hs2 : s ≤ 65537) {p q u w : V} (hp : inM p) (hq : inM q) (hu : Img c s p u) (hw : Img c s q w) :
    (c * c + s * s) * cr p q - 9007338841178112 ≤ 4294967296 * cr u w := by
  obtain ⟨n1, n2, a1, a2, a3, a4, e1, e2⟩ := hu
  obtain ⟨m1, m2, b1, b2, b3, b4, f1, f2⟩ := hw
  obtain ⟨h1, h2, h3, h4⟩ := hp
  obtain ⟨k1, k2, k3, k4⟩ := hq
  have := edge hc1 hc2 hs1 hs2 h1 h2 h3 h4 k1 k2 k3 k4 a1 a2 a3 a4 b1 b2 b3 b4
  rw [← e1, ← e2, ← f1, ← f2] at this
  have e : cr (65536 * u.1, 65536 * u.2) (65536 * w.1, 65536 * w.2) = 4294967296 * cr u w := by unfold cr; grind
  rw [e] at this
  exact this
/-- A path. -/
theorem img_path {I : V → Prop} {J : V → V → Prop} {D K T : Int} (he : ∀ {p q u w : V}, I p → I q → J p u → J q w → D * cr p q - K ≤ T * cr u w) {f g : V} (hf : I f) (hg : J f g) : ∀ (l m : List V) (p u : V), I p → J p u → (∀ x ∈ l, I x) → l.length = m.length → (∀ (i : Nat) (x y : V), l[i]? = some x → m[i]? = some y → J x y) →
    D * sumC f p l - K * ((l.length : Int) + 1) ≤ T * sumC g u m
  | [], [], p, u, hp, hu, _, _, _ => by
    have := he hp hf hu hg
    show D * cr p f - K * (0 + 1) ≤ T * cr u g
    omega
  | q :: l, w :: m, p, u, hp, hu, hl, hlen, hi => by
    have hq := hl q (by simp)
    have hw := hi 0 q w rfl rfl
    have h1 := he hp hq hu hw
    have h2 := img_path he hf hg l m q w hq hw (fun x hx => hl x (List.mem_cons_of_mem _ hx)) (by simpa using hlen) (fun i x y h1 h2 => hi (i + 1) x y (by simpa using h1) (by simpa using h2))
    show D * (cr p q + sumC f q l) - K * (((q :: l).length : Int) + 1) ≤ T * (cr u w + sumC g w m)
    have e : K * ((((q :: l).length : Nat) : Int) + 1) = K * ((l.length : Int) + 1) + K := by rw [List.length_cons]; push_cast; grind
    rw [e, Int.mul_add, Int.mul_add T]
    omega
/-- A cycle of at most eight vertices with enough area does not look flat from a point to its right. -/
theorem no_flat {c s : Int} (hc1 : -65537 ≤ c) (hc2 : c ≤ 65537) (hs1 : -65537 ≤ s) (hs2 : s ≤ 65537) (hcs : 2576980378 ≤ c * c + s * s) {p u : V} {l m : List V} (hp : inM p) (hu : Img c s p u) (hl : ∀ x ∈ l, inM x) (hlen : l.length = m.length) (h8 : l.length ≤ 7)
    (hi : ∀ (i : Nat) (x y : V), l[i]? = some x → m[i]? = some y → Img c s x y) (hS : 33292288 ≤ sumC p p l) : 0 < sumC u u m := by
  have h := img_path (I := inM) (J := Img c s) (img_edge hc1 hc2 hs1 hs2) hp hu l m p u hp hu hl hlen hi
  have k := Int.mul_le_mul hcs hS (by omega) (by omega)
  rcases Int.lt_or_le 0 (sumC u u m) with g | g
  · exact g
  · omega
end GoGeo

namespace GoGeo
theorem sumC_map {g : V → V} (hg : ∀ a b, cr (g a) (g b) = cr a b) (f : V) : ∀ (t : List V) (a : V), sumC (g f) (g a) (t.map g) = sumC f a t
  | [], a => hg a f
  | b :: t, a => by
    show cr (g a) (g b) + sumC (g f) (g b) (t.map g) = cr a b + sumC f b t
    rw [hg, sumC_map hg f t b]
theorem okC_map {g : V → V} (hg : ∀ a b, cr (g a) (g b) = cr a b) (f : V) : ∀ (t : List V) (a : V), okC f a t → okC (g f) (g a) (t.map g)
  | [], a, h => by show 0 ≤ cr (g a) (g f); rw [hg]; exact h
  | b :: t, a, ⟨h1, h2⟩ => ⟨by rw [hg]; exact h1, okC_map hg f t b h2⟩
theorem cr_self (a : V) : cr a a = 0 := by unfold cr; grind
/-- Not all vertices lie on one side. -/
theorem some_side {g : V → V} (hg : ∀ a b, cr (g a) (g b) = cr a b) (u v : V) (m : List V) (hpos : 0 < sumC u u m) (hok : okC (sb u v) (sb u v) (m.map (sb · v))) : ∃ x ∈ u :: m, 0 ≤ (g (sb x v)).1 := by
  refine Classical.byContradiction fun hn => ?_
  have hall : ∀ x ∈ u :: m, (g (sb x v)).1 < 0 := fun x hx => by
    rcases Int.lt_or_le (g (sb x v)).1 0 with h | h
    · exact h
    · exact absurd ⟨x, hx, h⟩ hn
  have h1 := okC_map hg (sb u v) _ _ hok
  have h0 := hall u (by simp)
  have h2 := sumC_zero (f := g (sb u v)) h0 ((m.map (sb · v)).map g) (g (sb u v)) h0 (fun x hx => by
    obtain ⟨y, hy, rfl⟩ := List.mem_map.1 hx
    obtain ⟨z, hz, rfl⟩ := List.mem_map.1 hy
    exact hall z (List.mem_cons_of_mem _ hz)) (by rw [hg, cr_self]; exact Int.le_refl _) h1
  rw [sumC_map hg, cyc_move] at h2
  omega
theorem box (u v : V) (m : List V) (hpos : 0 < sumC u u m) (hok : okC (sb u v) (sb u v) (m.map (sb · v))) :
    (∃ x ∈ u :: m, v.1 ≤ x.1) ∧ (∃ x ∈ u :: m, x.1 ≤ v.1) ∧ (∃ x ∈ u :: m, v.2 ≤ x.2) ∧ (∃ x ∈ u :: m, x.2 ≤ v.2) := by
  obtain ⟨a, ha, h1⟩ := some_side (g := id) (fun _ _ => rfl) u v m hpos hok
  obtain ⟨b, hb, h2⟩ := some_side (g := fun a => (-a.1, -a.2)) (fun a b => by unfold cr; grind) u v m hpos hok
  obtain ⟨c, hc, h3⟩ := some_side (g := fun a => (a.2, -a.1)) (fun a b => by unfold cr; grind) u v m hpos hok
  obtain ⟨d, hd, h4⟩ := some_side (g := fun a => (-a.2, a.1)) (fun a b => by unfold cr; grind) u v m hpos hok
  refine ⟨⟨a, ha, ?_⟩, ⟨b, hb, ?_⟩, ⟨c, hc, ?_⟩, ⟨d, hd, ?_⟩⟩
  · have h1 : 0 ≤ a.1 - v.1 := h1
    omega
  · have h2 : 0 ≤ -(b.1 - v.1) := h2
    omega
  · have h3 : 0 ≤ c.2 - v.2 := h3
    omega
  · have h4 : 0 ≤ -(d.2 - v.2) := h4
    omega
/-- A vertex seen from another one: what the program's orientation test says. -/
theorem orient_cr (a b v : V) : (b.1 - a.1) * (v.2 - a.2) - (b.2 - a.2) * (v.1 - a.1) = cr (sb a v) (sb b v) := by unfold cr sb; grind
/-- The fan's area is the cycle's. -/
def fanC (o : V) : V → List V → Int
  | _, [] => 0
  | a, b :: t => cr (sb a o) (sb b o) + fanC o b t
theorem fan_path (o : V) : ∀ (t : List V) (a : V), sumC (sb o o) (sb a o) (t.map (sb · o)) = fanC o a t
  | [], a => by show cr (sb a o) (sb o o) = 0; unfold cr sb; grind
  | b :: t, a => by
    show cr (sb a o) (sb b o) + sumC (sb o o) (sb b o) (t.map (sb · o)) = cr (sb a o) (sb b o) + fanC o b t
    rw [fan_path o t b]
theorem fan_cyc (o a : V) (t : List V) : sumC o o (a :: t) = fanC o a t := by
  rw [← cyc_move o o (a :: t)]
  show cr (sb o o) (sb a o) + sumC (sb o o) (sb a o) (t.map (sb · o)) = _
  rw [fan_path]
  have : cr (sb o o) (sb a o) = 0 := by unfold cr sb; grind
  omega
end GoGeo


namespace GoOld
open GoForm
open GoGeo
theorem isqL_up (n : Int) : ∀ (k : Nat) (v : Int), 0 ≤ v → n < (v + 2 ^ k) * (v + 2 ^ k) → n < (isqL n k v + 1) * (isqL n k v + 1)
  | 0, v, h, h2 => by simpa [isqL] using h2
  | k + 1, v, h, h2 => by
    have hp : (0 : Int) < 2 ^ k := Int.pow_pos (by omega)
    unfold isqL
    split
    · exact isqL_up n k (v + 2 ^ k) (by omega) (by rw [show v + 2 ^ k + 2 ^ k = v + 2 ^ (k + 1) by rw [Int.pow_succ]; omega]; exact h2)
    · exact isqL_up n k v h (by omega)
theorem isq_up {n : Int} (h : 0 ≤ n ∧ n ≤ 4611686018427387904) : n < (isq n + 1) * (isq n + 1) := by
  unfold isq
  rw [if_neg (by omega)]
  exact isqL_up n 32 0 (by omega) (by omega)
theorem sq_nn (x : Int) : 0 ≤ x * x := by rw [← Int.natAbs_mul_self]; exact Int.natCast_nonneg _
theorem root_le {c n : Int} (hc : c * c ≤ n) (hn : 0 ≤ n ∧ n ≤ 4611686018427387904) : -isq n ≤ c ∧ c ≤ isq n := by
  have h0 := isq_bd n
  have h1 := isq_up hn
  have key : ∀ x : Int, isq n + 1 ≤ x → x * x ≤ n → False := by
    intro x hx hx2
    have := Int.mul_le_mul hx hx (by omega) (by omega)
    omega
  constructor
  · by_cases h : -isq n ≤ c
    · exact h
    · exact absurd (key (-c) (by omega) (by rw [Int.neg_mul_neg]; exact hc)) id
  · by_cases h : c ≤ isq n
    · exact h
    · exact absurd (key c (by omega) hc) id
/-- A quotient of a number by one that is at least as great. -/
theorem rdv_frac {c l : Int} (hl : 0 < l) (hl2 : l ≤ 536870911) (hc : -l ≤ c ∧ c ≤ l) : -65536 ≤ rdv (c * 65536) l ∧ rdv (c * 65536) l ≤ 65536 := by
  have pos : ∀ c : Int, 0 ≤ c → c ≤ l → 0 ≤ rdv (c * 65536) l ∧ rdv (c * 65536) l ≤ 65536 := by
    intro c h0 h1
    obtain ⟨k1, k2, k3⟩ := rdv_pos (n := c * 65536) (d := l) (by omega) (by omega) hl (by omega)
    refine ⟨k3, ?_⟩
    by_cases h : rdv (c * 65536) l ≤ 65536
    · exact h
    · have := Int.mul_le_mul_of_nonneg_left (show (65537 : Int) ≤ rdv (c * 65536) l by omega) (Int.le_of_lt hl)
      omega
  by_cases h : 0 ≤ c
  · have := pos c h hc.2; omega
  · have := pos (-c) (by omega) (by omega)
    rw [Int.neg_mul, rdv_neg] at this; omega
theorem divS_frac {c n : Int} (hb : -536870911 ≤ c ∧ c ≤ 536870911) (hc : c * c ≤ n) (hn : 0 ≤ n ∧ n ≤ 4611686018427387904) : -65536 ≤ divS c (isq n) ∧ divS c (isq n) ≤ 65536 := by
  have h := root_le hc hn
  have h0 := isq_bd n
  have hs : -(sat (isq n)) ≤ c ∧ c ≤ sat (isq n) := by unfold sat; omega
  have hs0 : 0 ≤ sat (isq n) ∧ sat (isq n) ≤ 536870911 := by unfold sat; omega
  unfold divS
  rw [sat_id hb]
  generalize sat (isq n) = l at *
  by_cases z : l = 0
  · rw [if_pos z, if_neg (by omega), if_neg (by omega)]; omega
  rw [if_neg z, if_neg (by omega)]
  have := rdv_frac (c := c) (l := l) (by omega) hs0.2 hs
  rw [sat_id (by omega)]; exact this
theorem rotA_bd (a : Int) : (-65536 ≤ (rotA a).Cos ∧ (rotA a).Cos ≤ 65536) ∧ (-65536 ≤ (rotA a).Sin ∧ (rotA a).Sin ≤ 65536) := by
  have h1 := mul_bd 536870911 536870911 (sinA_bd a) (sinA_bd a)
  have h2 := mul_bd 536870911 536870911 (cosA_bd a) (cosA_bd a)
  have p1 := sq_nn (sinA a)
  have p2 := sq_nn (cosA a)
  exact ⟨divS_frac (cosA_bd a) (by omega) (by omega), divS_frac (sinA_bd a) (by omega) (by omega)⟩
theorem rdv_spec {n : Int} (h : -4611686018427387904 ≤ n ∧ n ≤ 4611686018427387904) : -32768 ≤ 65536 * rdv n 65536 - n ∧ 65536 * rdv n 65536 - n ≤ 32768 := by
  by_cases h0 : 0 ≤ n
  · have := rdv_pos (n := n) (d := 65536) h0 h.2 (by omega) (by omega); omega
  · have := rdv_pos (n := -n) (d := 65536) (by omega) (by omega) (by omega) (by omega); rw [rdv_neg] at this; omega
theorem subS_in {a b : Int} (ha : -536870911 ≤ a ∧ a ≤ 536870911) (hb : -536870911 ≤ b ∧ b ≤ 536870911) (h : -536870911 ≤ a - b ∧ a - b ≤ 536870911) : subS a b = a - b := by
  unfold subS; rw [sat_id ha, sat_id hb, sat_id h]
theorem sinQ_bd {x : Int} (h0 : 0 ≤ x) (h1 : x ≤ 102944) : 0 ≤ sinQ x ∧ sinQ x ≤ 200000 ∧ (0 < x → 0 < sinQ x) := by
  have hz : 0 ≤ divS x 102944 ∧ divS x 102944 ≤ 65536 ∧ (0 < x → 0 < divS x 102944) := by
    unfold divS
    rw [sat_id (show -536870911 ≤ (102944 : Int) ∧ (102944 : Int) ≤ 536870911 by omega), sat_id (show -536870911 ≤ x ∧ x ≤ 536870911 by omega), if_neg (by omega), if_neg (by omega)]
    have := rdv_pos (n := x * 65536) (d := 102944) (by omega) (by omega) (by omega) (by omega)
    rw [sat_id (by omega)]
    omega
  unfold sinQ
  generalize divS x 102944 = z at hz
  obtain ⟨z0, z1, z2⟩ := hz
  have hy : 0 ≤ mulS z z ∧ mulS z z ≤ 65536 := by
    unfold mulS
    rw [sat_id (show -536870911 ≤ z ∧ z ≤ 536870911 by omega)]
    have k1 := Int.mul_nonneg z0 z0
    have k2 := Int.mul_le_mul z1 z1 z0 (by omega)
    have := rdv_pos (n := z * z) (d := 65536) k1 (by omega) (by omega) (by omega)
    rw [sat_id (by omega)]
    omega
  generalize mulS z z = y at hy
  obtain ⟨y0, y1⟩ := hy
  have hw : 0 ≤ mulS y 4569 ∧ mulS y 4569 ≤ 4569 := by
    unfold mulS
    rw [sat_id (show -536870911 ≤ y ∧ y ≤ 536870911 by omega), sat_id (show -536870911 ≤ (4569 : Int) ∧ (4569 : Int) ≤ 536870911 by omega)]
    have := rdv_pos (n := y * 4569) (d := 65536) (by omega) (by omega) (by omega) (by omega)
    rw [sat_id (by omega)]
    omega
  rw [subS_in (a := 41906) (by omega) (by omega) (by omega)]
  have hv : 0 ≤ mulS y (41906 - mulS y 4569) ∧ mulS y (41906 - mulS y 4569) ≤ 41906 := by
    generalize hi : 41906 - mulS y 4569 = i
    unfold mulS
    rw [sat_id (show -536870911 ≤ y ∧ y ≤ 536870911 by omega), sat_id (show -536870911 ≤ i ∧ i ≤ 536870911 by omega)]
    have k1 := Int.mul_nonneg y0 (show 0 ≤ i by omega)
    have k2 := Int.mul_le_mul y1 (show i ≤ 41906 by omega) (by omega) (by omega)
    have := rdv_pos (n := y * i) (d := 65536) k1 (by omega) (by omega) (by omega)
    rw [sat_id (by omega)]
    omega
  generalize mulS y (41906 - mulS y 4569) = v at hv
  rw [subS_in (a := 102873) (by omega) (by omega) (by omega)]
  generalize hf : 102873 - v = f
  unfold mulS
  rw [sat_id (show -536870911 ≤ z ∧ z ≤ 536870911 by omega), sat_id (show -536870911 ≤ f ∧ f ≤ 536870911 by omega)]
  have k1 := Int.mul_nonneg z0 (show 0 ≤ f by omega)
  have k2 := Int.mul_le_mul z1 (show f ≤ 102873 by omega) (by omega) (by omega)
  have k3 : 0 < z → 60967 ≤ z * f := fun h => by
    have := Int.mul_le_mul (show 1 ≤ z by omega) (show 60967 ≤ f by omega) (by omega) (by omega)
    omega
  have := rdv_pos (n := z * f) (d := 65536) k1 (by omega) (by omega) (by omega)
  rw [sat_id (by omega)]
  omega
/-- The sine is small, and 0 at multiples of Pi alone. -/
theorem sinA_val (a : Int) : -200000 ≤ sinA a ∧ sinA a ≤ 200000 ∧ (sinA a = 0 → absS (normA a) = 0 ∨ absS (normA a) = 205888) := by
  have hb := normA_bd a
  have ha : 0 ≤ absS (normA a) ∧ absS (normA a) ≤ 205888 := by unfold absS; split <;> omega
  unfold sinA
  simp only
  by_cases hq : 102944 < absS (normA a)
  · rw [if_pos hq]
    have := sinQ_bd (x := 205888 - absS (normA a)) (by omega) (by omega)
    split <;> omega
  · rw [if_neg hq]
    have := sinQ_bd (x := absS (normA a)) (by omega) (by omega)
    split <;> omega
theorem cosA_val (a : Int) : -200000 ≤ cosA a ∧ cosA a ≤ 200000 ∧ (cosA a = 0 → absS (normA a) = 102944) := by
  have hb := normA_bd a
  have ha : 0 ≤ absS (normA a) ∧ absS (normA a) ≤ 205888 := by unfold absS; split <;> omega
  have h := sinA_val (102944 - absS (normA a))
  refine ⟨h.1, h.2.1, fun h0 => ?_⟩
  have h1 := h.2.2 h0
  rw [normA_id (by omega)] at h1
  generalize absS (normA a) = t at *
  unfold absS at h1
  split at h1 <;> omega
theorem frac_low {c L : Int} (hb : -536870911 ≤ c ∧ c ≤ 536870911) (hL : 0 < L ∧ L ≤ 300000) (hc : -L ≤ c ∧ c ≤ L) : ∃ p q : Int, 0 ≤ p ∧ 0 ≤ q ∧ q ≤ 65536 ∧ p * p = c * c ∧ q * q = divS c L * divS c L ∧ 131072 * p ≤ L * (2 * q + 1) := by
  have hf := rdv_frac (c := c) (l := L) hL.1 (by omega) hc
  have hd : divS c L = rdv (c * 65536) L := by
    unfold divS
    rw [sat_id hb, sat_id (show -536870911 ≤ L ∧ L ≤ 536870911 by omega), if_neg (by omega), if_neg (by omega), sat_id (by omega)]
  rw [hd]
  by_cases h0 : 0 ≤ c
  · obtain ⟨k1, k2, k3⟩ := rdv_pos (n := c * 65536) (d := L) (by omega) (by omega) hL.1 (by omega)
    refine ⟨c, rdv (c * 65536) L, h0, k3, hf.2, rfl, rfl, ?_⟩
    rw [Int.mul_add, Int.mul_one, show L * (2 * rdv (c * 65536) L) = 2 * (L * rdv (c * 65536) L) by grind]
    omega
  · obtain ⟨k1, k2, k3⟩ := rdv_pos (n := -(c * 65536)) (d := L) (by omega) (by omega) hL.1 (by omega)
    rw [rdv_neg] at k1 k2 k3
    refine ⟨-c, -rdv (c * 65536) L, by omega, k3, by omega, by grind, by grind, ?_⟩
    rw [Int.mul_add, Int.mul_one, show L * (2 * -rdv (c * 65536) L) = 2 * (L * -rdv (c * 65536) L) by grind]
    omega
theorem sq_mono {a b : Int} (h0 : 0 ≤ a) (h : a ≤ b) : a * a ≤ b * b := Int.mul_le_mul h h h0 (by omega)
theorem rotA_sq (a : Int) : 2576980378 ≤ (rotA a).Cos * (rotA a).Cos + (rotA a).Sin * (rotA a).Sin := by
  have hc := cosA_val a
  have hs := sinA_val a
  unfold rotA
  generalize cosA a = c at *
  generalize sinA a = s at *
  have c2 := mb (X := 200000) (Y := 200000) hc.1 hc.2.1 hc.1 hc.2.1
  have s2 := mb (X := 200000) (Y := 200000) hs.1 hs.2.1 hs.1 hs.2.1
  have c0 := sq_nn c
  have s0 := sq_nn s
  have hn : 1 ≤ c * c + s * s := by
    by_cases h : c = 0
    · have h2 : s ≠ 0 := fun h3 => by
        have := hc.2.2 h
        have := hs.2.2 h3
        omega
      have : 0 < s * s := by
        rcases Int.lt_or_gt_of_ne h2 with k | k
        · exact Int.mul_pos_of_neg_of_neg k k
        · exact Int.mul_pos k k
      omega
    · have : 0 < c * c := by
        rcases Int.lt_or_gt_of_ne h with k | k
        · exact Int.mul_pos_of_neg_of_neg k k
        · exact Int.mul_pos k k
      omega
  have hb := isq_bd (c * c + s * s)
  have hu := isq_up (n := c * c + s * s) (by omega)
  have hrc := root_le (c := c) (n := c * c + s * s) (by omega) (by omega)
  have hrs := root_le (c := s) (n := c * c + s * s) (by omega) (by omega)
  have hLn := hb.2.2 (by omega)
  show 2576980378 ≤ divS c (isq (c * c + s * s)) * divS c (isq (c * c + s * s)) + divS s (isq (c * c + s * s)) * divS s (isq (c * c + s * s))
  generalize isq (c * c + s * s) = L at *
  have hL1 : 0 < L := by
    rcases Int.lt_or_le 0 L with h | h
    · exact h
    · have : L = 0 := by omega
      subst this
      omega
  have hL2 : L ≤ 300000 := by
    rcases Int.lt_or_le 300000 L with h | h
    · have := sq_mono (a := 300001) (by omega) (show 300001 ≤ L by omega)
      omega
    · exact h
  obtain ⟨p, q, p0, q0, q1, e1, e2, e3⟩ := frac_low (by omega) ⟨hL1, hL2⟩ hrc
  obtain ⟨p', q', p0', q0', q1', e1', e2', e3'⟩ := frac_low (by omega) ⟨hL1, hL2⟩ hrs
  rw [← e2, ← e2']
  have m1 := sq_mono (a := 131072 * p) (by omega) e3
  have m2 := sq_mono (a := 131072 * p') (by omega) e3'
  have m3 : (L * L) * 17179869184 ≤ (L * L) * ((2 * q + 1) * (2 * q + 1) + (2 * q' + 1) * (2 * q' + 1)) := by
    have g1 : (131072 * p) * (131072 * p) = 17179869184 * (p * p) := by grind
    have g2 : (131072 * p') * (131072 * p') = 17179869184 * (p' * p') := by grind
    have g3 : L * (2 * q + 1) * (L * (2 * q + 1)) = (L * L) * ((2 * q + 1) * (2 * q + 1)) := by grind
    have g4 : L * (2 * q' + 1) * (L * (2 * q' + 1)) = (L * L) * ((2 * q' + 1) * (2 * q' + 1)) := by grind
    rw [g1, g3] at m1
    rw [g2, g4] at m2
    rw [Int.mul_add]
    omega
  have m4 := Int.le_of_mul_le_mul_left m3 (Int.mul_pos hL1 hL1)
  have g5 : (2 * q + 1) * (2 * q + 1) = 4 * (q * q) + 4 * q + 1 := by grind
  have g6 : (2 * q' + 1) * (2 * q' + 1) = 4 * (q' * q') + 4 * q' + 1 := by grind
  omega
end GoOld

/- The plain law of points in polygons. No conditions. -/
set_option linter.all false
set_option maxRecDepth 100000
open Go Go.Rx
namespace GoOld
open GoForm
open GoGeo
def toV (v : Vec) : V := (v.X, v.Y)
/-- Where a vertex lies before the translation. -/
def wV (t : Transform) (v : Vec) : V := (rdv ((rotA t.Angle).Cos * v.X - (rotA t.Angle).Sin * v.Y) 65536, rdv ((rotA t.Angle).Sin * v.X + (rotA t.Angle).Cos * v.Y) 65536)
def PosOk (t : Transform) : Prop := (-268435456 ≤ t.Position.X ∧ t.Position.X ≤ 268435456) ∧ (-268435456 ≤ t.Position.Y ∧ t.Position.Y ≤ 268435456)
theorem wV_img (t : Transform) (v : Vec) (hv : inRng 1048576 v = true) : Img (rotA t.Angle).Cos (rotA t.Angle).Sin (toV v) (wV t v) ∧ -4194304 ≤ (wV t v).1 ∧ (wV t v).1 ≤ 4194304 ∧ -4194304 ≤ (wV t v).2 ∧ (wV t v).2 ≤ 4194304 := by
  obtain ⟨⟨c1, c2⟩, s1, s2⟩ := rotA_bd t.Angle
  obtain ⟨x1, x2, y1, y2⟩ := (inRng_iff _ _).1 hv
  unfold wV Img toV
  generalize (rotA t.Angle).Cos = c at *
  generalize (rotA t.Angle).Sin = s at *
  have m1 := mb (X := 65536) (Y := 1048576) c1 c2 x1 x2
  have m2 := mb (X := 65536) (Y := 1048576) s1 s2 y1 y2
  have m3 := mb (X := 65536) (Y := 1048576) s1 s2 x1 x2
  have m4 := mb (X := 65536) (Y := 1048576) c1 c2 y1 y2
  have r1 := rdv_spec (n := c * v.X - s * v.Y) (by omega)
  have r2 := rdv_spec (n := s * v.X + c * v.Y) (by omega)
  refine ⟨⟨65536 * rdv (c * v.X - s * v.Y) 65536 - (c * v.X - s * v.Y), 65536 * rdv (s * v.X + c * v.Y) 65536 - (s * v.X + c * v.Y), r1.1, r1.2, r2.1, r2.2, by show 65536 * rdv (c * v.X - s * v.Y) 65536 = c * v.X - s * v.Y + (65536 * rdv (c * v.X - s * v.Y) 65536 - (c * v.X - s * v.Y)); omega, by show 65536 * rdv (s * v.X + c * v.Y) 65536 = s * v.X + c * v.Y + (65536 * rdv (s * v.X + c * v.Y) 65536 - (s * v.X + c * v.Y)); omega⟩, by show _ ≤ rdv _ _; omega, by show rdv _ _ ≤ _; omega, by show _ ≤ rdv _ _; omega, by show rdv _ _ ≤ _; omega⟩
theorem applyT_val (t : Transform) (v : Vec) (ht : PosOk t) (hv : inRng 1048576 v = true) : applyT t v = ⟨(wV t v).1 + t.Position.X, (wV t v).2 + t.Position.Y⟩ := by
  obtain ⟨⟨c1, c2⟩, s1, s2⟩ := rotA_bd t.Angle
  obtain ⟨-, w1, w2, w3, w4⟩ := wV_img t v hv
  obtain ⟨x1, x2, y1, y2⟩ := (inRng_iff _ _).1 hv
  obtain ⟨⟨p1, p2⟩, p3, p4⟩ := ht
  unfold wV at w1 w2 w3 w4
  unfold applyT addV rotV prodS addS wV
  dsimp only at w1 w2 w3 w4 ⊢
  rw [sat_id (show -536870911 ≤ (rotA t.Angle).Cos ∧ (rotA t.Angle).Cos ≤ 536870911 by omega), sat_id (show -536870911 ≤ (rotA t.Angle).Sin ∧ (rotA t.Angle).Sin ≤ 536870911 by omega), sat_id (show -536870911 ≤ v.X ∧ v.X ≤ 536870911 by omega), sat_id (show -536870911 ≤ v.Y ∧ v.Y ≤ 536870911 by omega),
    sat_id (show -536870911 ≤ t.Position.X ∧ t.Position.X ≤ 536870911 by omega), sat_id (show -536870911 ≤ t.Position.Y ∧ t.Position.Y ≤ 536870911 by omega)]
  generalize rdv ((rotA t.Angle).Cos * v.X - (rotA t.Angle).Sin * v.Y) 65536 = a at *
  generalize rdv ((rotA t.Angle).Sin * v.X + (rotA t.Angle).Cos * v.Y) 65536 = b at *
  rw [sat_id (x := a) (by omega), sat_id (x := a) (by omega), sat_id (x := a + t.Position.X) (by omega), sat_id (x := b) (by omega), sat_id (x := b) (by omega), sat_id (x := b + t.Position.Y) (by omega)]
theorem toV_applyT (t : Transform) (v : Vec) (ht : PosOk t) (hv : inRng 1048576 v = true) : toV (applyT t v) = sb (wV t v) (-t.Position.X, -t.Position.Y) := by
  rw [applyT_val t v ht hv]; unfold toV sb; simp only [Prod.mk.injEq]; omega
/-- The area of the fan. -/
theorem crossAt_spec {vs : List Vec} (hr : ∀ v ∈ vs, inRng 1048576 v = true) (i : Nat) (hi : i + 1 < vs.length) :
    -32768 ≤ 65536 * crossAt vs i - cr (sb (toV (ix vs (i : Int))) (toV (ix vs 0))) (sb (toV (ix vs ((i + 1 : Nat) : Int))) (toV (ix vs 0))) ∧
    65536 * crossAt vs i - cr (sb (toV (ix vs (i : Int))) (toV (ix vs 0))) (sb (toV (ix vs ((i + 1 : Nat) : Int))) (toV (ix vs 0))) ≤ 32768 ∧ -268435456 ≤ crossAt vs i ∧ crossAt vs i ≤ 268435456 := by
  have mem : ∀ j : Nat, j < vs.length → inRng 1048576 (ix vs (j : Int)) = true := fun j hj => hr _ (by rw [ix_lt vs j hj]; exact List.getElem_mem hj)
  obtain ⟨a1, a2, a3, a4⟩ := (inRng_iff _ _).1 (mem i (by omega))
  obtain ⟨b1, b2, b3, b4⟩ := (inRng_iff _ _).1 (mem (i + 1) hi)
  obtain ⟨o1, o2, o3, o4⟩ := (inRng_iff _ _).1 (mem 0 (by omega))
  unfold crossAt cr sb toV
  rw [show ((i : Int) + 1) = ((i + 1 : Nat) : Int) by omega]
  rw [show ((0 : Nat) : Int) = (0 : Int) from rfl] at o1 o2 o3 o4
  dsimp only
  generalize ix vs (i : Int) = a at *
  generalize ix vs ((i + 1 : Nat) : Int) = b at *
  generalize ix vs (0 : Int) = o at *
  have m1 := mb (x := a.X - o.X) (y := b.Y - o.Y) (X := 2097152) (Y := 2097152) (by omega) (by omega) (by omega) (by omega)
  have m2 := mb (x := a.Y - o.Y) (y := b.X - o.X) (X := 2097152) (Y := 2097152) (by omega) (by omega) (by omega) (by omega)
  rw [w64_of _ (by omega)]
  have := rdv_spec (n := (a.X - o.X) * (b.Y - o.Y) - (a.Y - o.Y) * (b.X - o.X)) (by omega)
  omega
theorem fold_fan {vs : List Vec} (hr : ∀ v ∈ vs, inRng 1048576 v = true) : ∀ (k i : Nat) (a : Int), i + k + 1 = vs.length → k ≤ 10 → -(268435456 * (20 - (k : Int))) ≤ a → a ≤ 268435456 * (20 - (k : Int)) →
    65536 * foldR (fun i a => w64 (a + crossAt vs i)) i k a ≤ 65536 * a + fanC (toV (ix vs 0)) (toV (ix vs (i : Int))) ((vs.drop (i + 1)).map toV) + 32768 * (k : Int)
  | 0, i, a, h, _, _, _ => by
    rw [List.drop_of_length_le (by omega)]
    show 65536 * a ≤ 65536 * a + 0 + 32768 * 0
    omega
  | k + 1, i, a, h, hk, h1, h2 => by
    obtain ⟨c1, c2, c3, c4⟩ := crossAt_spec hr i (by omega)
    have ih := fold_fan hr k (i + 1) (w64 (a + crossAt vs i)) (by omega) (by omega) (by rw [w64_of _ (by omega)]; omega) (by rw [w64_of _ (by omega)]; omega)
    rw [w64_of (a + crossAt vs i) (by omega)] at ih
    rw [drop_ix vs (i + 1) (by omega), List.map_cons]
    show 65536 * foldR (fun i a => w64 (a + crossAt vs i)) (i + 1) k (w64 (a + crossAt vs i)) ≤ 65536 * a + (cr (sb (toV (ix vs (i : Int))) (toV (ix vs 0))) (sb (toV (ix vs ((i + 1 : Nat) : Int))) (toV (ix vs 0))) + fanC (toV (ix vs 0)) (toV (ix vs ((i + 1 : Nat) : Int))) ((vs.drop (i + 1 + 1)).map toV)) + 32768 * ((k + 1 : Nat) : Int)
    rw [w64_of (a + crossAt vs i) (by omega)]
    omega
theorem area_sum {vs : List Vec} (h : 256 ≤ areaV vs) : 3 ≤ vs.length ∧ vs.length ≤ 8 ∧ (∀ v ∈ vs, inRng 1048576 v = true) ∧ 33292288 ≤ sumC (toV (ix vs 0)) (toV (ix vs 0)) ((vs.drop 1).map toV) := by
  unfold areaV at h
  by_cases hc : convexB vs = true
  · rw [if_pos hc] at h
    obtain ⟨l3, l8, hr⟩ := convexB_len hc
    refine ⟨l3, l8, hr, ?_⟩
    have hf := fold_fan hr (vs.length - 2) 1 0 (by omega) (by omega) (by omega) (by omega)
    rw [show foldR (fun i a => w64 (a + crossAt vs i)) 1 (vs.length - 2) 0 = crossSum vs from rfl] at hf
    have hs : 511 ≤ crossSum vs := by
      rcases Int.lt_or_le (crossSum vs) 0 with g | g
      · have := rdv_le (n := -crossSum vs) (d := 2) (by omega)
        rw [rdv_neg] at this; omega
      · rcases Int.lt_or_le 4611686018427387904 (crossSum vs) with k | k
        · have : rdv (crossSum vs) 2 = 0 := by unfold rdv; rw [if_pos (by omega)]
          omega
        · have := rdv_pos (n := crossSum vs) (d := 2) g k (by omega) (by omega)
          omega
    rw [drop_ix vs 1 (by omega), List.map_cons, fan_cyc]
    rw [show ((1 : Nat) : Int) = (1 : Int) from rfl] at hf ⊢
    omega
  · rw [if_neg hc] at h; omega
/-- The orientation tests of a contained point. -/
theorem okC_in {ps : List Vec} {v : Vec} (hs : ∀ x ∈ ps, satV x = x) (hin : insideP v ps = true) : ∀ (k i : Nat), i + k + 1 = ps.length → okC (sb (toV (ix ps 0)) (toV (satV v))) (sb (toV (ix ps (i : Int))) (toV (satV v))) (((ps.drop (i + 1)).map toV).map (sb · (toV (satV v)))) := by
  have mem : ∀ j : Nat, j < ps.length → satV (ix ps (j : Int)) = ix ps (j : Int) := fun j hj => hs _ (by rw [ix_lt ps j hj]; exact List.getElem_mem hj)
  have hall := (allR_true _ _ _).1 hin
  have ori : ∀ i j : Nat, i < ps.length → j < ps.length → nxt ps i = (j : Int) → 0 ≤ cr (sb (toV (ix ps (i : Int))) (toV (satV v))) (sb (toV (ix ps (j : Int))) (toV (satV v))) := by
    intro i j hi hj e
    have h1 := hall i (by omega) (by omega)
    rw [decide_eq_true_eq, e] at h1
    have e1 := mem i hi
    have e2 := mem j hj
    rw [← orient_cr]
    generalize ix ps (i : Int) = a at *
    generalize ix ps (j : Int) = b at *
    unfold oriV at h1
    have a1 : sat a.X = a.X := congrArg Vec.X e1
    have a2 : sat a.Y = a.Y := congrArg Vec.Y e1
    have b1 : sat b.X = b.X := congrArg Vec.X e2
    have b2 : sat b.Y = b.Y := congrArg Vec.Y e2
    rw [a1, a2, b1, b2] at h1
    show 0 ≤ (b.X - a.X) * (sat v.Y - a.Y) - (b.Y - a.Y) * (sat v.X - a.X)
    omega
  have nx : ∀ i : Nat, i + 1 < ps.length → nxt ps i = ((i + 1 : Nat) : Int) := by
    intro i hi
    unfold nxt
    rw [Int.tmod_eq_of_lt (by omega) (by omega)]; omega
  have n0 : ∀ i : Nat, i + 1 = ps.length → nxt ps i = ((0 : Nat) : Int) := by
    intro i hi
    unfold nxt
    rw [show ((i : Int) + 1) = (ps.length : Int) by omega, Int.tmod_self]; rfl
  intro k
  induction k with
  | zero =>
    intro i h
    rw [List.drop_of_length_le (by omega)]
    exact ori i 0 (by omega) (by omega) (n0 i (by omega))
  | succ k ih =>
    intro i h
    rw [drop_ix ps (i + 1) (by omega), List.map_cons, List.map_cons]
    exact ⟨ori i (i + 1) (by omega) (by omega) (nx i (by omega)), ih (i + 1) (by omega)⟩
theorem ix_map {α β : Type} [Inhabited α] [Inhabited β] (f : α → β) (l : List α) (i : Nat) (h : i < l.length) : ix (l.map f) (i : Int) = f (ix l (i : Int)) := by
  rw [ix_lt _ i (by rw [List.length_map]; exact h), ix_lt l i h, List.getElem_map]
/-- A contained point lies in the box of a polygon's vertices. -/
theorem poly_box {vs : List Vec} {t : Transform} {v : Vec} (ht : PosOk t) (ha : 256 ≤ areaV vs) (hin : insideP v (vs.map (applyT t)) = true) :
    (∃ x ∈ vs.map (applyT t), (satV v).X ≤ x.X) ∧ (∃ x ∈ vs.map (applyT t), x.X ≤ (satV v).X) ∧ (∃ x ∈ vs.map (applyT t), (satV v).Y ≤ x.Y) ∧ (∃ x ∈ vs.map (applyT t), x.Y ≤ (satV v).Y) := by
  obtain ⟨l3, l8, hr, hS⟩ := area_sum ha
  have hok := okC_in (ps := vs.map (applyT t)) (fun x hx => by obtain ⟨u, -, rfl⟩ := List.mem_map.1 hx; exact applyT_sat t u) hin (vs.length - 1) 0 (by rw [List.length_map]; omega)
  obtain ⟨⟨c1, c2⟩, s1, s2⟩ := rotA_bd t.Angle
  have e0 : ix vs 0 ∈ vs := by
    have := ix_lt vs 0 (by omega)
    rw [show ((0 : Nat) : Int) = (0 : Int) from rfl] at this
    rw [this]; exact List.getElem_mem _
  have inm : ∀ x ∈ vs, inM (toV x) := fun x hx => by
    obtain ⟨x1, x2, y1, y2⟩ := (inRng_iff _ _).1 (hr x hx)
    exact ⟨x1, x2, y1, y2⟩
  have hpos := no_flat (c := (rotA t.Angle).Cos) (s := (rotA t.Angle).Sin) (by omega) (by omega) (by omega) (by omega) (rotA_sq t.Angle) (p := toV (ix vs 0)) (u := wV t (ix vs 0)) (l := (vs.drop 1).map toV) (m := (vs.drop 1).map (wV t))
    (inm _ e0) (wV_img t _ (hr _ e0)).1 (fun x hx => by
      obtain ⟨y, hy, rfl⟩ := List.mem_map.1 hx
      exact inm y (List.mem_of_mem_drop hy)) (by simp) (by simp; omega) (fun i x y hx hy => by
      rw [List.getElem?_map] at hx hy
      cases hz : (vs.drop 1)[i]? with
      | none => rw [hz] at hx; cases hx
      | some z =>
        rw [hz] at hx hy
        cases hx; cases hy
        exact (wV_img t z (hr z (List.mem_of_mem_drop (List.mem_of_getElem? hz)))).1) hS
  rw [← cyc_move (-t.Position.X, -t.Position.Y)] at hpos
  have eu : sb (wV t (ix vs 0)) (-t.Position.X, -t.Position.Y) = toV (applyT t (ix vs 0)) := (toV_applyT t _ ht (hr _ e0)).symm
  have em : ((vs.drop 1).map (wV t)).map (sb · (-t.Position.X, -t.Position.Y)) = (((vs.map (applyT t)).drop 1).map toV) := by
    rw [← List.map_drop, List.map_map, List.map_map]
    refine List.map_congr_left fun x hx => ?_
    exact (toV_applyT t x ht (hr x (List.mem_of_mem_drop hx))).symm
  rw [eu, em] at hpos
  have ei : ix (vs.map (applyT t)) ((0 : Nat) : Int) = applyT t (ix vs 0) := ix_map (applyT t) vs 0 (by omega)
  rw [show ((0 : Nat) : Int) = (0 : Int) from rfl] at ei hok
  rw [ei] at hok
  obtain ⟨⟨a, ha, h1⟩, ⟨b, hb, h2⟩, ⟨c, hc, h3⟩, ⟨d, hd, h4⟩⟩ := box (toV (applyT t (ix vs 0))) (toV (satV v)) (((vs.map (applyT t)).drop 1).map toV) hpos hok
  have mem : ∀ x, x ∈ toV (applyT t (ix vs 0)) :: ((vs.map (applyT t)).drop 1).map toV → ∃ y ∈ vs.map (applyT t), toV y = x := by
    intro x hx
    rcases List.mem_cons.1 hx with rfl | hx
    · exact ⟨_, List.mem_map.2 ⟨_, e0, rfl⟩, rfl⟩
    · obtain ⟨y, hy, rfl⟩ := List.mem_map.1 hx
      exact ⟨y, List.mem_of_mem_drop hy, rfl⟩
  obtain ⟨a', ha', rfl⟩ := mem a ha
  obtain ⟨b', hb', rfl⟩ := mem b hb
  obtain ⟨c', hc', rfl⟩ := mem c hc
  obtain ⟨d', hd', rfl⟩ := mem d hd
  exact ⟨⟨a', ha', h1⟩, ⟨b', hb', h2⟩, ⟨c', hc', h3⟩, ⟨d', hd', h4⟩⟩
end GoOld

/- The plain law of points in shapes and in their boxes. No conditions. -/
set_option linter.all false
set_option maxRecDepth 100000
open Go Go.Rx
namespace GoOld
open GoForm
open GoGeo
structure OKB (b : AABB) : Prop where
  a1 : -536870911 ≤ b.Min.X
  a2 : b.Min.X ≤ b.Max.X
  a3 : b.Max.X ≤ 536870911
  b1 : -536870911 ≤ b.Min.Y
  b2 : b.Min.Y ≤ b.Max.Y
  b3 : b.Max.Y ≤ 536870911
structure Inb (b : AABB) (x : Vec) : Prop where
  a1 : b.Min.X ≤ x.X
  a2 : x.X ≤ b.Max.X
  b1 : b.Min.Y ≤ x.Y
  b2 : x.Y ≤ b.Max.Y
theorem okBx_iff (b : AABB) : okBx b = true ↔ OKB b := by
  unfold okBx satd
  simp only [Bool.and_eq_true, decide_eq_true_eq, beq_iff_eq]
  constructor
  · rintro ⟨⟨⟨h1, h2⟩, h3, h4⟩, h5, h6⟩
    unfold sat at h3 h4 h5 h6
    exact ⟨by omega, by omega, by omega, by omega, by omega, by omega⟩
  · rintro ⟨h1, h2, h3, h4, h5, h6⟩
    unfold sat
    exact ⟨⟨⟨by omega, by omega⟩, by omega, by omega⟩, by omega, by omega⟩
theorem step_ok (ps : List Vec) (i : Nat) {b : AABB} (h : OKB b) : OKB (boxStep ps i b) ∧ (∀ x, Inb b x → Inb (boxStep ps i b) x) ∧ Inb (boxStep ps i b) (satV (ix ps (i : Int))) := by
  obtain ⟨h1, h2, h3, h4, h5, h6⟩ := h
  have s1 := sat_bd (ix ps (i : Int)).X
  have s2 := sat_bd (ix ps (i : Int)).Y
  unfold boxStep lowV uppV satV
  refine ⟨⟨?_, ?_, ?_, ?_, ?_, ?_⟩, fun x ⟨k1, k2, k3, k4⟩ => ⟨?_, ?_, ?_, ?_⟩, ⟨?_, ?_, ?_, ?_⟩⟩ <;> dsimp only <;> omega
theorem fold_box (ps : List Vec) : ∀ (k i : Nat) (b : AABB), OKB b → OKB (foldR (boxStep ps) i k b) ∧ (∀ x, Inb b x → Inb (foldR (boxStep ps) i k b) x) ∧ ∀ j, i ≤ j → j < i + k → Inb (foldR (boxStep ps) i k b) (satV (ix ps (j : Int)))
  | 0, i, b, h => ⟨h, fun _ hx => hx, fun j h1 h2 => by omega⟩
  | k + 1, i, b, h => by
    obtain ⟨h1, h2, h3⟩ := step_ok ps i h
    obtain ⟨k1, k2, k3⟩ := fold_box ps k (i + 1) _ h1
    refine ⟨k1, fun x hx => k2 x (h2 x hx), fun j g1 g2 => ?_⟩
    by_cases e : j = i
    · subst e; exact k2 _ h3
    · exact k3 j (by omega) (by omega)
theorem boxP_ok {ps : List Vec} (h0 : ps.length ≠ 0) (hs : ∀ x ∈ ps, satV x = x) : OKB (boxP ps).1 ∧ ∀ x ∈ ps, Inb (boxP ps).1 x := by
  unfold boxP
  rw [if_neg h0]
  have s1 := sat_bd (ix ps 0).X
  have s2 := sat_bd (ix ps 0).Y
  obtain ⟨k1, k2, k3⟩ := fold_box ps (ps.length - 1) 1 ⟨satV (ix ps 0), satV (ix ps 0)⟩ ⟨s1.1, Int.le_refl _, s1.2, s2.1, Int.le_refl _, s2.2⟩
  refine ⟨k1, fun x hx => ?_⟩
  obtain ⟨j, hj, rfl⟩ := List.mem_iff_getElem.1 hx
  rw [← ix_lt ps j hj]
  have hm : satV (ix ps (j : Int)) = ix ps (j : Int) := hs _ (by rw [ix_lt ps j hj]; exact List.getElem_mem hj)
  rw [← hm]
  by_cases e : j = 0
  · subst e
    exact k2 _ ⟨Int.le_refl _, Int.le_refl _, Int.le_refl _, Int.le_refl _⟩
  · exact k3 j (by omega) (by omega)
structure Near (r : Int) (x : Vec) (ps : List Vec) : Prop where
  a1 : ∃ p ∈ ps, x.X ≤ p.X + r
  a2 : ∃ p ∈ ps, p.X ≤ x.X + r
  b1 : ∃ p ∈ ps, x.Y ≤ p.Y + r
  b2 : ∃ p ∈ ps, p.Y ≤ x.Y + r
theorem shapeBx_ok {s : Shape} {t : Transform} (h0 : (vertsW s t).length ≠ 0) (hr : 0 ≤ s.Radius ∧ s.Radius ≤ 524288) : OKB (shapeBx s t) ∧ ∀ v, Near s.Radius (satV v) (vertsW s t) → Inb (shapeBx s t) (satV v) := by
  obtain ⟨⟨k1, k2, k3, k4, k5, k6⟩, hin⟩ := boxP_ok h0 (vertsW_sat s t)
  unfold shapeBx
  rw [if_neg h0]
  generalize (boxP (vertsW s t)).1 = b at *
  generalize s.Radius = r at *
  unfold subV addV subS addS
  constructor
  · unfold sat
    refine ⟨?_, ?_, ?_, ?_, ?_, ?_⟩ <;> dsimp only <;> omega
  · intro v hn
    obtain ⟨⟨p1, m1, e1⟩, ⟨p2, m2, e2⟩, ⟨p3, m3, e3⟩, ⟨p4, m4, e4⟩⟩ := hn
    have i1 := hin p1 m1
    have i2 := hin p2 m2
    have i3 := hin p3 m3
    have i4 := hin p4 m4
    obtain ⟨g1, g2, g3, g4⟩ := i1
    obtain ⟨f1, f2, f3, f4⟩ := i2
    obtain ⟨q1, q2, q3, q4⟩ := i3
    obtain ⟨u1, u2, u3, u4⟩ := i4
    have s1 := sat_bd v.X
    have s2 := sat_bd v.Y
    unfold satV at *
    dsimp only at e1 e2 e3 e4
    generalize sat v.X = x at *
    generalize sat v.Y = y at *
    unfold sat
    refine ⟨?_, ?_, ?_, ?_⟩ <;> dsimp only <;> omega
theorem unionBx_ok {a b : AABB} (ha : OKB a) (hb : OKB b) : OKB (unionBx a b) ∧ (∀ x, Inb a x → Inb (unionBx a b) x) ∧ (∀ x, Inb b x → Inb (unionBx a b) x) := by
  unfold unionBx
  rw [if_pos ⟨(okBx_iff a).2 ha, (okBx_iff b).2 hb⟩]
  obtain ⟨h1, h2, h3, h4, h5, h6⟩ := ha
  obtain ⟨k1, k2, k3, k4, k5, k6⟩ := hb
  unfold lowV uppV
  refine ⟨⟨?_, ?_, ?_, ?_, ?_, ?_⟩, fun x ⟨e1, e2, e3, e4⟩ => ⟨?_, ?_, ?_, ?_⟩, fun x ⟨e1, e2, e3, e4⟩ => ⟨?_, ?_, ?_, ?_⟩⟩ <;> dsimp only <;> omega
theorem fold_union {F : Nat → AABB} : ∀ (k i : Nat) (b : AABB), OKB b → (∀ j, i ≤ j → j < i + k → OKB (F j)) → OKB (foldR (fun i x => unionBx x (F i)) i k b) ∧ (∀ x, Inb b x → Inb (foldR (fun i x => unionBx x (F i)) i k b) x) ∧ ∀ j, i ≤ j → j < i + k → ∀ x, Inb (F j) x → Inb (foldR (fun i x => unionBx x (F i)) i k b) x
  | 0, i, b, h, _ => ⟨h, fun _ hx => hx, fun j h1 h2 => by omega⟩
  | k + 1, i, b, h, hF => by
    obtain ⟨h1, h2, h3⟩ := unionBx_ok h (hF i (by omega) (by omega))
    obtain ⟨k1, k2, k3⟩ := fold_union k (i + 1) _ h1 (fun j g1 g2 => hF j (by omega) (by omega))
    refine ⟨k1, fun x hx => k2 x (h2 x hx), fun j g1 g2 x hx => ?_⟩
    by_cases e : j = i
    · subst e; exact k2 _ (h3 x hx)
    · exact k3 j (by omega) (by omega) x hx
/-- A short vector. -/
theorem len_le {w : Vec} {r : Int} (hr : r ≤ 524288) (h : lenV w ≤ r) : -r ≤ w.X ∧ w.X ≤ r ∧ -r ≤ w.Y ∧ w.Y ≤ r := by
  unfold lenV at h
  have m1 := sat_mul w.X w.X
  have m2 := sat_mul w.Y w.Y
  have p1 := sq_nn (sat w.X)
  have p2 := sq_nn (sat w.Y)
  have k1 := root_le (c := sat w.X) (n := sat w.X * sat w.X + sat w.Y * sat w.Y) (by omega) (by omega)
  have k2 := root_le (c := sat w.Y) (n := sat w.X * sat w.X + sat w.Y * sat w.Y) (by omega) (by omega)
  generalize isq (sat w.X * sat w.X + sat w.Y * sat w.Y) = L at *
  unfold sat at k1 k2
  omega
theorem sub_near {a c r : Int} (hc : sat c = c) (hr : 0 ≤ r ∧ r ≤ 524288) (h : -r ≤ subS a c ∧ subS a c ≤ r) : sat a ≤ c + r ∧ c ≤ sat a + r := by
  unfold subS at h
  rw [hc] at h
  generalize sat a = x at *
  unfold sat at h
  omega
theorem dsq_le {p q : Vec} {r : Int} (hr : 0 ≤ r ∧ r ≤ 524288) (h : sat (isq (dsq p q)) ≤ r) : sat p.X ≤ sat q.X + r ∧ sat q.X ≤ sat p.X + r ∧ sat p.Y ≤ sat q.Y + r ∧ sat q.Y ≤ sat p.Y + r := by
  have m1 := diff_mul q.X p.X q.X p.X
  have m2 := diff_mul q.Y p.Y q.Y p.Y
  have b1 := sat_bd p.X
  have b2 := sat_bd p.Y
  have b3 := sat_bd q.X
  have b4 := sat_bd q.Y
  unfold dsq at h
  rw [w64_of (sat q.X - sat p.X) (by omega), w64_of (sat q.Y - sat p.Y) (by omega), w64_of ((sat q.X - sat p.X) * (sat q.X - sat p.X)) (by omega), w64_of ((sat q.Y - sat p.Y) * (sat q.Y - sat p.Y)) (by omega), w64_of _ (by omega)] at h
  have p1 := sq_nn (sat q.X - sat p.X)
  have p2 := sq_nn (sat q.Y - sat p.Y)
  have k1 := root_le (c := sat q.X - sat p.X) (n := (sat q.X - sat p.X) * (sat q.X - sat p.X) + (sat q.Y - sat p.Y) * (sat q.Y - sat p.Y)) (by omega) (by omega)
  have k2 := root_le (c := sat q.Y - sat p.Y) (n := (sat q.X - sat p.X) * (sat q.X - sat p.X) + (sat q.Y - sat p.Y) * (sat q.Y - sat p.Y)) (by omega) (by omega)
  generalize isq ((sat q.X - sat p.X) * (sat q.X - sat p.X) + (sat q.Y - sat p.Y) * (sat q.Y - sat p.Y)) = L at *
  generalize sat q.X = x1 at *
  generalize sat q.Y = y1 at *
  generalize sat p.X = x2 at *
  generalize sat p.Y = y2 at *
  unfold sat at h
  omega
end GoOld

/- The plain law of points in shapes: what a shape contains is near its vertices' box. No conditions. -/
set_option linter.all false
set_option maxRecDepth 100000
open Go Go.Rx
namespace GoOld
open GoForm
open GoGeo
theorem boxP_two (a b : Vec) : (boxP [a, b]).1 = ⟨lowV (satV a) (satV b), uppV (satV a) (satV b)⟩ := rfl
theorem sec_near {v a b : Vec} {r : Int} (hr : 0 ≤ r) (ha : satV a = a) (hb : satV b = b) (h : secB v v a b = true) : Near r (satV v) [a, b] := by
  unfold secB at h
  rw [Bool.and_eq_true] at h
  have h2 := h.2
  unfold ovlB at h2
  rw [boxP_two, boxP_two, ha, hb] at h2
  simp only [Bool.and_eq_true, decide_eq_true_eq] at h2
  obtain ⟨-, ⟨⟨h3, h4⟩, h5⟩, h6⟩ := h2
  unfold lowV uppV at h3 h4 h5 h6
  dsimp only at h3 h4 h5 h6
  generalize satV v = x at *
  refine ⟨?_, ?_, ?_, ?_⟩
  · by_cases e : a.X ≤ b.X
    · exact ⟨b, by simp, by omega⟩
    · exact ⟨a, by simp, by omega⟩
  · by_cases e : a.X ≤ b.X
    · exact ⟨a, by simp, by omega⟩
    · exact ⟨b, by simp, by omega⟩
  · by_cases e : a.Y ≤ b.Y
    · exact ⟨b, by simp, by omega⟩
    · exact ⟨a, by simp, by omega⟩
  · by_cases e : a.Y ≤ b.Y
    · exact ⟨a, by simp, by omega⟩
    · exact ⟨b, by simp, by omega⟩
theorem ratio_bd (n d : Int) : 0 ≤ ratio n d ∧ ratio n d ≤ 65536 := by
  unfold ratio
  by_cases h : d < 1 ∨ 4611686018427387904 < d ∨ n < 1
  · rw [if_pos h]; omega
  rw [if_neg h]
  by_cases h1 : d ≤ n
  · rw [if_pos h1]; omega
  rw [if_neg h1]
  by_cases h2 : d < 70368744177664
  · rw [if_pos h2, w64_of _ (by omega)]
    obtain ⟨k1, k2, k3⟩ := rdv_pos (n := n * 65536) (d := d) (by omega) (by omega) (by omega) (by omega)
    refine ⟨k3, ?_⟩
    rcases Int.lt_or_le 65536 (rdv (n * 65536) d) with g | g
    · have := Int.mul_le_mul_of_nonneg_left (show (65537 : Int) ≤ rdv (n * 65536) d by omega) (show 0 ≤ d by omega)
      omega
    · exact g
  · rw [if_neg h2]
    have := rdv_le (n := n) (d := rdv d 65536) (by omega)
    omega
/-- Between x and y. -/
def Btw (x y z : Int) : Prop := (x ≤ z ∧ z ≤ y) ∨ (y ≤ z ∧ z ≤ x)
theorem part_of {e t : Int} (he : -536870911 ≤ e ∧ e ≤ 536870911) (ht : 0 ≤ t ∧ t ≤ 65536) : (0 ≤ e → 0 ≤ mulS e t ∧ mulS e t ≤ e) ∧ (e ≤ 0 → e ≤ mulS e t ∧ mulS e t ≤ 0) := by
  unfold mulS
  rw [sat_id he, sat_id (show -536870911 ≤ t ∧ t ≤ 536870911 by omega)]
  constructor
  · intro h
    have k1 := Int.mul_nonneg h ht.1
    have k2 := Int.mul_le_mul_of_nonneg_left ht.2 h
    have := rdv_pos (n := e * t) (d := 65536) k1 (by omega) (by omega) (by omega)
    rw [sat_id (by omega)]
    omega
  · intro h
    have k1 := Int.mul_nonneg (show 0 ≤ -e by omega) ht.1
    have k2 := Int.mul_le_mul_of_nonneg_left ht.2 (show 0 ≤ -e by omega)
    have e1 : -e * t = -(e * t) := by grind
    rw [e1] at k1 k2
    have := rdv_pos (n := -(e * t)) (d := 65536) k1 (by omega) (by omega) (by omega)
    rw [rdv_neg] at this
    rw [sat_id (by omega)]
    omega
theorem lerp_btw {x y t : Int} (hx : sat x = x) (hy : sat y = y) (ht : 0 ≤ t ∧ t ≤ 65536) : Btw x y (lerpS x y t) := by
  have bx := sat_bd x
  have by_ := sat_bd y
  rw [hx] at bx
  rw [hy] at by_
  unfold lerpS subS addS
  rw [hx, hy]
  have he := sat_bd (y - x)
  have hp := part_of he ht
  have hs : (0 ≤ y - x → 0 ≤ sat (y - x) ∧ sat (y - x) ≤ y - x) ∧ (y - x ≤ 0 → y - x ≤ sat (y - x) ∧ sat (y - x) ≤ 0) := by unfold sat; omega
  generalize sat (y - x) = e at *
  generalize mulS e t = m at *
  unfold Btw sat
  omega
theorem cp_btw {a b p : Vec} (ha : satV a = a) (hb : satV b = b) : Btw a.X b.X (cpS a b p).1.X ∧ Btw a.Y b.Y (cpS a b p).1.Y := by
  have a1 : sat a.X = a.X := congrArg Vec.X ha
  have a2 : sat a.Y = a.Y := congrArg Vec.Y ha
  have b1 : sat b.X = b.X := congrArg Vec.X hb
  have b2 : sat b.Y = b.Y := congrArg Vec.Y hb
  unfold cpS
  rw [ha, hb]
  dsimp only
  have hr := ratio_bd (projN a b (satV p)) (dsq a b)
  generalize ratio (projN a b (satV p)) (dsq a b) = r at *
  by_cases h0 : r = 0
  · rw [if_pos h0]; unfold Btw; dsimp only; omega
  rw [if_neg h0]
  by_cases h1 : r = 65536
  · rw [if_pos h1]; unfold Btw; dsimp only; omega
  rw [if_neg h1]
  exact ⟨lerp_btw a1 b1 hr, lerp_btw a2 b2 hr⟩
theorem cp_same (v p : Vec) (hv : satV v = v) : (cpS v v p).1 = v := by
  unfold cpS
  rw [hv]
  have : dsq v v = 0 := by
    unfold dsq
    rw [show sat v.X - sat v.X = 0 by omega, show sat v.Y - sat v.Y = 0 by omega]; rfl
  rw [this]
  have h0 : ratio (projN v v (satV p)) 0 = 0 := by unfold ratio; rw [if_pos (by omega)]
  rw [h0]; rfl
def Cand (v a b : Vec) (x : Vec × Vec) : Prop := x.1 = v ∧ Btw a.X b.X x.2.X ∧ Btw a.Y b.Y x.2.Y
theorem better_cand {v a b : Vec} {x y : Vec × Vec} (hx : Cand v a b x) (hy : Cand v a b y) : Cand v a b (better x y) := by
  unfold better; split
  · exact hy
  · exact hx
theorem satV_satV (v : Vec) : satV (satV v) = satV v := by unfold satV; simp only [satsat]
theorem dist_near {v a b : Vec} {r : Int} (hr : 0 ≤ r ∧ r ≤ 524288) (ha : satV a = a) (hb : satV b = b) (h : distS v v a b ≤ r) : Near r (satV v) [a, b] := by
  unfold distS at h
  by_cases h1 : secB v v a b = true
  · exact sec_near hr.1 ha hb h1
  rw [if_neg h1] at h
  unfold cpsS at h
  dsimp only at h
  rw [ha, hb] at h
  by_cases h2 : secB (satV v) (satV v) a b = true
  · have := sec_near hr.1 ha hb h2
    rw [satV_satV] at this
    exact this
  rw [if_neg h2] at h
  have hv := satV_satV v
  have c1 : Cand (satV v) a b (satV v, (cpS a b (satV v)).1) := ⟨rfl, cp_btw ha hb⟩
  have c3 : Cand (satV v) a b ((cpS (satV v) (satV v) a).1, a) := ⟨cp_same _ _ hv, by unfold Btw; dsimp only; omega, by unfold Btw; dsimp only; omega⟩
  have c4 : Cand (satV v) a b ((cpS (satV v) (satV v) b).1, b) := ⟨cp_same _ _ hv, by unfold Btw; dsimp only; omega, by unfold Btw; dsimp only; omega⟩
  have hc := better_cand (better_cand (better_cand c1 c1) c3) c4
  generalize better (better (better (satV v, (cpS a b (satV v)).1) (satV v, (cpS a b (satV v)).1)) ((cpS (satV v) (satV v) a).1, a)) ((cpS (satV v) (satV v) b).1, b) = c at *
  obtain ⟨p, q⟩ := c
  obtain ⟨rfl, q1, q2⟩ := hc
  have hd := dsq_le hr h
  have a1 : sat a.X = a.X := congrArg Vec.X ha
  have a2 : sat a.Y = a.Y := congrArg Vec.Y ha
  have b1 : sat b.X = b.X := congrArg Vec.X hb
  have b2 : sat b.Y = b.Y := congrArg Vec.Y hb
  have x1 : sat (satV v).X = (satV v).X := congrArg Vec.X hv
  have x2 : sat (satV v).Y = (satV v).Y := congrArg Vec.Y hv
  have a3 := sat_bd a.X
  have a4 := sat_bd a.Y
  have b3 := sat_bd b.X
  have b4 := sat_bd b.Y
  dsimp only at hd q1 q2
  rw [x1, x2] at hd
  generalize satV v = x at *
  have s1 : sat q.X = q.X := sat_id (by unfold Btw at q1; omega)
  have s2 : sat q.Y = q.Y := sat_id (by unfold Btw at q2; omega)
  rw [s1, s2] at hd
  unfold Btw at q1 q2
  refine ⟨?_, ?_, ?_, ?_⟩
  · by_cases e : a.X ≤ b.X
    · exact ⟨b, by simp, by omega⟩
    · exact ⟨a, by simp, by omega⟩
  · by_cases e : a.X ≤ b.X
    · exact ⟨a, by simp, by omega⟩
    · exact ⟨b, by simp, by omega⟩
  · by_cases e : a.Y ≤ b.Y
    · exact ⟨b, by simp, by omega⟩
    · exact ⟨a, by simp, by omega⟩
  · by_cases e : a.Y ≤ b.Y
    · exact ⟨a, by simp, by omega⟩
    · exact ⟨b, by simp, by omega⟩
theorem valid_radius {s : Shape} (h : validS s = 0) : 0 ≤ s.Radius ∧ s.Radius ≤ 524288 ∧ (s.Kind = 3 → s.Radius = 0) := by
  obtain ⟨-, -, -, -, hr, -⟩ := validS_count h
  unfold radiusBad at hr
  by_cases k : s.Kind = 3
  · rw [if_pos k] at hr
    have : s.Radius = 0 := by simpa using hr
    omega
  · rw [if_neg k] at hr
    simp only [Bool.or_eq_false_iff, decide_eq_false_iff_not] at hr
    omega
theorem valid_area {s : Shape} (h : validS s = 0) (k : s.Kind = 3) : 256 ≤ areaV s.Vertices := by
  unfold validS at h
  by_cases h1 : s.Kind < 1 ∨ 3 < s.Kind
  · omega
  rw [if_neg h1] at h
  by_cases h2 : countB s = false
  · rw [if_pos h2] at h; omega
  rw [if_neg h2] at h
  by_cases h3 : s.Vertices.all (inRng 1048576) = false
  · rw [if_pos h3] at h; omega
  rw [if_neg h3] at h
  by_cases h4 : radiusBad s = true
  · rw [if_pos h4] at h; omega
  rw [if_neg h4, if_neg (by omega)] at h
  by_cases h5 : s.Kind = 3 ∧ (convexB s.Vertices = false ∨ shortE s.Vertices < 4096 ∨ areaV s.Vertices < 256)
  · rw [if_pos h5] at h; omega
  · have : ¬ areaV s.Vertices < 256 := fun g => h5 ⟨k, .inr (.inr g)⟩
    omega
theorem vertsW_val {s : Shape} (t : Transform) (h : validS s = 0) : vertsW s t = s.Vertices.map (applyT t) := by unfold vertsW; rw [if_neg (by omega)]
theorem two_of {α : Type} : ∀ {l : List α}, l.length = 2 → ∃ a b, l = [a, b]
  | [a, b], _ => ⟨a, b, rfl⟩
  | [], h => by simp at h
  | [a], h => by simp at h
  | a :: b :: c :: l, h => by simp at h
theorem contains_near {s : Shape} {t : Transform} {v : Vec} (ht : PosOk t) (h : containsP s t v = true) : Near s.Radius (satV v) (vertsW s t) := by
  unfold containsP at h
  dsimp only at h
  by_cases h0 : (vertsW s t).length = 0
  · rw [if_pos h0] at h; cases h
  rw [if_neg h0] at h
  obtain ⟨hv, hl, -, -, hc, k1, k3⟩ := vertsW_len (s := s) (t := t) (fun e => h0 (by rw [e]; rfl))
  obtain ⟨r0, r1, r2⟩ := valid_radius hv
  have hs := vertsW_sat s t
  by_cases h1 : (vertsW s t).length = 1
  · rw [if_pos h1, decide_eq_true_eq] at h
    obtain ⟨c, hcs⟩ := List.length_eq_one_iff.1 h1
    rw [hcs] at h hs ⊢
    have e : ix [c] 0 = c := rfl
    rw [e] at h
    have hcc := hs c (by simp)
    have g := len_le r1 h
    unfold subV at g
    dsimp only at g
    have gx := sub_near (congrArg Vec.X hcc) ⟨r0, r1⟩ ⟨g.1, g.2.1⟩
    have gy := sub_near (congrArg Vec.Y hcc) ⟨r0, r1⟩ ⟨g.2.2.1, g.2.2.2⟩
    exact ⟨⟨c, by simp, gx.1⟩, ⟨c, by simp, gx.2⟩, ⟨c, by simp, gy.1⟩, ⟨c, by simp, gy.2⟩⟩
  rw [if_neg h1] at h
  by_cases h2 : (vertsW s t).length = 2
  · rw [if_pos h2, decide_eq_true_eq] at h
    obtain ⟨a, b, hab⟩ := two_of h2
    rw [hab] at h hs ⊢
    exact dist_near ⟨r0, r1⟩ (hs a (by simp)) (hs b (by simp)) h
  rw [if_neg h2] at h
  have hk : s.Kind = 3 := by
    unfold countB at hc
    by_cases e1 : s.Kind = 1
    · rw [if_pos e1] at hc; simp only [beq_iff_eq] at hc; omega
    by_cases e2 : s.Kind = 2
    · rw [if_neg e1, if_pos e2] at hc; simp only [beq_iff_eq] at hc; omega
    omega
  rw [vertsW_val t hv] at h ⊢
  obtain ⟨g1, g2, g3, g4⟩ := poly_box ht (valid_area hv hk) h
  rw [r2 hk]
  refine ⟨?_, ?_, ?_, ?_⟩
  · obtain ⟨p, hp, e⟩ := g1; exact ⟨p, hp, by omega⟩
  · obtain ⟨p, hp, e⟩ := g2; exact ⟨p, hp, by omega⟩
  · obtain ⟨p, hp, e⟩ := g3; exact ⟨p, hp, by omega⟩
  · obtain ⟨p, hp, e⟩ := g4; exact ⟨p, hp, by omega⟩
theorem posOk_of {b : Body} (h : validB b = 0) : PosOk b.Transform := by
  obtain ⟨-, ⟨-, ⟨⟨p1, p2⟩, -⟩, -⟩, -⟩ := validB_ok.1 h
  exact ⟨p1, p2⟩
theorem shape_valid_of {f : Fixture} (h : validF f = 0) : validS f.Shape = 0 := by
  unfold validF at h
  by_cases g : validS f.Shape ≠ 0
  · rw [if_pos g] at h; exact absurd h g
  · omega
/-- The box of a valid body is valid, and holds every contained point. -/
theorem body_box {b : Body} (hb : validB b = 0) (hl : b.Fixtures.length ≠ 0) : OKB (bodyBx b).1 ∧ ∀ (i : Nat) (v : Vec), i < b.Fixtures.length → containsP (ix b.Fixtures (i : Int)).Shape b.Transform v = true → Inb (bodyBx b).1 (satV v) := by
  have hp := posOk_of hb
  have hval : ∀ i : Nat, i < b.Fixtures.length → validS (ix b.Fixtures (i : Int)).Shape = 0 := fun i hi => shape_valid_of ((validB_ok.1 hb).2.2.2.1 _ (by rw [ix_lt _ i hi]; exact List.getElem_mem hi))
  have hsh : ∀ i : Nat, i < b.Fixtures.length → OKB (shapeBx (ix b.Fixtures (i : Int)).Shape b.Transform) ∧ ∀ v, Near (ix b.Fixtures (i : Int)).Shape.Radius (satV v) (vertsW (ix b.Fixtures (i : Int)).Shape b.Transform) → Inb (shapeBx (ix b.Fixtures (i : Int)).Shape b.Transform) (satV v) := by
    intro i hi
    have hv := hval i hi
    obtain ⟨r0, r1, -⟩ := valid_radius hv
    refine shapeBx_ok ?_ ⟨r0, r1⟩
    rw [vertsW_val _ hv, List.length_map]
    have := countB_len (validS_count hv).2.2.1
    omega
  have z : ((0 : Nat) : Int) = (0 : Int) := rfl
  unfold bodyBx
  rw [if_neg hl]
  obtain ⟨k1, k2, k3⟩ := fold_union (F := fun i => shapeBx (ix b.Fixtures (i : Int)).Shape b.Transform) (b.Fixtures.length - 1) 1 (shapeBx (ix b.Fixtures 0).Shape b.Transform) (hsh 0 (by omega)).1 (fun j g1 g2 => (hsh j (by omega)).1)
  refine ⟨k1, fun i v hi hc => ?_⟩
  have hin := (hsh i hi).2 v (contains_near hp hc)
  by_cases e : i = 0
  · subst e; exact k2 _ hin
  · exact k3 i (by omega) (by omega) _ hin
end GoOld

/- The plain law of a polygon's centroid and inertia. No conditions. -/
set_option linter.all false
set_option maxRecDepth 100000
open Go Go.Rx
namespace GoGeo
/-- The height over the line through q in the direction e, times the length of e. -/
def ht (e q p : V) : Int := cr e (sb p q)
/-- Three times the integral of the height over a triangle, times two. -/
def tri (e q o a b : V) : Int := cr (sb a o) (sb b o) * (ht e q o + ht e q a + ht e q b)
theorem tri_move (e q o o' a b : V) : tri e q o a b = tri e q o' a b + tri e q o o' b - tri e q o o' a := by
  unfold tri ht cr sb
  obtain ⟨e1, e2⟩ := e
  obtain ⟨q1, q2⟩ := q
  obtain ⟨o1, o2⟩ := o
  obtain ⟨u1, u2⟩ := o'
  obtain ⟨a1, a2⟩ := a
  obtain ⟨b1, b2⟩ := b
  dsimp only
  grind
/-- Along a path that ends in f. -/
def sumT (e q o f : V) : V → List V → Int
  | a, [] => tri e q o a f
  | a, b :: t => tri e q o a b + sumT e q o f b t
theorem sumT_move (e q o o' f : V) : ∀ (t : List V) (a : V), sumT e q o f a t = sumT e q o' f a t + tri e q o o' f - tri e q o o' a
  | [], a => tri_move e q o o' a f
  | b :: t, a => by
    show tri e q o a b + sumT e q o f b t = tri e q o' a b + sumT e q o' f b t + _ - _
    rw [tri_move e q o o' a b, sumT_move e q o o' f t b]; omega
/-- The fan from the first vertex. -/
def fanT (e q o : V) : V → List V → Int
  | _, [] => 0
  | a, b :: t => tri e q o a b + fanT e q o b t
theorem sumT_fan (e q o : V) : ∀ (t : List V) (a : V), sumT e q o o a t = fanT e q o a t
  | [], a => by show tri e q o a o = 0; unfold tri cr sb; grind
  | b :: t, a => by
    show tri e q o a b + sumT e q o o b t = tri e q o a b + fanT e q o b t
    rw [sumT_fan e q o t b]
theorem fanT_cyc (e q o a : V) (t : List V) : sumT e q o o o (a :: t) = fanT e q o a t := by
  show tri e q o o a + sumT e q o o a t = fanT e q o a t
  rw [sumT_fan]
  have : tri e q o o a = 0 := by unfold tri cr sb; grind
  omega
/-- The point m lies to the left of every edge of the path. -/
def leftC (m f : V) : V → List V → Prop
  | a, [] => 0 ≤ cr (sb a m) (sb f m)
  | a, b :: t => 0 ≤ cr (sb a m) (sb b m) ∧ leftC m f b t
theorem high_path (e q m f : V) (hf : 0 ≤ ht e q f) : ∀ (t : List V) (a : V), 0 ≤ ht e q a → (∀ x ∈ t, 0 ≤ ht e q x) → leftC m f a t → ht e q m * sumC (sb f m) (sb a m) (t.map (sb · m)) ≤ sumT e q m f a t
  | [], a, ha, _, h => by
    show ht e q m * cr (sb a m) (sb f m) ≤ cr (sb a m) (sb f m) * (ht e q m + ht e q a + ht e q f)
    have h : 0 ≤ cr (sb a m) (sb f m) := h
    have k := Int.mul_nonneg h (show 0 ≤ ht e q a + ht e q f by omega)
    have e1 : cr (sb a m) (sb f m) * (ht e q m + ht e q a + ht e q f) = ht e q m * cr (sb a m) (sb f m) + cr (sb a m) (sb f m) * (ht e q a + ht e q f) := by grind
    omega
  | b :: t, a, ha, ht', ⟨h1, h2⟩ => by
    have hb := ht' b (by simp)
    have ih := high_path e q m f hf t b hb (fun x hx => ht' x (List.mem_cons_of_mem _ hx)) h2
    show ht e q m * (cr (sb a m) (sb b m) + sumC (sb f m) (sb b m) (t.map (sb · m))) ≤ cr (sb a m) (sb b m) * (ht e q m + ht e q a + ht e q b) + sumT e q m f b t
    have k := Int.mul_nonneg h1 (show 0 ≤ ht e q a + ht e q b by omega)
    have e1 : cr (sb a m) (sb b m) * (ht e q m + ht e q a + ht e q b) = ht e q m * cr (sb a m) (sb b m) + cr (sb a m) (sb b m) * (ht e q a + ht e q b) := by grind
    rw [Int.mul_add]
    omega
/-- The mean height is at least a third of the greatest one. -/
theorem mean_high (e q o a m : V) (t : List V) (hm : m ∈ o :: a :: t) (hall : ∀ x ∈ o :: a :: t, 0 ≤ ht e q x) (hl : leftC m o o (a :: t)) : ht e q m * sumC o o (a :: t) ≤ fanT e q o a t := by
  have h := high_path e q m o (hall o (by simp)) (a :: t) o (hall o (by simp)) (fun x hx => hall x (List.mem_cons_of_mem _ hx)) hl
  rw [cyc_move m o (a :: t)] at h
  rw [← fanT_cyc, sumT_move e q o m o (a :: t) o]
  omega
/-- An area lies in a strip. -/
theorem strip_path {g h : V → Int} {D H K M : Int} (he : ∀ p r : V, 2 * (D * cr p r) = h p * (g r + K) - h r * (g p + K)) (f : V) (hH : 0 ≤ H) (bf : -M ≤ h f ∧ h f ≤ M) (gf : -H ≤ g f ∧ g f ≤ H) :
    ∀ (t : List V) (a : V), -M ≤ h a ∧ h a ≤ M → -H ≤ g a ∧ g a ≤ H → (∀ x ∈ t, (-M ≤ h x ∧ h x ≤ M) ∧ (-H ≤ g x ∧ g x ≤ H)) →
    2 * (D * sumC f a t) ≤ 2 * (M * H) * ((t.length : Int) + 1) + K * (h a - h f) ∧ -(2 * (M * H) * ((t.length : Int) + 1)) + K * (h a - h f) ≤ 2 * (D * sumC f a t)
  | [], a, ba, ga, _ => by
    have m1 := mb ba.1 ba.2 gf.1 gf.2
    have m2 := mb bf.1 bf.2 ga.1 ga.2
    have e1 := he a f
    have e2 : h a * (g f + K) - h f * (g a + K) = h a * g f - h f * g a + K * (h a - h f) := by grind
    show 2 * (D * cr a f) ≤ 2 * (M * H) * (0 + 1) + K * (h a - h f) ∧ -(2 * (M * H) * (0 + 1)) + K * (h a - h f) ≤ 2 * (D * cr a f)
    omega
  | b :: t, a, ba, ga, hall => by
    obtain ⟨bb, gb⟩ := hall b (by simp)
    have ih := strip_path he f hH bf gf t b bb gb (fun x hx => hall x (List.mem_cons_of_mem _ hx))
    have m1 := mb ba.1 ba.2 gb.1 gb.2
    have m2 := mb bb.1 bb.2 ga.1 ga.2
    have e1 := he a b
    have e2 : h a * (g b + K) - h b * (g a + K) = h a * g b - h b * g a + K * (h a - h b) := by grind
    have e3 : 2 * (D * (cr a b + sumC f b t)) = 2 * (D * cr a b) + 2 * (D * sumC f b t) := by grind
    have e4 : K * (h a - h f) = K * (h a - h b) + K * (h b - h f) := by grind
    have e5 : 2 * (M * H) * ((((b :: t).length : Nat) : Int) + 1) = 2 * (M * H) * ((t.length : Int) + 1) + 2 * (M * H) := by rw [List.length_cons]; push_cast; grind
    show 2 * (D * (cr a b + sumC f b t)) ≤ 2 * (M * H) * ((((b :: t).length : Nat) : Int) + 1) + K * (h a - h f) ∧ -(2 * (M * H) * ((((b :: t).length : Nat) : Int) + 1)) + K * (h a - h f) ≤ 2 * (D * (cr a b + sumC f b t))
    rw [e3, e4, e5]
    omega
end GoGeo

namespace GoGeo
/-- Sums over the fan with weights w. -/
def fanB (w : V → V → Int) : V → List V → Int
  | _, [] => 0
  | a, b :: t => w a b + fanB w b t
def fanX (w : V → V → Int) (o : V) : V → List V → Int
  | _, [] => 0
  | a, b :: t => w a b * ((a.1 - o.1) + (b.1 - o.1)) + fanX w o b t
def fanY (w : V → V → Int) (o : V) : V → List V → Int
  | _, [] => 0
  | a, b :: t => w a b * ((a.2 - o.2) + (b.2 - o.2)) + fanY w o b t
def fanW (w : V → V → Int) (e q o : V) : V → List V → Int
  | _, [] => 0
  | a, b :: t => w a b * (ht e q o + ht e q a + ht e q b) + fanW w e q o b t
theorem fanW_lin (w : V → V → Int) (e q o : V) : ∀ (t : List V) (a : V), fanW w e q o a t = 3 * ht e q o * fanB w a t + (e.1 * fanY w o a t - e.2 * fanX w o a t)
  | [], a => by show (0 : Int) = 3 * ht e q o * 0 + (e.1 * 0 - e.2 * 0); omega
  | b :: t, a => by
    show w a b * (ht e q o + ht e q a + ht e q b) + fanW w e q o b t = 3 * ht e q o * (w a b + fanB w b t) + (e.1 * (w a b * ((a.2 - o.2) + (b.2 - o.2)) + fanY w o b t) - e.2 * (w a b * ((a.1 - o.1) + (b.1 - o.1)) + fanX w o b t))
    rw [fanW_lin w e q o t b]
    unfold ht cr sb
    grind
def wOk (w : V → V → Int) (o : V) : V → List V → Prop
  | _, [] => True
  | a, b :: t => (-32768 ≤ 65536 * w a b - cr (sb a o) (sb b o) ∧ 65536 * w a b - cr (sb a o) (sb b o) ≤ 32768) ∧ wOk w o b t
theorem fanB_le (w : V → V → Int) (o : V) : ∀ (t : List V) (a : V), wOk w o a t → 65536 * fanB w a t ≤ fanC o a t + 32768 * (t.length : Int) ∧ fanC o a t - 32768 * (t.length : Int) ≤ 65536 * fanB w a t
  | [], a, _ => by show 65536 * 0 ≤ 0 + 32768 * 0 ∧ 0 - 32768 * 0 ≤ 65536 * 0; omega
  | b :: t, a, ⟨h, h2⟩ => by
    have ih := fanB_le w o t b h2
    have e : (((b :: t).length : Nat) : Int) = (t.length : Int) + 1 := by rw [List.length_cons]; push_cast; rfl
    rw [e]
    show 65536 * (w a b + fanB w b t) ≤ cr (sb a o) (sb b o) + fanC o b t + _ ∧ cr (sb a o) (sb b o) + fanC o b t - _ ≤ 65536 * (w a b + fanB w b t)
    omega
theorem fanW_ge (w : V → V → Int) (e q o : V) (H : Int) (ho : 0 ≤ ht e q o ∧ ht e q o ≤ H) : ∀ (t : List V) (a : V), (∀ x ∈ a :: t, 0 ≤ ht e q x ∧ ht e q x ≤ H) → wOk w o a t → fanT e q o a t - 98304 * H * (t.length : Int) ≤ 65536 * fanW w e q o a t
  | [], a, _, _ => by show 0 - 98304 * H * 0 ≤ 65536 * 0; omega
  | b :: t, a, hall, ⟨h, h2⟩ => by
    have ih := fanW_ge w e q o H ho t b (fun x hx => hall x (List.mem_cons_of_mem _ hx)) h2
    have ha := hall a (by simp)
    have hb := hall b (by simp)
    have e1 : 98304 * H * (((b :: t).length : Nat) : Int) = 98304 * H * (t.length : Int) + 98304 * H := by rw [List.length_cons]; push_cast; grind
    rw [e1]
    show cr (sb a o) (sb b o) * (ht e q o + ht e q a + ht e q b) + fanT e q o b t - _ ≤ 65536 * (w a b * (ht e q o + ht e q a + ht e q b) + fanW w e q o b t)
    have k := Int.mul_nonneg (show 0 ≤ 65536 * w a b - cr (sb a o) (sb b o) + 32768 by omega) (show 0 ≤ ht e q o + ht e q a + ht e q b by omega)
    have e2 : (65536 * w a b - cr (sb a o) (sb b o) + 32768) * (ht e q o + ht e q a + ht e q b) = 65536 * (w a b * (ht e q o + ht e q a + ht e q b)) - cr (sb a o) (sb b o) * (ht e q o + ht e q a + ht e q b) + 32768 * (ht e q o + ht e q a + ht e q b) := by grind
    omega
/-- The edge is short against the greatest height. -/
theorem strip {e q o : V} {l : List V} {H : Int} (hH : 0 ≤ H) (hin : ∀ x ∈ o :: l, inM x) (hht : ∀ x ∈ o :: l, 0 ≤ ht e q x ∧ ht e q x ≤ H) (hlen : l.length ≤ 7) :
    (-(8388608 * H) ≤ e.1 * sumC o o l ∧ e.1 * sumC o o l ≤ 8388608 * H) ∧ (-(8388608 * H) ≤ e.2 * sumC o o l ∧ e.2 * sumC o o l ≤ 8388608 * H) := by
  have g : ∀ p : V, 2 * ht e q p - H + (H + 2 * cr e q) = 2 * cr e p := fun p => by unfold ht cr sb; grind
  have h1 := strip_path (g := fun p => 2 * ht e q p - H) (h := fun p => p.1) (D := e.1) (H := H) (K := H + 2 * cr e q) (M := 1048576) (fun p r => by
    show 2 * (e.1 * cr p r) = p.1 * (2 * ht e q r - H + (H + 2 * cr e q)) - r.1 * (2 * ht e q p - H + (H + 2 * cr e q))
    rw [g, g]; unfold cr; grind) o hH ⟨(hin o (by simp)).1, (hin o (by simp)).2.1⟩ (by have := hht o (by simp); omega) l o ⟨(hin o (by simp)).1, (hin o (by simp)).2.1⟩ (by have := hht o (by simp); omega)
    (fun x hx => ⟨⟨(hin x (List.mem_cons_of_mem _ hx)).1, (hin x (List.mem_cons_of_mem _ hx)).2.1⟩, by have := hht x (List.mem_cons_of_mem _ hx); omega⟩)
  have h2 := strip_path (g := fun p => 2 * ht e q p - H) (h := fun p => p.2) (D := e.2) (H := H) (K := H + 2 * cr e q) (M := 1048576) (fun p r => by
    show 2 * (e.2 * cr p r) = p.2 * (2 * ht e q r - H + (H + 2 * cr e q)) - r.2 * (2 * ht e q p - H + (H + 2 * cr e q))
    rw [g, g]; unfold cr; grind) o hH ⟨(hin o (by simp)).2.2.1, (hin o (by simp)).2.2.2⟩ (by have := hht o (by simp); omega) l o ⟨(hin o (by simp)).2.2.1, (hin o (by simp)).2.2.2⟩ (by have := hht o (by simp); omega)
    (fun x hx => ⟨⟨(hin x (List.mem_cons_of_mem _ hx)).2.2.1, (hin x (List.mem_cons_of_mem _ hx)).2.2.2⟩, by have := hht x (List.mem_cons_of_mem _ hx); omega⟩)
  have k := Int.mul_le_mul_of_nonneg_left (show (l.length : Int) + 1 ≤ 8 by omega) (show 0 ≤ 2 * (1048576 * H) by omega)
  have z1 : (H + 2 * cr e q) * (o.1 - o.1) = 0 := by grind
  have z2 : (H + 2 * cr e q) * (o.2 - o.2) = 0 := by grind

  rw [z1] at h1
  rw [z2] at h2
  omega
/-- The centroid, rounded, is not to the right of an edge. -/
theorem cent_left {e q o a c m : V} {t : List V} {w : V → V → Int} {H : Int} (hm : m ∈ o :: a :: t) (hmH : ht e q m = H) (hin : ∀ x ∈ o :: a :: t, inM x) (hht : ∀ x ∈ o :: a :: t, 0 ≤ ht e q x ∧ ht e q x ≤ H) (hl : leftC m o o (a :: t)) (hlen : t.length ≤ 6)
    (hS : 33292288 ≤ sumC o o (a :: t)) (hw : wOk w o a t) {r1 r2 : Int} (hB : 0 < fanB w a t) (b1 : -(3 * fanB w a t) ≤ 2 * r1) (b2 : 2 * r1 ≤ 3 * fanB w a t) (b3 : -(3 * fanB w a t) ≤ 2 * r2) (b4 : 2 * r2 ≤ 3 * fanB w a t)
    (c1 : 3 * fanB w a t * (c.1 - o.1) = fanX w o a t + r1) (c2 : 3 * fanB w a t * (c.2 - o.2) = fanY w o a t + r2) : 0 ≤ ht e q c := by
  have hH : 0 ≤ H := by have := hht m hm; omega
  have ho := hht o (by simp)
  have mh := mean_high e q o a m t hm (fun x hx => (hht x hx).1) hl
  rw [hmH] at mh
  have fw := fanW_ge w e q o H ho t a (fun x hx => hht x (List.mem_cons_of_mem _ hx)) hw
  have fb := (fanB_le w o t a hw).1
  have st := strip (e := e) (q := q) (o := o) (l := a :: t) hH hin hht (by simp; omega)
  have lin := fanW_lin w e q o t a
  rw [← fan_cyc] at fb
  generalize sumC o o (a :: t) = S at *
  generalize fanB w a t = B at *
  generalize fanW w e q o a t = FW at *
  generalize fanT e q o a t = FT at *
  have key : 3 * B * ht e q c = FW + (e.1 * r2 - e.2 * r1) := by
    have h1 : ht e q c = ht e q o + (e.1 * (c.2 - o.2) - e.2 * (c.1 - o.1)) := by unfold ht cr sb; grind
    rw [h1, lin]
    have h2 : 3 * B * (ht e q o + (e.1 * (c.2 - o.2) - e.2 * (c.1 - o.1))) = 3 * ht e q o * B + (e.1 * (3 * B * (c.2 - o.2)) - e.2 * (3 * B * (c.1 - o.1))) := by grind
    rw [h2, c1, c2]
    grind
  obtain ⟨X1, p1, p2, p3⟩ := abs_ex e.1
  obtain ⟨X2, q1, q2, q3⟩ := abs_ex e.2
  have m1 := mb p1 p2 b3 b4
  have m2 := mb q1 q2 b1 b2
  have X0 : 0 ≤ X1 ∧ 0 ≤ X2 := by omega
  have s1 : X1 * S ≤ 8388608 * H := by
    rcases p3 with h | h
    · rw [h]; exact st.1.2
    · have : X1 * S = -(e.1 * S) := by rw [h]; grind
      omega
  have s2 : X2 * S ≤ 8388608 * H := by
    rcases q3 with h | h
    · rw [h]; exact st.2.2
    · have : X2 * S = -(e.2 * S) := by rw [h]; grind
      omega
  have f1 := Int.mul_le_mul_of_nonneg_left fb (show 0 ≤ X1 + X2 by omega)
  have f2 := Int.mul_le_mul_of_nonneg_left (show (33226752 : Int) ≤ S by omega) (show 0 ≤ X1 + X2 by omega)
  have f3 := Int.mul_le_mul_of_nonneg_left hS hH
  have f4 := Int.mul_le_mul_of_nonneg_left (show (t.length : Int) ≤ 6 by omega) (show 0 ≤ 98304 * H by omega)
  have f5 := Int.mul_le_mul_of_nonneg_left (show (t.length : Int) ≤ 6 by omega) (show 0 ≤ X1 + X2 by omega)
  have g1 : (X1 + X2) * (65536 * B) = 65536 * (X1 * B) + 65536 * (X2 * B) := by grind
  have g2 : (X1 + X2) * (S + 32768 * (t.length : Int)) = X1 * S + X2 * S + 32768 * ((X1 + X2) * (t.length : Int)) := by grind
  have g3 : (X1 + X2) * 33226752 = 33226752 * (X1 + X2) := by grind
  have g4 : (X1 + X2) * S = X1 * S + X2 * S := by grind
  have g5 : X1 * (3 * B) = 3 * (X1 * B) := by grind
  have g6 : X2 * (3 * B) = 3 * (X2 * B) := by grind
  have g7 : e.1 * (2 * r2) = 2 * (e.1 * r2) := by grind
  have g8 : e.2 * (2 * r1) = 2 * (e.2 * r1) := by grind
  have hpos : 0 ≤ FW + (e.1 * r2 - e.2 * r1) := by
    rw [g1, g2] at f1
    rw [g3, g4] at f2
    rw [g5, g7] at m1
    rw [g6, g8] at m2
    omega
  rw [← key] at hpos
  rcases Int.lt_or_le (ht e q c) 0 with h | h
  · have := Int.mul_neg_of_pos_of_neg (show 0 < 3 * B by omega) h
    omega
  · exact h
end GoGeo


namespace GoOld
open GoForm
open GoGeo
/-- The rounded cross of two vertices seen from o. -/
def wC (o x y : V) : Int := rdv (cr (sb x o) (sb y o)) 65536
theorem mem_ix {α : Type} [Inhabited α] {l : List α} (i : Nat) (h : i < l.length) : ix l (i : Int) ∈ l := by rw [ix_lt l i h]; exact List.getElem_mem h
theorem cr_small {x y o : V} (hx : inM x) (hy : inM y) (ho : inM o) : -8796093022208 ≤ cr (sb x o) (sb y o) ∧ cr (sb x o) (sb y o) ≤ 8796093022208 := by
  obtain ⟨x1, x2, x3, x4⟩ := hx
  obtain ⟨y1, y2, y3, y4⟩ := hy
  obtain ⟨o1, o2, o3, o4⟩ := ho
  have m1 := mb (x := x.1 - o.1) (y := y.2 - o.2) (X := 2097152) (Y := 2097152) (by omega) (by omega) (by omega) (by omega)
  have m2 := mb (x := x.2 - o.2) (y := y.1 - o.1) (X := 2097152) (Y := 2097152) (by omega) (by omega) (by omega) (by omega)
  unfold cr sb
  dsimp only
  omega
theorem inM_of {v : Vec} (h : inRng 1048576 v = true) : inM (toV v) := by
  obtain ⟨x1, x2, y1, y2⟩ := (inRng_iff _ _).1 h
  exact ⟨x1, x2, y1, y2⟩
theorem crossAt_wC {vs : List Vec} (hr : ∀ v ∈ vs, inRng 1048576 v = true) (i : Nat) (hi : i + 1 < vs.length) : crossAt vs i = wC (toV (ix vs 0)) (toV (ix vs (i : Int))) (toV (ix vs ((i + 1 : Nat) : Int))) := by
  have h0 := mem_ix (l := vs) 0 (by omega)
  have s := cr_small (inM_of (hr _ (mem_ix (l := vs) i (by omega)))) (inM_of (hr _ (mem_ix (l := vs) (i + 1) hi))) (inM_of (hr _ h0))
  unfold wC
  unfold crossAt
  rw [show ((0 : Nat) : Int) = (0 : Int) from rfl] at s
  rw [show ((i : Int) + 1) = ((i + 1 : Nat) : Int) by omega, w64_of]
  · rfl
  · unfold cr sb toV at s
    dsimp only at s
    omega
theorem wC_spec {x y o : V} (hx : inM x) (hy : inM y) (ho : inM o) : -32768 ≤ 65536 * wC o x y - cr (sb x o) (sb y o) ∧ 65536 * wC o x y - cr (sb x o) (sb y o) ≤ 32768 ∧ -134217729 ≤ wC o x y ∧ wC o x y ≤ 134217729 ∧ (0 ≤ cr (sb x o) (sb y o) → 0 ≤ wC o x y) := by
  have s := cr_small hx hy ho
  unfold wC
  have r := rdv_spec (n := cr (sb x o) (sb y o)) (by omega)
  refine ⟨r.1, r.2, by omega, by omega, fun h => ?_⟩
  omega
theorem fold_sums {vs : List Vec} (hr : ∀ v ∈ vs, inRng 1048576 v = true) (h8 : vs.length ≤ 8) : ∀ (k i : Nat), 1 ≤ i → i + k + 1 = vs.length → ∀ a b c : Int, -(134217729 * (10 - (k : Int))) ≤ a → a ≤ 134217729 * (10 - (k : Int)) → -(134217729 * 4194304 * (10 - (k : Int))) ≤ b → b ≤ 134217729 * 4194304 * (10 - (k : Int)) → -(134217729 * 4194304 * (10 - (k : Int))) ≤ c → c ≤ 134217729 * 4194304 * (10 - (k : Int)) →
    foldR (fun i a => w64 (a + crossAt vs i)) i k a = a + fanB (wC (toV (ix vs 0))) (toV (ix vs (i : Int))) ((vs.drop (i + 1)).map toV) ∧
    foldR (fun i a => w64 (a + ((triAt vs i).e.X + (triAt vs i).f.X) * crossAt vs i)) i k b = b + fanX (wC (toV (ix vs 0))) (toV (ix vs 0)) (toV (ix vs (i : Int))) ((vs.drop (i + 1)).map toV) ∧
    foldR (fun i a => w64 (a + ((triAt vs i).e.Y + (triAt vs i).f.Y) * crossAt vs i)) i k c = c + fanY (wC (toV (ix vs 0))) (toV (ix vs 0)) (toV (ix vs (i : Int))) ((vs.drop (i + 1)).map toV)
  | 0, i, hi, h, a, b, c, _, _, _, _, _, _ => by
    rw [List.drop_of_length_le (by omega)]
    exact ⟨(Int.add_zero a).symm, (Int.add_zero b).symm, (Int.add_zero c).symm⟩
  | k + 1, i, hi, h, a, b, c, a1, a2, b1, b2, c1, c2 => by
    have hk : k ≤ 6 := by omega
    have m0 := inM_of (hr _ (mem_ix (l := vs) 0 (by omega)))
    have mi := inM_of (hr _ (mem_ix (l := vs) i (by omega)))
    have mj := inM_of (hr _ (mem_ix (l := vs) (i + 1) (by omega)))
    rw [show ((0 : Nat) : Int) = (0 : Int) from rfl] at m0
    obtain ⟨-, -, w1, w2, -⟩ := wC_spec mi mj m0
    have ec := crossAt_wC hr i (by omega)
    rw [← ec] at w1 w2
    obtain ⟨o1, o2, o3, o4⟩ := m0
    obtain ⟨x1, x2, x3, x4⟩ := mi
    obtain ⟨y1, y2, y3, y4⟩ := mj
    have tx : (triAt vs i).e.X + (triAt vs i).f.X = ((toV (ix vs (i : Int))).1 - (toV (ix vs 0)).1) + ((toV (ix vs ((i + 1 : Nat) : Int))).1 - (toV (ix vs 0)).1) := by
      unfold triAt
      rw [show ((i : Int) + 1) = ((i + 1 : Nat) : Int) by omega]
      dsimp only
      unfold toV at *
      dsimp only at *
      rw [w64_of _ (by omega), w64_of _ (by omega)]
    have ty : (triAt vs i).e.Y + (triAt vs i).f.Y = ((toV (ix vs (i : Int))).2 - (toV (ix vs 0)).2) + ((toV (ix vs ((i + 1 : Nat) : Int))).2 - (toV (ix vs 0)).2) := by
      unfold triAt
      rw [show ((i : Int) + 1) = ((i + 1 : Nat) : Int) by omega]
      dsimp only
      unfold toV at *
      dsimp only at *
      rw [w64_of _ (by omega), w64_of _ (by omega)]
    have px := mb (x := (triAt vs i).e.X + (triAt vs i).f.X) (y := crossAt vs i) (X := 4194304) (Y := 134217729) (by rw [tx]; omega) (by rw [tx]; omega) w1 w2
    have py := mb (x := (triAt vs i).e.Y + (triAt vs i).f.Y) (y := crossAt vs i) (X := 4194304) (Y := 134217729) (by rw [ty]; omega) (by rw [ty]; omega) w1 w2
    have ih := fold_sums hr h8 k (i + 1) (by omega) (by omega) (a + crossAt vs i) (b + ((triAt vs i).e.X + (triAt vs i).f.X) * crossAt vs i) (c + ((triAt vs i).e.Y + (triAt vs i).f.Y) * crossAt vs i) (by omega) (by omega) (by omega) (by omega) (by omega) (by omega)
    rw [drop_ix vs (i + 1) (by omega), List.map_cons]
    show foldR _ (i + 1) k (w64 (a + crossAt vs i)) = a + (wC _ _ _ + fanB _ _ _) ∧ foldR _ (i + 1) k (w64 (b + _)) = b + (wC _ _ _ * _ + fanX _ _ _ _) ∧ foldR _ (i + 1) k (w64 (c + _)) = c + (wC _ _ _ * _ + fanY _ _ _ _)
    rw [w64_of (a + crossAt vs i) (by omega), w64_of (b + ((triAt vs i).e.X + (triAt vs i).f.X) * crossAt vs i) (by omega), w64_of (c + ((triAt vs i).e.Y + (triAt vs i).f.Y) * crossAt vs i) (by omega)]
    refine ⟨ih.1.trans ?_, ih.2.1.trans ?_, ih.2.2.trans ?_⟩
    · rw [ec]; omega
    · rw [ec, tx, Int.mul_comm]; omega
    · rw [ec, ty, Int.mul_comm]; omega
end GoOld

/- The plain law of inertia: mass and inertia are not negative. No conditions. -/
set_option linter.all false
set_option maxRecDepth 100000
open Go Go.Rx
namespace GoOld
open GoForm
open GoGeo
theorem max_ex (f : V → Int) : ∀ (l : List V) (x : V), ∃ m ∈ x :: l, ∀ y ∈ x :: l, f y ≤ f m
  | [], x => ⟨x, by simp, fun y hy => by simp at hy; rw [hy]; omega⟩
  | b :: l, x => by
    obtain ⟨m, hm, h⟩ := max_ex f l b
    by_cases c : f m ≤ f x
    · refine ⟨x, by simp, fun y hy => ?_⟩
      rcases List.mem_cons.1 hy with rfl | hy
      · omega
      · have := h y hy; omega
    · refine ⟨m, List.mem_cons_of_mem _ hm, fun y hy => ?_⟩
      rcases List.mem_cons.1 hy with rfl | hy
      · omega
      · exact h y hy
theorem left_of {vs : List Vec} (hc : convexB vs = true) (i j : Nat) (hi : i < vs.length) (hj : j < vs.length) :
    0 ≤ cr (sb (toV (ix vs (i : Int))) (toV (ix vs (j : Int)))) (sb (toV (ix vs (nxt vs i))) (toV (ix vs (j : Int)))) := by
  obtain ⟨l3, l8, hr⟩ := convexB_len hc
  have hh : leftOf vs i j = true := by
    unfold convexB at hc
    simp only [Bool.and_eq_true] at hc
    exact (allR_true _ _ _).1 ((allR_true _ _ _).1 hc.2 i (by omega) (by omega)) j (by omega) (by omega)
  have hb := nxt_bd vs i (by omega)
  obtain ⟨k, hk⟩ : ∃ k : Nat, nxt vs i = (k : Int) := ⟨(nxt vs i).toNat, by omega⟩
  unfold leftOf at hh
  rw [hk] at hh hb ⊢
  obtain ⟨a1, a2, a3, a4⟩ := inM_of (hr _ (mem_ix (l := vs) i hi))
  obtain ⟨b1, b2, b3, b4⟩ := inM_of (hr _ (mem_ix (l := vs) k (by omega)))
  obtain ⟨c1, c2, c3, c4⟩ := inM_of (hr _ (mem_ix (l := vs) j hj))
  simp only [Bool.or_eq_true, beq_iff_eq] at hh
  rw [← orient_cr]
  unfold toV at *
  dsimp only at *
  rcases hh with (h | h) | h
  · rw [h, Int.sub_self, Int.sub_self, Int.mul_zero, Int.mul_zero]; omega
  · rw [h]
    have := Int.mul_comm ((ix vs (k : Int)).X - (ix vs (i : Int)).X) ((ix vs (k : Int)).Y - (ix vs (i : Int)).Y)
    omega
  · unfold oriV at h
    rw [sat_id (x := (ix vs (i : Int)).X) (by omega), sat_id (x := (ix vs (i : Int)).Y) (by omega), sat_id (x := (ix vs (k : Int)).X) (by omega), sat_id (x := (ix vs (k : Int)).Y) (by omega), sat_id (x := (ix vs (j : Int)).X) (by omega), sat_id (x := (ix vs (j : Int)).Y) (by omega)] at h
    omega
theorem ht_edge (a b p : V) : ht (sb b a) a p = cr (sb a p) (sb b p) := by unfold ht cr sb; grind
theorem map_two {vs : List Vec} (h : 3 ≤ vs.length) : vs.map toV = toV (ix vs 0) :: toV (ix vs 1) :: (vs.drop 2).map toV := by
  have h0 := drop_ix vs 0 (by omega)
  rw [List.drop_zero, drop_ix vs 1 (by omega)] at h0
  exact congrArg (List.map toV) h0
theorem nxt_next {vs : List Vec} {i : Nat} (hi : i + 1 < vs.length) : nxt vs i = ((i + 1 : Nat) : Int) := by
  unfold nxt
  rw [Int.tmod_eq_of_lt (by omega) (by omega)]; omega
theorem nxt_last {vs : List Vec} {i : Nat} (hi : i + 1 = vs.length) : nxt vs i = ((0 : Nat) : Int) := by
  unfold nxt
  rw [show ((i : Int) + 1) = (vs.length : Int) by omega, Int.tmod_self]; rfl
theorem left_path {vs : List Vec} (hc : convexB vs = true) (j : Nat) (hj : j < vs.length) : ∀ (k i : Nat), i + k + 1 = vs.length → leftC (toV (ix vs (j : Int))) (toV (ix vs 0)) (toV (ix vs (i : Int))) ((vs.drop (i + 1)).map toV)
  | 0, i, h => by
    rw [List.drop_of_length_le (by omega)]
    have := left_of hc i j (by omega) hj
    rw [nxt_last (by omega)] at this
    exact this
  | k + 1, i, h => by
    rw [drop_ix vs (i + 1) (by omega), List.map_cons]
    refine ⟨?_, left_path hc j hj k (i + 1) (by omega)⟩
    have := left_of hc i j (by omega) hj
    rw [nxt_next (by omega)] at this
    exact this
theorem wOk_path {vs : List Vec} (hc : convexB vs = true) : ∀ (k i : Nat), i + k + 1 = vs.length → wOk (wC (toV (ix vs 0))) (toV (ix vs 0)) (toV (ix vs (i : Int))) ((vs.drop (i + 1)).map toV)
  | 0, i, h => by
    rw [List.drop_of_length_le (by omega)]; trivial
  | k + 1, i, h => by
    obtain ⟨l3, l8, hr⟩ := convexB_len hc
    rw [drop_ix vs (i + 1) (by omega), List.map_cons]
    refine ⟨?_, wOk_path hc k (i + 1) (by omega)⟩
    have := wC_spec (inM_of (hr _ (mem_ix (l := vs) i (by omega)))) (inM_of (hr _ (mem_ix (l := vs) (i + 1) (by omega)))) (inM_of (hr _ (mem_ix (l := vs) 0 (by omega))))
    exact ⟨this.1, this.2.1⟩
theorem fan_bd {vs : List Vec} (hc : convexB vs = true) : ∀ (k i : Nat), i + k + 1 = vs.length →
    0 ≤ fanB (wC (toV (ix vs 0))) (toV (ix vs (i : Int))) ((vs.drop (i + 1)).map toV) ∧ fanB (wC (toV (ix vs 0))) (toV (ix vs (i : Int))) ((vs.drop (i + 1)).map toV) ≤ 134217729 * (k : Int) ∧
    (-(4194304 * fanB (wC (toV (ix vs 0))) (toV (ix vs (i : Int))) ((vs.drop (i + 1)).map toV)) ≤ fanX (wC (toV (ix vs 0))) (toV (ix vs 0)) (toV (ix vs (i : Int))) ((vs.drop (i + 1)).map toV) ∧ fanX (wC (toV (ix vs 0))) (toV (ix vs 0)) (toV (ix vs (i : Int))) ((vs.drop (i + 1)).map toV) ≤ 4194304 * fanB (wC (toV (ix vs 0))) (toV (ix vs (i : Int))) ((vs.drop (i + 1)).map toV)) ∧
    (-(4194304 * fanB (wC (toV (ix vs 0))) (toV (ix vs (i : Int))) ((vs.drop (i + 1)).map toV)) ≤ fanY (wC (toV (ix vs 0))) (toV (ix vs 0)) (toV (ix vs (i : Int))) ((vs.drop (i + 1)).map toV) ∧ fanY (wC (toV (ix vs 0))) (toV (ix vs 0)) (toV (ix vs (i : Int))) ((vs.drop (i + 1)).map toV) ≤ 4194304 * fanB (wC (toV (ix vs 0))) (toV (ix vs (i : Int))) ((vs.drop (i + 1)).map toV))
  | 0, i, h => by
    rw [List.drop_of_length_le (by omega)]
    show 0 ≤ (0 : Int) ∧ (0 : Int) ≤ 134217729 * 0 ∧ (-(4194304 * 0) ≤ (0 : Int) ∧ (0 : Int) ≤ 4194304 * 0) ∧ (-(4194304 * 0) ≤ (0 : Int) ∧ (0 : Int) ≤ 4194304 * 0)
    omega
  | k + 1, i, h => by
    obtain ⟨l3, l8, hr⟩ := convexB_len hc
    have ih := fan_bd hc k (i + 1) (by omega)
    rw [drop_ix vs (i + 1) (by omega), List.map_cons]
    have m0 := inM_of (hr _ (mem_ix (l := vs) 0 (by omega)))
    have mi := inM_of (hr _ (mem_ix (l := vs) i (by omega)))
    have mj := inM_of (hr _ (mem_ix (l := vs) (i + 1) (by omega)))
    have ws := wC_spec mi mj m0
    have lo := left_of hc i 0 (by omega) (by omega)
    rw [nxt_next (by omega)] at lo
    have w0 := ws.2.2.2.2 lo
    have w1 := ws.2.2.2.1
    rw [show ((0 : Nat) : Int) = (0 : Int) from rfl] at *
    have step : ∀ d : Int, -4194304 ≤ d → d ≤ 4194304 → -(4194304 * wC (toV (ix vs 0)) (toV (ix vs (i : Int))) (toV (ix vs ((i + 1 : Nat) : Int)))) ≤ wC (toV (ix vs 0)) (toV (ix vs (i : Int))) (toV (ix vs ((i + 1 : Nat) : Int))) * d ∧ wC (toV (ix vs 0)) (toV (ix vs (i : Int))) (toV (ix vs ((i + 1 : Nat) : Int))) * d ≤ 4194304 * wC (toV (ix vs 0)) (toV (ix vs (i : Int))) (toV (ix vs ((i + 1 : Nat) : Int))) := by
      intro d h1 h2
      have k1 := Int.mul_le_mul_of_nonneg_left h1 w0
      have k2 := Int.mul_le_mul_of_nonneg_left h2 w0
      omega
    obtain ⟨o1, o2, o3, o4⟩ := m0
    obtain ⟨x1, x2, x3, x4⟩ := mi
    obtain ⟨y1, y2, y3, y4⟩ := mj
    have sx := step (((toV (ix vs (i : Int))).1 - (toV (ix vs 0)).1) + ((toV (ix vs ((i + 1 : Nat) : Int))).1 - (toV (ix vs 0)).1)) (by omega) (by omega)
    have sy := step (((toV (ix vs (i : Int))).2 - (toV (ix vs 0)).2) + ((toV (ix vs ((i + 1 : Nat) : Int))).2 - (toV (ix vs 0)).2)) (by omega) (by omega)
    show 0 ≤ wC _ _ _ + fanB _ _ _ ∧ wC _ _ _ + fanB _ _ _ ≤ _ ∧ (-(4194304 * (wC _ _ _ + fanB _ _ _)) ≤ wC _ _ _ * _ + fanX _ _ _ _ ∧ wC _ _ _ * _ + fanX _ _ _ _ ≤ 4194304 * (wC _ _ _ + fanB _ _ _)) ∧ (-(4194304 * (wC _ _ _ + fanB _ _ _)) ≤ wC _ _ _ * _ + fanY _ _ _ _ ∧ wC _ _ _ * _ + fanY _ _ _ _ ≤ 4194304 * (wC _ _ _ + fanB _ _ _))
    generalize fanB _ (toV (ix vs ((i + 1 : Nat) : Int))) _ = B at *
    generalize fanX _ _ (toV (ix vs ((i + 1 : Nat) : Int))) _ = FX at *
    generalize fanY _ _ (toV (ix vs ((i + 1 : Nat) : Int))) _ = FY at *
    omega
theorem rdv_gen {n d : Int} (hn : -4611686018427387904 ≤ n ∧ n ≤ 4611686018427387904) (hd : 0 < d) (hd2 : d ≤ 4611686018427387904) : -d ≤ 2 * (d * rdv n d) - 2 * n ∧ 2 * (d * rdv n d) - 2 * n ≤ d := by
  rcases Int.lt_or_le n 0 with h | h
  · have := rdv_pos (n := -n) (d := d) (by omega) (by omega) hd hd2
    rw [rdv_neg, Int.mul_neg] at this
    omega
  · have := rdv_pos h hn.2 hd hd2
    omega
theorem small_q {B x r f : Int} (hB : 0 < B) (h : 3 * B * x = f + r) (f1 : -(4194304 * B) ≤ f) (f2 : f ≤ 4194304 * B) (r1 : -(3 * B) ≤ 2 * r) (r2 : 2 * r ≤ 3 * B) : -2000000 ≤ x ∧ x ≤ 2000000 := by
  constructor
  · rcases Int.lt_or_le x (-2000000) with g | g
    · have := Int.mul_le_mul_of_nonneg_left (show x ≤ -2000000 by omega) (show 0 ≤ 3 * B by omega)
      omega
    · exact g
  · rcases Int.lt_or_le 2000000 x with g | g
    · have := Int.mul_le_mul_of_nonneg_left (show 2000000 ≤ x by omega) (show 0 ≤ 3 * B by omega)
      omega
    · exact g
/-- The rounded centroid: its bounds, and its place left of each edge. -/
theorem cent_ok {vs : List Vec} (ha : 256 ≤ areaV vs) : (-4000000 ≤ (centV vs).X ∧ (centV vs).X ≤ 4000000) ∧ (-4000000 ≤ (centV vs).Y ∧ (centV vs).Y ≤ 4000000) ∧
    ∀ i : Nat, i < vs.length → 0 ≤ cr (sb (toV (ix vs (i : Int))) (toV (centV vs))) (sb (toV (ix vs (nxt vs i))) (toV (centV vs))) := by
  obtain ⟨l3, l8, hr, hS⟩ := area_sum ha
  have hc : convexB vs = true := by
    unfold areaV at ha
    by_cases hc : convexB vs = true
    · exact hc
    · rw [if_neg hc] at ha; omega
  have fs := fold_sums hr l8 (vs.length - 2) 1 (by omega) (by omega) 0 0 0 (by omega) (by omega) (by omega) (by omega) (by omega) (by omega)
  have fb := fan_bd hc (vs.length - 2) 1 (by omega)
  have wo := wOk_path hc (vs.length - 2) 1 (by omega)
  rw [show foldR (fun i a => w64 (a + crossAt vs i)) 1 (vs.length - 2) 0 = crossSum vs from rfl, show foldR (fun i a => w64 (a + ((triAt vs i).e.X + (triAt vs i).f.X) * crossAt vs i)) 1 (vs.length - 2) 0 = momX vs from rfl, show foldR (fun i a => w64 (a + ((triAt vs i).e.Y + (triAt vs i).f.Y) * crossAt vs i)) 1 (vs.length - 2) 0 = momY vs from rfl] at fs
  rw [show ((1 : Nat) : Int) = (1 : Int) from rfl, show 1 + 1 = 2 from rfl] at fs fb wo
  obtain ⟨e1, e2, e3⟩ := fs
  rw [Int.zero_add] at e1 e2 e3
  obtain ⟨B0, B1, ⟨X0, X1⟩, ⟨Y0, Y1⟩⟩ := fb
  have hBpos : 0 < crossSum vs := by
    have fl := fanB_le (wC (toV (ix vs 0))) (toV (ix vs 0)) ((vs.drop 2).map toV) (toV (ix vs 1)) wo
    have hS2 := hS
    rw [drop_ix vs 1 (by omega), List.map_cons, fan_cyc] at hS2
    rw [show ((1 : Nat) : Int) = (1 : Int) from rfl, show 1 + 1 = 2 from rfl] at hS2
    rw [← e1] at fl
    have : (((vs.drop 2).map toV).length : Int) ≤ 6 := by rw [List.length_map, List.length_drop]; omega
    omega
  have hB := hBpos
  rw [e1] at hB
  have px := rdv_gen (n := momX vs) (d := 3 * crossSum vs) (by omega) (by omega) (by omega)
  have py := rdv_gen (n := momY vs) (d := 3 * crossSum vs) (by omega) (by omega) (by omega)
  have qx := small_q (B := crossSum vs) (x := rdv (momX vs) (3 * crossSum vs)) (f := momX vs) (r := 3 * crossSum vs * rdv (momX vs) (3 * crossSum vs) - momX vs) hBpos (by omega) (by omega) (by omega) (by omega) (by omega)
  have qy := small_q (B := crossSum vs) (x := rdv (momY vs) (3 * crossSum vs)) (f := momY vs) (r := 3 * crossSum vs * rdv (momY vs) (3 * crossSum vs) - momY vs) hBpos (by omega) (by omega) (by omega) (by omega) (by omega)
  have m0 := inM_of (hr _ (mem_ix (l := vs) 0 (by omega)))
  rw [show ((0 : Nat) : Int) = (0 : Int) from rfl] at m0
  obtain ⟨o1, o2, o3, o4⟩ := m0
  have ec : centV vs = ⟨(ix vs 0).X + rdv (momX vs) (3 * crossSum vs), (ix vs 0).Y + rdv (momY vs) (3 * crossSum vs)⟩ := by
    unfold centV
    unfold toV at o1 o2 o3 o4
    dsimp only at o1 o2 o3 o4
    rw [if_pos hc, if_neg (by omega), w64_of (3 * crossSum vs) (by omega), w64_of _ (by omega), w64_of _ (by omega)]
  have cx : (centV vs).X = (ix vs 0).X + rdv (momX vs) (3 * crossSum vs) := by rw [ec]
  have cy : (centV vs).Y = (ix vs 0).Y + rdv (momY vs) (3 * crossSum vs) := by rw [ec]
  unfold toV at o1 o2 o3 o4
  dsimp only at o1 o2 o3 o4
  refine ⟨by omega, by omega, fun i hi => ?_⟩
  rw [← ht_edge]
  have hL := map_two l3
  have hmem : ∀ x ∈ toV (ix vs 0) :: toV (ix vs 1) :: (vs.drop 2).map toV, ∃ j : Nat, j < vs.length ∧ x = toV (ix vs (j : Int)) := by
    intro x hx
    rw [← hL] at hx
    obtain ⟨u, hu, rfl⟩ := List.mem_map.1 hx
    obtain ⟨j, hj, rfl⟩ := List.mem_iff_getElem.1 hu
    exact ⟨j, hj, by rw [ix_lt vs j hj]⟩
  have hht : ∀ x ∈ toV (ix vs 0) :: toV (ix vs 1) :: (vs.drop 2).map toV, 0 ≤ ht (sb (toV (ix vs (nxt vs i))) (toV (ix vs (i : Int)))) (toV (ix vs (i : Int))) x := by
    intro x hx
    obtain ⟨j, hj, rfl⟩ := hmem x hx
    rw [ht_edge]; exact left_of hc i j hi hj
  obtain ⟨m, hm, hmax⟩ := max_ex (ht (sb (toV (ix vs (nxt vs i))) (toV (ix vs (i : Int)))) (toV (ix vs (i : Int)))) (toV (ix vs 1) :: (vs.drop 2).map toV) (toV (ix vs 0))
  have hl : leftC m (toV (ix vs 0)) (toV (ix vs 0)) (toV (ix vs 1) :: (vs.drop 2).map toV) := by
    obtain ⟨j, hj, rfl⟩ := hmem m hm
    have := left_path hc j hj (vs.length - 1) 0 (by omega)
    rw [show 0 + 1 = 1 from rfl, drop_ix vs 1 (by omega), List.map_cons] at this
    exact this
  rw [drop_ix vs 1 (by omega), List.map_cons] at hS
  rw [← e1] at hB
  refine cent_left (o := toV (ix vs 0)) (a := toV (ix vs 1)) (t := (vs.drop 2).map toV) (w := wC (toV (ix vs 0))) (m := m) (H := ht (sb (toV (ix vs (nxt vs i))) (toV (ix vs (i : Int)))) (toV (ix vs (i : Int))) m) hm rfl (fun x hx => ?_) (fun x hx => ⟨hht x hx, hmax x hx⟩) hl ?_ hS wo
    (r1 := 3 * crossSum vs * rdv (momX vs) (3 * crossSum vs) - momX vs) (r2 := 3 * crossSum vs * rdv (momY vs) (3 * crossSum vs) - momY vs) ?_ ?_ ?_ ?_ ?_ ?_ ?_
  · obtain ⟨j, hj, rfl⟩ := hmem x hx
    exact inM_of (hr _ (mem_ix (l := vs) j hj))
  · rw [List.length_map, List.length_drop]; omega
  · rw [← e1]; exact hBpos
  · rw [← e1]; omega
  · rw [← e1]; omega
  · rw [← e1]; omega
  · rw [← e1]; omega
  · rw [← e1, ← e2, show (toV (centV vs)).1 - (toV (ix vs 0)).1 = rdv (momX vs) (3 * crossSum vs) by show (centV vs).X - (ix vs 0).X = _; omega]; omega
  · rw [← e1, ← e3, show (toV (centV vs)).2 - (toV (ix vs 0)).2 = rdv (momY vs) (3 * crossSum vs) by show (centV vs).Y - (ix vs 0).Y = _; omega]; omega
theorem sat_nn {x : Int} (h : 0 ≤ x) : 0 ≤ sat x := by unfold sat; omega
theorem prodS_nn {x : Int} (h : 0 ≤ x) : 0 ≤ prodS x := sat_nn (rdv_le h).1
theorem mulS_nn {a b : Int} (ha : 0 ≤ a) (hb : 0 ≤ b) : 0 ≤ mulS a b := sat_nn (rdv_le (Int.mul_nonneg (sat_nn ha) (sat_nn hb))).1
theorem addS_nn {a b : Int} (ha : 0 ≤ a) (hb : 0 ≤ b) : 0 ≤ addS a b := by unfold addS sat; omega
theorem dotV_nn (a : Vec) : 0 ≤ dotV a a := prodS_nn (by have := sq_nn (sat a.X); have := sq_nn (sat a.Y); omega)
/-- The weight of a triangle. -/
theorem weight_ge (p q : Vec) : -1 ≤ dotV p p + dotV p q + dotV q q ∧ -1610612733 ≤ dotV p p + dotV p q + dotV q q ∧ dotV p p + dotV p q + dotV q q ≤ 1610612733 := by
  have b1 := prodS_bd (sat p.X * sat p.X + sat p.Y * sat p.Y)
  have b2 := prodS_bd (sat p.X * sat q.X + sat p.Y * sat q.Y)
  have b3 := prodS_bd (sat q.X * sat q.X + sat q.Y * sat q.Y)
  have s1 := sat_mul p.X p.X
  have s2 := sat_mul p.Y p.Y
  have s3 := sat_mul q.X q.X
  have s4 := sat_mul q.Y q.Y
  have s5 := sat_mul p.X q.X
  have s6 := sat_mul p.Y q.Y
  have n1 := sq_nn (sat p.X)
  have n2 := sq_nn (sat p.Y)
  have n3 := sq_nn (sat q.X)
  have n4 := sq_nn (sat q.Y)
  have n5 := sq_nn (sat p.X + sat q.X)
  have n6 := sq_nn (sat p.Y + sat q.Y)
  rw [show (sat p.X + sat q.X) * (sat p.X + sat q.X) = sat p.X * sat p.X + 2 * (sat p.X * sat q.X) + sat q.X * sat q.X by grind] at n5
  rw [show (sat p.Y + sat q.Y) * (sat p.Y + sat q.Y) = sat p.Y * sat p.Y + 2 * (sat p.Y * sat q.Y) + sat q.Y * sat q.Y by grind] at n6
  have r1 := rdv_spec (n := sat p.X * sat p.X + sat p.Y * sat p.Y) (by omega)
  have r2 := rdv_spec (n := sat p.X * sat q.X + sat p.Y * sat q.Y) (by omega)
  have r3 := rdv_spec (n := sat q.X * sat q.X + sat q.Y * sat q.Y) (by omega)
  have r4 := rdv_le (n := sat p.X * sat p.X + sat p.Y * sat p.Y) (d := 65536) (by omega)
  have r5 := rdv_le (n := sat q.X * sat q.X + sat q.Y * sat q.Y) (d := 65536) (by omega)
  unfold dotV
  refine ⟨?_, by omega, by omega⟩
  unfold prodS at *
  generalize rdv (sat p.X * sat p.X + sat p.Y * sat p.Y) 65536 = A at *
  generalize rdv (sat p.X * sat q.X + sat p.Y * sat q.Y) 65536 = D at *
  generalize rdv (sat q.X * sat q.X + sat q.Y * sat q.Y) 65536 = C at *
  generalize sat p.X * sat p.X = u1 at *
  generalize sat p.Y * sat p.Y = u2 at *
  generalize sat q.X * sat q.X = u3 at *
  generalize sat q.Y * sat q.Y = u4 at *
  generalize sat p.X * sat q.X = u5 at *
  generalize sat p.Y * sat q.Y = u6 at *
  unfold sat
  omega
theorem term_bd {k w : Int} (h0 : 0 ≤ k) (h1 : k ≤ 536870911) (w0 : -1 ≤ w) (w1 : w ≤ 1610612733) : -k ≤ k * w ∧ k * w ≤ 864691126288089603 := by
  have a := Int.mul_le_mul_of_nonneg_left w0 h0
  have b := Int.mul_le_mul_of_nonneg_left w1 h0
  omega
theorem sumR_bd {g h : Nat → Int} : ∀ (k i : Nat), (∀ j, i ≤ j → j < i + k → (0 ≤ h j ∧ h j ≤ 536870911) ∧ -(h j) ≤ g j ∧ g j ≤ 864691126288089603) →
    (0 ≤ sumR h i k ∧ sumR h i k ≤ 536870911 * (k : Int)) ∧ -(sumR h i k) ≤ sumR g i k ∧ sumR g i k ≤ 864691126288089603 * (k : Int)
  | 0, i, _ => by show (0 ≤ (0 : Int) ∧ (0 : Int) ≤ 536870911 * 0) ∧ -(0 : Int) ≤ 0 ∧ (0 : Int) ≤ 864691126288089603 * 0; omega
  | k + 1, i, hh => by
    have ih := sumR_bd (g := g) (h := h) k (i + 1) (fun j h1 h2 => hh j (by omega) (by omega))
    have h0 := hh i (by omega) (by omega)
    have e1 : sumR h i (k + 1) = h i + sumR h (i + 1) k := by
      show foldR _ (i + 1) k (0 + h i) = _
      rw [sumR_acc]; omega
    have e2 : sumR g i (k + 1) = g i + sumR g (i + 1) k := by
      show foldR _ (i + 1) k (0 + g i) = _
      rw [sumR_acc]; omega
    rw [e1, e2]
    omega
theorem prev_nxt {vs : List Vec} {i : Nat} (hi : i < vs.length) : prevI vs.length i < vs.length ∧ nxt vs (prevI vs.length i) = (i : Int) := by
  unfold prevI
  by_cases h : i = 0
  · subst h
    rw [if_pos rfl]
    exact ⟨by omega, by rw [nxt_last (by omega)]⟩
  · rw [if_neg h]
    exact ⟨by omega, by rw [nxt_next (by omega)]; omega⟩
theorem ptC_val {s : Shape} (hr : ∀ v ∈ s.Vertices, inRng 1048576 v = true) (c1 : -4000000 ≤ (centV s.Vertices).X ∧ (centV s.Vertices).X ≤ 4000000) (c2 : -4000000 ≤ (centV s.Vertices).Y ∧ (centV s.Vertices).Y ≤ 4000000) (j : Nat) (hj : j < s.Vertices.length) :
    toV (ptC s j) = sb (toV (ix s.Vertices (j : Int))) (toV (centV s.Vertices)) ∧ satV (ptC s j) = ptC s j := by
  obtain ⟨a1, a2, a3, a4⟩ := inM_of (hr _ (mem_ix (l := s.Vertices) j hj))
  unfold toV at a1 a2 a3 a4
  dsimp only at a1 a2 a3 a4
  have e1 : (ptC s j).X = (ix s.Vertices (j : Int)).X - (centV s.Vertices).X := subS_in (by omega) (by omega) (by omega)
  have e2 : (ptC s j).Y = (ix s.Vertices (j : Int)).Y - (centV s.Vertices).Y := subS_in (by omega) (by omega) (by omega)
  constructor
  · unfold toV sb
    rw [e1, e2]
  · unfold satV
    rw [sat_id (x := (ptC s j).X) (by omega), sat_id (x := (ptC s j).Y) (by omega)]
theorem cross_nn {s : Shape} (ha : 256 ≤ areaV s.Vertices) (i : Nat) (hi : i < s.Vertices.length) : 0 ≤ crossV (ptC s (prevI s.Vertices.length i)) (ptC s i) := by
  obtain ⟨c1, c2, hl⟩ := cent_ok ha
  obtain ⟨-, -, hr, -⟩ := area_sum ha
  obtain ⟨p1, p2⟩ := prev_nxt hi
  have h := hl _ p1
  rw [p2] at h
  obtain ⟨v1, w1⟩ := ptC_val hr c1 c2 _ p1
  obtain ⟨v2, w2⟩ := ptC_val hr c1 c2 _ hi
  rw [← v1, ← v2] at h
  unfold crossV
  have x1 : sat (ptC s (prevI s.Vertices.length i)).X = (ptC s (prevI s.Vertices.length i)).X := congrArg Vec.X w1
  have x2 : sat (ptC s (prevI s.Vertices.length i)).Y = (ptC s (prevI s.Vertices.length i)).Y := congrArg Vec.Y w1
  have x3 : sat (ptC s i).X = (ptC s i).X := congrArg Vec.X w2
  have x4 : sat (ptC s i).Y = (ptC s i).Y := congrArg Vec.Y w2
  rw [x1, x2, x3, x4]
  exact prodS_nn h
theorem inertia_q {a b : Int} (h : -b ≤ a) (hb : 1 ≤ b) (hb2 : b ≤ 4294967288) (ha2 : a ≤ 9223372036854775807) : 0 ≤ rdv (rdv a b) 6 := by
  rcases Int.lt_or_le a 0 with g | g
  · have := rdv_pos (n := -a) (d := b) (by omega) (by omega) (by omega) (by omega)
    rw [rdv_neg] at this
    have h1 : rdv a b = 0 ∨ rdv a b = -1 := by
      rcases Int.lt_or_le (rdv a b) (-1) with k | k
      · have := Int.mul_le_mul_of_nonneg_left (show 2 ≤ - rdv a b by omega) (show 0 ≤ b by omega)
        omega
      · omega
    rcases h1 with h1 | h1 <;> rw [h1] <;> decide
  · exact (rdv_le (rdv_le g).1).1
theorem polyM_nn {s : Shape} {d : Int} (ha : 256 ≤ areaV s.Vertices) (hd : 0 ≤ d) : 0 ≤ (polyM s d).Mass ∧ 0 ≤ (polyM s d).Inertia := by
  have hm : 0 ≤ mulS (areaV s.Vertices) d := mulS_nn (by omega) hd
  refine ⟨hm, ?_⟩
  show 0 ≤ (if inC s < 1 then 0 else mulS (mulS (areaV s.Vertices) d) (rdv (rdv (inI s) (inC s)) 6))
  split
  · omega
  · rename_i hC
    refine mulS_nn hm ?_
    obtain ⟨l3, l8, -, -⟩ := area_sum ha
    have sb := sumR_bd (g := fun i => termI (ptC s (prevI s.Vertices.length i)) (ptC s i)) (h := fun i => crossV (ptC s (prevI s.Vertices.length i)) (ptC s i)) s.Vertices.length 0 (fun j _ hj => by
      have c0 := cross_nn ha j (by omega)
      have c1 := (prodS_bd (sat (ptC s (prevI s.Vertices.length j)).X * sat (ptC s j).Y - sat (ptC s (prevI s.Vertices.length j)).Y * sat (ptC s j).X)).2
      have w := weight_ge (ptC s (prevI s.Vertices.length j)) (ptC s j)
      exact ⟨⟨c0, c1⟩, term_bd c0 c1 w.1 w.2.2⟩)
    have e1 : inI s = sumR (fun i => termI (ptC s (prevI s.Vertices.length i)) (ptC s i)) 0 s.Vertices.length := w64_of _ (by omega)
    have e2 : inC s = sumR (fun i => crossV (ptC s (prevI s.Vertices.length i)) (ptC s i)) 0 s.Vertices.length := w64_of _ (by omega)
    rw [← e1, ← e2] at sb
    exact inertia_q (by omega) (by omega) (by omega) (by omega)
theorem shapeM_nn (s : Shape) (d : Int) : 0 ≤ (shapeM s d).Mass ∧ 0 ≤ (shapeM s d).Inertia := by
  unfold shapeM
  split
  · exact ⟨Int.le_refl 0, Int.le_refl 0⟩
  rename_i h
  have hv : validS s = 0 := by omega
  have hd : 0 ≤ d := by omega
  have hr := (valid_radius hv).1
  have hq : 0 ≤ mulS s.Radius s.Radius := mulS_nn hr hr
  split
  · have hm : 0 ≤ mulS (mulS 205888 (mulS s.Radius s.Radius)) d := mulS_nn (mulS_nn (by omega) hq) hd
    exact ⟨hm, mulS_nn hm (rdv_le hq).1⟩
  split
  · have hl : 0 ≤ lenV (subV (ix s.Vertices 1) (ix s.Vertices 0)) := (isq_bd _).1
    have hm : 0 ≤ mulS (addS (mulS 205888 (mulS s.Radius s.Radius)) (mulS (addS s.Radius s.Radius) (lenV (subV (ix s.Vertices 1) (ix s.Vertices 0))))) d :=
      mulS_nn (addS_nn (mulS_nn (by omega) hq) (mulS_nn (addS_nn hr hr) hl)) hd
    exact ⟨hm, mulS_nn hm (addS_nn (rdv_le hq).1 (rdv_le (mulS_nn hl hl)).1)⟩
  · obtain ⟨k1, k3, -⟩ := validS_count hv
    exact polyM_nn (valid_area hv (by omega)) hd
def NN (m : MassData) : Prop := 0 ≤ m.Mass ∧ 0 ≤ m.Inertia
theorem foldR_inv {σ : Type} {P : σ → Prop} {f : Nat → σ → σ} (hf : ∀ i s, P s → P (f i s)) : ∀ (k i : Nat) (s : σ), P s → P (foldR f i k s)
  | 0, _, _, h => h
  | k + 1, i, s, h => foldR_inv hf k (i + 1) (f i s) (hf i s h)
theorem ix_all {l : List MassData} (hl : ∀ m ∈ l, NN m) (i : Nat) : NN (ix l (i : Int)) := by
  by_cases h : i < l.length
  · rw [ix_lt l i h]; exact hl _ (List.getElem_mem h)
  · rw [ix_nat, List.getD, List.getElem?_eq_none (by omega)]
    exact ⟨Int.le_refl 0, Int.le_refl 0⟩
theorem combM_nn {l : List MassData} (hl : ∀ m ∈ l, NN m) : NN (combM l) := by
  unfold combM
  split
  · exact ⟨Int.le_refl 0, Int.le_refl 0⟩
  have hA : NN (foldR (cmbA l) 0 l.length (0, 0, 0, MassData.zero)).2.2.2 :=
    foldR_inv (P := fun x => NN x.2.2.2) (f := cmbA l) (fun i s hs => ⟨addS_nn hs.1 (sat_nn (ix_all hl i).1), hs.2⟩) _ _ _ ⟨Int.le_refl 0, Int.le_refl 0⟩
  have hB : ∀ x : MassData, NN x → NN (foldR (cmbB l) 0 l.length x) := fun x hx =>
    foldR_inv (P := NN) (f := cmbB l) (fun i s hs => ⟨hs.1, addS_nn (addS_nn hs.2 (ix_all hl i).2) (mulS_nn (ix_all hl i).1 (dotV_nn _))⟩) _ _ _ hx
  dsimp only
  refine hB _ ?_
  split
  · exact ⟨hA.1, hA.2⟩
  · exact hA
theorem massM_nn (fs : List Fixture) : 0 ≤ (massM fs).Mass ∧ 0 ≤ (massM fs).Inertia := by
  unfold massM
  split
  · exact ⟨Int.le_refl 0, Int.le_refl 0⟩
  · refine combM_nn ?_
    refine foldR_inv (P := fun (l : List MassData) => ∀ m ∈ l, NN m) (f := partsM fs) (fun i l hl => ?_) _ _ _ (by simp)
    unfold partsM
    split
    · exact hl
    · intro m hm
      rcases List.mem_append.1 hm with h | h
      · exact hl m h
      · simp at h; rw [h]; exact shapeM_nn _ _
end GoOld


/-
  Plain laws of metrics: the measurements of an invalid world are zero, and none is negative. No conditions.
-/
set_option linter.all false
set_option maxRecDepth 100000
open Go Go.Rx
namespace GoForm
theorem mulS_sq (x : Int) : 0 ≤ GoOld.mulS x x := GoOld.sat_nn (GoOld.rdv_le (GoOld.sq_nn _)).1
theorem ke_nn : ∀ (l : List Body) (s : Int), 0 ≤ s → 0 ≤ l.foldl keF s
  | [], s, h => h
  | b :: t, s, h => ke_nn t _ (GoOld.addS_nn (GoOld.addS_nn h (GoOld.rdv_le (GoOld.mulS_nn (GoOld.massM_nn _).1 (GoOld.dotV_nn _))).1) (GoOld.rdv_le (GoOld.mulS_nn (GoOld.massM_nn _).2 (mulS_sq _))).1)
theorem pen_nn : ∀ (l : List ContactPoint) (s : Int), 0 ≤ s → 0 ≤ l.foldl penF s
  | [], s, h => h
  | p :: t, s, h => pen_nn t _ (by unfold penF; omega)
theorem imp_nn : ∀ (l : List ContactPoint) (s : Int), (∀ p ∈ l, 0 ≤ p.NormalImpulse) → 0 ≤ s → 0 ≤ l.foldl impF s
  | [], s, _, h => h
  | p :: t, s, hl, h => imp_nn t _ (fun q hq => hl q (List.mem_cons_of_mem _ hq)) (GoOld.addS_nn h (hl p (by simp)))
theorem cps_nn (w : World_) : ∀ p ∈ cps w, 0 ≤ p.NormalImpulse := by
  intro p hp
  unfold cps at hp
  split at hp
  · simp at hp
  · rename_i h
    have hv : wv w = 0 := by simpa using h
    obtain ⟨-, -, -, -, -, hc⟩ := wv_zero hv
    unfold cOk at hc
    obtain ⟨c, hcm, hpc⟩ := List.mem_flatMap.1 hp
    have h1 := (Bool.and_eq_true _ _ ▸ hc : _ ∧ _).1
    have h2 := List.all_eq_true.1 h1 c hcm
    unfold mOk at h2
    have h3 := (Bool.and_eq_true _ _ ▸ h2 : _ ∧ _).2
    have h4 := List.all_eq_true.1 h3 p hpc
    unfold pOk at h4
    have h5 := (Bool.and_eq_true _ _ ▸ h4 : _ ∧ _).1
    simp at h5
    exact h5
theorem fast_nn : ∀ (l : List Body) (id s : Int), 0 ≤ (fastF l id s).2
  | [], id, s => by show 0 ≤ max s 0; omega
  | b :: t, id, s => by
    unfold fastF
    split
    · exact fast_nn t _ _
    · exact fast_nn t _ _
theorem slp_nn : ∀ (l : List Body) (n : Int), 0 ≤ n → n + (l.length : Int) < 1000 → 0 ≤ l.foldl slpF n ∧ l.foldl slpF n ≤ n + (l.length : Int)
  | [], n, h, _ => by simp; exact h
  | b :: t, n, h, h2 => by
    simp only [List.length_cons] at h2 ⊢
    simp only [List.foldl_cons]
    have e : slpF n b = n ∨ slpF n b = n + 1 := by
      unfold slpF
      split
      · right; exact w64_of _ (by omega)
      · left; rfl
    rcases e with e | e <;> rw [e]
    · have := slp_nn t n h (by omega); omega
    · have := slp_nn t (n + 1) (by omega) (by omega); omega
theorem dyn_le (w : World_) : (dyn w).length ≤ w.Bodies.length := by
  unfold dyn; split
  · simp
  · exact List.length_filter_le _ _
theorem bodyBx_ok {b : Body} (hb : GoOld.validB b = 0) (h : (GoOld.bodyBx b).2 = true) : GoOld.OKB (GoOld.bodyBx b).1 := by
  by_cases hl : b.Fixtures.length = 0
  · unfold GoOld.bodyBx at h; rw [if_pos hl] at h; simp at h
  · exact (GoOld.body_box hb hl).1
theorem bdsF_ok : ∀ (l : List Body) (f : Bool) (c : AABB), (∀ b ∈ l, GoOld.validB b = 0) → (f = true → GoOld.OKB c) → (bdsF l f c).2 = true → GoOld.OKB (bdsF l f c).1
  | [], f, c, _, hf, h => hf h
  | b :: t, f, c, hv, hf, h => by
    have ht : ∀ x ∈ t, GoOld.validB x = 0 := fun x hx => hv x (List.mem_cons_of_mem _ hx)
    unfold bdsF at h ⊢
    split
    · rename_i k
      rw [if_pos k] at h
      exact bdsF_ok t f c ht hf h
    · rename_i k
      rw [if_neg k] at h
      have kb := bodyBx_ok (hv b (by simp)) (by simpa using k)
      split
      · rename_i g
        rw [if_pos g] at h
        exact bdsF_ok t true _ ht (fun _ => kb) h
      · rename_i g
        rw [if_neg g] at h
        exact bdsF_ok t f _ ht (fun e => (GoOld.unionBx_ok (hf e) kb).1) h
theorem vbs_all (N : Int) : ∀ (l : List Body) (i : Nat) (p : Int), vbs N l i p = true → ∀ b ∈ l, GoOld.validB b = 0
  | [], _, _, _, _, h => by simp at h
  | a :: t, i, p, h, b, hb => by
    unfold vbs at h
    split at h
    · exact absurd h (by simp)
    · rename_i hh
      rcases List.mem_cons.1 hb with e | e
      · subst e
        simp only [Bool.or_eq_true, not_or] at hh
        simpa using hh.1.1
      · exact vbs_all N t _ _ h b e
theorem bds_ok (w : World_) (h : (bds w).2 = true) : GoOld.okBx (bds w).1 = true := by
  rw [GoOld.okBx_iff]
  unfold bds at h ⊢
  split
  · rename_i k; rw [if_pos k] at h; simp at h
  · rename_i k
    rw [if_neg k] at h
    have hv : wv w = 0 := by simpa using k
    exact bdsF_ok _ _ _ (vbs_all _ _ _ _ (wv_zero hv).2.2.2.1) (by simp) h
theorem mAV (b : AABB) : aabb_Valid b = some (GoOld.okBx b) := by rw [br_aabb_Valid, GoOld.aabb_Valid_eq]
theorem caromlaw51_MetricsInvalidWorld_any (w : World_) : caromlaw51_MetricsInvalidWorld w = some true := by
  unfold caromlaw51_MetricsInvalidWorld
  simp only [IsSmall_eq, Bind_snr, Let_nr, example51]
  cases h : small w
  · rfl
  · have hF := small_Few h
    have k1 : decide (ke (dyn w) < 0) = false := decide_eq_false (by have := ke_nn (dyn w) 0 (by omega); unfold ke; omega)
    have k2 : decide ((cps w).foldl penF 0 < 0) = false := decide_eq_false (by have := pen_nn (cps w) 0 (by omega); omega)
    have k3 : decide ((cps w).foldl impF 0 < 0) = false := decide_eq_false (by have := imp_nn (cps w) 0 (cps_nn w) (by omega); omega)
    have k4 : decide ((fastF (dyn w) 0 (-1)).2 < 0) = false := decide_eq_false (by have := fast_nn (dyn w) 0 (-1); omega)
    have hs := slp_nn (dyn w) 0 (by omega) (by have := dyn_len w hF; omega)
    have hd := dyn_le w
    have k5 : decide ((dyn w).foldl slpF 0 < 0) = false := decide_eq_false (by omega)
    have k6 : decide ((dyn w).foldl slpF 0 > (w.Bodies.length : Int)) = false := decide_eq_false (by omega)
    simp only [Bool.not_true, ff, if_false, met_com_eq w hF, met_fast_eq w hF, met_bds_eq w hF, met_pen_eq w hF, met_imp_eq w hF, met_slp_eq w hF, met_mom_eq w hF, met_ke_eq w hF, world_Val_eq w hF, mAV, Bind_snr, k1, k2, k3, k4, k5, k6, beq_self_eq_true, if_true, Bool.cond_true, Bool.cond_false, Bool.true_and]
    have k7 : ∀ (r : Bool → Option Bool), Rx.Bind (if (bds w).2 == true then some (GoOld.okBx (bds w).1) else some default) (fun r2336 => r (bif (bds w).2 then !r2336 else false)) = r false := by
      intro r
      cases hb : (bds w).2
      · rfl
      · have := bds_ok w hb
        rw [this]; rfl
    refine (k7 (fun x => if (x : Bool) = true then some false else _)).trans ?_
    by_cases hv : wv w = 0
    · rw [hv]; rfl
    · have hw : (wv w != 0) = true := by simpa using hv
      have d0 : dyn w = [] := by unfold dyn; rw [if_pos hw]
      have c0 : cps w = [] := by unfold cps; rw [if_pos hw]
      have b0 : bds w = (⟨⟨0, 0⟩, ⟨0, 0⟩⟩, false) := by unfold bds; rw [if_pos hw]
      have e0 : (wv w == 0) = false := by simpa using hv
      rw [e0, d0, c0, b0]
      rfl
theorem caromlaw51_MetricsInvalidWorld_true (a0 : World_) {P : Prop} (_ : P) : caromlaw51_MetricsInvalidWorld a0 = some true := caromlaw51_MetricsInvalidWorld_any a0
end GoForm
