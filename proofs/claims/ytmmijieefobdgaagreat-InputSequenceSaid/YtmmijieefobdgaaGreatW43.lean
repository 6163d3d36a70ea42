/- Plain laws, joined from several texts. No conditions. -/
import Derived.Test.YtmmijieefobdgaaGreatF43D
import Derived.Test.YtmmijieefobdgaaGreatF43B
import Derived.Test.YtmmijieefobdgaaGreatF43OL
import Derived.Test.YtmmijieefobdgaaGreatRzQ
import Derived.Test.YtmmijieefobdgaaGreatF43T
/- Plain laws, joined from several texts. No conditions. -/
set_option linter.all false
set_option maxRecDepth 100000
open Go Go.Rx

namespace GoForm
theorem bodyV (b : Body) : body_Validate b = caromref23_Validate b := by rw [br_body_Validate, br_caromref23_Validate, GoOld.body_Validate_eq, GoOld.ref23_Validate_eq]
theorem bodyV' (b : Body) : caromref23_Validate b = some (GoOld.validB b) := by rw [br_caromref23_Validate, GoOld.ref23_Validate_eq]
def inb (x a b : Int) : Bool := decide (a ≤ x) && decide (x ≤ b)
theorem world_in_eq (x a b : Int) : world_in x a b = some (inb x a b) := by
  unfold world_in inb; simp only [Let_nr, ge_iff_le, cond_and]
theorem joint_in_eq (x a b : Int) : joint_inRange x a b = some (inb x a b) := by
  unfold joint_inRange inb; simp only [Let_nr, ge_iff_le, cond_and]
def vset (s : Settings) : Int := if (inb s.TimeStep 64 8192 && inb s.Gravity.X (-16777216) 16777216 && inb s.Gravity.Y (-16777216) 16777216 && inb s.Iterations 1 32 && inb s.SleepSteps 0 1048576) = true then 0 else 6
theorem world_set_eq (s : Settings) : world_ValidateSettings s = some (vset s) := by
  unfold world_ValidateSettings vset
  simp only [world_in_eq, Let_nr, Bind_snr, Bind_if]
  generalize inb s.TimeStep 64 8192 = b1
  generalize inb s.Gravity.X (-16777216) 16777216 = b2
  generalize inb s.Gravity.Y (-16777216) 16777216 = b3
  generalize inb s.Iterations 1 32 = b4
  generalize inb s.SleepSteps 0 1048576 = b5
  cases b1 <;> cases b2 <;> cases b3 <;> cases b4 <;> cases b5 <;> rfl
def fb (w : World_) (id : Int) : Int := idx (fun b : Body => b.ID == id) w.Bodies 0
theorem world_Find_eq (w : World_) (id : Int) (h : Sm w.Bodies) : world_FindBody w id = some (fb w id) := by
  unfold world_FindBody slices_IndexFunc fb
  simp only [Let_nr]
  rw [show LOOP _ fuel (0 : Int) = _ from LOOP_l0 w.Bodies (fun t i => some (idx (fun b : Body => b.ID == id) t i)) _ h ?_ ?_]
  · exact Bind_snr _ _
  · intro r i t hw hc hm hr
    simp only [dlt hc, if_true, hw, Chk_of hc, world_FindBody_1, Let_nr, Bind_snr, hr, idx]
    split <;> rfl
  · intro r; simp only [dll, ff, if_false, idx]
theorem fb_bd (w : World_) (id : Int) : fb w id = -1 ∨ (0 ≤ fb w id ∧ fb w id < (w.Bodies.length : Int)) := by
  have := idx_bd (fun b : Body => b.ID == id) w.Bodies 0; unfold fb; simpa using this
def vbs (N : Int) : List Body → Nat → Int → Bool
  | [], _, _ => true
  | b :: t, i, p => if (GoOld.validB b != 0 || decide (N ≤ b.ID) || decide (b.ID ≤ p)) = true then false else vbs N t (i + 1) b.ID
theorem world_bodies_eq (w : World_) (h : Sm w.Bodies) : world_validBodies w = some (vbs w.NextID w.Bodies 0 0) := by
  unfold world_validBodies
  simp only [Let_nr]
  refine LOOP_l1 w.Bodies (fun t i p => some (vbs w.NextID t i p)) _ 0 h ?_ ?_
  · intro r i t s hw hc hm hr
    simp only [dlt hc, if_true, hw, Chk_of hc, bodyV, bodyV', Bind_snr, hr, vbs, cond_or, ge_iff_le]
    split <;> rfl
  · intro r s; simp only [dll, ff, if_false, vbs]
def inv4 (v : Vec) (m : Int) : Bool := inb v.X (-m) m && inb v.Y (-m) m
theorem joint_pt_eq (v : Vec) (m : Int) (h : 0 ≤ m ∧ m ≤ 1000000000000) : joint_pointInRange v m = some (inv4 v m) := by
  unfold joint_pointInRange inv4
  have e : IntKind.i64.wrap ((0 : Int) - m) = -m := by rw [wrap_in _ (by omega) (by omega)]; omega
  simp only [Let_nr, joint_in_eq, Bind_snr, Bind_if, e, cond_and, ga1]
def reach (k : Int) : Int := if (k == 5) = true then 268435456 else 1048576
def limR (k : Int) : Int × Int := if (k == 1) = true then (0, 268435456) else if (k == 2) = true then (-205888, 205888) else (-268435456, 268435456)
theorem joint_lim_eq (k : Int) : joint_limitRange k = some (limR k) := by
  unfold joint_limitRange limR; simp only [Let_nr]; split <;> (try split) <;> rfl
def impOk (j : Joint) : Bool := [j.Impulses.fst, j.Impulses.snd.fst, j.Impulses.snd.snd.fst, j.Impulses.snd.snd.snd].all fun x => inb x (-536870911) 536870911
def numOk (j : Joint) : Bool := impOk j && (inb j.ID 1 1099511627776 && inv4 j.AnchorA (reach j.Kind) && inv4 j.AnchorB 1048576 && inb j.ReferenceAngle (-205888) 205887 && inb j.Lower (limR j.Kind).1 (limR j.Kind).2 && inb j.Upper (limR j.Kind).1 (limR j.Kind).2 && decide (j.Lower ≤ j.Upper) && inb j.MotorSpeed (-16777216) 16777216 && inb j.MaxForce 0 536870911 && inb j.Softness 0 536870911 && inb j.BreakForce 0 536870911)
theorem reach_bd (k : Int) : 0 ≤ reach k ∧ reach k ≤ 1000000000000 := by unfold reach; split <;> omega
theorem sm4 (a b c d : Int) : Sm [a, b, c, d] := by unfold Sm; simp
def all4 (fin : Bool) : List Int → Bool
  | [] => fin
  | a :: t => if (!inb a (-536870911) 536870911) = true then false else all4 fin t
theorem all4_eq (fin : Bool) : ∀ l : List Int, all4 fin l = (l.all (fun x => inb x (-536870911) 536870911) && fin)
  | [] => rfl
  | a :: t => by unfold all4; rw [all4_eq fin t]; cases h : inb a (-536870911) 536870911 <;> simp [h]
theorem joint_num_eq (j : Joint) : joint_numbersInRange j = some (numOk j) := by
  unfold joint_numbersInRange numOk impOk
  rw [← all4_eq]
  have h1 : ∀ m : Int, 0 ≤ m ∧ m ≤ 1000000000000 → joint_pointInRange j.AnchorA m = some (inv4 j.AnchorA m) := fun m => joint_pt_eq _ m
  have h2 := joint_pt_eq j.AnchorB 1048576 (by omega)
  have hK : ∀ m : Int, reach j.Kind = m → 0 ≤ m ∧ m ≤ 1000000000000 := fun m h => h ▸ reach_bd _
  by_cases hk : (j.Kind == 5) = true <;> simp only [Join_nr, Let_nr, hk, ff, if_true, if_false, joint_lim_eq, Bind_snr, joint_in_eq, h2, h1 268435456 (by omega), h1 1048576 (by omega), Bind_if, cond_and, ga1, reach]
  all_goals
    refine LOOP_l0 [j.Impulses.fst, j.Impulses.snd.fst, j.Impulses.snd.snd.fst, j.Impulses.snd.snd.snd] (fun t _ => some (all4 _ t)) _ (sm4 _ _ _ _) ?_ ?_
    · intro r i t hw hc hm hr
      have hc4 : (0 : Int) ≤ (i : Int) ∧ (i : Int) < ((4 : Nat) : Int) := hc
      have hd4 : decide ((i : Int) < (4 : Int)) = true := dlt hc
      simp only [hd4, if_true, hw, Chk_of hc4, hr, all4]
      split <;> rfl
    · intro r
      have : decide (([j.Impulses.fst, j.Impulses.snd.fst, j.Impulses.snd.snd.fst, j.Impulses.snd.snd.snd].length : Int) < (4 : Int)) = false := rfl
      simp only [this, ff, if_false, all4]
def jbOk (j : Joint) : Bool := if (j.Kind == 5) = true then (j.BodyA == 0 && inb j.BodyB 1 1099511627776) else (inb j.BodyA 1 1099511627776 && inb j.BodyB 1 1099511627776 && (j.BodyA != j.BodyB))
theorem joint_bod_eq (j : Joint) : joint_validBodies j = some (jbOk j) := by
  unfold joint_validBodies jbOk
  simp only [Let_nr, joint_in_eq, Bind_snr, Bind_if, cond_and, ga1]
  split <;> rfl
def plainA (j : Joint) : Bool := decide (j.Axis.X = 0) && decide (j.Axis.Y = 0)
def jinc (j : Joint) : Bool := if (j.Kind == 3) = true then !inb (GoOld.lenV j.Axis) 65520 65552 else if (j.Kind == 1) = true then (!plainA j || j.EnableMotor || !j.EnableLimit) else if (j.Kind == 4) = true then (!plainA j || j.EnableMotor || j.EnableLimit) else if (j.Kind == 5) = true then (!plainA j || j.EnableMotor || j.EnableLimit) else !plainA j
theorem joint_inc_eq (j : Joint) : joint_inconsistent j = some (jinc j) := by
  unfold joint_inconsistent jinc plainA
  simp only [Let_nr, Join_nr, br_vec2_Length, GoOld.vec2_Length_eq, joint_in_eq, Bind_snr, cond_or]
  repeat' split
  all_goals rfl
def jv (j : Joint) : Int := if (decide (j.Kind < 1) || decide (5 < j.Kind)) = true then 10 else if (!numOk j) = true then 6 else if (!jbOk j) = true then 14 else if jinc j = true then 15 else 0
theorem joint_Val_eq (j : Joint) : joint_Validate j = some (jv j) := by
  unfold joint_Validate jv
  simp only [Let_nr, joint_num_eq, joint_bod_eq, joint_inc_eq, Bind_snr, cond_or, gt_iff_lt]
  repeat' split
  all_goals rfl
end GoForm
set_option linter.all false
set_option maxRecDepth 100000
open Go Go.Rx
namespace GoForm
def jex (w : World_) (j : Joint) : Bool := decide (0 ≤ fb w j.BodyB) && (j.Kind == 5 || decide (0 ≤ fb w j.BodyA))
theorem world_ex_eq (w : World_) (j : Joint) (h : Sm w.Bodies) : world_bodiesExist w j = some (jex w j) := by
  unfold world_bodiesExist jex
  simp only [Let_nr, world_Find_eq w _ h, Bind_snr, Bind_if, cond_and, cond_or, ge_iff_le, ga8]
def jcon (w : World_) (j : Joint) : Bool := (j.BodyA == 0 || decide (0 ≤ fb w j.BodyA)) && (j.BodyB == 0 || decide (0 ≤ fb w j.BodyB))
theorem jv_zero {j : Joint} (h : jv j = 0) : numOk j = true ∧ jbOk j = true ∧ jinc j = false ∧ 1 ≤ j.Kind ∧ j.Kind ≤ 5 := by
  unfold jv at h
  split at h
  · omega
  · split at h
    · omega
    · split at h
      · omega
      · split at h
        · omega
        · simp_all
theorem jex_con {w : World_} {j : Joint} (h : jv j = 0) : jex w j = jcon w j := by
  have h2 := (jv_zero h).2.1
  unfold jbOk inb at h2
  unfold jex jcon
  by_cases hk : j.Kind = 5
  · simp [hk] at h2 ⊢
    have : ¬ j.BodyB = 0 := by omega
    simp [h2.1, this]
  · simp [hk] at h2 ⊢
    have : ¬ j.BodyB = 0 := by omega
    have : ¬ j.BodyA = 0 := by omega
    have e1 : (j.BodyA == 0) = false := by simpa using this
    have e2 : (j.BodyB == 0) = false := by simp; omega
    have e3 : (j.Kind == 5) = false := by simpa using hk
    rw [e1, e2, e3]; simp only [Bool.false_or]; exact Bool.and_comm _ _
def vjs (w : World_) : List Joint → Nat → Int → Bool
  | [], _, _ => true
  | j :: t, i, p => if (jv j != 0 || decide (w.NextID ≤ j.ID) || decide (j.ID ≤ p) || !jcon w j || decide (0 ≤ fb w j.ID)) = true then false else vjs w t (i + 1) j.ID
theorem world_joints_eq (w : World_) (h : Sm w.Joints) (hb : Sm w.Bodies) : world_validJoints w = some (vjs w w.Joints 0 0) := by
  unfold world_validJoints
  simp only [Let_nr]
  refine LOOP_l1 w.Joints (fun t i p => some (vjs w t i p)) _ 0 h ?_ ?_
  · intro r i t s hw hc hm hr
    simp only [dlt hc, if_true, hw, Chk_of hc, joint_Val_eq, world_ex_eq w _ hb, world_Find_eq w _ hb, Bind_snr, Bind_if, hr, vjs, cond_or, ge_iff_le, ga3, ga5]
    by_cases hj : jv (ix w.Joints (i : Int)) = 0
    · rw [jex_con hj]; split <;> rfl
    · simp [hj]
  · intro r s; simp only [dll, ff, if_false, vjs]
end GoForm
set_option linter.all false
set_option maxRecDepth 100000
open Go Go.Rx
namespace GoForm
theorem cmp_nan (x : Int) : cmp_isNaN x = some false := by unfold cmp_isNaN; simp []
def cmpZ (x y : Int) : Int := if x < y then -1 else if y < x then 1 else 0
theorem cmp_eq (x y : Int) : cmp_Compare x y = some (cmpZ x y) := by
  unfold cmp_Compare cmpZ
  simp only [cmp_nan, Bind_snr, ff, if_false, Let_nr, decide_eq_true_eq, gt_iff_lt]
  split
  · rfl
  · split <;> rfl
def orZ : List Int → Int
  | [] => 0
  | a :: t => if (a != 0) = true then a else orZ t
theorem or_eq (l : List Int) (h : Sm l) : cmp_Or l = some (orZ l) := by
  unfold cmp_Or
  simp only [Let_nr]
  refine LOOP_l0 l (fun t _ => some (orZ t)) _ h ?_ ?_
  · intro r i t hw hc hm hr
    simp only [dlt hc, if_true, hw, Chk_of hc, hr, orZ]
    split <;> rfl
  · intro r; simp only [dll, ff, if_false, orZ]
def lessK (a b : PairKey) : Bool := if a.BodyA ≠ b.BodyA then decide (a.BodyA < b.BodyA) else if a.FixtureA ≠ b.FixtureA then decide (a.FixtureA < b.FixtureA) else if a.BodyB ≠ b.BodyB then decide (a.BodyB < b.BodyB) else decide (a.FixtureB < b.FixtureB)
theorem cmpZ_0 (x y : Int) : cmpZ x y = 0 ↔ x = y := by unfold cmpZ; split <;> (try split) <;> omega
theorem cmpZ_n (x y : Int) : cmpZ x y < 0 ↔ x < y := by unfold cmpZ; split <;> (try split) <;> omega
theorem less_eq (a b : PairKey) : broadphase_Less a b = some (lessK a b) := by
  unfold broadphase_Less broadphase_compare lessK
  simp only [cmp_eq, Bind_snr]
  rw [or_eq _ (sm4 _ _ _ _)]
  simp only [Bind_snr, Let_nr, orZ, bne_iff_ne, ne_eq, cmpZ_0]
  by_cases h1 : a.BodyA = b.BodyA
  · by_cases h2 : a.FixtureA = b.FixtureA
    · by_cases h3 : a.BodyB = b.BodyB
      · by_cases h4 : a.FixtureB = b.FixtureB
        · simp [h1, h2, h3, h4]
        · simp [h1, h2, h3, h4, cmpZ_n]
      · simp [h1, h2, h3, cmpZ_n]
    · simp [h1, h2, cmpZ_n]
  · simp [h1, cmpZ_n]
theorem lessK_irr (a : PairKey) : lessK a a = false := by unfold lessK; simp
def okK (k : PairKey) : Bool := decide (k.BodyA < k.BodyB) && decide (0 ≤ k.FixtureA) && decide (k.FixtureA < 4) && decide (0 ≤ k.FixtureB) && decide (k.FixtureB < 4)
theorem valid_eq (k : PairKey) : broadphase_valid k = some (okK k) := by
  unfold broadphase_valid okK; simp only [Let_nr, cond_and, ge_iff_le]
def vks : List PairKey → Nat → PairKey → Bool
  | [], _, _ => true
  | k :: t, i, p => if (!okK k || (decide (0 < (i : Int)) && !lessK p k)) = true then false else vks t (i + 1) k
theorem keq (a b : PairKey) : (decide (a.BodyA = b.BodyA) && (decide (a.FixtureA = b.FixtureA) && (decide (a.BodyB = b.BodyB) && decide (a.FixtureB = b.FixtureB)))) = decide (a = b) := by
  rw [Bool.eq_iff_iff]; cases a; cases b; simp
theorem vk_eq (l : List PairKey) (h : Sm l) : broadphase_ValidKeys l = some (vks l 0 ⟨0, 0, 0, 0⟩) := by
  unfold broadphase_ValidKeys
  simp only [Let_nr, keq]
  refine LOOP_l2 l (fun t i p => some (vks t i p)) _ _ h ?_ ?_
  · intro r i t s hw hc hm hr
    have g : ∀ (c e f a d : Bool), (c || (e && (f || !(if (c == false && e == true && f == false) = true then a else d)))) = (c || (e && (f || !a))) := by intro c e f a d; cases c <;> cases e <;> cases f <;> rfl
    simp only [dlt hc, if_true, hw, Chk_of hc, valid_eq, less_eq, Bind_snr, Bind_if, hr, vks, cond_or, cond_and, gt_iff_lt, g]
    have e : (decide (ix l (i : Int) = s) || !lessK s (ix l (i : Int))) = !lessK s (ix l (i : Int)) := by
      by_cases hh : ix l (i : Int) = s
      · rw [hh, lessK_irr]; simp
      · simp [hh]
    rw [e]; split <;> rfl
  · intro r s; simp only [dll, ff, if_false, vks]
end GoForm
set_option linter.all false
set_option maxRecDepth 100000
open Go Go.Rx
namespace GoForm
theorem ixf_int (l : List Int) (f : Int → Option Bool) (g : Int → Bool) (h : Sm l) (hf : ∀ a ∈ l, f a = some (g a)) : slices_IndexFunc_236 l f = some (idx g l 0) := by
  unfold slices_IndexFunc_236
  simp only [Let_nr]
  refine LOOP_l0 l (fun t i => some (idx g t i)) _ h ?_ ?_
  · intro r i t hw hc hm hr
    simp only [dlt hc, if_true, hw, Chk_of hc, hf _ hm, Bind_snr, hr, idx]
    split <;> rfl
  · intro r; simp only [dll, ff, if_false, idx]
theorem ixf_pt (l : List ContactPoint) (f : ContactPoint → Option Bool) (g : ContactPoint → Bool) (h : Sm l) (hf : ∀ a ∈ l, f a = some (g a)) : slices_IndexFunc_205 l f = some (idx g l 0) := by
  unfold slices_IndexFunc_205
  simp only [Let_nr]
  refine LOOP_l0 l (fun t i => some (idx g t i)) _ h ?_ ?_
  · intro r i t hw hc hm hr
    simp only [dlt hc, if_true, hw, Chk_of hc, hf _ hm, Bind_snr, hr, idx]
    split <;> rfl
  · intro r; simp only [dll, ff, if_false, idx]
theorem ixf_key (l : List PairKey) (f : PairKey → Option Bool) (g : PairKey → Bool) (h : Sm l) (hf : ∀ a ∈ l, f a = some (g a)) : slices_IndexFunc_130 l f = some (idx g l 0) := by
  unfold slices_IndexFunc_130
  simp only [Let_nr]
  refine LOOP_l0 l (fun t i => some (idx g t i)) _ h ?_ ?_
  · intro r i t hw hc hm hr
    simp only [dlt hc, if_true, hw, Chk_of hc, hf _ hm, Bind_snr, hr, idx]
    split <;> rfl
  · intro r; simp only [dll, ff, if_false, idx]
theorem ctf_int (l : List Int) (f : Int → Option Bool) (g : Int → Bool) (h : Sm l) (hf : ∀ a ∈ l, f a = some (g a)) : slices_ContainsFunc_203 l f = some (l.any g) := by
  unfold slices_ContainsFunc_203; simp only [ixf_int l f g h hf, Bind_snr, Let_nr, ge_iff_le, idx_any]
theorem ctf_pt (l : List ContactPoint) (f : ContactPoint → Option Bool) (g : ContactPoint → Bool) (h : Sm l) (hf : ∀ a ∈ l, f a = some (g a)) : slices_ContainsFunc_161 l f = some (l.any g) := by
  unfold slices_ContainsFunc_161; simp only [ixf_pt l f g h hf, Bind_snr, Let_nr, ge_iff_le, idx_any]
theorem ctf_key (l : List PairKey) (f : PairKey → Option Bool) (g : PairKey → Bool) (h : Sm l) (hf : ∀ a ∈ l, f a = some (g a)) : slices_ContainsFunc l f = some (l.any g) := by
  unfold slices_ContainsFunc; simp only [ixf_key l f g h hf, Bind_snr, Let_nr, ge_iff_le, idx_any]
def sat (x : Int) : Bool := inb x (-536870911) 536870911
theorem world_sat_eq (l : List Int) (h : Sm l) : world_saturated l = some (l.all sat) := by
  unfold world_saturated
  show Rx.Bind (slices_ContainsFunc_203 l world_saturated_1) (fun r => Let (!r) fun x => some x) = _
  rw [ctf_int l _ (fun n => !sat n) h (fun a _ => by unfold world_saturated_1 sat; simp only [world_in_eq, Bind_snr, Let_nr])]
  simp only [Bind_snr, Let_nr, List.any_eq_not_all_not, Bool.not_not]
def pOk (p : ContactPoint) : Bool := !decide (p.NormalImpulse < 0) && (sat p.Point.X && (sat p.Point.Y && (sat p.Separation && (sat p.ID && (sat p.NormalImpulse && sat p.TangentImpulse)))))
def mOk (m : Manifold) : Bool := !(decide ((m.Points.length : Int) < 1) || decide (2 < (m.Points.length : Int)) || ((m.Points.length : Int) == 2 && (ix m.Points 0).ID == (ix m.Points 1).ID) || !(sat m.Normal.X && sat m.Normal.Y)) && m.Points.all pOk
theorem world_pt1 (p : ContactPoint) : world_validManifold_1 p = some (!pOk p) := by
  have h6 : ∀ a b c d e f : Int, Sm [a, b, c, d, e, f] := by intros; unfold Sm; simp
  unfold world_validManifold_1 pOk
  simp only [Let_nr, world_sat_eq _ (h6 _ _ _ _ _ _), Bind_if, cond_or, ga3, List.all_cons, List.all_nil, Bool.and_true, Bool.not_and, Bool.not_not]
theorem chkP {l : List ContactPoint} {a : Bool} : ((!a && ((l.length : Int) == 2)) = true → (0 : Int) ≤ (0 : Int) ∧ (0 : Int) < (l.length : Int)) ∧ ((!a && ((l.length : Int) == 2)) = true → (0 : Int) ≤ (1 : Int) ∧ (1 : Int) < (l.length : Int)) := by
  constructor <;> intro h <;> simp at h <;> omega
theorem world_man_eq (m : Manifold) (h : Sm m.Points) : world_validManifold m = some (mOk m) := by
  have h2 : ∀ a b : Int, Sm [a, b] := by intros; unfold Sm; simp
  have hg : ∀ a b : Bool, (a == false && b == true) = (!a && b) := by intro a b; cases a <;> cases b <;> rfl
  unfold world_validManifold mOk
  simp only [Let_nr, hg]
  rw [Chk_of chkP.1, Chk_of chkP.2]
  simp only [world_sat_eq _ (h2 _ _), Bind_if, cond_or, cond_and, ga3, List.all_cons, List.all_nil, Bool.and_true, gt_iff_lt]
  rw [ctf_pt m.Points _ (fun p => !pOk p) h (fun p _ => world_pt1 p)]
  simp only [Bind_snr, List.any_eq_not_all_not, Bool.not_not]
  generalize (decide ((m.Points.length : Int) < 1) || decide (2 < (m.Points.length : Int)) || ((m.Points.length : Int) == 2 && (ix m.Points 0).ID == (ix m.Points 1).ID) || !(sat m.Normal.X && sat m.Normal.Y)) = c
  cases c <;> simp
end GoForm
set_option linter.all false
set_option maxRecDepth 100000
open Go Go.Rx
namespace GoForm
def exw (w : World_) (id n : Int) : Bool := decide (0 ≤ fb w id) && decide (0 ≤ n) && decide (n < ((ix w.Bodies (fb w id)).Fixtures.length : Int))
def exk (w : World_) (k : PairKey) : Bool := exw w k.BodyA k.FixtureA && exw w k.BodyB k.FixtureB
theorem world_fix_eq (w : World_) (k : PairKey) (h : Sm w.Bodies) (hk : okK k = true) : world_fixturesExist w k = some (exk w k) := by
  unfold world_fixturesExist exk exw
  simp only [Let_nr, world_Find_eq w _ h, Bind_snr, ge_iff_le, cond_and]
  have h1 := fb_bd w k.BodyA
  have h2 := fb_bd w k.BodyB
  rw [Chk_of (by intro hh; simp at hh; omega), Chk_of (by intro hh; simp at hh; omega)]
  refine congrArg some ?_
  unfold okK at hk; simp at hk
  rw [Bool.eq_iff_iff]; simp; omega
theorem concat_eq (a b : List PairKey) (ha : a.length ≤ 10000) (hb : b.length ≤ 10000) : slices_Concat [a, b] = some (a ++ b) := by
  obtain ⟨n, hn⟩ : ∃ n, fuel = n + 3 := ⟨2 ^ 70 - 3, rfl⟩
  have w1 : IntKind.i64.wrap ((0 : Int) + (a.length : Int)) = (a.length : Int) := by rw [wrap_in _ (by omega) (by omega)]; omega
  have w2 : IntKind.i64.wrap ((a.length : Int) + (b.length : Int)) = (a.length : Int) + (b.length : Int) := wrap_in _ (by omega) (by omega)
  have w3 : IntKind.i64.wrap ((0 : Int) + (1 : Int)) = 1 := rfl
  have w4 : IntKind.i64.wrap ((1 : Int) + (1 : Int)) = 2 := rfl
  have w5 : IntKind.i64.wrap ((0 : Int) - (0 : Int)) = 0 := rfl
  have w6 : IntKind.i64.wrap ((a.length : Int) + (b.length : Int) - 0) = (a.length : Int) + (b.length : Int) := by rw [wrap_in _ (by omega) (by omega)]; omega
  have x0 : ix [a, b] (0 : Int) = a := rfl
  have x1 : ix [a, b] (1 : Int) = b := rfl
  have l2 : (([a, b] : List (List PairKey)).length : Int) = 2 := rfl
  have d0 : decide ((0 : Int) < 2) = true := rfl
  have d1 : decide ((1 : Int) < 2) = true := rfl
  have d2 : decide ((2 : Int) < 2) = false := rfl
  have e1 : decide ((a.length : Int) < 0) = false := decide_eq_false (by omega)
  have e2 : decide ((a.length : Int) + (b.length : Int) < 0) = false := decide_eq_false (by omega)
  have c0 : (0 : Int) ≤ (0 : Int) ∧ (0 : Int) < 2 := by omega
  have c1 : (0 : Int) ≤ (1 : Int) ∧ (1 : Int) < 2 := by omega
  have inner : ∀ v : List PairKey, v = [] → LOOP (fun (rec688 : List PairKey × Int → Option (List PairKey)) (s689 : List PairKey × Int) =>
      if decide (s689.snd < (2 : Int)) = true then Chk ((0 : Int) ≤ s689.snd ∧ s689.snd < (2 : Int))
      (Chk ((List.length s689.fst + (ix [a, b] s689.snd).length) * (32 : Nat) ≤ (140737488355328 : Nat)) (rec688 (s689.fst ++ ix [a, b] s689.snd, IntKind.i64.wrap (s689.snd + (1 : Int))))) else some s689.fst) (n + 3) (v, (0 : Int)) = some (a ++ b) := by
    intro v hv; subst hv
    have b1 : (List.length ([] : List PairKey) + a.length) * 32 ≤ 140737488355328 := by simp; omega
    have b2 : (a.length + b.length) * 32 ≤ 140737488355328 := by omega
    simp only [LOOP_s, d0, d1, d2, if_true, ff, if_false, Chk_of c0, Chk_of c1, x0, x1, w3, w4, Chk_of b1, List.nil_append, Chk_of b2]
  unfold slices_Concat
  rw [hn]
  simp only [Let_nr, Join_nr, l2]
  rw [LOOP_s]
  simp only [d0, if_true, Chk_of c0, x0, w1, e1, ff, if_false, w3]
  rw [LOOP_s]
  simp only [d1, if_true, Chk_of c1, x1, w2, e2, ff, if_false, w4]
  rw [LOOP_s]
  simp only [d2, ff, if_false, e2, w5, w6]
  by_cases hz : (a.length : Int) + (b.length : Int) > 0
  · rw [if_pos (decide_eq_true hz)]
    rw [Chk_true, Chk_of ⟨hz, by omega, by omega⟩, Chk_of (by simp), Chk_of (by simp)]
    exact inner _ (by simp)
  · rw [if_neg (by simpa using hz)]
    exact inner _ rfl
end GoForm
set_option linter.all false
set_option maxRecDepth 100000
open Go Go.Rx
namespace GoForm
structure Few (w : World_) : Prop where
  bodies : w.Bodies.length ≤ 40
  joints : w.Joints.length ≤ 40
  contacts : w.Contacts.length ≤ 80
  overlaps : w.Overlaps.length ≤ 80
  points : ∀ c ∈ w.Contacts, c.Manifold.Points.length ≤ 8
  fixtures : ∀ b ∈ w.Bodies, b.Fixtures.length ≤ 8
  vertices : ∀ b ∈ w.Bodies, ∀ f ∈ b.Fixtures, f.Shape.Vertices.length ≤ 20
theorem Few.sb {w : World_} (h : Few w) : Sm w.Bodies := sm_of h.bodies (by omega)
theorem Few.sj {w : World_} (h : Few w) : Sm w.Joints := sm_of h.joints (by omega)
theorem Few.sc {w : World_} (h : Few w) : Sm w.Contacts := sm_of h.contacts (by omega)
theorem Few.so {w : World_} (h : Few w) : Sm w.Overlaps := sm_of h.overlaps (by omega)
def keysOf (w : World_) : List PairKey := w.Contacts.map (·.Key)
def k0 : PairKey := ⟨0, 0, 0, 0⟩
def cOk (w : World_) : Bool := w.Contacts.all (fun c => mOk c.Manifold) && (vks (keysOf w) 0 k0 && vks w.Overlaps 0 k0 && ((keysOf w).all (exk w) && w.Overlaps.all (exk w)))
theorem vks_ok : ∀ (l : List PairKey) (i : Nat) (p : PairKey), vks l i p = true → ∀ k ∈ l, okK k = true
  | [], _, _, _, _, h => by simp at h
  | a :: t, i, p, h, k, hk => by
    unfold vks at h
    split at h
    · exact absurd h (by simp)
    · rename_i hh
      rcases List.mem_cons.1 hk with e | e
      · subst e; simp at hh; exact hh.1
      · exact vks_ok t _ _ h k e
def vcs (fin : List PairKey → Bool) : List Contact → List PairKey → Bool
  | [], s => fin s
  | c :: t, s => if (!mOk c.Manifold) = true then false else vcs fin t (s ++ [c.Key])
theorem vcs_eq (fin : List PairKey → Bool) : ∀ (l : List Contact) (s : List PairKey), vcs fin l s = (l.all (fun c => mOk c.Manifold) && fin (s ++ l.map (·.Key)))
  | [], s => by simp [vcs]
  | c :: t, s => by unfold vcs; rw [vcs_eq fin t]; cases h : mOk c.Manifold <;> simp [h]
theorem world_con_eq (w : World_) (h : Few w) : world_validContacts w = some (cOk w) := by
  have hf : ∀ s : List PairKey, s.length ≤ 80 → (Rx.Bind (broadphase_ValidKeys s) fun (r726 : Bool) =>
      Rx.Bind (if ((!r726) == false) = true then broadphase_ValidKeys w.Overlaps else some default) fun (r728 : Bool) =>
      if (bif !r726 then true else !r728) = true then some false
      else
      Rx.Bind (slices_Concat [s, w.Overlaps]) fun (r731 : List PairKey) =>
      Rx.Bind (slices_ContainsFunc r731 fun a => world_validContacts_1 a w) fun (r732 : Bool) => some !r732) = some (vks s 0 k0 && vks w.Overlaps 0 k0 && (s.all (exk w) && w.Overlaps.all (exk w))) := by
    intro s hs
    simp only [vk_eq s (sm_of hs (by omega)), vk_eq _ h.so, Bind_snr, Bind_if, cond_or, ga3]
    show (if (!vks s 0 k0 || !vks w.Overlaps 0 k0) = true then some false else _) = _
    cases h1 : vks s 0 k0
    · rfl
    · cases h2 : vks w.Overlaps 0 k0
      · rfl
      · simp only [Bool.not_true, Bool.or_false, ff, if_false, Bool.true_and]
        rw [concat_eq s w.Overlaps (by omega) (by have := h.overlaps; omega), Bind_snr]
        rw [ctf_key (s ++ w.Overlaps) _ (fun k => !exk w k) (sm_of (n := 200) (by have := h.overlaps; simp; omega) (by omega))]
        · rw [Bind_snr, List.any_append, List.any_eq_not_all_not, List.any_eq_not_all_not]
          simp only [Bool.not_not, Bool.not_or]
        · intro k hk
          have : okK k = true := by
            rcases List.mem_append.1 hk with e | e
            · exact vks_ok _ _ _ h1 k e
            · exact vks_ok _ _ _ h2 k e
          unfold world_validContacts_1
          rw [world_fix_eq w k h.sb this, Bind_snr, Let_nr]
  unfold world_validContacts
  simp only [Let_nr]
  have hc0 : cOk w = vcs (fun s => vks s 0 k0 && vks w.Overlaps 0 k0 && (s.all (exk w) && w.Overlaps.all (exk w))) w.Contacts [] := by rw [vcs_eq]; rfl
  rw [hc0]
  refine (LOOP_i w.Contacts (fun i s => s.length = i) (fun t _ s => some (vcs (fun s => vks s 0 k0 && vks w.Overlaps 0 k0 && (s.all (exk w) && w.Overlaps.all (exk w))) t s)) _ _ h.sc rfl ?_ ?_)
  · intro r i t s hp hw hc hm hr
    have hl := h.contacts
    have hp2 : (s ++ [(ix w.Contacts (i : Int)).Key]).length = i + 1 := by simp [hp]
    have hb : (List.length s + [(ix w.Contacts (i : Int)).Key].length) * 32 ≤ 140737488355328 := by simp [hp]; omega
    simp only [dlt hc, if_true, hw, Chk_of hc, Chk_of hb, world_man_eq _ (sm_of (h.points _ hm) (by omega)), Bind_snr, hr _ hp2, vcs]
    split <;> rfl
  · intro r s hp
    have hl := h.contacts
    simp only [dll, ff, if_false]
    exact hf s (by omega)
def wv (w : World_) : Int := if (vset w.Settings != 0) = true then 17 else if (decide (32 < (w.Bodies.length : Int)) || decide (32 < (w.Joints.length : Int)) || decide (8192 < (w.Contacts.length : Int)) || decide (8192 < (w.Overlaps.length : Int))) = true then 11 else if (!inb w.NextID 1 1099511627776 || !inb w.Frame 0 1099511627776) = true then 6 else if (!vbs w.NextID w.Bodies 0 0) = true then 14 else if (!vjs w w.Joints 0 0) = true then 15 else if (!cOk w) = true then 16 else 0
theorem world_Val_eq (w : World_) (h : Few w) : world_Validate w = some (wv w) := by
  unfold world_Validate wv
  simp only [Let_nr, world_set_eq, world_in_eq, world_bodies_eq w h.sb, world_joints_eq w h.sj h.sb, world_con_eq w h, Bind_snr, Bind_if, cond_or, ga3, gt_iff_lt]
  repeat' split
  all_goals rfl
end GoForm
set_option linter.all false
set_option maxRecDepth 100000
open Go Go.Rx
namespace GoForm
theorem cloneB (l : List Body) (h : l.length ≤ 100000) : slices_Clone l = some l := by
  unfold slices_Clone; rw [Alike_of (by intro h; subst h; rfl), Chk_of (by omega)]
theorem cloneV (l : List Vec) (h : l.length ≤ 100000) : slices_Clone_158 l = some l := by
  unfold slices_Clone_158; rw [Alike_of (by intro h; subst h; rfl), Chk_of (by omega)]
theorem cloneJ (l : List Joint) (h : l.length ≤ 100000) : slices_Clone_107 l = some l := by
  unfold slices_Clone_107; rw [Alike_of (by intro h; subst h; rfl), Chk_of (by omega)]
theorem cloneC (l : List Contact) (h : l.length ≤ 100000) : slices_Clone_108 l = some l := by
  unfold slices_Clone_108; rw [Alike_of (by intro h; subst h; rfl), Chk_of (by omega)]
theorem cloneK (l : List PairKey) (h : l.length ≤ 100000) : slices_Clone_109 l = some l := by
  unfold slices_Clone_109; rw [Alike_of (by intro h; subst h; rfl), Chk_of (by omega)]
theorem cloneP (l : List ContactPoint) (h : l.length ≤ 100000) : slices_Clone_159 l = some l := by
  unfold slices_Clone_159; rw [Alike_of (by intro h; subst h; rfl), Chk_of (by omega)]
def SmB (b : Body) : Prop := b.Fixtures.length ≤ 10000 ∧ ∀ f ∈ b.Fixtures, f.Shape.Vertices.length ≤ 10000
theorem Few.smb {w : World_} (h : Few w) : ∀ b ∈ w.Bodies, SmB b := fun b hb => ⟨Nat.le_trans (h.fixtures b hb) (by omega), fun f hf => Nat.le_trans (h.vertices b hb f hf) (by omega)⟩
theorem body_Clone_eq (b : Body) (h : SmB b) : body_Clone b = some b := by
  unfold body_Clone
  simp only [Let_nr]
  refine (LOOP_i b.Fixtures (fun i s => s.length = i) (fun t _ s => some { b with Fixtures := s ++ t }) _ [] (sm_of h.1 (by omega)) rfl ?_ ?_)
  · intro r i t s hp hw hc hm hr
    have hl := h.1
    have hp2 : ∀ f : Fixture, (s ++ [f]).length = i + 1 := by intro f; simp [hp]
    have hb : ∀ f : Fixture, (List.length s + [f].length) * 96 ≤ 140737488355328 := by intro f; simp [hp]; omega
    have hsh : shape_Clone (ix b.Fixtures (i : Int)).Shape = some (ix b.Fixtures (i : Int)).Shape := by
      unfold shape_Clone; rw [cloneV _ (Nat.le_trans (h.2 _ hm) (by omega))]; rfl
    simp only [dlt hc, if_true, hw, Chk_of hc, hsh, Bind_snr, Chk_of (hb _), hr _ (hp2 _), List.append_assoc, List.singleton_append]
  · intro r s hp; simp only [dll, ff, if_false, List.append_nil]
theorem man_Clone_eq (m : Manifold) (h : m.Points.length ≤ 100000) : manifold_Clone m = some m := by
  unfold manifold_Clone; rw [cloneP _ h]; rfl
structure SmW (w : World_) : Prop where
  bodies : w.Bodies.length ≤ 10000
  joints : w.Joints.length ≤ 10000
  contacts : w.Contacts.length ≤ 10000
  overlaps : w.Overlaps.length ≤ 10000
  points : ∀ c ∈ w.Contacts, c.Manifold.Points.length ≤ 10000
  body : ∀ b ∈ w.Bodies, SmB b
theorem Few.smw {w : World_} (h : Few w) : SmW w := ⟨Nat.le_trans h.bodies (by omega), Nat.le_trans h.joints (by omega), Nat.le_trans h.contacts (by omega), Nat.le_trans h.overlaps (by omega), fun c hc => Nat.le_trans (h.points c hc) (by omega), h.smb⟩
theorem world_Clone_eq (w : World_) (h : SmW w) : world_Clone w = some w := by
  unfold world_Clone
  simp only [cloneB _ (Nat.le_trans h.bodies (by omega)), cloneJ _ (Nat.le_trans h.joints (by omega)), cloneC _ (Nat.le_trans h.contacts (by omega)), cloneK _ (Nat.le_trans h.overlaps (by omega)), Bind_snr, Let_nr]
  refine (LOOP_j w.Bodies (fun _ s => s = w.Bodies) (fun _ _ _ => some w) _ _ (sm_of h.bodies (by omega)) rfl ?_ ?_)
  · intro r i t s hp hw hc hm hr
    subst hp
    have e : List.set w.Bodies (Int.toNat (i : Int)) (ix w.Bodies (i : Int)) = w.Bodies := set_ix _ _
    simp only [dlt hc, if_true, hw, Chk_of hc, body_Clone_eq _ (h.body _ hm), Bind_snr, e, hr _ rfl]
  · intro r s hp
    subst hp
    simp only [dll, ff, if_false]
    refine (LOOP_j w.Contacts (fun _ s => s = w.Contacts) (fun _ _ _ => some w) _ _ (sm_of h.contacts (by omega)) rfl ?_ ?_)
    · intro r i t s hp hw hc hm hr
      subst hp
      have e : List.set w.Contacts (Int.toNat (i : Int)) { Key := (ix w.Contacts (i : Int)).Key, Manifold := (ix w.Contacts (i : Int)).Manifold : Contact } = w.Contacts := set_ix _ _
      simp only [dlt hc, if_true, hw, Chk_of hc, man_Clone_eq _ (Nat.le_trans (h.points _ hm) (by omega)), Bind_snr, e, hr _ rfl]
    · intro r s hp; subst hp; simp only [dll, ff, if_false]
def zeroW : World_ := { Settings := { TimeStep := 0, Gravity := { X := 0, Y := 0 }, Iterations := 0, SleepSteps := 0 }, Bodies := [], Joints := [], Contacts := [], Overlaps := [], NextID := 0, Frame := 0 }
def addW (w : World_) (b : Body) : World_ × Int × Int :=
  if (decide (32 ≤ (w.Bodies.length : Int)) || decide (1099511627776 ≤ w.NextID)) = true then (zeroW, 0, 9)
  else if (GoOld.validB { b with ID := w.NextID } != 0) = true then (zeroW, 0, 14)
  else ({ w with Bodies := w.Bodies ++ [{ b with ID := w.NextID }], NextID := IntKind.i64.wrap (w.NextID + 1) }, w.NextID, 0)
theorem world_Add_eq (w : World_) (b : Body) (h : SmW w) (hb : SmB b) : world_AddBody w b = some (addW w b) := by
  have hl := h.bodies
  have hc : ∀ x : Body, (w.Bodies.length + [x].length) * 152 ≤ 140737488355328 := by intro x; simp; omega
  unfold world_AddBody addW
  simp only [Let_nr, body_Clone_eq b hb, bodyV, bodyV', world_Clone_eq w h, Bind_snr, cond_or, ge_iff_le, Chk_of (hc _)]
  split
  · rfl
  · split <;> rfl
end GoForm
set_option linter.all false
set_option maxRecDepth 100000
open Go Go.Rx
namespace GoForm
def fewB (b : Body) : Bool := decide ((b.Fixtures.length : Int) ≤ 8) && b.Fixtures.all (fun f => decide ((f.Shape.Vertices.length : Int) ≤ 20))
def allF {X : Type} (fin bad : X) : List Fixture → X
  | [] => fin
  | f :: t => if decide ((f.Shape.Vertices.length : Int) > 20) = true then bad else allF fin bad t
theorem allF_eq {X : Type} (fin bad : X) : ∀ l : List Fixture, allF fin bad l = if l.all (fun f => decide ((f.Shape.Vertices.length : Int) ≤ 20)) = true then fin else bad
  | [] => rfl
  | f :: t => by
    unfold allF; rw [allF_eq fin bad t]
    by_cases h : (f.Shape.Vertices.length : Int) > 20
    · have : decide ((f.Shape.Vertices.length : Int) ≤ 20) = false := decide_eq_false (by omega)
      simp only [h, decide_true, if_true, List.all_cons, this, Bool.false_and, ff, if_false]
    · have : decide ((f.Shape.Vertices.length : Int) ≤ 20) = true := decide_eq_true (by omega)
      simp only [decide_eq_false h, ff, if_false, List.all_cons, this, Bool.true_and]
def allB : List Body → Bool
  | [] => true
  | b :: t => if decide ((b.Fixtures.length : Int) > 8) = true then false else if b.Fixtures.all (fun f => decide ((f.Shape.Vertices.length : Int) ≤ 20)) = true then allB t else false
theorem allB_eq : ∀ l : List Body, allB l = l.all fewB
  | [] => rfl
  | b :: t => by
    unfold allB fewB; rw [allB_eq t]
    by_cases h : (b.Fixtures.length : Int) > 8
    · have : decide ((b.Fixtures.length : Int) ≤ 8) = false := decide_eq_false (by omega)
      simp only [h, decide_true, if_true, List.all_cons, this, Bool.false_and]
    · have : decide ((b.Fixtures.length : Int) ≤ 8) = true := decide_eq_true (by omega)
      simp only [decide_eq_false h, ff, if_false, List.all_cons, this, Bool.true_and]
      cases b.Fixtures.all (fun f => decide ((f.Shape.Vertices.length : Int) ≤ 20)) <;> rfl
theorem ref22_Few_eq (l : List Body) (n : Nat) (hn : n ≤ 10000) : caromref22_Few l (n : Int) = some (decide ((l.length : Int) ≤ (n : Int)) && l.all fewB) := by
  unfold caromref22_Few
  simp only [Let_nr]
  by_cases h : (l.length : Int) > (n : Int)
  · have : decide ((l.length : Int) ≤ (n : Int)) = false := decide_eq_false (by omega)
    simp only [h, decide_true, if_true, this, Bool.false_and]
  · have hh : decide ((l.length : Int) ≤ (n : Int)) = true := decide_eq_true (by omega)
    simp only [decide_eq_false h, ff, if_false, hh, Bool.true_and]
    rw [← allB_eq]
    refine LOOP_l0 l (fun t _ => some (allB t)) _ (sm_of (n := 10000) (by omega) (by omega)) ?_ ?_
    · intro r i t hw hc hm hr
      simp only [dlt hc, if_true, Chk_of hc, allB]
      by_cases h8 : ((ix l (i : Int)).Fixtures.length : Int) > 8
      · simp only [h8, decide_true, if_true]
      · simp only [decide_eq_false h8, ff, if_false]
        refine (LOOP_l0 (ix l (i : Int)).Fixtures (fun t _ => allF (r ((i : Int) + 1)) (some false) t) _ (sm_of (n := 8) (by omega) (by omega)) ?_ ?_).trans ?_
        · intro r2 j u hw2 hc2 hm2 hr2
          simp only [dlt hc2, if_true, Chk_of hc2, hw2, hr2, allF]
        · intro r2; simp only [dll, ff, if_false, hw, allF]
        · rw [allF_eq, hr]; split <;> rfl
    · intro r; simp only [dll, ff, if_false, allB]
def few (w : World_) : Bool := decide ((w.Joints.length : Int) ≤ 40) && decide ((w.Contacts.length : Int) ≤ 80) && decide ((w.Overlaps.length : Int) ≤ 80) && (decide ((w.Bodies.length : Int) ≤ 40) && w.Bodies.all fewB) && w.Contacts.all (fun c => decide ((c.Manifold.Points.length : Int) ≤ 8))
def allC : List Contact → Bool
  | [] => true
  | c :: t => if decide ((c.Manifold.Points.length : Int) > 8) = true then false else allC t
theorem allC_eq : ∀ l : List Contact, allC l = l.all (fun c => decide ((c.Manifold.Points.length : Int) ≤ 8))
  | [] => rfl
  | c :: t => by
    unfold allC; rw [allC_eq t]
    by_cases h : (c.Manifold.Points.length : Int) > 8
    · have : decide ((c.Manifold.Points.length : Int) ≤ 8) = false := decide_eq_false (by omega)
      simp only [h, decide_true, if_true, List.all_cons, this, Bool.false_and]
    · have : decide ((c.Manifold.Points.length : Int) ≤ 8) = true := decide_eq_true (by omega)
      simp only [decide_eq_false h, ff, if_false, List.all_cons, this, Bool.true_and]
theorem ref25_Few_eq (w : World_) : caromref25_Few w = some (few w) := by
  have hB := ref22_Few_eq w.Bodies 40 (by omega)
  have e1 : decide ((w.Joints.length : Int) > 40) = !decide ((w.Joints.length : Int) ≤ 40) := by rw [Bool.eq_iff_iff]; simp
  have e2 : decide ((w.Contacts.length : Int) > 80) = !decide ((w.Contacts.length : Int) ≤ 80) := by rw [Bool.eq_iff_iff]; simp
  have e3 : decide ((w.Overlaps.length : Int) > 80) = !decide ((w.Overlaps.length : Int) ≤ 80) := by rw [Bool.eq_iff_iff]; simp
  have hB' : caromref22_Few w.Bodies (40 : Int) = some (decide ((w.Bodies.length : Int) ≤ 40) && w.Bodies.all fewB) := hB
  unfold caromref25_Few few
  simp only [Let_nr, hB', Bind_if, cond_or, ga3, e1, e2, e3]
  by_cases hc : (w.Contacts.length : Int) ≤ 80
  · have hL : LOOP (fun (rec32 : Int → Option Bool) (s33 : Int) =>
        if decide (s33 < (w.Contacts.length : Int)) = true then Chk ((0 : Int) ≤ s33 ∧ s33 < (w.Contacts.length : Int))
        (if decide (((ix w.Contacts s33).Manifold.Points.length : Int) > 8) = true then some false else rec32 (IntKind.i64.wrap (s33 + (1 : Int)))) else some true) fuel (0 : Int) = some (w.Contacts.all (fun c => decide ((c.Manifold.Points.length : Int) ≤ 8))) := by
      rw [← allC_eq]
      refine LOOP_l0 w.Contacts (fun t _ => some (allC t)) _ (sm_of (n := 80) (by omega) (by omega)) ?_ ?_
      · intro r i t hw hc hm hr
        simp only [dlt hc, if_true, Chk_of hc, hw, hr, allC]
        split <;> rfl
      · intro r; simp only [dll, ff, if_false, allC]
    rw [hL]
    generalize decide ((w.Joints.length : Int) ≤ 40) = b1
    generalize decide ((w.Contacts.length : Int) ≤ 80) = b2
    generalize decide ((w.Overlaps.length : Int) ≤ 80) = b3
    generalize decide ((w.Bodies.length : Int) ≤ 40) = b4
    generalize w.Bodies.all fewB = b5
    cases b1 <;> cases b2 <;> cases b3 <;> cases b4 <;> cases b5 <;> rfl
  · have e : decide ((w.Contacts.length : Int) ≤ 80) = false := decide_eq_false hc
    simp only [e, Bool.not_false, Bool.or_true, Bool.true_or, if_true, Bool.and_false, Bool.false_and]
theorem few_Few {w : World_} (h : few w = true) : Few w := by
  unfold few fewB at h
  simp only [Bool.and_eq_true, decide_eq_true_eq, List.all_eq_true] at h
  obtain ⟨⟨⟨⟨h1, h2⟩, h3⟩, h4, h5⟩, h6⟩ := h
  exact ⟨by omega, by omega, by omega, by omega, fun c hc => by have := h6 c hc; omega, fun b hb => by have := (h5 b hb).1; omega, fun b hb f hf => by have := (h5 b hb).2 f hf; omega⟩
def nilW (s : Settings) (n : Int) : World_ := { Settings := s, Bodies := [], Joints := [], Contacts := [], Overlaps := [], NextID := n, Frame := 0 }
theorem nilW_few (s : Settings) (n : Int) : Few (nilW s n) := ⟨by unfold nilW; simp, by unfold nilW; simp, by unfold nilW; simp, by unfold nilW; simp, by unfold nilW; simp, by unfold nilW; simp, by unfold nilW; simp⟩
end GoForm
set_option linter.all false
set_option maxRecDepth 100000
open Go Go.Rx
namespace GoForm
theorem fixok {b : Body} (h : SmB b) : GoOld.FixOk b := ⟨Nat.le_trans h.1 (by omega), fun f hf => Nat.le_trans (h.2 f hf) (by omega)⟩
theorem body_Equal_eq' (a b : Body) (h : SmB a) : body_Equal a b = some (decide (a = b)) := by rw [br_body_Equal, GoOld.body_Equal_eq a b (fixok h)]
def fj (w : World_) (id : Int) : Int := idx (fun b : Joint => b.ID == id) w.Joints 0
theorem world_FindJ_eq (w : World_) (id : Int) (h : Sm w.Joints) : world_FindJoint w id = some (fj w id) := by
  unfold world_FindJoint slices_IndexFunc_128 fj
  simp only [Let_nr]
  rw [show LOOP _ fuel (0 : Int) = _ from LOOP_l0 w.Joints (fun t i => some (idx (fun b : Joint => b.ID == id) t i)) _ h ?_ ?_]
  · exact Bind_snr _ _
  · intro r i t hw hc hm hr
    simp only [dlt hc, if_true, hw, Chk_of hc, world_FindJoint_1, Let_nr, Bind_snr, hr, idx]
    split <;> rfl
  · intro r; simp only [dll, ff, if_false, idx]
end GoForm


set_option linter.all false
set_option maxRecDepth 100000
open Go Go.Rx

namespace GoForm
theorem idx_shift {α : Type} (q : α → Bool) (l : List α) (i : Nat) (x : α) (h : q x = false) : idx q (x :: l) i = idx q l (i + 1) := by
  rw [idx, if_neg (by rw [h]; decide)]
theorem LOOP_findN {α X : Type} [Inhabited α] (l : List α) (q : α → Bool) (R : Option X) (step : (Int → Option X) → Int → Option X) (hl : Sm l)
    (hs1 : ∀ (r : Int → Option X) (i : Nat), IntKind.i64.wrap ((i : Int) + 1) = (i : Int) + 1 → (0 ≤ (i : Int) ∧ (i : Int) < (l.length : Int)) → q (ix l (i : Int)) = false → step r (i : Int) = r ((i : Int) + 1))
    (hs2 : ∀ (r : Int → Option X) (i : Nat), (0 ≤ (i : Int) ∧ (i : Int) < (l.length : Int)) → idx q l 0 = (i : Int) → q (ix l (i : Int)) = true → step r (i : Int) = R)
    (he : ∀ (r : Int → Option X), idx q l 0 = -1 → step r (l.length : Int) = R) :
    ∀ (n i : Nat), i ≤ l.length → l.length - i < n → idx q (l.drop i) i = idx q l 0 → LOOP step n (i : Int) = R
  | 0, i, _, h, _ => by omega
  | n + 1, i, h1, h2, h3 => by
    rw [LOOP_s]
    by_cases h : i < l.length
    · have hd := drop_ix l i h
      rw [hd] at h3
      cases hq : q (ix l (i : Int))
      · rw [hs1 _ i (w64_s i (by unfold Sm at hl; omega)) ⟨by omega, by omega⟩ hq]
        rw [idx_shift q _ _ _ hq] at h3
        exact LOOP_findN l q R step hl hs1 hs2 he n (i + 1) (by omega) (by omega) h3
      · rw [idx, if_pos hq] at h3
        exact hs2 _ i ⟨by omega, by omega⟩ h3.symm hq
    · have e : i = l.length := by omega
      subst e
      rw [List.drop_length] at h3
      exact he _ h3.symm
theorem LOOP_findR {α X : Type} [Inhabited α] (l : List α) (q : α → Bool) (R : Option X) (step : (Int → Option X) → Int → Option X) (hl : Sm l)
    (hs1 : ∀ (r : Int → Option X) (i : Nat), IntKind.i64.wrap ((i : Int) + 1) = (i : Int) + 1 → (0 ≤ (i : Int) ∧ (i : Int) < (l.length : Int)) → q (ix l (i : Int)) = false → step r (i : Int) = r ((i : Int) + 1))
    (hs2 : ∀ (r : Int → Option X) (i : Nat), (0 ≤ (i : Int) ∧ (i : Int) < (l.length : Int)) → idx q l 0 = (i : Int) → q (ix l (i : Int)) = true → step r (i : Int) = R)
    (he : ∀ (r : Int → Option X), idx q l 0 = -1 → step r (l.length : Int) = R) : LOOP step fuel (0 : Int) = R :=
  LOOP_findN l q R step hl hs1 hs2 he fuel 0 (Nat.zero_le _) (by unfold Sm at hl; have : fuel = 2 ^ 70 := rfl; omega) (by simp)
theorem idx_none {α : Type} (q : α → Bool) (l : List α) (h : idx q l 0 = -1) : l.filter (fun x => !q x) = l := by
  have h2 := idx_any q l 0
  rw [h] at h2
  have h3 : l.any q = false := by rw [← h2]; rfl
  rw [List.filter_eq_self]
  intro a ha
  rw [List.any_eq_false] at h3
  have := h3 a ha
  simpa using this
theorem idx_first {α : Type} [Inhabited α] (q : α → Bool) : ∀ (l : List α) (i k : Nat), idx q l i = (k : Int) → i ≤ k ∧ k - i < l.length ∧ q (ix l ((k - i : Nat) : Int)) = true ∧ (l.take (k - i)).filter (fun x => !q x) = l.take (k - i)
  | [], i, k, h => by simp [idx] at h
  | a :: l, i, k, h => by
    cases hq : q a
    · rw [idx_shift q _ _ _ hq] at h
      obtain ⟨h1, h2, h3, h4⟩ := idx_first q l (i + 1) k h
      have e : k - i = (k - (i + 1)) + 1 := by omega
      refine ⟨by omega, by simp; omega, ?_, ?_⟩
      · rw [e]; exact h3
      · rw [e, List.take_succ_cons, List.filter_cons_of_pos (by simp [hq]), h4]
    · rw [idx, if_pos hq] at h
      have : k = i := by omega
      subst this
      rw [Nat.sub_self]
      exact ⟨Nat.le_refl _, by simp, hq, by simp⟩
theorem LOOP_delN {α X : Type} [Inhabited α] (l : List α) (q : α → Bool) (R : Option X) (step : (Int × Int × List α → Option X) → Int × Int × List α → Option X) (hl : Sm l)
    (hs : ∀ (r : Int × Int × List α → Option X) (i j : Nat) (s : List α), IntKind.i64.wrap ((i : Int) + 1) = (i : Int) + 1 → IntKind.i64.wrap ((j : Int) + 1) = (j : Int) + 1 → i < j → j < s.length → s.length = l.length → step r ((i : Int), (j : Int), s) = if q (ix s (j : Int)) = true then r ((i : Int), (j : Int) + 1, s) else r ((i : Int) + 1, (j : Int) + 1, s.set i (ix s (j : Int))))
    (he : ∀ (r : Int × Int × List α → Option X) (i : Nat) (s : List α), i < s.length → s.length = l.length → s.take i = l.filter (fun x => !q x) → step r ((i : Int), (s.length : Int), s) = R) :
    ∀ (n i j : Nat) (s : List α), s.length = l.length → i < j → j ≤ l.length → s.take i = (l.take j).filter (fun x => !q x) → s.drop j = l.drop j → l.length - j < n → LOOP step n ((i : Int), (j : Int), s) = R
  | 0, _, _, _, _, _, _, _, _, h => by omega
  | n + 1, i, j, s, h1, h2, h3, h4, h5, h6 => by
    rw [LOOP_s]
    by_cases h : j < l.length
    · have hls : l.length < 2 ^ 62 := hl
      have hd := drop_ix l j h
      have hd2 := drop_ix s j (by omega)
      rw [h5, hd] at hd2
      have hx : ix s (j : Int) = ix l (j : Int) := (List.cons.inj hd2).1.symm
      have hd3 : s.drop (j + 1) = l.drop (j + 1) := (List.cons.inj hd2).2.symm
      have ht : l.take (j + 1) = l.take j ++ [ix l (j : Int)] := by rw [List.take_add_one, ix_lt l j h]; simp [h]
      rw [hs _ i j s (w64_s i (by omega)) (w64_s j (by omega)) h2 (by omega) h1, hx]
      cases hq : q (ix l (j : Int))
      · rw [if_neg (by decide)]
        refine LOOP_delN l q R step hl hs he n (i + 1) (j + 1) _ (by simpa using h1) (by omega) (by omega) ?_ ?_ (by omega)
        · rw [ht, List.filter_append, ← h4, List.filter_cons_of_pos (by simp [hq]), List.filter_nil]
          rw [List.take_add_one, List.take_set_of_le (Nat.le_refl _), List.getElem?_set_self (by omega)]; rfl
        · rw [List.drop_set_of_lt (by omega)]; exact hd3
      · rw [if_pos rfl]
        refine LOOP_delN l q R step hl hs he n i (j + 1) s h1 (by omega) (by omega) ?_ hd3 (by omega)
        rw [ht, List.filter_append, ← h4, List.filter_cons_of_neg (by simp [hq]), List.filter_nil, List.append_nil]
    · have e : j = s.length := by omega
      subst e
      exact he _ i s h2 h1 (by rw [h4, List.take_of_length_le (show l.length ≤ s.length by omega)])
/-- Deleting from the first match on. -/
theorem LOOP_delR {α X : Type} [Inhabited α] (l : List α) (q : α → Bool) (R : Option X) (k : Nat) (step : (Int × Int × List α → Option X) → Int × Int × List α → Option X) (hl : Sm l) (hk : idx q l 0 = (k : Int))
    (hs : ∀ (r : Int × Int × List α → Option X) (i j : Nat) (s : List α), IntKind.i64.wrap ((i : Int) + 1) = (i : Int) + 1 → IntKind.i64.wrap ((j : Int) + 1) = (j : Int) + 1 → i < j → j < s.length → s.length = l.length → step r ((i : Int), (j : Int), s) = if q (ix s (j : Int)) = true then r ((i : Int), (j : Int) + 1, s) else r ((i : Int) + 1, (j : Int) + 1, s.set i (ix s (j : Int))))
    (he : ∀ (r : Int × Int × List α → Option X) (i : Nat) (s : List α), i < s.length → s.length = l.length → s.take i = l.filter (fun x => !q x) → step r ((i : Int), (s.length : Int), s) = R) :
    LOOP step fuel ((k : Int), IntKind.i64.wrap ((k : Int) + 1), l) = R := by
  obtain ⟨_, h2, h3, h4⟩ := idx_first q l 0 k hk
  rw [Nat.sub_zero] at h2 h3 h4
  have hls : l.length < 2 ^ 62 := hl
  rw [w64_s k (by omega)]
  refine LOOP_delN l q R step hl hs he fuel k (k + 1) l rfl (by omega) (by omega) ?_ rfl (by have : fuel = 2 ^ 70 := rfl; omega)
  rw [List.take_add_one, List.filter_append, h4]
  have : l[k]? = some (ix l (k : Int)) := by rw [ix_lt l k h2]; simp [h2]
  rw [this]
  simp [h3]
theorem LOOP_accR {α β X : Type} [Inhabited α] (l : List α) (f : α → List β) (acc0 : List β) (R : Option X) (step : (List β × Int → Option X) → List β × Int → Option X) (hl : Sm l) (hf : ∀ a, (f a).length ≤ 2)
    (hs : ∀ (r : List β × Int → Option X) (i : Nat) (acc : List β), acc.length ≤ acc0.length + 2 * i → IntKind.i64.wrap ((i : Int) + 1) = (i : Int) + 1 → (0 ≤ (i : Int) ∧ (i : Int) < (l.length : Int)) → ix l (i : Int) ∈ l → step r (acc, (i : Int)) = r (acc ++ f (ix l (i : Int)), (i : Int) + 1))
    (he : ∀ (r : List β × Int → Option X), step r (acc0 ++ l.flatMap f, (l.length : Int)) = R) : LOOP step fuel (acc0, (0 : Int)) = R := by
  have key : ∀ (n i : Nat) (acc : List β), i ≤ l.length → l.length - i < n → acc.length ≤ acc0.length + 2 * i → acc ++ (l.drop i).flatMap f = acc0 ++ l.flatMap f → LOOP step n (acc, (i : Int)) = R := by
    intro n
    induction n with
    | zero => intro i acc _ h; omega
    | succ n ih =>
      intro i acc h1 h2 h3 h4
      rw [LOOP_s]
      by_cases h : i < l.length
      · rw [hs _ i acc h3 (w64_s i (by unfold Sm at hl; omega)) ⟨by omega, by omega⟩ (ix_mem l _ ⟨by omega, by omega⟩)]
        rw [drop_ix l i h, List.flatMap_cons, ← List.append_assoc] at h4
        exact ih (i + 1) _ (by omega) (by omega) (by have := hf (ix l (i : Int)); simp; omega) h4
      · have e : i = l.length := by omega
        subst e
        rw [List.drop_length, List.flatMap_nil, List.append_nil] at h4
        rw [h4]; exact he _
  exact key fuel 0 acc0 (Nat.zero_le _) (by unfold Sm at hl; have : fuel = 2 ^ 70 := rfl; omega) (by omega) (by simp)
end GoForm


set_option linter.all false
set_option maxRecDepth 100000
open Go Go.Rx

namespace GoForm
def wkB (b : Body) : Body := { b with Asleep := false, IdleSteps := 0 }
def wakeW (w : World_) (id : Int) : World_ :=
  if (decide (0 ≤ fb w id) && decide ((ix w.Bodies (fb w id)).Kind = 3)) = true then { w with Bodies := w.Bodies.set (fb w id).toNat (wkB (ix w.Bodies (fb w id))) } else w
theorem ix_set_same {α : Type} [Inhabited α] (l : List α) (i : Nat) (x : α) (h : i < l.length) : ix (l.set i x) (i : Int) = x := by
  rw [ix_lt _ _ (by simpa using h)]; simp
theorem fb_cases (w : World_) (id : Int) : fb w id = -1 ∨ ∃ k : Nat, fb w id = (k : Int) ∧ k < w.Bodies.length := by
  rcases idx_bd (fun b : Body => b.ID == id) w.Bodies 0 with h | h
  · exact Or.inl h
  · right; exact ⟨(fb w id).toNat, by unfold fb; omega, by unfold fb; omega⟩
theorem bif_and (a : Bool) (k : Int) : (bif a then (k == 3) else false) = (a && decide (k = 3)) := by rw [cond_and, eq_beq]
theorem world_Wake_eq (w : World_) (id : Int) (h : SmW w) : world_WakeBody w id = some (wakeW w id) := by
  unfold world_WakeBody wakeW
  rw [world_Clone_eq w h, Bind_snr]
  simp only [Join_nr, Let_nr, world_Find_eq w id (sm_of h.bodies (by omega)), Bind_snr, ge_iff_le, bif_and]
  rcases fb_cases w id with hk | ⟨k, hk, hl⟩
  · rw [hk, Chk_of (by simp), Chk_of (by simp), if_neg (by simp), if_neg (by simp)]
  · rw [hk, Chk_of (fun _ => by omega), Chk_of (fun _ => by omega)]
    by_cases h3 : (ix w.Bodies (k : Int)).Kind = 3
    · rw [if_pos (by simp [h3]), if_pos (by simp [h3]), Chk_of (by omega), Chk_of (by omega)]
      simp only [Int.toNat_natCast, List.length_set]
      rw [Chk_of (by omega), Chk_of (by omega)]
      simp only [ix_set_same _ _ _ hl, List.set_set]
      rfl
    · rw [if_neg (by simp [h3]), if_neg (by simp [h3])]
theorem mem_set_or {α : Type} (l : List α) (i : Nat) (x y : α) (h : y ∈ l.set i x) : y ∈ l ∨ y = x := List.mem_or_eq_of_mem_set h
theorem wake_sm (w : World_) (id : Int) (h : SmW w) : SmW (wakeW w id) := by
  unfold wakeW
  split
  next hc =>
    refine ⟨by simpa using h.bodies, h.joints, h.contacts, h.overlaps, h.points, ?_⟩
    intro b hb
    rcases mem_set_or _ _ _ _ hb with hb | hb
    · exact h.body b hb
    · rcases fb_cases w id with hk | ⟨k, hk, hl⟩
      · rw [hk] at hc; simp at hc
      · have := h.body _ (ix_mem w.Bodies (fb w id) (by omega))
        rw [hb]; exact this
  · exact h
def posI (w : World_) : Prop := ∀ b ∈ w.Bodies, 1 ≤ b.ID
theorem wake_pos (w : World_) (id : Int) (h : posI w) : posI (wakeW w id) := by
  unfold wakeW
  split
  next hc =>
    intro b hb
    rcases mem_set_or _ _ _ _ hb with hb | hb
    · exact h b hb
    · rcases fb_cases w id with hk | ⟨k, hk, hl⟩
      · rw [hk] at hc; simp at hc
      · have := h _ (ix_mem w.Bodies (fb w id) (by omega))
        rw [hb]; exact this
  · exact h
theorem wake_zero (w : World_) (h : posI w) : wakeW w 0 = w := by
  have : fb w 0 = -1 := by
    rcases fb_cases w 0 with hk | ⟨k, hk, hl⟩
    · exact hk
    · have h1 := idx_ix (fun b : Body => b.ID == 0) w.Bodies 0 (by unfold fb at hk; omega)
      have h2 := h _ (ix_mem w.Bodies (k : Int) (by omega))
      unfold fb at hk
      rw [hk] at h1
      simp at h1
      omega
  unfold wakeW
  rw [this, if_neg (by simp)]
theorem wakeAll_eq (w : World_) (a b : Int) (h : SmW w) (hp : posI w) : world_wakeAll w [a, b] = some (wakeW (wakeW w a) b) := by
  have e : ∀ (w : World_) (a : Int), SmW w → posI w → (if (a != 0) = true then world_WakeBody w a else some w) = some (wakeW w a) := by
    intro w a h hp
    by_cases ha : a = 0
    · rw [ha, if_neg (by decide), wake_zero w hp]
    · rw [if_pos (by simpa using ha), world_Wake_eq w a h]
  have e2 : ∀ (w : World_) (a : Int) (K : World_ → Option World_), SmW w → posI w → (if (a != 0) = true then Rx.Bind (world_WakeBody w a) K else K w) = K (wakeW w a) := by
    intro w a K h hp
    have := e w a h hp
    by_cases ha : (a != 0) = true
    · rw [if_pos ha] at this ⊢; rw [this, Bind_snr]
    · rw [if_neg ha] at this ⊢; rw [← Option.some.inj this]
  unfold world_wakeAll
  obtain ⟨m, hm⟩ : ∃ m, fuel = m + 20 := ⟨2 ^ 70 - 20, by unfold fuel; decide⟩
  rw [hm]
  simp only [Let_nr, Join_nr]
  rw [LOOP_s, if_pos (by simp), Chk_of (by simp), e2 _ _ _ h hp]
  rw [show IntKind.i64.wrap ((0 : Int) + 1) = 1 by decide, LOOP_s, if_pos (by simp), Chk_of (by simp), e2 _ _ _ (wake_sm _ _ h) (wake_pos _ _ hp)]
  rw [show IntKind.i64.wrap ((1 : Int) + 1) = 2 by decide, LOOP_s, if_neg (by simp)]
  rfl
def zJ (w : World_) (j : Joint) : Joint := { j with ID := w.NextID, Impulses := (0, 0, 0, 0) }
theorem resetI (j : Joint) : joint_ResetImpulses j = some { j with Impulses := (0, 0, 0, 0) } := by
  unfold joint_ResetImpulses
  simp only [Let_nr]
  split
  next h =>
    obtain ⟨a, b, c, d, e, f, g, h1, i, k, l, m, n, o, p, q, r, s⟩ := j
    obtain ⟨s1, s2, s3, s4⟩ := s
    simp at h
    simp [h]
  · rfl
def addJ (w : World_) (j : Joint) : World_ × Int × Int :=
  if (decide (32 ≤ (w.Joints.length : Int)) || decide (1099511627776 ≤ w.NextID)) = true then (zeroW, 0, 9)
  else if (jv (zJ w j) != 0 || !jex w (zJ w j)) = true then (zeroW, 0, 15)
  else (wakeW (wakeW { w with Joints := w.Joints ++ [zJ w j], NextID := IntKind.i64.wrap (w.NextID + 1) } j.BodyA) j.BodyB, w.NextID, 0)
theorem world_AddJ_eq (w : World_) (j : Joint) (h : SmW w) (hp : posI w) (hl : w.Joints.length ≤ 1000) : world_AddJoint w j = some (addJ w j) := by
  have hc : ∀ x : Joint, (w.Joints.length + [x].length) * 192 ≤ 140737488355328 := by intro x; simp; omega
  have hs : SmW { w with Joints := w.Joints ++ [zJ w j], NextID := IntKind.i64.wrap (w.NextID + 1) } := ⟨h.bodies, by simp; omega, h.contacts, h.overlaps, h.points, h.body⟩
  have hb := sm_of h.bodies (by omega)
  unfold world_AddJoint addJ
  simp only [Let_nr, resetI, Bind_snr, joint_Val_eq, world_ex_eq w _ hb, world_Clone_eq w h, Bind_if, cond_or, ge_iff_le, Chk_of (hc _), ga3]
  by_cases h1 : (decide (32 ≤ (w.Joints.length : Int)) || decide (1099511627776 ≤ w.NextID)) = true
  · rw [if_pos h1, if_pos h1]; rfl
  · rw [if_neg h1, if_neg h1]
    by_cases h2 : (jv (zJ w j) != 0 || !jex w (zJ w j)) = true
    · rw [if_pos h2]; exact if_pos h2
    · rw [if_neg h2]
      refine (if_neg h2).trans ?_
      show Rx.Bind (world_wakeAll { w with Joints := w.Joints ++ [zJ w j], NextID := IntKind.i64.wrap (w.NextID + 1) } [j.BodyA, j.BodyB]) _ = _
      rw [wakeAll_eq _ _ _ hs hp, Bind_snr]
end GoForm


set_option linter.all false
set_option maxRecDepth 100000
open Go Go.Rx

namespace GoForm
theorem fj_cases (w : World_) (id : Int) : fj w id = -1 ∨ ∃ k : Nat, fj w id = (k : Int) ∧ k < w.Joints.length := by
  rcases idx_bd (fun b : Joint => b.ID == id) w.Joints 0 with h | h
  · exact Or.inl h
  · right; exact ⟨(fj w id).toNat, by unfold fj; omega, by unfold fj; omega⟩
def cutJ (w : World_) (k : Nat) : World_ := { w with Joints := w.Joints.take k ++ w.Joints.drop (k + 1) }
def remJ (w : World_) (id : Int) : World_ × Int :=
  if fj w id < 0 then (zeroW, 8)
  else (wakeW (wakeW (cutJ w (fj w id).toNat) (ix w.Joints (fj w id)).BodyA) (ix w.Joints (fj w id)).BodyB, 0)
theorem cut_sm (w : World_) (k : Nat) (h : SmW w) : SmW (cutJ w k) := by
  refine ⟨h.bodies, ?_, h.contacts, h.overlaps, h.points, h.body⟩
  have := h.joints
  unfold cutJ; simp; omega
theorem take_app_len {α : Type} (a b : List α) (n : Nat) (h : n = a.length) : (a ++ b).take n = a := by subst h; simp
theorem world_RemJ_eq (w : World_) (id : Int) (h : SmW w) (hp : posI w) : world_RemoveJoint w id = some (remJ w id) := by
  have hj := h.joints
  unfold world_RemoveJoint remJ
  rw [world_FindJ_eq w id (sm_of h.joints (by omega)), Bind_snr]
  simp only [Let_nr, Join_nr]
  rcases fj_cases w id with hk | ⟨k, hk, hl⟩
  · rw [hk, if_pos (by simp), if_pos (by decide)]; rfl
  · have n4 : ¬ ((k : Int) < 0) := by omega
    rw [hk, if_neg (by simp), if_neg n4, world_Clone_eq w h, Bind_snr]
    have hw2 : IntKind.i64.wrap ((k : Int) + 1) = ((k + 1 : Nat) : Int) := by rw [wrap_in _ (by omega) (by omega)]; omega
    rw [Chk_of (by omega), Chk_of (by omega), hw2, Chk_of (by omega), if_neg (by simp; omega)]
    have e1 : List.take (w.Joints.length - (k + 1)) (List.drop (k + 1) w.Joints) = w.Joints.drop (k + 1) := by
      apply List.take_of_length_le; simp
    have e2 : (w.Joints.drop (k + 1)).length = w.Joints.length - (k + 1) := by simp
    simp only [Int.toNat_natCast, Option.getD_some, Option.getD_none, Nat.sub_zero, Nat.zero_add, e1, e2]
    rw [Chk_of (by omega), Chk_of (by omega), Chk_of (by omega), Chk_of (by omega), Chk_of (by omega)]
    have e3 : k + (w.Joints.length - (k + 1)) = w.Joints.length - 1 := by omega
    have l3 : (w.Joints.take k ++ w.Joints.drop (k + 1)).length = w.Joints.length - 1 := by simp; omega
    simp only [e3]
    rw [Chk_of (by simp; omega), take_app_len (w.Joints.take k ++ w.Joints.drop (k + 1)) _ _ l3.symm, Chk_of (by simp; omega)]
    rw [List.append_assoc, take_app_len (w.Joints.take k ++ w.Joints.drop (k + 1)) _ _ l3.symm]
    show Rx.Bind (world_wakeAll (cutJ w k) [_, _]) _ = _
    rw [wakeAll_eq _ _ _ (cut_sm w k h) hp, Bind_snr]
end GoForm


set_option linter.all false
set_option maxRecDepth 100000
open Go Go.Rx

namespace GoForm
def att (id : Int) (j : Joint) : Bool := (id != 0) && (j.BodyA == id || j.BodyB == id)
def refK (id : Int) (k : PairKey) : Bool := k.BodyA == id || k.BodyB == id
def oth (a b id : Int) : Int := if a = id then b else a
theorem att_eq (j : Joint) (id : Int) : joint_Attached j id = some (att id j) := by
  unfold joint_Attached att; simp only [Let_nr, cond_or, cond_and]
theorem rb1_eq (k : PairKey) (id : Int) : world_RemoveBody_1 k id = some (refK id k) := by
  unfold world_RemoveBody_1 refK; simp only [Let_nr, cond_or]
theorem rb2_eq (j : Joint) (id : Int) : world_RemoveBody_2 j id = some (att id j) := by
  unfold world_RemoveBody_2; rw [att_eq, Bind_snr]
theorem oth_eq (a b id : Int) : world_other a b id = some (oth a b id) := by
  unfold world_other oth; simp only [Let_nr]
  by_cases h : a = id
  · rw [if_pos (by simpa using h), if_pos h]
  · rw [if_neg (by simpa using h), if_neg h]
theorem IF128 (l : List Joint) (g : Joint → Option Bool) (q : Joint → Bool) (hg : ∀ a, g a = some (q a)) (hl : Sm l) : slices_IndexFunc_128 l g = some (idx q l 0) := by
  unfold slices_IndexFunc_128
  simp only [Let_nr]
  refine LOOP_l0 l (fun t i => some (idx q t i)) _ hl ?_ ?_
  · intro r i t hw hc hm hr
    rw [if_pos (dlt hc), Chk_of hc, hg, Bind_snr, hw, hr]
    show _ = some (if q (ix l (i : Int)) = true then (i : Int) else idx q t (i + 1))
    split <;> rfl
  · intro r; rw [if_neg (by simp)]; rfl
theorem IF130 (l : List PairKey) (g : PairKey → Option Bool) (q : PairKey → Bool) (hg : ∀ a, g a = some (q a)) (hl : Sm l) : slices_IndexFunc_130 l g = some (idx q l 0) := by
  unfold slices_IndexFunc_130
  simp only [Let_nr]
  refine LOOP_l0 l (fun t i => some (idx q t i)) _ hl ?_ ?_
  · intro r i t hw hc hm hr
    rw [if_pos (dlt hc), Chk_of hc, hg, Bind_snr, hw, hr]
    show _ = some (if q (ix l (i : Int)) = true then (i : Int) else idx q t (i + 1))
    split <;> rfl
  · intro r; rw [if_neg (by simp)]; rfl
def wakeL (w : World_) : List Int → World_
  | [] => w
  | a :: t => wakeL (if a = 0 then w else wakeW w a) t
theorem wakeAllL_eq (w : World_) (ns : List Int) (h : SmW w) (hn : ns.length ≤ 1000000) : world_wakeAll w ns = some (wakeL w ns) := by
  unfold world_wakeAll
  simp only [Let_nr, Join_nr]
  refine LOOP_j ns (fun _ s => SmW s) (fun t _ s => some (wakeL s t)) _ w (sm_of hn (by omega)) h ?_ ?_
  · intro r i t s hp hw hc hm hr
    rw [if_pos (dlt hc), Chk_of hc, hw]
    show _ = some (wakeL (if ix ns (i : Int) = 0 then s else wakeW s (ix ns (i : Int))) t)
    by_cases ha : ix ns (i : Int) = 0
    · rw [if_neg (by rw [ha]; decide), if_pos ha]; exact hr _ hp
    · rw [if_pos (by simpa using ha), if_neg ha, world_Wake_eq _ _ hp, Bind_snr]; exact hr _ (wake_sm _ _ hp)
  · intro r s hp; rw [if_neg (by simp)]; rfl
theorem smS (w : World_) (B : List Body) (J : List Joint) (C : List Contact) (O : List PairKey) (h : SmW w) (hb : B.Sublist w.Bodies) (hj : J.Sublist w.Joints) (hc : C.Sublist w.Contacts) (ho : O.Sublist w.Overlaps) :
    SmW { Settings := w.Settings, Bodies := B, Joints := J, Contacts := C, Overlaps := O, NextID := w.NextID, Frame := w.Frame } :=
  ⟨Nat.le_trans hb.length_le h.bodies, Nat.le_trans hj.length_le h.joints, Nat.le_trans hc.length_le h.contacts, Nat.le_trans ho.length_le h.overlaps, fun c hcc => h.points c (hc.subset hcc), fun b hbb => h.body b (hb.subset hbb)⟩
theorem cutSub {α : Type} (l : List α) (k : Nat) : (l.take k ++ l.drop (k + 1)).Sublist l := by
  have h1 := List.take_append_drop k l
  have h2 : (l.drop (k + 1)).Sublist (l.drop k) := by
    rw [← List.drop_drop]; exact List.drop_sublist _ _
  have h3 := List.Sublist.append (List.Sublist.refl (l.take k)) h2
  rwa [h1] at h3
def fJ (id : Int) (j : Joint) : List Int := if att id j = true then [oth j.BodyA j.BodyB id] else []
def fC (id : Int) (c : Contact) : List Int := if refK id c.Key = true then [oth c.Key.BodyA c.Key.BodyB id] else []
def nsP (w : World_) (id : Int) : List Int := [] ++ (w.Joints.flatMap (fJ id) ++ w.Contacts.flatMap (fC id))
def rmW (w : World_) (id : Int) (k : Nat) : World_ :=
  { Settings := w.Settings, Bodies := w.Bodies.take k ++ w.Bodies.drop (k + 1), Joints := w.Joints.filter (fun j => !att id j), Contacts := w.Contacts.filter (fun c => !refK id c.Key), Overlaps := w.Overlaps.filter (fun k => !refK id k), NextID := w.NextID, Frame := w.Frame }
def rmP (w : World_) (id : Int) : World_ × Int := if fb w id < 0 then (zeroW, 8) else (wakeL (rmW w id (fb w id).toNat) (nsP w id), 0)
theorem idx_ne {α : Type} (q : α → Bool) (l : List α) (h : idx q l 0 ≠ -1) : ∃ k : Nat, idx q l 0 = (k : Int) := by
  rcases idx_bd q l 0 with g | g
  · exact absurd g h
  · exact ⟨(idx q l 0).toNat, by omega⟩
theorem flat_len {α : Type} (f : α → List Int) (hf : ∀ a, (f a).length ≤ 2) : ∀ l : List α, (l.flatMap f).length ≤ 2 * l.length
  | [] => by simp
  | a :: l => by have := flat_len f hf l; have := hf a; simp only [List.flatMap_cons, List.length_append, List.length_cons]; omega
theorem fJ_len (id : Int) (j : Joint) : (fJ id j).length ≤ 2 := by unfold fJ; split <;> simp
theorem fC_len (id : Int) (c : Contact) : (fC id c).length ≤ 2 := by unfold fC; split <;> simp
theorem nsP_len (w : World_) (id : Int) (h : SmW w) : (nsP w id).length ≤ 1000000 := by
  unfold nsP
  have h1 := flat_len (fJ id) (fJ_len id) w.Joints
  have h2 := flat_len (fC id) (fC_len id) w.Contacts
  have := h.joints; have := h.contacts
  simp only [List.length_append, List.length_nil]; omega
theorem world_Rem_eq (w : World_) (id : Int) (h : SmW w) : world_RemoveBody w id = some (rmP w id) := by
  have hsb := h.bodies
  have hsj := h.joints
  have hsc := h.contacts
  have hso := h.overlaps
  have hns := nsP_len w id h
  unfold world_RemoveBody world_RemoveBody_J world_RemoveBody_C world_RemoveBody_O
  rw [world_Find_eq w id (sm_of h.bodies (by omega)), Bind_snr]
  simp only [Let_nr, Join_nr]
  rcases fb_cases w id with hk | ⟨k, hk, hl⟩
  · rw [hk, if_pos (by simp)]; unfold rmP; rw [hk, if_pos (by decide)]; rfl
  have n4 : ¬ ((k : Int) < 0) := by omega
  have hR : rmP w id = (wakeL (rmW w id k) (nsP w id), 0) := by unfold rmP; rw [hk, if_neg n4, Int.toNat_natCast]
  rw [hR, hk, if_neg (by simp), world_Clone_eq w h, Bind_snr]
  unfold rmW
  refine LOOP_accR w.Joints (fJ id) [] _ _ (sm_of hsj (by omega)) (fJ_len id) ?_ ?_
  · intro r i acc ha hw hc hm
    rw [if_pos (dlt hc), Chk_of hc, Chk_of hc, hw, att_eq, Bind_snr]
    by_cases ht : att id (ix w.Joints (i : Int)) = true
    · rw [if_pos ht, oth_eq, Bind_snr, Chk_of (by simp at ha ⊢; omega), show fJ id (ix w.Joints (i : Int)) = _ from if_pos ht]
    · rw [if_neg ht, show fJ id (ix w.Joints (i : Int)) = _ from if_neg ht, List.append_nil]
  intro r0
  rw [if_neg (by simp)]
  have hfl := flat_len (fJ id) (fJ_len id) w.Joints
  refine LOOP_accR w.Contacts (fC id) _ _ _ (sm_of hsc (by omega)) (fC_len id) ?_ ?_
  · intro r i acc ha hw hc hm
    simp only [List.nil_append] at ha
    rw [if_pos (dlt hc), Chk_of hc, Chk_of hc, hw, rb1_eq, Bind_snr]
    by_cases ht : refK id (ix w.Contacts (i : Int)).Key = true
    · rw [if_pos ht, oth_eq, Bind_snr, Chk_of (by simp; omega), show fC id (ix w.Contacts (i : Int)) = _ from if_pos ht]
    · rw [if_neg ht, show fC id (ix w.Contacts (i : Int)) = _ from if_neg ht, List.append_nil]
  intro r1
  rw [if_neg (by simp)]
  have hw2 : IntKind.i64.wrap ((k : Int) + 1) = ((k + 1 : Nat) : Int) := by rw [wrap_in _ (by omega) (by omega)]; omega
  rw [hw2, Chk_of (by omega), if_neg (by simp; omega)]
  have e1 : List.take (w.Bodies.length - (k + 1)) (List.drop (k + 1) w.Bodies) = w.Bodies.drop (k + 1) := by
    apply List.take_of_length_le; simp
  have e2 : (w.Bodies.drop (k + 1)).length = w.Bodies.length - (k + 1) := by simp
  simp only [Int.toNat_natCast, Option.getD_some, Option.getD_none, Nat.sub_zero, Nat.zero_add, e1, e2]
  have e3 : k + (w.Bodies.length - (k + 1)) = w.Bodies.length - 1 := by omega
  have l3 : (w.Bodies.take k ++ w.Bodies.drop (k + 1)).length = w.Bodies.length - 1 := by simp; omega
  have hXs := cutSub w.Bodies k
  simp only [e3]
  generalize w.Bodies.take k ++ w.Bodies.drop (k + 1) = X at l3 hXs ⊢
  rw [Chk_of (by omega), Chk_of (by omega), Chk_of (by omega), Chk_of (by omega), Chk_of (by omega), Chk_of (by simp; omega)]
  simp only [List.append_assoc, take_app_len X _ _ l3.symm]
  rw [Chk_of (by simp; omega)]
  refine (Bind_of (IF128 _ _ (att id) (fun a => rb2_eq a id) (sm_of hsj (by omega)))).trans ?_
  by_cases hj : idx (att id) w.Joints 0 = -1
  · have hJ : w.Joints.filter (fun j => !att id j) = w.Joints := idx_none _ _ hj
    rw [hj, if_pos (by decide), hJ]
    refine LOOP_findR w.Contacts (fun c => refK id c.Key) _ _ (sm_of hsc (by omega)) ?_ ?_ ?_
    · intro r i hw hc hq
      rw [if_pos (dlt hc), Chk_of hc, Chk_of hc, rb1_eq, Bind_snr, if_neg (by simpa using hq), hw]
    · intro r i hc hidx hq
      have n1 : ¬ ((i : Int) == -1) = true := by simp
      rw [if_pos (dlt hc), Chk_of hc, Chk_of hc, rb1_eq, Bind_snr, if_pos hq, if_neg n1]
      refine LOOP_delR w.Contacts (fun c => refK id c.Key) _ i _ (sm_of hsc (by omega)) hidx ?_ ?_
      · intro r i j s hwi hwj hij hjs hsl
        have hcj : (0 : Int) ≤ (j : Int) ∧ (j : Int) < (s.length : Int) := by omega
        have hci : (0 : Int) ≤ (i : Int) ∧ (i : Int) < (s.length : Int) := by omega
        rw [if_pos (dlt hcj), Chk_of hcj, Chk_of hcj, rb1_eq, Bind_snr, hwj]
        cases hq : refK id (ix s (j : Int)).Key
        · rw [if_pos (by decide), Chk_of hci, Chk_of hci, hwi, if_neg (by decide)]; rfl
        · rw [if_neg (by decide), if_pos (by decide)]
      intro r i s his hsl hF
      rw [if_neg (by simp)]
      simp only [Int.toNat_natCast, Option.getD_some, Option.getD_none, Nat.sub_zero]
      have l1 : (s.take i).length = i := by simp; omega
      rw [Chk_of (by omega), Chk_of (by omega)]
      simp only [List.append_assoc, take_app_len (s.take i) _ _ l1.symm]
      rw [Chk_of (by simp; omega), Chk_of (by simp; omega)]
      simp only [hF]
      refine (Bind_of (IF130 _ _ (refK id) (fun a => rb1_eq a id) (sm_of hso (by omega)))).trans ?_
      by_cases ho : idx (refK id) w.Overlaps 0 = -1
      · have hO : w.Overlaps.filter (fun k => !refK id k) = w.Overlaps := idx_none _ _ ho
        rw [ho, if_pos (by decide), hO]
        rw [show (([] : List Int) ++ (w.Joints.flatMap (fJ id) ++ w.Contacts.flatMap (fC id))) = nsP w id from rfl, wakeAllL_eq _ _ (smS w _ _ _ _ h hXs (by first | exact List.Sublist.refl _ | exact List.filter_sublist) (by first | exact List.Sublist.refl _ | exact List.filter_sublist) (by first | exact List.Sublist.refl _ | exact List.filter_sublist)) hns, Bind_snr]
      obtain ⟨ko, hko⟩ := idx_ne _ _ ho
      rw [hko, if_neg (by simp)]
      refine LOOP_delR w.Overlaps (refK id) _ ko _ (sm_of hso (by omega)) hko ?_ ?_
      · intro r i j s hwi hwj hij hjs hsl
        have hcj : (0 : Int) ≤ (j : Int) ∧ (j : Int) < (s.length : Int) := by omega
        have hci : (0 : Int) ≤ (i : Int) ∧ (i : Int) < (s.length : Int) := by omega
        rw [if_pos (dlt hcj), Chk_of hcj, Chk_of hcj, rb1_eq, Bind_snr, hwj]
        cases hq : refK id (ix s (j : Int))
        · rw [if_pos (by decide), Chk_of hci, Chk_of hci, hwi, if_neg (by decide)]; rfl
        · rw [if_neg (by decide), if_pos (by decide)]
      intro r i s his hsl hF
      rw [if_neg (by simp)]
      simp only [Int.toNat_natCast, Option.getD_some, Option.getD_none, Nat.sub_zero]
      have l1 : (s.take i).length = i := by simp; omega
      rw [Chk_of (by omega), Chk_of (by omega)]
      simp only [List.append_assoc, take_app_len (s.take i) _ _ l1.symm]
      rw [Chk_of (by simp; omega), Chk_of (by simp; omega)]
      simp only [hF]
      rw [show (([] : List Int) ++ (w.Joints.flatMap (fJ id) ++ w.Contacts.flatMap (fC id))) = nsP w id from rfl, wakeAllL_eq _ _ (smS w _ _ _ _ h hXs (by first | exact List.Sublist.refl _ | exact List.filter_sublist) (by first | exact List.Sublist.refl _ | exact List.filter_sublist) (by first | exact List.Sublist.refl _ | exact List.filter_sublist)) hns, Bind_snr]
    · intro r hidx
      have hC : w.Contacts.filter (fun c => !refK id c.Key) = w.Contacts := idx_none (fun c : Contact => refK id c.Key) _ hidx
      rw [if_neg (by simp), hC]
      refine (Bind_of (IF130 _ _ (refK id) (fun a => rb1_eq a id) (sm_of hso (by omega)))).trans ?_
      by_cases ho : idx (refK id) w.Overlaps 0 = -1
      · have hO : w.Overlaps.filter (fun k => !refK id k) = w.Overlaps := idx_none _ _ ho
        rw [ho, if_pos (by decide), hO]
        rw [show (([] : List Int) ++ (w.Joints.flatMap (fJ id) ++ w.Contacts.flatMap (fC id))) = nsP w id from rfl, wakeAllL_eq _ _ (smS w _ _ _ _ h hXs (by first | exact List.Sublist.refl _ | exact List.filter_sublist) (by first | exact List.Sublist.refl _ | exact List.filter_sublist) (by first | exact List.Sublist.refl _ | exact List.filter_sublist)) hns, Bind_snr]
      obtain ⟨ko, hko⟩ := idx_ne _ _ ho
      rw [hko, if_neg (by simp)]
      refine LOOP_delR w.Overlaps (refK id) _ ko _ (sm_of hso (by omega)) hko ?_ ?_
      · intro r i j s hwi hwj hij hjs hsl
        have hcj : (0 : Int) ≤ (j : Int) ∧ (j : Int) < (s.length : Int) := by omega
        have hci : (0 : Int) ≤ (i : Int) ∧ (i : Int) < (s.length : Int) := by omega
        rw [if_pos (dlt hcj), Chk_of hcj, Chk_of hcj, rb1_eq, Bind_snr, hwj]
        cases hq : refK id (ix s (j : Int))
        · rw [if_pos (by decide), Chk_of hci, Chk_of hci, hwi, if_neg (by decide)]; rfl
        · rw [if_neg (by decide), if_pos (by decide)]
      intro r i s his hsl hF
      rw [if_neg (by simp)]
      simp only [Int.toNat_natCast, Option.getD_some, Option.getD_none, Nat.sub_zero]
      have l1 : (s.take i).length = i := by simp; omega
      rw [Chk_of (by omega), Chk_of (by omega)]
      simp only [List.append_assoc, take_app_len (s.take i) _ _ l1.symm]
      rw [Chk_of (by simp; omega), Chk_of (by simp; omega)]
      simp only [hF]
      rw [show (([] : List Int) ++ (w.Joints.flatMap (fJ id) ++ w.Contacts.flatMap (fC id))) = nsP w id from rfl, wakeAllL_eq _ _ (smS w _ _ _ _ h hXs (by first | exact List.Sublist.refl _ | exact List.filter_sublist) (by first | exact List.Sublist.refl _ | exact List.filter_sublist) (by first | exact List.Sublist.refl _ | exact List.filter_sublist)) hns, Bind_snr]
  obtain ⟨kj, hkj⟩ := idx_ne _ _ hj
  rw [hkj, if_neg (by simp)]
  refine LOOP_delR w.Joints (att id) _ kj _ (sm_of hsj (by omega)) hkj ?_ ?_
  · intro r i j s hwi hwj hij hjs hsl
    have hcj : (0 : Int) ≤ (j : Int) ∧ (j : Int) < (s.length : Int) := by omega
    have hci : (0 : Int) ≤ (i : Int) ∧ (i : Int) < (s.length : Int) := by omega
    rw [if_pos (dlt hcj), Chk_of hcj, Chk_of hcj, rb2_eq, Bind_snr, hwj]
    cases hq : att id (ix s (j : Int))
    · rw [if_pos (by decide), Chk_of hci, Chk_of hci, hwi, if_neg (by decide)]; rfl
    · rw [if_neg (by decide), if_pos (by decide)]
  intro r i s his hsl hF
  rw [if_neg (by simp)]
  simp only [Int.toNat_natCast, Option.getD_some, Option.getD_none, Nat.sub_zero]
  have l1 : (s.take i).length = i := by simp; omega
  rw [Chk_of (by omega), Chk_of (by omega)]
  simp only [List.append_assoc, take_app_len (s.take i) _ _ l1.symm]
  rw [Chk_of (by simp; omega), Chk_of (by simp; omega)]
  simp only [hF]
  refine LOOP_findR w.Contacts (fun c => refK id c.Key) _ _ (sm_of hsc (by omega)) ?_ ?_ ?_
  · intro r i hw hc hq
    rw [if_pos (dlt hc), Chk_of hc, Chk_of hc, rb1_eq, Bind_snr, if_neg (by simpa using hq), hw]
  · intro r i hc hidx hq
    have n1 : ¬ ((i : Int) == -1) = true := by simp
    rw [if_pos (dlt hc), Chk_of hc, Chk_of hc, rb1_eq, Bind_snr, if_pos hq, if_neg n1]
    refine LOOP_delR w.Contacts (fun c => refK id c.Key) _ i _ (sm_of hsc (by omega)) hidx ?_ ?_
    · intro r i j s hwi hwj hij hjs hsl
      have hcj : (0 : Int) ≤ (j : Int) ∧ (j : Int) < (s.length : Int) := by omega
      have hci : (0 : Int) ≤ (i : Int) ∧ (i : Int) < (s.length : Int) := by omega
      rw [if_pos (dlt hcj), Chk_of hcj, Chk_of hcj, rb1_eq, Bind_snr, hwj]
      cases hq : refK id (ix s (j : Int)).Key
      · rw [if_pos (by decide), Chk_of hci, Chk_of hci, hwi, if_neg (by decide)]; rfl
      · rw [if_neg (by decide), if_pos (by decide)]
    intro r i s his hsl hF
    rw [if_neg (by simp)]
    simp only [Int.toNat_natCast, Option.getD_some, Option.getD_none, Nat.sub_zero]
    have l1 : (s.take i).length = i := by simp; omega
    rw [Chk_of (by omega), Chk_of (by omega)]
    simp only [List.append_assoc, take_app_len (s.take i) _ _ l1.symm]
    rw [Chk_of (by simp; omega), Chk_of (by simp; omega)]
    simp only [hF]
    refine (Bind_of (IF130 _ _ (refK id) (fun a => rb1_eq a id) (sm_of hso (by omega)))).trans ?_
    by_cases ho : idx (refK id) w.Overlaps 0 = -1
    · have hO : w.Overlaps.filter (fun k => !refK id k) = w.Overlaps := idx_none _ _ ho
      rw [ho, if_pos (by decide), hO]
      rw [show (([] : List Int) ++ (w.Joints.flatMap (fJ id) ++ w.Contacts.flatMap (fC id))) = nsP w id from rfl, wakeAllL_eq _ _ (smS w _ _ _ _ h hXs (by first | exact List.Sublist.refl _ | exact List.filter_sublist) (by first | exact List.Sublist.refl _ | exact List.filter_sublist) (by first | exact List.Sublist.refl _ | exact List.filter_sublist)) hns, Bind_snr]
    obtain ⟨ko, hko⟩ := idx_ne _ _ ho
    rw [hko, if_neg (by simp)]
    refine LOOP_delR w.Overlaps (refK id) _ ko _ (sm_of hso (by omega)) hko ?_ ?_
    · intro r i j s hwi hwj hij hjs hsl
      have hcj : (0 : Int) ≤ (j : Int) ∧ (j : Int) < (s.length : Int) := by omega
      have hci : (0 : Int) ≤ (i : Int) ∧ (i : Int) < (s.length : Int) := by omega
      rw [if_pos (dlt hcj), Chk_of hcj, Chk_of hcj, rb1_eq, Bind_snr, hwj]
      cases hq : refK id (ix s (j : Int))
      · rw [if_pos (by decide), Chk_of hci, Chk_of hci, hwi, if_neg (by decide)]; rfl
      · rw [if_neg (by decide), if_pos (by decide)]
    intro r i s his hsl hF
    rw [if_neg (by simp)]
    simp only [Int.toNat_natCast, Option.getD_some, Option.getD_none, Nat.sub_zero]
    have l1 : (s.take i).length = i := by simp; omega
    rw [Chk_of (by omega), Chk_of (by omega)]
    simp only [List.append_assoc, take_app_len (s.take i) _ _ l1.symm]
    rw [Chk_of (by simp; omega), Chk_of (by simp; omega)]
    simp only [hF]
    rw [show (([] : List Int) ++ (w.Joints.flatMap (fJ id) ++ w.Contacts.flatMap (fC id))) = nsP w id from rfl, wakeAllL_eq _ _ (smS w _ _ _ _ h hXs (by first | exact List.Sublist.refl _ | exact List.filter_sublist) (by first | exact List.Sublist.refl _ | exact List.filter_sublist) (by first | exact List.Sublist.refl _ | exact List.filter_sublist)) hns, Bind_snr]
  · intro r hidx
    have hC : w.Contacts.filter (fun c => !refK id c.Key) = w.Contacts := idx_none (fun c : Contact => refK id c.Key) _ hidx
    rw [if_neg (by simp), hC]
    refine (Bind_of (IF130 _ _ (refK id) (fun a => rb1_eq a id) (sm_of hso (by omega)))).trans ?_
    by_cases ho : idx (refK id) w.Overlaps 0 = -1
    · have hO : w.Overlaps.filter (fun k => !refK id k) = w.Overlaps := idx_none _ _ ho
      rw [ho, if_pos (by decide), hO]
      rw [show (([] : List Int) ++ (w.Joints.flatMap (fJ id) ++ w.Contacts.flatMap (fC id))) = nsP w id from rfl, wakeAllL_eq _ _ (smS w _ _ _ _ h hXs (by first | exact List.Sublist.refl _ | exact List.filter_sublist) (by first | exact List.Sublist.refl _ | exact List.filter_sublist) (by first | exact List.Sublist.refl _ | exact List.filter_sublist)) hns, Bind_snr]
    obtain ⟨ko, hko⟩ := idx_ne _ _ ho
    rw [hko, if_neg (by simp)]
    refine LOOP_delR w.Overlaps (refK id) _ ko _ (sm_of hso (by omega)) hko ?_ ?_
    · intro r i j s hwi hwj hij hjs hsl
      have hcj : (0 : Int) ≤ (j : Int) ∧ (j : Int) < (s.length : Int) := by omega
      have hci : (0 : Int) ≤ (i : Int) ∧ (i : Int) < (s.length : Int) := by omega
      rw [if_pos (dlt hcj), Chk_of hcj, Chk_of hcj, rb1_eq, Bind_snr, hwj]
      cases hq : refK id (ix s (j : Int))
      · rw [if_pos (by decide), Chk_of hci, Chk_of hci, hwi, if_neg (by decide)]; rfl
      · rw [if_neg (by decide), if_pos (by decide)]
    intro r i s his hsl hF
    rw [if_neg (by simp)]
    simp only [Int.toNat_natCast, Option.getD_some, Option.getD_none, Nat.sub_zero]
    have l1 : (s.take i).length = i := by simp; omega
    rw [Chk_of (by omega), Chk_of (by omega)]
    simp only [List.append_assoc, take_app_len (s.take i) _ _ l1.symm]
    rw [Chk_of (by simp; omega), Chk_of (by simp; omega)]
    simp only [hF]
    rw [show (([] : List Int) ++ (w.Joints.flatMap (fJ id) ++ w.Contacts.flatMap (fC id))) = nsP w id from rfl, wakeAllL_eq _ _ (smS w _ _ _ _ h hXs (by first | exact List.Sublist.refl _ | exact List.filter_sublist) (by first | exact List.Sublist.refl _ | exact List.filter_sublist) (by first | exact List.Sublist.refl _ | exact List.filter_sublist)) hns, Bind_snr]
end GoForm


set_option linter.all false
set_option maxRecDepth 100000
open Go Go.Rx

namespace GoForm
end GoForm


set_option linter.all false
set_option maxRecDepth 100000
open Go Go.Rx

namespace GoForm
def uniq (l : List Body) : Prop := l.Pairwise (fun a b => a.ID ≠ b.ID)
theorem vbs_facts (N : Int) : ∀ (l : List Body) (i : Nat) (p : Int), vbs N l i p = true → (∀ b ∈ l, p < b.ID) ∧ l.Pairwise (fun a b => a.ID < b.ID)
  | [], _, _, _ => ⟨by simp, .nil⟩
  | b :: t, i, p, h => by
    unfold vbs at h
    split at h
    · cases h
    · rename_i hc
      simp only [Bool.or_eq_true, decide_eq_true_eq, not_or] at hc
      obtain ⟨h1, h2⟩ := vbs_facts N t (i + 1) b.ID h
      refine ⟨?_, .cons h1 h2⟩
      intro x hx
      rcases List.mem_cons.1 hx with rfl | hx
      · omega
      · have := h1 x hx; omega
theorem valid_facts {w : World_} (h : wv w = 0) : posI w ∧ uniq w.Bodies := by
  have hb : vbs w.NextID w.Bodies 0 0 = true := by
    cases hv : vbs w.NextID w.Bodies 0 0
    · unfold wv at h
      rw [hv] at h
      exfalso
      repeat' split at h
      all_goals first | omega | simp at *
    · rfl
  obtain ⟨h1, h2⟩ := vbs_facts _ _ _ _ hb
  exact ⟨fun b hb => by have := h1 b hb; omega, h2.imp (fun h => by omega)⟩
def wkIf (p : Int → Bool) (b : Body) : Body := if p b.ID = true ∧ b.Kind = 3 then wkB b else b
theorem wkIf_none (p : Int → Bool) : ∀ l : List Body, (∀ b ∈ l, p b.ID = false) → l.map (wkIf p) = l
  | [], _ => rfl
  | b :: t, h => by
    rw [List.map_cons, wkIf_none p t (fun x hx => h x (by simp [hx]))]
    have := h b (by simp)
    unfold wkIf; rw [this]; simp
theorem wake_list : ∀ (l : List Body) (a : Int) (i k : Nat), uniq l → idx (fun b : Body => b.ID == a) l i = (k : Int) → i ≤ k ∧ k - i < l.length ∧
    (if (ix l ((k - i : Nat) : Int)).Kind = 3 then l.set (k - i) (wkB (ix l ((k - i : Nat) : Int))) else l) = l.map (wkIf (fun x => x == a))
  | [], a, i, k, _, h => by simp [idx] at h
  | b :: t, a, i, k, hu, h => by
    have hu2 : uniq t := (List.pairwise_cons.1 hu).2
    cases hq : (b.ID == a)
    · rw [idx_shift (fun b : Body => b.ID == a) _ _ _ hq] at h
      obtain ⟨h1, h2, h3⟩ := wake_list t a (i + 1) k hu2 h
      have e : k - i = (k - (i + 1)) + 1 := by omega
      refine ⟨by omega, by simp; omega, ?_⟩
      rw [List.map_cons, ← h3, e]
      have hb : wkIf (fun x => x == a) b = b := if_neg (by rintro ⟨q, _⟩; have q : (b.ID == a) = true := q; rw [hq] at q; cases q)
      rw [hb]
      show (if (ix t ((k - (i + 1) : Nat) : Int)).Kind = 3 then (b :: t).set ((k - (i + 1)) + 1) (wkB (ix t ((k - (i + 1) : Nat) : Int))) else b :: t) = _
      split <;> rfl
    · rw [idx, if_pos hq] at h
      have : k = i := by omega
      subst this
      rw [Nat.sub_self]
      refine ⟨Nat.le_refl _, by simp, ?_⟩
      have ha : b.ID = a := by simpa using hq
      have hn : t.map (wkIf (fun x => x == a)) = t := wkIf_none _ t (fun x hx => by
        have := (List.pairwise_cons.1 hu).1 x hx
        rw [ha] at this
        simpa using fun q => this q.symm)
      rw [List.map_cons, hn]
      show (if b.Kind = 3 then wkB b :: t else b :: t) = _
      unfold wkIf
      by_cases h3 : b.Kind = 3 <;> simp [hq, h3]
theorem wakeW_map (w : World_) (a : Int) (h : uniq w.Bodies) : wakeW w a = { w with Bodies := w.Bodies.map (wkIf (fun x => x == a)) } := by
  unfold wakeW
  rcases fb_cases w a with hk | ⟨k, hk, hl⟩
  · rw [hk, if_neg (by simp)]
    have hn : w.Bodies.map (wkIf (fun x => x == a)) = w.Bodies := wkIf_none _ _ (fun b hb => by
      have h2 := idx_any (fun b : Body => b.ID == a) w.Bodies 0
      unfold fb at hk
      rw [hk] at h2
      have h3 : w.Bodies.any (fun b : Body => b.ID == a) = false := by rw [← h2]; rfl
      rw [List.any_eq_false] at h3
      have := h3 b hb
      simpa using this)
    rw [hn]
  · obtain ⟨_, _, h3⟩ := wake_list w.Bodies a 0 k h hk
    rw [Nat.sub_zero] at h3
    rw [hk, Int.toNat_natCast, ← h3]
    by_cases hk3 : (ix w.Bodies (k : Int)).Kind = 3
    · rw [if_pos (by simp [hk3]), if_pos hk3]
    · rw [if_neg (by simp [hk3]), if_neg hk3]
end GoForm


set_option linter.all false
set_option maxRecDepth 100000
open Go Go.Rx

namespace GoForm
def changeB (b : Body) (x : Input) : Body :=
  if x.Kind = 1 then GoOld.impB b (GoOld.centerW b) x.Vec
  else if x.Kind = 3 then GoOld.angB b x.Value
  else if x.Kind = 2 then { b with Force := GoOld.addV b.Force x.Vec }
  else if x.Kind = 4 then { b with Transform := ⟨x.Vec, x.Value⟩ }
  else if x.Kind = 5 then GoOld.clampB { b with Velocity := x.Vec, AngularVelocity := x.Value }
  else b
theorem changeB_fix (b : Body) (x : Input) : (changeB b x).Fixtures = b.Fixtures := by
  unfold changeB
  split
  · exact GoOld.impB_fix _ _ _
  · split
    · exact GoOld.angB_fix _ _
    · repeat' split
      all_goals rfl
theorem changed_eq (b : Body) (x : Input) : input_changed b x = some (changeB b x) := by
  unfold input_changed changeB
  simp only [Let_nr, Join_nr, br_body_WorldCenter, br_body_ApplyImpulse, br_body_ApplyAngularImpulse, br_vec2_Add, br_body_ClampVelocity, GoOld.body_WorldCenter_eq, GoOld.body_ApplyImpulse_eq, GoOld.body_ApplyAngularImpulse_eq, GoOld.vec2_Add_eq, GoOld.body_ClampVelocity_eq, Bind_snr, beq_iff_eq]
  repeat' split
  all_goals rfl
def chkB (b : Body) (x : Input) : Int :=
  if x.Kind = 4 then (if GoOld.TrOk ⟨x.Vec, x.Value⟩ then 0 else 6)
  else if x.Kind = 5 then (if b.Kind = 1 then 10 else 0)
  else if b.Kind ≠ 3 then 10 else 0
theorem checkB_eq (b : Body) (x : Input) : input_checkBody b x = some (chkB b x) := by
  unfold input_checkBody chkB
  simp only [Let_nr, Join_nr, br_transform_Valid, GoOld.transform_Valid_eq, Bind_snr, beq_iff_eq, bne_iff_ne]
  by_cases h4 : x.Kind = 4
  · rw [if_pos h4, if_pos h4]
    by_cases ht : GoOld.TrOk ⟨x.Vec, x.Value⟩
    · rw [if_pos ht, if_neg (by simp [ht])]
    · rw [if_neg ht, if_pos (by simp [ht])]
  · rw [if_neg h4, if_neg h4]
    repeat' split
    all_goals first | rfl | omega
def setB (w : World_) (k : Nat) (b : Body) : World_ := { w with Bodies := w.Bodies.set k b }
def bodyA (w : World_) (x : Input) : World_ × Int :=
  if fb w x.ID < 0 then (zeroW, 8)
  else if chkB (ix w.Bodies (fb w x.ID)) x ≠ 0 then (zeroW, chkB (ix w.Bodies (fb w x.ID)) x)
  else (wakeW (setB w (fb w x.ID).toNat (changeB (ix w.Bodies (fb w x.ID)) x)) x.ID, 0)
theorem setB_sm (w : World_) (k : Nat) (b : Body) (h : SmW w) (hb : SmB b) : SmW (setB w k b) := by
  refine ⟨by unfold setB; simpa using h.bodies, h.joints, h.contacts, h.overlaps, h.points, ?_⟩
  intro c hc
  rcases mem_set_or _ _ _ _ hc with hc | hc
  · exact h.body c hc
  · rw [hc]; exact hb
theorem changeB_sm (b : Body) (x : Input) (h : SmB b) : SmB (changeB b x) := by unfold SmB; rw [changeB_fix]; exact h
theorem bodyA_eq (w : World_) (x : Input) (h : SmW w) : input_applyToBody w x = some (bodyA w x) := by
  have hsb := h.bodies
  unfold input_applyToBody bodyA
  rw [world_Find_eq w _ (sm_of h.bodies (by omega)), Bind_snr]
  simp only [Let_nr, Join_nr, checkB_eq, changed_eq, Bind_snr]
  rcases fb_cases w x.ID with hk | ⟨k, hk, hl⟩
  · rw [hk, if_pos (by simp), if_pos (by decide)]; rfl
  have n4 : ¬ ((k : Int) < 0) := by omega
  rw [hk, if_neg (by simp), if_neg n4, Chk_of (by omega), world_Clone_eq w h]
  by_cases hc : chkB (ix w.Bodies (k : Int)) x = 0
  · rw [if_neg (by rw [hc]; simp), if_neg (by rw [hc]; simp), Bind_snr, Chk_of (by omega), Chk_of (by omega), Chk_of (by omega), Chk_of (by omega)]
    have hs : SmW (setB w k (changeB (ix w.Bodies (k : Int)) x)) := setB_sm w k _ h (changeB_sm _ _ (h.body _ (ix_mem w.Bodies _ (by omega))))
    show Rx.Bind (world_WakeBody (setB w k (changeB (ix w.Bodies (k : Int)) x)) x.ID) _ = _
    rw [world_Wake_eq _ _ hs, Bind_snr]; rfl
  · rw [if_pos (by simpa using hc), if_pos hc]; rfl
end GoForm


set_option linter.all false
set_option maxRecDepth 100000
open Go Go.Rx

namespace GoForm
def putJ (w : World_) (k : Nat) (j : Joint) : World_ := { w with Joints := w.Joints.set k j }
def newJ (j : Joint) (x : Input) : Joint := if x.Kind = 7 then { j with AnchorA := x.Vec } else { j with MotorSpeed := x.Value }
def badJ (j : Joint) (x : Input) : Bool := if x.Kind = 7 then decide (j.Kind ≠ 5) else !j.EnableMotor
def jointA (w : World_) (x : Input) : World_ × Int :=
  if fj w x.ID < 0 then (zeroW, 8)
  else if badJ (ix w.Joints (fj w x.ID)) x = true then (zeroW, 10)
  else if jv (newJ (ix w.Joints (fj w x.ID)) x) ≠ 0 then (zeroW, 6)
  else (wakeW (wakeW (putJ w (fj w x.ID).toNat (newJ (ix w.Joints (fj w x.ID)) x)) (ix w.Joints (fj w x.ID)).BodyA) (ix w.Joints (fj w x.ID)).BodyB, 0)
theorem putJ_sm (w : World_) (k : Nat) (j : Joint) (h : SmW w) : SmW (putJ w k j) :=
  ⟨h.bodies, by unfold putJ; simpa using h.joints, h.contacts, h.overlaps, h.points, h.body⟩
theorem newJ_A (j : Joint) (x : Input) : (newJ j x).BodyA = j.BodyA := by unfold newJ; split <;> rfl
theorem newJ_B (j : Joint) (x : Input) : (newJ j x).BodyB = j.BodyB := by unfold newJ; split <;> rfl
theorem jointA_eq (w : World_) (x : Input) (h : SmW w) : input_applyToJoint w x = some (jointA w x) := by
  have hsj := h.joints
  unfold input_applyToJoint jointA
  rw [world_FindJ_eq w _ (sm_of h.joints (by omega)), Bind_snr]
  simp only [Let_nr, Join_nr, joint_Val_eq, Bind_snr]
  rcases fj_cases w x.ID with hk | ⟨k, hk, hl⟩
  · rw [hk, if_pos (by simp), if_pos (by decide)]; rfl
  have n4 : ¬ ((k : Int) < 0) := by omega
  have hck : (0 : Int) ≤ (k : Int) ∧ (k : Int) < (w.Joints.length : Int) := by omega
  rw [hk, if_neg (by simp), if_neg n4, Chk_of hck, world_Clone_eq w h]
  simp only [Bind_snr, Chk_of hck, Int.toNat_natCast]
  generalize ix w.Joints (k : Int) = j
  have tail : ∀ j' : Joint, j' = newJ j x → (if (jv j' != 0) = true then some (zeroW, (6 : Int)) else Rx.Bind (world_WakeBody { Settings := w.Settings, Bodies := w.Bodies, Joints := w.Joints.set k j', Contacts := w.Contacts, Overlaps := w.Overlaps, NextID := w.NextID, Frame := w.Frame } j'.BodyA) fun r => Rx.Bind (world_WakeBody r j'.BodyB) fun r2 => some (r2, (0 : Int))) =
      some (if jv (newJ j x) ≠ 0 then (zeroW, 6) else (wakeW (wakeW (putJ w k (newJ j x)) j.BodyA) j.BodyB, 0)) := by
    intro j' e
    subst e
    by_cases hz : jv (newJ j x) = 0
    · rw [if_neg (by simp [hz]), if_neg (by simp [hz])]
      have hp := putJ_sm w k (newJ j x) h
      show Rx.Bind (world_WakeBody (putJ w k (newJ j x)) _) _ = _
      rw [newJ_A, newJ_B, world_Wake_eq _ _ hp, Bind_snr, world_Wake_eq _ _ (wake_sm _ _ hp), Bind_snr]
    · rw [if_pos (by simpa using hz), if_pos hz]
  have yes : badJ j x = false → ∀ e : Option (World_ × Int), e = some (if jv (newJ j x) ≠ 0 then (zeroW, 6) else (wakeW (wakeW (putJ w k (newJ j x)) j.BodyA) j.BodyB, 0)) → e = some (if badJ j x = true then (zeroW, 10) else if jv (newJ j x) ≠ 0 then (zeroW, 6) else (wakeW (wakeW (putJ w k (newJ j x)) j.BodyA) j.BodyB, 0)) := by
    intro hb e he; rw [if_neg (by rw [hb]; decide), he]
  have no : badJ j x = true → some (zeroW, (10 : Int)) = some (if badJ j x = true then (zeroW, 10) else if jv (newJ j x) ≠ 0 then (zeroW, 6) else (wakeW (wakeW (putJ w k (newJ j x)) j.BodyA) j.BodyB, 0)) := by
    intro hb; rw [if_pos hb]
  by_cases h7 : x.Kind = 7
  · by_cases h5 : j.Kind = 5
    · rw [if_pos (by simp [h7]), if_neg (by simp [h5])]
      exact yes (by unfold badJ; simp [h7, h5]) _ (tail _ (by unfold newJ; rw [if_pos h7]))
    · rw [if_pos (by simp [h7]), if_pos (by simp [h5])]
      exact no (by unfold badJ; simp [h7, h5])
  · cases hm : j.EnableMotor
    · rw [if_neg (by simp [h7]), if_pos (by rfl)]
      exact no (by unfold badJ; simp [h7, hm])
    · rw [if_neg (by simp [h7]), if_neg (by decide)]
      exact yes (by unfold badJ; simp [h7, hm]) _ (tail _ (by unfold newJ; rw [if_neg h7, hm]))
end GoForm


set_option linter.all false
set_option maxRecDepth 100000
open Go Go.Rx

namespace GoForm
def zBody : Body := { ID := 0, Kind := 0, Transform := { Position := { X := 0, Y := 0 }, Angle := 0 }, Velocity := { X := 0, Y := 0 }, AngularVelocity := 0, Force := { X := 0, Y := 0 }, Torque := 0, LinearDamping := 0, AngularDamping := 0, GravityScale := 0, Bullet := false, FixedRotation := false, NoSleep := false, Asleep := false, IdleSteps := 0, Fixtures := [] }
theorem fuel20 : ∃ m, fuel = m + 20 := ⟨2 ^ 70 - 20, by unfold fuel; decide⟩
theorem bodyZ (b : Body) : ∃ be, body_Equal b zBody = some be ∧ caromref23_Equal b zBody = some be := by
  obtain ⟨m, hm⟩ := fuel20
  unfold body_Equal caromref23_Equal
  rw [hm]
  simp only [Let_nr]
  by_cases h : b.Fixtures = []
  · refine ⟨_, by rw [if_neg (by rw [h]; decide), LOOP_s, if_neg (by rw [h]; simp)], ?_⟩
    rw [if_neg (by rw [h]; decide), LOOP_s, if_neg (by rw [h]; simp)]
    have key : ∀ (c d e : Bool), ((!c) && d) = e → (if c = true then some false else some d) = some e := by
      intro c d e h; cases c <;> simp_all
    refine key _ _ _ ?_
    simp only [cond_or, cond_and]
    rw [Bool.eq_iff_iff]
    simp only [Bool.and_eq_true, Bool.or_eq_true, Bool.not_eq_true', Bool.or_eq_false_iff, bne_eq_false_iff_eq, Bool.not_eq_false', beq_iff_eq, decide_eq_true_iff]
    grind
  · have hl : b.Fixtures.length ≠ 0 := fun q => h (List.length_eq_zero_iff.1 q)
    refine ⟨false, ?_, ?_⟩ <;> rw [if_pos (by rw [bne_iff_ne]; show ((b.Fixtures.length : Int)) ≠ ((0 : Nat) : Int); omega)]
theorem Used_eq (k : Int) : caromref43_UsedFields k = input_UsedFields k := by
  unfold caromref43_UsedFields input_UsedFields; rfl
def satI (n : Int) : Bool := decide (-536870911 ≤ n) && decide (n ≤ 536870911)
theorem isSat_eq (n : Int) : input_isSaturated n = some (satI n) := by
  unfold input_isSaturated satI; simp only [Let_nr, cond_and]; try rfl
theorem unsat_eq (n : Int) : caromref43_unsaturated n = some (!satI n) := by
  unfold caromref43_unsaturated satI
  simp only [Let_nr, cond_or]
  by_cases h1 : -536870911 ≤ n <;> by_cases h2 : n ≤ 536870911 <;> simp [h1, h2] <;> try omega
theorem if_some2V {α : Type} {p : Prop} [Decidable p] (a b : α) : (if p then some a else some b) = some (if p then a else b) := by split <;> rfl
theorem Validate43_eq (x : Input) : ∃ e, input_Validate x = some e ∧ caromref43_Validate x = some e := by
  obtain ⟨be, hb1, hb2⟩ := bodyZ x.Body
  obtain ⟨u, hu⟩ : ∃ u, input_UsedFields x.Kind = some u := by
    unfold input_UsedFields
    simp only [Let_nr, Join_nr, if_some2V]
    exact ⟨_, rfl⟩
  unfold input_Validate caromref43_Validate
  unfold zBody at hb1 hb2
  rw [Used_eq, hu]
  simp only [Let_nr, Join_nr, Bind_snr, hb1, hb2, isSat_eq, unsat_eq, Bind_if, cond_or, cond_and, if_some2V]
  refine ⟨_, rfl, ?_⟩
  congr 1
  obtain ⟨u1, u2, u3⟩ := u
  simp only
  generalize (decide (x.Kind < 1) || decide (x.Kind > 12)) = k0
  generalize (decide (x.ID < 1) || decide (x.ID > 1099511627776)) = i0
  generalize satI x.Vec.X = sx
  generalize satI x.Vec.Y = sy
  generalize satI x.Value = sv
  generalize (x.ID != 0) = i1
  generalize (!(decide (x.Vec.X = 0) && decide (x.Vec.Y = 0))) = v1
  generalize (x.Value != 0) = v2
  generalize (x.Kind != 9) = k9
  generalize (x.Kind != 11) = k11
  generalize (!(decide (x.Joint.ID = 0) && _)) = jz
  cases k0
  · cases u1 <;> cases u2 <;> cases u3 <;> cases i0 <;> cases sx <;> cases sy <;> cases sv <;> (try rfl) <;> cases i1 <;> cases v1 <;> cases v2 <;> (try rfl) <;> cases k9 <;> cases be <;> (try rfl) <;> cases k11 <;> cases jz <;> rfl
  · rfl
end GoForm


set_option linter.all false
set_option maxRecDepth 100000
open Go Go.Rx

namespace GoForm
theorem few43_eq (l : List Input) : caromlaw43_few l = some (decide ((l.length : Int) ≤ 40) && l.all (fun x => fewB x.Body)) := by
  unfold caromlaw43_few
  simp only [Let_nr]
  by_cases h : (l.length : Int) > 40
  · rw [if_pos (by simpa using h)]
    rw [decide_eq_false (by omega)]; rfl
  · rw [if_neg (by simpa using h)]
    rw [decide_eq_true (by omega), Bool.true_and]
    refine (LOOP_all l (fun x => fewB x.Body) (some true) (some false) _ (sm_of (n := 40) (by omega) (by omega)) ?_ ?_).trans ?_
    · intro r i hw hc hm
      have hB : caromref22_Few [(ix l (i : Int)).Body] (1 : Int) = some (decide ((([(ix l (i : Int)).Body] : List Body).length : Int) ≤ ((1 : Nat) : Int)) && [(ix l (i : Int)).Body].all fewB) := ref22_Few_eq [(ix l (i : Int)).Body] 1 (by omega)
      have hB' : caromref22_Few [(ix l (i : Int)).Body] (1 : Int) = some (fewB (ix l (i : Int)).Body) := by rw [hB]; simp
      rw [if_pos (dlt hc), Chk_of hc, hB', Bind_snr, hw]
      cases fewB (ix l (i : Int)).Body <;> rfl
    · intro r; rw [if_neg (by simp)]
    · cases l.all (fun x => fewB x.Body) <;> rfl
theorem fewB_sm {b : Body} (h : fewB b = true) : SmB b := by
  unfold fewB at h
  simp only [Bool.and_eq_true, decide_eq_true_eq, List.all_eq_true] at h
  exact ⟨by omega, fun f hf => by have := h.2 f hf; omega⟩
end GoForm


set_option linter.all false
set_option maxRecDepth 100000
open Go Go.Rx

namespace GoForm
theorem cl0 : slices_Clone = fun s => Rx.Chk (s.length * 152 ≤ 140737488355328) (some s) := by
  funext s; unfold slices_Clone; exact Alike_of (by intro h; subst h; rw [Chk_of (by simp)])
theorem cl107 : slices_Clone_107 = fun s => Rx.Chk (s.length * 192 ≤ 140737488355328) (some s) := by
  funext s; unfold slices_Clone_107; exact Alike_of (by intro h; subst h; rw [Chk_of (by simp)])
theorem cl108 : slices_Clone_108 = fun s => Rx.Chk (s.length * 72 ≤ 140737488355328) (some s) := by
  funext s; unfold slices_Clone_108; exact Alike_of (by intro h; subst h; rw [Chk_of (by simp)])
theorem cl109 : slices_Clone_109 = fun s => Rx.Chk (s.length * 32 ≤ 140737488355328) (some s) := by
  funext s; unfold slices_Clone_109; exact Alike_of (by intro h; subst h; rw [Chk_of (by simp)])
theorem example43 : caromlaw43_example = some true := by
  unfold caromlaw43_example input_Apply input_applyToBody world_WakeBody world_Clone
  simp only [cl0, cl107, cl108, cl109]
  kernel_rfl
end GoForm


set_option linter.all false
set_option maxRecDepth 100000
open Go Go.Rx

namespace GoForm
def applyS (w : World_) (x : Input) (e : Int) : World_ × Int × Int :=
  if wv w ≠ 0 then (zeroW, 0, 18)
  else if e ≠ 0 then (zeroW, 0, e)
  else if x.Kind = 9 then addW w x.Body
  else if x.Kind = 11 then addJ w x.Joint
  else if x.Kind = 10 then ((rmP w x.ID).1, 0, (rmP w x.ID).2)
  else if x.Kind = 12 then ((remJ w x.ID).1, 0, (remJ w x.ID).2)
  else if x.Kind = 7 ∨ x.Kind = 8 then ((jointA w x).1, 0, (jointA w x).2)
  else ((bodyA w x).1, 0, (bodyA w x).2)
theorem Apply_eq (w : World_) (x : Input) (e : Int) (h : Few w) (hb : SmB x.Body) (he : input_Validate x = some e) : input_Apply w x = some (applyS w x e) := by
  have hs := h.smw
  have hl : w.Joints.length ≤ 1000 := by have := h.joints; omega
  unfold input_Apply applyS
  rw [world_Val_eq w h, Bind_snr, he]
  simp only [Let_nr, Join_nr, Bind_snr]
  by_cases hv : wv w = 0
  · obtain ⟨hp, hu⟩ := valid_facts hv
    have hvn : ¬ wv w ≠ 0 := by simp [hv]
    rw [if_neg (by simp [hv]), if_neg hvn]
    by_cases h0 : e = 0
    · have h0n : ¬ e ≠ 0 := by simp [h0]
      rw [if_neg (by simp [h0]), if_neg h0n]
      rw [world_Add_eq w _ hs hb, world_AddJ_eq w _ hs hp hl, world_Rem_eq w _ hs, world_RemJ_eq w _ hs hp, jointA_eq w x hs, bodyA_eq w x hs]
      simp only [Bind_snr]
      by_cases h9 : x.Kind = 9
      · rw [if_pos (by simp [h9]), if_pos h9]
      rw [if_neg (by simp [h9]), if_neg h9]
      by_cases h11 : x.Kind = 11
      · rw [if_pos (by simp [h11]), if_pos h11]
      rw [if_neg (by simp [h11]), if_neg h11]
      by_cases h10 : x.Kind = 10
      · rw [if_pos (by simp [h10]), if_pos h10]
      rw [if_neg (by simp [h10]), if_neg h10]
      by_cases h12 : x.Kind = 12
      · rw [if_pos (by simp [h12]), if_pos h12]
      rw [if_neg (by simp [h12]), if_neg h12]
      by_cases h7 : x.Kind = 7
      · rw [if_pos (by simp [h7]), if_pos (by simp [h7]), if_pos (Or.inl h7)]
      rw [if_neg (by simp [h7])]
      by_cases h8 : x.Kind = 8
      · rw [if_pos (by simp [h8]), if_pos (Or.inr h8)]
      rw [if_neg (by simp [h8]), if_neg (by omega)]
    · rw [if_pos (by simpa using h0), if_pos h0]; rfl
  · rw [if_pos (by simpa using hv), if_pos hv]; rfl
end GoForm


set_option linter.all false
set_option maxRecDepth 100000
open Go Go.Rx

namespace GoForm
theorem few_wake (w : World_) (id : Int) (h : Few w) : Few (wakeW w id) := by
  unfold wakeW
  split
  next hc =>
    have hx : ix w.Bodies (fb w id) ∈ w.Bodies := by
      rcases fb_cases w id with hk | ⟨k, hk, hl⟩
      · rw [hk] at hc; simp at hc
      · exact ix_mem w.Bodies _ (by omega)
    refine ⟨by simpa using h.bodies, h.joints, h.contacts, h.overlaps, h.points, ?_, ?_⟩
    · intro b hb
      rcases mem_set_or _ _ _ _ hb with hb | hb
      · exact h.fixtures b hb
      · rw [hb]; have hh := h.fixtures (ix w.Bodies (fb w id)) hx; exact hh
    · intro b hb
      rcases mem_set_or _ _ _ _ hb with hb | hb
      · exact h.vertices b hb
      · rw [hb]; have hh := h.vertices (ix w.Bodies (fb w id)) hx; exact hh
  · exact h
theorem few_wakeL : ∀ (ns : List Int) (w : World_), Few w → Few (wakeL w ns)
  | [], w, h => h
  | a :: t, w, h => by
    unfold wakeL
    split
    · exact few_wakeL t w h
    · exact few_wakeL t _ (few_wake _ _ h)
theorem few_zero : Few zeroW := nilW_few ⟨0, ⟨0, 0⟩, 0, 0⟩ 0
theorem few_joints (w : World_) (J : List Joint) (n : Int) (h : Few w) (hj : J.length ≤ 40) : Few { w with Joints := J, NextID := n } :=
  ⟨h.bodies, hj, h.contacts, h.overlaps, h.points, h.fixtures, h.vertices⟩
theorem few_sub (w : World_) (id : Int) (k : Nat) (h : Few w) : Few (rmW w id k) := by
  have hb := cutSub w.Bodies k
  exact ⟨Nat.le_trans hb.length_le h.bodies, Nat.le_trans (List.length_filter_le _ _) h.joints, Nat.le_trans (List.length_filter_le _ _) h.contacts, Nat.le_trans (List.length_filter_le _ _) h.overlaps,
    fun c hc => h.points c (List.filter_sublist.subset hc), fun b hm => h.fixtures b (hb.subset hm), fun b hm => h.vertices b (hb.subset hm)⟩
theorem few_set (w : World_) (k : Nat) (b : Body) (h : Few w) (h1 : b.Fixtures.length ≤ 8) (h2 : ∀ f ∈ b.Fixtures, f.Shape.Vertices.length ≤ 20) : Few (setB w k b) := by
  refine ⟨by unfold setB; simpa using h.bodies, h.joints, h.contacts, h.overlaps, h.points, ?_, ?_⟩
  · intro c hc
    rcases mem_set_or _ _ _ _ hc with hc | hc
    · exact h.fixtures c hc
    · rw [hc]; exact h1
  · intro c hc
    rcases mem_set_or _ _ _ _ hc with hc | hc
    · exact h.vertices c hc
    · rw [hc]; exact h2
theorem applyS_few (w : World_) (x : Input) (e : Int) (h : Few w) (hb : fewB x.Body = true) : Few (applyS w x e).1 := by
  have hbb : x.Body.Fixtures.length ≤ 8 ∧ ∀ f ∈ x.Body.Fixtures, f.Shape.Vertices.length ≤ 20 := by
    unfold fewB at hb
    simp only [Bool.and_eq_true, decide_eq_true_eq, List.all_eq_true] at hb
    exact ⟨by omega, fun f hf => by have := hb.2 f hf; omega⟩
  unfold applyS
  split
  · exact few_zero
  split
  · exact few_zero
  split
  · unfold addW
    split
    · exact few_zero
    split
    · exact few_zero
    · rename_i hc _
      simp only [Bool.or_eq_true, decide_eq_true_eq, not_or] at hc
      refine ⟨by simp; omega, h.joints, h.contacts, h.overlaps, h.points, ?_, ?_⟩
      · intro b hm
        rcases List.mem_append.1 hm with hm | hm
        · exact h.fixtures b hm
        · rw [List.mem_singleton.1 hm]; exact hbb.1
      · intro b hm
        rcases List.mem_append.1 hm with hm | hm
        · exact h.vertices b hm
        · rw [List.mem_singleton.1 hm]; exact hbb.2
  split
  · unfold addJ
    split
    · exact few_zero
    split
    · exact few_zero
    · rename_i hc _
      simp only [Bool.or_eq_true, decide_eq_true_eq, not_or] at hc
      exact few_wake _ _ (few_wake _ _ (few_joints w _ _ h (by simp; omega)))
  split
  · unfold rmP
    split
    · exact few_zero
    · exact few_wakeL _ _ (few_sub _ _ _ h)
  split
  · unfold remJ
    split
    · exact few_zero
    · exact few_wake _ _ (few_wake _ _ (few_joints w _ w.NextID h (by have := h.joints; simp; omega)))
  split
  · unfold jointA
    split
    · exact few_zero
    split
    · exact few_zero
    split
    · exact few_zero
    · exact few_wake _ _ (few_wake _ _ (few_joints w _ w.NextID h (by have := h.joints; simp; omega)))
  · unfold bodyA
    split
    · exact few_zero
    split
    · exact few_zero
    · rename_i h1 h2
      have hx : ix w.Bodies (fb w x.ID) ∈ w.Bodies := by
        rcases fb_cases w x.ID with hk | ⟨k, hk, hl⟩
        · rw [hk] at h1; omega
        · exact ix_mem w.Bodies _ (by omega)
      exact few_wake _ _ (few_set _ _ _ h (by rw [changeB_fix]; exact h.fixtures _ hx) (by rw [changeB_fix]; exact h.vertices _ hx))
noncomputable def vE (x : Input) : Int := Classical.choose (Validate43_eq x)
theorem vE_eq (x : Input) : input_Validate x = some (vE x) ∧ caromref43_Validate x = some (vE x) := Classical.choose_spec (Validate43_eq x)
noncomputable def run : World_ → List Int → List Input → World_ × List Int
  | w, es, [] => (w, es)
  | w, es, x :: t => run (if (applyS w x (vE x)).2.2 = 0 then (applyS w x (vE x)).1 else w) (es ++ [(applyS w x (vE x)).2.2]) t
theorem run_len : ∀ (l : List Input) (w : World_) (es : List Int), (run w es l).2.length = es.length + l.length
  | [], w, es => by simp [run]
  | x :: t, w, es => by unfold run; rw [run_len t]; simp; omega
theorem run_few : ∀ (l : List Input) (w : World_) (es : List Int), Few w → (∀ x ∈ l, fewB x.Body = true) → Few (run w es l).1
  | [], w, es, h, _ => h
  | x :: t, w, es, h, hl => by
    unfold run
    refine run_few t _ _ ?_ (fun y hy => hl y (by simp [hy]))
    split
    · exact applyS_few w x _ h (hl x (by simp))
    · exact h
def fill : List Int → List Input → List Int
  | es, [] => es
  | es, _ :: t => fill (es ++ [18]) t
noncomputable def allS (w : World_) (l : List Input) : World_ × List Int := if wv w ≠ 0 then (zeroW, fill [] l) else run w [] l
theorem ApplyAll_eq (w : World_) (l : List Input) (h : Few w) (hl : l.length ≤ 40) (hb : ∀ x ∈ l, fewB x.Body = true) : input_ApplyAll w l = some (allS w l) := by
  unfold input_ApplyAll allS
  simp only [Let_nr, Join_nr]
  rw [Chk_of (by omega), world_Val_eq w h, Bind_snr]
  by_cases hv : wv w = 0
  · have hvn : ¬ wv w ≠ 0 := by simp [hv]
    rw [if_neg (by simp [hv]), if_neg hvn, world_Clone_eq w h.smw, Bind_snr]
    refine LOOP_g l (fun (v : List Int × Int × World_) => v.2.1) (fun i v => v.1.length ≤ i ∧ Few v.2.2) (fun t v => some (run v.2.2 v.1 t)) _ _ (sm_of hl (by omega)) rfl ⟨by simp, h⟩ ?_ ?_
    · rintro r i t ⟨es, j, w'⟩ hv ⟨hP, hF⟩ hw hc hm hr
      simp only at hv hP hF
      subst hv
      simp only []
      rw [if_pos (dlt hc), Chk_of hc, Apply_eq w' _ _ hF (fewB_sm (hb _ hm)) (vE_eq _).1, Bind_snr, hw]
      have hF2 := applyS_few w' _ (vE (ix l (i : Int))) hF (hb _ hm)
      show _ = some (run (if _ = 0 then _ else _) _ t)
      by_cases h0 : (applyS w' (ix l (i : Int)) (vE (ix l (i : Int)))).2.2 = 0
      · rw [if_pos (by simpa using h0), if_pos h0, Chk_of (by simp; omega)]
        exact hr _ rfl ⟨by simp; omega, hF2⟩
      · rw [if_neg (by simpa using h0), if_neg h0, Chk_of (by simp; omega)]
        exact hr _ rfl ⟨by simp; omega, hF⟩
    · rintro r ⟨es, j, w'⟩ hv ⟨hP, hF⟩
      simp only at hv
      subst hv
      simp only []
      rw [if_neg (by simp)]; rfl
  · rw [if_pos (by simpa using hv), if_pos hv]
    refine LOOP_i l (fun i s => s.length ≤ i) (fun t _ s => some (zeroW, fill s t)) _ _ (sm_of hl (by omega)) (by simp) ?_ ?_
    · intro r i t s hP hw hc hm hr
      simp only []
      rw [if_pos (dlt hc), Chk_of (by omega), hw]
      exact hr _ (by simp; omega)
    · intro r s hP; simp only []; rw [if_neg (by simp)]; rfl
end GoForm


set_option linter.all false
set_option maxRecDepth 100000
open Go Go.Rx

namespace GoForm
abbrev Sig := List (Int × Nat)
def sg (b : Body) : Int × Nat := (b.ID, b.Fixtures.length)
def sgs (w : World_) : Sig := w.Bodies.map sg
def hasB (S : Sig) (id : Int) : Prop := ∃ s ∈ S, s.1 = id
def hasF (S : Sig) (id n : Int) : Prop := ∃ s ∈ S, s.1 = id ∧ 0 ≤ n ∧ n < (s.2 : Int)
def KS (S : Sig) (l : List PairKey) : Prop := (∀ k ∈ l, okK k = true ∧ hasF S k.BodyA k.FixtureA ∧ hasF S k.BodyB k.FixtureB) ∧ l.Pairwise (fun a b => lessK a b = true)
structure RV (S : Sig) (N : Int) (st : Settings) (fr : Int) (J : List Joint) (C : List Contact) (O : List PairKey) : Prop where
  set : vset st = 0
  nb : S.length ≤ 32
  nj : J.length ≤ 32
  nc : C.length ≤ 8192
  no : O.length ≤ 8192
  nid : 1 ≤ N ∧ N ≤ 1099511627776
  frm : inb fr 0 1099511627776 = true
  bid : ∀ s ∈ S, 0 < s.1 ∧ s.1 < N
  bsrt : S.Pairwise (fun a b => a.1 < b.1)
  jnt : ∀ j ∈ J, jv j = 0 ∧ 0 < j.ID ∧ j.ID < N ∧ (j.BodyA = 0 ∨ hasB S j.BodyA) ∧ (j.BodyB = 0 ∨ hasB S j.BodyB) ∧ ¬ hasB S j.ID
  jsrt : J.Pairwise (fun a b => a.ID < b.ID)
  man : ∀ c ∈ C, mOk c.Manifold = true
  ck : KS S (C.map (·.Key))
  ok : KS S O
def BV (w : World_) : Prop := ∀ b ∈ w.Bodies, GoOld.validB b = 0
def VW (w : World_) : Prop := BV w ∧ RV (sgs w) w.NextID w.Settings w.Frame w.Joints w.Contacts w.Overlaps
theorem vbs_iff (N : Int) : ∀ (l : List Body) (i : Nat) (p : Int), vbs N l i p = true ↔ (∀ b ∈ l, GoOld.validB b = 0 ∧ b.ID < N ∧ p < b.ID) ∧ l.Pairwise (fun a b => a.ID < b.ID)
  | [], _, _ => by simp [vbs]
  | b :: t, i, p => by
    unfold vbs
    by_cases hc : GoOld.validB b = 0 ∧ b.ID < N ∧ p < b.ID
    · rw [if_neg (by simp [hc.1]; omega), vbs_iff N t (i + 1) b.ID, List.pairwise_cons]
      constructor
      · rintro ⟨h1, h2⟩
        refine ⟨?_, fun x hx => (h1 x hx).2.2, h2⟩
        intro x hx
        rcases List.mem_cons.1 hx with rfl | hx
        · exact hc
        · have := h1 x hx; exact ⟨this.1, this.2.1, by omega⟩
      · rintro ⟨h1, h2, h3⟩
        exact ⟨fun x hx => ⟨(h1 x (by simp [hx])).1, (h1 x (by simp [hx])).2.1, h2 x hx⟩, h3⟩
    · rw [if_pos (by simp; omega)]
      constructor
      · intro h; cases h
      · rintro ⟨h1, _⟩; exact absurd (h1 b (by simp)) hc
theorem fb_has (w : World_) (id : Int) : 0 ≤ fb w id ↔ hasB (sgs w) id := by
  have h := idx_any (fun b : Body => b.ID == id) w.Bodies 0
  have h2 : (0 ≤ fb w id) ↔ w.Bodies.any (fun b : Body => b.ID == id) = true := by rw [← h, decide_eq_true_iff]; rfl
  rw [h2, List.any_eq_true]
  unfold hasB sgs
  constructor
  · rintro ⟨b, hb, he⟩; exact ⟨sg b, List.mem_map.2 ⟨b, hb, rfl⟩, by have he : (b.ID == id) = true := he; show b.ID = id; simpa using he⟩
  · rintro ⟨s, hs, he⟩
    obtain ⟨b, hb, rfl⟩ := List.mem_map.1 hs
    exact ⟨b, hb, by simpa [sg] using he⟩
theorem exw_has (w : World_) (id n : Int) (hs : (sgs w).Pairwise (fun a b => a.1 < b.1)) : exw w id n = true ↔ hasF (sgs w) id n := by
  unfold exw
  simp only [Bool.and_eq_true, decide_eq_true_eq]
  constructor
  · rintro ⟨⟨h1, h2⟩, h3⟩
    rcases fb_cases w id with hk | ⟨k, hk, hl⟩
    · omega
    · have hm := ix_mem w.Bodies (k : Int) (by omega)
      have hid := idx_ix (fun b : Body => b.ID == id) w.Bodies 0 (by unfold fb at hk; omega)
      unfold fb at hk
      rw [hk] at hid
      have hk2 : fb w id = (k : Int) := hk
      rw [hk2] at h3
      exact ⟨sg (ix w.Bodies (k : Int)), List.mem_map.2 ⟨_, hm, rfl⟩, by show (ix w.Bodies (k : Int)).ID = id; simpa using hid, h2, h3⟩
  · rintro ⟨s, hsm, h1, h2, h3⟩
    have hb : hasB (sgs w) id := ⟨s, hsm, h1⟩
    have hf := (fb_has w id).2 hb
    refine ⟨⟨hf, h2⟩, ?_⟩
    rcases fb_cases w id with hk | ⟨k, hk, hl⟩
    · omega
    · have hm := ix_mem w.Bodies (k : Int) (by omega)
      have hid := idx_ix (fun b : Body => b.ID == id) w.Bodies 0 (by unfold fb at hk; omega)
      have hk2 : fb w id = (k : Int) := hk
      unfold fb at hk
      rw [hk] at hid
      rw [hk2]
      have hid2 : (ix w.Bodies (k : Int)).ID = id := by simpa using hid
      have hsg : sg (ix w.Bodies (k : Int)) ∈ sgs w := List.mem_map.2 ⟨_, hm, rfl⟩
      have : s = sg (ix w.Bodies (k : Int)) := by
        by_cases he : s = sg (ix w.Bodies (k : Int))
        · exact he
        · exfalso
          have := List.Pairwise.forall_of_forall_of_flip (R := fun a b : Int × Nat => a = b ∨ a.1 ≠ b.1) (l := sgs w) (fun x _ => Or.inl rfl) (hs.imp (fun h => Or.inr (by omega))) (hs.imp (fun h => by right; show _ ≠ _; omega)) hsm hsg
          rcases this with h | h
          · exact he h
          · exact h (by rw [h1]; exact hid2.symm)
      rw [this] at h3
      exact h3
theorem jcon_has (w : World_) (j : Joint) : jcon w j = true ↔ (j.BodyA = 0 ∨ hasB (sgs w) j.BodyA) ∧ (j.BodyB = 0 ∨ hasB (sgs w) j.BodyB) := by
  unfold jcon
  simp only [Bool.and_eq_true, Bool.or_eq_true, beq_iff_eq, decide_eq_true_eq, fb_has]
theorem vjs_iff (w : World_) : ∀ (l : List Joint) (i : Nat) (p : Int), vjs w l i p = true ↔ (∀ j ∈ l, jv j = 0 ∧ j.ID < w.NextID ∧ p < j.ID ∧ jcon w j = true ∧ ¬ hasB (sgs w) j.ID) ∧ l.Pairwise (fun a b => a.ID < b.ID)
  | [], _, _ => by simp [vjs]
  | j :: t, i, p => by
    unfold vjs
    by_cases hc : jv j = 0 ∧ j.ID < w.NextID ∧ p < j.ID ∧ jcon w j = true ∧ ¬ hasB (sgs w) j.ID
    · have hf : ¬ 0 ≤ fb w j.ID := fun h => hc.2.2.2.2 ((fb_has w j.ID).1 h)
      rw [if_neg (by simp [hc.1, hc.2.2.2.1]; omega), vjs_iff w t (i + 1) j.ID, List.pairwise_cons]
      constructor
      · rintro ⟨h1, h2⟩
        refine ⟨?_, fun x hx => (h1 x hx).2.2.1, h2⟩
        intro x hx
        rcases List.mem_cons.1 hx with rfl | hx
        · exact hc
        · have := h1 x hx; exact ⟨this.1, this.2.1, by omega, this.2.2.2⟩
      · rintro ⟨h1, h2, h3⟩
        exact ⟨fun x hx => ⟨(h1 x (by simp [hx])).1, (h1 x (by simp [hx])).2.1, h2 x hx, (h1 x (by simp [hx])).2.2.2⟩, h3⟩
    · rw [if_pos]
      · constructor
        · intro h; cases h
        · rintro ⟨h1, _⟩; exact absurd (h1 j (by simp)) hc
      · rw [← fb_has] at hc
        simp only [Bool.or_eq_true, bne_iff_ne, decide_eq_true_eq, Bool.not_eq_true', ne_eq]
        cases hj : jcon w j
        · simp
        · simp [hj] at hc ⊢; omega
theorem lessK_trans {a b c : PairKey} (h1 : lessK a b = true) (h2 : lessK b c = true) : lessK a c = true := by
  unfold lessK at h1 h2 ⊢
  repeat' split at h1
  all_goals repeat' split at h2
  all_goals repeat' split
  all_goals (simp only [decide_eq_true_eq] at *; omega)
theorem vks_iff : ∀ (l : List PairKey) (i : Nat) (p : PairKey), vks l i p = true ↔ (∀ k ∈ l, okK k = true ∧ (0 < i → lessK p k = true)) ∧ l.Pairwise (fun a b => lessK a b = true)
  | [], _, _ => by simp [vks]
  | k :: t, i, p => by
    unfold vks
    by_cases hc : okK k = true ∧ (0 < i → lessK p k = true)
    · rw [if_neg, vks_iff t (i + 1) k, List.pairwise_cons]
      · constructor
        · rintro ⟨h1, h2⟩
          refine ⟨?_, fun x hx => (h1 x hx).2 (by omega), h2⟩
          intro x hx
          rcases List.mem_cons.1 hx with rfl | hx
          · exact hc
          · exact ⟨(h1 x hx).1, fun hi => lessK_trans (hc.2 hi) ((h1 x hx).2 (by omega))⟩
        · rintro ⟨h1, h2, h3⟩
          exact ⟨fun x hx => ⟨(h1 x (by simp [hx])).1, fun _ => h2 x hx⟩, h3⟩
      · simp only [Bool.or_eq_true, Bool.not_eq_true', Bool.and_eq_true, decide_eq_true_eq, not_or, not_and, hc.1]
        exact ⟨by simp, fun hi => by simp [hc.2 (by omega)]⟩
    · rw [if_pos]
      · constructor
        · intro h; cases h
        · rintro ⟨h1, _⟩; exact absurd (h1 k (by simp)) hc
      · simp only [Bool.or_eq_true, Bool.not_eq_true', Bool.and_eq_true, decide_eq_true_eq]
        cases ho : okK k
        · exact Or.inl rfl
        · right
          rw [ho] at hc
          by_cases hi : 0 < i
          · refine ⟨by omega, ?_⟩
            cases hl : lessK p k
            · rfl
            · exact absurd ⟨rfl, fun _ => hl⟩ hc
          · exact absurd ⟨rfl, fun h => absurd h hi⟩ hc
theorem wv_iff (w : World_) : wv w = 0 ↔ VW w := by
  have key : wv w = 0 ↔ vset w.Settings = 0 ∧ (w.Bodies.length ≤ 32 ∧ w.Joints.length ≤ 32 ∧ w.Contacts.length ≤ 8192 ∧ w.Overlaps.length ≤ 8192) ∧ (inb w.NextID 1 1099511627776 = true ∧ inb w.Frame 0 1099511627776 = true) ∧ vbs w.NextID w.Bodies 0 0 = true ∧ vjs w w.Joints 0 0 = true ∧ cOk w = true := by
    unfold wv
    cases h1 : inb w.NextID 1 1099511627776 <;> cases h2 : inb w.Frame 0 1099511627776 <;> cases h3 : vbs w.NextID w.Bodies 0 0 <;> cases h4 : vjs w w.Joints 0 0 <;> cases h5 : cOk w <;> simp only [bne_iff_ne, ne_eq, Bool.or_eq_true, decide_eq_true_eq, Bool.not_true, Bool.not_false, Bool.or_self, Bool.or_true, Bool.or_false, if_true, ff, if_false, and_false, false_and, and_true, true_and, iff_false, Bool.false_eq_true] <;> (repeat' split) <;> omega
  rw [key, vbs_iff, vjs_iff]
  unfold cOk
  simp only [Bool.and_eq_true, vks_iff, List.all_eq_true]
  constructor
  · rintro ⟨h1, ⟨n1, n2, n3, n4⟩, ⟨i1, i2⟩, ⟨b1, b2⟩, ⟨j1, j2⟩, m1, ⟨⟨c1, c2⟩, ⟨o1, o2⟩⟩, x1, x2⟩
    have hbs : (sgs w).Pairwise (fun a b => a.1 < b.1) := by unfold sgs; rw [List.pairwise_map]; exact b2
    refine ⟨fun b hb => (b1 b hb).1, h1, by unfold sgs; rw [List.length_map]; exact n1, n2, n3, n4, by unfold inb at i1; simpa using i1, i2, ?_, hbs, ?_, j2, m1, ⟨?_, c2⟩, ⟨?_, o2⟩⟩
    · intro s hs
      obtain ⟨b, hb, rfl⟩ := List.mem_map.1 hs
      exact ⟨(b1 b hb).2.2, (b1 b hb).2.1⟩
    · intro j hj
      have := j1 j hj
      have hc := (jcon_has w j).1 this.2.2.2.1
      exact ⟨this.1, this.2.2.1, this.2.1, hc.1, hc.2, this.2.2.2.2⟩
    · intro k hk
      have hx := x1 k hk
      unfold exk at hx
      rw [Bool.and_eq_true, exw_has w _ _ hbs, exw_has w _ _ hbs] at hx
      exact ⟨(c1 k hk).1, hx.1, hx.2⟩
    · intro k hk
      have hx := x2 k hk
      unfold exk at hx
      rw [Bool.and_eq_true, exw_has w _ _ hbs, exw_has w _ _ hbs] at hx
      exact ⟨(o1 k hk).1, hx.1, hx.2⟩
  · rintro ⟨hb, R⟩
    have hbs := R.bsrt
    have hex : ∀ k : PairKey, hasF (sgs w) k.BodyA k.FixtureA ∧ hasF (sgs w) k.BodyB k.FixtureB → exk w k = true := by
      intro k hk
      unfold exk
      rw [Bool.and_eq_true, exw_has w _ _ hbs, exw_has w _ _ hbs]; exact hk
    refine ⟨R.set, ⟨by have := R.nb; unfold sgs at this; rwa [List.length_map] at this, R.nj, R.nc, R.no⟩, ⟨by unfold inb; simpa using R.nid, R.frm⟩, ⟨?_, ?_⟩, ⟨?_, R.jsrt⟩, R.man, ⟨⟨fun k hk => ⟨(R.ck.1 k hk).1, fun h => absurd h (by omega)⟩, R.ck.2⟩, ⟨fun k hk => ⟨(R.ok.1 k hk).1, fun h => absurd h (by omega)⟩, R.ok.2⟩⟩, fun k hk => hex k (R.ck.1 k hk).2, fun k hk => hex k (R.ok.1 k hk).2⟩
    · intro b hbm
      have := R.bid (sg b) (List.mem_map.2 ⟨b, hbm, rfl⟩)
      exact ⟨hb b hbm, this.2, this.1⟩
    · have := hbs; unfold sgs at this; rw [List.pairwise_map] at this; exact this
    · intro j hj
      have := R.jnt j hj
      exact ⟨this.1, this.2.2.1, this.2.1, (jcon_has w j).2 ⟨this.2.2.2.1, this.2.2.2.2.1⟩, this.2.2.2.2.2⟩
end GoForm


set_option linter.all false
set_option maxRecDepth 100000
open Go Go.Rx

namespace GoForm
theorem wk_valid {b : Body} (h : GoOld.validB b = 0) (k : b.Kind = 3) : GoOld.validB (wkB b) = 0 := by
  rw [GoOld.validB_ok] at h ⊢
  obtain ⟨h1, h2, h3, h4, h5⟩ := h
  rw [GoOld.consB_iff] at h5 ⊢
  refine ⟨h1, ?_, h3, h4, ?_⟩
  · obtain ⟨r1, r2, r3, r4, r5, r6, r7, r8, r9, r10⟩ := h2
    exact ⟨r1, r2, r3, r4, r5, r6, r7, r8, r9, ⟨by show (0 : Int) ≤ 0; omega, by show (0 : Int) ≤ 1048576; omega⟩⟩
  · refine ⟨fun q => ?_, fun q => absurd k q, fun q => ?_⟩
    · have : b.Kind = 1 := q
      omega
    · cases (show false = true from q)
theorem sgs_wake (w : World_) (id : Int) (hu : uniq w.Bodies) : sgs (wakeW w id) = sgs w := by
  rw [wakeW_map w id hu]
  unfold sgs
  rw [List.map_map]
  congr 1
  funext b
  show sg (wkIf _ b) = sg b
  unfold wkIf sg
  split <;> rfl
theorem wake_eqs (w : World_) (id : Int) : (wakeW w id).NextID = w.NextID ∧ (wakeW w id).Settings = w.Settings ∧ (wakeW w id).Frame = w.Frame ∧ (wakeW w id).Joints = w.Joints ∧ (wakeW w id).Contacts = w.Contacts ∧ (wakeW w id).Overlaps = w.Overlaps := by
  unfold wakeW; split <;> exact ⟨rfl, rfl, rfl, rfl, rfl, rfl⟩
theorem uniq_of {w : World_} (h : RV (sgs w) w.NextID w.Settings w.Frame w.Joints w.Contacts w.Overlaps) : uniq w.Bodies := by
  have := h.bsrt
  unfold sgs at this
  rw [List.pairwise_map] at this
  exact this.imp (fun h => by unfold sg at h; simp only at h; omega)
/-- Waking where each body is valid once it is awake. -/
theorem wake_VW (w : World_) (id : Int) (hr : RV (sgs w) w.NextID w.Settings w.Frame w.Joints w.Contacts w.Overlaps) (hb : ∀ b ∈ w.Bodies, (b.ID = id → GoOld.validB (if b.Kind = 3 then wkB b else b) = 0) ∧ (b.ID ≠ id → GoOld.validB b = 0)) : VW (wakeW w id) := by
  have hu := uniq_of hr
  obtain ⟨e1, e2, e3, e4, e5, e6⟩ := wake_eqs w id
  refine ⟨?_, by rw [sgs_wake w id hu, e1, e2, e3, e4, e5, e6]; exact hr⟩
  rw [wakeW_map w id hu]
  intro c hc
  obtain ⟨b, hbm, rfl⟩ := List.mem_map.1 hc
  unfold wkIf
  by_cases hid : b.ID = id
  · have h1 := (hb b hbm).1 hid
    by_cases h3 : b.Kind = 3
    · rw [if_pos h3] at h1; rw [if_pos (by simp [hid, h3])]; exact h1
    · rw [if_neg h3] at h1; rw [if_neg (by simp [h3])]; exact h1
  · rw [if_neg (by simp [hid])]; exact (hb b hbm).2 hid
theorem wake_VW2 (w : World_) (id : Int) (h : VW w) : VW (wakeW w id) := by
  refine wake_VW w id h.2 (fun b hb => ⟨fun _ => ?_, fun _ => h.1 b hb⟩)
  split
  next h3 => exact wk_valid (h.1 b hb) h3
  next h3 => exact h.1 b hb
theorem wakeL_VW : ∀ (ns : List Int) (w : World_), VW w → VW (wakeL w ns)
  | [], w, h => h
  | a :: t, w, h => by
    unfold wakeL
    split
    · exact wakeL_VW t w h
    · exact wakeL_VW t _ (wake_VW2 _ _ h)
theorem hasB_mono {S T : Sig} (h : ∀ s ∈ S, s ∈ T) {id : Int} : hasB S id → hasB T id := fun ⟨s, hs, e⟩ => ⟨s, h s hs, e⟩
theorem hasF_mono {S T : Sig} (h : ∀ s ∈ S, s ∈ T) {id n : Int} : hasF S id n → hasF T id n := fun ⟨s, hs, e⟩ => ⟨s, h s hs, e⟩
theorem addW_VW (w : World_) (b : Body) (h : VW w) (hz : (addW w b).2.2 = 0) : VW (addW w b).1 := by
  obtain ⟨hb, R⟩ := h
  have h9 := R.nid
  unfold addW at hz ⊢
  split at hz
  · exact absurd hz (by simp)
  · rename_i hc
    split at hz
    · exact absurd hz (by simp)
    · rename_i hv
      rw [if_neg hc, if_neg hv]
      simp only [Bool.or_eq_true, decide_eq_true_eq, not_or] at hc
      have hw : IntKind.i64.wrap (w.NextID + 1) = w.NextID + 1 := wrap_in _ (by omega) (by omega)
      have hv0 : GoOld.validB { b with ID := w.NextID } = 0 := by simpa using hv
      have hS : sgs { w with Bodies := w.Bodies ++ [{ b with ID := w.NextID }], NextID := IntKind.i64.wrap (w.NextID + 1) } = sgs w ++ [(w.NextID, b.Fixtures.length)] := by unfold sgs; rw [List.map_append]; rfl
      have hsub : ∀ s ∈ sgs w, s ∈ sgs w ++ [(w.NextID, b.Fixtures.length)] := fun s hs => List.mem_append.2 (Or.inl hs)
      refine ⟨?_, ?_⟩
      · intro c hc2
        rcases List.mem_append.1 hc2 with hc2 | hc2
        · exact hb c hc2
        · rw [List.mem_singleton.1 hc2]; exact hv0
      · rw [hS]
        show RV _ (IntKind.i64.wrap (w.NextID + 1)) w.Settings w.Frame w.Joints w.Contacts w.Overlaps
        rw [hw]
        refine ⟨R.set, by rw [List.length_append]; unfold sgs; simp; omega, R.nj, R.nc, R.no, by omega, R.frm, ?_, ?_, ?_, R.jsrt, R.man, ⟨fun k hk => ?_, R.ck.2⟩, ⟨fun k hk => ?_, R.ok.2⟩⟩
        · intro s hs
          rcases List.mem_append.1 hs with hs | hs
          · have := R.bid s hs; omega
          · rw [List.mem_singleton.1 hs]; show 0 < w.NextID ∧ w.NextID < _; omega
        · rw [List.pairwise_append]
          refine ⟨R.bsrt, List.pairwise_singleton _ _, ?_⟩
          intro s hs t ht
          rw [List.mem_singleton.1 ht]
          exact (R.bid s hs).2
        · intro j hj
          have := R.jnt j hj
          refine ⟨this.1, this.2.1, by omega, this.2.2.2.1.imp id (hasB_mono hsub), this.2.2.2.2.1.imp id (hasB_mono hsub), ?_⟩
          rintro ⟨s, hs, e⟩
          rcases List.mem_append.1 hs with hs | hs
          · exact this.2.2.2.2.2 ⟨s, hs, e⟩
          · rw [List.mem_singleton.1 hs] at e
            have e : w.NextID = j.ID := e
            omega
        · have := R.ck.1 k hk; exact ⟨this.1, hasF_mono hsub this.2.1, hasF_mono hsub this.2.2⟩
        · have := R.ok.1 k hk; exact ⟨this.1, hasF_mono hsub this.2.1, hasF_mono hsub this.2.2⟩
theorem addJ_VW (w : World_) (j : Joint) (h : VW w) (hz : (addJ w j).2.2 = 0) : VW (addJ w j).1 := by
  obtain ⟨hb, R⟩ := h
  have h9 := R.nid
  unfold addJ at hz ⊢
  split at hz
  · exact absurd hz (by simp)
  · rename_i hc
    split at hz
    · exact absurd hz (by simp)
    · rename_i hv
      rw [if_neg hc, if_neg hv]
      simp only [Bool.or_eq_true, decide_eq_true_eq, not_or] at hc
      simp only [Bool.or_eq_true, bne_iff_ne, ne_eq, Bool.not_eq_true', not_or, Classical.not_not, Bool.not_eq_false] at hv
      have hw : IntKind.i64.wrap (w.NextID + 1) = w.NextID + 1 := wrap_in _ (by omega) (by omega)
      have hcon : jcon w (zJ w j) = true := by rw [← jex_con hv.1]; exact hv.2
      have hcon := (jcon_has w _).1 hcon
      refine wake_VW2 _ _ (wake_VW2 _ _ ⟨hb, ?_⟩)
      show RV (sgs w) (IntKind.i64.wrap (w.NextID + 1)) w.Settings w.Frame (w.Joints ++ [zJ w j]) w.Contacts w.Overlaps
      rw [hw]
      refine ⟨R.set, R.nb, by rw [List.length_append]; simp; omega, R.nc, R.no, by omega, R.frm, fun s hs => by have := R.bid s hs; omega, R.bsrt, ?_, ?_, R.man, R.ck, R.ok⟩
      · intro x hx
        rcases List.mem_append.1 hx with hx | hx
        · have := R.jnt x hx
          exact ⟨this.1, this.2.1, by omega, this.2.2.2⟩
        · rw [List.mem_singleton.1 hx]
          refine ⟨hv.1, by show 0 < w.NextID; omega, by show w.NextID < w.NextID + 1; omega, hcon.1, hcon.2, ?_⟩
          rintro ⟨s, hs, e⟩
          have e : s.1 = w.NextID := e
          have := R.bid s hs; omega
      · rw [List.pairwise_append]
        refine ⟨R.jsrt, List.pairwise_singleton _ _, ?_⟩
        intro s hs t ht
        rw [List.mem_singleton.1 ht]
        exact (R.jnt s hs).2.2.1
theorem RV_joints {S : Sig} {N : Int} {st : Settings} {fr : Int} {J J' : List Joint} {C : List Contact} {O : List PairKey} (R : RV S N st fr J C O) (h : J'.Sublist J) : RV S N st fr J' C O :=
  ⟨R.set, R.nb, Nat.le_trans h.length_le R.nj, R.nc, R.no, R.nid, R.frm, R.bid, R.bsrt, fun j hj => R.jnt j (h.subset hj), R.jsrt.sublist h, R.man, R.ck, R.ok⟩
theorem remJ_VW (w : World_) (id : Int) (h : VW w) (hz : (remJ w id).2 = 0) : VW (remJ w id).1 := by
  unfold remJ at hz ⊢
  split at hz
  · exact absurd hz (by simp)
  · rename_i hc
    rw [if_neg hc]
    exact wake_VW2 _ _ (wake_VW2 _ _ ⟨h.1, RV_joints h.2 (cutSub _ _)⟩)
theorem rmP_VW (w : World_) (id : Int) (h : VW w) (hz : (rmP w id).2 = 0) : VW (rmP w id).1 := by
  obtain ⟨hb, R⟩ := h
  unfold rmP at hz ⊢
  rcases fb_cases w id with hk | ⟨k, hk, hl⟩
  · rw [hk, if_pos (by decide)] at hz; exact absurd hz (by simp)
  · have n4 : ¬ ((k : Int) < 0) := by omega
    rw [hk, if_neg n4, Int.toNat_natCast]
    refine wakeL_VW _ _ ⟨fun b hbm => hb b ((cutSub w.Bodies k).subset hbm), ?_⟩
    have hid : (ix w.Bodies (k : Int)).ID = id := by
      have := idx_ix (fun b : Body => b.ID == id) w.Bodies 0 (by unfold fb at hk; omega)
      unfold fb at hk
      rw [hk] at this
      simpa using this
    have hsub : (sgs (rmW w id k)).Sublist (sgs w) := (cutSub w.Bodies k).map sg
    have hpos : 0 < id := by
      have := R.bid (sg (ix w.Bodies (k : Int))) (List.mem_map.2 ⟨_, ix_mem w.Bodies _ (by omega), rfl⟩)
      have := this.1
      unfold sg at this; simp only at this; omega
    have hkeep : ∀ s ∈ sgs w, s.1 ≠ id → s ∈ sgs (rmW w id k) := by
      intro s hs hne
      obtain ⟨b, hbm, rfl⟩ := List.mem_map.1 hs
      refine List.mem_map.2 ⟨b, ?_, rfl⟩
      have ht := List.take_append_drop k w.Bodies
      rw [drop_ix w.Bodies k hl] at ht
      rw [← ht] at hbm
      show b ∈ w.Bodies.take k ++ w.Bodies.drop (k + 1)
      rcases List.mem_append.1 hbm with hbm | hbm
      · exact List.mem_append.2 (Or.inl hbm)
      · rcases List.mem_cons.1 hbm with hbm | hbm
        · rw [hbm] at hne; exact absurd hid hne
        · exact List.mem_append.2 (Or.inr hbm)
    have kB : ∀ x : Int, x ≠ id → hasB (sgs w) x → hasB (sgs (rmW w id k)) x := fun x hx ⟨s, hs, e⟩ => ⟨s, hkeep s hs (by rw [e]; exact hx), e⟩
    have kF : ∀ x n : Int, x ≠ id → hasF (sgs w) x n → hasF (sgs (rmW w id k)) x n := fun x n hx ⟨s, hs, e⟩ => ⟨s, hkeep s hs (by rw [e.1]; exact hx), e⟩
    have kK : ∀ l : List PairKey, KS (sgs w) l → KS (sgs (rmW w id k)) (l.filter (fun k => !refK id k)) := by
      intro l hl
      refine ⟨?_, hl.2.sublist List.filter_sublist⟩
      intro q hq
      obtain ⟨hq1, hq2⟩ := List.mem_filter.1 hq
      have := hl.1 q hq1
      unfold refK at hq2
      simp only [Bool.not_eq_true', Bool.or_eq_false_iff, beq_eq_false_iff_ne, ne_eq] at hq2
      exact ⟨this.1, kF _ _ hq2.1 this.2.1, kF _ _ hq2.2 this.2.2⟩
    have hmap : (w.Contacts.filter (fun c => !refK id c.Key)).map (·.Key) = (w.Contacts.map (·.Key)).filter (fun k => !refK id k) := by
      rw [List.filter_map]; rfl
    refine ⟨R.set, Nat.le_trans hsub.length_le R.nb, Nat.le_trans (List.length_filter_le _ _) R.nj, Nat.le_trans (List.length_filter_le _ _) R.nc, Nat.le_trans (List.length_filter_le _ _) R.no, R.nid, R.frm, fun s hs => R.bid s (hsub.subset hs), R.bsrt.sublist hsub, ?_, R.jsrt.sublist List.filter_sublist, fun c hc => R.man c (List.filter_sublist.subset hc), ?_, kK _ R.ok⟩
    · intro j hj
      obtain ⟨hj1, hj2⟩ := List.mem_filter.1 hj
      have := R.jnt j hj1
      unfold att at hj2
      have hne : (id != 0) = true := by simp; omega
      rw [hne, Bool.true_and] at hj2
      simp only [Bool.not_eq_true', Bool.or_eq_false_iff, beq_eq_false_iff_ne, ne_eq] at hj2
      exact ⟨this.1, this.2.1, this.2.2.1, this.2.2.2.1.imp (fun h => h) (kB _ hj2.1), this.2.2.2.2.1.imp (fun h => h) (kB _ hj2.2), fun hh => this.2.2.2.2.2 (hasB_mono (fun s hs => hsub.subset hs) hh)⟩
    · show KS _ ((w.Contacts.filter (fun c => !refK id c.Key)).map (·.Key))
      rw [hmap]; exact kK _ R.ck
end GoForm


set_option linter.all false
set_option maxRecDepth 100000
open Go Go.Rx

namespace GoForm
theorem jointA_VW (w : World_) (x : Input) (h : VW w) (hz : (jointA w x).2 = 0) : VW (jointA w x).1 := by
  obtain ⟨hb, R⟩ := h
  unfold jointA at hz ⊢
  rcases fj_cases w x.ID with hk | ⟨k, hk, hl⟩
  · rw [hk, if_pos (by decide)] at hz; exact absurd hz (by simp)
  · have n4 : ¬ ((k : Int) < 0) := by omega
    rw [hk, if_neg n4, Int.toNat_natCast] at hz ⊢
    by_cases h1 : badJ (ix w.Joints (k : Int)) x = true
    · rw [if_pos h1] at hz; exact absurd hz (by simp)
    rw [if_neg h1] at hz ⊢
    by_cases h2 : jv (newJ (ix w.Joints (k : Int)) x) ≠ 0
    · rw [if_pos h2] at hz; exact absurd hz (by simp)
    rw [if_neg h2]
    have h2 : jv (newJ (ix w.Joints (k : Int)) x) = 0 := Classical.not_not.1 h2
    have hm := ix_mem w.Joints (k : Int) (by omega)
    have hI : ∀ j : Joint, (newJ j x).ID = j.ID := by intro j; unfold newJ; split <;> rfl
    have hset : (w.Joints.set k (newJ (ix w.Joints (k : Int)) x)).map (·.ID) = w.Joints.map (·.ID) := by
      rw [List.map_set, hI]
      have : w.Joints.map (·.ID) = (w.Joints.set k (ix w.Joints (k : Int))).map (·.ID) := by rw [set_ix]
      rw [List.map_set] at this
      exact this.symm
    refine wake_VW2 _ _ (wake_VW2 _ _ ⟨hb, ?_⟩)
    refine ⟨R.set, R.nb, by show (w.Joints.set k _).length ≤ 32; rw [List.length_set]; exact R.nj, R.nc, R.no, R.nid, R.frm, R.bid, R.bsrt, ?_, ?_, R.man, R.ck, R.ok⟩
    · intro j hj
      rcases mem_set_or _ _ _ _ hj with hj | hj
      · exact R.jnt j hj
      · have := R.jnt _ hm
        rw [hj]
        refine ⟨h2, ?_⟩
        rw [hI, newJ_A, newJ_B]
        exact this.2
    · have h5 := R.jsrt
      have e1 : (w.Joints.map (·.ID)).Pairwise (fun a b => a < b) := by rw [List.pairwise_map]; exact h5
      rw [← hset, List.pairwise_map] at e1
      exact e1
theorem changeB_ID (b : Body) (x : Input) : (changeB b x).ID = b.ID := by
  unfold changeB GoOld.impB GoOld.angB
  repeat' split
  all_goals rfl
/-- What the change leaves, once awake, is valid. -/
theorem change_valid (b : Body) (x : Input) (h : GoOld.validB b = 0) (hc : chkB b x = 0) : GoOld.validB (if (changeB b x).Kind = 3 then wkB (changeB b x) else changeB b x) = 0 := by
  have fin : ∀ y : Body, GoOld.validB y = 0 → GoOld.validB (if y.Kind = 3 then wkB y else y) = 0 := by
    intro y hy
    split
    next h3 => exact wk_valid hy h3
    next h3 => exact hy
  unfold chkB at hc
  by_cases h4 : x.Kind = 4
  · have e : changeB b x = { b with Transform := ⟨x.Vec, x.Value⟩ } := by unfold changeB; simp [h4]
    rw [e]
    refine fin _ ?_
    rw [if_pos h4] at hc
    have ht : GoOld.TrOk ⟨x.Vec, x.Value⟩ := by
      by_cases ht : GoOld.TrOk ⟨x.Vec, x.Value⟩
      · exact ht
      · rw [if_neg ht] at hc; omega
    rw [GoOld.validB_ok] at h ⊢
    obtain ⟨h1, ⟨r1, r2, r3⟩, h3, h4, h5⟩ := h
    rw [GoOld.consB_iff] at h5 ⊢
    exact ⟨h1, ⟨r1, ht, r3⟩, h3, h4, h5⟩
  rw [if_neg h4] at hc
  by_cases h5 : x.Kind = 5
  · rw [if_pos h5] at hc
    have hk1 : b.Kind ≠ 1 := by intro q; rw [if_pos q] at hc; omega
    have e : changeB b x = GoOld.clampB { b with Velocity := x.Vec, AngularVelocity := x.Value } := by unfold changeB; simp [h5]
    rw [e]
    rw [GoOld.validB_ok] at h
    obtain ⟨h1, ⟨r1, r2, r3, r4, r5, r6, r7, r8, r9, r10⟩, h3, h4, h5⟩ := h
    rw [GoOld.consB_iff] at h5
    have hbd : GoOld.Bd (GoOld.clampB { b with Velocity := x.Vec, AngularVelocity := x.Value }).Velocity 16777216 := ⟨GoOld.clampS_bd (by omega), GoOld.clampS_bd (by omega)⟩
    have hwn : GoOld.Wn (GoOld.clampB { b with Velocity := x.Vec, AngularVelocity := x.Value }).AngularVelocity (-4194304) 4194304 := GoOld.clampS_bd (by omega)
    by_cases hk3 : b.Kind = 3
    · have hk3' : (GoOld.clampB { b with Velocity := x.Vec, AngularVelocity := x.Value }).Kind = 3 := hk3
      rw [if_pos hk3', GoOld.validB_ok, GoOld.consB_iff]
      refine ⟨h1, ⟨r1, r2, hbd, hwn, r5, r6, r7, r8, r9, ⟨by show (0 : Int) ≤ 0; omega, by show (0 : Int) ≤ 1048576; omega⟩⟩, h3, h4, fun q => absurd (show b.Kind = 1 from q) hk1, fun q => absurd hk3 q, fun q => ?_⟩
      cases (show false = true from q)
    · have hA := h5.2.1 hk3
      have hk3' : ¬ (GoOld.clampB { b with Velocity := x.Vec, AngularVelocity := x.Value }).Kind = 3 := hk3
      rw [if_neg hk3', GoOld.validB_ok, GoOld.consB_iff]
      refine ⟨h1, ⟨r1, r2, hbd, hwn, r5, r6, r7, r8, r9, r10⟩, h3, h4, fun q => absurd (show b.Kind = 1 from q) hk1, fun _ => hA, fun q => ?_⟩
      have q : b.Asleep = true := q
      rw [hA.1] at q; cases q
  rw [if_neg h5] at hc
  have hk3 : b.Kind = 3 := by
    by_cases q : b.Kind = 3
    · exact q
    · rw [if_pos q] at hc; omega
  by_cases h1 : x.Kind = 1
  · have e : changeB b x = GoOld.impB b (GoOld.centerW b) x.Vec := by unfold changeB; simp [h1]
    rw [e]
    refine fin _ ?_
    unfold GoOld.impB
    rw [if_neg (by simp [hk3])]
    exact GoOld.awake_valid h hk3 rfl
  by_cases h3 : x.Kind = 3
  · have e : changeB b x = GoOld.angB b x.Value := by unfold changeB; simp [h3]
    rw [e]
    refine fin _ ?_
    unfold GoOld.angB
    rw [if_neg (by simp [hk3])]
    exact GoOld.awake_valid h hk3 rfl
  by_cases h2 : x.Kind = 2
  · have e : changeB b x = { b with Force := GoOld.addV b.Force x.Vec } := by unfold changeB; simp [h2]
    rw [e]
    refine fin _ ?_
    rw [GoOld.validB_ok] at h ⊢
    obtain ⟨h1, ⟨r1, r2, r3, r4, r5, r6⟩, h3, h4, h5⟩ := h
    rw [GoOld.consB_iff] at h5 ⊢
    refine ⟨h1, ⟨r1, r2, r3, r4, ⟨GoOld.addS_bd _ _, GoOld.addS_bd _ _⟩, r6⟩, h3, h4, fun q => ?_, h5.2.1, h5.2.2⟩
    have q : b.Kind = 1 := q
    omega
  · have e : changeB b x = b := by unfold changeB; simp [h1, h2, h3, h4, h5]
    rw [e]; exact fin b h
theorem bodyA_VW (w : World_) (x : Input) (h : VW w) (hz : (bodyA w x).2 = 0) : VW (bodyA w x).1 := by
  obtain ⟨hb, R⟩ := h
  unfold bodyA at hz ⊢
  rcases fb_cases w x.ID with hk | ⟨k, hk, hl⟩
  · rw [hk, if_pos (by decide)] at hz; exact absurd hz (by simp)
  · have n4 : ¬ ((k : Int) < 0) := by omega
    have hm := ix_mem w.Bodies (k : Int) (by omega)
    have hid : (ix w.Bodies (k : Int)).ID = x.ID := by
      have := idx_ix (fun b : Body => b.ID == x.ID) w.Bodies 0 (by unfold fb at hk; omega)
      unfold fb at hk
      rw [hk] at this
      simpa using this
    rw [hk, if_neg n4, Int.toNat_natCast] at hz ⊢
    by_cases h1 : chkB (ix w.Bodies (k : Int)) x = 0
    · rw [if_neg (by rw [h1]; simp)]
      have hsg : sgs (setB w k (changeB (ix w.Bodies (k : Int)) x)) = sgs w := by
        unfold sgs setB
        show (w.Bodies.set k _).map sg = _
        have hs : sg (changeB (ix w.Bodies (k : Int)) x) = sg (ix w.Bodies (k : Int)) := by unfold sg; rw [changeB_ID, changeB_fix]
        rw [List.map_set, hs]
        have : w.Bodies.map sg = (w.Bodies.set k (ix w.Bodies (k : Int))).map sg := by rw [set_ix]
        rw [List.map_set] at this
        exact this.symm
      refine wake_VW _ _ (by rw [hsg]; exact R) ?_
      intro b hbm
      rcases mem_set_or _ _ _ _ hbm with hbm | hbm
      · refine ⟨fun _ => ?_, fun _ => hb b hbm⟩
        split
        next h3 => exact wk_valid (hb b hbm) h3
        next h3 => exact hb b hbm
      · rw [hbm]
        refine ⟨fun _ => change_valid _ x (hb _ hm) h1, fun q => ?_⟩
        rw [changeB_ID] at q; exact absurd hid q
    · rw [if_pos h1] at hz; exact absurd hz h1
theorem applyS_VW (w : World_) (x : Input) (e : Int) (hz : (applyS w x e).2.2 = 0) : wv (applyS w x e).1 = 0 := by
  unfold applyS at hz ⊢
  by_cases hv : wv w ≠ 0
  · rw [if_pos hv] at hz; exact absurd hz (by simp)
  rw [if_neg hv] at hz ⊢
  have hV := (wv_iff w).1 (Classical.not_not.1 hv)
  by_cases h0 : e ≠ 0
  · rw [if_pos h0] at hz; exact absurd hz h0
  rw [if_neg h0] at hz ⊢
  rw [wv_iff]
  split at hz
  next h9 => rw [if_pos h9]; exact addW_VW w _ hV hz
  next h9 =>
    rw [if_neg h9]
    split at hz
    next h11 => rw [if_pos h11]; exact addJ_VW w _ hV hz
    next h11 =>
      rw [if_neg h11]
      split at hz
      next h10 => rw [if_pos h10]; exact rmP_VW w _ hV hz
      next h10 =>
        rw [if_neg h10]
        split at hz
        next h12 => rw [if_pos h12]; exact remJ_VW w _ hV hz
        next h12 =>
          rw [if_neg h12]
          split at hz
          next h7 => rw [if_pos h7]; exact jointA_VW w x hV hz
          next h7 => rw [if_neg h7]; exact bodyA_VW w x hV hz
end GoForm


set_option linter.all false
set_option maxRecDepth 100000
open Go Go.Rx

namespace GoForm
theorem wakeL_fs : ∀ (ns : List Int) (w : World_), (wakeL w ns).Frame = w.Frame ∧ (wakeL w ns).Settings = w.Settings
  | [], w => ⟨rfl, rfl⟩
  | a :: t, w => by
    unfold wakeL
    split
    · exact wakeL_fs t w
    · have h := wake_eqs w a
      rw [(wakeL_fs t _).1, (wakeL_fs t _).2]
      exact ⟨h.2.2.1, h.2.1⟩
theorem wake_fs (w : World_) (a : Int) : (wakeW w a).Frame = w.Frame ∧ (wakeW w a).Settings = w.Settings := ⟨(wake_eqs w a).2.2.1, (wake_eqs w a).2.1⟩
theorem applyS_fs (w : World_) (x : Input) (e : Int) (hz : (applyS w x e).2.2 = 0) : ((applyS w x e).1.Frame = w.Frame ∧ (applyS w x e).1.Settings = w.Settings) ∧ e = 0 := by
  have two : ∀ (v : World_) (a b : Int), v.Frame = w.Frame ∧ v.Settings = w.Settings → (wakeW (wakeW v a) b).Frame = w.Frame ∧ (wakeW (wakeW v a) b).Settings = w.Settings := by
    intro v a b h
    rw [(wake_fs _ _).1, (wake_fs _ _).2, (wake_fs _ _).1, (wake_fs _ _).2]; exact h
  unfold applyS at hz ⊢
  by_cases hv : wv w ≠ 0
  · rw [if_pos hv] at hz; exact absurd hz (by simp)
  rw [if_neg hv] at hz ⊢
  by_cases h0 : e ≠ 0
  · rw [if_pos h0] at hz; exact absurd hz h0
  rw [if_neg h0] at hz ⊢
  refine ⟨?_, Classical.not_not.1 h0⟩
  split at hz
  next h9 =>
    rw [if_pos h9]
    unfold addW at hz ⊢
    split at hz
    · exact absurd hz (by simp)
    rename_i hc
    split at hz
    · exact absurd hz (by simp)
    rename_i hd
    rw [if_neg hc, if_neg hd]; exact ⟨rfl, rfl⟩
  next h9 =>
    rw [if_neg h9]
    split at hz
    next h11 =>
      rw [if_pos h11]
      unfold addJ at hz ⊢
      split at hz
      · exact absurd hz (by simp)
      rename_i hc
      split at hz
      · exact absurd hz (by simp)
      rename_i hd
      rw [if_neg hc, if_neg hd]; exact two _ _ _ ⟨rfl, rfl⟩
    next h11 =>
      rw [if_neg h11]
      split at hz
      next h10 =>
        rw [if_pos h10]
        unfold rmP at hz ⊢
        simp only at hz ⊢
        split at hz
        · exact absurd hz (by simp)
        rename_i hc
        rw [if_neg hc]
        show (wakeL _ _).Frame = _ ∧ (wakeL _ _).Settings = _
        rw [(wakeL_fs _ _).1, (wakeL_fs _ _).2]; exact ⟨rfl, rfl⟩
      next h10 =>
        rw [if_neg h10]
        split at hz
        next h12 =>
          rw [if_pos h12]
          unfold remJ at hz ⊢
          simp only at hz ⊢
          split at hz
          · exact absurd hz (by simp)
          rename_i hc
          rw [if_neg hc]; exact two _ _ _ ⟨rfl, rfl⟩
        next h12 =>
          rw [if_neg h12]
          split at hz
          next h7 =>
            rw [if_pos h7]
            unfold jointA at hz ⊢
            simp only at hz ⊢
            split at hz
            · exact absurd hz (by simp)
            rename_i hc
            split at hz
            · exact absurd hz (by simp)
            rename_i hd
            split at hz
            · exact absurd hz (by simp)
            rename_i hf
            rw [if_neg hc, if_neg hd, if_neg hf]; exact two _ _ _ ⟨rfl, rfl⟩
          next h7 =>
            rw [if_neg h7]
            unfold bodyA at hz ⊢
            simp only at hz ⊢
            split at hz
            · exact absurd hz (by simp)
            rename_i hc
            split at hz
            · rename_i hd; exact absurd hz hd
            rename_i hd
            rw [if_neg hc, if_neg hd]
            show (wakeW _ _).Frame = _ ∧ (wakeW _ _).Settings = _
            rw [(wake_fs _ _).1, (wake_fs _ _).2]; exact ⟨rfl, rfl⟩
theorem run_valid : ∀ (l : List Input) (w : World_) (es : List Int), wv w = 0 → wv (run w es l).1 = 0 ∧ (run w es l).1.Frame = w.Frame ∧ (run w es l).1.Settings = w.Settings
  | [], w, es, h => ⟨h, rfl, rfl⟩
  | x :: t, w, es, h => by
    unfold run
    by_cases hz : (applyS w x (vE x)).2.2 = 0
    · rw [if_pos hz]
      have h1 := run_valid t (applyS w x (vE x)).1 (es ++ [(applyS w x (vE x)).2.2]) (applyS_VW w x _ hz)
      have h2 := (applyS_fs w x _ hz).1
      exact ⟨h1.1, h1.2.1.trans h2.1, h1.2.2.trans h2.2⟩
    · rw [if_neg hz]
      exact run_valid t w _ h
theorem run_es : ∀ (l : List Input) (w : World_) (es : List Int), run w es l = ((run w [] l).1, es ++ (run w [] l).2)
  | [], w, es => by simp [run]
  | x :: t, w, es => by
    unfold run
    rw [run_es t _ (es ++ _), run_es t _ ([] ++ _)]
    simp
end GoForm


set_option linter.all false
set_option maxRecDepth 100000
open Go Go.Rx

namespace GoForm
theorem EF_self (l : List Body) (g : Body × Body → Option Bool) (hl : Sm l) (hg : ∀ b ∈ l, g (b, b) = some true) : slices_EqualFunc l l g = some true := by
  unfold slices_EqualFunc
  simp only [Let_nr]
  rw [if_neg (by simp)]
  refine (LOOP_all l (fun _ => true) (some true) (some false) _ hl ?_ ?_).trans ?_
  · intro r i hw hc hm
    rw [if_pos (dlt hc), Chk_of hc, Chk_of hc, hg _ hm, Bind_snr, hw]; rfl
  · intro r; rw [if_neg (by simp)]
  · simp
theorem EF61_self (l : List Contact) (g : Contact × Contact → Option Bool) (hl : Sm l) (hg : ∀ b ∈ l, g (b, b) = some true) : slices_EqualFunc_61 l l g = some true := by
  unfold slices_EqualFunc_61
  simp only [Let_nr]
  rw [if_neg (by simp)]
  refine (LOOP_all l (fun _ => true) (some true) (some false) _ hl ?_ ?_).trans ?_
  · intro r i hw hc hm
    rw [if_pos (dlt hc), Chk_of hc, Chk_of hc, hg _ hm, Bind_snr, hw]; rfl
  · intro r; rw [if_neg (by simp)]
  · simp
theorem EJ_self (l : List Joint) (hl : Sm l) : slices_Equal l l = some true := by
  unfold slices_Equal
  simp only [Let_nr]
  rw [if_neg (by simp)]
  refine (LOOP_all l (fun _ => true) (some true) (some false) _ hl ?_ ?_).trans ?_
  · intro r i hw hc hm
    rw [if_pos (dlt hc), Chk_of hc, Chk_of hc, if_neg (by simp), hw]; rfl
  · intro r; rw [if_neg (by simp)]
  · simp
theorem EK_self (l : List PairKey) (hl : Sm l) : slices_Equal_62 l l = some true := by
  unfold slices_Equal_62
  simp only [Let_nr]
  rw [if_neg (by simp)]
  refine (LOOP_all l (fun _ => true) (some true) (some false) _ hl ?_ ?_).trans ?_
  · intro r i hw hc hm
    rw [if_pos (dlt hc), Chk_of hc, Chk_of hc, if_neg (by simp), hw]; rfl
  · intro r; rw [if_neg (by simp)]
  · simp
theorem EP_self (l : List ContactPoint) (hl : Sm l) : slices_Equal_117 l l = some true := by
  unfold slices_Equal_117
  simp only [Let_nr]
  rw [if_neg (by simp)]
  refine (LOOP_all l (fun _ => true) (some true) (some false) _ hl ?_ ?_).trans ?_
  · intro r i hw hc hm
    rw [if_pos (dlt hc), Chk_of hc, Chk_of hc, if_neg (by simp), hw]; rfl
  · intro r; rw [if_neg (by simp)]
  · simp
theorem EC_self (c : Contact) (h : c.Manifold.Points.length ≤ 10000) : world_Equal_1 c c = some true := by
  unfold world_Equal_1 manifold_Equal
  simp only [Let_nr, EP_self _ (sm_of h (by omega)), decide_true, Bool.and_self, beq_self_eq_true, if_true, Bind_snr, Bool.cond_true]
theorem EW_self (w : World_) (h : SmW w) : world_Equal w w = some true := by
  unfold world_Equal
  have h1 := EF_self w.Bodies (fun a => body_Equal a.fst a.snd) (sm_of h.bodies (by omega)) (fun b hb => by rw [body_Equal_eq' b b (h.body b hb)]; simp)
  have h2 := EF61_self w.Contacts (fun a => world_Equal_1 a.fst a.snd) (sm_of h.contacts (by omega)) (fun c hc => EC_self c (h.points c hc))
  simp only [Let_nr, decide_true, Bool.and_self, beq_self_eq_true, if_true, Bool.cond_true]
  refine (Bind_of h1).trans ?_
  simp only [Bool.cond_true, beq_self_eq_true, if_true, EJ_self _ (sm_of h.joints (by omega)), Bind_snr]
  refine (Bind_of h2).trans ?_
  simp only [Bool.cond_true, beq_self_eq_true, if_true, EK_self _ (sm_of h.overlaps (by omega)), Bind_snr]
theorem run_cons (w : World_) (es : List Int) (x : Input) (t : List Input) : run w es (x :: t) = run (if (applyS w x (vE x)).2.2 = 0 then (applyS w x (vE x)).1 else w) (es ++ [(applyS w x (vE x)).2.2]) t := by rw [run]
theorem run_app : ∀ (xs ys : List Input) (w : World_) (es : List Int), run w es (xs ++ ys) = run (run w es xs).1 (run w es xs).2 ys
  | [], ys, w, es => rfl
  | x :: t, ys, w, es => by
    rw [List.cons_append, run_cons, run_app t ys, run_cons w es x t]
theorem InputSequence_true (w : World_) (l : List Input) (cut : UInt8) : caromlaw43_InputSequence w l cut = some true := by
  unfold caromlaw43_InputSequence
  simp only [ref25_Few_eq, few43_eq, example43, Bind_snr, Let_nr, Bind_if]
  cases hf : few w
  · simp [Bind_snr]
  · have hF := few_Few hf
    cases hb : (decide ((l.length : Int) ≤ 40) && l.all (fun x => fewB x.Body))
    · simp [Bind_snr]
    · simp only [Bool.and_eq_true, decide_eq_true_eq, List.all_eq_true] at hb
      have hl : l.length ≤ 40 := by omega
      rw [world_Val_eq w hF]
      by_cases hv : wv w = 0
      · have hwr : IntKind.i64.wrap ((l.length : Int) + 1) = ((l.length + 1 : Nat) : Int) := by rw [wrap_in _ (by omega) (by omega)]; omega
        have htm : Int.tmod (cut.toNat : Int) ((l.length + 1 : Nat) : Int) = ((cut.toNat % (l.length + 1) : Nat) : Int) := by
          rw [Int.tmod_eq_emod_of_nonneg (by omega)]; rfl
        have hm : cut.toNat % (l.length + 1) < l.length + 1 := Nat.mod_lt _ (by omega)
        simp only [hv, Bool.not_true, ff, if_false, Bool.cond_false, beq_self_eq_true, if_true, Bind_snr, show ((0 : Int) != 0) = false from rfl, hwr, htm]
        generalize cut.toNat % (l.length + 1) = k at hm ⊢
        have hk : (0 : Int) ≤ (k : Int) ∧ (k : Int) ≤ (l.length : Int) := by omega
        have hb1 : ∀ x ∈ l.take k, fewB x.Body = true := fun x hx => hb.2 x (List.mem_of_mem_take hx)
        have hb2 : ∀ x ∈ l.drop k, fewB x.Body = true := fun x hx => hb.2 x (List.mem_of_mem_drop hx)
        have all1 : ∀ (v : World_) (m : List Input), wv v = 0 → allS v m = run v [] m := fun v m h => if_neg (by simp [h])
        have hmid := run_valid (l.take k) w [] hv
        have hmF := run_few (l.take k) w [] hF hb1
        have happ := run_app (l.take k) (l.drop k) w []
        rw [List.take_append_drop, run_es (l.drop k) (run w [] (l.take k)).1 (run w [] (l.take k)).2] at happ
        have hlA := run_len l w []
        have hl1 := run_len (l.take k) w []
        have hl2 := run_len (l.drop k) (run w [] (l.take k)).1 []
        simp only [List.length_nil, Nat.zero_add, List.length_take, List.length_drop] at hlA hl1 hl2
        rw [Chk_of (by omega), ApplyAll_eq w l hF hl hb.2, Bind_snr, Chk_of hk, Int.toNat_natCast, ApplyAll_eq w _ hF (by simp; omega) hb1, Bind_snr, Chk_of hk, all1 w _ hv, all1 w _ hv,
          ApplyAll_eq _ _ hmF (by simp; omega) hb2, Bind_snr, all1 _ _ hmid.1]
        have hFA := run_few l w [] hF hb.2
        have e1 : (run w [] l).1 = (run (run w [] (l.take k)).1 [] (l.drop k)).1 := by rw [happ]
        have e2 : (run w [] l).2 = (run w [] (l.take k)).2 ++ (run (run w [] (l.take k)).1 [] (l.drop k)).2 := by rw [happ]
        rw [← e1, EW_self _ hFA.smw, Bind_snr, e2]
        rw [e2, List.length_append] at hlA
        generalize (run w [] (l.take k)).2 = E1 at hl1 hlA ⊢
        generalize (run (run w [] (l.take k)).1 [] (l.drop k)).2 = E2 at hl2 hlA ⊢
        have hA : (E1 ++ E2).length = l.length := by rw [List.length_append]; exact hlA
        have hE1 : E1.length = k := by omega
        have hw3 : IntKind.i64.wrap ((E1.length : Int) + (E2.length : Int)) = (l.length : Int) := by rw [wrap_in _ (by omega) (by omega)]; omega
        rw [hA, hw3]
        simp only [bne_self_eq_false, Bool.not_true, Bool.cond_false, ff, if_false]
        refine (LOOP_all E1 (fun _ => true) (some true) (some false) _ (sm_of (n := 40) (by omega) (by omega)) ?_ ?_).trans ?_
        · intro r i hw hc hm2
          have hx : ix (E1 ++ E2) (i : Int) = ix E1 (i : Int) := by
            rw [ix_lt _ i (by simp; omega), ix_lt E1 i (by omega)]
            exact List.getElem_append_left (by omega)
          rw [if_pos (dlt hc), Chk_of hc, Chk_of (by omega), hx, if_neg (by simp), hw]; rfl
        · intro r
          rw [if_neg (by simp)]
          refine (LOOP_all E2 (fun _ => true) (some true) (some false) _ (sm_of (n := 40) (by omega) (by omega)) ?_ ?_).trans ?_
          · intro r i hw hc hm2
            have hwk : IntKind.i64.wrap ((k : Int) + (i : Int)) = ((k + i : Nat) : Int) := by rw [wrap_in _ (by omega) (by omega)]; omega
            have hx : ix (E1 ++ E2) ((k + i : Nat) : Int) = ix E2 (i : Int) := by
              rw [ix_lt _ (k + i) (by simp; omega), ix_lt E2 i (by omega)]
              rw [List.getElem_append_right (by omega)]
              congr 1; omega
            rw [if_pos (dlt hc), Chk_of hc, hwk, Chk_of (by omega), hx, if_neg (by simp), hw]; rfl
          · intro r; rw [if_neg (by simp)]
          · simp
        · simp
      · simp [Bind_snr, hv]
theorem caromlaw43_InputSequence_true (a0 : World_) (a1 : List Input) (a2 : UInt8) {P Q R : Prop} (_ : P) (_ : Q) (_ : R) : caromlaw43_InputSequence a0 a1 a2 = some true := InputSequence_true a0 a1 a2
end GoForm

