/- Plain laws, joined from several texts. No conditions. -/
import Derived.Test.YtacajmmjdefplaaGreatF25D
import Derived.Test.YtacajmmjdefplaaGreatF25B
import Derived.Test.YtacajmmjdefplaaGreatF25OL
import Derived.Test.YtacajmmjdefplaaGreatRzQ
/- Plain laws, joined from several texts. No conditions. -/
/-
  Plain laws of world: what validation computes. No conditions.
-/
set_option linter.all false
set_option maxRecDepth 100000
open Go Go.Rx


namespace GoForm
theorem bodyV (b : Body) : body_Validate b = caromref23_Validate b := by rw [br_body_Validate, br_caromref23_Validate, GoOld.body_Validate_eq, GoOld.ref23_Validate_eq]
theorem bodyV' (b : Body) : caromref23_Validate b = some (GoOld.validB b) := by rw [br_caromref23_Validate, GoOld.ref23_Validate_eq]
def inb (x a b : Int) : Bool := decide (a ≤ x) && decide (x ≤ b)
theorem world_in_eq (x a b : Int) : world_in x a b = some (inb x a b) := by
  unfold world_in inb; simp only [Let_nr, ge_iff_le, cond_and]
theorem ref25_in_eq (x a b : Int) : caromref25_in x a b = some (inb x a b) := by
  unfold caromref25_in inb; simp only [Let_nr, ge_iff_le, cond_and]
theorem joint_in_eq (x a b : Int) : joint_inRange x a b = some (inb x a b) := by
  unfold joint_inRange inb; simp only [Let_nr, ge_iff_le, cond_and]
theorem ref24_in_eq (x a b : Int) : caromref24_inRange x a b = some (inb x a b) := by
  unfold caromref24_inRange inb; simp only [Let_nr, ge_iff_le, cond_and]
def vset (s : Settings) : Int := if (inb s.TimeStep 64 8192 && inb s.Gravity.X (-16777216) 16777216 && inb s.Gravity.Y (-16777216) 16777216 && inb s.Iterations 1 32 && inb s.SleepSteps 0 1048576) = true then 0 else 6
theorem world_set_eq (s : Settings) : world_ValidateSettings s = some (vset s) := by
  unfold world_ValidateSettings vset
  simp only [world_in_eq, Let_nr, Bind_snr, Bind_if]
  generalize inb s.TimeStep 64 8192 = b1
  generalize inb s.Gravity.X (-16777216) 16777216 = b2
  generalize inb s.Gravity.Y (-16777216) 16777216 = b3
  generalize inb s.Iterations 1 32 = b4
  generalize inb s.SleepSteps 0 1048576 = b5
  cases b1 <;> cases b2 <;> cases b3 <;> cases b4 <;> cases b5 <;> rfl
theorem ref25_set_eq (s : Settings) : caromref25_ValidateSettings s = some (vset s) := by
  unfold caromref25_ValidateSettings vset
  simp only [ref25_in_eq, Let_nr, Bind_snr, Bind_if]
  generalize inb s.TimeStep 64 8192 = b1
  generalize inb s.Gravity.X (-16777216) 16777216 = b2
  generalize inb s.Gravity.Y (-16777216) 16777216 = b3
  generalize inb s.Iterations 1 32 = b4
  generalize inb s.SleepSteps 0 1048576 = b5
  cases b1 <;> cases b2 <;> cases b3 <;> cases b4 <;> cases b5 <;> rfl
/-! FindBody -/
def fb (w : World_) (id : Int) : Int := idx (fun b : Body => b.ID == id) w.Bodies 0
theorem world_Find_eq (w : World_) (id : Int) (h : Sm w.Bodies) : world_FindBody w id = some (fb w id) := by
  unfold world_FindBody slices_IndexFunc fb
  simp only [Let_nr]
  rw [show LOOP _ fuel (0 : Int) = _ from LOOP_l0 w.Bodies (fun t i => some (idx (fun b : Body => b.ID == id) t i)) _ h ?_ ?_]
  · exact Bind_snr _ _
  · intro r i t hw hc hm hr
    simp only [dlt hc, if_true, hw, Chk_of hc, world_FindBody_1, Let_nr, Bind_snr, hr, idx]
    split <;> rfl
  · intro r; simp only [dll, ff, if_false, idx]
theorem ref25_Find_eq (w : World_) (id : Int) (h : Sm w.Bodies) : caromref25_FindBody w id = some (fb w id) := by
  unfold caromref25_FindBody fb
  simp only [Let_nr]
  refine LOOP_l0 w.Bodies (fun t i => some (idx (fun b : Body => b.ID == id) t i)) _ h ?_ ?_
  · intro r i t hw hc hm hr
    simp only [dlt hc, if_true, hw, Chk_of hc, Let_nr, Bind_snr, hr, idx]
    split <;> rfl
  · intro r; simp only [dll, ff, if_false, idx]
theorem fb_bd (w : World_) (id : Int) : fb w id = -1 ∨ (0 ≤ fb w id ∧ fb w id < (w.Bodies.length : Int)) := by
  have := idx_bd (fun b : Body => b.ID == id) w.Bodies 0; unfold fb; simpa using this
/-! bodies -/
def vbs (N : Int) : List Body → Nat → Int → Bool
  | [], _, _ => true
  | b :: t, i, p => if (GoOld.validB b != 0 || decide (N ≤ b.ID) || decide (b.ID ≤ p)) = true then false else vbs N t (i + 1) b.ID
theorem world_bodies_eq (w : World_) (h : Sm w.Bodies) : world_validBodies w = some (vbs w.NextID w.Bodies 0 0) := by
  unfold world_validBodies
  simp only [Let_nr]
  refine LOOP_l1 w.Bodies (fun t i p => some (vbs w.NextID t i p)) _ 0 h ?_ ?_
  · intro r i t s hw hc hm hr
    simp only [dlt hc, if_true, hw, Chk_of hc, Let_nr, bodyV, bodyV', Bind_snr, hr, vbs, cond_or, ge_iff_le]
    split <;> rfl
  · intro r s; simp only [dll, ff, if_false, vbs]
theorem validB_ID {b : Body} (h : GoOld.validB b = 0) : 1 ≤ b.ID := by
  have := (GoOld.validB_ok.1 h).2.1.1
  unfold GoOld.Wn at this; exact this.1
theorem ref25_bodies_eq (w : World_) (h : Sm w.Bodies) : caromref25_validBodies w = some (vbs w.NextID w.Bodies 0 0) := by
  unfold caromref25_validBodies
  simp only [Let_nr]
  have key : ∀ (r : Int × Int → Option Bool), True := fun _ => trivial
  rw [show LOOP _ fuel ((0 : Int), (0 : Int)) = (fun (t : List Body) (i : Nat) (p : Int) => some (if i = 0 then vbs w.NextID t i 0 else vbs w.NextID t i p)) w.Bodies 0 0 from LOOP_l1 w.Bodies (fun t i p => some (if i = 0 then vbs w.NextID t i 0 else vbs w.NextID t i p)) _ 0 h ?_ ?_]
  · rfl
  · intro r i t s hw hc hm hr
    simp only [dlt hc, if_true, hw, Chk_of hc, Let_nr, bodyV', Bind_snr, hr, vbs, cond_or, cond_and, ge_iff_le, gt_iff_lt, Nat.succ_ne_zero, Nat.add_eq_zero_iff, if_false]
    by_cases hv : GoOld.validB (ix w.Bodies (i : Int)) = 0
    · have h1 := validB_ID hv
      simp [hv]
      by_cases hi : i = 0
      · subst hi; simp; split <;> simp_all <;> omega
      · have : (0 : Int) < (i : Int) := by omega
        simp [hi, this]; split <;> simp_all <;> (intros; omega)
    · simp [hv]
  · intro r s; simp only [dll, ff, if_false, vbs, ite_self]
/-! joints -/
def inv4 (v : Vec) (m : Int) : Bool := inb v.X (-m) m && inb v.Y (-m) m
theorem joint_pt_eq (v : Vec) (m : Int) (h : 0 ≤ m ∧ m ≤ 1000000000000) : joint_pointInRange v m = some (inv4 v m) := by
  unfold joint_pointInRange inv4
  have e : IntKind.i64.wrap ((0 : Int) - m) = -m := by rw [wrap_in _ (by omega) (by omega)]; omega
  simp only [Let_nr, joint_in_eq, Bind_snr, Bind_if, e, cond_and, ga1]
theorem ref24_pt_eq (v : Vec) (m : Int) (h : 0 ≤ m ∧ m ≤ 1000000000000) : caromref24_inSquare v m = some (inv4 v m) := by
  unfold caromref24_inSquare inv4
  have e : IntKind.i64.wrap ((0 : Int) - m) = -m := by rw [wrap_in _ (by omega) (by omega)]; omega
  simp only [Let_nr, ref24_in_eq, Bind_snr, Bind_if, e, cond_and, ga1]
def reach (k : Int) : Int := if (k == 5) = true then 268435456 else 1048576
def limR (k : Int) : Int × Int := if (k == 1) = true then (0, 268435456) else if (k == 2) = true then (-205888, 205888) else (-268435456, 268435456)
theorem joint_lim_eq (k : Int) : joint_limitRange k = some (limR k) := by
  unfold joint_limitRange limR; simp only [Let_nr]; split <;> (try split) <;> rfl
def impOk (j : Joint) : Bool := [j.Impulses.fst, j.Impulses.snd.fst, j.Impulses.snd.snd.fst, j.Impulses.snd.snd.snd].all fun x => inb x (-536870911) 536870911
def numOk (j : Joint) : Bool := impOk j && (inb j.ID 1 1099511627776 && inv4 j.AnchorA (reach j.Kind) && inv4 j.AnchorB 1048576 && inb j.ReferenceAngle (-205888) 205887 && inb j.Lower (limR j.Kind).1 (limR j.Kind).2 && inb j.Upper (limR j.Kind).1 (limR j.Kind).2 && decide (j.Lower ≤ j.Upper) && inb j.MotorSpeed (-16777216) 16777216 && inb j.MaxForce 0 536870911 && inb j.Softness 0 536870911 && inb j.BreakForce 0 536870911)
theorem reach_bd (k : Int) : 0 ≤ reach k ∧ reach k ≤ 1000000000000 := by unfold reach; split <;> omega
theorem sm4 (a b c d : Int) : Sm [a, b, c, d] := by unfold Sm; simp
def all4 (fin : Bool) : List Int → Bool
  | [] => fin
  | a :: t => if (!inb a (-536870911) 536870911) = true then false else all4 fin t
theorem all4_eq (fin : Bool) : ∀ l : List Int, all4 fin l = (l.all (fun x => inb x (-536870911) 536870911) && fin)
  | [] => rfl
  | a :: t => by unfold all4; rw [all4_eq fin t]; cases h : inb a (-536870911) 536870911 <;> simp [h]
theorem joint_num_eq (j : Joint) : joint_numbersInRange j = some (numOk j) := by
  unfold joint_numbersInRange numOk impOk
  rw [← all4_eq]
  have h1 : ∀ m : Int, 0 ≤ m ∧ m ≤ 1000000000000 → joint_pointInRange j.AnchorA m = some (inv4 j.AnchorA m) := fun m => joint_pt_eq _ m
  have h2 := joint_pt_eq j.AnchorB 1048576 (by omega)
  have hK : ∀ m : Int, reach j.Kind = m → 0 ≤ m ∧ m ≤ 1000000000000 := fun m h => h ▸ reach_bd _
  by_cases hk : (j.Kind == 5) = true <;> simp only [Join_nr, Let_nr, hk, ff, if_true, if_false, joint_lim_eq, Bind_snr, joint_in_eq, h2, h1 268435456 (by omega), h1 1048576 (by omega), Bind_if, cond_and, ga1, reach]
  all_goals
    refine LOOP_l0 [j.Impulses.fst, j.Impulses.snd.fst, j.Impulses.snd.snd.fst, j.Impulses.snd.snd.snd] (fun t _ => some (all4 _ t)) _ (sm4 _ _ _ _) ?_ ?_
    · intro r i t hw hc hm hr
      have hc4 : (0 : Int) ≤ (i : Int) ∧ (i : Int) < ((4 : Nat) : Int) := hc
      have hd4 : decide ((i : Int) < (4 : Int)) = true := dlt hc
      simp only [hd4, if_true, hw, Chk_of hc4, hr, all4]
      split <;> rfl
    · intro r
      have : decide (([j.Impulses.fst, j.Impulses.snd.fst, j.Impulses.snd.snd.fst, j.Impulses.snd.snd.snd].length : Int) < (4 : Int)) = false := rfl
      simp only [this, ff, if_false, all4]
theorem ref24_lim_eq (j : Joint) : caromref24_limitsValid j = some (inb j.Lower (limR j.Kind).1 (limR j.Kind).2 && inb j.Upper (limR j.Kind).1 (limR j.Kind).2 && decide (j.Lower ≤ j.Upper)) := by
  unfold caromref24_limitsValid limR
  simp only [Let_nr, ref24_in_eq, Bind_snr, Bind_if, cond_and, cond_or, ga1, ga2, ga3, ge_iff_le, gt_iff_lt]
  have e : ∀ x a b, inb x a b = decide (a ≤ x ∧ x ≤ b) := fun x a b => by unfold inb; rw [Bool.eq_iff_iff]; simp
  simp only [e]
  have k1 : (j.Kind == 1) = decide (j.Kind = 1) := by rw [Bool.eq_iff_iff]; simp
  have k2 : (j.Kind == 2) = decide (j.Kind = 2) := by rw [Bool.eq_iff_iff]; simp
  have k3 : (j.Kind != 2) = !decide (j.Kind = 2) := by rw [Bool.eq_iff_iff]; simp
  simp only [k1, k2, k3]
  have go : ∀ (p : Option Bool) (b : Bool), (∃ a, p = some a ∧ (a = true ↔ b = true)) → p = some b := fun p b ⟨a, h1, h2⟩ => by rw [h1]; exact congrArg some (Bool.eq_iff_iff.2 h2)
  apply go
  repeat' split
  all_goals refine ⟨_, rfl, ?_⟩
  all_goals simp only [Bool.or_eq_true, Bool.and_eq_true, Bool.not_eq_true', decide_eq_true_eq, decide_eq_false_iff_not, Bool.false_eq_true, false_iff, true_iff] at *
  all_goals omega
theorem ref24_num_eq (j : Joint) : caromref24_rangesValid j = some (numOk j) := by
  unfold caromref24_rangesValid numOk impOk
  rw [← all4_eq]
  have h1 : ∀ m : Int, 0 ≤ m ∧ m ≤ 1000000000000 → caromref24_inSquare j.AnchorA m = some (inv4 j.AnchorA m) := fun m => ref24_pt_eq _ m
  have h2 := ref24_pt_eq j.AnchorB 1048576 (by omega)
  by_cases hk : (j.Kind == 5) = true <;> simp only [Join_nr, Let_nr, hk, ff, if_true, if_false, ref24_lim_eq, Bind_snr, ref24_in_eq, h2, h1 268435456 (by omega), h1 1048576 (by omega), Bind_if, cond_and, cond_or, ga1, ga2, ga3, reach]
  all_goals
    refine LOOP_l0 [j.Impulses.fst, j.Impulses.snd.fst, j.Impulses.snd.snd.fst, j.Impulses.snd.snd.snd] (fun t _ => some (all4 _ t)) _ (sm4 _ _ _ _) ?_ ?_
    · intro r i t hw hc hm hr
      have hc4 : (0 : Int) ≤ (i : Int) ∧ (i : Int) < ((4 : Nat) : Int) := hc
      have hd4 : decide ((i : Int) < (4 : Int)) = true := dlt hc
      simp only [hd4, if_true, hw, Chk_of hc4, Chk_of hc, hr, all4]
      split <;> rfl
    · intro r
      have : decide (([j.Impulses.fst, j.Impulses.snd.fst, j.Impulses.snd.snd.fst, j.Impulses.snd.snd.snd].length : Int) < (4 : Int)) = false := rfl
      simp only [this, ff, if_false, all4]
      generalize inb j.Lower (limR j.Kind).1 (limR j.Kind).2 = b1
      generalize inb j.Upper (limR j.Kind).1 (limR j.Kind).2 = b2
      generalize decide (j.Lower ≤ j.Upper) = b3
      generalize inb j.ID 1 1099511627776 = b4
      generalize inv4 j.AnchorB 1048576 = b6
      generalize inb j.ReferenceAngle (-205888) 205887 = b7
      generalize inv4 j.AnchorA _ = b5
      cases b1 <;> cases b2 <;> cases b3 <;> cases b4 <;> cases b5 <;> cases b6 <;> cases b7 <;> simp
def jbOk (j : Joint) : Bool := if (j.Kind == 5) = true then (j.BodyA == 0 && inb j.BodyB 1 1099511627776) else (inb j.BodyA 1 1099511627776 && inb j.BodyB 1 1099511627776 && (j.BodyA != j.BodyB))
theorem joint_bod_eq (j : Joint) : joint_validBodies j = some (jbOk j) := by
  unfold joint_validBodies jbOk
  simp only [Let_nr, joint_in_eq, Bind_snr, Bind_if, cond_and, ga1]
  split <;> rfl
def plainA (j : Joint) : Bool := decide (j.Axis.X = 0) && decide (j.Axis.Y = 0)
def jinc (j : Joint) : Bool := if (j.Kind == 3) = true then !inb (GoOld.lenV j.Axis) 65520 65552 else if (j.Kind == 1) = true then (!plainA j || j.EnableMotor || !j.EnableLimit) else if (j.Kind == 4) = true then (!plainA j || j.EnableMotor || j.EnableLimit) else if (j.Kind == 5) = true then (!plainA j || j.EnableMotor || j.EnableLimit) else !plainA j
theorem joint_inc_eq (j : Joint) : joint_inconsistent j = some (jinc j) := by
  unfold joint_inconsistent jinc plainA
  simp only [Let_nr, Join_nr, br_vec2_Length, GoOld.vec2_Length_eq, joint_in_eq, Bind_snr, Bind_if, cond_and, cond_or]
  repeat' split
  all_goals rfl
def jv (j : Joint) : Int := if (decide (j.Kind < 1) || decide (5 < j.Kind)) = true then 10 else if (!numOk j) = true then 6 else if (!jbOk j) = true then 14 else if jinc j = true then 15 else 0
theorem joint_Val_eq (j : Joint) : joint_Validate j = some (jv j) := by
  unfold joint_Validate jv
  simp only [Let_nr, joint_num_eq, joint_bod_eq, joint_inc_eq, Bind_snr, cond_or, gt_iff_lt]
  repeat' split
  all_goals rfl
theorem ref24_Val_eq (j : Joint) : caromref24_Validate j = some (jv j) := by
  have g10 : ∀ (c : Bool) (a d lo hi : Int), (c && !inb (if (c == true) = true then a else d) lo hi) = (c && !inb a lo hi) := by intro c a d lo hi; cases c <;> rfl
  unfold caromref24_Validate jv
  simp only [Let_nr, ref24_num_eq, br_caromref03_Length, GoOld.ref03_Length_eq, ref24_in_eq, Bind_snr, Bind_if, cond_or, cond_and, gt_iff_lt, ga1, ga2, ga3, ga4, ga9, g10]
  have k : ∀ n : Int, (j.Kind != n) = !(j.Kind == n) := fun n => rfl
  by_cases hk : (decide (j.Kind < 1) || decide (5 < j.Kind)) = true
  · simp only [hk, if_true]
  · simp only [hk, if_false]
    cases hn : numOk j
    · rfl
    · simp only [Bool.not_true, ff, if_false]
      simp only [Bool.or_eq_true, decide_eq_true_eq, not_or, Int.not_lt] at hk
      have hk' : j.Kind = 1 ∨ j.Kind = 2 ∨ j.Kind = 3 ∨ j.Kind = 4 ∨ j.Kind = 5 := by omega
      unfold jbOk jinc plainA
      generalize inb (GoOld.lenV j.Axis) 65520 65552 = b1
      generalize inb j.BodyA 1 1099511627776 = b2
      generalize inb j.BodyB 1 1099511627776 = b3
      have k0 : (j.BodyA != 0) = !(j.BodyA == 0) := rfl
      have k00 : (j.BodyA != j.BodyB) = !(j.BodyA == j.BodyB) := rfl
      rw [k0, k00]
      generalize (j.BodyA == 0) = b4
      generalize (j.BodyA == j.BodyB) = b5
      generalize (decide (j.Axis.X = 0) && decide (j.Axis.Y = 0)) = b6
      generalize j.EnableMotor = b7
      generalize j.EnableLimit = b8
      rcases hk' with h | h | h | h | h <;> simp only [h, k] <;> cases b1 <;> cases b2 <;> cases b3 <;> cases b4 <;> cases b5 <;> cases b6 <;> cases b7 <;> cases b8 <;> rfl
end GoForm


/-
  Plain laws of world: what validation of joints and contacts computes. No conditions.
-/
set_option linter.all false
set_option maxRecDepth 100000
open Go Go.Rx

namespace GoForm
def jex (w : World_) (j : Joint) : Bool := decide (0 ≤ fb w j.BodyB) && (j.Kind == 5 || decide (0 ≤ fb w j.BodyA))
theorem world_ex_eq (w : World_) (j : Joint) (h : Sm w.Bodies) : world_bodiesExist w j = some (jex w j) := by
  unfold world_bodiesExist jex
  simp only [Let_nr, world_Find_eq w _ h, Bind_snr, Bind_if, cond_and, cond_or, ge_iff_le, ga8]
def jcon (w : World_) (j : Joint) : Bool := (j.BodyA == 0 || decide (0 ≤ fb w j.BodyA)) && (j.BodyB == 0 || decide (0 ≤ fb w j.BodyB))
theorem ref25_con_eq (w : World_) (j : Joint) (h : Sm w.Bodies) : caromref25_connected w j = some (jcon w j) := by
  unfold caromref25_connected jcon
  simp only [Let_nr, ref25_Find_eq w _ h, Bind_snr, Bind_if, cond_and, cond_or, ge_iff_le, ga8, ga5]
theorem jv_zero {j : Joint} (h : jv j = 0) : numOk j = true ∧ jbOk j = true ∧ jinc j = false ∧ 1 ≤ j.Kind ∧ j.Kind ≤ 5 := by
  unfold jv at h
  split at h
  · omega
  · split at h
    · omega
    · split at h
      · omega
      · split at h
        · omega
        · simp_all
theorem jex_con {w : World_} {j : Joint} (h : jv j = 0) : jex w j = jcon w j := by
  have h2 := (jv_zero h).2.1
  unfold jbOk inb at h2
  unfold jex jcon
  by_cases hk : j.Kind = 5
  · simp [hk] at h2 ⊢
    have : ¬ j.BodyB = 0 := by omega
    simp [h2.1, this]
  · simp [hk] at h2 ⊢
    have : ¬ j.BodyB = 0 := by omega
    have : ¬ j.BodyA = 0 := by omega
    have e1 : (j.BodyA == 0) = false := by simpa using this
    have e2 : (j.BodyB == 0) = false := by simp; omega
    have e3 : (j.Kind == 5) = false := by simpa using hk
    rw [e1, e2, e3]; simp only [Bool.false_or]; exact Bool.and_comm _ _
theorem jv_ID {j : Joint} (h : jv j = 0) : 1 ≤ j.ID := by
  have h2 := (jv_zero h).1
  unfold numOk inb at h2
  simp at h2; omega
def vjs (w : World_) : List Joint → Nat → Int → Bool
  | [], _, _ => true
  | j :: t, i, p => if (jv j != 0 || decide (w.NextID ≤ j.ID) || decide (j.ID ≤ p) || !jcon w j || decide (0 ≤ fb w j.ID)) = true then false else vjs w t (i + 1) j.ID
theorem world_joints_eq (w : World_) (h : Sm w.Joints) (hb : Sm w.Bodies) : world_validJoints w = some (vjs w w.Joints 0 0) := by
  unfold world_validJoints
  simp only [Let_nr]
  refine LOOP_l1 w.Joints (fun t i p => some (vjs w t i p)) _ 0 h ?_ ?_
  · intro r i t s hw hc hm hr
    simp only [dlt hc, if_true, hw, Chk_of hc, Let_nr, joint_Val_eq, world_ex_eq w _ hb, world_Find_eq w _ hb, Bind_snr, Bind_if, hr, vjs, cond_or, ge_iff_le, ga3, ga5]
    by_cases hj : jv (ix w.Joints (i : Int)) = 0
    · rw [jex_con hj]; split <;> rfl
    · simp [hj]
  · intro r s; simp only [dll, ff, if_false, vjs]
theorem ref25_joints_eq (w : World_) (h : Sm w.Joints) (hb : Sm w.Bodies) : caromref25_validJoints w = some (vjs w w.Joints 0 0) := by
  unfold caromref25_validJoints
  simp only [Let_nr]
  rw [show LOOP _ fuel ((0 : Int), (0 : Int)) = (fun (t : List Joint) (i : Nat) (p : Int) => some (if i = 0 then vjs w t i 0 else vjs w t i p)) w.Joints 0 0 from LOOP_l1 w.Joints (fun t i p => some (if i = 0 then vjs w t i 0 else vjs w t i p)) _ 0 h ?_ ?_]
  · rfl
  · intro r i t s hw hc hm hr
    simp only [dlt hc, if_true, hw, Chk_of hc, Let_nr, ref24_Val_eq, ref25_con_eq w _ hb, ref25_Find_eq w _ hb, Bind_snr, Bind_if, hr, vjs, cond_or, cond_and, ge_iff_le, gt_iff_lt, ga3, ga5, Nat.succ_ne_zero, Nat.add_eq_zero_iff, if_false]
    by_cases hv : jv (ix w.Joints (i : Int)) = 0
    · have h1 := jv_ID hv
      have e : decide ((ix w.Joints (i : Int)).ID ≤ 0) = false := decide_eq_false (by omega)
      by_cases hi : i = 0
      · subst hi
        have e1 : decide ((0 : Int) < ((0 : Nat) : Int)) = false := rfl
        simp only [e1, e, Bool.false_and, Bool.or_false, if_true]; split <;> rfl
      · have e1 : decide ((0 : Int) < (i : Int)) = true := decide_eq_true (by omega)
        simp only [e1, Bool.true_and, hi, if_false]; split <;> rfl
    · simp [hv]
  · intro r s; simp only [dll, ff, if_false, vjs, ite_self]
end GoForm


/-
  Plain laws of world: what validation of contacts computes. No conditions.
-/
set_option linter.all false
set_option maxRecDepth 100000
open Go Go.Rx

namespace GoForm
theorem cmp_nan (x : Int) : cmp_isNaN x = some false := by unfold cmp_isNaN; simp [Let_nr]
def cmpZ (x y : Int) : Int := if x < y then -1 else if y < x then 1 else 0
theorem cmp_eq (x y : Int) : cmp_Compare x y = some (cmpZ x y) := by
  unfold cmp_Compare cmpZ
  simp only [cmp_nan, Bind_snr, ff, if_false, Let_nr, decide_eq_true_eq, gt_iff_lt]
  split
  · rfl
  · split <;> rfl
def orZ : List Int → Int
  | [] => 0
  | a :: t => if (a != 0) = true then a else orZ t
theorem or_eq (l : List Int) (h : Sm l) : cmp_Or l = some (orZ l) := by
  unfold cmp_Or
  simp only [Let_nr]
  refine LOOP_l0 l (fun t _ => some (orZ t)) _ h ?_ ?_
  · intro r i t hw hc hm hr
    simp only [dlt hc, if_true, hw, Chk_of hc, Let_nr, hr, orZ]
    split <;> rfl
  · intro r; simp only [dll, ff, if_false, orZ]
def lessK (a b : PairKey) : Bool := if a.BodyA ≠ b.BodyA then decide (a.BodyA < b.BodyA) else if a.FixtureA ≠ b.FixtureA then decide (a.FixtureA < b.FixtureA) else if a.BodyB ≠ b.BodyB then decide (a.BodyB < b.BodyB) else decide (a.FixtureB < b.FixtureB)
theorem cmpZ_0 (x y : Int) : cmpZ x y = 0 ↔ x = y := by unfold cmpZ; split <;> (try split) <;> omega
theorem cmpZ_n (x y : Int) : cmpZ x y < 0 ↔ x < y := by unfold cmpZ; split <;> (try split) <;> omega
theorem less_eq (a b : PairKey) : broadphase_Less a b = some (lessK a b) := by
  unfold broadphase_Less broadphase_compare lessK
  simp only [cmp_eq, Bind_snr]
  rw [or_eq _ (sm4 _ _ _ _)]
  simp only [Bind_snr, Let_nr, orZ, bne_iff_ne, ne_eq, cmpZ_0]
  by_cases h1 : a.BodyA = b.BodyA
  · by_cases h2 : a.FixtureA = b.FixtureA
    · by_cases h3 : a.BodyB = b.BodyB
      · by_cases h4 : a.FixtureB = b.FixtureB
        · simp [h1, h2, h3, h4]
        · simp [h1, h2, h3, h4, cmpZ_n]
      · simp [h1, h2, h3, cmpZ_n]
    · simp [h1, h2, cmpZ_n]
  · simp [h1, cmpZ_n]
theorem ref22_less_eq (a b : PairKey) : caromref22_Less a b = some (lessK a b) := by
  unfold caromref22_Less lessK
  simp only [Let_nr, bne_iff_ne, ne_eq]
  repeat' split
  all_goals rfl
theorem lessK_irr (a : PairKey) : lessK a a = false := by unfold lessK; simp
def okK (k : PairKey) : Bool := decide (k.BodyA < k.BodyB) && decide (0 ≤ k.FixtureA) && decide (k.FixtureA < 4) && decide (0 ≤ k.FixtureB) && decide (k.FixtureB < 4)
theorem valid_eq (k : PairKey) : broadphase_valid k = some (okK k) := by
  unfold broadphase_valid okK; simp only [Let_nr, cond_and, ge_iff_le]
def vks : List PairKey → Nat → PairKey → Bool
  | [], _, _ => true
  | k :: t, i, p => if (!okK k || (decide (0 < (i : Int)) && !lessK p k)) = true then false else vks t (i + 1) k
theorem keq (a b : PairKey) : (decide (a.BodyA = b.BodyA) && (decide (a.FixtureA = b.FixtureA) && (decide (a.BodyB = b.BodyB) && decide (a.FixtureB = b.FixtureB)))) = decide (a = b) := by
  rw [Bool.eq_iff_iff]; cases a; cases b; simp
theorem vk_eq (l : List PairKey) (h : Sm l) : broadphase_ValidKeys l = some (vks l 0 ⟨0, 0, 0, 0⟩) := by
  unfold broadphase_ValidKeys
  simp only [Let_nr, keq]
  refine LOOP_l2 l (fun t i p => some (vks t i p)) _ _ h ?_ ?_
  · intro r i t s hw hc hm hr
    have g : ∀ (c e f a d : Bool), (c || (e && (f || !(if (c == false && e == true && f == false) = true then a else d)))) = (c || (e && (f || !a))) := by intro c e f a d; cases c <;> cases e <;> cases f <;> rfl
    simp only [dlt hc, if_true, hw, Chk_of hc, Let_nr, valid_eq, less_eq, Bind_snr, Bind_if, hr, vks, cond_or, cond_and, gt_iff_lt, g]
    have e : (decide (ix l (i : Int) = s) || !lessK s (ix l (i : Int))) = !lessK s (ix l (i : Int)) := by
      by_cases hh : ix l (i : Int) = s
      · rw [hh, lessK_irr]; simp
      · simp [hh]
    rw [e]; split <;> rfl
  · intro r s; simp only [dll, ff, if_false, vks]
theorem ref22_vk_eq (l : List PairKey) (h : Sm l) : caromref22_ValidKeys l = some (vks l 0 ⟨0, 0, 0, 0⟩) := by
  unfold caromref22_ValidKeys
  simp only [Let_nr]
  refine LOOP_l0 l (fun t i => some (vks t i (if i = 0 then ⟨0, 0, 0, 0⟩ else ix l ((i : Int) - 1)))) _ h ?_ ?_
  · intro r i t hw hc hm hr
    have hk : ∀ k : PairKey, ((((decide (k.BodyA ≥ k.BodyB) || decide (k.FixtureA < 0)) || decide (k.FixtureA > 3)) || decide (k.FixtureB < 0)) || decide (k.FixtureB > 3)) = !okK k := by
      intro k; unfold okK; rw [Bool.eq_iff_iff]; simp; omega
    have g : ∀ (c e a d : Bool), (c || (e && !(if (c == false && e == true) = true then a else d))) = (c || (e && !a)) := by intro c e a d; cases c <;> cases e <;> rfl
    have e3 : ((i : Int) + 1 - 1) = (i : Int) := by omega
    simp only [dlt hc, if_true, hw, Chk_of hc, Let_nr, ref22_less_eq, Bind_snr, Bind_if, hr, vks, cond_or, cond_and, hk, Nat.succ_ne_zero, Nat.add_eq_zero_iff, if_false]
    by_cases hi : i = 0
    · subst hi
      have e1 : decide (((0 : Nat) : Int) > (0 : Int)) = false := rfl
      have e2 : decide ((0 : Int) < ((0 : Nat) : Int)) = false := rfl
      simp only [e1, e2, Bool.false_and, Bool.and_false, Bool.or_false, ff, Bool.beq_eq_decide_eq]
      simp
      cases okK (ix l 0) <;> rfl
    · have e1 : decide (((i : Nat) : Int) > (0 : Int)) = true := decide_eq_true (by omega)
      have e2 : decide ((0 : Int) < ((i : Nat) : Int)) = true := decide_eq_true (by omega)
      have e4 : IntKind.i64.wrap ((i : Int) - 1) = (i : Int) - 1 := wrap_in _ (by omega) (by unfold Sm at h; omega)
      rw [e4, Chk_of (fun _ => by omega)]
      simp only [e1, e2, Bool.true_and, g, hi, if_false]
      have g2 : ∀ (c a d : Bool), (c || !(if (c == false && true == true) = true then a else d)) = (c || !a) := by intro c a d; cases c <;> rfl
      simp only [g2]
      have e5 : (((i + 1 : Nat) : Int) - 1) = (i : Int) := by omega
      rw [e5]
      split <;> rfl
  · intro r; simp only [dll, ff, if_false, vks]
end GoForm


/-
  Plain laws of world: what validation of contacts computes. No conditions.
-/
set_option linter.all false
set_option maxRecDepth 100000
open Go Go.Rx

namespace GoForm
/-! the standard library's searches -/
theorem ixf_int (l : List Int) (f : Int → Option Bool) (g : Int → Bool) (h : Sm l) (hf : ∀ a ∈ l, f a = some (g a)) : slices_IndexFunc_172 l f = some (idx g l 0) := by
  unfold slices_IndexFunc_172
  simp only [Let_nr]
  refine LOOP_l0 l (fun t i => some (idx g t i)) _ h ?_ ?_
  · intro r i t hw hc hm hr
    simp only [dlt hc, if_true, hw, Chk_of hc, Let_nr, hf _ hm, Bind_snr, hr, idx]
    split <;> rfl
  · intro r; simp only [dll, ff, if_false, idx]
theorem ixf_pt (l : List ContactPoint) (f : ContactPoint → Option Bool) (g : ContactPoint → Bool) (h : Sm l) (hf : ∀ a ∈ l, f a = some (g a)) : slices_IndexFunc_148 l f = some (idx g l 0) := by
  unfold slices_IndexFunc_148
  simp only [Let_nr]
  refine LOOP_l0 l (fun t i => some (idx g t i)) _ h ?_ ?_
  · intro r i t hw hc hm hr
    simp only [dlt hc, if_true, hw, Chk_of hc, Let_nr, hf _ hm, Bind_snr, hr, idx]
    split <;> rfl
  · intro r; simp only [dll, ff, if_false, idx]
theorem ixf_key (l : List PairKey) (f : PairKey → Option Bool) (g : PairKey → Bool) (h : Sm l) (hf : ∀ a ∈ l, f a = some (g a)) : slices_IndexFunc_101 l f = some (idx g l 0) := by
  unfold slices_IndexFunc_101
  simp only [Let_nr]
  refine LOOP_l0 l (fun t i => some (idx g t i)) _ h ?_ ?_
  · intro r i t hw hc hm hr
    simp only [dlt hc, if_true, hw, Chk_of hc, Let_nr, hf _ hm, Bind_snr, hr, idx]
    split <;> rfl
  · intro r; simp only [dll, ff, if_false, idx]
theorem ctf_int (l : List Int) (f : Int → Option Bool) (g : Int → Bool) (h : Sm l) (hf : ∀ a ∈ l, f a = some (g a)) : slices_ContainsFunc_146 l f = some (l.any g) := by
  unfold slices_ContainsFunc_146; simp only [ixf_int l f g h hf, Bind_snr, Let_nr, ge_iff_le, idx_any]
theorem ctf_pt (l : List ContactPoint) (f : ContactPoint → Option Bool) (g : ContactPoint → Bool) (h : Sm l) (hf : ∀ a ∈ l, f a = some (g a)) : slices_ContainsFunc_119 l f = some (l.any g) := by
  unfold slices_ContainsFunc_119; simp only [ixf_pt l f g h hf, Bind_snr, Let_nr, ge_iff_le, idx_any]
theorem ctf_key (l : List PairKey) (f : PairKey → Option Bool) (g : PairKey → Bool) (h : Sm l) (hf : ∀ a ∈ l, f a = some (g a)) : slices_ContainsFunc l f = some (l.any g) := by
  unfold slices_ContainsFunc; simp only [ixf_key l f g h hf, Bind_snr, Let_nr, ge_iff_le, idx_any]
/-! manifolds -/
def sat (x : Int) : Bool := inb x (-536870911) 536870911
theorem world_sat_eq (l : List Int) (h : Sm l) : world_saturated l = some (l.all sat) := by
  unfold world_saturated
  show Rx.Bind (slices_ContainsFunc_146 l world_saturated_1) (fun r => Let (!r) fun x => some x) = _
  rw [ctf_int l _ (fun n => !sat n) h (fun a _ => by unfold world_saturated_1 sat; simp only [world_in_eq, Bind_snr, Let_nr])]
  simp only [Bind_snr, Let_nr, List.any_eq_not_all_not, Bool.not_not]
def pOk (p : ContactPoint) : Bool := !decide (p.NormalImpulse < 0) && (sat p.Point.X && (sat p.Point.Y && (sat p.Separation && (sat p.ID && (sat p.NormalImpulse && sat p.TangentImpulse)))))
def mOk (m : Manifold) : Bool := !(decide ((m.Points.length : Int) < 1) || decide (2 < (m.Points.length : Int)) || ((m.Points.length : Int) == 2 && (ix m.Points 0).ID == (ix m.Points 1).ID) || !(sat m.Normal.X && sat m.Normal.Y)) && m.Points.all pOk
theorem world_pt1 (p : ContactPoint) : world_validManifold_1 p = some (!pOk p) := by
  have h6 : ∀ a b c d e f : Int, Sm [a, b, c, d, e, f] := by intros; unfold Sm; simp
  unfold world_validManifold_1 pOk
  simp only [Let_nr, world_sat_eq _ (h6 _ _ _ _ _ _), Bind_snr, Bind_if, cond_or, ga3, List.all_cons, List.all_nil, Bool.and_true, Bool.not_and, Bool.not_not]
theorem chkP {l : List ContactPoint} {a : Bool} : ((!a && ((l.length : Int) == 2)) = true → (0 : Int) ≤ (0 : Int) ∧ (0 : Int) < (l.length : Int)) ∧ ((!a && ((l.length : Int) == 2)) = true → (0 : Int) ≤ (1 : Int) ∧ (1 : Int) < (l.length : Int)) := by
  constructor <;> intro h <;> simp at h <;> omega
theorem world_man_eq (m : Manifold) (h : Sm m.Points) : world_validManifold m = some (mOk m) := by
  have h2 : ∀ a b : Int, Sm [a, b] := by intros; unfold Sm; simp
  have hg : ∀ a b : Bool, (a == false && b == true) = (!a && b) := by intro a b; cases a <;> cases b <;> rfl
  unfold world_validManifold mOk
  simp only [Let_nr, hg]
  rw [Chk_of chkP.1, Chk_of chkP.2]
  simp only [world_sat_eq _ (h2 _ _), Bind_snr, Bind_if, cond_or, cond_and, ga3, List.all_cons, List.all_nil, Bool.and_true, gt_iff_lt]
  rw [ctf_pt m.Points _ (fun p => !pOk p) h (fun p _ => world_pt1 p)]
  simp only [Bind_snr, List.any_eq_not_all_not, Bool.not_not]
  generalize (decide ((m.Points.length : Int) < 1) || decide (2 < (m.Points.length : Int)) || ((m.Points.length : Int) == 2 && (ix m.Points 0).ID == (ix m.Points 1).ID) || !(sat m.Normal.X && sat m.Normal.Y)) = c
  cases c <;> simp
theorem ref25_sat_eq (v : Vec) : caromref25_saturated v = some (sat v.X && sat v.Y) := by
  unfold caromref25_saturated sat; simp only [Let_nr, ref25_in_eq, Bind_snr, Bind_if, cond_and, ga1]
def allP : List ContactPoint → Bool
  | [] => true
  | p :: t => if (!pOk p) = true then false else allP t
theorem allP_eq : ∀ l : List ContactPoint, allP l = l.all pOk
  | [] => rfl
  | p :: t => by unfold allP; rw [allP_eq t]; cases h : pOk p <;> simp [h]
theorem ref25_man_eq (m : Manifold) (h : Sm m.Points) : caromref25_validPoints m = some (mOk m) := by
  have hg : ∀ a b : Bool, (a == false && b == true) = (!a && b) := by intro a b; cases a <;> cases b <;> rfl
  unfold caromref25_validPoints mOk
  simp only [Let_nr, hg]
  rw [Chk_of chkP.1, Chk_of chkP.2]
  simp only [ref25_sat_eq, Bind_snr, Bind_if, cond_or, cond_and, ga3, gt_iff_lt]
  rw [← allP_eq]
  generalize (decide ((m.Points.length : Int) < 1) || decide (2 < (m.Points.length : Int)) || ((m.Points.length : Int) == 2 && (ix m.Points 0).ID == (ix m.Points 1).ID) || !(sat m.Normal.X && sat m.Normal.Y)) = c
  cases c
  rotate_left
  · rfl
  · simp only [ff, if_false, Bool.not_false, Bool.true_and]
    refine LOOP_l0 m.Points (fun t _ => some (allP t)) _ h ?_ ?_
    · intro r i t hw hc hm hr
      have hp : ∀ p : ContactPoint, (((!inb p.NormalImpulse 0 536870911 || !inb p.TangentImpulse (-536870911) 536870911) || !(sat p.Point.X && sat p.Point.Y)) || !(sat p.Separation && sat p.ID)) = !pOk p := by
        intro p; unfold pOk sat inb; rw [Bool.eq_iff_iff]; simp; omega
      simp only [dlt hc, if_true, hw, Chk_of hc, Let_nr, ref25_in_eq, ref25_sat_eq, Bind_snr, Bind_if, cond_or, ga3, hp, hr, allP]
      split <;> rfl
    · intro r; simp only [dll, ff, if_false, allP]
end GoForm


/-
  Plain laws of world: validation agrees with the reference. No conditions.
-/
set_option linter.all false
set_option maxRecDepth 100000
open Go Go.Rx

namespace GoForm
def exw (w : World_) (id n : Int) : Bool := decide (0 ≤ fb w id) && decide (0 ≤ n) && decide (n < ((ix w.Bodies (fb w id)).Fixtures.length : Int))
theorem ref25_exi_eq (w : World_) (id n : Int) (h : Sm w.Bodies) : caromref25_exists w id n = some (exw w id n) := by
  unfold caromref25_exists exw
  simp only [Let_nr, ref25_Find_eq w _ h, Bind_snr, ge_iff_le, cond_and]
  rw [Chk_of]
  intro hh; simp at hh
  have := fb_bd w id; omega
def exk (w : World_) (k : PairKey) : Bool := exw w k.BodyA k.FixtureA && exw w k.BodyB k.FixtureB
theorem world_fix_eq (w : World_) (k : PairKey) (h : Sm w.Bodies) (hk : okK k = true) : world_fixturesExist w k = some (exk w k) := by
  unfold world_fixturesExist exk exw
  simp only [Let_nr, world_Find_eq w _ h, Bind_snr, ge_iff_le, cond_and]
  have h1 := fb_bd w k.BodyA
  have h2 := fb_bd w k.BodyB
  rw [Chk_of (by intro hh; simp at hh; omega), Chk_of (by intro hh; simp at hh; omega)]
  refine congrArg some ?_
  unfold okK at hk; simp at hk
  rw [Bool.eq_iff_iff]; simp; omega
def allK (w : World_) : List PairKey → Bool
  | [] => true
  | k :: t => if (!exk w k) = true then false else allK w t
theorem allK_eq (w : World_) : ∀ l : List PairKey, allK w l = l.all (exk w)
  | [] => rfl
  | k :: t => by unfold allK; rw [allK_eq w t]; cases h : exk w k <;> simp [h]
theorem ref25_res_eq (w : World_) (l : List PairKey) (h : Sm w.Bodies) (hl : Sm l) : caromref25_resolved w l = some (l.all (exk w)) := by
  unfold caromref25_resolved
  rw [← allK_eq]
  simp only [Let_nr]
  refine LOOP_l0 l (fun t _ => some (allK w t)) _ hl ?_ ?_
  · intro r i t hw hc hm hr
    have e : ∀ k : PairKey, (!exw w k.BodyA k.FixtureA || !exw w k.BodyB k.FixtureB) = !exk w k := by intro k; unfold exk; rw [Bool.not_and]
    simp only [dlt hc, if_true, hw, Chk_of hc, Let_nr, ref25_exi_eq w _ _ h, Bind_snr, Chk_of (fun _ => hc), Bind_if, cond_or, ga3, e, hr, allK]
    split <;> rfl
  · intro r; simp only [dll, ff, if_false, allK]
theorem ref25_Keys_eq (l : List Contact) (hl : l.length ≤ 10000) : caromref25_Keys l = some (l.map (·.Key)) := by
  unfold caromref25_Keys
  simp only [Let_nr]
  refine (LOOP_i l (fun i s => s.length = i) (fun t _ s => some (s ++ t.map (·.Key))) _ _ (sm_of hl (by omega)) rfl ?_ ?_)
  · intro r i t s hp hw hc hm hr
    have hp2 : (s ++ [(ix l (i : Int)).Key]).length = i + 1 := by simp [hp]
    have hb : (List.length s + [(ix l (i : Int)).Key].length) * 32 ≤ 140737488355328 := by simp [hp]; omega
    simp only [dlt hc, if_true, hw, Chk_of hc, Chk_of hb, Let_nr, hr _ hp2, List.map_cons, List.append_assoc, List.singleton_append]
  · intro r s hp; simp only [dll, ff, if_false, List.map_nil, List.append_nil]
theorem concat_eq (a b : List PairKey) (ha : a.length ≤ 10000) (hb : b.length ≤ 10000) : slices_Concat [a, b] = some (a ++ b) := by
  obtain ⟨n, hn⟩ : ∃ n, fuel = n + 3 := ⟨2 ^ 70 - 3, rfl⟩
  have w1 : IntKind.i64.wrap ((0 : Int) + (a.length : Int)) = (a.length : Int) := by rw [wrap_in _ (by omega) (by omega)]; omega
  have w2 : IntKind.i64.wrap ((a.length : Int) + (b.length : Int)) = (a.length : Int) + (b.length : Int) := wrap_in _ (by omega) (by omega)
  have w3 : IntKind.i64.wrap ((0 : Int) + (1 : Int)) = 1 := rfl
  have w4 : IntKind.i64.wrap ((1 : Int) + (1 : Int)) = 2 := rfl
  have w5 : IntKind.i64.wrap ((0 : Int) - (0 : Int)) = 0 := rfl
  have w6 : IntKind.i64.wrap ((a.length : Int) + (b.length : Int) - 0) = (a.length : Int) + (b.length : Int) := by rw [wrap_in _ (by omega) (by omega)]; omega
  have x0 : ix [a, b] (0 : Int) = a := rfl
  have x1 : ix [a, b] (1 : Int) = b := rfl
  have l2 : (([a, b] : List (List PairKey)).length : Int) = 2 := rfl
  have d0 : decide ((0 : Int) < 2) = true := rfl
  have d1 : decide ((1 : Int) < 2) = true := rfl
  have d2 : decide ((2 : Int) < 2) = false := rfl
  have e1 : decide ((a.length : Int) < 0) = false := decide_eq_false (by omega)
  have e2 : decide ((a.length : Int) + (b.length : Int) < 0) = false := decide_eq_false (by omega)
  have c0 : (0 : Int) ≤ (0 : Int) ∧ (0 : Int) < 2 := by omega
  have c1 : (0 : Int) ≤ (1 : Int) ∧ (1 : Int) < 2 := by omega
  have inner : ∀ v : List PairKey, v = [] → LOOP (fun (rec688 : List PairKey × Int → Option (List PairKey)) (s689 : List PairKey × Int) =>
      if decide (s689.snd < (2 : Int)) = true then Chk ((0 : Int) ≤ s689.snd ∧ s689.snd < (2 : Int))
      (Chk ((List.length s689.fst + (ix [a, b] s689.snd).length) * (32 : Nat) ≤ (140737488355328 : Nat)) (rec688 (s689.fst ++ ix [a, b] s689.snd, IntKind.i64.wrap (s689.snd + (1 : Int))))) else some s689.fst) (n + 3) (v, (0 : Int)) = some (a ++ b) := by
    intro v hv; subst hv
    have b1 : (List.length ([] : List PairKey) + a.length) * 32 ≤ 140737488355328 := by simp; omega
    have b2 : (a.length + b.length) * 32 ≤ 140737488355328 := by omega
    simp only [LOOP_s, d0, d1, d2, if_true, ff, if_false, Chk_of c0, Chk_of c1, x0, x1, w3, w4, Chk_of b1, List.nil_append, Chk_of b2]
  unfold slices_Concat
  rw [hn]
  simp only [Let_nr, Join_nr, l2]
  rw [LOOP_s]
  simp only [d0, if_true, Chk_of c0, x0, w1, e1, ff, if_false, w3]
  rw [LOOP_s]
  simp only [d1, if_true, Chk_of c1, x1, w2, e2, ff, if_false, w4]
  rw [LOOP_s]
  simp only [d2, ff, if_false, e2, w5, w6]
  by_cases hz : (a.length : Int) + (b.length : Int) > 0
  · rw [if_pos (decide_eq_true hz)]
    rw [Chk_true, Chk_of ⟨hz, by omega, by omega⟩, Chk_of (by simp), Chk_of (by simp)]
    exact inner _ (by simp)
  · rw [if_neg (by simpa using hz)]
    exact inner _ rfl
end GoForm


/-
  Plain laws of world: validation agrees with the reference. No conditions.
-/
set_option linter.all false
set_option maxRecDepth 100000
open Go Go.Rx

namespace GoForm
/-- A world that is small enough. -/
structure Few (w : World_) : Prop where
  bodies : w.Bodies.length ≤ 40
  joints : w.Joints.length ≤ 40
  contacts : w.Contacts.length ≤ 80
  overlaps : w.Overlaps.length ≤ 80
  points : ∀ c ∈ w.Contacts, c.Manifold.Points.length ≤ 8
  fixtures : ∀ b ∈ w.Bodies, b.Fixtures.length ≤ 8
  vertices : ∀ b ∈ w.Bodies, ∀ f ∈ b.Fixtures, f.Shape.Vertices.length ≤ 20
theorem Few.sb {w : World_} (h : Few w) : Sm w.Bodies := sm_of h.bodies (by omega)
theorem Few.sj {w : World_} (h : Few w) : Sm w.Joints := sm_of h.joints (by omega)
theorem Few.sc {w : World_} (h : Few w) : Sm w.Contacts := sm_of h.contacts (by omega)
theorem Few.so {w : World_} (h : Few w) : Sm w.Overlaps := sm_of h.overlaps (by omega)
def keysOf (w : World_) : List PairKey := w.Contacts.map (·.Key)
theorem Few.sk {w : World_} (h : Few w) : Sm (keysOf w) := sm_of (n := 80) (by unfold keysOf; rw [List.length_map]; exact h.contacts) (by omega)
def k0 : PairKey := ⟨0, 0, 0, 0⟩
def cOk (w : World_) : Bool := w.Contacts.all (fun c => mOk c.Manifold) && (vks (keysOf w) 0 k0 && vks w.Overlaps 0 k0 && ((keysOf w).all (exk w) && w.Overlaps.all (exk w)))
theorem vks_ok : ∀ (l : List PairKey) (i : Nat) (p : PairKey), vks l i p = true → ∀ k ∈ l, okK k = true
  | [], _, _, _, _, h => by simp at h
  | a :: t, i, p, h, k, hk => by
    unfold vks at h
    split at h
    · exact absurd h (by simp)
    · rename_i hh
      rcases List.mem_cons.1 hk with e | e
      · subst e; simp at hh; exact hh.1
      · exact vks_ok t _ _ h k e
def vcs (fin : List PairKey → Bool) : List Contact → List PairKey → Bool
  | [], s => fin s
  | c :: t, s => if (!mOk c.Manifold) = true then false else vcs fin t (s ++ [c.Key])
theorem vcs_eq (fin : List PairKey → Bool) : ∀ (l : List Contact) (s : List PairKey), vcs fin l s = (l.all (fun c => mOk c.Manifold) && fin (s ++ l.map (·.Key)))
  | [], s => by simp [vcs]
  | c :: t, s => by unfold vcs; rw [vcs_eq fin t]; cases h : mOk c.Manifold <;> simp [h]
theorem world_con_eq (w : World_) (h : Few w) : world_validContacts w = some (cOk w) := by
  have hf : ∀ s : List PairKey, s.length ≤ 80 → (Rx.Bind (broadphase_ValidKeys s) fun (r726 : Bool) =>
      Rx.Bind (if ((!r726) == false) = true then broadphase_ValidKeys w.Overlaps else some default) fun (r728 : Bool) =>
      if (bif !r726 then true else !r728) = true then some false
      else
      Rx.Bind (slices_Concat [s, w.Overlaps]) fun (r731 : List PairKey) =>
      Rx.Bind (slices_ContainsFunc r731 fun a => world_validContacts_1 a w) fun (r732 : Bool) => some !r732) = some (vks s 0 k0 && vks w.Overlaps 0 k0 && (s.all (exk w) && w.Overlaps.all (exk w))) := by
    intro s hs
    simp only [vk_eq s (sm_of hs (by omega)), vk_eq _ h.so, Bind_snr, Bind_if, cond_or, ga3]
    show (if (!vks s 0 k0 || !vks w.Overlaps 0 k0) = true then some false else _) = _
    cases h1 : vks s 0 k0
    · rfl
    · cases h2 : vks w.Overlaps 0 k0
      · rfl
      · simp only [Bool.not_true, Bool.or_false, ff, if_false, Bool.true_and]
        rw [concat_eq s w.Overlaps (by omega) (by have := h.overlaps; omega), Bind_snr]
        rw [ctf_key (s ++ w.Overlaps) _ (fun k => !exk w k) (sm_of (n := 200) (by have := h.overlaps; simp; omega) (by omega))]
        · rw [Bind_snr, List.any_append, List.any_eq_not_all_not, List.any_eq_not_all_not]
          simp only [Bool.not_not, Bool.not_or]
        · intro k hk
          have : okK k = true := by
            rcases List.mem_append.1 hk with e | e
            · exact vks_ok _ _ _ h1 k e
            · exact vks_ok _ _ _ h2 k e
          unfold world_validContacts_1
          rw [world_fix_eq w k h.sb this, Bind_snr, Let_nr]
  unfold world_validContacts
  simp only [Let_nr]
  have hc0 : cOk w = vcs (fun s => vks s 0 k0 && vks w.Overlaps 0 k0 && (s.all (exk w) && w.Overlaps.all (exk w))) w.Contacts [] := by rw [vcs_eq]; rfl
  rw [hc0]
  refine (LOOP_i w.Contacts (fun i s => s.length = i) (fun t _ s => some (vcs (fun s => vks s 0 k0 && vks w.Overlaps 0 k0 && (s.all (exk w) && w.Overlaps.all (exk w))) t s)) _ _ h.sc rfl ?_ ?_)
  · intro r i t s hp hw hc hm hr
    have hl := h.contacts
    have hp2 : (s ++ [(ix w.Contacts (i : Int)).Key]).length = i + 1 := by simp [hp]
    have hb : (List.length s + [(ix w.Contacts (i : Int)).Key].length) * 32 ≤ 140737488355328 := by simp [hp]; omega
    simp only [dlt hc, if_true, hw, Chk_of hc, Chk_of hb, world_man_eq _ (sm_of (h.points _ hm) (by omega)), Bind_snr, Let_nr, hr _ hp2, vcs]
    split <;> rfl
  · intro r s hp
    have hl := h.contacts
    simp only [dll, ff, if_false]
    exact hf s (by omega)
def allM : List Contact → Bool
  | [] => true
  | c :: t => if (!mOk c.Manifold) = true then false else allM t
theorem allM_eq : ∀ l : List Contact, allM l = l.all (fun c => mOk c.Manifold)
  | [] => rfl
  | c :: t => by unfold allM; rw [allM_eq t]; cases h : mOk c.Manifold <;> simp [h]
theorem ref25_cts_eq (w : World_) (h : Few w) : caromref25_validContacts w = some (cOk w) := by
  unfold caromref25_validContacts cOk
  have hk : caromref25_Keys w.Contacts = some (keysOf w) := ref25_Keys_eq _ (by have := h.contacts; omega)
  have hL : LOOP (fun (rec1339 : Int → Option Bool) (s1340 : Int) =>
      if decide (s1340 < (w.Contacts.length : Int)) = true then Chk ((0 : Int) ≤ s1340 ∧ s1340 < (w.Contacts.length : Int))
      (Rx.Bind (caromref25_validPoints (ix w.Contacts s1340).Manifold) fun (r1344 : Bool) =>
      if (!r1344) = true then some false else rec1339 (IntKind.i64.wrap (s1340 + (1 : Int)))) else some true) fuel (0 : Int) = some (w.Contacts.all (fun c => mOk c.Manifold)) := by
    rw [← allM_eq]
    refine LOOP_l0 w.Contacts (fun t _ => some (allM t)) _ h.sc ?_ ?_
    · intro r i t hw hc hm hr
      simp only [dlt hc, if_true, hw, Chk_of hc, ref25_man_eq _ (sm_of (h.points _ hm) (by omega)), Bind_snr, hr, allM]
      split <;> rfl
    · intro r; simp only [dll, ff, if_false, allM]
  simp only [Let_nr, hk, ref22_vk_eq _ h.sk, ref22_vk_eq _ h.so, ref25_res_eq w _ h.sb h.sk, ref25_res_eq w _ h.sb h.so, Bind_snr, Bind_if, cond_or, ga3, hL]
  show (if (((!vks (keysOf w) 0 k0 || !vks w.Overlaps 0 k0) || !(keysOf w).all (exk w)) || !w.Overlaps.all (exk w)) = true then some false else _) = _
  generalize vks (keysOf w) 0 k0 = b1
  generalize vks w.Overlaps 0 k0 = b2
  generalize (keysOf w).all (exk w) = b3
  generalize w.Overlaps.all (exk w) = b4
  cases b1 <;> cases b2 <;> cases b3 <;> cases b4 <;> simp
def wv (w : World_) : Int := if (vset w.Settings != 0) = true then 17 else if (decide (32 < (w.Bodies.length : Int)) || decide (32 < (w.Joints.length : Int)) || decide (8192 < (w.Contacts.length : Int)) || decide (8192 < (w.Overlaps.length : Int))) = true then 11 else if (!inb w.NextID 1 1099511627776 || !inb w.Frame 0 1099511627776) = true then 6 else if (!vbs w.NextID w.Bodies 0 0) = true then 14 else if (!vjs w w.Joints 0 0) = true then 15 else if (!cOk w) = true then 16 else 0
theorem world_Val_eq (w : World_) (h : Few w) : world_Validate w = some (wv w) := by
  unfold world_Validate wv
  simp only [Let_nr, world_set_eq, world_in_eq, world_bodies_eq w h.sb, world_joints_eq w h.sj h.sb, world_con_eq w h, Bind_snr, Bind_if, cond_or, ga3, gt_iff_lt]
  repeat' split
  all_goals rfl
theorem ref25_Val_eq (w : World_) (h : Few w) : caromref25_Validate w = some (wv w) := by
  unfold caromref25_Validate wv
  simp only [Let_nr, ref25_set_eq, ref25_in_eq, ref25_bodies_eq w h.sb, ref25_joints_eq w h.sj h.sb, ref25_cts_eq w h, Bind_snr, Bind_if, cond_or, ga3, gt_iff_lt]
  repeat' split
  all_goals rfl
end GoForm


/-
  Plain laws of world: a clone equals what it was made of. No conditions.
-/
set_option linter.all false
set_option maxRecDepth 100000
open Go Go.Rx

namespace GoForm
theorem cloneB (l : List Body) (h : l.length ≤ 100000) : slices_Clone l = some l := by
  unfold slices_Clone; rw [Alike_of (by intro h; subst h; rfl), Chk_of (by omega)]
theorem cloneV (l : List Vec) (h : l.length ≤ 100000) : slices_Clone_128 l = some l := by
  unfold slices_Clone_128; rw [Alike_of (by intro h; subst h; rfl), Chk_of (by omega)]
theorem cloneJ (l : List Joint) (h : l.length ≤ 100000) : slices_Clone_78 l = some l := by
  unfold slices_Clone_78; rw [Alike_of (by intro h; subst h; rfl), Chk_of (by omega)]
theorem cloneC (l : List Contact) (h : l.length ≤ 100000) : slices_Clone_79 l = some l := by
  unfold slices_Clone_79; rw [Alike_of (by intro h; subst h; rfl), Chk_of (by omega)]
theorem cloneK (l : List PairKey) (h : l.length ≤ 100000) : slices_Clone_80 l = some l := by
  unfold slices_Clone_80; rw [Alike_of (by intro h; subst h; rfl), Chk_of (by omega)]
theorem cloneP (l : List ContactPoint) (h : l.length ≤ 100000) : slices_Clone_115 l = some l := by
  unfold slices_Clone_115; rw [Alike_of (by intro h; subst h; rfl), Chk_of (by omega)]
/-- A body that is small enough. -/
def SmB (b : Body) : Prop := b.Fixtures.length ≤ 10000 ∧ ∀ f ∈ b.Fixtures, f.Shape.Vertices.length ≤ 10000
theorem Few.smb {w : World_} (h : Few w) : ∀ b ∈ w.Bodies, SmB b := fun b hb => ⟨Nat.le_trans (h.fixtures b hb) (by omega), fun f hf => Nat.le_trans (h.vertices b hb f hf) (by omega)⟩
theorem body_Clone_eq (b : Body) (h : SmB b) : body_Clone b = some b := by
  unfold body_Clone
  simp only [Let_nr]
  refine (LOOP_i b.Fixtures (fun i s => s.length = i) (fun t _ s => some { b with Fixtures := s ++ t }) _ [] (sm_of h.1 (by omega)) rfl ?_ ?_)
  · intro r i t s hp hw hc hm hr
    have hl := h.1
    have hp2 : ∀ f : Fixture, (s ++ [f]).length = i + 1 := by intro f; simp [hp]
    have hb : ∀ f : Fixture, (List.length s + [f].length) * 96 ≤ 140737488355328 := by intro f; simp [hp]; omega
    have hsh : shape_Clone (ix b.Fixtures (i : Int)).Shape = some (ix b.Fixtures (i : Int)).Shape := by
      unfold shape_Clone; rw [cloneV _ (Nat.le_trans (h.2 _ hm) (by omega))]; rfl
    simp only [dlt hc, if_true, hw, Chk_of hc, hsh, Bind_snr, Chk_of (hb _), hr _ (hp2 _), List.append_assoc, List.singleton_append]
  · intro r s hp; simp only [dll, ff, if_false, List.append_nil]
theorem ref23_Clone_eq (b : Body) (h : SmB b) : caromref23_Clone b = some b := by
  unfold caromref23_Clone
  simp only [Let_nr]
  refine (LOOP_i b.Fixtures (fun i s => s.length = i) (fun t _ s => some { b with Fixtures := s ++ t }) _ [] (sm_of h.1 (by omega)) rfl ?_ ?_)
  · intro r i t s hp hw hc hm hr
    have hl := h.1
    have hp2 : ∀ f : Fixture, (s ++ [f]).length = i + 1 := by intro f; simp [hp]
    have hb : ∀ f : Fixture, (List.length s + [f].length) * 96 ≤ 140737488355328 := by intro f; simp [hp]; omega
    have hsh : caromref12_Clone (ix b.Fixtures (i : Int)).Shape = some (ix b.Fixtures (i : Int)).Shape := by
      unfold caromref12_Clone; rw [Chk_of (by have := h.2 _ hm; omega)]
    simp only [dlt hc, if_true, hw, Chk_of hc, hsh, Bind_snr, Chk_of (hb _), hr _ (hp2 _), List.append_assoc, List.singleton_append]
  · intro r s hp; simp only [dll, ff, if_false, List.append_nil]
theorem man_Clone_eq (m : Manifold) (h : m.Points.length ≤ 100000) : manifold_Clone m = some m := by
  unfold manifold_Clone; rw [cloneP _ h]; rfl
theorem ref16_Clone_eq (m : Manifold) (h : m.Points.length ≤ 100000) : caromref16_Clone m = some m := by
  unfold caromref16_Clone; rw [Chk_of (by omega)]
/-- A world that is small enough to be cloned. -/
structure SmW (w : World_) : Prop where
  bodies : w.Bodies.length ≤ 10000
  joints : w.Joints.length ≤ 10000
  contacts : w.Contacts.length ≤ 10000
  overlaps : w.Overlaps.length ≤ 10000
  points : ∀ c ∈ w.Contacts, c.Manifold.Points.length ≤ 10000
  body : ∀ b ∈ w.Bodies, SmB b
theorem Few.smw {w : World_} (h : Few w) : SmW w := ⟨Nat.le_trans h.bodies (by omega), Nat.le_trans h.joints (by omega), Nat.le_trans h.contacts (by omega), Nat.le_trans h.overlaps (by omega), fun c hc => Nat.le_trans (h.points c hc) (by omega), h.smb⟩
theorem world_Clone_eq (w : World_) (h : SmW w) : world_Clone w = some w := by
  unfold world_Clone
  simp only [cloneB _ (Nat.le_trans h.bodies (by omega)), cloneJ _ (Nat.le_trans h.joints (by omega)), cloneC _ (Nat.le_trans h.contacts (by omega)), cloneK _ (Nat.le_trans h.overlaps (by omega)), Bind_snr, Let_nr]
  refine (LOOP_j w.Bodies (fun _ s => s = w.Bodies) (fun _ _ _ => some w) _ _ (sm_of h.bodies (by omega)) rfl ?_ ?_)
  · intro r i t s hp hw hc hm hr
    subst hp
    have e : List.set w.Bodies (Int.toNat (i : Int)) (ix w.Bodies (i : Int)) = w.Bodies := set_ix _ _
    simp only [dlt hc, if_true, hw, Chk_of hc, body_Clone_eq _ (h.body _ hm), Bind_snr, e, hr _ rfl]
  · intro r s hp
    subst hp
    simp only [dll, ff, if_false]
    refine (LOOP_j w.Contacts (fun _ s => s = w.Contacts) (fun _ _ _ => some w) _ _ (sm_of h.contacts (by omega)) rfl ?_ ?_)
    · intro r i t s hp hw hc hm hr
      subst hp
      have e : List.set w.Contacts (Int.toNat (i : Int)) { Key := (ix w.Contacts (i : Int)).Key, Manifold := (ix w.Contacts (i : Int)).Manifold : Contact } = w.Contacts := set_ix _ _
      simp only [dlt hc, if_true, hw, Chk_of hc, man_Clone_eq _ (Nat.le_trans (h.points _ hm) (by omega)), Bind_snr, e, hr _ rfl]
    · intro r s hp; subst hp; simp only [dll, ff, if_false]
theorem ref25_Clone_eq (w : World_) (h : SmW w) : caromref25_Clone w = some w := by
  unfold caromref25_Clone
  simp only [Let_nr]
  refine (LOOP_j w.Bodies (fun i s => s = { w with Bodies := w.Bodies.take i, Contacts := [] }) (fun _ _ _ => some w) _ _ (sm_of h.bodies (by omega)) (by simp) ?_ ?_)
  · intro r i t s hp hw hc hm hr
    subst hp
    have hl := h.bodies
    have hi : i < w.Bodies.length := by omega
    have hb : ((w.Bodies.take i).length + [ix w.Bodies (i : Int)].length) * 152 ≤ 140737488355328 := by simp; omega
    have ht : w.Bodies.take i ++ [ix w.Bodies (i : Int)] = w.Bodies.take (i + 1) := by rw [ix_lt _ _ hi, List.take_append_getElem]
    simp only [dlt hc, if_true, hw, Chk_of hc, ref23_Clone_eq _ (h.body _ hm), Bind_snr, Chk_of hb, ht]
    exact hr _ rfl
  · intro r s hp
    subst hp
    have hj := h.joints
    simp only [dll, ff, if_false, List.take_length]
    rw [Chk_of (by omega)]
    refine (LOOP_j w.Contacts (fun i s => s = { w with Contacts := w.Contacts.take i }) (fun _ _ _ => some w) _ _ (sm_of h.contacts (by omega)) (by simp) ?_ ?_)
    · intro r i t s hp hw hc hm hr
      subst hp
      have hl := h.contacts
      have hi : i < w.Contacts.length := by omega
      have hb : ((w.Contacts.take i).length + [({ Key := (ix w.Contacts (i : Int)).Key, Manifold := (ix w.Contacts (i : Int)).Manifold } : Contact)].length) * 72 ≤ 140737488355328 := by simp; omega
      have ht : w.Contacts.take i ++ [({ Key := (ix w.Contacts (i : Int)).Key, Manifold := (ix w.Contacts (i : Int)).Manifold } : Contact)] = w.Contacts.take (i + 1) := by
        show w.Contacts.take i ++ [ix w.Contacts (i : Int)] = _
        rw [ix_lt _ _ hi, List.take_append_getElem]
      simp only [dlt hc, if_true, hw, Chk_of hc, ref16_Clone_eq _ (Nat.le_trans (h.points _ hm) (by omega)), Bind_snr, Chk_of hb, ht]
      exact hr _ rfl
    · intro r s hp
      subst hp
      have ho := h.overlaps
      simp only [dll, ff, if_false, List.take_length]
      rw [Chk_of (by omega)]
def zeroW : World_ := { Settings := { TimeStep := 0, Gravity := { X := 0, Y := 0 }, Iterations := 0, SleepSteps := 0 }, Bodies := [], Joints := [], Contacts := [], Overlaps := [], NextID := 0, Frame := 0 }
def addW (w : World_) (b : Body) : World_ × Int × Int :=
  if (decide (32 ≤ (w.Bodies.length : Int)) || decide (1099511627776 ≤ w.NextID)) = true then (zeroW, 0, 9)
  else if (GoOld.validB { b with ID := w.NextID } != 0) = true then (zeroW, 0, 14)
  else ({ w with Bodies := w.Bodies ++ [{ b with ID := w.NextID }], NextID := IntKind.i64.wrap (w.NextID + 1) }, w.NextID, 0)
theorem world_Add_eq (w : World_) (b : Body) (h : SmW w) (hb : SmB b) : world_AddBody w b = some (addW w b) := by
  have hl := h.bodies
  have hc : ∀ x : Body, (w.Bodies.length + [x].length) * 152 ≤ 140737488355328 := by intro x; simp; omega
  unfold world_AddBody addW
  simp only [Let_nr, body_Clone_eq b hb, bodyV, bodyV', world_Clone_eq w h, Bind_snr, cond_or, ge_iff_le, Chk_of (hc _)]
  split
  · rfl
  · split <;> rfl
theorem ref25_Add_eq (w : World_) (b : Body) (h : SmW w) (hb : SmB b) : caromref25_AddBody w b = some (addW w b) := by
  have hl := h.bodies
  have hc : ∀ x : Body, (w.Bodies.length + [x].length) * 152 ≤ 140737488355328 := by intro x; simp; omega
  have hb2 : SmB { b with ID := w.NextID } := hb
  unfold caromref25_AddBody addW
  simp only [Let_nr, ref23_Clone_eq _ hb2, bodyV', ref25_Clone_eq w h, Bind_snr, cond_or, ge_iff_le, Chk_of (hc _)]
  split
  · rfl
  · split <;> rfl
end GoForm


/-
  WorldValidation in plain Lean: the law holds of every world. No conditions.
-/
set_option linter.all false
set_option maxRecDepth 100000
open Go Go.Rx

namespace GoForm
def fewB (b : Body) : Bool := decide ((b.Fixtures.length : Int) ≤ 8) && b.Fixtures.all (fun f => decide ((f.Shape.Vertices.length : Int) ≤ 20))
def allF {X : Type} (fin bad : X) : List Fixture → X
  | [] => fin
  | f :: t => if decide ((f.Shape.Vertices.length : Int) > 20) = true then bad else allF fin bad t
theorem allF_eq {X : Type} (fin bad : X) : ∀ l : List Fixture, allF fin bad l = if l.all (fun f => decide ((f.Shape.Vertices.length : Int) ≤ 20)) = true then fin else bad
  | [] => rfl
  | f :: t => by
    unfold allF; rw [allF_eq fin bad t]
    by_cases h : (f.Shape.Vertices.length : Int) > 20
    · have : decide ((f.Shape.Vertices.length : Int) ≤ 20) = false := decide_eq_false (by omega)
      simp only [h, decide_true, if_true, List.all_cons, this, Bool.false_and, ff, if_false]
    · have : decide ((f.Shape.Vertices.length : Int) ≤ 20) = true := decide_eq_true (by omega)
      simp only [decide_eq_false h, ff, if_false, List.all_cons, this, Bool.true_and]
def allB : List Body → Bool
  | [] => true
  | b :: t => if decide ((b.Fixtures.length : Int) > 8) = true then false else if b.Fixtures.all (fun f => decide ((f.Shape.Vertices.length : Int) ≤ 20)) = true then allB t else false
theorem allB_eq : ∀ l : List Body, allB l = l.all fewB
  | [] => rfl
  | b :: t => by
    unfold allB fewB; rw [allB_eq t]
    by_cases h : (b.Fixtures.length : Int) > 8
    · have : decide ((b.Fixtures.length : Int) ≤ 8) = false := decide_eq_false (by omega)
      simp only [h, decide_true, if_true, List.all_cons, this, Bool.false_and]
    · have : decide ((b.Fixtures.length : Int) ≤ 8) = true := decide_eq_true (by omega)
      simp only [decide_eq_false h, ff, if_false, List.all_cons, this, Bool.true_and]
      cases b.Fixtures.all (fun f => decide ((f.Shape.Vertices.length : Int) ≤ 20)) <;> rfl
theorem ref22_Few_eq (l : List Body) (n : Nat) (hn : n ≤ 10000) : caromref22_Few l (n : Int) = some (decide ((l.length : Int) ≤ (n : Int)) && l.all fewB) := by
  unfold caromref22_Few
  simp only [Let_nr]
  by_cases h : (l.length : Int) > (n : Int)
  · have : decide ((l.length : Int) ≤ (n : Int)) = false := decide_eq_false (by omega)
    simp only [h, decide_true, if_true, this, Bool.false_and]
  · have hh : decide ((l.length : Int) ≤ (n : Int)) = true := decide_eq_true (by omega)
    simp only [decide_eq_false h, ff, if_false, hh, Bool.true_and]
    rw [← allB_eq]
    refine LOOP_l0 l (fun t _ => some (allB t)) _ (sm_of (n := 10000) (by omega) (by omega)) ?_ ?_
    · intro r i t hw hc hm hr
      simp only [dlt hc, if_true, Chk_of hc, allB]
      by_cases h8 : ((ix l (i : Int)).Fixtures.length : Int) > 8
      · simp only [h8, decide_true, if_true]
      · simp only [decide_eq_false h8, ff, if_false]
        refine (LOOP_l0 (ix l (i : Int)).Fixtures (fun t _ => allF (r ((i : Int) + 1)) (some false) t) _ (sm_of (n := 8) (by omega) (by omega)) ?_ ?_).trans ?_
        · intro r2 j u hw2 hc2 hm2 hr2
          simp only [dlt hc2, if_true, Chk_of hc2, hw2, hr2, allF]
        · intro r2; simp only [dll, ff, if_false, hw, allF]
        · rw [allF_eq, hr]; split <;> rfl
    · intro r; simp only [dll, ff, if_false, allB]
def few (w : World_) : Bool := decide ((w.Joints.length : Int) ≤ 40) && decide ((w.Contacts.length : Int) ≤ 80) && decide ((w.Overlaps.length : Int) ≤ 80) && (decide ((w.Bodies.length : Int) ≤ 40) && w.Bodies.all fewB) && w.Contacts.all (fun c => decide ((c.Manifold.Points.length : Int) ≤ 8))
def allC : List Contact → Bool
  | [] => true
  | c :: t => if decide ((c.Manifold.Points.length : Int) > 8) = true then false else allC t
theorem allC_eq : ∀ l : List Contact, allC l = l.all (fun c => decide ((c.Manifold.Points.length : Int) ≤ 8))
  | [] => rfl
  | c :: t => by
    unfold allC; rw [allC_eq t]
    by_cases h : (c.Manifold.Points.length : Int) > 8
    · have : decide ((c.Manifold.Points.length : Int) ≤ 8) = false := decide_eq_false (by omega)
      simp only [h, decide_true, if_true, List.all_cons, this, Bool.false_and]
    · have : decide ((c.Manifold.Points.length : Int) ≤ 8) = true := decide_eq_true (by omega)
      simp only [decide_eq_false h, ff, if_false, List.all_cons, this, Bool.true_and]
theorem ref25_Few_eq (w : World_) : caromref25_Few w = some (few w) := by
  have hB := ref22_Few_eq w.Bodies 40 (by omega)
  have e1 : decide ((w.Joints.length : Int) > 40) = !decide ((w.Joints.length : Int) ≤ 40) := by rw [Bool.eq_iff_iff]; simp
  have e2 : decide ((w.Contacts.length : Int) > 80) = !decide ((w.Contacts.length : Int) ≤ 80) := by rw [Bool.eq_iff_iff]; simp
  have e3 : decide ((w.Overlaps.length : Int) > 80) = !decide ((w.Overlaps.length : Int) ≤ 80) := by rw [Bool.eq_iff_iff]; simp
  have hB' : caromref22_Few w.Bodies (40 : Int) = some (decide ((w.Bodies.length : Int) ≤ 40) && w.Bodies.all fewB) := hB
  unfold caromref25_Few few
  simp only [Let_nr, hB', Bind_snr, Bind_if, cond_or, ga3, e1, e2, e3]
  by_cases hc : (w.Contacts.length : Int) ≤ 80
  · have hL : LOOP (fun (rec32 : Int → Option Bool) (s33 : Int) =>
        if decide (s33 < (w.Contacts.length : Int)) = true then Chk ((0 : Int) ≤ s33 ∧ s33 < (w.Contacts.length : Int))
        (if decide (((ix w.Contacts s33).Manifold.Points.length : Int) > 8) = true then some false else rec32 (IntKind.i64.wrap (s33 + (1 : Int)))) else some true) fuel (0 : Int) = some (w.Contacts.all (fun c => decide ((c.Manifold.Points.length : Int) ≤ 8))) := by
      rw [← allC_eq]
      refine LOOP_l0 w.Contacts (fun t _ => some (allC t)) _ (sm_of (n := 80) (by omega) (by omega)) ?_ ?_
      · intro r i t hw hc hm hr
        simp only [dlt hc, if_true, Chk_of hc, hw, hr, allC]
        split <;> rfl
      · intro r; simp only [dll, ff, if_false, allC]
    rw [hL]
    generalize decide ((w.Joints.length : Int) ≤ 40) = b1
    generalize decide ((w.Contacts.length : Int) ≤ 80) = b2
    generalize decide ((w.Overlaps.length : Int) ≤ 80) = b3
    generalize decide ((w.Bodies.length : Int) ≤ 40) = b4
    generalize w.Bodies.all fewB = b5
    cases b1 <;> cases b2 <;> cases b3 <;> cases b4 <;> cases b5 <;> rfl
  · have e : decide ((w.Contacts.length : Int) ≤ 80) = false := decide_eq_false hc
    simp only [e, Bool.not_false, Bool.or_true, Bool.true_or, if_true, Bool.and_false, Bool.false_and]
theorem few_Few {w : World_} (h : few w = true) : Few w := by
  unfold few fewB at h
  simp only [Bool.and_eq_true, decide_eq_true_eq, List.all_eq_true] at h
  obtain ⟨⟨⟨⟨h1, h2⟩, h3⟩, h4, h5⟩, h6⟩ := h
  exact ⟨by omega, by omega, by omega, by omega, fun c hc => by have := h6 c hc; omega, fun b hb => by have := (h5 b hb).1; omega, fun b hb f hf => by have := (h5 b hb).2 f hf; omega⟩
def nilW (s : Settings) (n : Int) : World_ := { Settings := s, Bodies := [], Joints := [], Contacts := [], Overlaps := [], NextID := n, Frame := 0 }
def newW (s : Settings) : World_ × Int := if (vset s != 0) = true then (nilW ⟨0, ⟨0, 0⟩, 0, 0⟩ 0, vset s) else (nilW s 1, 0)
theorem world_New_eq (s : Settings) : world_New s = some (newW s) := by
  unfold world_New newW nilW
  simp only [world_set_eq, Bind_snr, Let_nr]
  split <;> rfl
theorem ref25_New_eq (s : Settings) : caromref25_New s = some (newW s) := by
  unfold caromref25_New newW nilW
  simp only [ref25_set_eq, Bind_snr, Let_nr]
  split <;> rfl
theorem Equal_nil (s : Settings) (n : Int) : caromref25_Equal (nilW s n) (nilW s n) = some true := by
  obtain ⟨k, hk⟩ : ∃ k, fuel = k + 1 := ⟨2 ^ 70 - 1, rfl⟩
  have d0 : decide ((0 : Int) < ((([] : List Body).length : Nat) : Int)) = false := rfl
  have d1 : decide ((0 : Int) < ((([] : List Joint).length : Nat) : Int)) = false := rfl
  have d2 : decide ((0 : Int) < ((([] : List Contact).length : Nat) : Int)) = false := rfl
  have d3 : decide ((0 : Int) < ((([] : List PairKey).length : Nat) : Int)) = false := rfl
  unfold caromref25_Equal caromref22_Keys nilW
  rw [hk]
  simp only [Let_nr, LOOP_s, d0, d1, d2, d3, ff, if_false, decide_true, Bool.and_self, Bool.not_true, bne_self_eq_false, cond_or, Bool.or_self, Bind_snr, beq_self_eq_true, if_true]
theorem Equal_new (s : Settings) : caromref25_Equal (newW s).1 (newW s).1 = some true := by
  unfold newW; split <;> exact Equal_nil _ _
theorem nilW_few (s : Settings) (n : Int) : Few (nilW s n) := ⟨by unfold nilW; simp, by unfold nilW; simp, by unfold nilW; simp, by unfold nilW; simp, by unfold nilW; simp, by unfold nilW; simp, by unfold nilW; simp⟩
theorem wrap1 : IntKind.i64.wrap ((1 : Int) + 1) = 2 := rfl
def b9 : Body := { ID := 1, Kind := 1, Transform := ⟨⟨0, 0⟩, 0⟩, Velocity := ⟨0, 0⟩, AngularVelocity := 0, Force := ⟨0, 0⟩, Torque := 0, LinearDamping := 0, AngularDamping := 0, GravityScale := 0, Bullet := false, FixedRotation := false, NoSleep := false, Asleep := false, IdleSteps := 0, Fixtures := [] }
def w9 : World_ := { Settings := ⟨1024, ⟨0, 0⟩, 4, 60⟩, Bodies := [b9], Joints := [], Contacts := [], Overlaps := [], NextID := 2, Frame := 0 }
theorem add9 : world_AddBody (nilW ⟨1024, ⟨0, 0⟩, 4, 60⟩ 1) { b9 with ID := 9 } = some (w9, 1, 0) := by
  rw [world_Add_eq _ _ (nilW_few _ _).smw ⟨by unfold b9; simp, by unfold b9; simp⟩]
  exact congrArg some (by decide +kernel)
theorem val9 : world_Validate w9 = some 0 := by
  have : Few w9 := ⟨by unfold w9; simp, by unfold w9; simp, by unfold w9; simp, by unfold w9; simp, by unfold w9; simp, by intro b hb; simp [w9] at hb; subst hb; simp [b9], by intro b hb; simp [w9] at hb; subst hb; simp [b9]⟩
  rw [world_Val_eq _ this]; exact congrArg some (by decide +kernel)
theorem rem9 : world_RemoveBody w9 9 = some (nilW ⟨0, ⟨0, 0⟩, 0, 0⟩ 0, 8) := by
  unfold world_RemoveBody
  have : world_FindBody w9 9 = some (-1) := by rw [world_Find_eq _ _ (sm_of (n := 1) (by unfold w9; simp) (by omega))]; rfl
  rw [this, Bind_snr]
  rfl
theorem example25 : caromlaw25_example = some true := by
  have hn : world_New ⟨1024, ⟨0, 0⟩, 4, 60⟩ = some (nilW ⟨1024, ⟨0, 0⟩, 4, 60⟩ 1, 0) := by rw [world_New_eq]; rfl
  have hz : world_Validate (nilW ⟨0, ⟨0, 0⟩, 0, 0⟩ 0) = some 17 := by rw [world_Val_eq _ (nilW_few _ _)]; rfl
  have hf : world_FindBody w9 1 = some 0 := by rw [world_Find_eq _ _ (sm_of (n := 1) (by unfold w9; simp) (by omega))]; rfl
  unfold caromlaw25_example caromlaw25_settings
  rw [Bind_snr, hn, Bind_snr]
  refine (Bind_of add9).trans ?_
  refine (Bind_of rem9).trans ?_
  simp only [Let_nr, val9, hf]
  refine (Bind_of (x := (0 : Int)) rfl).trans ?_
  refine (Bind_of (x := (0 : Int)) rfl).trans ?_
  refine (Bind_of (x := (17 : Int)) hz).trans ?_
  rfl
theorem caromlaw25_WorldValidation_any (w : World_) : caromlaw25_WorldValidation w = some true := by
  unfold caromlaw25_WorldValidation
  simp only [ref25_Few_eq, Bind_snr, Let_nr, example25]
  cases h : few w
  · rfl
  · have hF := few_Few h
    simp only [Bool.not_true, ff, if_false, world_New_eq, ref25_New_eq, world_Val_eq w hF, ref25_Val_eq w hF, world_set_eq, ref25_set_eq, Bind_snr, beq_self_eq_true, if_true, Equal_new, Bool.cond_true]
end GoForm


/-
  Plain laws of world: equality; WorldAddBody. No conditions.
-/
set_option linter.all false
set_option maxRecDepth 100000
open Go Go.Rx

namespace GoForm
theorem veq (a b : Vec) : (decide (a.X = b.X) && decide (a.Y = b.Y)) = decide (a = b) := by
  rw [Bool.eq_iff_iff]; cases a; cases b; simp
theorem jeq (x y : Joint) : (decide (x.ID = y.ID) && (decide (x.Kind = y.Kind) && (decide (x.BodyA = y.BodyA) && (decide (x.BodyB = y.BodyB) && (decide (x.AnchorA = y.AnchorA) && (decide (x.AnchorB = y.AnchorB) && (decide (x.Axis = y.Axis) && (decide (x.ReferenceAngle = y.ReferenceAngle) && (decide (x.EnableLimit = y.EnableLimit) && (decide (x.Lower = y.Lower) && (decide (x.Upper = y.Upper) && (decide (x.EnableMotor = y.EnableMotor) && (decide (x.MotorSpeed = y.MotorSpeed) && (decide (x.MaxForce = y.MaxForce) && (decide (x.Softness = y.Softness) && (decide (x.BreakForce = y.BreakForce) && (decide (x.CollideConnected = y.CollideConnected) && (decide (x.Impulses.fst = y.Impulses.fst) && (decide (x.Impulses.snd.fst = y.Impulses.snd.fst) && (decide (x.Impulses.snd.snd.fst = y.Impulses.snd.snd.fst) && decide (x.Impulses.snd.snd.snd = y.Impulses.snd.snd.snd))))))))))))))))))))) = decide (x = y) := by
  obtain ⟨x1, x2, x3, x4, ⟨x5, x6⟩, ⟨x7, x8⟩, ⟨x9, x10⟩, x11, x12, x13, x14, x15, x16, x17, x18, x19, x20, ⟨x21, x22, x23, x24⟩⟩ := x
  obtain ⟨y1, y2, y3, y4, ⟨y5, y6⟩, ⟨y7, y8⟩, ⟨y9, y10⟩, y11, y12, y13, y14, y15, y16, y17, y18, y19, y20, ⟨y21, y22, y23, y24⟩⟩ := y
  rw [Bool.eq_iff_iff]; simp [and_assoc]
theorem peq (x y : ContactPoint) : (decide (x.Point = y.Point) && (decide (x.Separation = y.Separation) && (decide (x.ID = y.ID) && (decide (x.NormalImpulse = y.NormalImpulse) && decide (x.TangentImpulse = y.TangentImpulse))))) = decide (x = y) := by
  obtain ⟨⟨x5, x6⟩, x1, x2, x3, x4⟩ := x
  obtain ⟨⟨y5, y6⟩, y1, y2, y3, y4⟩ := y
  rw [Bool.eq_iff_iff]; simp [and_assoc]
theorem steq (x y : Settings) : (decide (x.TimeStep = y.TimeStep) && (decide (x.Gravity = y.Gravity) && (decide (x.Iterations = y.Iterations) && decide (x.SleepSteps = y.SleepSteps)))) = decide (x = y) := by
  obtain ⟨x1, ⟨x5, x6⟩, x2, x3⟩ := x
  obtain ⟨y1, ⟨y5, y6⟩, y2, y3⟩ := y
  rw [Bool.eq_iff_iff]; simp [and_assoc]
theorem len_bne {α : Type} (l m : List α) : ((l.length : Int) != (m.length : Int)) = !decide (l.length = m.length) := by rw [Bool.eq_iff_iff]; simp; omega
theorem if_not_dec {α : Type} {p : Prop} [Decidable p] (a b : α) : (if (!decide p) = true then a else b) = if p then b else a := by by_cases h : p <;> simp [h]
theorem ref16_Equal_eq (a b : Manifold) (h : a.Points.length ≤ 10000) : caromref16_Equal a b = some (decide (a = b)) := by
  obtain ⟨an, ap⟩ := a
  obtain ⟨bn, bp⟩ := b
  unfold caromref16_Equal
  simp only [Let_nr, veq, peq, len_bne, cond_or]
  by_cases hl : ap.length = bp.length
  · rw [show LOOP _ fuel (0 : Int) = _ from LOOP_eq2 ap bp (some true) (some false) _ (sm_of h (by omega)) hl ?_ ?_]
    · by_cases h1 : an = bn
      · by_cases h2 : ap = bp <;> simp [h1, h2, hl]
      · simp [h1]
    · intro r i hw hc hc2 hm
      simp only [dlt hc, if_true, hw, Chk_of hc, Chk_of hc2, if_not_dec]
    · intro r; simp only [dll, ff, if_false]
  · have : ¬ ap = bp := fun e => hl (by rw [e])
    simp [hl, this]
theorem ref22_Keys_eq (a b : List PairKey) (h : a.length ≤ 10000) : caromref22_Keys a b = some (decide (a = b)) := by
  unfold caromref22_Keys
  simp only [Let_nr, keq, len_bne]
  by_cases hl : a.length = b.length
  · rw [show LOOP _ fuel (0 : Int) = _ from LOOP_eq2 a b (some true) (some false) _ (sm_of h (by omega)) hl ?_ ?_]
    · by_cases h2 : a = b <;> simp [h2, hl]
    · intro r i hw hc hc2 hm
      simp only [dlt hc, if_true, hw, Chk_of hc, Chk_of hc2, if_not_dec]
    · intro r; simp only [dll, ff, if_false]
  · have : ¬ a = b := fun e => hl (by rw [e])
    simp [hl, this]
theorem fixok {b : Body} (h : SmB b) : GoOld.FixOk b := ⟨Nat.le_trans h.1 (by omega), fun f hf => Nat.le_trans (h.2 f hf) (by omega)⟩
theorem ref23_Equal_eq' (a b : Body) (h : SmB a) : caromref23_Equal a b = some (decide (a = b)) := by rw [br_caromref23_Equal, GoOld.ref23_Equal_eq a b (fixok h)]
theorem body_Equal_eq' (a b : Body) (h : SmB a) : body_Equal a b = some (decide (a = b)) := by rw [br_body_Equal, GoOld.body_Equal_eq a b (fixok h)]
theorem ref25_Equal_eq (a b : World_) (h : SmW a) : caromref25_Equal a b = some (decide (a = b)) := by
  obtain ⟨a_s, ab, aj, ac, ao, an, af⟩ := a
  obtain ⟨b_s, bb, bj, bc, bo, bn, bf⟩ := b
  obtain ⟨h1, h2, h3, h4, h5, h6⟩ := h
  dsimp only at h1 h2 h3 h4 h5 h6
  unfold caromref25_Equal
  simp only [Let_nr, veq, jeq, keq, steq, len_bne, cond_or, ref22_Keys_eq ao bo h4, Bind_snr, Bind_if, ga3]
  simp only [ne_bne]
  by_cases hb : ab.length = bb.length
  · by_cases hj : aj.length = bj.length
    · by_cases hc : ac.length = bc.length
      · rw [show LOOP _ fuel (0 : Int) = _ from LOOP_eq2 ab bb (if aj = bj then (if ac = bc then some true else some false) else some false) (some false) _ (sm_of h1 (by omega)) hb ?_ ?_]
        · by_cases e1 : a_s = b_s <;> by_cases e2 : an = bn <;> by_cases e3 : af = bf <;> by_cases e4 : ao = bo <;> by_cases e5 : ab = bb <;> by_cases e6 : aj = bj <;> by_cases e7 : ac = bc <;> simp [e1, e2, e3, e4, e5, e6, e7, hb, hj, hc]
        · intro r i hw hc hc2 hm
          simp only [dlt hc, if_true, hw, Chk_of hc, Chk_of hc2, ref23_Equal_eq' _ _ (h6 _ hm), Bind_snr, if_not_dec]
        · intro r
          simp only [dll, ff, if_false]
          refine LOOP_eq2 aj bj (if ac = bc then some true else some false) (some false) _ (sm_of h2 (by omega)) hj ?_ ?_
          · intro r i hw hc hc2 hm
            simp only [dlt hc, if_true, hw, Chk_of hc, Chk_of hc2, if_not_dec]
          · intro r
            simp only [dll, ff, if_false]
            refine LOOP_eq2 ac bc (some true) (some false) _ (sm_of h3 (by omega)) hc ?_ ?_
            · intro r i hw hc hc2 hm
              simp only [dlt hc, if_true, hw, Chk_of hc, Chk_of hc2, Chk_of (fun _ => hc), Chk_of (fun _ => hc2), ref16_Equal_eq _ _ (h5 _ hm), Bind_snr, Bind_if, ga3]
              generalize ix ac (i : Int) = x
              generalize ix bc (i : Int) = y
              obtain ⟨xk, xm⟩ := x
              obtain ⟨yk, ym⟩ := y
              by_cases e1 : xk = yk <;> by_cases e2 : xm = ym <;> simp [e1, e2]
            · intro r; simp only [dll, ff, if_false]
      · have : ¬ ac = bc := fun e => hc (by rw [e])
        simp [hc, this]
    · have : ¬ aj = bj := fun e => hj (by rw [e])
      simp [hj, this]
  · have : ¬ ab = bb := fun e => hb (by rw [e])
    simp [hb, this]
def fj (w : World_) (id : Int) : Int := idx (fun b : Joint => b.ID == id) w.Joints 0
theorem world_FindJ_eq (w : World_) (id : Int) (h : Sm w.Joints) : world_FindJoint w id = some (fj w id) := by
  unfold world_FindJoint slices_IndexFunc_69 fj
  simp only [Let_nr]
  rw [show LOOP _ fuel (0 : Int) = _ from LOOP_l0 w.Joints (fun t i => some (idx (fun b : Joint => b.ID == id) t i)) _ h ?_ ?_]
  · exact Bind_snr _ _
  · intro r i t hw hc hm hr
    simp only [dlt hc, if_true, hw, Chk_of hc, world_FindJoint_1, Let_nr, Bind_snr, hr, idx]
    split <;> rfl
  · intro r; simp only [dll, ff, if_false, idx]
theorem ref25_FindJ_eq (w : World_) (id : Int) (h : Sm w.Joints) : caromref25_FindJoint w id = some (fj w id) := by
  unfold caromref25_FindJoint fj
  simp only [Let_nr]
  refine LOOP_l0 w.Joints (fun t i => some (idx (fun b : Joint => b.ID == id) t i)) _ h ?_ ?_
  · intro r i t hw hc hm hr
    simp only [dlt hc, if_true, hw, Chk_of hc, Let_nr, Bind_snr, hr, idx]
    split <;> rfl
  · intro r; simp only [dll, ff, if_false, idx]
theorem zeroW_sm : SmW zeroW := (nilW_few ⟨0, ⟨0, 0⟩, 0, 0⟩ 0).smw
theorem addW_sm (w : World_) (b : Body) (h : Few w) (hb : SmB b) : SmW (addW w b).1 := by
  unfold addW
  split
  · exact zeroW_sm
  · split
    · exact zeroW_sm
    · refine ⟨?_, h.smw.joints, h.smw.contacts, h.smw.overlaps, h.smw.points, ?_⟩
      · have := h.bodies; simp; omega
      · intro x hx
        rcases List.mem_append.1 hx with e | e
        · exact h.smb x e
        · simp at e; subst e; exact hb
theorem caromlaw25_WorldAddBody_any (w : World_) (b : Body) (id : Int) : caromlaw25_WorldAddBody w b id = some true := by
  have hB : caromref22_Few [b] (1 : Int) = some (decide ((([b] : List Body).length : Int) ≤ ((1 : Nat) : Int)) && [b].all fewB) := ref22_Few_eq [b] 1 (by omega)
  have hB' : caromref22_Few [b] (1 : Int) = some (fewB b) := by rw [hB]; simp
  unfold caromlaw25_WorldAddBody
  simp only [ref25_Few_eq, hB', Bind_snr, Let_nr, example25, Bind_if]
  cases h : few w
  · rfl
  · cases h2 : fewB b
    · rfl
    · have hF := few_Few h
      have hs : SmB b := by
        unfold fewB at h2
        simp only [Bool.and_eq_true, decide_eq_true_eq, List.all_eq_true] at h2
        exact ⟨by omega, fun f hf => by have := h2.2 f hf; omega⟩
      simp only [Bool.not_true, ff, if_false, world_Add_eq w b hF.smw hs, ref25_Add_eq w b hF.smw hs, Bind_snr, ref25_Equal_eq _ _ (addW_sm w b hF hs), world_Find_eq w id hF.sb, ref25_Find_eq w id hF.sb, world_FindJ_eq w id hF.sj, ref25_FindJ_eq w id hF.sj, decide_true, beq_self_eq_true, if_true, Bool.cond_true, Bool.cond_false, Bool.beq_eq_decide_eq]
end GoForm





set_option linter.all false
set_option maxRecDepth 100000
open Go Go.Rx

namespace GoForm
def wkB (b : Body) : Body := { b with Asleep := false, IdleSteps := 0 }
def wakeW (w : World_) (id : Int) : World_ :=
  if (decide (0 ≤ fb w id) && decide ((ix w.Bodies (fb w id)).Kind = 3)) = true then { w with Bodies := w.Bodies.set (fb w id).toNat (wkB (ix w.Bodies (fb w id))) } else w
theorem ix_set_same {α : Type} [Inhabited α] (l : List α) (i : Nat) (x : α) (h : i < l.length) : ix (l.set i x) (i : Int) = x := by
  rw [ix_lt _ _ (by simpa using h)]; simp
theorem fb_cases (w : World_) (id : Int) : fb w id = -1 ∨ ∃ k : Nat, fb w id = (k : Int) ∧ k < w.Bodies.length := by
  rcases idx_bd (fun b : Body => b.ID == id) w.Bodies 0 with h | h
  · exact Or.inl h
  · right; exact ⟨(fb w id).toNat, by unfold fb; omega, by unfold fb; omega⟩
theorem bif_and (a : Bool) (k : Int) : (bif a then (k == 3) else false) = (a && decide (k = 3)) := by rw [cond_and, eq_beq]
theorem world_Wake_eq (w : World_) (id : Int) (h : SmW w) : world_WakeBody w id = some (wakeW w id) := by
  unfold world_WakeBody wakeW
  rw [world_Clone_eq w h, Bind_snr]
  simp only [Join_nr, Let_nr, world_Find_eq w id (sm_of h.bodies (by omega)), Bind_snr, ge_iff_le, bif_and]
  rcases fb_cases w id with hk | ⟨k, hk, hl⟩
  · rw [hk, Chk_of (by simp), Chk_of (by simp), if_neg (by simp), if_neg (by simp)]
  · rw [hk, Chk_of (fun _ => by omega), Chk_of (fun _ => by omega)]
    by_cases h3 : (ix w.Bodies (k : Int)).Kind = 3
    · rw [if_pos (by simp [h3]), if_pos (by simp [h3]), Chk_of (by omega), Chk_of (by omega)]
      simp only [Int.toNat_natCast, List.length_set]
      rw [Chk_of (by omega), Chk_of (by omega)]
      simp only [ix_set_same _ _ _ hl, List.set_set]
      rfl
    · rw [if_neg (by simp [h3]), if_neg (by simp [h3])]
theorem ref25_Wake_eq (w : World_) (id : Int) (h : SmW w) : caromref25_WakeBody w id = some (wakeW w id) := by
  unfold caromref25_WakeBody wakeW
  rw [ref25_Clone_eq w h, Bind_snr]
  simp only [Join_nr, Let_nr, ref25_Find_eq w id (sm_of h.bodies (by omega)), Bind_snr, ge_iff_le, bif_and]
  rcases fb_cases w id with hk | ⟨k, hk, hl⟩
  · rw [hk, Chk_of (by simp), if_neg (by simp), if_neg (by simp)]
  · rw [hk, Chk_of (fun _ => by omega)]
    by_cases h3 : (ix w.Bodies (k : Int)).Kind = 3
    · rw [if_pos (by simp [h3]), if_pos (by simp [h3]), Chk_of (by omega), Chk_of (by omega)]
      simp only [Int.toNat_natCast, List.length_set]
      rw [Chk_of (by omega), Chk_of (by omega)]
      simp only [ix_set_same _ _ _ hl, List.set_set]
      rfl
    · rw [if_neg (by simp [h3]), if_neg (by simp [h3])]
theorem mem_set_or {α : Type} (l : List α) (i : Nat) (x y : α) (h : y ∈ l.set i x) : y ∈ l ∨ y = x := List.mem_or_eq_of_mem_set h
theorem wake_sm (w : World_) (id : Int) (h : SmW w) : SmW (wakeW w id) := by
  unfold wakeW
  split
  next hc =>
    refine ⟨by simpa using h.bodies, h.joints, h.contacts, h.overlaps, h.points, ?_⟩
    intro b hb
    rcases mem_set_or _ _ _ _ hb with hb | hb
    · exact h.body b hb
    · rcases fb_cases w id with hk | ⟨k, hk, hl⟩
      · rw [hk] at hc; simp at hc
      · have := h.body _ (ix_mem w.Bodies (fb w id) (by omega))
        rw [hb]; exact this
  · exact h
def posI (w : World_) : Prop := ∀ b ∈ w.Bodies, 1 ≤ b.ID
theorem wake_pos (w : World_) (id : Int) (h : posI w) : posI (wakeW w id) := by
  unfold wakeW
  split
  next hc =>
    intro b hb
    rcases mem_set_or _ _ _ _ hb with hb | hb
    · exact h b hb
    · rcases fb_cases w id with hk | ⟨k, hk, hl⟩
      · rw [hk] at hc; simp at hc
      · have := h _ (ix_mem w.Bodies (fb w id) (by omega))
        rw [hb]; exact this
  · exact h
theorem wake_zero (w : World_) (h : posI w) : wakeW w 0 = w := by
  have : fb w 0 = -1 := by
    rcases fb_cases w 0 with hk | ⟨k, hk, hl⟩
    · exact hk
    · have h1 := idx_ix (fun b : Body => b.ID == 0) w.Bodies 0 (by unfold fb at hk; omega)
      have h2 := h _ (ix_mem w.Bodies (k : Int) (by omega))
      unfold fb at hk
      rw [hk] at h1
      simp at h1
      omega
  unfold wakeW
  rw [this, if_neg (by simp)]
theorem wakeAll_eq (w : World_) (a b : Int) (h : SmW w) (hp : posI w) : world_wakeAll w [a, b] = some (wakeW (wakeW w a) b) := by
  have e : ∀ (w : World_) (a : Int), SmW w → posI w → (if (a != 0) = true then world_WakeBody w a else some w) = some (wakeW w a) := by
    intro w a h hp
    by_cases ha : a = 0
    · rw [ha, if_neg (by decide), wake_zero w hp]
    · rw [if_pos (by simpa using ha), world_Wake_eq w a h]
  have e2 : ∀ (w : World_) (a : Int) (K : World_ → Option World_), SmW w → posI w → (if (a != 0) = true then Rx.Bind (world_WakeBody w a) K else K w) = K (wakeW w a) := by
    intro w a K h hp
    have := e w a h hp
    by_cases ha : (a != 0) = true
    · rw [if_pos ha] at this ⊢; rw [this, Bind_snr]
    · rw [if_neg ha] at this ⊢; rw [← Option.some.inj this]
  unfold world_wakeAll
  obtain ⟨m, hm⟩ : ∃ m, fuel = m + 20 := ⟨2 ^ 70 - 20, by unfold fuel; decide⟩
  rw [hm]
  simp only [Let_nr, Join_nr]
  rw [LOOP_s, if_pos (by simp), Chk_of (by simp), e2 _ _ _ h hp]
  rw [show IntKind.i64.wrap ((0 : Int) + 1) = 1 by decide, LOOP_s, if_pos (by simp), Chk_of (by simp), e2 _ _ _ (wake_sm _ _ h) (wake_pos _ _ hp)]
  rw [show IntKind.i64.wrap ((1 : Int) + 1) = 2 by decide, LOOP_s, if_neg (by simp)]
  rfl
theorem posIDs_eq (w : World_) (h : Sm w.Bodies) : caromlaw25_positiveIDs w = some (w.Bodies.all (fun b => decide (1 ≤ b.ID))) := by
  unfold caromlaw25_positiveIDs
  simp only [Let_nr]
  refine (LOOP_all w.Bodies (fun b => decide (1 ≤ b.ID)) (some true) (some false) _ h ?_ ?_).trans ?_
  · intro r i hw hc hm
    rw [if_pos (dlt hc), Chk_of hc, hw]
    by_cases q : 1 ≤ (ix w.Bodies (i : Int)).ID
    · rw [if_neg (by rw [decide_eq_true_iff]; omega), if_pos (by simpa using q)]
    · rw [if_pos (by rw [decide_eq_true_iff]; omega), if_neg (by simpa using q)]
  · intro r; rw [if_neg (by simp)]
  · cases w.Bodies.all (fun b => decide (1 ≤ b.ID)) <;> rfl
def zJ (w : World_) (j : Joint) : Joint := { j with ID := w.NextID, Impulses := (0, 0, 0, 0) }
theorem resetI (j : Joint) : joint_ResetImpulses j = some { j with Impulses := (0, 0, 0, 0) } := by
  unfold joint_ResetImpulses
  simp only [Let_nr]
  split
  next h =>
    obtain ⟨a, b, c, d, e, f, g, h1, i, k, l, m, n, o, p, q, r, s⟩ := j
    obtain ⟨s1, s2, s3, s4⟩ := s
    simp at h
    simp [h]
  · rfl
def addJ (w : World_) (j : Joint) : World_ × Int × Int :=
  if (decide (32 ≤ (w.Joints.length : Int)) || decide (1099511627776 ≤ w.NextID)) = true then (zeroW, 0, 9)
  else if (jv (zJ w j) != 0 || !jex w (zJ w j)) = true then (zeroW, 0, 15)
  else (wakeW (wakeW { w with Joints := w.Joints ++ [zJ w j], NextID := IntKind.i64.wrap (w.NextID + 1) } j.BodyA) j.BodyB, w.NextID, 0)
theorem world_AddJ_eq (w : World_) (j : Joint) (h : SmW w) (hp : posI w) (hl : w.Joints.length ≤ 1000) : world_AddJoint w j = some (addJ w j) := by
  have hc : ∀ x : Joint, (w.Joints.length + [x].length) * 192 ≤ 140737488355328 := by intro x; simp; omega
  have hs : SmW { w with Joints := w.Joints ++ [zJ w j], NextID := IntKind.i64.wrap (w.NextID + 1) } := ⟨h.bodies, by simp; omega, h.contacts, h.overlaps, h.points, h.body⟩
  have hb := sm_of h.bodies (by omega)
  unfold world_AddJoint addJ
  simp only [Let_nr, resetI, Bind_snr, joint_Val_eq, world_ex_eq w _ hb, world_Clone_eq w h, Bind_if, cond_or, ge_iff_le, Chk_of (hc _), ga3]
  by_cases h1 : (decide (32 ≤ (w.Joints.length : Int)) || decide (1099511627776 ≤ w.NextID)) = true
  · rw [if_pos h1, if_pos h1]; rfl
  · rw [if_neg h1, if_neg h1]
    by_cases h2 : (jv (zJ w j) != 0 || !jex w (zJ w j)) = true
    · rw [if_pos h2]; exact if_pos h2
    · rw [if_neg h2]
      refine (if_neg h2).trans ?_
      show Rx.Bind (world_wakeAll { w with Joints := w.Joints ++ [zJ w j], NextID := IntKind.i64.wrap (w.NextID + 1) } [j.BodyA, j.BodyB]) _ = _
      rw [wakeAll_eq _ _ _ hs hp, Bind_snr]
theorem ref25_AddJ_eq (w : World_) (j : Joint) (h : SmW w) (hl : w.Joints.length ≤ 1000) : caromref25_AddJoint w j = some (addJ w j) := by
  have hc : ∀ x : Joint, (w.Joints.length + [x].length) * 192 ≤ 140737488355328 := by intro x; simp; omega
  have hs : SmW { w with Joints := w.Joints ++ [zJ w j], NextID := IntKind.i64.wrap (w.NextID + 1) } := ⟨h.bodies, by simp; omega, h.contacts, h.overlaps, h.points, h.body⟩
  have hb := sm_of h.bodies (by omega)
  unfold caromref25_AddJoint addJ
  simp only [Let_nr, Bind_snr, ref24_Val_eq, ref25_con_eq w _ hb, ref25_Clone_eq w h, Bind_if, cond_or, ge_iff_le, Chk_of (hc _), ga3]
  by_cases h1 : (decide (32 ≤ (w.Joints.length : Int)) || decide (1099511627776 ≤ w.NextID)) = true
  · rw [if_pos h1, if_pos h1]; rfl
  · rw [if_neg h1, if_neg h1]
    by_cases hz : jv (zJ w j) = 0
    · have hcon := jex_con (w := w) hz
      by_cases h2 : (jv (zJ w j) != 0 || !jex w (zJ w j)) = true
      · rw [if_pos h2]; rw [hcon] at h2; exact if_pos h2
      · rw [if_neg h2]; rw [hcon] at h2
        refine (if_neg h2).trans ?_
        show Rx.Bind (caromref25_WakeBody { w with Joints := w.Joints ++ [zJ w j], NextID := IntKind.i64.wrap (w.NextID + 1) } j.BodyA) _ = _
        rw [ref25_Wake_eq _ _ hs, Bind_snr, ref25_Wake_eq _ _ (wake_sm _ _ hs), Bind_snr]
    · have h2 : ∀ c : Bool, (jv (zJ w j) != 0 || c) = true := by intro c; rw [Bool.or_eq_true]; exact Or.inl (by simpa using hz)
      rw [if_pos (h2 _)]
      exact if_pos (h2 _)
end GoForm


set_option linter.all false
set_option maxRecDepth 100000
open Go Go.Rx

namespace GoForm
theorem fj_cases (w : World_) (id : Int) : fj w id = -1 ∨ ∃ k : Nat, fj w id = (k : Int) ∧ k < w.Joints.length := by
  rcases idx_bd (fun b : Joint => b.ID == id) w.Joints 0 with h | h
  · exact Or.inl h
  · right; exact ⟨(fj w id).toNat, by unfold fj; omega, by unfold fj; omega⟩
def cutJ (w : World_) (k : Nat) : World_ := { w with Joints := w.Joints.take k ++ w.Joints.drop (k + 1) }
def remJ (w : World_) (id : Int) : World_ × Int :=
  if fj w id < 0 then (zeroW, 8)
  else (wakeW (wakeW (cutJ w (fj w id).toNat) (ix w.Joints (fj w id)).BodyA) (ix w.Joints (fj w id)).BodyB, 0)
theorem cut_sm (w : World_) (k : Nat) (h : SmW w) : SmW (cutJ w k) := by
  refine ⟨h.bodies, ?_, h.contacts, h.overlaps, h.points, h.body⟩
  have := h.joints
  unfold cutJ; simp; omega
theorem take_app_len {α : Type} (a b : List α) (n : Nat) (h : n = a.length) : (a ++ b).take n = a := by subst h; simp
theorem world_RemJ_eq (w : World_) (id : Int) (h : SmW w) (hp : posI w) : world_RemoveJoint w id = some (remJ w id) := by
  have hj := h.joints
  unfold world_RemoveJoint remJ
  rw [world_FindJ_eq w id (sm_of h.joints (by omega)), Bind_snr]
  simp only [Let_nr, Join_nr]
  rcases fj_cases w id with hk | ⟨k, hk, hl⟩
  · rw [hk, if_pos (by simp), if_pos (by decide)]; rfl
  · have n4 : ¬ ((k : Int) < 0) := by omega
    rw [hk, if_neg (by simp), if_neg n4, world_Clone_eq w h, Bind_snr]
    have hw2 : IntKind.i64.wrap ((k : Int) + 1) = ((k + 1 : Nat) : Int) := by rw [wrap_in _ (by omega) (by omega)]; omega
    rw [Chk_of (by omega), Chk_of (by omega), hw2, Chk_of (by omega), if_neg (by simp; omega)]
    have e1 : List.take (w.Joints.length - (k + 1)) (List.drop (k + 1) w.Joints) = w.Joints.drop (k + 1) := by
      apply List.take_of_length_le; simp
    have e2 : (w.Joints.drop (k + 1)).length = w.Joints.length - (k + 1) := by simp
    simp only [Int.toNat_natCast, Option.getD_some, Option.getD_none, Nat.sub_zero, Nat.zero_add, e1, e2]
    rw [Chk_of (by omega), Chk_of (by omega), Chk_of (by omega), Chk_of (by omega), Chk_of (by omega)]
    have e3 : k + (w.Joints.length - (k + 1)) = w.Joints.length - 1 := by omega
    have l3 : (w.Joints.take k ++ w.Joints.drop (k + 1)).length = w.Joints.length - 1 := by simp; omega
    simp only [e3]
    rw [Chk_of (by simp; omega), take_app_len (w.Joints.take k ++ w.Joints.drop (k + 1)) _ _ l3.symm, Chk_of (by simp; omega)]
    rw [List.append_assoc, take_app_len (w.Joints.take k ++ w.Joints.drop (k + 1)) _ _ l3.symm]
    show Rx.Bind (world_wakeAll (cutJ w k) [_, _]) _ = _
    rw [wakeAll_eq _ _ _ (cut_sm w k h) hp, Bind_snr]
theorem ref25_RemJ_eq (w : World_) (id : Int) (h : SmW w) : caromref25_RemoveJoint w id = some (remJ w id) := by
  have hj := h.joints
  unfold caromref25_RemoveJoint remJ
  rw [ref25_FindJ_eq w id (sm_of h.joints (by omega)), Bind_snr]
  simp only [Let_nr, Join_nr]
  rcases fj_cases w id with hk | ⟨k, hk, hl⟩
  · rw [hk, if_pos (by simp), if_pos (by decide)]; rfl
  · have n4 : ¬ ((k : Int) < 0) := by omega
    rw [hk, if_neg (by simp), if_neg n4, ref25_Clone_eq w h, Bind_snr]
    have hw2 : IntKind.i64.wrap ((k : Int) + 1) = ((k + 1 : Nat) : Int) := by rw [wrap_in _ (by omega) (by omega)]; omega
    rw [hw2]
    have e1 : List.take (w.Joints.length - (k + 1)) (List.drop (k + 1) w.Joints) = w.Joints.drop (k + 1) := by
      apply List.take_of_length_le; simp
    have e2 : (w.Joints.drop (k + 1)).length = w.Joints.length - (k + 1) := by simp
    simp only [Int.toNat_natCast, Option.getD_some, Option.getD_none, Nat.sub_zero, Nat.zero_add, e1, e2]
    have e3 : k + (w.Joints.length - (k + 1)) = w.Joints.length - 1 := by omega
    have l3 : (w.Joints.take k ++ w.Joints.drop (k + 1)).length = w.Joints.length - 1 := by simp; omega
    simp only [e3]
    rw [Chk_of (by omega), Chk_of (by omega), Chk_of (by omega), Chk_of (by omega), Chk_of (by simp; omega)]
    rw [take_app_len (w.Joints.take k ++ w.Joints.drop (k + 1)) _ _ l3.symm, Chk_of (by omega)]
    show Rx.Bind (caromref25_WakeBody (cutJ w k) _) _ = _
    rw [ref25_Wake_eq _ _ (cut_sm w k h), Bind_snr, Chk_of (by omega), ref25_Wake_eq _ _ (wake_sm _ _ (cut_sm w k h)), Bind_snr]
theorem addJ_sm (w : World_) (j : Joint) (h : SmW w) (hl : w.Joints.length ≤ 1000) : SmW (addJ w j).1 := by
  unfold addJ
  split
  · exact zeroW_sm
  · split
    · exact zeroW_sm
    · exact wake_sm _ _ (wake_sm _ _ ⟨h.bodies, by simp; omega, h.contacts, h.overlaps, h.points, h.body⟩)
theorem remJ_sm (w : World_) (id : Int) (h : SmW w) : SmW (remJ w id).1 := by
  unfold remJ
  split
  · exact zeroW_sm
  · exact wake_sm _ _ (wake_sm _ _ (cut_sm w _ h))
theorem WorldJoints_any (w : World_) (j : Joint) (id : Int) : caromlaw25_WorldJoints w j id = some true := by
  unfold caromlaw25_WorldJoints
  simp only [ref25_Few_eq, Bind_snr, Let_nr, example25]
  cases h : few w
  · simp [Bind_snr]
  · have hF := few_Few h
    have hs := hF.smw
    have hl : w.Joints.length ≤ 1000 := by have := hF.joints; omega
    rw [show (if ((!true) == false) = true then caromlaw25_positiveIDs w else some default) = some (w.Bodies.all (fun b => decide (1 ≤ b.ID))) from posIDs_eq w hF.sb, Bind_snr]
    cases hp : w.Bodies.all (fun b => decide (1 ≤ b.ID))
    · rfl
    · have hpos : posI w := by
        intro b hb
        rw [List.all_eq_true] at hp
        exact of_decide_eq_true (hp b hb)
      simp only [Bool.not_true, Bool.cond_false, ff, if_false, world_AddJ_eq w j hs hpos hl, ref25_AddJ_eq w j hs hl, world_RemJ_eq w id hs hpos, ref25_RemJ_eq w id hs, Bind_snr, ref25_Equal_eq _ _ (addJ_sm w j hs hl), ref25_Equal_eq _ _ (remJ_sm w id hs)]
      simp [Bind_snr]
end GoForm


open Go

namespace GoForm
theorem caromlaw25_WorldJoints_true (a0 : World_) (a1 : Joint) (a2 : Int) {P Q R : Prop} (_ : P) (_ : Q) (_ : R) : caromlaw25_WorldJoints a0 a1 a2 = some true := WorldJoints_any a0 a1 a2
end GoForm

