/- Plain laws, joined from several texts. No conditions. -/
import Derived.Test.YtacajmmjdefplaaGreatF25D
import Derived.Test.YtacajmmjdefplaaGreatF25B
import Derived.Test.YtacajmmjdefplaaGreatF25OL
import Derived.Test.YtacajmmjdefplaaGreatRzQ
import Derived.Test.YtacajmmjdefplaaGreatF25T
/- Plain laws, joined from several texts. No conditions. -/
/-
  Plain laws of world: what validation computes. No conditions.
-/
set_option linter.all false
set_option maxRecDepth 100000
open Go Go.Rx


namespace GoForm
theorem bodyV (b : Body) : body_Validate b = caromref23_Validate b := by rw [br_body_Validate, br_caromref23_Validate, GoOld.body_Validate_eq, GoOld.ref23_Validate_eq]
theorem bodyV' (b : Body) : caromref23_Validate b = some (GoOld.validB b) := by rw [br_caromref23_Validate, GoOld.ref23_Validate_eq]
def inb (x a b : Int) : Bool := decide (a ≤ x) && decide (x ≤ b)
theorem world_in_eq (x a b : Int) : world_in x a b = some (inb x a b) := by
  unfold world_in inb; simp only [Let_nr, ge_iff_le, cond_and]
theorem ref25_in_eq (x a b : Int) : caromref25_in x a b = some (inb x a b) := by
  unfold caromref25_in inb; simp only [Let_nr, ge_iff_le, cond_and]
theorem joint_in_eq (x a b : Int) : joint_inRange x a b = some (inb x a b) := by
  unfold joint_inRange inb; simp only [Let_nr, ge_iff_le, cond_and]
theorem ref24_in_eq (x a b : Int) : caromref24_inRange x a b = some (inb x a b) := by
  unfold caromref24_inRange inb; simp only [Let_nr, ge_iff_le, cond_and]
def vset (s : Settings) : Int := if (inb s.TimeStep 64 8192 && inb s.Gravity.X (-16777216) 16777216 && inb s.Gravity.Y (-16777216) 16777216 && inb s.Iterations 1 32 && inb s.SleepSteps 0 1048576) = true then 0 else 6
theorem world_set_eq (s : Settings) : world_ValidateSettings s = some (vset s) := by
  unfold world_ValidateSettings vset
  simp only [world_in_eq, Let_nr, Bind_snr, Bind_if]
  generalize inb s.TimeStep 64 8192 = b1
  generalize inb s.Gravity.X (-16777216) 16777216 = b2
  generalize inb s.Gravity.Y (-16777216) 16777216 = b3
  generalize inb s.Iterations 1 32 = b4
  generalize inb s.SleepSteps 0 1048576 = b5
  cases b1 <;> cases b2 <;> cases b3 <;> cases b4 <;> cases b5 <;> rfl
theorem ref25_set_eq (s : Settings) : caromref25_ValidateSettings s = some (vset s) := by
  unfold caromref25_ValidateSettings vset
  simp only [ref25_in_eq, Let_nr, Bind_snr, Bind_if]
  generalize inb s.TimeStep 64 8192 = b1
  generalize inb s.Gravity.X (-16777216) 16777216 = b2
  generalize inb s.Gravity.Y (-16777216) 16777216 = b3
  generalize inb s.Iterations 1 32 = b4
  generalize inb s.SleepSteps 0 1048576 = b5
  cases b1 <;> cases b2 <;> cases b3 <;> cases b4 <;> cases b5 <;> rfl
/-! FindBody -/
def fb (w : World_) (id : Int) : Int := idx (fun b : Body => b.ID == id) w.Bodies 0
theorem world_Find_eq (w : World_) (id : Int) (h : Sm w.Bodies) : world_FindBody w id = some (fb w id) := by
  unfold world_FindBody slices_IndexFunc fb
  simp only [Let_nr]
  rw [show LOOP _ fuel (0 : Int) = _ from LOOP_l0 w.Bodies (fun t i => some (idx (fun b : Body => b.ID == id) t i)) _ h ?_ ?_]
  · exact Bind_snr _ _
  · intro r i t hw hc hm hr
    simp only [dlt hc, if_true, hw, Chk_of hc, world_FindBody_1, Let_nr, Bind_snr, hr, idx]
    split <;> rfl
  · intro r; simp only [dll, ff, if_false, idx]
theorem ref25_Find_eq (w : World_) (id : Int) (h : Sm w.Bodies) : caromref25_FindBody w id = some (fb w id) := by
  unfold caromref25_FindBody fb
  simp only [Let_nr]
  refine LOOP_l0 w.Bodies (fun t i => some (idx (fun b : Body => b.ID == id) t i)) _ h ?_ ?_
  · intro r i t hw hc hm hr
    simp only [dlt hc, if_true, hw, Chk_of hc, Let_nr, Bind_snr, hr, idx]
    split <;> rfl
  · intro r; simp only [dll, ff, if_false, idx]
theorem fb_bd (w : World_) (id : Int) : fb w id = -1 ∨ (0 ≤ fb w id ∧ fb w id < (w.Bodies.length : Int)) := by
  have := idx_bd (fun b : Body => b.ID == id) w.Bodies 0; unfold fb; simpa using this
/-! bodies -/
def vbs (N : Int) : List Body → Nat → Int → Bool
  | [], _, _ => true
  | b :: t, i, p => if (GoOld.validB b != 0 || decide (N ≤ b.ID) || decide (b.ID ≤ p)) = true then false else vbs N t (i + 1) b.ID
theorem world_bodies_eq (w : World_) (h : Sm w.Bodies) : world_validBodies w = some (vbs w.NextID w.Bodies 0 0) := by
  unfold world_validBodies
  simp only [Let_nr]
  refine LOOP_l1 w.Bodies (fun t i p => some (vbs w.NextID t i p)) _ 0 h ?_ ?_
  · intro r i t s hw hc hm hr
    simp only [dlt hc, if_true, hw, Chk_of hc, Let_nr, bodyV, bodyV', Bind_snr, hr, vbs, cond_or, ge_iff_le]
    split <;> rfl
  · intro r s; simp only [dll, ff, if_false, vbs]
theorem validB_ID {b : Body} (h : GoOld.validB b = 0) : 1 ≤ b.ID := by
  have := (GoOld.validB_ok.1 h).2.1.1
  unfold GoOld.Wn at this; exact this.1
theorem ref25_bodies_eq (w : World_) (h : Sm w.Bodies) : caromref25_validBodies w = some (vbs w.NextID w.Bodies 0 0) := by
  unfold caromref25_validBodies
  simp only [Let_nr]
  have key : ∀ (r : Int × Int → Option Bool), True := fun _ => trivial
  rw [show LOOP _ fuel ((0 : Int), (0 : Int)) = (fun (t : List Body) (i : Nat) (p : Int) => some (if i = 0 then vbs w.NextID t i 0 else vbs w.NextID t i p)) w.Bodies 0 0 from LOOP_l1 w.Bodies (fun t i p => some (if i = 0 then vbs w.NextID t i 0 else vbs w.NextID t i p)) _ 0 h ?_ ?_]
  · rfl
  · intro r i t s hw hc hm hr
    simp only [dlt hc, if_true, hw, Chk_of hc, Let_nr, bodyV', Bind_snr, hr, vbs, cond_or, cond_and, ge_iff_le, gt_iff_lt, Nat.succ_ne_zero, Nat.add_eq_zero_iff, if_false]
    by_cases hv : GoOld.validB (ix w.Bodies (i : Int)) = 0
    · have h1 := validB_ID hv
      simp [hv]
      by_cases hi : i = 0
      · subst hi; simp; split <;> simp_all <;> omega
      · have : (0 : Int) < (i : Int) := by omega
        simp [hi, this]; split <;> simp_all <;> (intros; omega)
    · simp [hv]
  · intro r s; simp only [dll, ff, if_false, vbs, ite_self]
/-! joints -/
def inv4 (v : Vec) (m : Int) : Bool := inb v.X (-m) m && inb v.Y (-m) m
theorem joint_pt_eq (v : Vec) (m : Int) (h : 0 ≤ m ∧ m ≤ 1000000000000) : joint_pointInRange v m = some (inv4 v m) := by
  unfold joint_pointInRange inv4
  have e : IntKind.i64.wrap ((0 : Int) - m) = -m := by rw [wrap_in _ (by omega) (by omega)]; omega
  simp only [Let_nr, joint_in_eq, Bind_snr, Bind_if, e, cond_and, ga1]
theorem ref24_pt_eq (v : Vec) (m : Int) (h : 0 ≤ m ∧ m ≤ 1000000000000) : caromref24_inSquare v m = some (inv4 v m) := by
  unfold caromref24_inSquare inv4
  have e : IntKind.i64.wrap ((0 : Int) - m) = -m := by rw [wrap_in _ (by omega) (by omega)]; omega
  simp only [Let_nr, ref24_in_eq, Bind_snr, Bind_if, e, cond_and, ga1]
def reach (k : Int) : Int := if (k == 5) = true then 268435456 else 1048576
def limR (k : Int) : Int × Int := if (k == 1) = true then (0, 268435456) else if (k == 2) = true then (-205888, 205888) else (-268435456, 268435456)
theorem joint_lim_eq (k : Int) : joint_limitRange k = some (limR k) := by
  unfold joint_limitRange limR; simp only [Let_nr]; split <;> (try split) <;> rfl
def impOk (j : Joint) : Bool := [j.Impulses.fst, j.Impulses.snd.fst, j.Impulses.snd.snd.fst, j.Impulses.snd.snd.snd].all fun x => inb x (-536870911) 536870911
def numOk (j : Joint) : Bool := impOk j && (inb j.ID 1 1099511627776 && inv4 j.AnchorA (reach j.Kind) && inv4 j.AnchorB 1048576 && inb j.ReferenceAngle (-205888) 205887 && inb j.Lower (limR j.Kind).1 (limR j.Kind).2 && inb j.Upper (limR j.Kind).1 (limR j.Kind).2 && decide (j.Lower ≤ j.Upper) && inb j.MotorSpeed (-16777216) 16777216 && inb j.MaxForce 0 536870911 && inb j.Softness 0 536870911 && inb j.BreakForce 0 536870911)
theorem reach_bd (k : Int) : 0 ≤ reach k ∧ reach k ≤ 1000000000000 := by unfold reach; split <;> omega
theorem sm4 (a b c d : Int) : Sm [a, b, c, d] := by unfold Sm; simp
def all4 (fin : Bool) : List Int → Bool
  | [] => fin
  | a :: t => if (!inb a (-536870911) 536870911) = true then false else all4 fin t
theorem all4_eq (fin : Bool) : ∀ l : List Int, all4 fin l = (l.all (fun x => inb x (-536870911) 536870911) && fin)
  | [] => rfl
  | a :: t => by unfold all4; rw [all4_eq fin t]; cases h : inb a (-536870911) 536870911 <;> simp [h]
theorem joint_num_eq (j : Joint) : joint_numbersInRange j = some (numOk j) := by
  unfold joint_numbersInRange numOk impOk
  rw [← all4_eq]
  have h1 : ∀ m : Int, 0 ≤ m ∧ m ≤ 1000000000000 → joint_pointInRange j.AnchorA m = some (inv4 j.AnchorA m) := fun m => joint_pt_eq _ m
  have h2 := joint_pt_eq j.AnchorB 1048576 (by omega)
  have hK : ∀ m : Int, reach j.Kind = m → 0 ≤ m ∧ m ≤ 1000000000000 := fun m h => h ▸ reach_bd _
  by_cases hk : (j.Kind == 5) = true <;> simp only [Join_nr, Let_nr, hk, ff, if_true, if_false, joint_lim_eq, Bind_snr, joint_in_eq, h2, h1 268435456 (by omega), h1 1048576 (by omega), Bind_if, cond_and, ga1, reach]
  all_goals
    refine LOOP_l0 [j.Impulses.fst, j.Impulses.snd.fst, j.Impulses.snd.snd.fst, j.Impulses.snd.snd.snd] (fun t _ => some (all4 _ t)) _ (sm4 _ _ _ _) ?_ ?_
    · intro r i t hw hc hm hr
      have hc4 : (0 : Int) ≤ (i : Int) ∧ (i : Int) < ((4 : Nat) : Int) := hc
      have hd4 : decide ((i : Int) < (4 : Int)) = true := dlt hc
      simp only [hd4, if_true, hw, Chk_of hc4, hr, all4]
      split <;> rfl
    · intro r
      have : decide (([j.Impulses.fst, j.Impulses.snd.fst, j.Impulses.snd.snd.fst, j.Impulses.snd.snd.snd].length : Int) < (4 : Int)) = false := rfl
      simp only [this, ff, if_false, all4]
theorem ref24_lim_eq (j : Joint) : caromref24_limitsValid j = some (inb j.Lower (limR j.Kind).1 (limR j.Kind).2 && inb j.Upper (limR j.Kind).1 (limR j.Kind).2 && decide (j.Lower ≤ j.Upper)) := by
  unfold caromref24_limitsValid limR
  simp only [Let_nr, ref24_in_eq, Bind_snr, Bind_if, cond_and, cond_or, ga1, ga2, ga3, ge_iff_le, gt_iff_lt]
  have e : ∀ x a b, inb x a b = decide (a ≤ x ∧ x ≤ b) := fun x a b => by unfold inb; rw [Bool.eq_iff_iff]; simp
  simp only [e]
  have k1 : (j.Kind == 1) = decide (j.Kind = 1) := by rw [Bool.eq_iff_iff]; simp
  have k2 : (j.Kind == 2) = decide (j.Kind = 2) := by rw [Bool.eq_iff_iff]; simp
  have k3 : (j.Kind != 2) = !decide (j.Kind = 2) := by rw [Bool.eq_iff_iff]; simp
  simp only [k1, k2, k3]
  have go : ∀ (p : Option Bool) (b : Bool), (∃ a, p = some a ∧ (a = true ↔ b = true)) → p = some b := fun p b ⟨a, h1, h2⟩ => by rw [h1]; exact congrArg some (Bool.eq_iff_iff.2 h2)
  apply go
  repeat' split
  all_goals refine ⟨_, rfl, ?_⟩
  all_goals simp only [Bool.or_eq_true, Bool.and_eq_true, Bool.not_eq_true', decide_eq_true_eq, decide_eq_false_iff_not, Bool.false_eq_true, false_iff, true_iff] at *
  all_goals omega
theorem ref24_num_eq (j : Joint) : caromref24_rangesValid j = some (numOk j) := by
  unfold caromref24_rangesValid numOk impOk
  rw [← all4_eq]
  have h1 : ∀ m : Int, 0 ≤ m ∧ m ≤ 1000000000000 → caromref24_inSquare j.AnchorA m = some (inv4 j.AnchorA m) := fun m => ref24_pt_eq _ m
  have h2 := ref24_pt_eq j.AnchorB 1048576 (by omega)
  by_cases hk : (j.Kind == 5) = true <;> simp only [Join_nr, Let_nr, hk, ff, if_true, if_false, ref24_lim_eq, Bind_snr, ref24_in_eq, h2, h1 268435456 (by omega), h1 1048576 (by omega), Bind_if, cond_and, cond_or, ga1, ga2, ga3, reach]
  all_goals
    refine LOOP_l0 [j.Impulses.fst, j.Impulses.snd.fst, j.Impulses.snd.snd.fst, j.Impulses.snd.snd.snd] (fun t _ => some (all4 _ t)) _ (sm4 _ _ _ _) ?_ ?_
    · intro r i t hw hc hm hr
      have hc4 : (0 : Int) ≤ (i : Int) ∧ (i : Int) < ((4 : Nat) : Int) := hc
      have hd4 : decide ((i : Int) < (4 : Int)) = true := dlt hc
      simp only [hd4, if_true, hw, Chk_of hc4, Chk_of hc, hr, all4]
      split <;> rfl
    · intro r
      have : decide (([j.Impulses.fst, j.Impulses.snd.fst, j.Impulses.snd.snd.fst, j.Impulses.snd.snd.snd].length : Int) < (4 : Int)) = false := rfl
      simp only [this, ff, if_false, all4]
      generalize inb j.Lower (limR j.Kind).1 (limR j.Kind).2 = b1
      generalize inb j.Upper (limR j.Kind).1 (limR j.Kind).2 = b2
      generalize decide (j.Lower ≤ j.Upper) = b3
      generalize inb j.ID 1 1099511627776 = b4
      generalize inv4 j.AnchorB 1048576 = b6
      generalize inb j.ReferenceAngle (-205888) 205887 = b7
      generalize inv4 j.AnchorA _ = b5
      cases b1 <;> cases b2 <;> cases b3 <;> cases b4 <;> cases b5 <;> cases b6 <;> cases b7 <;> simp
def jbOk (j : Joint) : Bool := if (j.Kind == 5) = true then (j.BodyA == 0 && inb j.BodyB 1 1099511627776) else (inb j.BodyA 1 1099511627776 && inb j.BodyB 1 1099511627776 && (j.BodyA != j.BodyB))
theorem joint_bod_eq (j : Joint) : joint_validBodies j = some (jbOk j) := by
  unfold joint_validBodies jbOk
  simp only [Let_nr, joint_in_eq, Bind_snr, Bind_if, cond_and, ga1]
  split <;> rfl
def plainA (j : Joint) : Bool := decide (j.Axis.X = 0) && decide (j.Axis.Y = 0)
def jinc (j : Joint) : Bool := if (j.Kind == 3) = true then !inb (GoOld.lenV j.Axis) 65520 65552 else if (j.Kind == 1) = true then (!plainA j || j.EnableMotor || !j.EnableLimit) else if (j.Kind == 4) = true then (!plainA j || j.EnableMotor || j.EnableLimit) else if (j.Kind == 5) = true then (!plainA j || j.EnableMotor || j.EnableLimit) else !plainA j
theorem joint_inc_eq (j : Joint) : joint_inconsistent j = some (jinc j) := by
  unfold joint_inconsistent jinc plainA
  simp only [Let_nr, Join_nr, br_vec2_Length, GoOld.vec2_Length_eq, joint_in_eq, Bind_snr, Bind_if, cond_and, cond_or]
  repeat' split
  all_goals rfl
def jv (j : Joint) : Int := if (decide (j.Kind < 1) || decide (5 < j.Kind)) = true then 10 else if (!numOk j) = true then 6 else if (!jbOk j) = true then 14 else if jinc j = true then 15 else 0
theorem joint_Val_eq (j : Joint) : joint_Validate j = some (jv j) := by
  unfold joint_Validate jv
  simp only [Let_nr, joint_num_eq, joint_bod_eq, joint_inc_eq, Bind_snr, cond_or, gt_iff_lt]
  repeat' split
  all_goals rfl
theorem ref24_Val_eq (j : Joint) : caromref24_Validate j = some (jv j) := by
  have g10 : ∀ (c : Bool) (a d lo hi : Int), (c && !inb (if (c == true) = true then a else d) lo hi) = (c && !inb a lo hi) := by intro c a d lo hi; cases c <;> rfl
  unfold caromref24_Validate jv
  simp only [Let_nr, ref24_num_eq, br_caromref03_Length, GoOld.ref03_Length_eq, ref24_in_eq, Bind_snr, Bind_if, cond_or, cond_and, gt_iff_lt, ga1, ga2, ga3, ga4, ga9, g10]
  have k : ∀ n : Int, (j.Kind != n) = !(j.Kind == n) := fun n => rfl
  by_cases hk : (decide (j.Kind < 1) || decide (5 < j.Kind)) = true
  · simp only [hk, if_true]
  · simp only [hk, if_false]
    cases hn : numOk j
    · rfl
    · simp only [Bool.not_true, ff, if_false]
      simp only [Bool.or_eq_true, decide_eq_true_eq, not_or, Int.not_lt] at hk
      have hk' : j.Kind = 1 ∨ j.Kind = 2 ∨ j.Kind = 3 ∨ j.Kind = 4 ∨ j.Kind = 5 := by omega
      unfold jbOk jinc plainA
      generalize inb (GoOld.lenV j.Axis) 65520 65552 = b1
      generalize inb j.BodyA 1 1099511627776 = b2
      generalize inb j.BodyB 1 1099511627776 = b3
      have k0 : (j.BodyA != 0) = !(j.BodyA == 0) := rfl
      have k00 : (j.BodyA != j.BodyB) = !(j.BodyA == j.BodyB) := rfl
      rw [k0, k00]
      generalize (j.BodyA == 0) = b4
      generalize (j.BodyA == j.BodyB) = b5
      generalize (decide (j.Axis.X = 0) && decide (j.Axis.Y = 0)) = b6
      generalize j.EnableMotor = b7
      generalize j.EnableLimit = b8
      rcases hk' with h | h | h | h | h <;> simp only [h, k] <;> cases b1 <;> cases b2 <;> cases b3 <;> cases b4 <;> cases b5 <;> cases b6 <;> cases b7 <;> cases b8 <;> rfl
end GoForm


/-
  Plain laws of world: what validation of joints and contacts computes. No conditions.
-/
set_option linter.all false
set_option maxRecDepth 100000
open Go Go.Rx

namespace GoForm
def jex (w : World_) (j : Joint) : Bool := decide (0 ≤ fb w j.BodyB) && (j.Kind == 5 || decide (0 ≤ fb w j.BodyA))
theorem world_ex_eq (w : World_) (j : Joint) (h : Sm w.Bodies) : world_bodiesExist w j = some (jex w j) := by
  unfold world_bodiesExist jex
  simp only [Let_nr, world_Find_eq w _ h, Bind_snr, Bind_if, cond_and, cond_or, ge_iff_le, ga8]
def jcon (w : World_) (j : Joint) : Bool := (j.BodyA == 0 || decide (0 ≤ fb w j.BodyA)) && (j.BodyB == 0 || decide (0 ≤ fb w j.BodyB))
theorem ref25_con_eq (w : World_) (j : Joint) (h : Sm w.Bodies) : caromref25_connected w j = some (jcon w j) := by
  unfold caromref25_connected jcon
  simp only [Let_nr, ref25_Find_eq w _ h, Bind_snr, Bind_if, cond_and, cond_or, ge_iff_le, ga8, ga5]
theorem jv_zero {j : Joint} (h : jv j = 0) : numOk j = true ∧ jbOk j = true ∧ jinc j = false ∧ 1 ≤ j.Kind ∧ j.Kind ≤ 5 := by
  unfold jv at h
  split at h
  · omega
  · split at h
    · omega
    · split at h
      · omega
      · split at h
        · omega
        · simp_all
theorem jex_con {w : World_} {j : Joint} (h : jv j = 0) : jex w j = jcon w j := by
  have h2 := (jv_zero h).2.1
  unfold jbOk inb at h2
  unfold jex jcon
  by_cases hk : j.Kind = 5
  · simp [hk] at h2 ⊢
    have : ¬ j.BodyB = 0 := by omega
    simp [h2.1, this]
  · simp [hk] at h2 ⊢
    have : ¬ j.BodyB = 0 := by omega
    have : ¬ j.BodyA = 0 := by omega
    have e1 : (j.BodyA == 0) = false := by simpa using this
    have e2 : (j.BodyB == 0) = false := by simp; omega
    have e3 : (j.Kind == 5) = false := by simpa using hk
    rw [e1, e2, e3]; simp only [Bool.false_or]; exact Bool.and_comm _ _
theorem jv_ID {j : Joint} (h : jv j = 0) : 1 ≤ j.ID := by
  have h2 := (jv_zero h).1
  unfold numOk inb at h2
  simp at h2; omega
def vjs (w : World_) : List Joint → Nat → Int → Bool
  | [], _, _ => true
  | j :: t, i, p => if (jv j != 0 || decide (w.NextID ≤ j.ID) || decide (j.ID ≤ p) || !jcon w j || decide (0 ≤ fb w j.ID)) = true then false else vjs w t (i + 1) j.ID
theorem world_joints_eq (w : World_) (h : Sm w.Joints) (hb : Sm w.Bodies) : world_validJoints w = some (vjs w w.Joints 0 0) := by
  unfold world_validJoints
  simp only [Let_nr]
  refine LOOP_l1 w.Joints (fun t i p => some (vjs w t i p)) _ 0 h ?_ ?_
  · intro r i t s hw hc hm hr
    simp only [dlt hc, if_true, hw, Chk_of hc, Let_nr, joint_Val_eq, world_ex_eq w _ hb, world_Find_eq w _ hb, Bind_snr, Bind_if, hr, vjs, cond_or, ge_iff_le, ga3, ga5]
    by_cases hj : jv (ix w.Joints (i : Int)) = 0
    · rw [jex_con hj]; split <;> rfl
    · simp [hj]
  · intro r s; simp only [dll, ff, if_false, vjs]
theorem ref25_joints_eq (w : World_) (h : Sm w.Joints) (hb : Sm w.Bodies) : caromref25_validJoints w = some (vjs w w.Joints 0 0) := by
  unfold caromref25_validJoints
  simp only [Let_nr]
  rw [show LOOP _ fuel ((0 : Int), (0 : Int)) = (fun (t : List Joint) (i : Nat) (p : Int) => some (if i = 0 then vjs w t i 0 else vjs w t i p)) w.Joints 0 0 from LOOP_l1 w.Joints (fun t i p => some (if i = 0 then vjs w t i 0 else vjs w t i p)) _ 0 h ?_ ?_]
  · rfl
  · intro r i t s hw hc hm hr
    simp only [dlt hc, if_true, hw, Chk_of hc, Let_nr, ref24_Val_eq, ref25_con_eq w _ hb, ref25_Find_eq w _ hb, Bind_snr, Bind_if, hr, vjs, cond_or, cond_and, ge_iff_le, gt_iff_lt, ga3, ga5, Nat.succ_ne_zero, Nat.add_eq_zero_iff, if_false]
    by_cases hv : jv (ix w.Joints (i : Int)) = 0
    · have h1 := jv_ID hv
      have e : decide ((ix w.Joints (i : Int)).ID ≤ 0) = false := decide_eq_false (by omega)
      by_cases hi : i = 0
      · subst hi
        have e1 : decide ((0 : Int) < ((0 : Nat) : Int)) = false := rfl
        simp only [e1, e, Bool.false_and, Bool.or_false, if_true]; split <;> rfl
      · have e1 : decide ((0 : Int) < (i : Int)) = true := decide_eq_true (by omega)
        simp only [e1, Bool.true_and, hi, if_false]; split <;> rfl
    · simp [hv]
  · intro r s; simp only [dll, ff, if_false, vjs, ite_self]
end GoForm


/-
  Plain laws of world: what validation of contacts computes. No conditions.
-/
set_option linter.all false
set_option maxRecDepth 100000
open Go Go.Rx

namespace GoForm
theorem cmp_nan (x : Int) : cmp_isNaN x = some false := by unfold cmp_isNaN; simp [Let_nr]
def cmpZ (x y : Int) : Int := if x < y then -1 else if y < x then 1 else 0
theorem cmp_eq (x y : Int) : cmp_Compare x y = some (cmpZ x y) := by
  unfold cmp_Compare cmpZ
  simp only [cmp_nan, Bind_snr, ff, if_false, Let_nr, decide_eq_true_eq, gt_iff_lt]
  split
  · rfl
  · split <;> rfl
def orZ : List Int → Int
  | [] => 0
  | a :: t => if (a != 0) = true then a else orZ t
theorem or_eq (l : List Int) (h : Sm l) : cmp_Or l = some (orZ l) := by
  unfold cmp_Or
  simp only [Let_nr]
  refine LOOP_l0 l (fun t _ => some (orZ t)) _ h ?_ ?_
  · intro r i t hw hc hm hr
    simp only [dlt hc, if_true, hw, Chk_of hc, Let_nr, hr, orZ]
    split <;> rfl
  · intro r; simp only [dll, ff, if_false, orZ]
def lessK (a b : PairKey) : Bool := if a.BodyA ≠ b.BodyA then decide (a.BodyA < b.BodyA) else if a.FixtureA ≠ b.FixtureA then decide (a.FixtureA < b.FixtureA) else if a.BodyB ≠ b.BodyB then decide (a.BodyB < b.BodyB) else decide (a.FixtureB < b.FixtureB)
theorem cmpZ_0 (x y : Int) : cmpZ x y = 0 ↔ x = y := by unfold cmpZ; split <;> (try split) <;> omega
theorem cmpZ_n (x y : Int) : cmpZ x y < 0 ↔ x < y := by unfold cmpZ; split <;> (try split) <;> omega
theorem less_eq (a b : PairKey) : broadphase_Less a b = some (lessK a b) := by
  unfold broadphase_Less broadphase_compare lessK
  simp only [cmp_eq, Bind_snr]
  rw [or_eq _ (sm4 _ _ _ _)]
  simp only [Bind_snr, Let_nr, orZ, bne_iff_ne, ne_eq, cmpZ_0]
  by_cases h1 : a.BodyA = b.BodyA
  · by_cases h2 : a.FixtureA = b.FixtureA
    · by_cases h3 : a.BodyB = b.BodyB
      · by_cases h4 : a.FixtureB = b.FixtureB
        · simp [h1, h2, h3, h4]
        · simp [h1, h2, h3, h4, cmpZ_n]
      · simp [h1, h2, h3, cmpZ_n]
    · simp [h1, h2, cmpZ_n]
  · simp [h1, cmpZ_n]
theorem ref22_less_eq (a b : PairKey) : caromref22_Less a b = some (lessK a b) := by
  unfold caromref22_Less lessK
  simp only [Let_nr, bne_iff_ne, ne_eq]
  repeat' split
  all_goals rfl
theorem lessK_irr (a : PairKey) : lessK a a = false := by unfold lessK; simp
def okK (k : PairKey) : Bool := decide (k.BodyA < k.BodyB) && decide (0 ≤ k.FixtureA) && decide (k.FixtureA < 4) && decide (0 ≤ k.FixtureB) && decide (k.FixtureB < 4)
theorem valid_eq (k : PairKey) : broadphase_valid k = some (okK k) := by
  unfold broadphase_valid okK; simp only [Let_nr, cond_and, ge_iff_le]
def vks : List PairKey → Nat → PairKey → Bool
  | [], _, _ => true
  | k :: t, i, p => if (!okK k || (decide (0 < (i : Int)) && !lessK p k)) = true then false else vks t (i + 1) k
theorem keq (a b : PairKey) : (decide (a.BodyA = b.BodyA) && (decide (a.FixtureA = b.FixtureA) && (decide (a.BodyB = b.BodyB) && decide (a.FixtureB = b.FixtureB)))) = decide (a = b) := by
  rw [Bool.eq_iff_iff]; cases a; cases b; simp
theorem vk_eq (l : List PairKey) (h : Sm l) : broadphase_ValidKeys l = some (vks l 0 ⟨0, 0, 0, 0⟩) := by
  unfold broadphase_ValidKeys
  simp only [Let_nr, keq]
  refine LOOP_l2 l (fun t i p => some (vks t i p)) _ _ h ?_ ?_
  · intro r i t s hw hc hm hr
    have g : ∀ (c e f a d : Bool), (c || (e && (f || !(if (c == false && e == true && f == false) = true then a else d)))) = (c || (e && (f || !a))) := by intro c e f a d; cases c <;> cases e <;> cases f <;> rfl
    simp only [dlt hc, if_true, hw, Chk_of hc, Let_nr, valid_eq, less_eq, Bind_snr, Bind_if, hr, vks, cond_or, cond_and, gt_iff_lt, g]
    have e : (decide (ix l (i : Int) = s) || !lessK s (ix l (i : Int))) = !lessK s (ix l (i : Int)) := by
      by_cases hh : ix l (i : Int) = s
      · rw [hh, lessK_irr]; simp
      · simp [hh]
    rw [e]; split <;> rfl
  · intro r s; simp only [dll, ff, if_false, vks]
theorem ref22_vk_eq (l : List PairKey) (h : Sm l) : caromref22_ValidKeys l = some (vks l 0 ⟨0, 0, 0, 0⟩) := by
  unfold caromref22_ValidKeys
  simp only [Let_nr]
  refine LOOP_l0 l (fun t i => some (vks t i (if i = 0 then ⟨0, 0, 0, 0⟩ else ix l ((i : Int) - 1)))) _ h ?_ ?_
  · intro r i t hw hc hm hr
    have hk : ∀ k : PairKey, ((((decide (k.BodyA ≥ k.BodyB) || decide (k.FixtureA < 0)) || decide (k.FixtureA > 3)) || decide (k.FixtureB < 0)) || decide (k.FixtureB > 3)) = !okK k := by
      intro k; unfold okK; rw [Bool.eq_iff_iff]; simp; omega
    have g : ∀ (c e a d : Bool), (c || (e && !(if (c == false && e == true) = true then a else d))) = (c || (e && !a)) := by intro c e a d; cases c <;> cases e <;> rfl
    have e3 : ((i : Int) + 1 - 1) = (i : Int) := by omega
    simp only [dlt hc, if_true, hw, Chk_of hc, Let_nr, ref22_less_eq, Bind_snr, Bind_if, hr, vks, cond_or, cond_and, hk, Nat.succ_ne_zero, Nat.add_eq_zero_iff, if_false]
    by_cases hi : i = 0
    · subst hi
      have e1 : decide (((0 : Nat) : Int) > (0 : Int)) = false := rfl
      have e2 : decide ((0 : Int) < ((0 : Nat) : Int)) = false := rfl
      simp only [e1, e2, Bool.false_and, Bool.and_false, Bool.or_false, ff, Bool.beq_eq_decide_eq]
      simp
      cases okK (ix l 0) <;> rfl
    · have e1 : decide (((i : Nat) : Int) > (0 : Int)) = true := decide_eq_true (by omega)
      have e2 : decide ((0 : Int) < ((i : Nat) : Int)) = true := decide_eq_true (by omega)
      have e4 : IntKind.i64.wrap ((i : Int) - 1) = (i : Int) - 1 := wrap_in _ (by omega) (by unfold Sm at h; omega)
      rw [e4, Chk_of (fun _ => by omega)]
      simp only [e1, e2, Bool.true_and, g, hi, if_false]
      have g2 : ∀ (c a d : Bool), (c || !(if (c == false && true == true) = true then a else d)) = (c || !a) := by intro c a d; cases c <;> rfl
      simp only [g2]
      have e5 : (((i + 1 : Nat) : Int) - 1) = (i : Int) := by omega
      rw [e5]
      split <;> rfl
  · intro r; simp only [dll, ff, if_false, vks]
end GoForm


/-
  Plain laws of world: what validation of contacts computes. No conditions.
-/
set_option linter.all false
set_option maxRecDepth 100000
open Go Go.Rx

namespace GoForm
/-! the standard library's searches -/
theorem ixf_int (l : List Int) (f : Int → Option Bool) (g : Int → Bool) (h : Sm l) (hf : ∀ a ∈ l, f a = some (g a)) : slices_IndexFunc_172 l f = some (idx g l 0) := by
  unfold slices_IndexFunc_172
  simp only [Let_nr]
  refine LOOP_l0 l (fun t i => some (idx g t i)) _ h ?_ ?_
  · intro r i t hw hc hm hr
    simp only [dlt hc, if_true, hw, Chk_of hc, Let_nr, hf _ hm, Bind_snr, hr, idx]
    split <;> rfl
  · intro r; simp only [dll, ff, if_false, idx]
theorem ixf_pt (l : List ContactPoint) (f : ContactPoint → Option Bool) (g : ContactPoint → Bool) (h : Sm l) (hf : ∀ a ∈ l, f a = some (g a)) : slices_IndexFunc_148 l f = some (idx g l 0) := by
  unfold slices_IndexFunc_148
  simp only [Let_nr]
  refine LOOP_l0 l (fun t i => some (idx g t i)) _ h ?_ ?_
  · intro r i t hw hc hm hr
    simp only [dlt hc, if_true, hw, Chk_of hc, Let_nr, hf _ hm, Bind_snr, hr, idx]
    split <;> rfl
  · intro r; simp only [dll, ff, if_false, idx]
theorem ixf_key (l : List PairKey) (f : PairKey → Option Bool) (g : PairKey → Bool) (h : Sm l) (hf : ∀ a ∈ l, f a = some (g a)) : slices_IndexFunc_101 l f = some (idx g l 0) := by
  unfold slices_IndexFunc_101
  simp only [Let_nr]
  refine LOOP_l0 l (fun t i => some (idx g t i)) _ h ?_ ?_
  · intro r i t hw hc hm hr
    simp only [dlt hc, if_true, hw, Chk_of hc, Let_nr, hf _ hm, Bind_snr, hr, idx]
    split <;> rfl
  · intro r; simp only [dll, ff, if_false, idx]
theorem ctf_int (l : List Int) (f : Int → Option Bool) (g : Int → Bool) (h : Sm l) (hf : ∀ a ∈ l, f a = some (g a)) : slices_ContainsFunc_146 l f = some (l.any g) := by
  unfold slices_ContainsFunc_146; simp only [ixf_int l f g h hf, Bind_snr, Let_nr, ge_iff_le, idx_any]
theorem ctf_pt (l : List ContactPoint) (f : ContactPoint → Option Bool) (g : ContactPoint → Bool) (h : Sm l) (hf : ∀ a ∈ l, f a = some (g a)) : slices_ContainsFunc_119 l f = some (l.any g) := by
  unfold slices_ContainsFunc_119; simp only [ixf_pt l f g h hf, Bind_snr, Let_nr, ge_iff_le, idx_any]
theorem ctf_key (l : List PairKey) (f : PairKey → Option Bool) (g : PairKey → Bool) (h : Sm l) (hf : ∀ a ∈ l, f a = some (g a)) : slices_ContainsFunc l f = some (l.any g) := by
  unfold slices_ContainsFunc; simp only [ixf_key l f g h hf, Bind_snr, Let_nr, ge_iff_le, idx_any]
/-! manifolds -/
def sat (x : Int) : Bool := inb x (-536870911) 536870911
theorem world_sat_eq (l : List Int) (h : Sm l) : world_saturated l = some (l.all sat) := by
  unfold world_saturated
  show Rx.Bind (slices_ContainsFunc_146 l world_saturated_1) (fun r => Let (!r) fun x => some x) = _
  rw [ctf_int l _ (fun n => !sat n) h (fun a _ => by unfold world_saturated_1 sat; simp only [world_in_eq, Bind_snr, Let_nr])]
  simp only [Bind_snr, Let_nr, List.any_eq_not_all_not, Bool.not_not]
def pOk (p : ContactPoint) : Bool := !decide (p.NormalImpulse < 0) && (sat p.Point.X && (sat p.Point.Y && (sat p.Separation && (sat p.ID && (sat p.NormalImpulse && sat p.TangentImpulse)))))
def mOk (m : Manifold) : Bool := !(decide ((m.Points.length : Int) < 1) || decide (2 < (m.Points.length : Int)) || ((m.Points.length : Int) == 2 && (ix m.Points 0).ID == (ix m.Points 1).ID) || !(sat m.Normal.X && sat m.Normal.Y)) && m.Points.all pOk
theorem world_pt1 (p : ContactPoint) : world_validManifold_1 p = some (!pOk p) := by
  have h6 : ∀ a b c d e f : Int, Sm [a, b, c, d, e, f] := by intros; unfold Sm; simp
  unfold world_validManifold_1 pOk
  simp only [Let_nr, world_sat_eq _ (h6 _ _ _ _ _ _), Bind_snr, Bind_if, cond_or, ga3, List.all_cons, List.all_nil, Bool.and_true, Bool.not_and, Bool.not_not]
theorem chkP {l : List ContactPoint} {a : Bool} : ((!a && ((l.length : Int) == 2)) = true → (0 : Int) ≤ (0 : Int) ∧ (0 : Int) < (l.length : Int)) ∧ ((!a && ((l.length : Int) == 2)) = true → (0 : Int) ≤ (1 : Int) ∧ (1 : Int) < (l.length : Int)) := by
  constructor <;> intro h <;> simp at h <;> omega
theorem world_man_eq (m : Manifold) (h : Sm m.Points) : world_validManifold m = some (mOk m) := by
  have h2 : ∀ a b : Int, Sm [a, b] := by intros; unfold Sm; simp
  have hg : ∀ a b : Bool, (a == false && b == true) = (!a && b) := by intro a b; cases a <;> cases b <;> rfl
  unfold world_validManifold mOk
  simp only [Let_nr, hg]
  rw [Chk_of chkP.1, Chk_of chkP.2]
  simp only [world_sat_eq _ (h2 _ _), Bind_snr, Bind_if, cond_or, cond_and, ga3, List.all_cons, List.all_nil, Bool.and_true, gt_iff_lt]
  rw [ctf_pt m.Points _ (fun p => !pOk p) h (fun p _ => world_pt1 p)]
  simp only [Bind_snr, List.any_eq_not_all_not, Bool.not_not]
  generalize (decide ((m.Points.length : Int) < 1) || decide (2 < (m.Points.length : Int)) || ((m.Points.length : Int) == 2 && (ix m.Points 0).ID == (ix m.Points 1).ID) || !(sat m.Normal.X && sat m.Normal.Y)) = c
  cases c <;> simp
theorem ref25_sat_eq (v : Vec) : caromref25_saturated v = some (sat v.X && sat v.Y) := by
  unfold caromref25_saturated sat; simp only [Let_nr, ref25_in_eq, Bind_snr, Bind_if, cond_and, ga1]
def allP : List ContactPoint → Bool
  | [] => true
  | p :: t => if (!pOk p) = true then false else allP t
theorem allP_eq : ∀ l : List ContactPoint, allP l = l.all pOk
  | [] => rfl
  | p :: t => by unfold allP; rw [allP_eq t]; cases h : pOk p <;> simp [h]
theorem ref25_man_eq (m : Manifold) (h : Sm m.Points) : caromref25_validPoints m = some (mOk m) := by
  have hg : ∀ a b : Bool, (a == false && b == true) = (!a && b) := by intro a b; cases a <;> cases b <;> rfl
  unfold caromref25_validPoints mOk
  simp only [Let_nr, hg]
  rw [Chk_of chkP.1, Chk_of chkP.2]
  simp only [ref25_sat_eq, Bind_snr, Bind_if, cond_or, cond_and, ga3, gt_iff_lt]
  rw [← allP_eq]
  generalize (decide ((m.Points.length : Int) < 1) || decide (2 < (m.Points.length : Int)) || ((m.Points.length : Int) == 2 && (ix m.Points 0).ID == (ix m.Points 1).ID) || !(sat m.Normal.X && sat m.Normal.Y)) = c
  cases c
  rotate_left
  · rfl
  · simp only [ff, if_false, Bool.not_false, Bool.true_and]
    refine LOOP_l0 m.Points (fun t _ => some (allP t)) _ h ?_ ?_
    · intro r i t hw hc hm hr
      have hp : ∀ p : ContactPoint, (((!inb p.NormalImpulse 0 536870911 || !inb p.TangentImpulse (-536870911) 536870911) || !(sat p.Point.X && sat p.Point.Y)) || !(sat p.Separation && sat p.ID)) = !pOk p := by
        intro p; unfold pOk sat inb; rw [Bool.eq_iff_iff]; simp; omega
      simp only [dlt hc, if_true, hw, Chk_of hc, Let_nr, ref25_in_eq, ref25_sat_eq, Bind_snr, Bind_if, cond_or, ga3, hp, hr, allP]
      split <;> rfl
    · intro r; simp only [dll, ff, if_false, allP]
end GoForm


/-
  Plain laws of world: validation agrees with the reference. No conditions.
-/
set_option linter.all false
set_option maxRecDepth 100000
open Go Go.Rx

namespace GoForm
def exw (w : World_) (id n : Int) : Bool := decide (0 ≤ fb w id) && decide (0 ≤ n) && decide (n < ((ix w.Bodies (fb w id)).Fixtures.length : Int))
theorem ref25_exi_eq (w : World_) (id n : Int) (h : Sm w.Bodies) : caromref25_exists w id n = some (exw w id n) := by
  unfold caromref25_exists exw
  simp only [Let_nr, ref25_Find_eq w _ h, Bind_snr, ge_iff_le, cond_and]
  rw [Chk_of]
  intro hh; simp at hh
  have := fb_bd w id; omega
def exk (w : World_) (k : PairKey) : Bool := exw w k.BodyA k.FixtureA && exw w k.BodyB k.FixtureB
theorem world_fix_eq (w : World_) (k : PairKey) (h : Sm w.Bodies) (hk : okK k = true) : world_fixturesExist w k = some (exk w k) := by
  unfold world_fixturesExist exk exw
  simp only [Let_nr, world_Find_eq w _ h, Bind_snr, ge_iff_le, cond_and]
  have h1 := fb_bd w k.BodyA
  have h2 := fb_bd w k.BodyB
  rw [Chk_of (by intro hh; simp at hh; omega), Chk_of (by intro hh; simp at hh; omega)]
  refine congrArg some ?_
  unfold okK at hk; simp at hk
  rw [Bool.eq_iff_iff]; simp; omega
def allK (w : World_) : List PairKey → Bool
  | [] => true
  | k :: t => if (!exk w k) = true then false else allK w t
theorem allK_eq (w : World_) : ∀ l : List PairKey, allK w l = l.all (exk w)
  | [] => rfl
  | k :: t => by unfold allK; rw [allK_eq w t]; cases h : exk w k <;> simp [h]
theorem ref25_res_eq (w : World_) (l : List PairKey) (h : Sm w.Bodies) (hl : Sm l) : caromref25_resolved w l = some (l.all (exk w)) := by
  unfold caromref25_resolved
  rw [← allK_eq]
  simp only [Let_nr]
  refine LOOP_l0 l (fun t _ => some (allK w t)) _ hl ?_ ?_
  · intro r i t hw hc hm hr
    have e : ∀ k : PairKey, (!exw w k.BodyA k.FixtureA || !exw w k.BodyB k.FixtureB) = !exk w k := by intro k; unfold exk; rw [Bool.not_and]
    simp only [dlt hc, if_true, hw, Chk_of hc, Let_nr, ref25_exi_eq w _ _ h, Bind_snr, Chk_of (fun _ => hc), Bind_if, cond_or, ga3, e, hr, allK]
    split <;> rfl
  · intro r; simp only [dll, ff, if_false, allK]
theorem ref25_Keys_eq (l : List Contact) (hl : l.length ≤ 10000) : caromref25_Keys l = some (l.map (·.Key)) := by
  unfold caromref25_Keys
  simp only [Let_nr]
  refine (LOOP_i l (fun i s => s.length = i) (fun t _ s => some (s ++ t.map (·.Key))) _ _ (sm_of hl (by omega)) rfl ?_ ?_)
  · intro r i t s hp hw hc hm hr
    have hp2 : (s ++ [(ix l (i : Int)).Key]).length = i + 1 := by simp [hp]
    have hb : (List.length s + [(ix l (i : Int)).Key].length) * 32 ≤ 140737488355328 := by simp [hp]; omega
    simp only [dlt hc, if_true, hw, Chk_of hc, Chk_of hb, Let_nr, hr _ hp2, List.map_cons, List.append_assoc, List.singleton_append]
  · intro r s hp; simp only [dll, ff, if_false, List.map_nil, List.append_nil]
theorem concat_eq (a b : List PairKey) (ha : a.length ≤ 10000) (hb : b.length ≤ 10000) : slices_Concat [a, b] = some (a ++ b) := by
  obtain ⟨n, hn⟩ : ∃ n, fuel = n + 3 := ⟨2 ^ 70 - 3, rfl⟩
  have w1 : IntKind.i64.wrap ((0 : Int) + (a.length : Int)) = (a.length : Int) := by rw [wrap_in _ (by omega) (by omega)]; omega
  have w2 : IntKind.i64.wrap ((a.length : Int) + (b.length : Int)) = (a.length : Int) + (b.length : Int) := wrap_in _ (by omega) (by omega)
  have w3 : IntKind.i64.wrap ((0 : Int) + (1 : Int)) = 1 := rfl
  have w4 : IntKind.i64.wrap ((1 : Int) + (1 : Int)) = 2 := rfl
  have w5 : IntKind.i64.wrap ((0 : Int) - (0 : Int)) = 0 := rfl
  have w6 : IntKind.i64.wrap ((a.length : Int) + (b.length : Int) - 0) = (a.length : Int) + (b.length : Int) := by rw [wrap_in _ (by omega) (by omega)]; omega
  have x0 : ix [a, b] (0 : Int) = a := rfl
  have x1 : ix [a, b] (1 : Int) = b := rfl
  have l2 : (([a, b] : List (List PairKey)).length : Int) = 2 := rfl
  have d0 : decide ((0 : Int) < 2) = true := rfl
  have d1 : decide ((1 : Int) < 2) = true := rfl
  have d2 : decide ((2 : Int) < 2) = false := rfl
  have e1 : decide ((a.length : Int) < 0) = false := decide_eq_false (by omega)
  have e2 : decide ((a.length : Int) + (b.length : Int) < 0) = false := decide_eq_false (by omega)
  have c0 : (0 : Int) ≤ (0 : Int) ∧ (0 : Int) < 2 := by omega
  have c1 : (0 : Int) ≤ (1 : Int) ∧ (1 : Int) < 2 := by omega
  have inner : ∀ v : List PairKey, v = [] → LOOP (fun (rec688 : List PairKey × Int → Option (List PairKey)) (s689 : List PairKey × Int) =>
      if decide (s689.snd < (2 : Int)) = true then Chk ((0 : Int) ≤ s689.snd ∧ s689.snd < (2 : Int))
      (Chk ((List.length s689.fst + (ix [a, b] s689.snd).length) * (32 : Nat) ≤ (140737488355328 : Nat)) (rec688 (s689.fst ++ ix [a, b] s689.snd, IntKind.i64.wrap (s689.snd + (1 : Int))))) else some s689.fst) (n + 3) (v, (0 : Int)) = some (a ++ b) := by
    intro v hv; subst hv
    have b1 : (List.length ([] : List PairKey) + a.length) * 32 ≤ 140737488355328 := by simp; omega
    have b2 : (a.length + b.length) * 32 ≤ 140737488355328 := by omega
    simp only [LOOP_s, d0, d1, d2, if_true, ff, if_false, Chk_of c0, Chk_of c1, x0, x1, w3, w4, Chk_of b1, List.nil_append, Chk_of b2]
  unfold slices_Concat
  rw [hn]
  simp only [Let_nr, Join_nr, l2]
  rw [LOOP_s]
  simp only [d0, if_true, Chk_of c0, x0, w1, e1, ff, if_false, w3]
  rw [LOOP_s]
  simp only [d1, if_true, Chk_of c1, x1, w2, e2, ff, if_false, w4]
  rw [LOOP_s]
  simp only [d2, ff, if_false, e2, w5, w6]
  by_cases hz : (a.length : Int) + (b.length : Int) > 0
  · rw [if_pos (decide_eq_true hz)]
    rw [Chk_true, Chk_of ⟨hz, by omega, by omega⟩, Chk_of (by simp), Chk_of (by simp)]
    exact inner _ (by simp)
  · rw [if_neg (by simpa using hz)]
    exact inner _ rfl
end GoForm


/-
  Plain laws of world: validation agrees with the reference. No conditions.
-/
set_option linter.all false
set_option maxRecDepth 100000
open Go Go.Rx

namespace GoForm
/-- A world that is small enough. -/
structure Few (w : World_) : Prop where
  bodies : w.Bodies.length ≤ 40
  joints : w.Joints.length ≤ 40
  contacts : w.Contacts.length ≤ 80
  overlaps : w.Overlaps.length ≤ 80
  points : ∀ c ∈ w.Contacts, c.Manifold.Points.length ≤ 8
  fixtures : ∀ b ∈ w.Bodies, b.Fixtures.length ≤ 8
  vertices : ∀ b ∈ w.Bodies, ∀ f ∈ b.Fixtures, f.Shape.Vertices.length ≤ 20
theorem Few.sb {w : World_} (h : Few w) : Sm w.Bodies := sm_of h.bodies (by omega)
theorem Few.sj {w : World_} (h : Few w) : Sm w.Joints := sm_of h.joints (by omega)
theorem Few.sc {w : World_} (h : Few w) : Sm w.Contacts := sm_of h.contacts (by omega)
theorem Few.so {w : World_} (h : Few w) : Sm w.Overlaps := sm_of h.overlaps (by omega)
def keysOf (w : World_) : List PairKey := w.Contacts.map (·.Key)
theorem Few.sk {w : World_} (h : Few w) : Sm (keysOf w) := sm_of (n := 80) (by unfold keysOf; rw [List.length_map]; exact h.contacts) (by omega)
def k0 : PairKey := ⟨0, 0, 0, 0⟩
def cOk (w : World_) : Bool := w.Contacts.all (fun c => mOk c.Manifold) && (vks (keysOf w) 0 k0 && vks w.Overlaps 0 k0 && ((keysOf w).all (exk w) && w.Overlaps.all (exk w)))
theorem vks_ok : ∀ (l : List PairKey) (i : Nat) (p : PairKey), vks l i p = true → ∀ k ∈ l, okK k = true
  | [], _, _, _, _, h => by simp at h
  | a :: t, i, p, h, k, hk => by
    unfold vks at h
    split at h
    · exact absurd h (by simp)
    · rename_i hh
      rcases List.mem_cons.1 hk with e | e
      · subst e; simp at hh; exact hh.1
      · exact vks_ok t _ _ h k e
def vcs (fin : List PairKey → Bool) : List Contact → List PairKey → Bool
  | [], s => fin s
  | c :: t, s => if (!mOk c.Manifold) = true then false else vcs fin t (s ++ [c.Key])
theorem vcs_eq (fin : List PairKey → Bool) : ∀ (l : List Contact) (s : List PairKey), vcs fin l s = (l.all (fun c => mOk c.Manifold) && fin (s ++ l.map (·.Key)))
  | [], s => by simp [vcs]
  | c :: t, s => by unfold vcs; rw [vcs_eq fin t]; cases h : mOk c.Manifold <;> simp [h]
theorem world_con_eq (w : World_) (h : Few w) : world_validContacts w = some (cOk w) := by
  have hf : ∀ s : List PairKey, s.length ≤ 80 → (Rx.Bind (broadphase_ValidKeys s) fun (r726 : Bool) =>
      Rx.Bind (if ((!r726) == false) = true then broadphase_ValidKeys w.Overlaps else some default) fun (r728 : Bool) =>
      if (bif !r726 then true else !r728) = true then some false
      else
      Rx.Bind (slices_Concat [s, w.Overlaps]) fun (r731 : List PairKey) =>
      Rx.Bind (slices_ContainsFunc r731 fun a => world_validContacts_1 a w) fun (r732 : Bool) => some !r732) = some (vks s 0 k0 && vks w.Overlaps 0 k0 && (s.all (exk w) && w.Overlaps.all (exk w))) := by
    intro s hs
    simp only [vk_eq s (sm_of hs (by omega)), vk_eq _ h.so, Bind_snr, Bind_if, cond_or, ga3]
    show (if (!vks s 0 k0 || !vks w.Overlaps 0 k0) = true then some false else _) = _
    cases h1 : vks s 0 k0
    · rfl
    · cases h2 : vks w.Overlaps 0 k0
      · rfl
      · simp only [Bool.not_true, Bool.or_false, ff, if_false, Bool.true_and]
        rw [concat_eq s w.Overlaps (by omega) (by have := h.overlaps; omega), Bind_snr]
        rw [ctf_key (s ++ w.Overlaps) _ (fun k => !exk w k) (sm_of (n := 200) (by have := h.overlaps; simp; omega) (by omega))]
        · rw [Bind_snr, List.any_append, List.any_eq_not_all_not, List.any_eq_not_all_not]
          simp only [Bool.not_not, Bool.not_or]
        · intro k hk
          have : okK k = true := by
            rcases List.mem_append.1 hk with e | e
            · exact vks_ok _ _ _ h1 k e
            · exact vks_ok _ _ _ h2 k e
          unfold world_validContacts_1
          rw [world_fix_eq w k h.sb this, Bind_snr, Let_nr]
  unfold world_validContacts
  simp only [Let_nr]
  have hc0 : cOk w = vcs (fun s => vks s 0 k0 && vks w.Overlaps 0 k0 && (s.all (exk w) && w.Overlaps.all (exk w))) w.Contacts [] := by rw [vcs_eq]; rfl
  rw [hc0]
  refine (LOOP_i w.Contacts (fun i s => s.length = i) (fun t _ s => some (vcs (fun s => vks s 0 k0 && vks w.Overlaps 0 k0 && (s.all (exk w) && w.Overlaps.all (exk w))) t s)) _ _ h.sc rfl ?_ ?_)
  · intro r i t s hp hw hc hm hr
    have hl := h.contacts
    have hp2 : (s ++ [(ix w.Contacts (i : Int)).Key]).length = i + 1 := by simp [hp]
    have hb : (List.length s + [(ix w.Contacts (i : Int)).Key].length) * 32 ≤ 140737488355328 := by simp [hp]; omega
    simp only [dlt hc, if_true, hw, Chk_of hc, Chk_of hb, world_man_eq _ (sm_of (h.points _ hm) (by omega)), Bind_snr, Let_nr, hr _ hp2, vcs]
    split <;> rfl
  · intro r s hp
    have hl := h.contacts
    simp only [dll, ff, if_false]
    exact hf s (by omega)
def allM : List Contact → Bool
  | [] => true
  | c :: t => if (!mOk c.Manifold) = true then false else allM t
theorem allM_eq : ∀ l : List Contact, allM l = l.all (fun c => mOk c.Manifold)
  | [] => rfl
  | c :: t => by unfold allM; rw [allM_eq t]; cases h : mOk c.Manifold <;> simp [h]
theorem ref25_cts_eq (w : World_) (h : Few w) : caromref25_validContacts w = some (cOk w) := by
  unfold caromref25_validContacts cOk
  have hk : caromref25_Keys w.Contacts = some (keysOf w) := ref25_Keys_eq _ (by have := h.contacts; omega)
  have hL : LOOP (fun (rec1339 : Int → Option Bool) (s1340 : Int) =>
      if decide (s1340 < (w.Contacts.length : Int)) = true then Chk ((0 : Int) ≤ s1340 ∧ s1340 < (w.Contacts.length : Int))
      (Rx.Bind (caromref25_validPoints (ix w.Contacts s1340).Manifold) fun (r1344 : Bool) =>
      if (!r1344) = true then some false else rec1339 (IntKind.i64.wrap (s1340 + (1 : Int)))) else some true) fuel (0 : Int) = some (w.Contacts.all (fun c => mOk c.Manifold)) := by
    rw [← allM_eq]
    refine LOOP_l0 w.Contacts (fun t _ => some (allM t)) _ h.sc ?_ ?_
    · intro r i t hw hc hm hr
      simp only [dlt hc, if_true, hw, Chk_of hc, ref25_man_eq _ (sm_of (h.points _ hm) (by omega)), Bind_snr, hr, allM]
      split <;> rfl
    · intro r; simp only [dll, ff, if_false, allM]
  simp only [Let_nr, hk, ref22_vk_eq _ h.sk, ref22_vk_eq _ h.so, ref25_res_eq w _ h.sb h.sk, ref25_res_eq w _ h.sb h.so, Bind_snr, Bind_if, cond_or, ga3, hL]
  show (if (((!vks (keysOf w) 0 k0 || !vks w.Overlaps 0 k0) || !(keysOf w).all (exk w)) || !w.Overlaps.all (exk w)) = true then some false else _) = _
  generalize vks (keysOf w) 0 k0 = b1
  generalize vks w.Overlaps 0 k0 = b2
  generalize (keysOf w).all (exk w) = b3
  generalize w.Overlaps.all (exk w) = b4
  cases b1 <;> cases b2 <;> cases b3 <;> cases b4 <;> simp
def wv (w : World_) : Int := if (vset w.Settings != 0) = true then 17 else if (decide (32 < (w.Bodies.length : Int)) || decide (32 < (w.Joints.length : Int)) || decide (8192 < (w.Contacts.length : Int)) || decide (8192 < (w.Overlaps.length : Int))) = true then 11 else if (!inb w.NextID 1 1099511627776 || !inb w.Frame 0 1099511627776) = true then 6 else if (!vbs w.NextID w.Bodies 0 0) = true then 14 else if (!vjs w w.Joints 0 0) = true then 15 else if (!cOk w) = true then 16 else 0
theorem world_Val_eq (w : World_) (h : Few w) : world_Validate w = some (wv w) := by
  unfold world_Validate wv
  simp only [Let_nr, world_set_eq, world_in_eq, world_bodies_eq w h.sb, world_joints_eq w h.sj h.sb, world_con_eq w h, Bind_snr, Bind_if, cond_or, ga3, gt_iff_lt]
  repeat' split
  all_goals rfl
theorem ref25_Val_eq (w : World_) (h : Few w) : caromref25_Validate w = some (wv w) := by
  unfold caromref25_Validate wv
  simp only [Let_nr, ref25_set_eq, ref25_in_eq, ref25_bodies_eq w h.sb, ref25_joints_eq w h.sj h.sb, ref25_cts_eq w h, Bind_snr, Bind_if, cond_or, ga3, gt_iff_lt]
  repeat' split
  all_goals rfl
end GoForm


/-
  Plain laws of world: a clone equals what it was made of. No conditions.
-/
set_option linter.all false
set_option maxRecDepth 100000
open Go Go.Rx

namespace GoForm
theorem cloneB (l : List Body) (h : l.length ≤ 100000) : slices_Clone l = some l := by
  unfold slices_Clone; rw [Alike_of (by intro h; subst h; rfl), Chk_of (by omega)]
theorem cloneV (l : List Vec) (h : l.length ≤ 100000) : slices_Clone_128 l = some l := by
  unfold slices_Clone_128; rw [Alike_of (by intro h; subst h; rfl), Chk_of (by omega)]
theorem cloneJ (l : List Joint) (h : l.length ≤ 100000) : slices_Clone_78 l = some l := by
  unfold slices_Clone_78; rw [Alike_of (by intro h; subst h; rfl), Chk_of (by omega)]
theorem cloneC (l : List Contact) (h : l.length ≤ 100000) : slices_Clone_79 l = some l := by
  unfold slices_Clone_79; rw [Alike_of (by intro h; subst h; rfl), Chk_of (by omega)]
theorem cloneK (l : List PairKey) (h : l.length ≤ 100000) : slices_Clone_80 l = some l := by
  unfold slices_Clone_80; rw [Alike_of (by intro h; subst h; rfl), Chk_of (by omega)]
theorem cloneP (l : List ContactPoint) (h : l.length ≤ 100000) : slices_Clone_115 l = some l := by
  unfold slices_Clone_115; rw [Alike_of (by intro h; subst h; rfl), Chk_of (by omega)]
/-- A body that is small enough. -/
def SmB (b : Body) : Prop := b.Fixtures.length ≤ 10000 ∧ ∀ f ∈ b.Fixtures, f.Shape.Vertices.length ≤ 10000
theorem Few.smb {w : World_} (h : Few w) : ∀ b ∈ w.Bodies, SmB b := fun b hb => ⟨Nat.le_trans (h.fixtures b hb) (by omega), fun f hf => Nat.le_trans (h.vertices b hb f hf) (by omega)⟩
theorem body_Clone_eq (b : Body) (h : SmB b) : body_Clone b = some b := by
  unfold body_Clone
  simp only [Let_nr]
  refine (LOOP_i b.Fixtures (fun i s => s.length = i) (fun t _ s => some { b with Fixtures := s ++ t }) _ [] (sm_of h.1 (by omega)) rfl ?_ ?_)
  · intro r i t s hp hw hc hm hr
    have hl := h.1
    have hp2 : ∀ f : Fixture, (s ++ [f]).length = i + 1 := by intro f; simp [hp]
    have hb : ∀ f : Fixture, (List.length s + [f].length) * 96 ≤ 140737488355328 := by intro f; simp [hp]; omega
    have hsh : shape_Clone (ix b.Fixtures (i : Int)).Shape = some (ix b.Fixtures (i : Int)).Shape := by
      unfold shape_Clone; rw [cloneV _ (Nat.le_trans (h.2 _ hm) (by omega))]; rfl
    simp only [dlt hc, if_true, hw, Chk_of hc, hsh, Bind_snr, Chk_of (hb _), hr _ (hp2 _), List.append_assoc, List.singleton_append]
  · intro r s hp; simp only [dll, ff, if_false, List.append_nil]
theorem ref23_Clone_eq (b : Body) (h : SmB b) : caromref23_Clone b = some b := by
  unfold caromref23_Clone
  simp only [Let_nr]
  refine (LOOP_i b.Fixtures (fun i s => s.length = i) (fun t _ s => some { b with Fixtures := s ++ t }) _ [] (sm_of h.1 (by omega)) rfl ?_ ?_)
  · intro r i t s hp hw hc hm hr
    have hl := h.1
    have hp2 : ∀ f : Fixture, (s ++ [f]).length = i + 1 := by intro f; simp [hp]
    have hb : ∀ f : Fixture, (List.length s + [f].length) * 96 ≤ 140737488355328 := by intro f; simp [hp]; omega
    have hsh : caromref12_Clone (ix b.Fixtures (i : Int)).Shape = some (ix b.Fixtures (i : Int)).Shape := by
      unfold caromref12_Clone; rw [Chk_of (by have := h.2 _ hm; omega)]
    simp only [dlt hc, if_true, hw, Chk_of hc, hsh, Bind_snr, Chk_of (hb _), hr _ (hp2 _), List.append_assoc, List.singleton_append]
  · intro r s hp; simp only [dll, ff, if_false, List.append_nil]
theorem man_Clone_eq (m : Manifold) (h : m.Points.length ≤ 100000) : manifold_Clone m = some m := by
  unfold manifold_Clone; rw [cloneP _ h]; rfl
theorem ref16_Clone_eq (m : Manifold) (h : m.Points.length ≤ 100000) : caromref16_Clone m = some m := by
  unfold caromref16_Clone; rw [Chk_of (by omega)]
/-- A world that is small enough to be cloned. -/
structure SmW (w : World_) : Prop where
  bodies : w.Bodies.length ≤ 10000
  joints : w.Joints.length ≤ 10000
  contacts : w.Contacts.length ≤ 10000
  overlaps : w.Overlaps.length ≤ 10000
  points : ∀ c ∈ w.Contacts, c.Manifold.Points.length ≤ 10000
  body : ∀ b ∈ w.Bodies, SmB b
theorem Few.smw {w : World_} (h : Few w) : SmW w := ⟨Nat.le_trans h.bodies (by omega), Nat.le_trans h.joints (by omega), Nat.le_trans h.contacts (by omega), Nat.le_trans h.overlaps (by omega), fun c hc => Nat.le_trans (h.points c hc) (by omega), h.smb⟩
theorem world_Clone_eq (w : World_) (h : SmW w) : world_Clone w = some w := by
  unfold world_Clone
  simp only [cloneB _ (Nat.le_trans h.bodies (by omega)), cloneJ _ (Nat.le_trans h.joints (by omega)), cloneC _ (Nat.le_trans h.contacts (by omega)), cloneK _ (Nat.le_trans h.overlaps (by omega)), Bind_snr, Let_nr]
  refine (LOOP_j w.Bodies (fun _ s => s = w.Bodies) (fun _ _ _ => some w) _ _ (sm_of h.bodies (by omega)) rfl ?_ ?_)
  · intro r i t s hp hw hc hm hr
    subst hp
    have e : List.set w.Bodies (Int.toNat (i : Int)) (ix w.Bodies (i : Int)) = w.Bodies := set_ix _ _
    simp only [dlt hc, if_true, hw, Chk_of hc, body_Clone_eq _ (h.body _ hm), Bind_snr, e, hr _ rfl]
  · intro r s hp
    subst hp
    simp only [dll, ff, if_false]
    refine (LOOP_j w.Contacts (fun _ s => s = w.Contacts) (fun _ _ _ => some w) _ _ (sm_of h.contacts (by omega)) rfl ?_ ?_)
    · intro r i t s hp hw hc hm hr
      subst hp
      have e : List.set w.Contacts (Int.toNat (i : Int)) { Key := (ix w.Contacts (i : Int)).Key, Manifold := (ix w.Contacts (i : Int)).Manifold : Contact } = w.Contacts := set_ix _ _
      simp only [dlt hc, if_true, hw, Chk_of hc, man_Clone_eq _ (Nat.le_trans (h.points _ hm) (by omega)), Bind_snr, e, hr _ rfl]
    · intro r s hp; subst hp; simp only [dll, ff, if_false]
theorem ref25_Clone_eq (w : World_) (h : SmW w) : caromref25_Clone w = some w := by
  unfold caromref25_Clone
  simp only [Let_nr]
  refine (LOOP_j w.Bodies (fun i s => s = { w with Bodies := w.Bodies.take i, Contacts := [] }) (fun _ _ _ => some w) _ _ (sm_of h.bodies (by omega)) (by simp) ?_ ?_)
  · intro r i t s hp hw hc hm hr
    subst hp
    have hl := h.bodies
    have hi : i < w.Bodies.length := by omega
    have hb : ((w.Bodies.take i).length + [ix w.Bodies (i : Int)].length) * 152 ≤ 140737488355328 := by simp; omega
    have ht : w.Bodies.take i ++ [ix w.Bodies (i : Int)] = w.Bodies.take (i + 1) := by rw [ix_lt _ _ hi, List.take_append_getElem]
    simp only [dlt hc, if_true, hw, Chk_of hc, ref23_Clone_eq _ (h.body _ hm), Bind_snr, Chk_of hb, ht]
    exact hr _ rfl
  · intro r s hp
    subst hp
    have hj := h.joints
    simp only [dll, ff, if_false, List.take_length]
    rw [Chk_of (by omega)]
    refine (LOOP_j w.Contacts (fun i s => s = { w with Contacts := w.Contacts.take i }) (fun _ _ _ => some w) _ _ (sm_of h.contacts (by omega)) (by simp) ?_ ?_)
    · intro r i t s hp hw hc hm hr
      subst hp
      have hl := h.contacts
      have hi : i < w.Contacts.length := by omega
      have hb : ((w.Contacts.take i).length + [({ Key := (ix w.Contacts (i : Int)).Key, Manifold := (ix w.Contacts (i : Int)).Manifold } : Contact)].length) * 72 ≤ 140737488355328 := by simp; omega
      have ht : w.Contacts.take i ++ [({ Key := (ix w.Contacts (i : Int)).Key, Manifold := (ix w.Contacts (i : Int)).Manifold } : Contact)] = w.Contacts.take (i + 1) := by
        show w.Contacts.take i ++ [ix w.Contacts (i : Int)] = _
        rw [ix_lt _ _ hi, List.take_append_getElem]
      simp only [dlt hc, if_true, hw, Chk_of hc, ref16_Clone_eq _ (Nat.le_trans (h.points _ hm) (by omega)), Bind_snr, Chk_of hb, ht]
      exact hr _ rfl
    · intro r s hp
      subst hp
      have ho := h.overlaps
      simp only [dll, ff, if_false, List.take_length]
      rw [Chk_of (by omega)]
def zeroW : World_ := { Settings := { TimeStep := 0, Gravity := { X := 0, Y := 0 }, Iterations := 0, SleepSteps := 0 }, Bodies := [], Joints := [], Contacts := [], Overlaps := [], NextID := 0, Frame := 0 }
def addW (w : World_) (b : Body) : World_ × Int × Int :=
  if (decide (32 ≤ (w.Bodies.length : Int)) || decide (1099511627776 ≤ w.NextID)) = true then (zeroW, 0, 9)
  else if (GoOld.validB { b with ID := w.NextID } != 0) = true then (zeroW, 0, 14)
  else ({ w with Bodies := w.Bodies ++ [{ b with ID := w.NextID }], NextID := IntKind.i64.wrap (w.NextID + 1) }, w.NextID, 0)
theorem world_Add_eq (w : World_) (b : Body) (h : SmW w) (hb : SmB b) : world_AddBody w b = some (addW w b) := by
  have hl := h.bodies
  have hc : ∀ x : Body, (w.Bodies.length + [x].length) * 152 ≤ 140737488355328 := by intro x; simp; omega
  unfold world_AddBody addW
  simp only [Let_nr, body_Clone_eq b hb, bodyV, bodyV', world_Clone_eq w h, Bind_snr, cond_or, ge_iff_le, Chk_of (hc _)]
  split
  · rfl
  · split <;> rfl
theorem ref25_Add_eq (w : World_) (b : Body) (h : SmW w) (hb : SmB b) : caromref25_AddBody w b = some (addW w b) := by
  have hl := h.bodies
  have hc : ∀ x : Body, (w.Bodies.length + [x].length) * 152 ≤ 140737488355328 := by intro x; simp; omega
  have hb2 : SmB { b with ID := w.NextID } := hb
  unfold caromref25_AddBody addW
  simp only [Let_nr, ref23_Clone_eq _ hb2, bodyV', ref25_Clone_eq w h, Bind_snr, cond_or, ge_iff_le, Chk_of (hc _)]
  split
  · rfl
  · split <;> rfl
end GoForm


/-
  WorldValidation in plain Lean: the law holds of every world. No conditions.
-/
set_option linter.all false
set_option maxRecDepth 100000
open Go Go.Rx

namespace GoForm
def fewB (b : Body) : Bool := decide ((b.Fixtures.length : Int) ≤ 8) && b.Fixtures.all (fun f => decide ((f.Shape.Vertices.length : Int) ≤ 20))
def allF {X : Type} (fin bad : X) : List Fixture → X
  | [] => fin
  | f :: t => if decide ((f.Shape.Vertices.length : Int) > 20) = true then bad else allF fin bad t
theorem allF_eq {X : Type} (fin bad : X) : ∀ l : List Fixture, allF fin bad l = if l.all (fun f => decide ((f.Shape.Vertices.length : Int) ≤ 20)) = true then fin else bad
  | [] => rfl
  | f :: t => by
    unfold allF; rw [allF_eq fin bad t]
    by_cases h : (f.Shape.Vertices.length : Int) > 20
    · have : decide ((f.Shape.Vertices.length : Int) ≤ 20) = false := decide_eq_false (by omega)
      simp only [h, decide_true, if_true, List.all_cons, this, Bool.false_and, ff, if_false]
    · have : decide ((f.Shape.Vertices.length : Int) ≤ 20) = true := decide_eq_true (by omega)
      simp only [decide_eq_false h, ff, if_false, List.all_cons, this, Bool.true_and]
def allB : List Body → Bool
  | [] => true
  | b :: t => if decide ((b.Fixtures.length : Int) > 8) = true then false else if b.Fixtures.all (fun f => decide ((f.Shape.Vertices.length : Int) ≤ 20)) = true then allB t else false
theorem allB_eq : ∀ l : List Body, allB l = l.all fewB
  | [] => rfl
  | b :: t => by
    unfold allB fewB; rw [allB_eq t]
    by_cases h : (b.Fixtures.length : Int) > 8
    · have : decide ((b.Fixtures.length : Int) ≤ 8) = false := decide_eq_false (by omega)
      simp only [h, decide_true, if_true, List.all_cons, this, Bool.false_and]
    · have : decide ((b.Fixtures.length : Int) ≤ 8) = true := decide_eq_true (by omega)
      simp only [decide_eq_false h, ff, if_false, List.all_cons, this, Bool.true_and]
      cases b.Fixtures.all (fun f => decide ((f.Shape.Vertices.length : Int) ≤ 20)) <;> rfl
theorem ref22_Few_eq (l : List Body) (n : Nat) (hn : n ≤ 10000) : caromref22_Few l (n : Int) = some (decide ((l.length : Int) ≤ (n : Int)) && l.all fewB) := by
  unfold caromref22_Few
  simp only [Let_nr]
  by_cases h : (l.length : Int) > (n : Int)
  · have : decide ((l.length : Int) ≤ (n : Int)) = false := decide_eq_false (by omega)
    simp only [h, decide_true, if_true, this, Bool.false_and]
  · have hh : decide ((l.length : Int) ≤ (n : Int)) = true := decide_eq_true (by omega)
    simp only [decide_eq_false h, ff, if_false, hh, Bool.true_and]
    rw [← allB_eq]
    refine LOOP_l0 l (fun t _ => some (allB t)) _ (sm_of (n := 10000) (by omega) (by omega)) ?_ ?_
    · intro r i t hw hc hm hr
      simp only [dlt hc, if_true, Chk_of hc, allB]
      by_cases h8 : ((ix l (i : Int)).Fixtures.length : Int) > 8
      · simp only [h8, decide_true, if_true]
      · simp only [decide_eq_false h8, ff, if_false]
        refine (LOOP_l0 (ix l (i : Int)).Fixtures (fun t _ => allF (r ((i : Int) + 1)) (some false) t) _ (sm_of (n := 8) (by omega) (by omega)) ?_ ?_).trans ?_
        · intro r2 j u hw2 hc2 hm2 hr2
          simp only [dlt hc2, if_true, Chk_of hc2, hw2, hr2, allF]
        · intro r2; simp only [dll, ff, if_false, hw, allF]
        · rw [allF_eq, hr]; split <;> rfl
    · intro r; simp only [dll, ff, if_false, allB]
def few (w : World_) : Bool := decide ((w.Joints.length : Int) ≤ 40) && decide ((w.Contacts.length : Int) ≤ 80) && decide ((w.Overlaps.length : Int) ≤ 80) && (decide ((w.Bodies.length : Int) ≤ 40) && w.Bodies.all fewB) && w.Contacts.all (fun c => decide ((c.Manifold.Points.length : Int) ≤ 8))
def allC : List Contact → Bool
  | [] => true
  | c :: t => if decide ((c.Manifold.Points.length : Int) > 8) = true then false else allC t
theorem allC_eq : ∀ l : List Contact, allC l = l.all (fun c => decide ((c.Manifold.Points.length : Int) ≤ 8))
  | [] => rfl
  | c :: t => by
    unfold allC; rw [allC_eq t]
    by_cases h : (c.Manifold.Points.length : Int) > 8
    · have : decide ((c.Manifold.Points.length : Int) ≤ 8) = false := decide_eq_false (by omega)
      simp only [h, decide_true, if_true, List.all_cons, this, Bool.false_and]
    · have : decide ((c.Manifold.Points.length : Int) ≤ 8) = true := decide_eq_true (by omega)
      simp only [decide_eq_false h, ff, if_false, List.all_cons, this, Bool.true_and]
theorem ref25_Few_eq (w : World_) : caromref25_Few w = some (few w) := by
  have hB := ref22_Few_eq w.Bodies 40 (by omega)
  have e1 : decide ((w.Joints.length : Int) > 40) = !decide ((w.Joints.length : Int) ≤ 40) := by rw [Bool.eq_iff_iff]; simp
  have e2 : decide ((w.Contacts.length : Int) > 80) = !decide ((w.Contacts.length : Int) ≤ 80) := by rw [Bool.eq_iff_iff]; simp
  have e3 : decide ((w.Overlaps.length : Int) > 80) = !decide ((w.Overlaps.length : Int) ≤ 80) := by rw [Bool.eq_iff_iff]; simp
  have hB' : caromref22_Few w.Bodies (40 : Int) = some (decide ((w.Bodies.length : Int) ≤ 40) && w.Bodies.all fewB) := hB
  unfold caromref25_Few few
  simp only [Let_nr, hB', Bind_snr, Bind_if, cond_or, ga3, e1, e2, e3]
  by_cases hc : (w.Contacts.length : Int) ≤ 80
  · have hL : LOOP (fun (rec32 : Int → Option Bool) (s33 : Int) =>
        if decide (s33 < (w.Contacts.length : Int)) = true then Chk ((0 : Int) ≤ s33 ∧ s33 < (w.Contacts.length : Int))
        (if decide (((ix w.Contacts s33).Manifold.Points.length : Int) > 8) = true then some false else rec32 (IntKind.i64.wrap (s33 + (1 : Int)))) else some true) fuel (0 : Int) = some (w.Contacts.all (fun c => decide ((c.Manifold.Points.length : Int) ≤ 8))) := by
      rw [← allC_eq]
      refine LOOP_l0 w.Contacts (fun t _ => some (allC t)) _ (sm_of (n := 80) (by omega) (by omega)) ?_ ?_
      · intro r i t hw hc hm hr
        simp only [dlt hc, if_true, Chk_of hc, hw, hr, allC]
        split <;> rfl
      · intro r; simp only [dll, ff, if_false, allC]
    rw [hL]
    generalize decide ((w.Joints.length : Int) ≤ 40) = b1
    generalize decide ((w.Contacts.length : Int) ≤ 80) = b2
    generalize decide ((w.Overlaps.length : Int) ≤ 80) = b3
    generalize decide ((w.Bodies.length : Int) ≤ 40) = b4
    generalize w.Bodies.all fewB = b5
    cases b1 <;> cases b2 <;> cases b3 <;> cases b4 <;> cases b5 <;> rfl
  · have e : decide ((w.Contacts.length : Int) ≤ 80) = false := decide_eq_false hc
    simp only [e, Bool.not_false, Bool.or_true, Bool.true_or, if_true, Bool.and_false, Bool.false_and]
theorem few_Few {w : World_} (h : few w = true) : Few w := by
  unfold few fewB at h
  simp only [Bool.and_eq_true, decide_eq_true_eq, List.all_eq_true] at h
  obtain ⟨⟨⟨⟨h1, h2⟩, h3⟩, h4, h5⟩, h6⟩ := h
  exact ⟨by omega, by omega, by omega, by omega, fun c hc => by have := h6 c hc; omega, fun b hb => by have := (h5 b hb).1; omega, fun b hb f hf => by have := (h5 b hb).2 f hf; omega⟩
def nilW (s : Settings) (n : Int) : World_ := { Settings := s, Bodies := [], Joints := [], Contacts := [], Overlaps := [], NextID := n, Frame := 0 }
def newW (s : Settings) : World_ × Int := if (vset s != 0) = true then (nilW ⟨0, ⟨0, 0⟩, 0, 0⟩ 0, vset s) else (nilW s 1, 0)
theorem world_New_eq (s : Settings) : world_New s = some (newW s) := by
  unfold world_New newW nilW
  simp only [world_set_eq, Bind_snr, Let_nr]
  split <;> rfl
theorem ref25_New_eq (s : Settings) : caromref25_New s = some (newW s) := by
  unfold caromref25_New newW nilW
  simp only [ref25_set_eq, Bind_snr, Let_nr]
  split <;> rfl
theorem Equal_nil (s : Settings) (n : Int) : caromref25_Equal (nilW s n) (nilW s n) = some true := by
  obtain ⟨k, hk⟩ : ∃ k, fuel = k + 1 := ⟨2 ^ 70 - 1, rfl⟩
  have d0 : decide ((0 : Int) < ((([] : List Body).length : Nat) : Int)) = false := rfl
  have d1 : decide ((0 : Int) < ((([] : List Joint).length : Nat) : Int)) = false := rfl
  have d2 : decide ((0 : Int) < ((([] : List Contact).length : Nat) : Int)) = false := rfl
  have d3 : decide ((0 : Int) < ((([] : List PairKey).length : Nat) : Int)) = false := rfl
  unfold caromref25_Equal caromref22_Keys nilW
  rw [hk]
  simp only [Let_nr, LOOP_s, d0, d1, d2, d3, ff, if_false, decide_true, Bool.and_self, Bool.not_true, bne_self_eq_false, cond_or, Bool.or_self, Bind_snr, beq_self_eq_true, if_true]
theorem Equal_new (s : Settings) : caromref25_Equal (newW s).1 (newW s).1 = some true := by
  unfold newW; split <;> exact Equal_nil _ _
theorem nilW_few (s : Settings) (n : Int) : Few (nilW s n) := ⟨by unfold nilW; simp, by unfold nilW; simp, by unfold nilW; simp, by unfold nilW; simp, by unfold nilW; simp, by unfold nilW; simp, by unfold nilW; simp⟩
theorem wrap1 : IntKind.i64.wrap ((1 : Int) + 1) = 2 := rfl
def b9 : Body := { ID := 1, Kind := 1, Transform := ⟨⟨0, 0⟩, 0⟩, Velocity := ⟨0, 0⟩, AngularVelocity := 0, Force := ⟨0, 0⟩, Torque := 0, LinearDamping := 0, AngularDamping := 0, GravityScale := 0, Bullet := false, FixedRotation := false, NoSleep := false, Asleep := false, IdleSteps := 0, Fixtures := [] }
def w9 : World_ := { Settings := ⟨1024, ⟨0, 0⟩, 4, 60⟩, Bodies := [b9], Joints := [], Contacts := [], Overlaps := [], NextID := 2, Frame := 0 }
theorem add9 : world_AddBody (nilW ⟨1024, ⟨0, 0⟩, 4, 60⟩ 1) { b9 with ID := 9 } = some (w9, 1, 0) := by
  rw [world_Add_eq _ _ (nilW_few _ _).smw ⟨by unfold b9; simp, by unfold b9; simp⟩]
  exact congrArg some (by decide +kernel)
theorem val9 : world_Validate w9 = some 0 := by
  have : Few w9 := ⟨by unfold w9; simp, by unfold w9; simp, by unfold w9; simp, by unfold w9; simp, by unfold w9; simp, by intro b hb; simp [w9] at hb; subst hb; simp [b9], by intro b hb; simp [w9] at hb; subst hb; simp [b9]⟩
  rw [world_Val_eq _ this]; exact congrArg some (by decide +kernel)
theorem rem9 : world_RemoveBody w9 9 = some (nilW ⟨0, ⟨0, 0⟩, 0, 0⟩ 0, 8) := by
  unfold world_RemoveBody
  have : world_FindBody w9 9 = some (-1) := by rw [world_Find_eq _ _ (sm_of (n := 1) (by unfold w9; simp) (by omega))]; rfl
  rw [this, Bind_snr]
  rfl
theorem example25 : caromlaw25_example = some true := by
  have hn : world_New ⟨1024, ⟨0, 0⟩, 4, 60⟩ = some (nilW ⟨1024, ⟨0, 0⟩, 4, 60⟩ 1, 0) := by rw [world_New_eq]; rfl
  have hz : world_Validate (nilW ⟨0, ⟨0, 0⟩, 0, 0⟩ 0) = some 17 := by rw [world_Val_eq _ (nilW_few _ _)]; rfl
  have hf : world_FindBody w9 1 = some 0 := by rw [world_Find_eq _ _ (sm_of (n := 1) (by unfold w9; simp) (by omega))]; rfl
  unfold caromlaw25_example caromlaw25_settings
  rw [Bind_snr, hn, Bind_snr]
  refine (Bind_of add9).trans ?_
  refine (Bind_of rem9).trans ?_
  simp only [Let_nr, val9, hf]
  refine (Bind_of (x := (0 : Int)) rfl).trans ?_
  refine (Bind_of (x := (0 : Int)) rfl).trans ?_
  refine (Bind_of (x := (17 : Int)) hz).trans ?_
  rfl
theorem caromlaw25_WorldValidation_any (w : World_) : caromlaw25_WorldValidation w = some true := by
  unfold caromlaw25_WorldValidation
  simp only [ref25_Few_eq, Bind_snr, Let_nr, example25]
  cases h : few w
  · rfl
  · have hF := few_Few h
    simp only [Bool.not_true, ff, if_false, world_New_eq, ref25_New_eq, world_Val_eq w hF, ref25_Val_eq w hF, world_set_eq, ref25_set_eq, Bind_snr, beq_self_eq_true, if_true, Equal_new, Bool.cond_true]
end GoForm


/-
  Plain laws of world: equality; WorldAddBody. No conditions.
-/
set_option linter.all false
set_option maxRecDepth 100000
open Go Go.Rx

namespace GoForm
theorem veq (a b : Vec) : (decide (a.X = b.X) && decide (a.Y = b.Y)) = decide (a = b) := by
  rw [Bool.eq_iff_iff]; cases a; cases b; simp
theorem jeq (x y : Joint) : (decide (x.ID = y.ID) && (decide (x.Kind = y.Kind) && (decide (x.BodyA = y.BodyA) && (decide (x.BodyB = y.BodyB) && (decide (x.AnchorA = y.AnchorA) && (decide (x.AnchorB = y.AnchorB) && (decide (x.Axis = y.Axis) && (decide (x.ReferenceAngle = y.ReferenceAngle) && (decide (x.EnableLimit = y.EnableLimit) && (decide (x.Lower = y.Lower) && (decide (x.Upper = y.Upper) && (decide (x.EnableMotor = y.EnableMotor) && (decide (x.MotorSpeed = y.MotorSpeed) && (decide (x.MaxForce = y.MaxForce) && (decide (x.Softness = y.Softness) && (decide (x.BreakForce = y.BreakForce) && (decide (x.CollideConnected = y.CollideConnected) && (decide (x.Impulses.fst = y.Impulses.fst) && (decide (x.Impulses.snd.fst = y.Impulses.snd.fst) && (decide (x.Impulses.snd.snd.fst = y.Impulses.snd.snd.fst) && decide (x.Impulses.snd.snd.snd = y.Impulses.snd.snd.snd))))))))))))))))))))) = decide (x = y) := by
  obtain ⟨x1, x2, x3, x4, ⟨x5, x6⟩, ⟨x7, x8⟩, ⟨x9, x10⟩, x11, x12, x13, x14, x15, x16, x17, x18, x19, x20, ⟨x21, x22, x23, x24⟩⟩ := x
  obtain ⟨y1, y2, y3, y4, ⟨y5, y6⟩, ⟨y7, y8⟩, ⟨y9, y10⟩, y11, y12, y13, y14, y15, y16, y17, y18, y19, y20, ⟨y21, y22, y23, y24⟩⟩ := y
  rw [Bool.eq_iff_iff]; simp [and_assoc]
theorem peq (x y : ContactPoint) : (decide (x.Point = y.Point) && (decide (x.Separation = y.Separation) && (decide (x.ID = y.ID) && (decide (x.NormalImpulse = y.NormalImpulse) && decide (x.TangentImpulse = y.TangentImpulse))))) = decide (x = y) := by
  obtain ⟨⟨x5, x6⟩, x1, x2, x3, x4⟩ := x
  obtain ⟨⟨y5, y6⟩, y1, y2, y3, y4⟩ := y
  rw [Bool.eq_iff_iff]; simp [and_assoc]
theorem steq (x y : Settings) : (decide (x.TimeStep = y.TimeStep) && (decide (x.Gravity = y.Gravity) && (decide (x.Iterations = y.Iterations) && decide (x.SleepSteps = y.SleepSteps)))) = decide (x = y) := by
  obtain ⟨x1, ⟨x5, x6⟩, x2, x3⟩ := x
  obtain ⟨y1, ⟨y5, y6⟩, y2, y3⟩ := y
  rw [Bool.eq_iff_iff]; simp [and_assoc]
theorem len_bne {α : Type} (l m : List α) : ((l.length : Int) != (m.length : Int)) = !decide (l.length = m.length) := by rw [Bool.eq_iff_iff]; simp; omega
theorem if_not_dec {α : Type} {p : Prop} [Decidable p] (a b : α) : (if (!decide p) = true then a else b) = if p then b else a := by by_cases h : p <;> simp [h]
theorem ref16_Equal_eq (a b : Manifold) (h : a.Points.length ≤ 10000) : caromref16_Equal a b = some (decide (a = b)) := by
  obtain ⟨an, ap⟩ := a
  obtain ⟨bn, bp⟩ := b
  unfold caromref16_Equal
  simp only [Let_nr, veq, peq, len_bne, cond_or]
  by_cases hl : ap.length = bp.length
  · rw [show LOOP _ fuel (0 : Int) = _ from LOOP_eq2 ap bp (some true) (some false) _ (sm_of h (by omega)) hl ?_ ?_]
    · by_cases h1 : an = bn
      · by_cases h2 : ap = bp <;> simp [h1, h2, hl]
      · simp [h1]
    · intro r i hw hc hc2 hm
      simp only [dlt hc, if_true, hw, Chk_of hc, Chk_of hc2, if_not_dec]
    · intro r; simp only [dll, ff, if_false]
  · have : ¬ ap = bp := fun e => hl (by rw [e])
    simp [hl, this]
theorem ref22_Keys_eq (a b : List PairKey) (h : a.length ≤ 10000) : caromref22_Keys a b = some (decide (a = b)) := by
  unfold caromref22_Keys
  simp only [Let_nr, keq, len_bne]
  by_cases hl : a.length = b.length
  · rw [show LOOP _ fuel (0 : Int) = _ from LOOP_eq2 a b (some true) (some false) _ (sm_of h (by omega)) hl ?_ ?_]
    · by_cases h2 : a = b <;> simp [h2, hl]
    · intro r i hw hc hc2 hm
      simp only [dlt hc, if_true, hw, Chk_of hc, Chk_of hc2, if_not_dec]
    · intro r; simp only [dll, ff, if_false]
  · have : ¬ a = b := fun e => hl (by rw [e])
    simp [hl, this]
theorem fixok {b : Body} (h : SmB b) : GoOld.FixOk b := ⟨Nat.le_trans h.1 (by omega), fun f hf => Nat.le_trans (h.2 f hf) (by omega)⟩
theorem ref23_Equal_eq' (a b : Body) (h : SmB a) : caromref23_Equal a b = some (decide (a = b)) := by rw [br_caromref23_Equal, GoOld.ref23_Equal_eq a b (fixok h)]
theorem body_Equal_eq' (a b : Body) (h : SmB a) : body_Equal a b = some (decide (a = b)) := by rw [br_body_Equal, GoOld.body_Equal_eq a b (fixok h)]
theorem ref25_Equal_eq (a b : World_) (h : SmW a) : caromref25_Equal a b = some (decide (a = b)) := by
  obtain ⟨a_s, ab, aj, ac, ao, an, af⟩ := a
  obtain ⟨b_s, bb, bj, bc, bo, bn, bf⟩ := b
  obtain ⟨h1, h2, h3, h4, h5, h6⟩ := h
  dsimp only at h1 h2 h3 h4 h5 h6
  unfold caromref25_Equal
  simp only [Let_nr, veq, jeq, keq, steq, len_bne, cond_or, ref22_Keys_eq ao bo h4, Bind_snr, Bind_if, ga3]
  simp only [ne_bne]
  by_cases hb : ab.length = bb.length
  · by_cases hj : aj.length = bj.length
    · by_cases hc : ac.length = bc.length
      · rw [show LOOP _ fuel (0 : Int) = _ from LOOP_eq2 ab bb (if aj = bj then (if ac = bc then some true else some false) else some false) (some false) _ (sm_of h1 (by omega)) hb ?_ ?_]
        · by_cases e1 : a_s = b_s <;> by_cases e2 : an = bn <;> by_cases e3 : af = bf <;> by_cases e4 : ao = bo <;> by_cases e5 : ab = bb <;> by_cases e6 : aj = bj <;> by_cases e7 : ac = bc <;> simp [e1, e2, e3, e4, e5, e6, e7, hb, hj, hc]
        · intro r i hw hc hc2 hm
          simp only [dlt hc, if_true, hw, Chk_of hc, Chk_of hc2, ref23_Equal_eq' _ _ (h6 _ hm), Bind_snr, if_not_dec]
        · intro r
          simp only [dll, ff, if_false]
          refine LOOP_eq2 aj bj (if ac = bc then some true else some false) (some false) _ (sm_of h2 (by omega)) hj ?_ ?_
          · intro r i hw hc hc2 hm
            simp only [dlt hc, if_true, hw, Chk_of hc, Chk_of hc2, if_not_dec]
          · intro r
            simp only [dll, ff, if_false]
            refine LOOP_eq2 ac bc (some true) (some false) _ (sm_of h3 (by omega)) hc ?_ ?_
            · intro r i hw hc hc2 hm
              simp only [dlt hc, if_true, hw, Chk_of hc, Chk_of hc2, Chk_of (fun _ => hc), Chk_of (fun _ => hc2), ref16_Equal_eq _ _ (h5 _ hm), Bind_snr, Bind_if, ga3]
              generalize ix ac (i : Int) = x
              generalize ix bc (i : Int) = y
              obtain ⟨xk, xm⟩ := x
              obtain ⟨yk, ym⟩ := y
              by_cases e1 : xk = yk <;> by_cases e2 : xm = ym <;> simp [e1, e2]
            · intro r; simp only [dll, ff, if_false]
      · have : ¬ ac = bc := fun e => hc (by rw [e])
        simp [hc, this]
    · have : ¬ aj = bj := fun e => hj (by rw [e])
      simp [hj, this]
  · have : ¬ ab = bb := fun e => hb (by rw [e])
    simp [hb, this]
def fj (w : World_) (id : Int) : Int := idx (fun b : Joint => b.ID == id) w.Joints 0
theorem world_FindJ_eq (w : World_) (id : Int) (h : Sm w.Joints) : world_FindJoint w id = some (fj w id) := by
  unfold world_FindJoint slices_IndexFunc_69 fj
  simp only [Let_nr]
  rw [show LOOP _ fuel (0 : Int) = _ from LOOP_l0 w.Joints (fun t i => some (idx (fun b : Joint => b.ID == id) t i)) _ h ?_ ?_]
  · exact Bind_snr _ _
  · intro r i t hw hc hm hr
    simp only [dlt hc, if_true, hw, Chk_of hc, world_FindJoint_1, Let_nr, Bind_snr, hr, idx]
    split <;> rfl
  · intro r; simp only [dll, ff, if_false, idx]
theorem ref25_FindJ_eq (w : World_) (id : Int) (h : Sm w.Joints) : caromref25_FindJoint w id = some (fj w id) := by
  unfold caromref25_FindJoint fj
  simp only [Let_nr]
  refine LOOP_l0 w.Joints (fun t i => some (idx (fun b : Joint => b.ID == id) t i)) _ h ?_ ?_
  · intro r i t hw hc hm hr
    simp only [dlt hc, if_true, hw, Chk_of hc, Let_nr, Bind_snr, hr, idx]
    split <;> rfl
  · intro r; simp only [dll, ff, if_false, idx]
theorem zeroW_sm : SmW zeroW := (nilW_few ⟨0, ⟨0, 0⟩, 0, 0⟩ 0).smw
theorem addW_sm (w : World_) (b : Body) (h : Few w) (hb : SmB b) : SmW (addW w b).1 := by
  unfold addW
  split
  · exact zeroW_sm
  · split
    · exact zeroW_sm
    · refine ⟨?_, h.smw.joints, h.smw.contacts, h.smw.overlaps, h.smw.points, ?_⟩
      · have := h.bodies; simp; omega
      · intro x hx
        rcases List.mem_append.1 hx with e | e
        · exact h.smb x e
        · simp at e; subst e; exact hb
theorem caromlaw25_WorldAddBody_any (w : World_) (b : Body) (id : Int) : caromlaw25_WorldAddBody w b id = some true := by
  have hB : caromref22_Few [b] (1 : Int) = some (decide ((([b] : List Body).length : Int) ≤ ((1 : Nat) : Int)) && [b].all fewB) := ref22_Few_eq [b] 1 (by omega)
  have hB' : caromref22_Few [b] (1 : Int) = some (fewB b) := by rw [hB]; simp
  unfold caromlaw25_WorldAddBody
  simp only [ref25_Few_eq, hB', Bind_snr, Let_nr, example25, Bind_if]
  cases h : few w
  · rfl
  · cases h2 : fewB b
    · rfl
    · have hF := few_Few h
      have hs : SmB b := by
        unfold fewB at h2
        simp only [Bool.and_eq_true, decide_eq_true_eq, List.all_eq_true] at h2
        exact ⟨by omega, fun f hf => by have := h2.2 f hf; omega⟩
      simp only [Bool.not_true, ff, if_false, world_Add_eq w b hF.smw hs, ref25_Add_eq w b hF.smw hs, Bind_snr, ref25_Equal_eq _ _ (addW_sm w b hF hs), world_Find_eq w id hF.sb, ref25_Find_eq w id hF.sb, world_FindJ_eq w id hF.sj, ref25_FindJ_eq w id hF.sj, decide_true, beq_self_eq_true, if_true, Bool.cond_true, Bool.cond_false, Bool.beq_eq_decide_eq]
end GoForm





set_option linter.all false
set_option maxRecDepth 100000
open Go Go.Rx

namespace GoForm
def wkB (b : Body) : Body := { b with Asleep := false, IdleSteps := 0 }
def wakeW (w : World_) (id : Int) : World_ :=
  if (decide (0 ≤ fb w id) && decide ((ix w.Bodies (fb w id)).Kind = 3)) = true then { w with Bodies := w.Bodies.set (fb w id).toNat (wkB (ix w.Bodies (fb w id))) } else w
theorem ix_set_same {α : Type} [Inhabited α] (l : List α) (i : Nat) (x : α) (h : i < l.length) : ix (l.set i x) (i : Int) = x := by
  rw [ix_lt _ _ (by simpa using h)]; simp
theorem fb_cases (w : World_) (id : Int) : fb w id = -1 ∨ ∃ k : Nat, fb w id = (k : Int) ∧ k < w.Bodies.length := by
  rcases idx_bd (fun b : Body => b.ID == id) w.Bodies 0 with h | h
  · exact Or.inl h
  · right; exact ⟨(fb w id).toNat, by unfold fb; omega, by unfold fb; omega⟩
theorem bif_and (a : Bool) (k : Int) : (bif a then (k == 3) else false) = (a && decide (k = 3)) := by rw [cond_and, eq_beq]
theorem world_Wake_eq (w : World_) (id : Int) (h : SmW w) : world_WakeBody w id = some (wakeW w id) := by
  unfold world_WakeBody wakeW
  rw [world_Clone_eq w h, Bind_snr]
  simp only [Join_nr, Let_nr, world_Find_eq w id (sm_of h.bodies (by omega)), Bind_snr, ge_iff_le, bif_and]
  rcases fb_cases w id with hk | ⟨k, hk, hl⟩
  · rw [hk, Chk_of (by simp), Chk_of (by simp), if_neg (by simp), if_neg (by simp)]
  · rw [hk, Chk_of (fun _ => by omega), Chk_of (fun _ => by omega)]
    by_cases h3 : (ix w.Bodies (k : Int)).Kind = 3
    · rw [if_pos (by simp [h3]), if_pos (by simp [h3]), Chk_of (by omega), Chk_of (by omega)]
      simp only [Int.toNat_natCast, List.length_set]
      rw [Chk_of (by omega), Chk_of (by omega)]
      simp only [ix_set_same _ _ _ hl, List.set_set]
      rfl
    · rw [if_neg (by simp [h3]), if_neg (by simp [h3])]
theorem ref25_Wake_eq (w : World_) (id : Int) (h : SmW w) : caromref25_WakeBody w id = some (wakeW w id) := by
  unfold caromref25_WakeBody wakeW
  rw [ref25_Clone_eq w h, Bind_snr]
  simp only [Join_nr, Let_nr, ref25_Find_eq w id (sm_of h.bodies (by omega)), Bind_snr, ge_iff_le, bif_and]
  rcases fb_cases w id with hk | ⟨k, hk, hl⟩
  · rw [hk, Chk_of (by simp), if_neg (by simp), if_neg (by simp)]
  · rw [hk, Chk_of (fun _ => by omega)]
    by_cases h3 : (ix w.Bodies (k : Int)).Kind = 3
    · rw [if_pos (by simp [h3]), if_pos (by simp [h3]), Chk_of (by omega), Chk_of (by omega)]
      simp only [Int.toNat_natCast, List.length_set]
      rw [Chk_of (by omega), Chk_of (by omega)]
      simp only [ix_set_same _ _ _ hl, List.set_set]
      rfl
    · rw [if_neg (by simp [h3]), if_neg (by simp [h3])]
theorem mem_set_or {α : Type} (l : List α) (i : Nat) (x y : α) (h : y ∈ l.set i x) : y ∈ l ∨ y = x := List.mem_or_eq_of_mem_set h
theorem wake_sm (w : World_) (id : Int) (h : SmW w) : SmW (wakeW w id) := by
  unfold wakeW
  split
  next hc =>
    refine ⟨by simpa using h.bodies, h.joints, h.contacts, h.overlaps, h.points, ?_⟩
    intro b hb
    rcases mem_set_or _ _ _ _ hb with hb | hb
    · exact h.body b hb
    · rcases fb_cases w id with hk | ⟨k, hk, hl⟩
      · rw [hk] at hc; simp at hc
      · have := h.body _ (ix_mem w.Bodies (fb w id) (by omega))
        rw [hb]; exact this
  · exact h
def posI (w : World_) : Prop := ∀ b ∈ w.Bodies, 1 ≤ b.ID
theorem wake_pos (w : World_) (id : Int) (h : posI w) : posI (wakeW w id) := by
  unfold wakeW
  split
  next hc =>
    intro b hb
    rcases mem_set_or _ _ _ _ hb with hb | hb
    · exact h b hb
    · rcases fb_cases w id with hk | ⟨k, hk, hl⟩
      · rw [hk] at hc; simp at hc
      · have := h _ (ix_mem w.Bodies (fb w id) (by omega))
        rw [hb]; exact this
  · exact h
theorem wake_zero (w : World_) (h : posI w) : wakeW w 0 = w := by
  have : fb w 0 = -1 := by
    rcases fb_cases w 0 with hk | ⟨k, hk, hl⟩
    · exact hk
    · have h1 := idx_ix (fun b : Body => b.ID == 0) w.Bodies 0 (by unfold fb at hk; omega)
      have h2 := h _ (ix_mem w.Bodies (k : Int) (by omega))
      unfold fb at hk
      rw [hk] at h1
      simp at h1
      omega
  unfold wakeW
  rw [this, if_neg (by simp)]
theorem wakeAll_eq (w : World_) (a b : Int) (h : SmW w) (hp : posI w) : world_wakeAll w [a, b] = some (wakeW (wakeW w a) b) := by
  have e : ∀ (w : World_) (a : Int), SmW w → posI w → (if (a != 0) = true then world_WakeBody w a else some w) = some (wakeW w a) := by
    intro w a h hp
    by_cases ha : a = 0
    · rw [ha, if_neg (by decide), wake_zero w hp]
    · rw [if_pos (by simpa using ha), world_Wake_eq w a h]
  have e2 : ∀ (w : World_) (a : Int) (K : World_ → Option World_), SmW w → posI w → (if (a != 0) = true then Rx.Bind (world_WakeBody w a) K else K w) = K (wakeW w a) := by
    intro w a K h hp
    have := e w a h hp
    by_cases ha : (a != 0) = true
    · rw [if_pos ha] at this ⊢; rw [this, Bind_snr]
    · rw [if_neg ha] at this ⊢; rw [← Option.some.inj this]
  unfold world_wakeAll
  obtain ⟨m, hm⟩ : ∃ m, fuel = m + 20 := ⟨2 ^ 70 - 20, by unfold fuel; decide⟩
  rw [hm]
  simp only [Let_nr, Join_nr]
  rw [LOOP_s, if_pos (by simp), Chk_of (by simp), e2 _ _ _ h hp]
  rw [show IntKind.i64.wrap ((0 : Int) + 1) = 1 by decide, LOOP_s, if_pos (by simp), Chk_of (by simp), e2 _ _ _ (wake_sm _ _ h) (wake_pos _ _ hp)]
  rw [show IntKind.i64.wrap ((1 : Int) + 1) = 2 by decide, LOOP_s, if_neg (by simp)]
  rfl
theorem posIDs_eq (w : World_) (h : Sm w.Bodies) : caromlaw25_positiveIDs w = some (w.Bodies.all (fun b => decide (1 ≤ b.ID))) := by
  unfold caromlaw25_positiveIDs
  simp only [Let_nr]
  refine (LOOP_all w.Bodies (fun b => decide (1 ≤ b.ID)) (some true) (some false) _ h ?_ ?_).trans ?_
  · intro r i hw hc hm
    rw [if_pos (dlt hc), Chk_of hc, hw]
    by_cases q : 1 ≤ (ix w.Bodies (i : Int)).ID
    · rw [if_neg (by rw [decide_eq_true_iff]; omega), if_pos (by simpa using q)]
    · rw [if_pos (by rw [decide_eq_true_iff]; omega), if_neg (by simpa using q)]
  · intro r; rw [if_neg (by simp)]
  · cases w.Bodies.all (fun b => decide (1 ≤ b.ID)) <;> rfl
def zJ (w : World_) (j : Joint) : Joint := { j with ID := w.NextID, Impulses := (0, 0, 0, 0) }
theorem resetI (j : Joint) : joint_ResetImpulses j = some { j with Impulses := (0, 0, 0, 0) } := by
  unfold joint_ResetImpulses
  simp only [Let_nr]
  split
  next h =>
    obtain ⟨a, b, c, d, e, f, g, h1, i, k, l, m, n, o, p, q, r, s⟩ := j
    obtain ⟨s1, s2, s3, s4⟩ := s
    simp at h
    simp [h]
  · rfl
def addJ (w : World_) (j : Joint) : World_ × Int × Int :=
  if (decide (32 ≤ (w.Joints.length : Int)) || decide (1099511627776 ≤ w.NextID)) = true then (zeroW, 0, 9)
  else if (jv (zJ w j) != 0 || !jex w (zJ w j)) = true then (zeroW, 0, 15)
  else (wakeW (wakeW { w with Joints := w.Joints ++ [zJ w j], NextID := IntKind.i64.wrap (w.NextID + 1) } j.BodyA) j.BodyB, w.NextID, 0)
theorem world_AddJ_eq (w : World_) (j : Joint) (h : SmW w) (hp : posI w) (hl : w.Joints.length ≤ 1000) : world_AddJoint w j = some (addJ w j) := by
  have hc : ∀ x : Joint, (w.Joints.length + [x].length) * 192 ≤ 140737488355328 := by intro x; simp; omega
  have hs : SmW { w with Joints := w.Joints ++ [zJ w j], NextID := IntKind.i64.wrap (w.NextID + 1) } := ⟨h.bodies, by simp; omega, h.contacts, h.overlaps, h.points, h.body⟩
  have hb := sm_of h.bodies (by omega)
  unfold world_AddJoint addJ
  simp only [Let_nr, resetI, Bind_snr, joint_Val_eq, world_ex_eq w _ hb, world_Clone_eq w h, Bind_if, cond_or, ge_iff_le, Chk_of (hc _), ga3]
  by_cases h1 : (decide (32 ≤ (w.Joints.length : Int)) || decide (1099511627776 ≤ w.NextID)) = true
  · rw [if_pos h1, if_pos h1]; rfl
  · rw [if_neg h1, if_neg h1]
    by_cases h2 : (jv (zJ w j) != 0 || !jex w (zJ w j)) = true
    · rw [if_pos h2]; exact if_pos h2
    · rw [if_neg h2]
      refine (if_neg h2).trans ?_
      show Rx.Bind (world_wakeAll { w with Joints := w.Joints ++ [zJ w j], NextID := IntKind.i64.wrap (w.NextID + 1) } [j.BodyA, j.BodyB]) _ = _
      rw [wakeAll_eq _ _ _ hs hp, Bind_snr]
theorem ref25_AddJ_eq (w : World_) (j : Joint) (h : SmW w) (hl : w.Joints.length ≤ 1000) : caromref25_AddJoint w j = some (addJ w j) := by
  have hc : ∀ x : Joint, (w.Joints.length + [x].length) * 192 ≤ 140737488355328 := by intro x; simp; omega
  have hs : SmW { w with Joints := w.Joints ++ [zJ w j], NextID := IntKind.i64.wrap (w.NextID + 1) } := ⟨h.bodies, by simp; omega, h.contacts, h.overlaps, h.points, h.body⟩
  have hb := sm_of h.bodies (by omega)
  unfold caromref25_AddJoint addJ
  simp only [Let_nr, Bind_snr, ref24_Val_eq, ref25_con_eq w _ hb, ref25_Clone_eq w h, Bind_if, cond_or, ge_iff_le, Chk_of (hc _), ga3]
  by_cases h1 : (decide (32 ≤ (w.Joints.length : Int)) || decide (1099511627776 ≤ w.NextID)) = true
  · rw [if_pos h1, if_pos h1]; rfl
  · rw [if_neg h1, if_neg h1]
    by_cases hz : jv (zJ w j) = 0
    · have hcon := jex_con (w := w) hz
      by_cases h2 : (jv (zJ w j) != 0 || !jex w (zJ w j)) = true
      · rw [if_pos h2]; rw [hcon] at h2; exact if_pos h2
      · rw [if_neg h2]; rw [hcon] at h2
        refine (if_neg h2).trans ?_
        show Rx.Bind (caromref25_WakeBody { w with Joints := w.Joints ++ [zJ w j], NextID := IntKind.i64.wrap (w.NextID + 1) } j.BodyA) _ = _
        rw [ref25_Wake_eq _ _ hs, Bind_snr, ref25_Wake_eq _ _ (wake_sm _ _ hs), Bind_snr]
    · have h2 : ∀ c : Bool, (jv (zJ w j) != 0 || c) = true := by intro c; rw [Bool.or_eq_true]; exact Or.inl (by simpa using hz)
      rw [if_pos (h2 _)]
      exact if_pos (h2 _)
end GoForm


set_option linter.all false
set_option maxRecDepth 100000
open Go Go.Rx

namespace GoForm
theorem fj_cases (w : World_) (id : Int) : fj w id = -1 ∨ ∃ k : Nat, fj w id = (k : Int) ∧ k < w.Joints.length := by
  rcases idx_bd (fun b : Joint => b.ID == id) w.Joints 0 with h | h
  · exact Or.inl h
  · right; exact ⟨(fj w id).toNat, by unfold fj; omega, by unfold fj; omega⟩
def cutJ (w : World_) (k : Nat) : World_ := { w with Joints := w.Joints.take k ++ w.Joints.drop (k + 1) }
def remJ (w : World_) (id : Int) : World_ × Int :=
  if fj w id < 0 then (zeroW, 8)
  else (wakeW (wakeW (cutJ w (fj w id).toNat) (ix w.Joints (fj w id)).BodyA) (ix w.Joints (fj w id)).BodyB, 0)
theorem cut_sm (w : World_) (k : Nat) (h : SmW w) : SmW (cutJ w k) := by
  refine ⟨h.bodies, ?_, h.contacts, h.overlaps, h.points, h.body⟩
  have := h.joints
  unfold cutJ; simp; omega
theorem take_app_len {α : Type} (a b : List α) (n : Nat) (h : n = a.length) : (a ++ b).take n = a := by subst h; simp
theorem world_RemJ_eq (w : World_) (id : Int) (h : SmW w) (hp : posI w) : world_RemoveJoint w id = some (remJ w id) := by
  have hj := h.joints
  unfold world_RemoveJoint remJ
  rw [world_FindJ_eq w id (sm_of h.joints (by omega)), Bind_snr]
  simp only [Let_nr, Join_nr]
  rcases fj_cases w id with hk | ⟨k, hk, hl⟩
  · rw [hk, if_pos (by simp), if_pos (by decide)]; rfl
  · have n4 : ¬ ((k : Int) < 0) := by omega
    rw [hk, if_neg (by simp), if_neg n4, world_Clone_eq w h, Bind_snr]
    have hw2 : IntKind.i64.wrap ((k : Int) + 1) = ((k + 1 : Nat) : Int) := by rw [wrap_in _ (by omega) (by omega)]; omega
    rw [Chk_of (by omega), Chk_of (by omega), hw2, Chk_of (by omega), if_neg (by simp; omega)]
    have e1 : List.take (w.Joints.length - (k + 1)) (List.drop (k + 1) w.Joints) = w.Joints.drop (k + 1) := by
      apply List.take_of_length_le; simp
    have e2 : (w.Joints.drop (k + 1)).length = w.Joints.length - (k + 1) := by simp
    simp only [Int.toNat_natCast, Option.getD_some, Option.getD_none, Nat.sub_zero, Nat.zero_add, e1, e2]
    rw [Chk_of (by omega), Chk_of (by omega), Chk_of (by omega), Chk_of (by omega), Chk_of (by omega)]
    have e3 : k + (w.Joints.length - (k + 1)) = w.Joints.length - 1 := by omega
    have l3 : (w.Joints.take k ++ w.Joints.drop (k + 1)).length = w.Joints.length - 1 := by simp; omega
    simp only [e3]
    rw [Chk_of (by simp; omega), take_app_len (w.Joints.take k ++ w.Joints.drop (k + 1)) _ _ l3.symm, Chk_of (by simp; omega)]
    rw [List.append_assoc, take_app_len (w.Joints.take k ++ w.Joints.drop (k + 1)) _ _ l3.symm]
    show Rx.Bind (world_wakeAll (cutJ w k) [_, _]) _ = _
    rw [wakeAll_eq _ _ _ (cut_sm w k h) hp, Bind_snr]
theorem ref25_RemJ_eq (w : World_) (id : Int) (h : SmW w) : caromref25_RemoveJoint w id = some (remJ w id) := by
  have hj := h.joints
  unfold caromref25_RemoveJoint remJ
  rw [ref25_FindJ_eq w id (sm_of h.joints (by omega)), Bind_snr]
  simp only [Let_nr, Join_nr]
  rcases fj_cases w id with hk | ⟨k, hk, hl⟩
  · rw [hk, if_pos (by simp), if_pos (by decide)]; rfl
  · have n4 : ¬ ((k : Int) < 0) := by omega
    rw [hk, if_neg (by simp), if_neg n4, ref25_Clone_eq w h, Bind_snr]
    have hw2 : IntKind.i64.wrap ((k : Int) + 1) = ((k + 1 : Nat) : Int) := by rw [wrap_in _ (by omega) (by omega)]; omega
    rw [hw2]
    have e1 : List.take (w.Joints.length - (k + 1)) (List.drop (k + 1) w.Joints) = w.Joints.drop (k + 1) := by
      apply List.take_of_length_le; simp
    have e2 : (w.Joints.drop (k + 1)).length = w.Joints.length - (k + 1) := by simp
    simp only [Int.toNat_natCast, Option.getD_some, Option.getD_none, Nat.sub_zero, Nat.zero_add, e1, e2]
    have e3 : k + (w.Joints.length - (k + 1)) = w.Joints.length - 1 := by omega
    have l3 : (w.Joints.take k ++ w.Joints.drop (k + 1)).length = w.Joints.length - 1 := by simp; omega
    simp only [e3]
    rw [Chk_of (by omega), Chk_of (by omega), Chk_of (by omega), Chk_of (by omega), Chk_of (by simp; omega)]
    rw [take_app_len (w.Joints.take k ++ w.Joints.drop (k + 1)) _ _ l3.symm, Chk_of (by omega)]
    show Rx.Bind (caromref25_WakeBody (cutJ w k) _) _ = _
    rw [ref25_Wake_eq _ _ (cut_sm w k h), Bind_snr, Chk_of (by omega), ref25_Wake_eq _ _ (wake_sm _ _ (cut_sm w k h)), Bind_snr]
theorem addJ_sm (w : World_) (j : Joint) (h : SmW w) (hl : w.Joints.length ≤ 1000) : SmW (addJ w j).1 := by
  unfold addJ
  split
  · exact zeroW_sm
  · split
    · exact zeroW_sm
    · exact wake_sm _ _ (wake_sm _ _ ⟨h.bodies, by simp; omega, h.contacts, h.overlaps, h.points, h.body⟩)
theorem remJ_sm (w : World_) (id : Int) (h : SmW w) : SmW (remJ w id).1 := by
  unfold remJ
  split
  · exact zeroW_sm
  · exact wake_sm _ _ (wake_sm _ _ (cut_sm w _ h))
theorem WorldJoints_any (w : World_) (j : Joint) (id : Int) : caromlaw25_WorldJoints w j id = some true := by
  unfold caromlaw25_WorldJoints
  simp only [ref25_Few_eq, Bind_snr, Let_nr, example25]
  cases h : few w
  · simp [Bind_snr]
  · have hF := few_Few h
    have hs := hF.smw
    have hl : w.Joints.length ≤ 1000 := by have := hF.joints; omega
    rw [show (if ((!true) == false) = true then caromlaw25_positiveIDs w else some default) = some (w.Bodies.all (fun b => decide (1 ≤ b.ID))) from posIDs_eq w hF.sb, Bind_snr]
    cases hp : w.Bodies.all (fun b => decide (1 ≤ b.ID))
    · rfl
    · have hpos : posI w := by
        intro b hb
        rw [List.all_eq_true] at hp
        exact of_decide_eq_true (hp b hb)
      simp only [Bool.not_true, Bool.cond_false, ff, if_false, world_AddJ_eq w j hs hpos hl, ref25_AddJ_eq w j hs hl, world_RemJ_eq w id hs hpos, ref25_RemJ_eq w id hs, Bind_snr, ref25_Equal_eq _ _ (addJ_sm w j hs hl), ref25_Equal_eq _ _ (remJ_sm w id hs)]
      simp [Bind_snr]
end GoForm


set_option linter.all false
set_option maxRecDepth 100000
open Go Go.Rx

namespace GoForm
theorem idx_shift {α : Type} (q : α → Bool) (l : List α) (i : Nat) (x : α) (h : q x = false) : idx q (x :: l) i = idx q l (i + 1) := by
  rw [idx, if_neg (by rw [h]; decide)]
theorem LOOP_findN {α X : Type} [Inhabited α] (l : List α) (q : α → Bool) (R : Option X) (step : (Int → Option X) → Int → Option X) (hl : Sm l)
    (hs1 : ∀ (r : Int → Option X) (i : Nat), IntKind.i64.wrap ((i : Int) + 1) = (i : Int) + 1 → (0 ≤ (i : Int) ∧ (i : Int) < (l.length : Int)) → q (ix l (i : Int)) = false → step r (i : Int) = r ((i : Int) + 1))
    (hs2 : ∀ (r : Int → Option X) (i : Nat), (0 ≤ (i : Int) ∧ (i : Int) < (l.length : Int)) → idx q l 0 = (i : Int) → q (ix l (i : Int)) = true → step r (i : Int) = R)
    (he : ∀ (r : Int → Option X), idx q l 0 = -1 → step r (l.length : Int) = R) :
    ∀ (n i : Nat), i ≤ l.length → l.length - i < n → idx q (l.drop i) i = idx q l 0 → LOOP step n (i : Int) = R
  | 0, i, _, h, _ => by omega
  | n + 1, i, h1, h2, h3 => by
    rw [LOOP_s]
    by_cases h : i < l.length
    · have hd := drop_ix l i h
      rw [hd] at h3
      cases hq : q (ix l (i : Int))
      · rw [hs1 _ i (w64_s i (by unfold Sm at hl; omega)) ⟨by omega, by omega⟩ hq]
        rw [idx_shift q _ _ _ hq] at h3
        exact LOOP_findN l q R step hl hs1 hs2 he n (i + 1) (by omega) (by omega) h3
      · rw [idx, if_pos hq] at h3
        exact hs2 _ i ⟨by omega, by omega⟩ h3.symm hq
    · have e : i = l.length := by omega
      subst e
      rw [List.drop_length] at h3
      exact he _ h3.symm
theorem LOOP_findR {α X : Type} [Inhabited α] (l : List α) (q : α → Bool) (R : Option X) (step : (Int → Option X) → Int → Option X) (hl : Sm l)
    (hs1 : ∀ (r : Int → Option X) (i : Nat), IntKind.i64.wrap ((i : Int) + 1) = (i : Int) + 1 → (0 ≤ (i : Int) ∧ (i : Int) < (l.length : Int)) → q (ix l (i : Int)) = false → step r (i : Int) = r ((i : Int) + 1))
    (hs2 : ∀ (r : Int → Option X) (i : Nat), (0 ≤ (i : Int) ∧ (i : Int) < (l.length : Int)) → idx q l 0 = (i : Int) → q (ix l (i : Int)) = true → step r (i : Int) = R)
    (he : ∀ (r : Int → Option X), idx q l 0 = -1 → step r (l.length : Int) = R) : LOOP step fuel (0 : Int) = R :=
  LOOP_findN l q R step hl hs1 hs2 he fuel 0 (Nat.zero_le _) (by unfold Sm at hl; have : fuel = 2 ^ 70 := rfl; omega) (by simp)
theorem idx_none {α : Type} (q : α → Bool) (l : List α) (h : idx q l 0 = -1) : l.filter (fun x => !q x) = l := by
  have h2 := idx_any q l 0
  rw [h] at h2
  have h3 : l.any q = false := by rw [← h2]; rfl
  rw [List.filter_eq_self]
  intro a ha
  rw [List.any_eq_false] at h3
  have := h3 a ha
  simpa using this
theorem idx_first {α : Type} [Inhabited α] (q : α → Bool) : ∀ (l : List α) (i k : Nat), idx q l i = (k : Int) → i ≤ k ∧ k - i < l.length ∧ q (ix l ((k - i : Nat) : Int)) = true ∧ (l.take (k - i)).filter (fun x => !q x) = l.take (k - i)
  | [], i, k, h => by simp [idx] at h
  | a :: l, i, k, h => by
    cases hq : q a
    · rw [idx_shift q _ _ _ hq] at h
      obtain ⟨h1, h2, h3, h4⟩ := idx_first q l (i + 1) k h
      have e : k - i = (k - (i + 1)) + 1 := by omega
      refine ⟨by omega, by simp; omega, ?_, ?_⟩
      · rw [e]; exact h3
      · rw [e, List.take_succ_cons, List.filter_cons_of_pos (by simp [hq]), h4]
    · rw [idx, if_pos hq] at h
      have : k = i := by omega
      subst this
      rw [Nat.sub_self]
      exact ⟨Nat.le_refl _, by simp, hq, by simp⟩
theorem LOOP_delN {α X : Type} [Inhabited α] (l : List α) (q : α → Bool) (R : Option X) (step : (Int × Int × List α → Option X) → Int × Int × List α → Option X) (hl : Sm l)
    (hs : ∀ (r : Int × Int × List α → Option X) (i j : Nat) (s : List α), IntKind.i64.wrap ((i : Int) + 1) = (i : Int) + 1 → IntKind.i64.wrap ((j : Int) + 1) = (j : Int) + 1 → i < j → j < s.length → s.length = l.length → step r ((i : Int), (j : Int), s) = if q (ix s (j : Int)) = true then r ((i : Int), (j : Int) + 1, s) else r ((i : Int) + 1, (j : Int) + 1, s.set i (ix s (j : Int))))
    (he : ∀ (r : Int × Int × List α → Option X) (i : Nat) (s : List α), i < s.length → s.length = l.length → s.take i = l.filter (fun x => !q x) → step r ((i : Int), (s.length : Int), s) = R) :
    ∀ (n i j : Nat) (s : List α), s.length = l.length → i < j → j ≤ l.length → s.take i = (l.take j).filter (fun x => !q x) → s.drop j = l.drop j → l.length - j < n → LOOP step n ((i : Int), (j : Int), s) = R
  | 0, _, _, _, _, _, _, _, _, h => by omega
  | n + 1, i, j, s, h1, h2, h3, h4, h5, h6 => by
    rw [LOOP_s]
    by_cases h : j < l.length
    · have hls : l.length < 2 ^ 62 := hl
      have hd := drop_ix l j h
      have hd2 := drop_ix s j (by omega)
      rw [h5, hd] at hd2
      have hx : ix s (j : Int) = ix l (j : Int) := (List.cons.inj hd2).1.symm
      have hd3 : s.drop (j + 1) = l.drop (j + 1) := (List.cons.inj hd2).2.symm
      have ht : l.take (j + 1) = l.take j ++ [ix l (j : Int)] := by rw [List.take_add_one, ix_lt l j h]; simp [h]
      rw [hs _ i j s (w64_s i (by omega)) (w64_s j (by omega)) h2 (by omega) h1, hx]
      cases hq : q (ix l (j : Int))
      · rw [if_neg (by decide)]
        refine LOOP_delN l q R step hl hs he n (i + 1) (j + 1) _ (by simpa using h1) (by omega) (by omega) ?_ ?_ (by omega)
        · rw [ht, List.filter_append, ← h4, List.filter_cons_of_pos (by simp [hq]), List.filter_nil]
          rw [List.take_add_one, List.take_set_of_le (Nat.le_refl _), List.getElem?_set_self (by omega)]; rfl
        · rw [List.drop_set_of_lt (by omega)]; exact hd3
      · rw [if_pos rfl]
        refine LOOP_delN l q R step hl hs he n i (j + 1) s h1 (by omega) (by omega) ?_ hd3 (by omega)
        rw [ht, List.filter_append, ← h4, List.filter_cons_of_neg (by simp [hq]), List.filter_nil, List.append_nil]
    · have e : j = s.length := by omega
      subst e
      exact he _ i s h2 h1 (by rw [h4, List.take_of_length_le (show l.length ≤ s.length by omega)])
/-- Deleting from the first match on. -/
theorem LOOP_delR {α X : Type} [Inhabited α] (l : List α) (q : α → Bool) (R : Option X) (k : Nat) (step : (Int × Int × List α → Option X) → Int × Int × List α → Option X) (hl : Sm l) (hk : idx q l 0 = (k : Int))
    (hs : ∀ (r : Int × Int × List α → Option X) (i j : Nat) (s : List α), IntKind.i64.wrap ((i : Int) + 1) = (i : Int) + 1 → IntKind.i64.wrap ((j : Int) + 1) = (j : Int) + 1 → i < j → j < s.length → s.length = l.length → step r ((i : Int), (j : Int), s) = if q (ix s (j : Int)) = true then r ((i : Int), (j : Int) + 1, s) else r ((i : Int) + 1, (j : Int) + 1, s.set i (ix s (j : Int))))
    (he : ∀ (r : Int × Int × List α → Option X) (i : Nat) (s : List α), i < s.length → s.length = l.length → s.take i = l.filter (fun x => !q x) → step r ((i : Int), (s.length : Int), s) = R) :
    LOOP step fuel ((k : Int), IntKind.i64.wrap ((k : Int) + 1), l) = R := by
  obtain ⟨_, h2, h3, h4⟩ := idx_first q l 0 k hk
  rw [Nat.sub_zero] at h2 h3 h4
  have hls : l.length < 2 ^ 62 := hl
  rw [w64_s k (by omega)]
  refine LOOP_delN l q R step hl hs he fuel k (k + 1) l rfl (by omega) (by omega) ?_ rfl (by have : fuel = 2 ^ 70 := rfl; omega)
  rw [List.take_add_one, List.filter_append, h4]
  have : l[k]? = some (ix l (k : Int)) := by rw [ix_lt l k h2]; simp [h2]
  rw [this]
  simp [h3]
theorem LOOP_accR {α β X : Type} [Inhabited α] (l : List α) (f : α → List β) (acc0 : List β) (R : Option X) (step : (List β × Int → Option X) → List β × Int → Option X) (hl : Sm l) (hf : ∀ a, (f a).length ≤ 2)
    (hs : ∀ (r : List β × Int → Option X) (i : Nat) (acc : List β), acc.length ≤ acc0.length + 2 * i → IntKind.i64.wrap ((i : Int) + 1) = (i : Int) + 1 → (0 ≤ (i : Int) ∧ (i : Int) < (l.length : Int)) → ix l (i : Int) ∈ l → step r (acc, (i : Int)) = r (acc ++ f (ix l (i : Int)), (i : Int) + 1))
    (he : ∀ (r : List β × Int → Option X), step r (acc0 ++ l.flatMap f, (l.length : Int)) = R) : LOOP step fuel (acc0, (0 : Int)) = R := by
  have key : ∀ (n i : Nat) (acc : List β), i ≤ l.length → l.length - i < n → acc.length ≤ acc0.length + 2 * i → acc ++ (l.drop i).flatMap f = acc0 ++ l.flatMap f → LOOP step n (acc, (i : Int)) = R := by
    intro n
    induction n with
    | zero => intro i acc _ h; omega
    | succ n ih =>
      intro i acc h1 h2 h3 h4
      rw [LOOP_s]
      by_cases h : i < l.length
      · rw [hs _ i acc h3 (w64_s i (by unfold Sm at hl; omega)) ⟨by omega, by omega⟩ (ix_mem l _ ⟨by omega, by omega⟩)]
        rw [drop_ix l i h, List.flatMap_cons, ← List.append_assoc] at h4
        exact ih (i + 1) _ (by omega) (by omega) (by have := hf (ix l (i : Int)); simp; omega) h4
      · have e : i = l.length := by omega
        subst e
        rw [List.drop_length, List.flatMap_nil, List.append_nil] at h4
        rw [h4]; exact he _
  exact key fuel 0 acc0 (Nat.zero_le _) (by unfold Sm at hl; have : fuel = 2 ^ 70 := rfl; omega) (by omega) (by simp)
end GoForm


set_option linter.all false
set_option maxRecDepth 100000
open Go Go.Rx

namespace GoForm
def att (id : Int) (j : Joint) : Bool := (id != 0) && (j.BodyA == id || j.BodyB == id)
def refK (id : Int) (k : PairKey) : Bool := k.BodyA == id || k.BodyB == id
def oth (a b id : Int) : Int := if a = id then b else a
theorem att_eq (j : Joint) (id : Int) : joint_Attached j id = some (att id j) := by
  unfold joint_Attached att; simp only [Let_nr, cond_or, cond_and]
theorem att24_eq (j : Joint) (id : Int) : caromref24_Attached j id = some (att id j) := by
  unfold caromref24_Attached att; simp only [Let_nr, cond_or, cond_and]
theorem rb1_eq (k : PairKey) (id : Int) : world_RemoveBody_1 k id = some (refK id k) := by
  unfold world_RemoveBody_1 refK; simp only [Let_nr, cond_or]
theorem rb2_eq (j : Joint) (id : Int) : world_RemoveBody_2 j id = some (att id j) := by
  unfold world_RemoveBody_2; rw [att_eq, Bind_snr]
theorem oth_eq (a b id : Int) : world_other a b id = some (oth a b id) := by
  unfold world_other oth; simp only [Let_nr]
  by_cases h : a = id
  · rw [if_pos (by simpa using h), if_pos h]
  · rw [if_neg (by simpa using h), if_neg h]
theorem oth25_eq (k : PairKey) (id : Int) : caromref25_other k id = some (oth k.BodyA k.BodyB id, refK id k) := by
  unfold caromref25_other oth refK; simp only [Let_nr]
  by_cases h : k.BodyA = id
  · rw [if_pos (by simpa using h), if_pos h]; simp [h]
  · rw [if_neg (by simpa using h), if_neg h]; simp [h]
theorem IF128 (l : List Joint) (g : Joint → Option Bool) (q : Joint → Bool) (hg : ∀ a, g a = some (q a)) (hl : Sm l) : slices_IndexFunc_69 l g = some (idx q l 0) := by
  unfold slices_IndexFunc_69
  simp only [Let_nr]
  refine LOOP_l0 l (fun t i => some (idx q t i)) _ hl ?_ ?_
  · intro r i t hw hc hm hr
    rw [if_pos (dlt hc), Chk_of hc, hg, Bind_snr, hw, hr]
    show _ = some (if q (ix l (i : Int)) = true then (i : Int) else idx q t (i + 1))
    split <;> rfl
  · intro r; rw [if_neg (by simp)]; rfl
theorem IF130 (l : List PairKey) (g : PairKey → Option Bool) (q : PairKey → Bool) (hg : ∀ a, g a = some (q a)) (hl : Sm l) : slices_IndexFunc_101 l g = some (idx q l 0) := by
  unfold slices_IndexFunc_101
  simp only [Let_nr]
  refine LOOP_l0 l (fun t i => some (idx q t i)) _ hl ?_ ?_
  · intro r i t hw hc hm hr
    rw [if_pos (dlt hc), Chk_of hc, hg, Bind_snr, hw, hr]
    show _ = some (if q (ix l (i : Int)) = true then (i : Int) else idx q t (i + 1))
    split <;> rfl
  · intro r; rw [if_neg (by simp)]; rfl
def wakeL (w : World_) : List Int → World_
  | [] => w
  | a :: t => wakeL (if a = 0 then w else wakeW w a) t
theorem wakeAllL_eq (w : World_) (ns : List Int) (h : SmW w) (hn : ns.length ≤ 1000000) : world_wakeAll w ns = some (wakeL w ns) := by
  unfold world_wakeAll
  simp only [Let_nr, Join_nr]
  refine LOOP_j ns (fun _ s => SmW s) (fun t _ s => some (wakeL s t)) _ w (sm_of hn (by omega)) h ?_ ?_
  · intro r i t s hp hw hc hm hr
    rw [if_pos (dlt hc), Chk_of hc, hw]
    show _ = some (wakeL (if ix ns (i : Int) = 0 then s else wakeW s (ix ns (i : Int))) t)
    by_cases ha : ix ns (i : Int) = 0
    · rw [if_neg (by rw [ha]; decide), if_pos ha]; exact hr _ hp
    · rw [if_pos (by simpa using ha), if_neg ha, world_Wake_eq _ _ hp, Bind_snr]; exact hr _ (wake_sm _ _ hp)
  · intro r s hp; rw [if_neg (by simp)]; rfl
theorem smS (w : World_) (B : List Body) (J : List Joint) (C : List Contact) (O : List PairKey) (h : SmW w) (hb : B.Sublist w.Bodies) (hj : J.Sublist w.Joints) (hc : C.Sublist w.Contacts) (ho : O.Sublist w.Overlaps) :
    SmW { Settings := w.Settings, Bodies := B, Joints := J, Contacts := C, Overlaps := O, NextID := w.NextID, Frame := w.Frame } :=
  ⟨Nat.le_trans hb.length_le h.bodies, Nat.le_trans hj.length_le h.joints, Nat.le_trans hc.length_le h.contacts, Nat.le_trans ho.length_le h.overlaps, fun c hcc => h.points c (hc.subset hcc), fun b hbb => h.body b (hb.subset hbb)⟩
theorem cutSub {α : Type} (l : List α) (k : Nat) : (l.take k ++ l.drop (k + 1)).Sublist l := by
  have h1 := List.take_append_drop k l
  have h2 : (l.drop (k + 1)).Sublist (l.drop k) := by
    rw [← List.drop_drop]; exact List.drop_sublist _ _
  have h3 := List.Sublist.append (List.Sublist.refl (l.take k)) h2
  rwa [h1] at h3
def fJ (id : Int) (j : Joint) : List Int := if att id j = true then [oth j.BodyA j.BodyB id] else []
def fC (id : Int) (c : Contact) : List Int := if refK id c.Key = true then [oth c.Key.BodyA c.Key.BodyB id] else []
def nsP (w : World_) (id : Int) : List Int := [] ++ (w.Joints.flatMap (fJ id) ++ w.Contacts.flatMap (fC id))
def rmW (w : World_) (id : Int) (k : Nat) : World_ :=
  { Settings := w.Settings, Bodies := w.Bodies.take k ++ w.Bodies.drop (k + 1), Joints := w.Joints.filter (fun j => !att id j), Contacts := w.Contacts.filter (fun c => !refK id c.Key), Overlaps := w.Overlaps.filter (fun k => !refK id k), NextID := w.NextID, Frame := w.Frame }
def rmP (w : World_) (id : Int) : World_ × Int := if fb w id < 0 then (zeroW, 8) else (wakeL (rmW w id (fb w id).toNat) (nsP w id), 0)
theorem idx_ne {α : Type} (q : α → Bool) (l : List α) (h : idx q l 0 ≠ -1) : ∃ k : Nat, idx q l 0 = (k : Int) := by
  rcases idx_bd q l 0 with g | g
  · exact absurd g h
  · exact ⟨(idx q l 0).toNat, by omega⟩
theorem flat_len {α : Type} (f : α → List Int) (hf : ∀ a, (f a).length ≤ 2) : ∀ l : List α, (l.flatMap f).length ≤ 2 * l.length
  | [] => by simp
  | a :: l => by have := flat_len f hf l; have := hf a; simp only [List.flatMap_cons, List.length_append, List.length_cons]; omega
theorem fJ_len (id : Int) (j : Joint) : (fJ id j).length ≤ 2 := by unfold fJ; split <;> simp
theorem fC_len (id : Int) (c : Contact) : (fC id c).length ≤ 2 := by unfold fC; split <;> simp
theorem nsP_len (w : World_) (id : Int) (h : SmW w) : (nsP w id).length ≤ 1000000 := by
  unfold nsP
  have h1 := flat_len (fJ id) (fJ_len id) w.Joints
  have h2 := flat_len (fC id) (fC_len id) w.Contacts
  have := h.joints; have := h.contacts
  simp only [List.length_append, List.length_nil]; omega
theorem world_Rem_eq (w : World_) (id : Int) (h : SmW w) : world_RemoveBody w id = some (rmP w id) := by
  have hsb := h.bodies
  have hsj := h.joints
  have hsc := h.contacts
  have hso := h.overlaps
  have hns := nsP_len w id h
  unfold world_RemoveBody
  rw [world_Find_eq w id (sm_of h.bodies (by omega)), Bind_snr]
  simp only [Let_nr, Join_nr]
  rcases fb_cases w id with hk | ⟨k, hk, hl⟩
  · rw [hk, if_pos (by simp)]; unfold rmP; rw [hk, if_pos (by decide)]; rfl
  have n4 : ¬ ((k : Int) < 0) := by omega
  have hR : rmP w id = (wakeL (rmW w id k) (nsP w id), 0) := by unfold rmP; rw [hk, if_neg n4, Int.toNat_natCast]
  rw [hR, hk, if_neg (by simp), world_Clone_eq w h, Bind_snr]
  unfold rmW
  refine LOOP_accR w.Joints (fJ id) [] _ _ (sm_of hsj (by omega)) (fJ_len id) ?_ ?_
  · intro r i acc ha hw hc hm
    rw [if_pos (dlt hc), Chk_of hc, Chk_of hc, hw, att_eq, Bind_snr]
    by_cases ht : att id (ix w.Joints (i : Int)) = true
    · rw [if_pos ht, oth_eq, Bind_snr, Chk_of (by simp at ha ⊢; omega), show fJ id (ix w.Joints (i : Int)) = _ from if_pos ht]
    · rw [if_neg ht, show fJ id (ix w.Joints (i : Int)) = _ from if_neg ht, List.append_nil]
  intro r0
  rw [if_neg (by simp)]
  have hfl := flat_len (fJ id) (fJ_len id) w.Joints
  refine LOOP_accR w.Contacts (fC id) _ _ _ (sm_of hsc (by omega)) (fC_len id) ?_ ?_
  · intro r i acc ha hw hc hm
    simp only [List.nil_append] at ha
    rw [if_pos (dlt hc), Chk_of hc, Chk_of hc, hw, rb1_eq, Bind_snr]
    by_cases ht : refK id (ix w.Contacts (i : Int)).Key = true
    · rw [if_pos ht, oth_eq, Bind_snr, Chk_of (by simp; omega), show fC id (ix w.Contacts (i : Int)) = _ from if_pos ht]
    · rw [if_neg ht, show fC id (ix w.Contacts (i : Int)) = _ from if_neg ht, List.append_nil]
  intro r1
  rw [if_neg (by simp)]
  have hw2 : IntKind.i64.wrap ((k : Int) + 1) = ((k + 1 : Nat) : Int) := by rw [wrap_in _ (by omega) (by omega)]; omega
  rw [hw2, Chk_of (by omega), if_neg (by simp; omega)]
  have e1 : List.take (w.Bodies.length - (k + 1)) (List.drop (k + 1) w.Bodies) = w.Bodies.drop (k + 1) := by
    apply List.take_of_length_le; simp
  have e2 : (w.Bodies.drop (k + 1)).length = w.Bodies.length - (k + 1) := by simp
  simp only [Int.toNat_natCast, Option.getD_some, Option.getD_none, Nat.sub_zero, Nat.zero_add, e1, e2]
  have e3 : k + (w.Bodies.length - (k + 1)) = w.Bodies.length - 1 := by omega
  have l3 : (w.Bodies.take k ++ w.Bodies.drop (k + 1)).length = w.Bodies.length - 1 := by simp; omega
  have hXs := cutSub w.Bodies k
  simp only [e3]
  generalize w.Bodies.take k ++ w.Bodies.drop (k + 1) = X at l3 hXs ⊢
  rw [Chk_of (by omega), Chk_of (by omega), Chk_of (by omega), Chk_of (by omega), Chk_of (by omega), Chk_of (by simp; omega)]
  simp only [List.append_assoc, take_app_len X _ _ l3.symm]
  rw [Chk_of (by simp; omega)]
  refine (Bind_of (IF128 _ _ (att id) (fun a => rb2_eq a id) (sm_of hsj (by omega)))).trans ?_
  by_cases hj : idx (att id) w.Joints 0 = -1
  · have hJ : w.Joints.filter (fun j => !att id j) = w.Joints := idx_none _ _ hj
    rw [hj, if_pos (by decide), hJ]
    refine LOOP_findR w.Contacts (fun c => refK id c.Key) _ _ (sm_of hsc (by omega)) ?_ ?_ ?_
    · intro r i hw hc hq
      rw [if_pos (dlt hc), Chk_of hc, Chk_of hc, rb1_eq, Bind_snr, if_neg (by simpa using hq), hw]
    · intro r i hc hidx hq
      have n1 : ¬ ((i : Int) == -1) = true := by simp
      rw [if_pos (dlt hc), Chk_of hc, Chk_of hc, rb1_eq, Bind_snr, if_pos hq, if_neg n1]
      refine LOOP_delR w.Contacts (fun c => refK id c.Key) _ i _ (sm_of hsc (by omega)) hidx ?_ ?_
      · intro r i j s hwi hwj hij hjs hsl
        have hcj : (0 : Int) ≤ (j : Int) ∧ (j : Int) < (s.length : Int) := by omega
        have hci : (0 : Int) ≤ (i : Int) ∧ (i : Int) < (s.length : Int) := by omega
        rw [if_pos (dlt hcj), Chk_of hcj, Chk_of hcj, rb1_eq, Bind_snr, hwj]
        cases hq : refK id (ix s (j : Int)).Key
        · rw [if_pos (by decide), Chk_of hci, Chk_of hci, hwi, if_neg (by decide)]; rfl
        · rw [if_neg (by decide), if_pos (by decide)]
      intro r i s his hsl hF
      rw [if_neg (by simp)]
      simp only [Int.toNat_natCast, Option.getD_some, Option.getD_none, Nat.sub_zero]
      have l1 : (s.take i).length = i := by simp; omega
      rw [Chk_of (by omega), Chk_of (by omega)]
      simp only [List.append_assoc, take_app_len (s.take i) _ _ l1.symm]
      rw [Chk_of (by simp; omega), Chk_of (by simp; omega)]
      simp only [hF]
      refine (Bind_of (IF130 _ _ (refK id) (fun a => rb1_eq a id) (sm_of hso (by omega)))).trans ?_
      by_cases ho : idx (refK id) w.Overlaps 0 = -1
      · have hO : w.Overlaps.filter (fun k => !refK id k) = w.Overlaps := idx_none _ _ ho
        rw [ho, if_pos (by decide), hO]
        rw [show (([] : List Int) ++ (w.Joints.flatMap (fJ id) ++ w.Contacts.flatMap (fC id))) = nsP w id from rfl, wakeAllL_eq _ _ (smS w _ _ _ _ h hXs (by first | exact List.Sublist.refl _ | exact List.filter_sublist) (by first | exact List.Sublist.refl _ | exact List.filter_sublist) (by first | exact List.Sublist.refl _ | exact List.filter_sublist)) hns, Bind_snr]
      obtain ⟨ko, hko⟩ := idx_ne _ _ ho
      rw [hko, if_neg (by simp)]
      refine LOOP_delR w.Overlaps (refK id) _ ko _ (sm_of hso (by omega)) hko ?_ ?_
      · intro r i j s hwi hwj hij hjs hsl
        have hcj : (0 : Int) ≤ (j : Int) ∧ (j : Int) < (s.length : Int) := by omega
        have hci : (0 : Int) ≤ (i : Int) ∧ (i : Int) < (s.length : Int) := by omega
        rw [if_pos (dlt hcj), Chk_of hcj, Chk_of hcj, rb1_eq, Bind_snr, hwj]
        cases hq : refK id (ix s (j : Int))
        · rw [if_pos (by decide), Chk_of hci, Chk_of hci, hwi, if_neg (by decide)]; rfl
        · rw [if_neg (by decide), if_pos (by decide)]
      intro r i s his hsl hF
      rw [if_neg (by simp)]
      simp only [Int.toNat_natCast, Option.getD_some, Option.getD_none, Nat.sub_zero]
      have l1 : (s.take i).length = i := by simp; omega
      rw [Chk_of (by omega), Chk_of (by omega)]
      simp only [List.append_assoc, take_app_len (s.take i) _ _ l1.symm]
      rw [Chk_of (by simp; omega), Chk_of (by simp; omega)]
      simp only [hF]
      rw [show (([] : List Int) ++ (w.Joints.flatMap (fJ id) ++ w.Contacts.flatMap (fC id))) = nsP w id from rfl, wakeAllL_eq _ _ (smS w _ _ _ _ h hXs (by first | exact List.Sublist.refl _ | exact List.filter_sublist) (by first | exact List.Sublist.refl _ | exact List.filter_sublist) (by first | exact List.Sublist.refl _ | exact List.filter_sublist)) hns, Bind_snr]
    · intro r hidx
      have hC : w.Contacts.filter (fun c => !refK id c.Key) = w.Contacts := idx_none (fun c : Contact => refK id c.Key) _ hidx
      rw [if_neg (by simp), hC]
      refine (Bind_of (IF130 _ _ (refK id) (fun a => rb1_eq a id) (sm_of hso (by omega)))).trans ?_
      by_cases ho : idx (refK id) w.Overlaps 0 = -1
      · have hO : w.Overlaps.filter (fun k => !refK id k) = w.Overlaps := idx_none _ _ ho
        rw [ho, if_pos (by decide), hO]
        rw [show (([] : List Int) ++ (w.Joints.flatMap (fJ id) ++ w.Contacts.flatMap (fC id))) = nsP w id from rfl, wakeAllL_eq _ _ (smS w _ _ _ _ h hXs (by first | exact List.Sublist.refl _ | exact List.filter_sublist) (by first | exact List.Sublist.refl _ | exact List.filter_sublist) (by first | exact List.Sublist.refl _ | exact List.filter_sublist)) hns, Bind_snr]
      obtain ⟨ko, hko⟩ := idx_ne _ _ ho
      rw [hko, if_neg (by simp)]
      refine LOOP_delR w.Overlaps (refK id) _ ko _ (sm_of hso (by omega)) hko ?_ ?_
      · intro r i j s hwi hwj hij hjs hsl
        have hcj : (0 : Int) ≤ (j : Int) ∧ (j : Int) < (s.length : Int) := by omega
        have hci : (0 : Int) ≤ (i : Int) ∧ (i : Int) < (s.length : Int) := by omega
        rw [if_pos (dlt hcj), Chk_of hcj, Chk_of hcj, rb1_eq, Bind_snr, hwj]
        cases hq : refK id (ix s (j : Int))
        · rw [if_pos (by decide), Chk_of hci, Chk_of hci, hwi, if_neg (by decide)]; rfl
        · rw [if_neg (by decide), if_pos (by decide)]
      intro r i s his hsl hF
      rw [if_neg (by simp)]
      simp only [Int.toNat_natCast, Option.getD_some, Option.getD_none, Nat.sub_zero]
      have l1 : (s.take i).length = i := by simp; omega
      rw [Chk_of (by omega), Chk_of (by omega)]
      simp only [List.append_assoc, take_app_len (s.take i) _ _ l1.symm]
      rw [Chk_of (by simp; omega), Chk_of (by simp; omega)]
      simp only [hF]
      rw [show (([] : List Int) ++ (w.Joints.flatMap (fJ id) ++ w.Contacts.flatMap (fC id))) = nsP w id from rfl, wakeAllL_eq _ _ (smS w _ _ _ _ h hXs (by first | exact List.Sublist.refl _ | exact List.filter_sublist) (by first | exact List.Sublist.refl _ | exact List.filter_sublist) (by first | exact List.Sublist.refl _ | exact List.filter_sublist)) hns, Bind_snr]
  obtain ⟨kj, hkj⟩ := idx_ne _ _ hj
  rw [hkj, if_neg (by simp)]
  refine LOOP_delR w.Joints (att id) _ kj _ (sm_of hsj (by omega)) hkj ?_ ?_
  · intro r i j s hwi hwj hij hjs hsl
    have hcj : (0 : Int) ≤ (j : Int) ∧ (j : Int) < (s.length : Int) := by omega
    have hci : (0 : Int) ≤ (i : Int) ∧ (i : Int) < (s.length : Int) := by omega
    rw [if_pos (dlt hcj), Chk_of hcj, Chk_of hcj, rb2_eq, Bind_snr, hwj]
    cases hq : att id (ix s (j : Int))
    · rw [if_pos (by decide), Chk_of hci, Chk_of hci, hwi, if_neg (by decide)]; rfl
    · rw [if_neg (by decide), if_pos (by decide)]
  intro r i s his hsl hF
  rw [if_neg (by simp)]
  simp only [Int.toNat_natCast, Option.getD_some, Option.getD_none, Nat.sub_zero]
  have l1 : (s.take i).length = i := by simp; omega
  rw [Chk_of (by omega), Chk_of (by omega)]
  simp only [List.append_assoc, take_app_len (s.take i) _ _ l1.symm]
  rw [Chk_of (by simp; omega), Chk_of (by simp; omega)]
  simp only [hF]
  refine LOOP_findR w.Contacts (fun c => refK id c.Key) _ _ (sm_of hsc (by omega)) ?_ ?_ ?_
  · intro r i hw hc hq
    rw [if_pos (dlt hc), Chk_of hc, Chk_of hc, rb1_eq, Bind_snr, if_neg (by simpa using hq), hw]
  · intro r i hc hidx hq
    have n1 : ¬ ((i : Int) == -1) = true := by simp
    rw [if_pos (dlt hc), Chk_of hc, Chk_of hc, rb1_eq, Bind_snr, if_pos hq, if_neg n1]
    refine LOOP_delR w.Contacts (fun c => refK id c.Key) _ i _ (sm_of hsc (by omega)) hidx ?_ ?_
    · intro r i j s hwi hwj hij hjs hsl
      have hcj : (0 : Int) ≤ (j : Int) ∧ (j : Int) < (s.length : Int) := by omega
      have hci : (0 : Int) ≤ (i : Int) ∧ (i : Int) < (s.length : Int) := by omega
      rw [if_pos (dlt hcj), Chk_of hcj, Chk_of hcj, rb1_eq, Bind_snr, hwj]
      cases hq : refK id (ix s (j : Int)).Key
      · rw [if_pos (by decide), Chk_of hci, Chk_of hci, hwi, if_neg (by decide)]; rfl
      · rw [if_neg (by decide), if_pos (by decide)]
    intro r i s his hsl hF
    rw [if_neg (by simp)]
    simp only [Int.toNat_natCast, Option.getD_some, Option.getD_none, Nat.sub_zero]
    have l1 : (s.take i).length = i := by simp; omega
    rw [Chk_of (by omega), Chk_of (by omega)]
    simp only [List.append_assoc, take_app_len (s.take i) _ _ l1.symm]
    rw [Chk_of (by simp; omega), Chk_of (by simp; omega)]
    simp only [hF]
    refine (Bind_of (IF130 _ _ (refK id) (fun a => rb1_eq a id) (sm_of hso (by omega)))).trans ?_
    by_cases ho : idx (refK id) w.Overlaps 0 = -1
    · have hO : w.Overlaps.filter (fun k => !refK id k) = w.Overlaps := idx_none _ _ ho
      rw [ho, if_pos (by decide), hO]
      rw [show (([] : List Int) ++ (w.Joints.flatMap (fJ id) ++ w.Contacts.flatMap (fC id))) = nsP w id from rfl, wakeAllL_eq _ _ (smS w _ _ _ _ h hXs (by first | exact List.Sublist.refl _ | exact List.filter_sublist) (by first | exact List.Sublist.refl _ | exact List.filter_sublist) (by first | exact List.Sublist.refl _ | exact List.filter_sublist)) hns, Bind_snr]
    obtain ⟨ko, hko⟩ := idx_ne _ _ ho
    rw [hko, if_neg (by simp)]
    refine LOOP_delR w.Overlaps (refK id) _ ko _ (sm_of hso (by omega)) hko ?_ ?_
    · intro r i j s hwi hwj hij hjs hsl
      have hcj : (0 : Int) ≤ (j : Int) ∧ (j : Int) < (s.length : Int) := by omega
      have hci : (0 : Int) ≤ (i : Int) ∧ (i : Int) < (s.length : Int) := by omega
      rw [if_pos (dlt hcj), Chk_of hcj, Chk_of hcj, rb1_eq, Bind_snr, hwj]
      cases hq : refK id (ix s (j : Int))
      · rw [if_pos (by decide), Chk_of hci, Chk_of hci, hwi, if_neg (by decide)]; rfl
      · rw [if_neg (by decide), if_pos (by decide)]
    intro r i s his hsl hF
    rw [if_neg (by simp)]
    simp only [Int.toNat_natCast, Option.getD_some, Option.getD_none, Nat.sub_zero]
    have l1 : (s.take i).length = i := by simp; omega
    rw [Chk_of (by omega), Chk_of (by omega)]
    simp only [List.append_assoc, take_app_len (s.take i) _ _ l1.symm]
    rw [Chk_of (by simp; omega), Chk_of (by simp; omega)]
    simp only [hF]
    rw [show (([] : List Int) ++ (w.Joints.flatMap (fJ id) ++ w.Contacts.flatMap (fC id))) = nsP w id from rfl, wakeAllL_eq _ _ (smS w _ _ _ _ h hXs (by first | exact List.Sublist.refl _ | exact List.filter_sublist) (by first | exact List.Sublist.refl _ | exact List.filter_sublist) (by first | exact List.Sublist.refl _ | exact List.filter_sublist)) hns, Bind_snr]
  · intro r hidx
    have hC : w.Contacts.filter (fun c => !refK id c.Key) = w.Contacts := idx_none (fun c : Contact => refK id c.Key) _ hidx
    rw [if_neg (by simp), hC]
    refine (Bind_of (IF130 _ _ (refK id) (fun a => rb1_eq a id) (sm_of hso (by omega)))).trans ?_
    by_cases ho : idx (refK id) w.Overlaps 0 = -1
    · have hO : w.Overlaps.filter (fun k => !refK id k) = w.Overlaps := idx_none _ _ ho
      rw [ho, if_pos (by decide), hO]
      rw [show (([] : List Int) ++ (w.Joints.flatMap (fJ id) ++ w.Contacts.flatMap (fC id))) = nsP w id from rfl, wakeAllL_eq _ _ (smS w _ _ _ _ h hXs (by first | exact List.Sublist.refl _ | exact List.filter_sublist) (by first | exact List.Sublist.refl _ | exact List.filter_sublist) (by first | exact List.Sublist.refl _ | exact List.filter_sublist)) hns, Bind_snr]
    obtain ⟨ko, hko⟩ := idx_ne _ _ ho
    rw [hko, if_neg (by simp)]
    refine LOOP_delR w.Overlaps (refK id) _ ko _ (sm_of hso (by omega)) hko ?_ ?_
    · intro r i j s hwi hwj hij hjs hsl
      have hcj : (0 : Int) ≤ (j : Int) ∧ (j : Int) < (s.length : Int) := by omega
      have hci : (0 : Int) ≤ (i : Int) ∧ (i : Int) < (s.length : Int) := by omega
      rw [if_pos (dlt hcj), Chk_of hcj, Chk_of hcj, rb1_eq, Bind_snr, hwj]
      cases hq : refK id (ix s (j : Int))
      · rw [if_pos (by decide), Chk_of hci, Chk_of hci, hwi, if_neg (by decide)]; rfl
      · rw [if_neg (by decide), if_pos (by decide)]
    intro r i s his hsl hF
    rw [if_neg (by simp)]
    simp only [Int.toNat_natCast, Option.getD_some, Option.getD_none, Nat.sub_zero]
    have l1 : (s.take i).length = i := by simp; omega
    rw [Chk_of (by omega), Chk_of (by omega)]
    simp only [List.append_assoc, take_app_len (s.take i) _ _ l1.symm]
    rw [Chk_of (by simp; omega), Chk_of (by simp; omega)]
    simp only [hF]
    rw [show (([] : List Int) ++ (w.Joints.flatMap (fJ id) ++ w.Contacts.flatMap (fC id))) = nsP w id from rfl, wakeAllL_eq _ _ (smS w _ _ _ _ h hXs (by first | exact List.Sublist.refl _ | exact List.filter_sublist) (by first | exact List.Sublist.refl _ | exact List.filter_sublist) (by first | exact List.Sublist.refl _ | exact List.filter_sublist)) hns, Bind_snr]
end GoForm


set_option linter.all false
set_option maxRecDepth 100000
open Go Go.Rx

namespace GoForm
def uniq (l : List Body) : Prop := l.Pairwise (fun a b => a.ID ≠ b.ID)
theorem vbs_facts (N : Int) : ∀ (l : List Body) (i : Nat) (p : Int), vbs N l i p = true → (∀ b ∈ l, p < b.ID) ∧ l.Pairwise (fun a b => a.ID < b.ID)
  | [], _, _, _ => ⟨by simp, .nil⟩
  | b :: t, i, p, h => by
    unfold vbs at h
    split at h
    · cases h
    · rename_i hc
      simp only [Bool.or_eq_true, decide_eq_true_eq, not_or] at hc
      obtain ⟨h1, h2⟩ := vbs_facts N t (i + 1) b.ID h
      refine ⟨?_, .cons h1 h2⟩
      intro x hx
      rcases List.mem_cons.1 hx with rfl | hx
      · omega
      · have := h1 x hx; omega
theorem valid_facts {w : World_} (h : wv w = 0) : posI w ∧ uniq w.Bodies := by
  have hb : vbs w.NextID w.Bodies 0 0 = true := by
    cases hv : vbs w.NextID w.Bodies 0 0
    · unfold wv at h
      rw [hv] at h
      exfalso
      repeat' split at h
      all_goals first | omega | simp at *
    · rfl
  obtain ⟨h1, h2⟩ := vbs_facts _ _ _ _ hb
  exact ⟨fun b hb => by have := h1 b hb; omega, h2.imp (fun h => by omega)⟩
def wkIf (p : Int → Bool) (b : Body) : Body := if p b.ID = true ∧ b.Kind = 3 then wkB b else b
theorem wkIf_ID (p : Int → Bool) (b : Body) : (wkIf p b).ID = b.ID := by unfold wkIf; split <;> rfl
theorem wkIf_wkIf (p q : Int → Bool) (b : Body) : wkIf q (wkIf p b) = wkIf (fun i => p i || q i) b := by
  unfold wkIf
  by_cases h1 : p b.ID = true <;> by_cases h2 : q b.ID = true <;> by_cases h3 : b.Kind = 3 <;> simp [h1, h2, h3, wkB]
theorem uniq_map (p : Int → Bool) (l : List Body) (h : uniq l) : uniq (l.map (wkIf p)) := by
  unfold uniq at h ⊢
  rw [List.pairwise_map]
  exact h.imp (fun h => by rw [wkIf_ID, wkIf_ID]; exact h)
theorem wkIf_none (p : Int → Bool) : ∀ l : List Body, (∀ b ∈ l, p b.ID = false) → l.map (wkIf p) = l
  | [], _ => rfl
  | b :: t, h => by
    rw [List.map_cons, wkIf_none p t (fun x hx => h x (by simp [hx]))]
    have := h b (by simp)
    unfold wkIf; rw [this]; simp
theorem wake_list : ∀ (l : List Body) (a : Int) (i k : Nat), uniq l → idx (fun b : Body => b.ID == a) l i = (k : Int) → i ≤ k ∧ k - i < l.length ∧
    (if (ix l ((k - i : Nat) : Int)).Kind = 3 then l.set (k - i) (wkB (ix l ((k - i : Nat) : Int))) else l) = l.map (wkIf (fun x => x == a))
  | [], a, i, k, _, h => by simp [idx] at h
  | b :: t, a, i, k, hu, h => by
    have hu2 : uniq t := (List.pairwise_cons.1 hu).2
    cases hq : (b.ID == a)
    · rw [idx_shift (fun b : Body => b.ID == a) _ _ _ hq] at h
      obtain ⟨h1, h2, h3⟩ := wake_list t a (i + 1) k hu2 h
      have e : k - i = (k - (i + 1)) + 1 := by omega
      refine ⟨by omega, by simp; omega, ?_⟩
      rw [List.map_cons, ← h3, e]
      have hb : wkIf (fun x => x == a) b = b := if_neg (by rintro ⟨q, _⟩; have q : (b.ID == a) = true := q; rw [hq] at q; cases q)
      rw [hb]
      show (if (ix t ((k - (i + 1) : Nat) : Int)).Kind = 3 then (b :: t).set ((k - (i + 1)) + 1) (wkB (ix t ((k - (i + 1) : Nat) : Int))) else b :: t) = _
      split <;> rfl
    · rw [idx, if_pos hq] at h
      have : k = i := by omega
      subst this
      rw [Nat.sub_self]
      refine ⟨Nat.le_refl _, by simp, ?_⟩
      have ha : b.ID = a := by simpa using hq
      have hn : t.map (wkIf (fun x => x == a)) = t := wkIf_none _ t (fun x hx => by
        have := (List.pairwise_cons.1 hu).1 x hx
        rw [ha] at this
        simpa using fun q => this q.symm)
      rw [List.map_cons, hn]
      show (if b.Kind = 3 then wkB b :: t else b :: t) = _
      unfold wkIf
      by_cases h3 : b.Kind = 3 <;> simp [hq, h3]
theorem wakeW_map (w : World_) (a : Int) (h : uniq w.Bodies) : wakeW w a = { w with Bodies := w.Bodies.map (wkIf (fun x => x == a)) } := by
  unfold wakeW
  rcases fb_cases w a with hk | ⟨k, hk, hl⟩
  · rw [hk, if_neg (by simp)]
    have hn : w.Bodies.map (wkIf (fun x => x == a)) = w.Bodies := wkIf_none _ _ (fun b hb => by
      have h2 := idx_any (fun b : Body => b.ID == a) w.Bodies 0
      unfold fb at hk
      rw [hk] at h2
      have h3 : w.Bodies.any (fun b : Body => b.ID == a) = false := by rw [← h2]; rfl
      rw [List.any_eq_false] at h3
      have := h3 b hb
      simpa using this)
    rw [hn]
  · obtain ⟨_, _, h3⟩ := wake_list w.Bodies a 0 k h hk
    rw [Nat.sub_zero] at h3
    rw [hk, Int.toNat_natCast, ← h3]
    by_cases hk3 : (ix w.Bodies (k : Int)).Kind = 3
    · rw [if_pos (by simp [hk3]), if_pos hk3]
    · rw [if_neg (by simp [hk3]), if_neg hk3]
theorem wkIf_congr {p q : Int → Bool} : ∀ {l : List Body}, (∀ b ∈ l, p b.ID = q b.ID) → l.map (wkIf p) = l.map (wkIf q)
  | [], _ => rfl
  | b :: t, h => by
    rw [List.map_cons, List.map_cons, wkIf_congr (fun x hx => h x (by simp [hx]))]
    unfold wkIf; rw [h b (by simp)]
theorem map_map_wk (p q : Int → Bool) (l : List Body) : (l.map (wkIf p)).map (wkIf q) = l.map (wkIf (fun i => p i || q i)) := by
  rw [List.map_map]; congr 1; funext b; exact wkIf_wkIf p q b
theorem mem_ID_map {p : Int → Bool} {l : List Body} {Q : Int → Prop} (h : ∀ b ∈ l, Q b.ID) : ∀ b ∈ l.map (wkIf p), Q b.ID := by
  intro b hb
  obtain ⟨x, hx, rfl⟩ := List.mem_map.1 hb
  rw [wkIf_ID]; exact h x hx
theorem wakeL_map : ∀ (ns : List Int) (w : World_), uniq w.Bodies → (∀ b ∈ w.Bodies, b.ID ≠ 0) → wakeL w ns = { w with Bodies := w.Bodies.map (wkIf (fun x => decide (x ∈ ns))) }
  | [], w, _, _ => by
    unfold wakeL
    rw [wkIf_none _ _ (fun b _ => by simp)]
  | a :: t, w, hu, hz => by
    unfold wakeL
    by_cases ha : a = 0
    · rw [if_pos ha, wakeL_map t w hu hz]
      congr 1
      apply wkIf_congr
      intro b hb
      have := hz b hb
      simp [ha, this]
    · rw [if_neg ha, wakeW_map w a hu, wakeL_map t _ (uniq_map _ _ hu) (mem_ID_map (Q := fun i => i ≠ 0) hz)]
      simp only [map_map_wk]
      congr 1
      apply wkIf_congr
      intro b hb
      simp [Bool.beq_eq_decide_eq]
end GoForm


set_option linter.all false
set_option maxRecDepth 100000
open Go Go.Rx

namespace GoForm
abbrev Sig := List (Int × Nat)
def sg (b : Body) : Int × Nat := (b.ID, b.Fixtures.length)
def sgs (w : World_) : Sig := w.Bodies.map sg
def hasB (S : Sig) (id : Int) : Prop := ∃ s ∈ S, s.1 = id
def hasF (S : Sig) (id n : Int) : Prop := ∃ s ∈ S, s.1 = id ∧ 0 ≤ n ∧ n < (s.2 : Int)
def KS (S : Sig) (l : List PairKey) : Prop := (∀ k ∈ l, okK k = true ∧ hasF S k.BodyA k.FixtureA ∧ hasF S k.BodyB k.FixtureB) ∧ l.Pairwise (fun a b => lessK a b = true)
structure RV (S : Sig) (N : Int) (st : Settings) (fr : Int) (J : List Joint) (C : List Contact) (O : List PairKey) : Prop where
  set : vset st = 0
  nb : S.length ≤ 32
  nj : J.length ≤ 32
  nc : C.length ≤ 8192
  no : O.length ≤ 8192
  nid : 1 ≤ N ∧ N ≤ 1099511627776
  frm : inb fr 0 1099511627776 = true
  bid : ∀ s ∈ S, 0 < s.1 ∧ s.1 < N
  bsrt : S.Pairwise (fun a b => a.1 < b.1)
  jnt : ∀ j ∈ J, jv j = 0 ∧ 0 < j.ID ∧ j.ID < N ∧ (j.BodyA = 0 ∨ hasB S j.BodyA) ∧ (j.BodyB = 0 ∨ hasB S j.BodyB) ∧ ¬ hasB S j.ID
  jsrt : J.Pairwise (fun a b => a.ID < b.ID)
  man : ∀ c ∈ C, mOk c.Manifold = true
  ck : KS S (C.map (·.Key))
  ok : KS S O
def BV (w : World_) : Prop := ∀ b ∈ w.Bodies, GoOld.validB b = 0
def VW (w : World_) : Prop := BV w ∧ RV (sgs w) w.NextID w.Settings w.Frame w.Joints w.Contacts w.Overlaps
theorem vbs_iff (N : Int) : ∀ (l : List Body) (i : Nat) (p : Int), vbs N l i p = true ↔ (∀ b ∈ l, GoOld.validB b = 0 ∧ b.ID < N ∧ p < b.ID) ∧ l.Pairwise (fun a b => a.ID < b.ID)
  | [], _, _ => by simp [vbs]
  | b :: t, i, p => by
    unfold vbs
    by_cases hc : GoOld.validB b = 0 ∧ b.ID < N ∧ p < b.ID
    · rw [if_neg (by simp [hc.1]; omega), vbs_iff N t (i + 1) b.ID, List.pairwise_cons]
      constructor
      · rintro ⟨h1, h2⟩
        refine ⟨?_, fun x hx => (h1 x hx).2.2, h2⟩
        intro x hx
        rcases List.mem_cons.1 hx with rfl | hx
        · exact hc
        · have := h1 x hx; exact ⟨this.1, this.2.1, by omega⟩
      · rintro ⟨h1, h2, h3⟩
        exact ⟨fun x hx => ⟨(h1 x (by simp [hx])).1, (h1 x (by simp [hx])).2.1, h2 x hx⟩, h3⟩
    · rw [if_pos (by simp; omega)]
      constructor
      · intro h; cases h
      · rintro ⟨h1, _⟩; exact absurd (h1 b (by simp)) hc
theorem fb_has (w : World_) (id : Int) : 0 ≤ fb w id ↔ hasB (sgs w) id := by
  have h := idx_any (fun b : Body => b.ID == id) w.Bodies 0
  have h2 : (0 ≤ fb w id) ↔ w.Bodies.any (fun b : Body => b.ID == id) = true := by rw [← h, decide_eq_true_iff]; rfl
  rw [h2, List.any_eq_true]
  unfold hasB sgs
  constructor
  · rintro ⟨b, hb, he⟩; exact ⟨sg b, List.mem_map.2 ⟨b, hb, rfl⟩, by have he : (b.ID == id) = true := he; show b.ID = id; simpa using he⟩
  · rintro ⟨s, hs, he⟩
    obtain ⟨b, hb, rfl⟩ := List.mem_map.1 hs
    exact ⟨b, hb, by simpa [sg] using he⟩
theorem exw_has (w : World_) (id n : Int) (hs : (sgs w).Pairwise (fun a b => a.1 < b.1)) : exw w id n = true ↔ hasF (sgs w) id n := by
  unfold exw
  simp only [Bool.and_eq_true, decide_eq_true_eq]
  constructor
  · rintro ⟨⟨h1, h2⟩, h3⟩
    rcases fb_cases w id with hk | ⟨k, hk, hl⟩
    · omega
    · have hm := ix_mem w.Bodies (k : Int) (by omega)
      have hid := idx_ix (fun b : Body => b.ID == id) w.Bodies 0 (by unfold fb at hk; omega)
      unfold fb at hk
      rw [hk] at hid
      have hk2 : fb w id = (k : Int) := hk
      rw [hk2] at h3
      exact ⟨sg (ix w.Bodies (k : Int)), List.mem_map.2 ⟨_, hm, rfl⟩, by show (ix w.Bodies (k : Int)).ID = id; simpa using hid, h2, h3⟩
  · rintro ⟨s, hsm, h1, h2, h3⟩
    have hb : hasB (sgs w) id := ⟨s, hsm, h1⟩
    have hf := (fb_has w id).2 hb
    refine ⟨⟨hf, h2⟩, ?_⟩
    rcases fb_cases w id with hk | ⟨k, hk, hl⟩
    · omega
    · have hm := ix_mem w.Bodies (k : Int) (by omega)
      have hid := idx_ix (fun b : Body => b.ID == id) w.Bodies 0 (by unfold fb at hk; omega)
      have hk2 : fb w id = (k : Int) := hk
      unfold fb at hk
      rw [hk] at hid
      rw [hk2]
      have hid2 : (ix w.Bodies (k : Int)).ID = id := by simpa using hid
      have hsg : sg (ix w.Bodies (k : Int)) ∈ sgs w := List.mem_map.2 ⟨_, hm, rfl⟩
      have : s = sg (ix w.Bodies (k : Int)) := by
        by_cases he : s = sg (ix w.Bodies (k : Int))
        · exact he
        · exfalso
          have := List.Pairwise.forall_of_forall_of_flip (R := fun a b : Int × Nat => a = b ∨ a.1 ≠ b.1) (l := sgs w) (fun x _ => Or.inl rfl) (hs.imp (fun h => Or.inr (by omega))) (hs.imp (fun h => by right; show _ ≠ _; omega)) hsm hsg
          rcases this with h | h
          · exact he h
          · exact h (by rw [h1]; exact hid2.symm)
      rw [this] at h3
      exact h3
theorem jcon_has (w : World_) (j : Joint) : jcon w j = true ↔ (j.BodyA = 0 ∨ hasB (sgs w) j.BodyA) ∧ (j.BodyB = 0 ∨ hasB (sgs w) j.BodyB) := by
  unfold jcon
  simp only [Bool.and_eq_true, Bool.or_eq_true, beq_iff_eq, decide_eq_true_eq, fb_has]
theorem vjs_iff (w : World_) : ∀ (l : List Joint) (i : Nat) (p : Int), vjs w l i p = true ↔ (∀ j ∈ l, jv j = 0 ∧ j.ID < w.NextID ∧ p < j.ID ∧ jcon w j = true ∧ ¬ hasB (sgs w) j.ID) ∧ l.Pairwise (fun a b => a.ID < b.ID)
  | [], _, _ => by simp [vjs]
  | j :: t, i, p => by
    unfold vjs
    by_cases hc : jv j = 0 ∧ j.ID < w.NextID ∧ p < j.ID ∧ jcon w j = true ∧ ¬ hasB (sgs w) j.ID
    · have hf : ¬ 0 ≤ fb w j.ID := fun h => hc.2.2.2.2 ((fb_has w j.ID).1 h)
      rw [if_neg (by simp [hc.1, hc.2.2.2.1]; omega), vjs_iff w t (i + 1) j.ID, List.pairwise_cons]
      constructor
      · rintro ⟨h1, h2⟩
        refine ⟨?_, fun x hx => (h1 x hx).2.2.1, h2⟩
        intro x hx
        rcases List.mem_cons.1 hx with rfl | hx
        · exact hc
        · have := h1 x hx; exact ⟨this.1, this.2.1, by omega, this.2.2.2⟩
      · rintro ⟨h1, h2, h3⟩
        exact ⟨fun x hx => ⟨(h1 x (by simp [hx])).1, (h1 x (by simp [hx])).2.1, h2 x hx, (h1 x (by simp [hx])).2.2.2⟩, h3⟩
    · rw [if_pos]
      · constructor
        · intro h; cases h
        · rintro ⟨h1, _⟩; exact absurd (h1 j (by simp)) hc
      · rw [← fb_has] at hc
        simp only [Bool.or_eq_true, bne_iff_ne, decide_eq_true_eq, Bool.not_eq_true', ne_eq]
        cases hj : jcon w j
        · simp
        · simp [hj] at hc ⊢; omega
theorem lessK_trans {a b c : PairKey} (h1 : lessK a b = true) (h2 : lessK b c = true) : lessK a c = true := by
  unfold lessK at h1 h2 ⊢
  repeat' split at h1
  all_goals repeat' split at h2
  all_goals repeat' split
  all_goals (simp only [decide_eq_true_eq] at *; omega)
theorem vks_iff : ∀ (l : List PairKey) (i : Nat) (p : PairKey), vks l i p = true ↔ (∀ k ∈ l, okK k = true ∧ (0 < i → lessK p k = true)) ∧ l.Pairwise (fun a b => lessK a b = true)
  | [], _, _ => by simp [vks]
  | k :: t, i, p => by
    unfold vks
    by_cases hc : okK k = true ∧ (0 < i → lessK p k = true)
    · rw [if_neg, vks_iff t (i + 1) k, List.pairwise_cons]
      · constructor
        · rintro ⟨h1, h2⟩
          refine ⟨?_, fun x hx => (h1 x hx).2 (by omega), h2⟩
          intro x hx
          rcases List.mem_cons.1 hx with rfl | hx
          · exact hc
          · exact ⟨(h1 x hx).1, fun hi => lessK_trans (hc.2 hi) ((h1 x hx).2 (by omega))⟩
        · rintro ⟨h1, h2, h3⟩
          exact ⟨fun x hx => ⟨(h1 x (by simp [hx])).1, fun _ => h2 x hx⟩, h3⟩
      · simp only [Bool.or_eq_true, Bool.not_eq_true', Bool.and_eq_true, decide_eq_true_eq, not_or, not_and, hc.1]
        exact ⟨by simp, fun hi => by simp [hc.2 (by omega)]⟩
    · rw [if_pos]
      · constructor
        · intro h; cases h
        · rintro ⟨h1, _⟩; exact absurd (h1 k (by simp)) hc
      · simp only [Bool.or_eq_true, Bool.not_eq_true', Bool.and_eq_true, decide_eq_true_eq]
        cases ho : okK k
        · exact Or.inl rfl
        · right
          rw [ho] at hc
          by_cases hi : 0 < i
          · refine ⟨by omega, ?_⟩
            cases hl : lessK p k
            · rfl
            · exact absurd ⟨rfl, fun _ => hl⟩ hc
          · exact absurd ⟨rfl, fun h => absurd h hi⟩ hc
theorem wv_iff (w : World_) : wv w = 0 ↔ VW w := by
  have key : wv w = 0 ↔ vset w.Settings = 0 ∧ (w.Bodies.length ≤ 32 ∧ w.Joints.length ≤ 32 ∧ w.Contacts.length ≤ 8192 ∧ w.Overlaps.length ≤ 8192) ∧ (inb w.NextID 1 1099511627776 = true ∧ inb w.Frame 0 1099511627776 = true) ∧ vbs w.NextID w.Bodies 0 0 = true ∧ vjs w w.Joints 0 0 = true ∧ cOk w = true := by
    unfold wv
    cases h1 : inb w.NextID 1 1099511627776 <;> cases h2 : inb w.Frame 0 1099511627776 <;> cases h3 : vbs w.NextID w.Bodies 0 0 <;> cases h4 : vjs w w.Joints 0 0 <;> cases h5 : cOk w <;> simp only [bne_iff_ne, ne_eq, Bool.or_eq_true, decide_eq_true_eq, Bool.not_true, Bool.not_false, Bool.or_self, Bool.or_true, Bool.or_false, if_true, ff, if_false, and_false, false_and, and_true, true_and, iff_false, Bool.false_eq_true] <;> (repeat' split) <;> omega
  rw [key, vbs_iff, vjs_iff]
  unfold cOk
  simp only [Bool.and_eq_true, vks_iff, List.all_eq_true]
  constructor
  · rintro ⟨h1, ⟨n1, n2, n3, n4⟩, ⟨i1, i2⟩, ⟨b1, b2⟩, ⟨j1, j2⟩, m1, ⟨⟨c1, c2⟩, ⟨o1, o2⟩⟩, x1, x2⟩
    have hbs : (sgs w).Pairwise (fun a b => a.1 < b.1) := by unfold sgs; rw [List.pairwise_map]; exact b2
    refine ⟨fun b hb => (b1 b hb).1, h1, by unfold sgs; rw [List.length_map]; exact n1, n2, n3, n4, by unfold inb at i1; simpa using i1, i2, ?_, hbs, ?_, j2, m1, ⟨?_, c2⟩, ⟨?_, o2⟩⟩
    · intro s hs
      obtain ⟨b, hb, rfl⟩ := List.mem_map.1 hs
      exact ⟨(b1 b hb).2.2, (b1 b hb).2.1⟩
    · intro j hj
      have := j1 j hj
      have hc := (jcon_has w j).1 this.2.2.2.1
      exact ⟨this.1, this.2.2.1, this.2.1, hc.1, hc.2, this.2.2.2.2⟩
    · intro k hk
      have hx := x1 k hk
      unfold exk at hx
      rw [Bool.and_eq_true, exw_has w _ _ hbs, exw_has w _ _ hbs] at hx
      exact ⟨(c1 k hk).1, hx.1, hx.2⟩
    · intro k hk
      have hx := x2 k hk
      unfold exk at hx
      rw [Bool.and_eq_true, exw_has w _ _ hbs, exw_has w _ _ hbs] at hx
      exact ⟨(o1 k hk).1, hx.1, hx.2⟩
  · rintro ⟨hb, R⟩
    have hbs := R.bsrt
    have hex : ∀ k : PairKey, hasF (sgs w) k.BodyA k.FixtureA ∧ hasF (sgs w) k.BodyB k.FixtureB → exk w k = true := by
      intro k hk
      unfold exk
      rw [Bool.and_eq_true, exw_has w _ _ hbs, exw_has w _ _ hbs]; exact hk
    refine ⟨R.set, ⟨by have := R.nb; unfold sgs at this; rwa [List.length_map] at this, R.nj, R.nc, R.no⟩, ⟨by unfold inb; simpa using R.nid, R.frm⟩, ⟨?_, ?_⟩, ⟨?_, R.jsrt⟩, R.man, ⟨⟨fun k hk => ⟨(R.ck.1 k hk).1, fun h => absurd h (by omega)⟩, R.ck.2⟩, ⟨fun k hk => ⟨(R.ok.1 k hk).1, fun h => absurd h (by omega)⟩, R.ok.2⟩⟩, fun k hk => hex k (R.ck.1 k hk).2, fun k hk => hex k (R.ok.1 k hk).2⟩
    · intro b hbm
      have := R.bid (sg b) (List.mem_map.2 ⟨b, hbm, rfl⟩)
      exact ⟨hb b hbm, this.2, this.1⟩
    · have := hbs; unfold sgs at this; rw [List.pairwise_map] at this; exact this
    · intro j hj
      have := R.jnt j hj
      exact ⟨this.1, this.2.2.1, this.2.1, (jcon_has w j).2 ⟨this.2.2.2.1, this.2.2.2.2.1⟩, this.2.2.2.2.2⟩
end GoForm


set_option linter.all false
set_option maxRecDepth 100000
open Go Go.Rx

namespace GoForm
theorem wk_valid {b : Body} (h : GoOld.validB b = 0) (k : b.Kind = 3) : GoOld.validB (wkB b) = 0 := by
  rw [GoOld.validB_ok] at h ⊢
  obtain ⟨h1, h2, h3, h4, h5⟩ := h
  rw [GoOld.consB_iff] at h5 ⊢
  refine ⟨h1, ?_, h3, h4, ?_⟩
  · obtain ⟨r1, r2, r3, r4, r5, r6, r7, r8, r9, r10⟩ := h2
    exact ⟨r1, r2, r3, r4, r5, r6, r7, r8, r9, ⟨by show (0 : Int) ≤ 0; omega, by show (0 : Int) ≤ 1048576; omega⟩⟩
  · refine ⟨fun q => ?_, fun q => absurd k q, fun q => ?_⟩
    · have : b.Kind = 1 := q
      omega
    · cases (show false = true from q)
theorem sgs_wake (w : World_) (id : Int) (hu : uniq w.Bodies) : sgs (wakeW w id) = sgs w := by
  rw [wakeW_map w id hu]
  unfold sgs
  rw [List.map_map]
  congr 1
  funext b
  show sg (wkIf _ b) = sg b
  unfold wkIf sg
  split <;> rfl
theorem wake_eqs (w : World_) (id : Int) : (wakeW w id).NextID = w.NextID ∧ (wakeW w id).Settings = w.Settings ∧ (wakeW w id).Frame = w.Frame ∧ (wakeW w id).Joints = w.Joints ∧ (wakeW w id).Contacts = w.Contacts ∧ (wakeW w id).Overlaps = w.Overlaps := by
  unfold wakeW; split <;> exact ⟨rfl, rfl, rfl, rfl, rfl, rfl⟩
theorem uniq_of {w : World_} (h : RV (sgs w) w.NextID w.Settings w.Frame w.Joints w.Contacts w.Overlaps) : uniq w.Bodies := by
  have := h.bsrt
  unfold sgs at this
  rw [List.pairwise_map] at this
  exact this.imp (fun h => by unfold sg at h; simp only at h; omega)
/-- Waking where each body is valid once it is awake. -/
theorem wake_VW (w : World_) (id : Int) (hr : RV (sgs w) w.NextID w.Settings w.Frame w.Joints w.Contacts w.Overlaps) (hb : ∀ b ∈ w.Bodies, (b.ID = id → GoOld.validB (if b.Kind = 3 then wkB b else b) = 0) ∧ (b.ID ≠ id → GoOld.validB b = 0)) : VW (wakeW w id) := by
  have hu := uniq_of hr
  obtain ⟨e1, e2, e3, e4, e5, e6⟩ := wake_eqs w id
  refine ⟨?_, by rw [sgs_wake w id hu, e1, e2, e3, e4, e5, e6]; exact hr⟩
  rw [wakeW_map w id hu]
  intro c hc
  obtain ⟨b, hbm, rfl⟩ := List.mem_map.1 hc
  unfold wkIf
  by_cases hid : b.ID = id
  · have h1 := (hb b hbm).1 hid
    by_cases h3 : b.Kind = 3
    · rw [if_pos h3] at h1; rw [if_pos (by simp [hid, h3])]; exact h1
    · rw [if_neg h3] at h1; rw [if_neg (by simp [h3])]; exact h1
  · rw [if_neg (by simp [hid])]; exact (hb b hbm).2 hid
theorem wake_VW2 (w : World_) (id : Int) (h : VW w) : VW (wakeW w id) := by
  refine wake_VW w id h.2 (fun b hb => ⟨fun _ => ?_, fun _ => h.1 b hb⟩)
  split
  next h3 => exact wk_valid (h.1 b hb) h3
  next h3 => exact h.1 b hb
theorem wakeL_VW : ∀ (ns : List Int) (w : World_), VW w → VW (wakeL w ns)
  | [], w, h => h
  | a :: t, w, h => by
    unfold wakeL
    split
    · exact wakeL_VW t w h
    · exact wakeL_VW t _ (wake_VW2 _ _ h)
theorem hasB_mono {S T : Sig} (h : ∀ s ∈ S, s ∈ T) {id : Int} : hasB S id → hasB T id := fun ⟨s, hs, e⟩ => ⟨s, h s hs, e⟩
theorem hasF_mono {S T : Sig} (h : ∀ s ∈ S, s ∈ T) {id n : Int} : hasF S id n → hasF T id n := fun ⟨s, hs, e⟩ => ⟨s, h s hs, e⟩
theorem addW_VW (w : World_) (b : Body) (h : VW w) (hz : (addW w b).2.2 = 0) : VW (addW w b).1 := by
  obtain ⟨hb, R⟩ := h
  have h9 := R.nid
  unfold addW at hz ⊢
  split at hz
  · exact absurd hz (by simp)
  · rename_i hc
    split at hz
    · exact absurd hz (by simp)
    · rename_i hv
      rw [if_neg hc, if_neg hv]
      simp only [Bool.or_eq_true, decide_eq_true_eq, not_or] at hc
      have hw : IntKind.i64.wrap (w.NextID + 1) = w.NextID + 1 := wrap_in _ (by omega) (by omega)
      have hv0 : GoOld.validB { b with ID := w.NextID } = 0 := by simpa using hv
      have hS : sgs { w with Bodies := w.Bodies ++ [{ b with ID := w.NextID }], NextID := IntKind.i64.wrap (w.NextID + 1) } = sgs w ++ [(w.NextID, b.Fixtures.length)] := by unfold sgs; rw [List.map_append]; rfl
      have hsub : ∀ s ∈ sgs w, s ∈ sgs w ++ [(w.NextID, b.Fixtures.length)] := fun s hs => List.mem_append.2 (Or.inl hs)
      refine ⟨?_, ?_⟩
      · intro c hc2
        rcases List.mem_append.1 hc2 with hc2 | hc2
        · exact hb c hc2
        · rw [List.mem_singleton.1 hc2]; exact hv0
      · rw [hS]
        show RV _ (IntKind.i64.wrap (w.NextID + 1)) w.Settings w.Frame w.Joints w.Contacts w.Overlaps
        rw [hw]
        refine ⟨R.set, by rw [List.length_append]; unfold sgs; simp; omega, R.nj, R.nc, R.no, by omega, R.frm, ?_, ?_, ?_, R.jsrt, R.man, ⟨fun k hk => ?_, R.ck.2⟩, ⟨fun k hk => ?_, R.ok.2⟩⟩
        · intro s hs
          rcases List.mem_append.1 hs with hs | hs
          · have := R.bid s hs; omega
          · rw [List.mem_singleton.1 hs]; show 0 < w.NextID ∧ w.NextID < _; omega
        · rw [List.pairwise_append]
          refine ⟨R.bsrt, List.pairwise_singleton _ _, ?_⟩
          intro s hs t ht
          rw [List.mem_singleton.1 ht]
          exact (R.bid s hs).2
        · intro j hj
          have := R.jnt j hj
          refine ⟨this.1, this.2.1, by omega, this.2.2.2.1.imp id (hasB_mono hsub), this.2.2.2.2.1.imp id (hasB_mono hsub), ?_⟩
          rintro ⟨s, hs, e⟩
          rcases List.mem_append.1 hs with hs | hs
          · exact this.2.2.2.2.2 ⟨s, hs, e⟩
          · rw [List.mem_singleton.1 hs] at e
            have e : w.NextID = j.ID := e
            omega
        · have := R.ck.1 k hk; exact ⟨this.1, hasF_mono hsub this.2.1, hasF_mono hsub this.2.2⟩
        · have := R.ok.1 k hk; exact ⟨this.1, hasF_mono hsub this.2.1, hasF_mono hsub this.2.2⟩
theorem addJ_VW (w : World_) (j : Joint) (h : VW w) (hz : (addJ w j).2.2 = 0) : VW (addJ w j).1 := by
  obtain ⟨hb, R⟩ := h
  have h9 := R.nid
  unfold addJ at hz ⊢
  split at hz
  · exact absurd hz (by simp)
  · rename_i hc
    split at hz
    · exact absurd hz (by simp)
    · rename_i hv
      rw [if_neg hc, if_neg hv]
      simp only [Bool.or_eq_true, decide_eq_true_eq, not_or] at hc
      simp only [Bool.or_eq_true, bne_iff_ne, ne_eq, Bool.not_eq_true', not_or, Classical.not_not, Bool.not_eq_false] at hv
      have hw : IntKind.i64.wrap (w.NextID + 1) = w.NextID + 1 := wrap_in _ (by omega) (by omega)
      have hcon : jcon w (zJ w j) = true := by rw [← jex_con hv.1]; exact hv.2
      have hcon := (jcon_has w _).1 hcon
      refine wake_VW2 _ _ (wake_VW2 _ _ ⟨hb, ?_⟩)
      show RV (sgs w) (IntKind.i64.wrap (w.NextID + 1)) w.Settings w.Frame (w.Joints ++ [zJ w j]) w.Contacts w.Overlaps
      rw [hw]
      refine ⟨R.set, R.nb, by rw [List.length_append]; simp; omega, R.nc, R.no, by omega, R.frm, fun s hs => by have := R.bid s hs; omega, R.bsrt, ?_, ?_, R.man, R.ck, R.ok⟩
      · intro x hx
        rcases List.mem_append.1 hx with hx | hx
        · have := R.jnt x hx
          exact ⟨this.1, this.2.1, by omega, this.2.2.2⟩
        · rw [List.mem_singleton.1 hx]
          refine ⟨hv.1, by show 0 < w.NextID; omega, by show w.NextID < w.NextID + 1; omega, hcon.1, hcon.2, ?_⟩
          rintro ⟨s, hs, e⟩
          have e : s.1 = w.NextID := e
          have := R.bid s hs; omega
      · rw [List.pairwise_append]
        refine ⟨R.jsrt, List.pairwise_singleton _ _, ?_⟩
        intro s hs t ht
        rw [List.mem_singleton.1 ht]
        exact (R.jnt s hs).2.2.1
theorem RV_joints {S : Sig} {N : Int} {st : Settings} {fr : Int} {J J' : List Joint} {C : List Contact} {O : List PairKey} (R : RV S N st fr J C O) (h : J'.Sublist J) : RV S N st fr J' C O :=
  ⟨R.set, R.nb, Nat.le_trans h.length_le R.nj, R.nc, R.no, R.nid, R.frm, R.bid, R.bsrt, fun j hj => R.jnt j (h.subset hj), R.jsrt.sublist h, R.man, R.ck, R.ok⟩
theorem remJ_VW (w : World_) (id : Int) (h : VW w) (hz : (remJ w id).2 = 0) : VW (remJ w id).1 := by
  unfold remJ at hz ⊢
  split at hz
  · exact absurd hz (by simp)
  · rename_i hc
    rw [if_neg hc]
    exact wake_VW2 _ _ (wake_VW2 _ _ ⟨h.1, RV_joints h.2 (cutSub _ _)⟩)
theorem rmP_VW (w : World_) (id : Int) (h : VW w) (hz : (rmP w id).2 = 0) : VW (rmP w id).1 := by
  obtain ⟨hb, R⟩ := h
  unfold rmP at hz ⊢
  rcases fb_cases w id with hk | ⟨k, hk, hl⟩
  · rw [hk, if_pos (by decide)] at hz; exact absurd hz (by simp)
  · have n4 : ¬ ((k : Int) < 0) := by omega
    rw [hk, if_neg n4, Int.toNat_natCast]
    refine wakeL_VW _ _ ⟨fun b hbm => hb b ((cutSub w.Bodies k).subset hbm), ?_⟩
    have hid : (ix w.Bodies (k : Int)).ID = id := by
      have := idx_ix (fun b : Body => b.ID == id) w.Bodies 0 (by unfold fb at hk; omega)
      unfold fb at hk
      rw [hk] at this
      simpa using this
    have hsub : (sgs (rmW w id k)).Sublist (sgs w) := (cutSub w.Bodies k).map sg
    have hpos : 0 < id := by
      have := R.bid (sg (ix w.Bodies (k : Int))) (List.mem_map.2 ⟨_, ix_mem w.Bodies _ (by omega), rfl⟩)
      have := this.1
      unfold sg at this; simp only at this; omega
    have hkeep : ∀ s ∈ sgs w, s.1 ≠ id → s ∈ sgs (rmW w id k) := by
      intro s hs hne
      obtain ⟨b, hbm, rfl⟩ := List.mem_map.1 hs
      refine List.mem_map.2 ⟨b, ?_, rfl⟩
      have ht := List.take_append_drop k w.Bodies
      rw [drop_ix w.Bodies k hl] at ht
      rw [← ht] at hbm
      show b ∈ w.Bodies.take k ++ w.Bodies.drop (k + 1)
      rcases List.mem_append.1 hbm with hbm | hbm
      · exact List.mem_append.2 (Or.inl hbm)
      · rcases List.mem_cons.1 hbm with hbm | hbm
        · rw [hbm] at hne; exact absurd hid hne
        · exact List.mem_append.2 (Or.inr hbm)
    have kB : ∀ x : Int, x ≠ id → hasB (sgs w) x → hasB (sgs (rmW w id k)) x := fun x hx ⟨s, hs, e⟩ => ⟨s, hkeep s hs (by rw [e]; exact hx), e⟩
    have kF : ∀ x n : Int, x ≠ id → hasF (sgs w) x n → hasF (sgs (rmW w id k)) x n := fun x n hx ⟨s, hs, e⟩ => ⟨s, hkeep s hs (by rw [e.1]; exact hx), e⟩
    have kK : ∀ l : List PairKey, KS (sgs w) l → KS (sgs (rmW w id k)) (l.filter (fun k => !refK id k)) := by
      intro l hl
      refine ⟨?_, hl.2.sublist List.filter_sublist⟩
      intro q hq
      obtain ⟨hq1, hq2⟩ := List.mem_filter.1 hq
      have := hl.1 q hq1
      unfold refK at hq2
      simp only [Bool.not_eq_true', Bool.or_eq_false_iff, beq_eq_false_iff_ne, ne_eq] at hq2
      exact ⟨this.1, kF _ _ hq2.1 this.2.1, kF _ _ hq2.2 this.2.2⟩
    have hmap : (w.Contacts.filter (fun c => !refK id c.Key)).map (·.Key) = (w.Contacts.map (·.Key)).filter (fun k => !refK id k) := by
      rw [List.filter_map]; rfl
    refine ⟨R.set, Nat.le_trans hsub.length_le R.nb, Nat.le_trans (List.length_filter_le _ _) R.nj, Nat.le_trans (List.length_filter_le _ _) R.nc, Nat.le_trans (List.length_filter_le _ _) R.no, R.nid, R.frm, fun s hs => R.bid s (hsub.subset hs), R.bsrt.sublist hsub, ?_, R.jsrt.sublist List.filter_sublist, fun c hc => R.man c (List.filter_sublist.subset hc), ?_, kK _ R.ok⟩
    · intro j hj
      obtain ⟨hj1, hj2⟩ := List.mem_filter.1 hj
      have := R.jnt j hj1
      unfold att at hj2
      have hne : (id != 0) = true := by simp; omega
      rw [hne, Bool.true_and] at hj2
      simp only [Bool.not_eq_true', Bool.or_eq_false_iff, beq_eq_false_iff_ne, ne_eq] at hj2
      exact ⟨this.1, this.2.1, this.2.2.1, this.2.2.2.1.imp (fun h => h) (kB _ hj2.1), this.2.2.2.2.1.imp (fun h => h) (kB _ hj2.2), fun hh => this.2.2.2.2.2 (hasB_mono (fun s hs => hsub.subset hs) hh)⟩
    · show KS _ ((w.Contacts.filter (fun c => !refK id c.Key)).map (·.Key))
      rw [hmap]; exact kK _ R.ck
end GoForm


set_option linter.all false
set_option maxRecDepth 100000
open Go Go.Rx

namespace GoForm
theorem few_wake (w : World_) (id : Int) (h : Few w) : Few (wakeW w id) := by
  unfold wakeW
  split
  next hc =>
    have hx : ix w.Bodies (fb w id) ∈ w.Bodies := by
      rcases fb_cases w id with hk | ⟨k, hk, hl⟩
      · rw [hk] at hc; simp at hc
      · exact ix_mem w.Bodies _ (by omega)
    refine ⟨by simpa using h.bodies, h.joints, h.contacts, h.overlaps, h.points, ?_, ?_⟩
    · intro b hb
      rcases mem_set_or _ _ _ _ hb with hb | hb
      · exact h.fixtures b hb
      · rw [hb]; have hh := h.fixtures (ix w.Bodies (fb w id)) hx; exact hh
    · intro b hb
      rcases mem_set_or _ _ _ _ hb with hb | hb
      · exact h.vertices b hb
      · rw [hb]; have hh := h.vertices (ix w.Bodies (fb w id)) hx; exact hh
  · exact h
theorem few_wakeL : ∀ (ns : List Int) (w : World_), Few w → Few (wakeL w ns)
  | [], w, h => h
  | a :: t, w, h => by
    unfold wakeL
    split
    · exact few_wakeL t w h
    · exact few_wakeL t _ (few_wake _ _ h)
theorem few_zero : Few zeroW := nilW_few ⟨0, ⟨0, 0⟩, 0, 0⟩ 0
theorem few_joints (w : World_) (J : List Joint) (n : Int) (h : Few w) (hj : J.length ≤ 40) : Few { w with Joints := J, NextID := n } :=
  ⟨h.bodies, hj, h.contacts, h.overlaps, h.points, h.fixtures, h.vertices⟩
theorem few_sub (w : World_) (id : Int) (k : Nat) (h : Few w) : Few (rmW w id k) := by
  have hb := cutSub w.Bodies k
  exact ⟨Nat.le_trans hb.length_le h.bodies, Nat.le_trans (List.length_filter_le _ _) h.joints, Nat.le_trans (List.length_filter_le _ _) h.contacts, Nat.le_trans (List.length_filter_le _ _) h.overlaps,
    fun c hc => h.points c (List.filter_sublist.subset hc), fun b hm => h.fixtures b (hb.subset hm), fun b hm => h.vertices b (hb.subset hm)⟩
theorem few_addW (w : World_) (b : Body) (h : Few w) (hb : fewB b = true) : Few (addW w b).1 := by
  have hbb : b.Fixtures.length ≤ 8 ∧ ∀ f ∈ b.Fixtures, f.Shape.Vertices.length ≤ 20 := by
    unfold fewB at hb
    simp only [Bool.and_eq_true, decide_eq_true_eq, List.all_eq_true] at hb
    exact ⟨by omega, fun f hf => by have := hb.2 f hf; omega⟩
  unfold addW
  split
  · exact few_zero
  split
  · exact few_zero
  · rename_i hc _
    simp only [Bool.or_eq_true, decide_eq_true_eq, not_or] at hc
    refine ⟨by simp; omega, h.joints, h.contacts, h.overlaps, h.points, ?_, ?_⟩
    · intro b hm
      rcases List.mem_append.1 hm with hm | hm
      · exact h.fixtures b hm
      · rw [List.mem_singleton.1 hm]; exact hbb.1
    · intro b hm
      rcases List.mem_append.1 hm with hm | hm
      · exact h.vertices b hm
      · rw [List.mem_singleton.1 hm]; exact hbb.2
theorem few_addJ (w : World_) (j : Joint) (h : Few w) : Few (addJ w j).1 := by
  unfold addJ
  split
  · exact few_zero
  split
  · exact few_zero
  · rename_i hc _
    simp only [Bool.or_eq_true, decide_eq_true_eq, not_or] at hc
    exact few_wake _ _ (few_wake _ _ (few_joints w _ _ h (by simp; omega)))
theorem few_rmP (w : World_) (id : Int) (h : Few w) : Few (rmP w id).1 := by
  unfold rmP
  split
  · exact few_zero
  · exact few_wakeL _ _ (few_sub _ _ _ h)
theorem few_remJ (w : World_) (id : Int) (h : Few w) : Few (remJ w id).1 := by
  unfold remJ
  split
  · exact few_zero
  · exact few_wake _ _ (few_wake _ _ (few_joints w _ w.NextID h (by have := h.joints; simp; omega)))
theorem posI_of {w : World_} (h : VW w) : posI w := fun b hb => by
  have := h.2.bid (sg b) (List.mem_map.2 ⟨b, hb, rfl⟩)
  have := this.1
  unfold sg at this; simp only at this; omega
theorem wakeL_len : ∀ (ns : List Int) (w : World_), (wakeL w ns).Bodies.length = w.Bodies.length ∧ (wakeL w ns).NextID = w.NextID
  | [], w => ⟨rfl, rfl⟩
  | a :: t, w => by
    unfold wakeL
    split
    · exact wakeL_len t w
    · have h := wakeL_len t (wakeW w a)
      rw [h.1, h.2, (wake_eqs w a).1]
      refine ⟨?_, rfl⟩
      unfold wakeW; split <;> simp
theorem idx_app_none {α : Type} (q : α → Bool) (x : α) (hx : q x = true) : ∀ (l : List α) (i : Nat), (∀ y ∈ l, q y = false) → idx q (l ++ [x]) i = (i : Int) + (l.length : Int)
  | [], i, _ => by rw [List.nil_append, idx, if_pos hx]; simp
  | y :: t, i, h => by
    rw [List.cons_append, idx_shift q _ _ _ (h y (by simp)), idx_app_none q x hx t (i + 1) (fun z hz => h z (by simp [hz]))]
    simp; omega
end GoForm


set_option linter.all false
set_option maxRecDepth 100000
open Go Go.Rx

namespace GoForm
theorem EF_self (l : List Body) (g : Body × Body → Option Bool) (hl : Sm l) (hg : ∀ b ∈ l, g (b, b) = some true) : slices_EqualFunc l l g = some true := by
  unfold slices_EqualFunc
  simp only [Let_nr]
  rw [if_neg (by simp)]
  refine (LOOP_all l (fun _ => true) (some true) (some false) _ hl ?_ ?_).trans ?_
  · intro r i hw hc hm
    rw [if_pos (dlt hc), Chk_of hc, Chk_of hc, hg _ hm, Bind_snr, hw]; rfl
  · intro r; rw [if_neg (by simp)]
  · simp
theorem EF61_self (l : List Contact) (g : Contact × Contact → Option Bool) (hl : Sm l) (hg : ∀ b ∈ l, g (b, b) = some true) : slices_EqualFunc_87 l l g = some true := by
  unfold slices_EqualFunc_87
  simp only [Let_nr]
  rw [if_neg (by simp)]
  refine (LOOP_all l (fun _ => true) (some true) (some false) _ hl ?_ ?_).trans ?_
  · intro r i hw hc hm
    rw [if_pos (dlt hc), Chk_of hc, Chk_of hc, hg _ hm, Bind_snr, hw]; rfl
  · intro r; rw [if_neg (by simp)]
  · simp
theorem EJ_self (l : List Joint) (hl : Sm l) : slices_Equal l l = some true := by
  unfold slices_Equal
  simp only [Let_nr]
  rw [if_neg (by simp)]
  refine (LOOP_all l (fun _ => true) (some true) (some false) _ hl ?_ ?_).trans ?_
  · intro r i hw hc hm
    rw [if_pos (dlt hc), Chk_of hc, Chk_of hc, if_neg (by simp), hw]; rfl
  · intro r; rw [if_neg (by simp)]
  · simp
theorem EK_self (l : List PairKey) (hl : Sm l) : slices_Equal_88 l l = some true := by
  unfold slices_Equal_88
  simp only [Let_nr]
  rw [if_neg (by simp)]
  refine (LOOP_all l (fun _ => true) (some true) (some false) _ hl ?_ ?_).trans ?_
  · intro r i hw hc hm
    rw [if_pos (dlt hc), Chk_of hc, Chk_of hc, if_neg (by simp), hw]; rfl
  · intro r; rw [if_neg (by simp)]
  · simp
theorem EP_self (l : List ContactPoint) (hl : Sm l) : slices_Equal_116 l l = some true := by
  unfold slices_Equal_116
  simp only [Let_nr]
  rw [if_neg (by simp)]
  refine (LOOP_all l (fun _ => true) (some true) (some false) _ hl ?_ ?_).trans ?_
  · intro r i hw hc hm
    rw [if_pos (dlt hc), Chk_of hc, Chk_of hc, if_neg (by simp), hw]; rfl
  · intro r; rw [if_neg (by simp)]
  · simp
theorem EC_self (c : Contact) (h : c.Manifold.Points.length ≤ 10000) : world_Equal_1 c c = some true := by
  unfold world_Equal_1 manifold_Equal
  simp only [Let_nr, EP_self _ (sm_of h (by omega)), decide_true, Bool.and_self, beq_self_eq_true, if_true, Bind_snr, Bool.cond_true]
theorem EW_self (w : World_) (h : SmW w) : world_Equal w w = some true := by
  unfold world_Equal
  have h1 := EF_self w.Bodies (fun a => body_Equal a.fst a.snd) (sm_of h.bodies (by omega)) (fun b hb => by rw [body_Equal_eq' b b (h.body b hb)]; simp)
  have h2 := EF61_self w.Contacts (fun a => world_Equal_1 a.fst a.snd) (sm_of h.contacts (by omega)) (fun c hc => EC_self c (h.points c hc))
  simp only [Let_nr, decide_true, Bool.and_self, beq_self_eq_true, if_true, Bool.cond_true]
  refine (Bind_of h1).trans ?_
  simp only [Bool.cond_true, beq_self_eq_true, if_true, EJ_self _ (sm_of h.joints (by omega)), Bind_snr]
  refine (Bind_of h2).trans ?_
  simp only [Bool.cond_true, beq_self_eq_true, if_true, EK_self _ (sm_of h.overlaps (by omega)), Bind_snr]
end GoForm


set_option linter.all false
set_option maxRecDepth 100000
open Go Go.Rx

namespace GoForm
theorem Join_ok {V X : Type} {K : V → Option X} {b : (V → Option X) → Option X} {R : Option X} (hK : ∀ u, K u = R) (hb : ∀ K' : V → Option X, (∀ u, K' u = R) → b K' = R) : Join K b = R := by
  rw [Join_nr]; exact hb K hK
theorem not_has {w : World_} (h : VW w) : ¬ hasB (sgs w) w.NextID := by
  rintro ⟨s, hs, e⟩
  have := h.2.bid s hs; omega
theorem fb_none {w : World_} {id : Int} (h : ¬ hasB (sgs w) id) : fb w id = -1 := by
  rcases fb_cases w id with hk | ⟨k, hk, _⟩
  · exact hk
  · exact absurd ((fb_has w id).1 (by omega)) h
def awB (w : World_) (b : Body) : World_ := { w with Bodies := w.Bodies ++ [{ b with ID := w.NextID }], NextID := IntKind.i64.wrap (w.NextID + 1) }
theorem fb_aw (w : World_) (b : Body) (h : VW w) : fb (awB w b) w.NextID = (w.Bodies.length : Int) := by
  unfold fb awB
  rw [idx_app_none (fun c : Body => c.ID == w.NextID) _ (by simp) w.Bodies 0 ?_]
  · simp
  · intro y hy
    have := h.2.bid (sg y) (List.mem_map.2 ⟨y, hy, rfl⟩)
    have := this.2
    unfold sg at this
    simp only at this ⊢
    have hne : ¬ y.ID = w.NextID := by omega
    simpa using hne
theorem rm_aw (w : World_) (b : Body) (h : VW w) : rmP (awB w b) w.NextID = ({ w with NextID := IntKind.i64.wrap (w.NextID + 1) }, 0) := by
  have hf := fb_aw w b h
  have hlt : ∀ x : Int, hasB (sgs w) x → x < w.NextID := by
    rintro x ⟨s, hs, e⟩; have := h.2.bid s hs; omega
  have hltF : ∀ x n : Int, hasF (sgs w) x n → x ≠ w.NextID := by
    rintro x n ⟨s, hs, e, _⟩; have := h.2.bid s hs; omega
  have hN := h.2.nid
  have hJ : ∀ j ∈ w.Joints, att w.NextID j = false := by
    intro j hj
    have := h.2.jnt j hj
    have hA : j.BodyA ≠ w.NextID := by
      rcases this.2.2.2.1 with q | q
      · omega
      · have := hlt _ q; omega
    have hB : j.BodyB ≠ w.NextID := by
      rcases this.2.2.2.2.1 with q | q
      · omega
      · have := hlt _ q; omega
    unfold att; simp [hA, hB]
  have hC : ∀ c ∈ w.Contacts, refK w.NextID c.Key = false := by
    intro c hc
    have := h.2.ck.1 c.Key (List.mem_map.2 ⟨c, hc, rfl⟩)
    unfold refK; simp [hltF _ _ this.2.1, hltF _ _ this.2.2]
  have hO : ∀ k ∈ w.Overlaps, refK w.NextID k = false := by
    intro k hk
    have := h.2.ok.1 k hk
    unfold refK; simp [hltF _ _ this.2.1, hltF _ _ this.2.2]
  unfold rmP
  have n4 : ¬ ((w.Bodies.length : Int) < 0) := by omega
  rw [hf, if_neg n4, Int.toNat_natCast]
  have hns : nsP (awB w b) w.NextID = [] := by
    unfold nsP
    have e1 : (awB w b).Joints.flatMap (fJ w.NextID) = [] := by
      rw [List.flatMap_eq_nil_iff]; intro j hj; exact if_neg (by rw [hJ j hj]; decide)
    have e2 : (awB w b).Contacts.flatMap (fC w.NextID) = [] := by
      rw [List.flatMap_eq_nil_iff]; intro c hc; exact if_neg (by rw [hC c hc]; decide)
    rw [e1, e2]; rfl
  rw [hns]
  show (rmW (awB w b) w.NextID w.Bodies.length, (0 : Int)) = _
  unfold rmW awB
  simp only
  rw [List.filter_eq_self.2 (fun j hj => by rw [hJ j hj]; rfl), List.filter_eq_self.2 (fun c hc => by rw [hC c hc]; rfl), List.filter_eq_self.2 (fun k hk => by rw [hO k hk]; rfl)]
  simp
theorem fj_aj (w : World_) (j : Joint) (h : VW w) (v : World_) (hv : v.Joints = w.Joints ++ [zJ w j]) : fj v w.NextID = (w.Joints.length : Int) := by
  unfold fj
  rw [hv, idx_app_none (fun c : Joint => c.ID == w.NextID) _ (by show (w.NextID == w.NextID) = true; simp) w.Joints 0 ?_]
  · simp
  · intro y hy
    have := (h.2.jnt y hy).2.2.1
    have hne : ¬ y.ID = w.NextID := by omega
    simpa using hne
theorem sgs_wakeL : ∀ (ns : List Int) (w : World_), uniq w.Bodies → sgs (wakeL w ns) = sgs w
  | [], w, _ => rfl
  | a :: t, w, hu => by
    unfold wakeL
    split
    · exact sgs_wakeL t w hu
    · rw [sgs_wakeL t _ (by rw [wakeW_map w a hu]; exact uniq_map _ _ hu), sgs_wake w a hu]
theorem rm_facts (w : World_) (id : Int) (h : VW w) (hz : (rmP w id).2 = 0) : fb (rmP w id).1 id = -1 ∧ ((rmP w id).1.Bodies.length : Int) = (w.Bodies.length : Int) - 1 := by
  have hu := uniq_of h.2
  unfold rmP at hz ⊢
  rcases fb_cases w id with hk | ⟨k, hk, hl⟩
  · rw [hk, if_pos (by decide)] at hz; exact absurd hz (by simp)
  · have n4 : ¬ ((k : Int) < 0) := by omega
    rw [hk, if_neg n4, Int.toNat_natCast]
    have hs : (rmW w id k).Bodies.Sublist w.Bodies := cutSub _ _
    have hu2 : uniq (rmW w id k).Bodies := List.Pairwise.sublist hs hu
    have hid : (ix w.Bodies (k : Int)).ID = id := by
      have := idx_ix (fun b : Body => b.ID == id) w.Bodies 0 (by unfold fb at hk; omega)
      unfold fb at hk
      rw [hk] at this
      simpa using this
    refine ⟨fb_none ?_, ?_⟩
    · show ¬ hasB (sgs (wakeL (rmW w id k) (nsP w id))) id
      rw [sgs_wakeL _ _ hu2]
      rintro ⟨s, hsm, e⟩
      obtain ⟨b, hb, rfl⟩ := List.mem_map.1 hsm
      have hbi : b.ID = id := e
      have hd := drop_ix w.Bodies k hl
      have ht := List.take_append_drop k w.Bodies
      rw [hd] at ht
      unfold uniq at hu
      rw [← ht, List.pairwise_append, List.pairwise_cons] at hu
      rcases List.mem_append.1 hb with hb | hb
      · have := hu.2.2 b hb _ List.mem_cons_self
        rw [hid] at this; exact this hbi
      · have := hu.2.1.1 b hb
        rw [hid] at this; exact this hbi.symm
    · show ((wakeL (rmW w id k) (nsP w id)).Bodies.length : Int) = _
      rw [(wakeL_len _ _).1]
      show ((w.Bodies.take k ++ w.Bodies.drop (k + 1)).length : Int) = _
      simp; omega
end GoForm


set_option linter.all false
set_option maxRecDepth 100000
open Go Go.Rx

namespace GoForm
theorem aj_joints (w : World_) (j : Joint) (a b : Int) (n : Int) : (wakeW (wakeW { w with Joints := w.Joints ++ [zJ w j], NextID := n } a) b).Joints = w.Joints ++ [zJ w j] := by
  rw [(wake_eqs _ _).2.2.2.1, (wake_eqs _ _).2.2.2.1]
theorem WorldStaysValid_any (w : World_) (b : Body) (j : Joint) (id : Int) : caromlaw25_WorldStaysValid w b j id = some true := by
  have hB : caromref22_Few [b] (1 : Int) = some (decide ((([b] : List Body).length : Int) ≤ ((1 : Nat) : Int)) && [b].all fewB) := ref22_Few_eq [b] 1 (by omega)
  have hB' : caromref22_Few [b] (1 : Int) = some (fewB b) := by rw [hB]; simp
  unfold caromlaw25_WorldStaysValid
  simp only [ref25_Few_eq, hB', example25, Bind_snr, Let_nr, Bind_if]
  cases hf : few w
  · simp [Bind_snr]
  cases hb : fewB b
  · simp [Bind_snr]
  have hF := few_Few hf
  have hs := hF.smw
  have hsb : SmB b := by
    unfold fewB at hb
    simp only [Bool.and_eq_true, decide_eq_true_eq, List.all_eq_true] at hb
    exact ⟨by omega, fun f hf => by have := hb.2 f hf; omega⟩
  have hl : w.Joints.length ≤ 1000 := by have := hF.joints; omega
  by_cases hv : wv w = 0
  · have hV := (wv_iff w).1 hv
    have hp := posI_of hV
    rw [world_Val_eq w hF]
    simp only [hv, Bool.not_true, ff, if_false, Bool.cond_false, beq_self_eq_true, if_true, Bind_snr, show ((0 : Int) != 0) = false from rfl]
    rw [world_Add_eq w b hs hsb, Bind_snr]
    refine Join_ok ?_ ?_
    · intro _
      rw [world_AddJ_eq w j hs hp hl, Bind_snr]
      refine Join_ok ?_ ?_
      · intro _
        have hrF := few_rmP w id hF
        rw [world_Rem_eq w id hs, Bind_snr]
        have hsf := sm_of hF.smw.bodies (by omega)
        by_cases hz : (rmP w id).2 = 0
        · have hr := rm_facts w id hV hz
          have hval := (wv_iff _).2 (rmP_VW w id hV hz)
          have hfb : 0 ≤ fb w id := by
            unfold rmP at hz
            by_cases q : fb w id < 0
            · rw [if_pos q] at hz; exact absurd hz (by simp)
            · omega
          simp only [hz, beq_self_eq_true, if_true, world_Val_eq _ hrF, hval, Bind_snr, show ((0 : Int) != 0) = false from rfl, Bool.and_self]
          rw [world_Find_eq _ _ hrF.sb, hr.1, Bind_snr, hr.2]
          rw [wrap_in _ (by omega) (by have := hF.bodies; omega)]
          simp only [bne_self_eq_false, Bool.cond_false, Bool.cond_true, ff, if_false, world_Find_eq w id hF.sb, Bind_snr, ge_iff_le, decide_eq_true hfb, beq_self_eq_true, if_true]
        · have hfb : ¬ 0 ≤ fb w id := by
            intro q
            apply hz
            unfold rmP
            rw [if_neg (by omega)]
          have h0 : ((rmP w id).2 == 0) = false := by simpa using hz
          simp only [h0, ff, if_false, Bind_snr, Bool.cond_false, Bool.false_and, world_Find_eq w id hF.sb, ge_iff_le, decide_eq_false hfb, beq_self_eq_true, if_true, Bool.cond_true]
          simp [Bind_snr]
      · intro K' hK
        by_cases hz : (addJ w j).2.2 = 0
        · rw [if_pos (by simpa using hz)]
          have hVa := addJ_VW w j hV hz
          have hFa := few_addJ w j hF
          have hpa := posI_of hVa
          have hval := (wv_iff _).2 hVa
          have hzz := hz
          unfold addJ at hz
          split at hz
          · exact absurd hz (by simp)
          rename_i hc
          split at hz
          · exact absurd hz (by simp)
          rename_i hd
          have hN : (addJ w j).2.1 = w.NextID := by unfold addJ; rw [if_neg hc, if_neg hd]
          have hJs : (addJ w j).1.Joints = w.Joints ++ [zJ w j] := by unfold addJ; rw [if_neg hc, if_neg hd]; exact aj_joints w j _ _ _
          have hfj := fj_aj w j hV (addJ w j).1 hJs
          have hrem : (remJ (addJ w j).1 w.NextID).2 = 0 := by unfold remJ; rw [hfj, if_neg (by omega)]
          have hVr := remJ_VW _ _ hVa hrem
          have hFr := few_remJ (addJ w j).1 w.NextID hFa
          have hvr := (wv_iff _).2 hVr
          have hlen : ((remJ (addJ w j).1 w.NextID).1.Joints.length : Int) = (w.Joints.length : Int) := by
            unfold remJ
            rw [hfj, if_neg (by omega), Int.toNat_natCast]
            simp only
            rw [(wake_eqs _ _).2.2.2.1, (wake_eqs _ _).2.2.2.1]
            show (((addJ w j).1.Joints.take w.Joints.length ++ (addJ w j).1.Joints.drop (w.Joints.length + 1)).length : Int) = _
            rw [hJs]; simp
          rw [hN, world_RemJ_eq _ _ hFa.smw hpa, Bind_snr, world_Val_eq _ hFa, Bind_snr, hval, hrem, hlen, world_FindJ_eq _ _ hFa.sj, hfj]
          simp only [bne_self_eq_false, Bool.cond_false, beq_self_eq_true, if_true, Bind_snr, world_Val_eq _ hFr, hvr, ff, if_false]
          exact hK ()
        · rw [if_neg (by simpa using hz)]
          exact hK ()
    · intro K' hK
      by_cases hz : (addW w b).2.2 = 0
      · rw [if_pos (by simpa using hz)]
        have hVa := addW_VW w b hV hz
        have hFa := few_addW w b hF hb
        have hval := (wv_iff _).2 hVa
        have hzz := hz
        unfold addW at hz
        split at hz
        · exact absurd hz (by simp)
        rename_i hc
        split at hz
        · exact absurd hz (by simp)
        rename_i hd
        have hA : addW w b = (awB w b, w.NextID, 0) := by unfold addW; rw [if_neg hc, if_neg hd]; rfl
        rw [hA] at hVa hFa hval ⊢
        simp only at hVa hFa hval ⊢
        rw [world_Rem_eq _ _ hFa.smw, Bind_snr, world_Val_eq _ hFa, Bind_snr, hval, rm_aw w b hV, world_Find_eq w _ hF.sb, fb_none (not_has hV), world_Find_eq _ _ hFa.sb, fb_aw w b hV]
        have hsn : SmW { Settings := w.Settings, Bodies := w.Bodies, Joints := w.Joints, Contacts := w.Contacts, Overlaps := w.Overlaps, NextID := w.NextID, Frame := w.Frame } := hs
        have hEq : world_Equal { Settings := w.Settings, Bodies := w.Bodies, Joints := w.Joints, Contacts := w.Contacts, Overlaps := w.Overlaps, NextID := w.NextID, Frame := w.Frame } w = some true := EW_self w hs
        simp only [bne_self_eq_false, Bool.cond_false, beq_self_eq_true, if_true, Bind_snr, ff, if_false, show (awB w b).NextID = IntKind.i64.wrap (w.NextID + 1) from rfl, hEq, Bool.not_true]
        exact hK ()
      · rw [if_neg (by simpa using hz)]
        exact hK ()
  · have hv2 : (wv w != 0) = true := by simpa using hv
    simp only [Bool.not_true, Bool.cond_false, beq_self_eq_true, if_true, world_Val_eq w hF, Bind_snr, hv2]
theorem caromlaw25_WorldStaysValid_true (a0 : World_) (a1 : Body) (a2 : Joint) (a3 : Int) {P Q R S : Prop} (_ : P) (_ : Q) (_ : R) (_ : S) : caromlaw25_WorldStaysValid a0 a1 a2 a3 = some true := WorldStaysValid_any a0 a1 a2 a3
end GoForm

