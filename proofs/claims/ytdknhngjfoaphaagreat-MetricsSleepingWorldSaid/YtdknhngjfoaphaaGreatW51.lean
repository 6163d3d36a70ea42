/- Plain laws, joined from several texts. No conditions. -/
import Derived.Test.YtdknhngjfoaphaaGreatF51D
import Derived.Test.YtdknhngjfoaphaaGreatF51B
import Derived.Test.YtdknhngjfoaphaaGreatF51OL
import Derived.Test.YtdknhngjfoaphaaGreatRzQ
/-
  Plain laws of world: what validation computes. No conditions.
-/
set_option linter.all false
set_option maxRecDepth 100000
open Go Go.Rx

namespace GoForm
theorem bodyV (b : Body) : body_Validate b = caromref23_Validate b := by rw [br_body_Validate, br_caromref23_Validate, GoOld.body_Validate_eq, GoOld.ref23_Validate_eq]
theorem bodyV' (b : Body) : caromref23_Validate b = some (GoOld.validB b) := by rw [br_caromref23_Validate, GoOld.ref23_Validate_eq]
def inb (x a b : Int) : Bool := decide (a ≤ x) && decide (x ≤ b)
theorem world_in_eq (x a b : Int) : world_in x a b = some (inb x a b) := by
  unfold world_in inb; simp only [Let_nr, ge_iff_le, cond_and]
theorem ref25_in_eq (x a b : Int) : caromref25_in x a b = some (inb x a b) := by
  unfold caromref25_in inb; simp only [Let_nr, ge_iff_le, cond_and]
theorem joint_in_eq (x a b : Int) : joint_inRange x a b = some (inb x a b) := by
  unfold joint_inRange inb; simp only [Let_nr, ge_iff_le, cond_and]
theorem ref24_in_eq (x a b : Int) : caromref24_inRange x a b = some (inb x a b) := by
  unfold caromref24_inRange inb; simp only [Let_nr, ge_iff_le, cond_and]
def vset (s : Settings) : Int := if (inb s.TimeStep 64 8192 && inb s.Gravity.X (-16777216) 16777216 && inb s.Gravity.Y (-16777216) 16777216 && inb s.Iterations 1 32 && inb s.SleepSteps 0 1048576) = true then 0 else 6
theorem world_set_eq (s : Settings) : world_ValidateSettings s = some (vset s) := by
  unfold world_ValidateSettings vset
  simp only [world_in_eq, Let_nr, Bind_snr, Bind_if]
  generalize inb s.TimeStep 64 8192 = b1
  generalize inb s.Gravity.X (-16777216) 16777216 = b2
  generalize inb s.Gravity.Y (-16777216) 16777216 = b3
  generalize inb s.Iterations 1 32 = b4
  generalize inb s.SleepSteps 0 1048576 = b5
  cases b1 <;> cases b2 <;> cases b3 <;> cases b4 <;> cases b5 <;> rfl
theorem ref25_set_eq (s : Settings) : caromref25_ValidateSettings s = some (vset s) := by
  unfold caromref25_ValidateSettings vset
  simp only [ref25_in_eq, Let_nr, Bind_snr, Bind_if]
  generalize inb s.TimeStep 64 8192 = b1
  generalize inb s.Gravity.X (-16777216) 16777216 = b2
  generalize inb s.Gravity.Y (-16777216) 16777216 = b3
  generalize inb s.Iterations 1 32 = b4
  generalize inb s.SleepSteps 0 1048576 = b5
  cases b1 <;> cases b2 <;> cases b3 <;> cases b4 <;> cases b5 <;> rfl
/-! FindBody -/
def fb (w : World_) (id : Int) : Int := idx (fun b : Body => b.ID == id) w.Bodies 0
theorem world_Find_eq (w : World_) (id : Int) (h : Sm w.Bodies) : world_FindBody w id = some (fb w id) := by
  unfold world_FindBody slices_IndexFunc fb
  simp only [Let_nr]
  rw [show LOOP _ fuel (0 : Int) = _ from LOOP_l0 w.Bodies (fun t i => some (idx (fun b : Body => b.ID == id) t i)) _ h ?_ ?_]
  · exact Bind_snr _ _
  · intro r i t hw hc hm hr
    simp only [dlt hc, if_true, hw, Chk_of hc, world_FindBody_1, Let_nr, Bind_snr, hr, idx]
    split <;> rfl
  · intro r; simp only [dll, ff, if_false, idx]
theorem ref25_Find_eq (w : World_) (id : Int) (h : Sm w.Bodies) : caromref25_FindBody w id = some (fb w id) := by
  unfold caromref25_FindBody fb
  simp only [Let_nr]
  refine LOOP_l0 w.Bodies (fun t i => some (idx (fun b : Body => b.ID == id) t i)) _ h ?_ ?_
  · intro r i t hw hc hm hr
    simp only [dlt hc, if_true, hw, Chk_of hc, Let_nr, Bind_snr, hr, idx]
    split <;> rfl
  · intro r; simp only [dll, ff, if_false, idx]
theorem fb_bd (w : World_) (id : Int) : fb w id = -1 ∨ (0 ≤ fb w id ∧ fb w id < (w.Bodies.length : Int)) := by
  have := idx_bd (fun b : Body => b.ID == id) w.Bodies 0; unfold fb; simpa using this
/-! bodies -/
def vbs (N : Int) : List Body → Nat → Int → Bool
  | [], _, _ => true
  | b :: t, i, p => if (GoOld.validB b != 0 || decide (N ≤ b.ID) || decide (b.ID ≤ p)) = true then false else vbs N t (i + 1) b.ID
theorem world_bodies_eq (w : World_) (h : Sm w.Bodies) : world_validBodies w = some (vbs w.NextID w.Bodies 0 0) := by
  unfold world_validBodies
  simp only [Let_nr]
  refine LOOP_l1 w.Bodies (fun t i p => some (vbs w.NextID t i p)) _ 0 h ?_ ?_
  · intro r i t s hw hc hm hr
    simp only [dlt hc, if_true, hw, Chk_of hc, Let_nr, bodyV, bodyV', Bind_snr, hr, vbs, cond_or, ge_iff_le]
    split <;> rfl
  · intro r s; simp only [dll, ff, if_false, vbs]
theorem validB_ID {b : Body} (h : GoOld.validB b = 0) : 1 ≤ b.ID := by
  have := (GoOld.validB_ok.1 h).2.1.1
  unfold GoOld.Wn at this; exact this.1
theorem ref25_bodies_eq (w : World_) (h : Sm w.Bodies) : caromref25_validBodies w = some (vbs w.NextID w.Bodies 0 0) := by
  unfold caromref25_validBodies
  simp only [Let_nr]
  have key : ∀ (r : Int × Int → Option Bool), True := fun _ => trivial
  rw [show LOOP _ fuel ((0 : Int), (0 : Int)) = (fun (t : List Body) (i : Nat) (p : Int) => some (if i = 0 then vbs w.NextID t i 0 else vbs w.NextID t i p)) w.Bodies 0 0 from LOOP_l1 w.Bodies (fun t i p => some (if i = 0 then vbs w.NextID t i 0 else vbs w.NextID t i p)) _ 0 h ?_ ?_]
  · rfl
  · intro r i t s hw hc hm hr
    simp only [dlt hc, if_true, hw, Chk_of hc, Let_nr, bodyV', Bind_snr, hr, vbs, cond_or, cond_and, ge_iff_le, gt_iff_lt, Nat.succ_ne_zero, Nat.add_eq_zero_iff, if_false]
    by_cases hv : GoOld.validB (ix w.Bodies (i : Int)) = 0
    · have h1 := validB_ID hv
      simp [hv]
      by_cases hi : i = 0
      · subst hi; simp; split <;> simp_all <;> omega
      · have : (0 : Int) < (i : Int) := by omega
        simp [hi, this]; split <;> simp_all <;> (intros; omega)
    · simp [hv]
  · intro r s; simp only [dll, ff, if_false, vbs, ite_self]
/-! joints -/
def inv4 (v : Vec) (m : Int) : Bool := inb v.X (-m) m && inb v.Y (-m) m
theorem joint_pt_eq (v : Vec) (m : Int) (h : 0 ≤ m ∧ m ≤ 1000000000000) : joint_pointInRange v m = some (inv4 v m) := by
  unfold joint_pointInRange inv4
  have e : IntKind.i64.wrap ((0 : Int) - m) = -m := by rw [wrap_in _ (by omega) (by omega)]; omega
  simp only [Let_nr, joint_in_eq, Bind_snr, Bind_if, e, cond_and, ga1]
theorem ref24_pt_eq (v : Vec) (m : Int) (h : 0 ≤ m ∧ m ≤ 1000000000000) : caromref24_inSquare v m = some (inv4 v m) := by
  unfold caromref24_inSquare inv4
  have e : IntKind.i64.wrap ((0 : Int) - m) = -m := by rw [wrap_in _ (by omega) (by omega)]; omega
  simp only [Let_nr, ref24_in_eq, Bind_snr, Bind_if, e, cond_and, ga1]
def reach (k : Int) : Int := if (k == 5) = true then 268435456 else 1048576
def limR (k : Int) : Int × Int := if (k == 1) = true then (0, 268435456) else if (k == 2) = true then (-205888, 205888) else (-268435456, 268435456)
theorem joint_lim_eq (k : Int) : joint_limitRange k = some (limR k) := by
  unfold joint_limitRange limR; simp only [Let_nr]; split <;> (try split) <;> rfl
def impOk (j : Joint) : Bool := [j.Impulses.fst, j.Impulses.snd.fst, j.Impulses.snd.snd.fst, j.Impulses.snd.snd.snd].all fun x => inb x (-536870911) 536870911
def numOk (j : Joint) : Bool := impOk j && (inb j.ID 1 1099511627776 && inv4 j.AnchorA (reach j.Kind) && inv4 j.AnchorB 1048576 && inb j.ReferenceAngle (-205888) 205887 && inb j.Lower (limR j.Kind).1 (limR j.Kind).2 && inb j.Upper (limR j.Kind).1 (limR j.Kind).2 && decide (j.Lower ≤ j.Upper) && inb j.MotorSpeed (-16777216) 16777216 && inb j.MaxForce 0 536870911 && inb j.Softness 0 536870911 && inb j.BreakForce 0 536870911)
theorem reach_bd (k : Int) : 0 ≤ reach k ∧ reach k ≤ 1000000000000 := by unfold reach; split <;> omega
theorem sm4 (a b c d : Int) : Sm [a, b, c, d] := by unfold Sm; simp
def all4 (fin : Bool) : List Int → Bool
  | [] => fin
  | a :: t => if (!inb a (-536870911) 536870911) = true then false else all4 fin t
theorem all4_eq (fin : Bool) : ∀ l : List Int, all4 fin l = (l.all (fun x => inb x (-536870911) 536870911) && fin)
  | [] => rfl
  | a :: t => by unfold all4; rw [all4_eq fin t]; cases h : inb a (-536870911) 536870911 <;> simp [h]
theorem joint_num_eq (j : Joint) : joint_numbersInRange j = some (numOk j) := by
  unfold joint_numbersInRange numOk impOk
  rw [← all4_eq]
  have h1 : ∀ m : Int, 0 ≤ m ∧ m ≤ 1000000000000 → joint_pointInRange j.AnchorA m = some (inv4 j.AnchorA m) := fun m => joint_pt_eq _ m
  have h2 := joint_pt_eq j.AnchorB 1048576 (by omega)
  have hK : ∀ m : Int, reach j.Kind = m → 0 ≤ m ∧ m ≤ 1000000000000 := fun m h => h ▸ reach_bd _
  by_cases hk : (j.Kind == 5) = true <;> simp only [Join_nr, Let_nr, hk, ff, if_true, if_false, joint_lim_eq, Bind_snr, joint_in_eq, h2, h1 268435456 (by omega), h1 1048576 (by omega), Bind_if, cond_and, ga1, reach]
  all_goals
    refine LOOP_l0 [j.Impulses.fst, j.Impulses.snd.fst, j.Impulses.snd.snd.fst, j.Impulses.snd.snd.snd] (fun t _ => some (all4 _ t)) _ (sm4 _ _ _ _) ?_ ?_
    · intro r i t hw hc hm hr
      have hc4 : (0 : Int) ≤ (i : Int) ∧ (i : Int) < ((4 : Nat) : Int) := hc
      have hd4 : decide ((i : Int) < (4 : Int)) = true := dlt hc
      simp only [hd4, if_true, hw, Chk_of hc4, hr, all4]
      split <;> rfl
    · intro r
      have : decide (([j.Impulses.fst, j.Impulses.snd.fst, j.Impulses.snd.snd.fst, j.Impulses.snd.snd.snd].length : Int) < (4 : Int)) = false := rfl
      simp only [this, ff, if_false, all4]
theorem ref24_lim_eq (j : Joint) : caromref24_limitsValid j = some (inb j.Lower (limR j.Kind).1 (limR j.Kind).2 && inb j.Upper (limR j.Kind).1 (limR j.Kind).2 && decide (j.Lower ≤ j.Upper)) := by
  unfold caromref24_limitsValid limR
  simp only [Let_nr, ref24_in_eq, Bind_snr, Bind_if, cond_and, cond_or, ga1, ga2, ga3, ge_iff_le, gt_iff_lt]
  have e : ∀ x a b, inb x a b = decide (a ≤ x ∧ x ≤ b) := fun x a b => by unfold inb; rw [Bool.eq_iff_iff]; simp
  simp only [e]
  have k1 : (j.Kind == 1) = decide (j.Kind = 1) := by rw [Bool.eq_iff_iff]; simp
  have k2 : (j.Kind == 2) = decide (j.Kind = 2) := by rw [Bool.eq_iff_iff]; simp
  have k3 : (j.Kind != 2) = !decide (j.Kind = 2) := by rw [Bool.eq_iff_iff]; simp
  simp only [k1, k2, k3]
  have go : ∀ (p : Option Bool) (b : Bool), (∃ a, p = some a ∧ (a = true ↔ b = true)) → p = some b := fun p b ⟨a, h1, h2⟩ => by rw [h1]; exact congrArg some (Bool.eq_iff_iff.2 h2)
  apply go
  repeat' split
  all_goals refine ⟨_, rfl, ?_⟩
  all_goals simp only [Bool.or_eq_true, Bool.and_eq_true, Bool.not_eq_true', decide_eq_true_eq, decide_eq_false_iff_not, Bool.false_eq_true, false_iff, true_iff] at *
  all_goals omega
theorem ref24_num_eq (j : Joint) : caromref24_rangesValid j = some (numOk j) := by
  unfold caromref24_rangesValid numOk impOk
  rw [← all4_eq]
  have h1 : ∀ m : Int, 0 ≤ m ∧ m ≤ 1000000000000 → caromref24_inSquare j.AnchorA m = some (inv4 j.AnchorA m) := fun m => ref24_pt_eq _ m
  have h2 := ref24_pt_eq j.AnchorB 1048576 (by omega)
  by_cases hk : (j.Kind == 5) = true <;> simp only [Join_nr, Let_nr, hk, ff, if_true, if_false, ref24_lim_eq, Bind_snr, ref24_in_eq, h2, h1 268435456 (by omega), h1 1048576 (by omega), Bind_if, cond_and, cond_or, ga1, ga2, ga3, reach]
  all_goals
    refine LOOP_l0 [j.Impulses.fst, j.Impulses.snd.fst, j.Impulses.snd.snd.fst, j.Impulses.snd.snd.snd] (fun t _ => some (all4 _ t)) _ (sm4 _ _ _ _) ?_ ?_
    · intro r i t hw hc hm hr
      have hc4 : (0 : Int) ≤ (i : Int) ∧ (i : Int) < ((4 : Nat) : Int) := hc
      have hd4 : decide ((i : Int) < (4 : Int)) = true := dlt hc
      simp only [hd4, if_true, hw, Chk_of hc4, Chk_of hc, hr, all4]
      split <;> rfl
    · intro r
      have : decide (([j.Impulses.fst, j.Impulses.snd.fst, j.Impulses.snd.snd.fst, j.Impulses.snd.snd.snd].length : Int) < (4 : Int)) = false := rfl
      simp only [this, ff, if_false, all4]
      generalize inb j.Lower (limR j.Kind).1 (limR j.Kind).2 = b1
      generalize inb j.Upper (limR j.Kind).1 (limR j.Kind).2 = b2
      generalize decide (j.Lower ≤ j.Upper) = b3
      generalize inb j.ID 1 1099511627776 = b4
      generalize inv4 j.AnchorB 1048576 = b6
      generalize inb j.ReferenceAngle (-205888) 205887 = b7
      generalize inv4 j.AnchorA _ = b5
      cases b1 <;> cases b2 <;> cases b3 <;> cases b4 <;> cases b5 <;> cases b6 <;> cases b7 <;> simp
def jbOk (j : Joint) : Bool := if (j.Kind == 5) = true then (j.BodyA == 0 && inb j.BodyB 1 1099511627776) else (inb j.BodyA 1 1099511627776 && inb j.BodyB 1 1099511627776 && (j.BodyA != j.BodyB))
theorem joint_bod_eq (j : Joint) : joint_validBodies j = some (jbOk j) := by
  unfold joint_validBodies jbOk
  simp only [Let_nr, joint_in_eq, Bind_snr, Bind_if, cond_and, ga1]
  split <;> rfl
def plainA (j : Joint) : Bool := decide (j.Axis.X = 0) && decide (j.Axis.Y = 0)
def jinc (j : Joint) : Bool := if (j.Kind == 3) = true then !inb (GoOld.lenV j.Axis) 65520 65552 else if (j.Kind == 1) = true then (!plainA j || j.EnableMotor || !j.EnableLimit) else if (j.Kind == 4) = true then (!plainA j || j.EnableMotor || j.EnableLimit) else if (j.Kind == 5) = true then (!plainA j || j.EnableMotor || j.EnableLimit) else !plainA j
theorem joint_inc_eq (j : Joint) : joint_inconsistent j = some (jinc j) := by
  unfold joint_inconsistent jinc plainA
  simp only [Let_nr, Join_nr, br_vec2_Length, GoOld.vec2_Length_eq, joint_in_eq, Bind_snr, Bind_if, cond_and, cond_or]
  repeat' split
  all_goals rfl
def jv (j : Joint) : Int := if (decide (j.Kind < 1) || decide (5 < j.Kind)) = true then 10 else if (!numOk j) = true then 6 else if (!jbOk j) = true then 14 else if jinc j = true then 15 else 0
theorem joint_Val_eq (j : Joint) : joint_Validate j = some (jv j) := by
  unfold joint_Validate jv
  simp only [Let_nr, joint_num_eq, joint_bod_eq, joint_inc_eq, Bind_snr, cond_or, gt_iff_lt]
  repeat' split
  all_goals rfl
theorem ref24_Val_eq (j : Joint) : caromref24_Validate j = some (jv j) := by
  have g10 : ∀ (c : Bool) (a d lo hi : Int), (c && !inb (if (c == true) = true then a else d) lo hi) = (c && !inb a lo hi) := by intro c a d lo hi; cases c <;> rfl
  unfold caromref24_Validate jv
  simp only [Let_nr, ref24_num_eq, br_caromref03_Length, GoOld.ref03_Length_eq, ref24_in_eq, Bind_snr, Bind_if, cond_or, cond_and, gt_iff_lt, ga1, ga2, ga3, ga4, ga9, g10]
  have k : ∀ n : Int, (j.Kind != n) = !(j.Kind == n) := fun n => rfl
  by_cases hk : (decide (j.Kind < 1) || decide (5 < j.Kind)) = true
  · simp only [hk, if_true]
  · simp only [hk, if_false]
    cases hn : numOk j
    · rfl
    · simp only [Bool.not_true, ff, if_false]
      simp only [Bool.or_eq_true, decide_eq_true_eq, not_or, Int.not_lt] at hk
      have hk' : j.Kind = 1 ∨ j.Kind = 2 ∨ j.Kind = 3 ∨ j.Kind = 4 ∨ j.Kind = 5 := by omega
      unfold jbOk jinc plainA
      generalize inb (GoOld.lenV j.Axis) 65520 65552 = b1
      generalize inb j.BodyA 1 1099511627776 = b2
      generalize inb j.BodyB 1 1099511627776 = b3
      have k0 : (j.BodyA != 0) = !(j.BodyA == 0) := rfl
      have k00 : (j.BodyA != j.BodyB) = !(j.BodyA == j.BodyB) := rfl
      rw [k0, k00]
      generalize (j.BodyA == 0) = b4
      generalize (j.BodyA == j.BodyB) = b5
      generalize (decide (j.Axis.X = 0) && decide (j.Axis.Y = 0)) = b6
      generalize j.EnableMotor = b7
      generalize j.EnableLimit = b8
      rcases hk' with h | h | h | h | h <;> simp only [h, k] <;> cases b1 <;> cases b2 <;> cases b3 <;> cases b4 <;> cases b5 <;> cases b6 <;> cases b7 <;> cases b8 <;> rfl
end GoForm


/-
  Plain laws of world: what validation of joints and contacts computes. No conditions.
-/
set_option linter.all false
set_option maxRecDepth 100000
open Go Go.Rx

namespace GoForm
def jex (w : World_) (j : Joint) : Bool := decide (0 ≤ fb w j.BodyB) && (j.Kind == 5 || decide (0 ≤ fb w j.BodyA))
theorem world_ex_eq (w : World_) (j : Joint) (h : Sm w.Bodies) : world_bodiesExist w j = some (jex w j) := by
  unfold world_bodiesExist jex
  simp only [Let_nr, world_Find_eq w _ h, Bind_snr, Bind_if, cond_and, cond_or, ge_iff_le, ga8]
def jcon (w : World_) (j : Joint) : Bool := (j.BodyA == 0 || decide (0 ≤ fb w j.BodyA)) && (j.BodyB == 0 || decide (0 ≤ fb w j.BodyB))
theorem ref25_con_eq (w : World_) (j : Joint) (h : Sm w.Bodies) : caromref25_connected w j = some (jcon w j) := by
  unfold caromref25_connected jcon
  simp only [Let_nr, ref25_Find_eq w _ h, Bind_snr, Bind_if, cond_and, cond_or, ge_iff_le, ga8, ga5]
theorem jv_zero {j : Joint} (h : jv j = 0) : numOk j = true ∧ jbOk j = true ∧ jinc j = false ∧ 1 ≤ j.Kind ∧ j.Kind ≤ 5 := by
  unfold jv at h
  split at h
  · omega
  · split at h
    · omega
    · split at h
      · omega
      · split at h
        · omega
        · simp_all
theorem jex_con {w : World_} {j : Joint} (h : jv j = 0) : jex w j = jcon w j := by
  have h2 := (jv_zero h).2.1
  unfold jbOk inb at h2
  unfold jex jcon
  by_cases hk : j.Kind = 5
  · simp [hk] at h2 ⊢
    have : ¬ j.BodyB = 0 := by omega
    simp [h2.1, this]
  · simp [hk] at h2 ⊢
    have : ¬ j.BodyB = 0 := by omega
    have : ¬ j.BodyA = 0 := by omega
    have e1 : (j.BodyA == 0) = false := by simpa using this
    have e2 : (j.BodyB == 0) = false := by simp; omega
    have e3 : (j.Kind == 5) = false := by simpa using hk
    rw [e1, e2, e3]; simp only [Bool.false_or]; exact Bool.and_comm _ _
theorem jv_ID {j : Joint} (h : jv j = 0) : 1 ≤ j.ID := by
  have h2 := (jv_zero h).1
  unfold numOk inb at h2
  simp at h2; omega
def vjs (w : World_) : List Joint → Nat → Int → Bool
  | [], _, _ => true
  | j :: t, i, p => if (jv j != 0 || decide (w.NextID ≤ j.ID) || decide (j.ID ≤ p) || !jcon w j || decide (0 ≤ fb w j.ID)) = true then false else vjs w t (i + 1) j.ID
theorem world_joints_eq (w : World_) (h : Sm w.Joints) (hb : Sm w.Bodies) : world_validJoints w = some (vjs w w.Joints 0 0) := by
  unfold world_validJoints
  simp only [Let_nr]
  refine LOOP_l1 w.Joints (fun t i p => some (vjs w t i p)) _ 0 h ?_ ?_
  · intro r i t s hw hc hm hr
    simp only [dlt hc, if_true, hw, Chk_of hc, Let_nr, joint_Val_eq, world_ex_eq w _ hb, world_Find_eq w _ hb, Bind_snr, Bind_if, hr, vjs, cond_or, ge_iff_le, ga3, ga5]
    by_cases hj : jv (ix w.Joints (i : Int)) = 0
    · rw [jex_con hj]; split <;> rfl
    · simp [hj]
  · intro r s; simp only [dll, ff, if_false, vjs]
theorem ref25_joints_eq (w : World_) (h : Sm w.Joints) (hb : Sm w.Bodies) : caromref25_validJoints w = some (vjs w w.Joints 0 0) := by
  unfold caromref25_validJoints
  simp only [Let_nr]
  rw [show LOOP _ fuel ((0 : Int), (0 : Int)) = (fun (t : List Joint) (i : Nat) (p : Int) => some (if i = 0 then vjs w t i 0 else vjs w t i p)) w.Joints 0 0 from LOOP_l1 w.Joints (fun t i p => some (if i = 0 then vjs w t i 0 else vjs w t i p)) _ 0 h ?_ ?_]
  · rfl
  · intro r i t s hw hc hm hr
    simp only [dlt hc, if_true, hw, Chk_of hc, Let_nr, ref24_Val_eq, ref25_con_eq w _ hb, ref25_Find_eq w _ hb, Bind_snr, Bind_if, hr, vjs, cond_or, cond_and, ge_iff_le, gt_iff_lt, ga3, ga5, Nat.succ_ne_zero, Nat.add_eq_zero_iff, if_false]
    by_cases hv : jv (ix w.Joints (i : Int)) = 0
    · have h1 := jv_ID hv
      have e : decide ((ix w.Joints (i : Int)).ID ≤ 0) = false := decide_eq_false (by omega)
      by_cases hi : i = 0
      · subst hi
        have e1 : decide ((0 : Int) < ((0 : Nat) : Int)) = false := rfl
        simp only [e1, e, Bool.false_and, Bool.or_false, if_true]; split <;> rfl
      · have e1 : decide ((0 : Int) < (i : Int)) = true := decide_eq_true (by omega)
        simp only [e1, Bool.true_and, hi, if_false]; split <;> rfl
    · simp [hv]
  · intro r s; simp only [dll, ff, if_false, vjs, ite_self]
end GoForm


/-
  Plain laws of world: what validation of contacts computes. No conditions.
-/
set_option linter.all false
set_option maxRecDepth 100000
open Go Go.Rx

namespace GoForm
theorem cmp_nan (x : Int) : cmp_isNaN x = some false := by unfold cmp_isNaN; simp [Let_nr]
def cmpZ (x y : Int) : Int := if x < y then -1 else if y < x then 1 else 0
theorem cmp_eq (x y : Int) : cmp_Compare x y = some (cmpZ x y) := by
  unfold cmp_Compare cmpZ
  simp only [cmp_nan, Bind_snr, ff, if_false, Let_nr, decide_eq_true_eq, gt_iff_lt]
  split
  · rfl
  · split <;> rfl
def orZ : List Int → Int
  | [] => 0
  | a :: t => if (a != 0) = true then a else orZ t
theorem or_eq (l : List Int) (h : Sm l) : cmp_Or l = some (orZ l) := by
  unfold cmp_Or
  simp only [Let_nr]
  refine LOOP_l0 l (fun t _ => some (orZ t)) _ h ?_ ?_
  · intro r i t hw hc hm hr
    simp only [dlt hc, if_true, hw, Chk_of hc, Let_nr, hr, orZ]
    split <;> rfl
  · intro r; simp only [dll, ff, if_false, orZ]
def lessK (a b : PairKey) : Bool := if a.BodyA ≠ b.BodyA then decide (a.BodyA < b.BodyA) else if a.FixtureA ≠ b.FixtureA then decide (a.FixtureA < b.FixtureA) else if a.BodyB ≠ b.BodyB then decide (a.BodyB < b.BodyB) else decide (a.FixtureB < b.FixtureB)
theorem cmpZ_0 (x y : Int) : cmpZ x y = 0 ↔ x = y := by unfold cmpZ; split <;> (try split) <;> omega
theorem cmpZ_n (x y : Int) : cmpZ x y < 0 ↔ x < y := by unfold cmpZ; split <;> (try split) <;> omega
theorem less_eq (a b : PairKey) : broadphase_Less a b = some (lessK a b) := by
  unfold broadphase_Less broadphase_compare lessK
  simp only [cmp_eq, Bind_snr]
  rw [or_eq _ (sm4 _ _ _ _)]
  simp only [Bind_snr, Let_nr, orZ, bne_iff_ne, ne_eq, cmpZ_0]
  by_cases h1 : a.BodyA = b.BodyA
  · by_cases h2 : a.FixtureA = b.FixtureA
    · by_cases h3 : a.BodyB = b.BodyB
      · by_cases h4 : a.FixtureB = b.FixtureB
        · simp [h1, h2, h3, h4]
        · simp [h1, h2, h3, h4, cmpZ_n]
      · simp [h1, h2, h3, cmpZ_n]
    · simp [h1, h2, cmpZ_n]
  · simp [h1, cmpZ_n]
theorem ref22_less_eq (a b : PairKey) : caromref22_Less a b = some (lessK a b) := by
  unfold caromref22_Less lessK
  simp only [Let_nr, bne_iff_ne, ne_eq]
  repeat' split
  all_goals rfl
theorem lessK_irr (a : PairKey) : lessK a a = false := by unfold lessK; simp
def okK (k : PairKey) : Bool := decide (k.BodyA < k.BodyB) && decide (0 ≤ k.FixtureA) && decide (k.FixtureA < 4) && decide (0 ≤ k.FixtureB) && decide (k.FixtureB < 4)
theorem valid_eq (k : PairKey) : broadphase_valid k = some (okK k) := by
  unfold broadphase_valid okK; simp only [Let_nr, cond_and, ge_iff_le]
def vks : List PairKey → Nat → PairKey → Bool
  | [], _, _ => true
  | k :: t, i, p => if (!okK k || (decide (0 < (i : Int)) && !lessK p k)) = true then false else vks t (i + 1) k
theorem keq (a b : PairKey) : (decide (a.BodyA = b.BodyA) && (decide (a.FixtureA = b.FixtureA) && (decide (a.BodyB = b.BodyB) && decide (a.FixtureB = b.FixtureB)))) = decide (a = b) := by
  rw [Bool.eq_iff_iff]; cases a; cases b; simp
theorem vk_eq (l : List PairKey) (h : Sm l) : broadphase_ValidKeys l = some (vks l 0 ⟨0, 0, 0, 0⟩) := by
  unfold broadphase_ValidKeys
  simp only [Let_nr, keq]
  refine LOOP_l2 l (fun t i p => some (vks t i p)) _ _ h ?_ ?_
  · intro r i t s hw hc hm hr
    have g : ∀ (c e f a d : Bool), (c || (e && (f || !(if (c == false && e == true && f == false) = true then a else d)))) = (c || (e && (f || !a))) := by intro c e f a d; cases c <;> cases e <;> cases f <;> rfl
    simp only [dlt hc, if_true, hw, Chk_of hc, Let_nr, valid_eq, less_eq, Bind_snr, Bind_if, hr, vks, cond_or, cond_and, gt_iff_lt, g]
    have e : (decide (ix l (i : Int) = s) || !lessK s (ix l (i : Int))) = !lessK s (ix l (i : Int)) := by
      by_cases hh : ix l (i : Int) = s
      · rw [hh, lessK_irr]; simp
      · simp [hh]
    rw [e]; split <;> rfl
  · intro r s; simp only [dll, ff, if_false, vks]
theorem ref22_vk_eq (l : List PairKey) (h : Sm l) : caromref22_ValidKeys l = some (vks l 0 ⟨0, 0, 0, 0⟩) := by
  unfold caromref22_ValidKeys
  simp only [Let_nr]
  refine LOOP_l0 l (fun t i => some (vks t i (if i = 0 then ⟨0, 0, 0, 0⟩ else ix l ((i : Int) - 1)))) _ h ?_ ?_
  · intro r i t hw hc hm hr
    have hk : ∀ k : PairKey, ((((decide (k.BodyA ≥ k.BodyB) || decide (k.FixtureA < 0)) || decide (k.FixtureA > 3)) || decide (k.FixtureB < 0)) || decide (k.FixtureB > 3)) = !okK k := by
      intro k; unfold okK; rw [Bool.eq_iff_iff]; simp; omega
    have g : ∀ (c e a d : Bool), (c || (e && !(if (c == false && e == true) = true then a else d))) = (c || (e && !a)) := by intro c e a d; cases c <;> cases e <;> rfl
    have e3 : ((i : Int) + 1 - 1) = (i : Int) := by omega
    simp only [dlt hc, if_true, hw, Chk_of hc, Let_nr, ref22_less_eq, Bind_snr, Bind_if, hr, vks, cond_or, cond_and, hk, Nat.succ_ne_zero, Nat.add_eq_zero_iff, if_false]
    by_cases hi : i = 0
    · subst hi
      have e1 : decide (((0 : Nat) : Int) > (0 : Int)) = false := rfl
      have e2 : decide ((0 : Int) < ((0 : Nat) : Int)) = false := rfl
      simp only [e1, e2, Bool.false_and, Bool.and_false, Bool.or_false, ff, Bool.beq_eq_decide_eq]
      simp
      cases okK (ix l 0) <;> rfl
    · have e1 : decide (((i : Nat) : Int) > (0 : Int)) = true := decide_eq_true (by omega)
      have e2 : decide ((0 : Int) < ((i : Nat) : Int)) = true := decide_eq_true (by omega)
      have e4 : IntKind.i64.wrap ((i : Int) - 1) = (i : Int) - 1 := wrap_in _ (by omega) (by unfold Sm at h; omega)
      rw [e4, Chk_of (fun _ => by omega)]
      simp only [e1, e2, Bool.true_and, g, hi, if_false]
      have g2 : ∀ (c a d : Bool), (c || !(if (c == false && true == true) = true then a else d)) = (c || !a) := by intro c a d; cases c <;> rfl
      simp only [g2]
      have e5 : (((i + 1 : Nat) : Int) - 1) = (i : Int) := by omega
      rw [e5]
      split <;> rfl
  · intro r; simp only [dll, ff, if_false, vks]
end GoForm


/-
  Plain laws of world: what validation of contacts computes. No conditions.
-/
set_option linter.all false
set_option maxRecDepth 100000
open Go Go.Rx

namespace GoForm
/-! the standard library's searches -/
theorem ixf_int (l : List Int) (f : Int → Option Bool) (g : Int → Bool) (h : Sm l) (hf : ∀ a ∈ l, f a = some (g a)) : slices_IndexFunc_194 l f = some (idx g l 0) := by
  unfold slices_IndexFunc_194
  simp only [Let_nr]
  refine LOOP_l0 l (fun t i => some (idx g t i)) _ h ?_ ?_
  · intro r i t hw hc hm hr
    simp only [dlt hc, if_true, hw, Chk_of hc, Let_nr, hf _ hm, Bind_snr, hr, idx]
    split <;> rfl
  · intro r; simp only [dll, ff, if_false, idx]
theorem ixf_pt (l : List ContactPoint) (f : ContactPoint → Option Bool) (g : ContactPoint → Bool) (h : Sm l) (hf : ∀ a ∈ l, f a = some (g a)) : slices_IndexFunc_160 l f = some (idx g l 0) := by
  unfold slices_IndexFunc_160
  simp only [Let_nr]
  refine LOOP_l0 l (fun t i => some (idx g t i)) _ h ?_ ?_
  · intro r i t hw hc hm hr
    simp only [dlt hc, if_true, hw, Chk_of hc, Let_nr, hf _ hm, Bind_snr, hr, idx]
    split <;> rfl
  · intro r; simp only [dll, ff, if_false, idx]
theorem ixf_key (l : List PairKey) (f : PairKey → Option Bool) (g : PairKey → Bool) (h : Sm l) (hf : ∀ a ∈ l, f a = some (g a)) : slices_IndexFunc_124 l f = some (idx g l 0) := by
  unfold slices_IndexFunc_124
  simp only [Let_nr]
  refine LOOP_l0 l (fun t i => some (idx g t i)) _ h ?_ ?_
  · intro r i t hw hc hm hr
    simp only [dlt hc, if_true, hw, Chk_of hc, Let_nr, hf _ hm, Bind_snr, hr, idx]
    split <;> rfl
  · intro r; simp only [dll, ff, if_false, idx]
theorem ctf_int (l : List Int) (f : Int → Option Bool) (g : Int → Bool) (h : Sm l) (hf : ∀ a ∈ l, f a = some (g a)) : slices_ContainsFunc_158 l f = some (l.any g) := by
  unfold slices_ContainsFunc_158; simp only [ixf_int l f g h hf, Bind_snr, Let_nr, ge_iff_le, idx_any]
theorem ctf_pt (l : List ContactPoint) (f : ContactPoint → Option Bool) (g : ContactPoint → Bool) (h : Sm l) (hf : ∀ a ∈ l, f a = some (g a)) : slices_ContainsFunc_120 l f = some (l.any g) := by
  unfold slices_ContainsFunc_120; simp only [ixf_pt l f g h hf, Bind_snr, Let_nr, ge_iff_le, idx_any]
theorem ctf_key (l : List PairKey) (f : PairKey → Option Bool) (g : PairKey → Bool) (h : Sm l) (hf : ∀ a ∈ l, f a = some (g a)) : slices_ContainsFunc l f = some (l.any g) := by
  unfold slices_ContainsFunc; simp only [ixf_key l f g h hf, Bind_snr, Let_nr, ge_iff_le, idx_any]
/-! manifolds -/
def sat (x : Int) : Bool := inb x (-536870911) 536870911
theorem world_sat_eq (l : List Int) (h : Sm l) : world_saturated l = some (l.all sat) := by
  unfold world_saturated
  show Rx.Bind (slices_ContainsFunc_158 l world_saturated_1) (fun r => Let (!r) fun x => some x) = _
  rw [ctf_int l _ (fun n => !sat n) h (fun a _ => by unfold world_saturated_1 sat; simp only [world_in_eq, Bind_snr, Let_nr])]
  simp only [Bind_snr, Let_nr, List.any_eq_not_all_not, Bool.not_not]
def pOk (p : ContactPoint) : Bool := !decide (p.NormalImpulse < 0) && (sat p.Point.X && (sat p.Point.Y && (sat p.Separation && (sat p.ID && (sat p.NormalImpulse && sat p.TangentImpulse)))))
def mOk (m : Manifold) : Bool := !(decide ((m.Points.length : Int) < 1) || decide (2 < (m.Points.length : Int)) || ((m.Points.length : Int) == 2 && (ix m.Points 0).ID == (ix m.Points 1).ID) || !(sat m.Normal.X && sat m.Normal.Y)) && m.Points.all pOk
theorem world_pt1 (p : ContactPoint) : world_validManifold_1 p = some (!pOk p) := by
  have h6 : ∀ a b c d e f : Int, Sm [a, b, c, d, e, f] := by intros; unfold Sm; simp
  unfold world_validManifold_1 pOk
  simp only [Let_nr, world_sat_eq _ (h6 _ _ _ _ _ _), Bind_snr, Bind_if, cond_or, ga3, List.all_cons, List.all_nil, Bool.and_true, Bool.not_and, Bool.not_not]
theorem chkP {l : List ContactPoint} {a : Bool} : ((!a && ((l.length : Int) == 2)) = true → (0 : Int) ≤ (0 : Int) ∧ (0 : Int) < (l.length : Int)) ∧ ((!a && ((l.length : Int) == 2)) = true → (0 : Int) ≤ (1 : Int) ∧ (1 : Int) < (l.length : Int)) := by
  constructor <;> intro h <;> simp at h <;> omega
theorem world_man_eq (m : Manifold) (h : Sm m.Points) : world_validManifold m = some (mOk m) := by
  have h2 : ∀ a b : Int, Sm [a, b] := by intros; unfold Sm; simp
  have hg : ∀ a b : Bool, (a == false && b == true) = (!a && b) := by intro a b; cases a <;> cases b <;> rfl
  unfold world_validManifold mOk
  simp only [Let_nr, hg]
  rw [Chk_of chkP.1, Chk_of chkP.2]
  simp only [world_sat_eq _ (h2 _ _), Bind_snr, Bind_if, cond_or, cond_and, ga3, List.all_cons, List.all_nil, Bool.and_true, gt_iff_lt]
  rw [ctf_pt m.Points _ (fun p => !pOk p) h (fun p _ => world_pt1 p)]
  simp only [Bind_snr, List.any_eq_not_all_not, Bool.not_not]
  generalize (decide ((m.Points.length : Int) < 1) || decide (2 < (m.Points.length : Int)) || ((m.Points.length : Int) == 2 && (ix m.Points 0).ID == (ix m.Points 1).ID) || !(sat m.Normal.X && sat m.Normal.Y)) = c
  cases c <;> simp
theorem ref25_sat_eq (v : Vec) : caromref25_saturated v = some (sat v.X && sat v.Y) := by
  unfold caromref25_saturated sat; simp only [Let_nr, ref25_in_eq, Bind_snr, Bind_if, cond_and, ga1]
def allP : List ContactPoint → Bool
  | [] => true
  | p :: t => if (!pOk p) = true then false else allP t
theorem allP_eq : ∀ l : List ContactPoint, allP l = l.all pOk
  | [] => rfl
  | p :: t => by unfold allP; rw [allP_eq t]; cases h : pOk p <;> simp [h]
theorem ref25_man_eq (m : Manifold) (h : Sm m.Points) : caromref25_validPoints m = some (mOk m) := by
  have hg : ∀ a b : Bool, (a == false && b == true) = (!a && b) := by intro a b; cases a <;> cases b <;> rfl
  unfold caromref25_validPoints mOk
  simp only [Let_nr, hg]
  rw [Chk_of chkP.1, Chk_of chkP.2]
  simp only [ref25_sat_eq, Bind_snr, Bind_if, cond_or, cond_and, ga3, gt_iff_lt]
  rw [← allP_eq]
  generalize (decide ((m.Points.length : Int) < 1) || decide (2 < (m.Points.length : Int)) || ((m.Points.length : Int) == 2 && (ix m.Points 0).ID == (ix m.Points 1).ID) || !(sat m.Normal.X && sat m.Normal.Y)) = c
  cases c
  rotate_left
  · rfl
  · simp only [ff, if_false, Bool.not_false, Bool.true_and]
    refine LOOP_l0 m.Points (fun t _ => some (allP t)) _ h ?_ ?_
    · intro r i t hw hc hm hr
      have hp : ∀ p : ContactPoint, (((!inb p.NormalImpulse 0 536870911 || !inb p.TangentImpulse (-536870911) 536870911) || !(sat p.Point.X && sat p.Point.Y)) || !(sat p.Separation && sat p.ID)) = !pOk p := by
        intro p; unfold pOk sat inb; rw [Bool.eq_iff_iff]; simp; omega
      simp only [dlt hc, if_true, hw, Chk_of hc, Let_nr, ref25_in_eq, ref25_sat_eq, Bind_snr, Bind_if, cond_or, ga3, hp, hr, allP]
      split <;> rfl
    · intro r; simp only [dll, ff, if_false, allP]
end GoForm


/-
  Plain laws of world: validation agrees with the reference. No conditions.
-/
set_option linter.all false
set_option maxRecDepth 100000
open Go Go.Rx

namespace GoForm
def exw (w : World_) (id n : Int) : Bool := decide (0 ≤ fb w id) && decide (0 ≤ n) && decide (n < ((ix w.Bodies (fb w id)).Fixtures.length : Int))
theorem ref25_exi_eq (w : World_) (id n : Int) (h : Sm w.Bodies) : caromref25_exists w id n = some (exw w id n) := by
  unfold caromref25_exists exw
  simp only [Let_nr, ref25_Find_eq w _ h, Bind_snr, ge_iff_le, cond_and]
  rw [Chk_of]
  intro hh; simp at hh
  have := fb_bd w id; omega
def exk (w : World_) (k : PairKey) : Bool := exw w k.BodyA k.FixtureA && exw w k.BodyB k.FixtureB
theorem world_fix_eq (w : World_) (k : PairKey) (h : Sm w.Bodies) (hk : okK k = true) : world_fixturesExist w k = some (exk w k) := by
  unfold world_fixturesExist exk exw
  simp only [Let_nr, world_Find_eq w _ h, Bind_snr, ge_iff_le, cond_and]
  have h1 := fb_bd w k.BodyA
  have h2 := fb_bd w k.BodyB
  rw [Chk_of (by intro hh; simp at hh; omega), Chk_of (by intro hh; simp at hh; omega)]
  refine congrArg some ?_
  unfold okK at hk; simp at hk
  rw [Bool.eq_iff_iff]; simp; omega
def allK (w : World_) : List PairKey → Bool
  | [] => true
  | k :: t => if (!exk w k) = true then false else allK w t
theorem allK_eq (w : World_) : ∀ l : List PairKey, allK w l = l.all (exk w)
  | [] => rfl
  | k :: t => by unfold allK; rw [allK_eq w t]; cases h : exk w k <;> simp [h]
theorem ref25_res_eq (w : World_) (l : List PairKey) (h : Sm w.Bodies) (hl : Sm l) : caromref25_resolved w l = some (l.all (exk w)) := by
  unfold caromref25_resolved
  rw [← allK_eq]
  simp only [Let_nr]
  refine LOOP_l0 l (fun t _ => some (allK w t)) _ hl ?_ ?_
  · intro r i t hw hc hm hr
    have e : ∀ k : PairKey, (!exw w k.BodyA k.FixtureA || !exw w k.BodyB k.FixtureB) = !exk w k := by intro k; unfold exk; rw [Bool.not_and]
    simp only [dlt hc, if_true, hw, Chk_of hc, Let_nr, ref25_exi_eq w _ _ h, Bind_snr, Chk_of (fun _ => hc), Bind_if, cond_or, ga3, e, hr, allK]
    split <;> rfl
  · intro r; simp only [dll, ff, if_false, allK]
theorem ref25_Keys_eq (l : List Contact) (hl : l.length ≤ 10000) : caromref25_Keys l = some (l.map (·.Key)) := by
  unfold caromref25_Keys
  simp only [Let_nr]
  refine (LOOP_i l (fun i s => s.length = i) (fun t _ s => some (s ++ t.map (·.Key))) _ _ (sm_of hl (by omega)) rfl ?_ ?_)
  · intro r i t s hp hw hc hm hr
    have hp2 : (s ++ [(ix l (i : Int)).Key]).length = i + 1 := by simp [hp]
    have hb : (List.length s + [(ix l (i : Int)).Key].length) * 32 ≤ 140737488355328 := by simp [hp]; omega
    simp only [dlt hc, if_true, hw, Chk_of hc, Chk_of hb, Let_nr, hr _ hp2, List.map_cons, List.append_assoc, List.singleton_append]
  · intro r s hp; simp only [dll, ff, if_false, List.map_nil, List.append_nil]
theorem concat_eq (a b : List PairKey) (ha : a.length ≤ 10000) (hb : b.length ≤ 10000) : slices_Concat [a, b] = some (a ++ b) := by
  obtain ⟨n, hn⟩ : ∃ n, fuel = n + 3 := ⟨2 ^ 70 - 3, rfl⟩
  have w1 : IntKind.i64.wrap ((0 : Int) + (a.length : Int)) = (a.length : Int) := by rw [wrap_in _ (by omega) (by omega)]; omega
  have w2 : IntKind.i64.wrap ((a.length : Int) + (b.length : Int)) = (a.length : Int) + (b.length : Int) := wrap_in _ (by omega) (by omega)
  have w3 : IntKind.i64.wrap ((0 : Int) + (1 : Int)) = 1 := rfl
  have w4 : IntKind.i64.wrap ((1 : Int) + (1 : Int)) = 2 := rfl
  have w5 : IntKind.i64.wrap ((0 : Int) - (0 : Int)) = 0 := rfl
  have w6 : IntKind.i64.wrap ((a.length : Int) + (b.length : Int) - 0) = (a.length : Int) + (b.length : Int) := by rw [wrap_in _ (by omega) (by omega)]; omega
  have x0 : ix [a, b] (0 : Int) = a := rfl
  have x1 : ix [a, b] (1 : Int) = b := rfl
  have l2 : (([a, b] : List (List PairKey)).length : Int) = 2 := rfl
  have d0 : decide ((0 : Int) < 2) = true := rfl
  have d1 : decide ((1 : Int) < 2) = true := rfl
  have d2 : decide ((2 : Int) < 2) = false := rfl
  have e1 : decide ((a.length : Int) < 0) = false := decide_eq_false (by omega)
  have e2 : decide ((a.length : Int) + (b.length : Int) < 0) = false := decide_eq_false (by omega)
  have c0 : (0 : Int) ≤ (0 : Int) ∧ (0 : Int) < 2 := by omega
  have c1 : (0 : Int) ≤ (1 : Int) ∧ (1 : Int) < 2 := by omega
  have inner : ∀ v : List PairKey, v = [] → LOOP (fun (rec688 : List PairKey × Int → Option (List PairKey)) (s689 : List PairKey × Int) =>
      if decide (s689.snd < (2 : Int)) = true then Chk ((0 : Int) ≤ s689.snd ∧ s689.snd < (2 : Int))
      (Chk ((List.length s689.fst + (ix [a, b] s689.snd).length) * (32 : Nat) ≤ (140737488355328 : Nat)) (rec688 (s689.fst ++ ix [a, b] s689.snd, IntKind.i64.wrap (s689.snd + (1 : Int))))) else some s689.fst) (n + 3) (v, (0 : Int)) = some (a ++ b) := by
    intro v hv; subst hv
    have b1 : (List.length ([] : List PairKey) + a.length) * 32 ≤ 140737488355328 := by simp; omega
    have b2 : (a.length + b.length) * 32 ≤ 140737488355328 := by omega
    simp only [LOOP_s, d0, d1, d2, if_true, ff, if_false, Chk_of c0, Chk_of c1, x0, x1, w3, w4, Chk_of b1, List.nil_append, Chk_of b2]
  unfold slices_Concat
  rw [hn]
  simp only [Let_nr, Join_nr, l2]
  rw [LOOP_s]
  simp only [d0, if_true, Chk_of c0, x0, w1, e1, ff, if_false, w3]
  rw [LOOP_s]
  simp only [d1, if_true, Chk_of c1, x1, w2, e2, ff, if_false, w4]
  rw [LOOP_s]
  simp only [d2, ff, if_false, e2, w5, w6]
  by_cases hz : (a.length : Int) + (b.length : Int) > 0
  · rw [if_pos (decide_eq_true hz)]
    rw [Chk_true, Chk_of ⟨hz, by omega, by omega⟩, Chk_of (by simp), Chk_of (by simp)]
    exact inner _ (by simp)
  · rw [if_neg (by simpa using hz)]
    exact inner _ rfl
end GoForm


/-
  Plain laws of world: validation agrees with the reference. No conditions.
-/
set_option linter.all false
set_option maxRecDepth 100000
open Go Go.Rx

namespace GoForm
/-- A world that is small enough. -/
structure Few (w : World_) : Prop where
  bodies : w.Bodies.length ≤ 40
  joints : w.Joints.length ≤ 40
  contacts : w.Contacts.length ≤ 80
  overlaps : w.Overlaps.length ≤ 80
  points : ∀ c ∈ w.Contacts, c.Manifold.Points.length ≤ 8
  fixtures : ∀ b ∈ w.Bodies, b.Fixtures.length ≤ 8
  vertices : ∀ b ∈ w.Bodies, ∀ f ∈ b.Fixtures, f.Shape.Vertices.length ≤ 20
theorem Few.sb {w : World_} (h : Few w) : Sm w.Bodies := sm_of h.bodies (by omega)
theorem Few.sj {w : World_} (h : Few w) : Sm w.Joints := sm_of h.joints (by omega)
theorem Few.sc {w : World_} (h : Few w) : Sm w.Contacts := sm_of h.contacts (by omega)
theorem Few.so {w : World_} (h : Few w) : Sm w.Overlaps := sm_of h.overlaps (by omega)
def keysOf (w : World_) : List PairKey := w.Contacts.map (·.Key)
theorem Few.sk {w : World_} (h : Few w) : Sm (keysOf w) := sm_of (n := 80) (by unfold keysOf; rw [List.length_map]; exact h.contacts) (by omega)
def k0 : PairKey := ⟨0, 0, 0, 0⟩
def cOk (w : World_) : Bool := w.Contacts.all (fun c => mOk c.Manifold) && (vks (keysOf w) 0 k0 && vks w.Overlaps 0 k0 && ((keysOf w).all (exk w) && w.Overlaps.all (exk w)))
theorem vks_ok : ∀ (l : List PairKey) (i : Nat) (p : PairKey), vks l i p = true → ∀ k ∈ l, okK k = true
  | [], _, _, _, _, h => by simp at h
  | a :: t, i, p, h, k, hk => by
    unfold vks at h
    split at h
    · exact absurd h (by simp)
    · rename_i hh
      rcases List.mem_cons.1 hk with e | e
      · subst e; simp at hh; exact hh.1
      · exact vks_ok t _ _ h k e
def vcs (fin : List PairKey → Bool) : List Contact → List PairKey → Bool
  | [], s => fin s
  | c :: t, s => if (!mOk c.Manifold) = true then false else vcs fin t (s ++ [c.Key])
theorem vcs_eq (fin : List PairKey → Bool) : ∀ (l : List Contact) (s : List PairKey), vcs fin l s = (l.all (fun c => mOk c.Manifold) && fin (s ++ l.map (·.Key)))
  | [], s => by simp [vcs]
  | c :: t, s => by unfold vcs; rw [vcs_eq fin t]; cases h : mOk c.Manifold <;> simp [h]
theorem world_con_eq (w : World_) (h : Few w) : world_validContacts w = some (cOk w) := by
  have hf : ∀ s : List PairKey, s.length ≤ 80 → (Rx.Bind (broadphase_ValidKeys s) fun (r726 : Bool) =>
      Rx.Bind (if ((!r726) == false) = true then broadphase_ValidKeys w.Overlaps else some default) fun (r728 : Bool) =>
      if (bif !r726 then true else !r728) = true then some false
      else
      Rx.Bind (slices_Concat [s, w.Overlaps]) fun (r731 : List PairKey) =>
      Rx.Bind (slices_ContainsFunc r731 fun a => world_validContacts_1 a w) fun (r732 : Bool) => some !r732) = some (vks s 0 k0 && vks w.Overlaps 0 k0 && (s.all (exk w) && w.Overlaps.all (exk w))) := by
    intro s hs
    simp only [vk_eq s (sm_of hs (by omega)), vk_eq _ h.so, Bind_snr, Bind_if, cond_or, ga3]
    show (if (!vks s 0 k0 || !vks w.Overlaps 0 k0) = true then some false else _) = _
    cases h1 : vks s 0 k0
    · rfl
    · cases h2 : vks w.Overlaps 0 k0
      · rfl
      · simp only [Bool.not_true, Bool.or_false, ff, if_false, Bool.true_and]
        rw [concat_eq s w.Overlaps (by omega) (by have := h.overlaps; omega), Bind_snr]
        rw [ctf_key (s ++ w.Overlaps) _ (fun k => !exk w k) (sm_of (n := 200) (by have := h.overlaps; simp; omega) (by omega))]
        · rw [Bind_snr, List.any_append, List.any_eq_not_all_not, List.any_eq_not_all_not]
          simp only [Bool.not_not, Bool.not_or]
        · intro k hk
          have : okK k = true := by
            rcases List.mem_append.1 hk with e | e
            · exact vks_ok _ _ _ h1 k e
            · exact vks_ok _ _ _ h2 k e
          unfold world_validContacts_1
          rw [world_fix_eq w k h.sb this, Bind_snr, Let_nr]
  unfold world_validContacts
  simp only [Let_nr]
  have hc0 : cOk w = vcs (fun s => vks s 0 k0 && vks w.Overlaps 0 k0 && (s.all (exk w) && w.Overlaps.all (exk w))) w.Contacts [] := by rw [vcs_eq]; rfl
  rw [hc0]
  refine (LOOP_i w.Contacts (fun i s => s.length = i) (fun t _ s => some (vcs (fun s => vks s 0 k0 && vks w.Overlaps 0 k0 && (s.all (exk w) && w.Overlaps.all (exk w))) t s)) _ _ h.sc rfl ?_ ?_)
  · intro r i t s hp hw hc hm hr
    have hl := h.contacts
    have hp2 : (s ++ [(ix w.Contacts (i : Int)).Key]).length = i + 1 := by simp [hp]
    have hb : (List.length s + [(ix w.Contacts (i : Int)).Key].length) * 32 ≤ 140737488355328 := by simp [hp]; omega
    simp only [dlt hc, if_true, hw, Chk_of hc, Chk_of hb, world_man_eq _ (sm_of (h.points _ hm) (by omega)), Bind_snr, Let_nr, hr _ hp2, vcs]
    split <;> rfl
  · intro r s hp
    have hl := h.contacts
    simp only [dll, ff, if_false]
    exact hf s (by omega)
def allM : List Contact → Bool
  | [] => true
  | c :: t => if (!mOk c.Manifold) = true then false else allM t
theorem allM_eq : ∀ l : List Contact, allM l = l.all (fun c => mOk c.Manifold)
  | [] => rfl
  | c :: t => by unfold allM; rw [allM_eq t]; cases h : mOk c.Manifold <;> simp [h]
theorem ref25_cts_eq (w : World_) (h : Few w) : caromref25_validContacts w = some (cOk w) := by
  unfold caromref25_validContacts cOk
  have hk : caromref25_Keys w.Contacts = some (keysOf w) := ref25_Keys_eq _ (by have := h.contacts; omega)
  have hL : LOOP (fun (rec1339 : Int → Option Bool) (s1340 : Int) =>
      if decide (s1340 < (w.Contacts.length : Int)) = true then Chk ((0 : Int) ≤ s1340 ∧ s1340 < (w.Contacts.length : Int))
      (Rx.Bind (caromref25_validPoints (ix w.Contacts s1340).Manifold) fun (r1344 : Bool) =>
      if (!r1344) = true then some false else rec1339 (IntKind.i64.wrap (s1340 + (1 : Int)))) else some true) fuel (0 : Int) = some (w.Contacts.all (fun c => mOk c.Manifold)) := by
    rw [← allM_eq]
    refine LOOP_l0 w.Contacts (fun t _ => some (allM t)) _ h.sc ?_ ?_
    · intro r i t hw hc hm hr
      simp only [dlt hc, if_true, hw, Chk_of hc, ref25_man_eq _ (sm_of (h.points _ hm) (by omega)), Bind_snr, hr, allM]
      split <;> rfl
    · intro r; simp only [dll, ff, if_false, allM]
  simp only [Let_nr, hk, ref22_vk_eq _ h.sk, ref22_vk_eq _ h.so, ref25_res_eq w _ h.sb h.sk, ref25_res_eq w _ h.sb h.so, Bind_snr, Bind_if, cond_or, ga3, hL]
  show (if (((!vks (keysOf w) 0 k0 || !vks w.Overlaps 0 k0) || !(keysOf w).all (exk w)) || !w.Overlaps.all (exk w)) = true then some false else _) = _
  generalize vks (keysOf w) 0 k0 = b1
  generalize vks w.Overlaps 0 k0 = b2
  generalize (keysOf w).all (exk w) = b3
  generalize w.Overlaps.all (exk w) = b4
  cases b1 <;> cases b2 <;> cases b3 <;> cases b4 <;> simp
def wv (w : World_) : Int := if (vset w.Settings != 0) = true then 17 else if (decide (32 < (w.Bodies.length : Int)) || decide (32 < (w.Joints.length : Int)) || decide (8192 < (w.Contacts.length : Int)) || decide (8192 < (w.Overlaps.length : Int))) = true then 11 else if (!inb w.NextID 1 1099511627776 || !inb w.Frame 0 1099511627776) = true then 6 else if (!vbs w.NextID w.Bodies 0 0) = true then 14 else if (!vjs w w.Joints 0 0) = true then 15 else if (!cOk w) = true then 16 else 0
theorem world_Val_eq (w : World_) (h : Few w) : world_Validate w = some (wv w) := by
  unfold world_Validate wv
  simp only [Let_nr, world_set_eq, world_in_eq, world_bodies_eq w h.sb, world_joints_eq w h.sj h.sb, world_con_eq w h, Bind_snr, Bind_if, cond_or, ga3, gt_iff_lt]
  repeat' split
  all_goals rfl
theorem ref25_Val_eq (w : World_) (h : Few w) : caromref25_Validate w = some (wv w) := by
  unfold caromref25_Validate wv
  simp only [Let_nr, ref25_set_eq, ref25_in_eq, ref25_bodies_eq w h.sb, ref25_joints_eq w h.sj h.sb, ref25_cts_eq w h, Bind_snr, Bind_if, cond_or, ga3, gt_iff_lt]
  repeat' split
  all_goals rfl
end GoForm


/-
  Plain laws of world: a clone equals what it was made of. No conditions.
-/
set_option linter.all false
set_option maxRecDepth 100000
open Go Go.Rx

namespace GoForm
theorem cloneB (l : List Body) (h : l.length ≤ 100000) : slices_Clone l = some l := by
  unfold slices_Clone; rw [Alike_of (by intro h; subst h; rfl), Chk_of (by omega)]
theorem cloneV (l : List Vec) (h : l.length ≤ 100000) : slices_Clone_126 l = some l := by
  unfold slices_Clone_126; rw [Alike_of (by intro h; subst h; rfl), Chk_of (by omega)]
theorem cloneJ (l : List Joint) (h : l.length ≤ 100000) : slices_Clone_36 l = some l := by
  unfold slices_Clone_36; rw [Alike_of (by intro h; subst h; rfl), Chk_of (by omega)]
theorem cloneC (l : List Contact) (h : l.length ≤ 100000) : slices_Clone_37 l = some l := by
  unfold slices_Clone_37; rw [Alike_of (by intro h; subst h; rfl), Chk_of (by omega)]
theorem cloneK (l : List PairKey) (h : l.length ≤ 100000) : slices_Clone_38 l = some l := by
  unfold slices_Clone_38; rw [Alike_of (by intro h; subst h; rfl), Chk_of (by omega)]
theorem cloneP (l : List ContactPoint) (h : l.length ≤ 100000) : slices_Clone_84 l = some l := by
  unfold slices_Clone_84; rw [Alike_of (by intro h; subst h; rfl), Chk_of (by omega)]
/-- A body that is small enough. -/
def SmB (b : Body) : Prop := b.Fixtures.length ≤ 10000 ∧ ∀ f ∈ b.Fixtures, f.Shape.Vertices.length ≤ 10000
theorem Few.smb {w : World_} (h : Few w) : ∀ b ∈ w.Bodies, SmB b := fun b hb => ⟨Nat.le_trans (h.fixtures b hb) (by omega), fun f hf => Nat.le_trans (h.vertices b hb f hf) (by omega)⟩
theorem body_Clone_eq (b : Body) (h : SmB b) : body_Clone b = some b := by
  unfold body_Clone
  simp only [Let_nr]
  refine (LOOP_i b.Fixtures (fun i s => s.length = i) (fun t _ s => some { b with Fixtures := s ++ t }) _ [] (sm_of h.1 (by omega)) rfl ?_ ?_)
  · intro r i t s hp hw hc hm hr
    have hl := h.1
    have hp2 : ∀ f : Fixture, (s ++ [f]).length = i + 1 := by intro f; simp [hp]
    have hb : ∀ f : Fixture, (List.length s + [f].length) * 96 ≤ 140737488355328 := by intro f; simp [hp]; omega
    have hsh : shape_Clone (ix b.Fixtures (i : Int)).Shape = some (ix b.Fixtures (i : Int)).Shape := by
      unfold shape_Clone; rw [cloneV _ (Nat.le_trans (h.2 _ hm) (by omega))]; rfl
    simp only [dlt hc, if_true, hw, Chk_of hc, hsh, Bind_snr, Chk_of (hb _), hr _ (hp2 _), List.append_assoc, List.singleton_append]
  · intro r s hp; simp only [dll, ff, if_false, List.append_nil]
theorem man_Clone_eq (m : Manifold) (h : m.Points.length ≤ 100000) : manifold_Clone m = some m := by
  unfold manifold_Clone; rw [cloneP _ h]; rfl
/-- A world that is small enough to be cloned. -/
structure SmW (w : World_) : Prop where
  bodies : w.Bodies.length ≤ 10000
  joints : w.Joints.length ≤ 10000
  contacts : w.Contacts.length ≤ 10000
  overlaps : w.Overlaps.length ≤ 10000
  points : ∀ c ∈ w.Contacts, c.Manifold.Points.length ≤ 10000
  body : ∀ b ∈ w.Bodies, SmB b
theorem Few.smw {w : World_} (h : Few w) : SmW w := ⟨Nat.le_trans h.bodies (by omega), Nat.le_trans h.joints (by omega), Nat.le_trans h.contacts (by omega), Nat.le_trans h.overlaps (by omega), fun c hc => Nat.le_trans (h.points c hc) (by omega), h.smb⟩
theorem world_Clone_eq (w : World_) (h : SmW w) : world_Clone w = some w := by
  unfold world_Clone
  simp only [cloneB _ (Nat.le_trans h.bodies (by omega)), cloneJ _ (Nat.le_trans h.joints (by omega)), cloneC _ (Nat.le_trans h.contacts (by omega)), cloneK _ (Nat.le_trans h.overlaps (by omega)), Bind_snr, Let_nr]
  refine (LOOP_j w.Bodies (fun _ s => s = w.Bodies) (fun _ _ _ => some w) _ _ (sm_of h.bodies (by omega)) rfl ?_ ?_)
  · intro r i t s hp hw hc hm hr
    subst hp
    have e : List.set w.Bodies (Int.toNat (i : Int)) (ix w.Bodies (i : Int)) = w.Bodies := set_ix _ _
    simp only [dlt hc, if_true, hw, Chk_of hc, body_Clone_eq _ (h.body _ hm), Bind_snr, e, hr _ rfl]
  · intro r s hp
    subst hp
    simp only [dll, ff, if_false]
    refine (LOOP_j w.Contacts (fun _ s => s = w.Contacts) (fun _ _ _ => some w) _ _ (sm_of h.contacts (by omega)) rfl ?_ ?_)
    · intro r i t s hp hw hc hm hr
      subst hp
      have e : List.set w.Contacts (Int.toNat (i : Int)) { Key := (ix w.Contacts (i : Int)).Key, Manifold := (ix w.Contacts (i : Int)).Manifold : Contact } = w.Contacts := set_ix _ _
      simp only [dlt hc, if_true, hw, Chk_of hc, man_Clone_eq _ (Nat.le_trans (h.points _ hm) (by omega)), Bind_snr, e, hr _ rfl]
    · intro r s hp; subst hp; simp only [dll, ff, if_false]
def zeroW : World_ := { Settings := { TimeStep := 0, Gravity := { X := 0, Y := 0 }, Iterations := 0, SleepSteps := 0 }, Bodies := [], Joints := [], Contacts := [], Overlaps := [], NextID := 0, Frame := 0 }
def addW (w : World_) (b : Body) : World_ × Int × Int :=
  if (decide (32 ≤ (w.Bodies.length : Int)) || decide (1099511627776 ≤ w.NextID)) = true then (zeroW, 0, 9)
  else if (GoOld.validB { b with ID := w.NextID } != 0) = true then (zeroW, 0, 14)
  else ({ w with Bodies := w.Bodies ++ [{ b with ID := w.NextID }], NextID := IntKind.i64.wrap (w.NextID + 1) }, w.NextID, 0)
end GoForm


/-
  WorldValidation in plain Lean: the law holds of every world. No conditions.
-/
set_option linter.all false
set_option maxRecDepth 100000
open Go Go.Rx

namespace GoForm
def fewB (b : Body) : Bool := decide ((b.Fixtures.length : Int) ≤ 8) && b.Fixtures.all (fun f => decide ((f.Shape.Vertices.length : Int) ≤ 20))
def allF {X : Type} (fin bad : X) : List Fixture → X
  | [] => fin
  | f :: t => if decide ((f.Shape.Vertices.length : Int) > 20) = true then bad else allF fin bad t
theorem allF_eq {X : Type} (fin bad : X) : ∀ l : List Fixture, allF fin bad l = if l.all (fun f => decide ((f.Shape.Vertices.length : Int) ≤ 20)) = true then fin else bad
  | [] => rfl
  | f :: t => by
    unfold allF; rw [allF_eq fin bad t]
    by_cases h : (f.Shape.Vertices.length : Int) > 20
    · have : decide ((f.Shape.Vertices.length : Int) ≤ 20) = false := decide_eq_false (by omega)
      simp only [h, decide_true, if_true, List.all_cons, this, Bool.false_and, ff, if_false]
    · have : decide ((f.Shape.Vertices.length : Int) ≤ 20) = true := decide_eq_true (by omega)
      simp only [decide_eq_false h, ff, if_false, List.all_cons, this, Bool.true_and]
def allB : List Body → Bool
  | [] => true
  | b :: t => if decide ((b.Fixtures.length : Int) > 8) = true then false else if b.Fixtures.all (fun f => decide ((f.Shape.Vertices.length : Int) ≤ 20)) = true then allB t else false
theorem allB_eq : ∀ l : List Body, allB l = l.all fewB
  | [] => rfl
  | b :: t => by
    unfold allB fewB; rw [allB_eq t]
    by_cases h : (b.Fixtures.length : Int) > 8
    · have : decide ((b.Fixtures.length : Int) ≤ 8) = false := decide_eq_false (by omega)
      simp only [h, decide_true, if_true, List.all_cons, this, Bool.false_and]
    · have : decide ((b.Fixtures.length : Int) ≤ 8) = true := decide_eq_true (by omega)
      simp only [decide_eq_false h, ff, if_false, List.all_cons, this, Bool.true_and]
      cases b.Fixtures.all (fun f => decide ((f.Shape.Vertices.length : Int) ≤ 20)) <;> rfl
def few (w : World_) : Bool := decide ((w.Joints.length : Int) ≤ 40) && decide ((w.Contacts.length : Int) ≤ 80) && decide ((w.Overlaps.length : Int) ≤ 80) && (decide ((w.Bodies.length : Int) ≤ 40) && w.Bodies.all fewB) && w.Contacts.all (fun c => decide ((c.Manifold.Points.length : Int) ≤ 8))
def allC : List Contact → Bool
  | [] => true
  | c :: t => if decide ((c.Manifold.Points.length : Int) > 8) = true then false else allC t
theorem allC_eq : ∀ l : List Contact, allC l = l.all (fun c => decide ((c.Manifold.Points.length : Int) ≤ 8))
  | [] => rfl
  | c :: t => by
    unfold allC; rw [allC_eq t]
    by_cases h : (c.Manifold.Points.length : Int) > 8
    · have : decide ((c.Manifold.Points.length : Int) ≤ 8) = false := decide_eq_false (by omega)
      simp only [h, decide_true, if_true, List.all_cons, this, Bool.false_and]
    · have : decide ((c.Manifold.Points.length : Int) ≤ 8) = true := decide_eq_true (by omega)
      simp only [decide_eq_false h, ff, if_false, List.all_cons, this, Bool.true_and]
theorem few_Few {w : World_} (h : few w = true) : Few w := by
  unfold few fewB at h
  simp only [Bool.and_eq_true, decide_eq_true_eq, List.all_eq_true] at h
  obtain ⟨⟨⟨⟨h1, h2⟩, h3⟩, h4, h5⟩, h6⟩ := h
  exact ⟨by omega, by omega, by omega, by omega, fun c hc => by have := h6 c hc; omega, fun b hb => by have := (h5 b hb).1; omega, fun b hb f hf => by have := (h5 b hb).2 f hf; omega⟩
def nilW (s : Settings) (n : Int) : World_ := { Settings := s, Bodies := [], Joints := [], Contacts := [], Overlaps := [], NextID := n, Frame := 0 }
def newW (s : Settings) : World_ × Int := if (vset s != 0) = true then (nilW ⟨0, ⟨0, 0⟩, 0, 0⟩ 0, vset s) else (nilW s 1, 0)
theorem nilW_few (s : Settings) (n : Int) : Few (nilW s n) := ⟨by unfold nilW; simp, by unfold nilW; simp, by unfold nilW; simp, by unfold nilW; simp, by unfold nilW; simp, by unfold nilW; simp, by unfold nilW; simp⟩
theorem wrap1 : IntKind.i64.wrap ((1 : Int) + 1) = 2 := rfl
def b9 : Body := { ID := 1, Kind := 1, Transform := ⟨⟨0, 0⟩, 0⟩, Velocity := ⟨0, 0⟩, AngularVelocity := 0, Force := ⟨0, 0⟩, Torque := 0, LinearDamping := 0, AngularDamping := 0, GravityScale := 0, Bullet := false, FixedRotation := false, NoSleep := false, Asleep := false, IdleSteps := 0, Fixtures := [] }
def w9 : World_ := { Settings := ⟨1024, ⟨0, 0⟩, 4, 60⟩, Bodies := [b9], Joints := [], Contacts := [], Overlaps := [], NextID := 2, Frame := 0 }
theorem val9 : world_Validate w9 = some 0 := by
  have : Few w9 := ⟨by unfold w9; simp, by unfold w9; simp, by unfold w9; simp, by unfold w9; simp, by unfold w9; simp, by intro b hb; simp [w9] at hb; subst hb; simp [b9], by intro b hb; simp [w9] at hb; subst hb; simp [b9]⟩
  rw [world_Val_eq _ this]; exact congrArg some (by decide +kernel)
end GoForm


/-
  Plain laws of metrics: what each measurement computes. No conditions.
-/
set_option linter.all false
set_option maxRecDepth 100000
open Go Go.Rx

namespace GoForm
/-! the functions below, by their values -/
theorem mFA (a b : Int) : fixed_Add a b = some (GoOld.addS a b) := by rw [br_fixed_Add, GoOld.fixed_Add_eq]
theorem mFM (a b : Int) : fixed_Mul a b = some (GoOld.mulS a b) := by rw [br_fixed_Mul, GoOld.fixed_Mul_eq]
theorem mFD (a b : Int) : fixed_RoundDiv a b = some (GoOld.rdv a b) := by rw [br_fixed_RoundDiv, GoOld.fixed_RoundDiv_eq]
theorem mFR (a b : Int) : fixed_Ratio a b = some (GoOld.ratio a b) := by rw [br_fixed_Ratio, GoOld.fixed_Ratio_eq]
theorem mVA (a b : Vec) : vec2_Add a b = some (GoOld.addV a b) := by rw [br_vec2_Add, GoOld.vec2_Add_eq]
theorem mVS (a : Vec) (k : Int) : vec2_Scale a k = some (GoOld.scaleV a k) := by rw [br_vec2_Scale, GoOld.vec2_Scale_eq]
theorem mVD (a b : Vec) : vec2_Dot a b = some (GoOld.dotV a b) := by rw [br_vec2_Dot, GoOld.vec2_Dot_eq]
theorem mVL (a b : Vec) (t : Int) : vec2_Lerp a b t = some (GoOld.lerpV a b t) := by rw [br_vec2_Lerp, GoOld.vec2_Lerp_eq]
theorem mVN (a : Vec) : vec2_Length a = some (GoOld.lenV a) := by rw [br_vec2_Length, GoOld.vec2_Length_eq]
theorem mMD (b : Body) : body_MassData b = some (GoOld.massM b.Fixtures) := by rw [br_body_MassData, GoOld.body_MassData_eq]
theorem mWC (b : Body) : body_WorldCenter b = some (GoOld.centerW b) := by rw [br_body_WorldCenter, GoOld.body_WorldCenter_eq]
theorem mBB (b : Body) (h : SmB b) : body_Bounds b = some (GoOld.bodyBx b) := by rw [br_body_Bounds, GoOld.body_Bounds_eq b (Nat.le_trans h.1 (by omega))]
theorem mAU (a b : AABB) : aabb_Union a b = some (GoOld.unionBx a b) := by rw [br_aabb_Union, GoOld.aabb_Union_eq]
theorem rFA (a b : Int) : caromref01_Add a b = some (GoOld.addS a b) := by rw [br_caromref01_Add, GoOld.ref01_Add_eq]
theorem rFM (a b : Int) : caromref01_Mul a b = some (GoOld.mulS a b) := by rw [br_caromref01_Mul, GoOld.ref01_Mul_eq]
theorem rFD (a b : Int) : caromref01_RoundDiv a b = some (GoOld.rdv a b) := by rw [br_caromref01_RoundDiv, GoOld.ref01_RoundDiv_eq]
theorem rFR (a b : Int) : caromref01_Ratio a b = some (GoOld.ratio a b) := by rw [br_caromref01_Ratio, GoOld.ref01_Ratio_eq]
theorem rVA (a b : Vec) : caromref03_Add a b = some (GoOld.addV a b) := by rw [br_caromref03_Add, GoOld.ref03_Add_eq]
theorem rVS (a : Vec) (k : Int) : caromref03_Scale a k = some (GoOld.scaleV a k) := by rw [br_caromref03_Scale, GoOld.ref03_Scale_eq]
theorem rVD (a b : Vec) : caromref03_Dot a b = some (GoOld.dotV a b) := by rw [br_caromref03_Dot, GoOld.ref03_Dot_eq]
theorem rVL (a b : Vec) (t : Int) : caromref03_Lerp a b t = some (GoOld.lerpV a b t) := by rw [br_caromref03_Lerp, GoOld.ref03_Lerp_eq]
theorem rVN (a : Vec) : caromref03_Length a = some (GoOld.lenV a) := by rw [br_caromref03_Length, GoOld.ref03_Length_eq]
theorem rMD (b : Body) : caromref23_MassData b = some (GoOld.massM b.Fixtures) := by rw [br_caromref23_MassData, GoOld.ref23_MassData_eq]
theorem rWC (b : Body) : caromref23_WorldCenter b = some (GoOld.centerW b) := by rw [br_caromref23_WorldCenter, GoOld.ref23_WorldCenter_eq]
theorem rBB (b : Body) (h : SmB b) : caromref23_Bounds b = some (GoOld.bodyBx b) := by rw [br_caromref23_Bounds, GoOld.ref23_Bounds_eq b (Nat.le_trans h.1 (by omega))]
theorem rAU (a b : AABB) : caromref05_Union a b = some (GoOld.unionBx a b) := by rw [br_caromref05_Union, GoOld.ref05_Union_eq]
/-! the dynamic bodies, the contact points -/
def dyn (w : World_) : List Body := if (wv w != 0) = true then [] else w.Bodies.filter (fun b => b.Kind == 3)
theorem dyn_len (w : World_) (h : Few w) : (dyn w).length ≤ 40 := by
  unfold dyn; split
  · simp
  · exact Nat.le_trans (List.length_filter_le _ _) h.bodies
theorem dyn_sub (w : World_) : ∀ b ∈ dyn w, b ∈ w.Bodies := by
  intro b hb; unfold dyn at hb; split at hb
  · simp at hb
  · exact (List.mem_filter.1 hb).1
theorem met_dyn_eq (w : World_) (h : Few w) : metrics_dynamicBodies w = some (dyn w) := by
  have hl := h.bodies
  unfold metrics_dynamicBodies dyn
  simp only [world_Val_eq w h, Bind_snr, Let_nr, Join_nr]
  split
  · rfl
  · refine LOOP_i w.Bodies (fun i s => s.length ≤ i) (fun t _ s => some (s ++ t.filter (fun b => b.Kind == 3))) _ [] h.sb (Nat.le_refl _) ?_ ?_
    · intro r i t s hp hw hc hm hr
      have hb : ∀ x : Body, (s.length + [x].length) * 152 ≤ 140737488355328 := by intro x; simp; omega
      simp only [dlt hc, if_true, hw, Chk_of hc, List.filter_cons, Chk_of (hb _)]
      split
      · rw [hr _ (by simp; omega)]; simp
      · rw [hr _ (by omega)]
    · intro r s hp; simp only [dll, ff, if_false, List.filter_nil, List.append_nil]
theorem ref_dyn_eq (w : World_) (h : Few w) : caromref51_dynamicBodies w = some (dyn w) := by
  have hl := h.bodies
  unfold caromref51_dynamicBodies dyn
  simp only [ref25_Val_eq w h, Bind_snr, Let_nr, Join_nr]
  split
  · rfl
  · refine LOOP_i w.Bodies (fun i s => s.length ≤ i) (fun t _ s => some (s ++ t.filter (fun b => b.Kind == 3))) _ [] h.sb (Nat.le_refl _) ?_ ?_
    · intro r i t s hp hw hc hm hr
      have hb : ∀ x : Body, (s.length + [x].length) * 152 ≤ 140737488355328 := by intro x; simp; omega
      simp only [dlt hc, if_true, hw, Chk_of hc, List.filter_cons, Chk_of (hb _)]
      split
      · rw [hr _ (by simp; omega)]; simp
      · rw [hr _ (by omega)]
    · intro r s hp; simp only [dll, ff, if_false, List.filter_nil, List.append_nil]
def cps (w : World_) : List ContactPoint := if (wv w != 0) = true then [] else w.Contacts.flatMap (fun c => c.Manifold.Points)
theorem cps_len (w : World_) (h : Few w) : (cps w).length ≤ 800 := by
  have : ∀ l : List Contact, (∀ c ∈ l, c.Manifold.Points.length ≤ 8) → (l.flatMap (fun c => c.Manifold.Points)).length ≤ l.length * 8 := by
    intro l; induction l with
    | nil => intro _; simp
    | cons a t ih => intro hh; have h1 := hh a (by simp); have h2 := ih (fun c hc => hh c (by simp [hc])); simp only [List.flatMap_cons, List.length_append, List.length_cons]; omega
  unfold cps; split
  · simp
  · have := this w.Contacts h.points; have := h.contacts; omega
theorem met_cps_eq (w : World_) (h : Few w) : metrics_contactPoints w = some (cps w) := by
  have hl := h.contacts
  unfold metrics_contactPoints cps
  simp only [world_Val_eq w h, Bind_snr, Let_nr]
  split
  · rfl
  · refine LOOP_i w.Contacts (fun i s => s.length ≤ i * 8) (fun t _ s => some (s ++ t.flatMap (fun c => c.Manifold.Points))) _ [] h.sc (Nat.zero_le _) ?_ ?_
    · intro r i t s hp hw hc hm hr
      have h8 := h.points _ hm
      have hb : (s.length + (ix w.Contacts (i : Int)).Manifold.Points.length) * 48 ≤ 140737488355328 := by omega
      simp only [dlt hc, if_true, hw, Chk_of hc, Chk_of hb, List.flatMap_cons]
      rw [hr _ (by simp; omega)]; simp
    · intro r s hp; simp only [dll, ff, if_false, List.flatMap_nil, List.append_nil]
theorem ref_cps_eq (w : World_) (h : Few w) : caromref51_contactPoints w = some (cps w) := by
  have hl := h.contacts
  unfold caromref51_contactPoints cps
  simp only [ref25_Val_eq w h, Bind_snr, Let_nr]
  split
  · rfl
  · refine LOOP_i w.Contacts (fun i s => s.length ≤ i * 8) (fun t _ s => some (s ++ t.flatMap (fun c => c.Manifold.Points))) _ [] h.sc (Nat.zero_le _) ?_ ?_
    · intro r i t s hp hw hc hm hr
      have h8 := h.points _ hm
      have hb : (s.length + (ix w.Contacts (i : Int)).Manifold.Points.length) * 48 ≤ 140737488355328 := by omega
      simp only [dlt hc, if_true, hw, Chk_of hc, Chk_of hb, List.flatMap_cons]
      rw [hr _ (by simp; omega)]; simp
    · intro r s hp; simp only [dll, ff, if_false, List.flatMap_nil, List.append_nil]
/-! the measurements -/
def momF (p : Vec) (b : Body) : Vec := GoOld.addV p (GoOld.scaleV b.Velocity (GoOld.massM b.Fixtures).Mass)
def mom (l : List Body) : Vec := l.foldl momF ⟨0, 0⟩
theorem met_mom_eq (w : World_) (h : Few w) : metrics_Momentum w = some (mom (dyn w)) := by
  unfold metrics_Momentum mom
  simp only [met_dyn_eq w h, Bind_snr, Let_nr]
  refine LOOP_l2 (dyn w) (fun t _ s => some (t.foldl momF s)) _ _ (sm_of (dyn_len w h) (by omega)) ?_ ?_
  · intro r i t s hw hc hm hr
    simp only [dlt hc, if_true, hw, Chk_of hc, mMD, mVS, mVA, Bind_snr, hr, List.foldl_cons, momF]
  · intro r s; simp only [dll, ff, if_false, List.foldl_nil]
theorem ref_mom_eq (w : World_) (h : Few w) : caromref51_Momentum w = some (mom (dyn w)) := by
  unfold caromref51_Momentum mom
  simp only [ref_dyn_eq w h, Bind_snr, Let_nr]
  refine LOOP_l2 (dyn w) (fun t _ s => some (t.foldl momF s)) _ _ (sm_of (dyn_len w h) (by omega)) ?_ ?_
  · intro r i t s hw hc hm hr
    simp only [dlt hc, if_true, hw, Chk_of hc, rMD, rVS, rVA, Bind_snr, hr, List.foldl_cons, momF]
  · intro r s; simp only [dll, ff, if_false, List.foldl_nil]
def keF (s : Int) (b : Body) : Int := GoOld.addS (GoOld.addS s (GoOld.rdv (GoOld.mulS (GoOld.massM b.Fixtures).Mass (GoOld.dotV b.Velocity b.Velocity)) 2)) (GoOld.rdv (GoOld.mulS (GoOld.massM b.Fixtures).Inertia (GoOld.mulS b.AngularVelocity b.AngularVelocity)) 2)
def ke (l : List Body) : Int := l.foldl keF 0
theorem met_ke_eq (w : World_) (h : Few w) : metrics_KineticEnergy w = some (ke (dyn w)) := by
  unfold metrics_KineticEnergy ke
  simp only [met_dyn_eq w h, Bind_snr, Let_nr]
  refine LOOP_l1 (dyn w) (fun t _ s => some (t.foldl keF s)) _ _ (sm_of (dyn_len w h) (by omega)) ?_ ?_
  · intro r i t s hw hc hm hr
    simp only [dlt hc, if_true, hw, Chk_of hc, mMD, mVD, mFM, mFD, mFA, Bind_snr, hr, List.foldl_cons, keF]
  · intro r s; simp only [dll, ff, if_false, List.foldl_nil]
theorem ref_ke_eq (w : World_) (h : Few w) : caromref51_KineticEnergy w = some (ke (dyn w)) := by
  unfold caromref51_KineticEnergy ke
  simp only [ref_dyn_eq w h, Bind_snr, Let_nr]
  refine LOOP_l1 (dyn w) (fun t _ s => some (t.foldl keF s)) _ _ (sm_of (dyn_len w h) (by omega)) ?_ ?_
  · intro r i t s hw hc hm hr
    simp only [dlt hc, if_true, hw, Chk_of hc, rMD, rVD, rFM, rFD, rFA, Bind_snr, hr, List.foldl_cons, keF]
  · intro r s; simp only [dll, ff, if_false, List.foldl_nil]
def comF : List Body → Int → Vec → Vec × Bool
  | [], m, c => (c, decide (0 < m))
  | b :: t, m, c => if decide ((GoOld.massM b.Fixtures).Mass < 1) = true then comF t m c else if (m == 0) = true then comF t (GoOld.massM b.Fixtures).Mass (GoOld.centerW b) else comF t (GoOld.addS m (GoOld.massM b.Fixtures).Mass) (GoOld.lerpV c (GoOld.centerW b) (GoOld.ratio (GoOld.massM b.Fixtures).Mass (GoOld.addS m (GoOld.massM b.Fixtures).Mass)))
def com (l : List Body) : Vec × Bool := comF l 0 ⟨0, 0⟩
theorem met_com_eq (w : World_) (h : Few w) : metrics_CenterOfMass w = some (com (dyn w)) := by
  unfold metrics_CenterOfMass com
  simp only [met_dyn_eq w h, Bind_snr, Let_nr, Join_nr]
  refine LOOP_g (dyn w) (fun (v : Int × Int × Vec) => v.2.1) (fun _ _ => True) (fun t v => some (comF t v.1 v.2.2)) _ _ (sm_of (dyn_len w h) (by omega)) rfl trivial ?_ ?_
  · rintro r i t ⟨m, j, c⟩ hj - hw hc hm hr
    dsimp only at hj; subst hj
    have hr' : ∀ m c, r (m, (i : Int) + 1, c) = some (comF t m c) := fun m c => hr (m, (i : Int) + 1, c) rfl trivial
    simp only [dlt hc, if_true, hw, Chk_of hc, mMD, mWC, mFA, mFR, mVL, Bind_snr, hr', comF]
    split
    · rfl
    · split <;> rfl
  · rintro r ⟨m, j, c⟩ hj -
    dsimp only at hj; subst hj
    simp only [dll, ff, if_false, comF, gt_iff_lt]
theorem addS_pos {a b : Int} (h1 : 1 ≤ a) (h2 : 1 ≤ b) : 1 ≤ GoOld.addS a b := by unfold GoOld.addS GoOld.sat; omega
theorem ref_com_eq (w : World_) (h : Few w) : caromref51_CenterOfMass w = some (com (dyn w)) := by
  unfold caromref51_CenterOfMass com
  simp only [ref_dyn_eq w h, Bind_snr, Let_nr, Join_nr]
  refine LOOP_g (dyn w) (fun (v : Int × Bool × Int × Vec) => v.2.2.1) (fun _ v => (v.2.1 = false ∧ v.1 = 0) ∨ (v.2.1 = true ∧ 1 ≤ v.1)) (fun t v => some (comF t v.1 v.2.2.2)) _ _ (sm_of (dyn_len w h) (by omega)) rfl (Or.inl ⟨rfl, rfl⟩) ?_ ?_
  · rintro r i t ⟨m, f, j, c⟩ hj hp hw hc hm hr
    dsimp only at hj hp; subst hj
    have hr' : ∀ m f c, ((f = false ∧ m = 0) ∨ (f = true ∧ 1 ≤ m)) → r (m, f, (i : Int) + 1, c) = some (comF t m c) := fun m f c hh => hr (m, f, (i : Int) + 1, c) rfl hh
    simp only [dlt hc, if_true, hw, Chk_of hc, rMD, rWC, rFA, rFR, rVL, Bind_snr, comF]
    by_cases h1 : (GoOld.massM (ix (dyn w) (i : Int)).Fixtures).Mass < 1
    · simp only [h1, decide_true, if_true]; exact hr' _ _ _ hp
    · simp only [decide_eq_false h1, ff, if_false]
      rcases hp with ⟨e1, e2⟩ | ⟨e1, e2⟩
      · subst e1 e2
        simp only [Bool.not_false, if_true, beq_self_eq_true]
        exact hr' _ _ _ (Or.inr ⟨rfl, by omega⟩)
      · subst e1
        have e3 : (m == 0) = false := by simp; omega
        simp only [Bool.not_true, ff, if_false, e3]
        exact hr' _ _ _ (Or.inr ⟨rfl, addS_pos e2 (by omega)⟩)
  · rintro r ⟨m, f, j, c⟩ hj hp
    dsimp only at hj hp; subst hj
    simp only [dll, ff, if_false, comF]
    rcases hp with ⟨e1, e2⟩ | ⟨e1, e2⟩
    · subst e1 e2; rfl
    · subst e1; rw [decide_eq_true (show 0 < m by omega)]
def penF (s : Int) (p : ContactPoint) : Int := max s (IntKind.i64.wrap (0 - p.Separation))
theorem met_pen_eq (w : World_) (h : Few w) : metrics_MaxPenetration w = some ((cps w).foldl penF 0) := by
  unfold metrics_MaxPenetration
  simp only [met_cps_eq w h, Bind_snr, Let_nr]
  refine LOOP_l1 (cps w) (fun t _ s => some (t.foldl penF s)) _ _ (sm_of (cps_len w h) (by omega)) ?_ ?_
  · intro r i t s hw hc hm hr
    simp only [dlt hc, if_true, hw, Chk_of hc, hr, List.foldl_cons, penF]
  · intro r s; simp only [dll, ff, if_false, List.foldl_nil]
theorem ref_pen_eq (w : World_) (h : Few w) : caromref51_MaxPenetration w = some ((cps w).foldl penF 0) := by
  unfold caromref51_MaxPenetration
  simp only [ref_cps_eq w h, Bind_snr, Let_nr]
  refine LOOP_l1 (cps w) (fun t _ s => some (t.foldl penF s)) _ _ (sm_of (cps_len w h) (by omega)) ?_ ?_
  · intro r i t s hw hc hm hr
    simp only [dlt hc, if_true, hw, Chk_of hc, hr, List.foldl_cons, penF]
  · intro r s; simp only [dll, ff, if_false, List.foldl_nil]
def impF (s : Int) (p : ContactPoint) : Int := GoOld.addS s p.NormalImpulse
theorem met_imp_eq (w : World_) (h : Few w) : metrics_TotalNormalImpulse w = some ((cps w).foldl impF 0) := by
  unfold metrics_TotalNormalImpulse
  simp only [met_cps_eq w h, Bind_snr, Let_nr]
  refine LOOP_l1 (cps w) (fun t _ s => some (t.foldl impF s)) _ _ (sm_of (cps_len w h) (by omega)) ?_ ?_
  · intro r i t s hw hc hm hr
    simp only [dlt hc, if_true, hw, Chk_of hc, mFA, Bind_snr, hr, List.foldl_cons, impF]
  · intro r s; simp only [dll, ff, if_false, List.foldl_nil]
theorem ref_imp_eq (w : World_) (h : Few w) : caromref51_TotalNormalImpulse w = some ((cps w).foldl impF 0) := by
  unfold caromref51_TotalNormalImpulse
  simp only [ref_cps_eq w h, Bind_snr, Let_nr]
  refine LOOP_l1 (cps w) (fun t _ s => some (t.foldl impF s)) _ _ (sm_of (cps_len w h) (by omega)) ?_ ?_
  · intro r i t s hw hc hm hr
    simp only [dlt hc, if_true, hw, Chk_of hc, rFA, Bind_snr, hr, List.foldl_cons, impF]
  · intro r s; simp only [dll, ff, if_false, List.foldl_nil]
def fastF : List Body → Int → Int → Int × Int
  | [], id, s => (id, max s 0)
  | b :: t, id, s => if decide (s < GoOld.lenV b.Velocity) = true then fastF t b.ID (GoOld.lenV b.Velocity) else fastF t id s
theorem met_fast_eq (w : World_) (h : Few w) : metrics_FastestBody w = some (fastF (dyn w) 0 (-1)) := by
  unfold metrics_FastestBody
  simp only [met_dyn_eq w h, Bind_snr, Let_nr, Join_nr]
  refine LOOP_g (dyn w) (fun (v : Int × Int × Int) => v.2.2) (fun _ _ => True) (fun t v => some (fastF t v.1 v.2.1)) _ _ (sm_of (dyn_len w h) (by omega)) rfl trivial ?_ ?_
  · rintro r i t ⟨m, c, j⟩ hj - hw hc hm hr
    dsimp only at hj; subst hj
    have hr' : ∀ m c, r (m, c, (i : Int) + 1) = some (fastF t m c) := fun m c => hr (m, c, (i : Int) + 1) rfl trivial
    simp only [dlt hc, if_true, hw, Chk_of hc, mVN, Bind_snr, hr', fastF, gt_iff_lt]
    split <;> rfl
  · rintro r ⟨m, c, j⟩ hj -
    dsimp only at hj; subst hj
    simp only [dll, ff, if_false, fastF]
theorem ref_fast_eq (w : World_) (h : Few w) : caromref51_FastestBody w = some (fastF (dyn w) 0 (-1)) := by
  unfold caromref51_FastestBody
  simp only [ref_dyn_eq w h, Bind_snr, Let_nr, Join_nr]
  refine LOOP_g (dyn w) (fun (v : Int × Int × Int) => v.2.2) (fun _ _ => True) (fun t v => some (fastF t v.1 v.2.1)) _ _ (sm_of (dyn_len w h) (by omega)) rfl trivial ?_ ?_
  · rintro r i t ⟨m, c, j⟩ hj - hw hc hm hr
    dsimp only at hj; subst hj
    have hr' : ∀ m c, r (m, c, (i : Int) + 1) = some (fastF t m c) := fun m c => hr (m, c, (i : Int) + 1) rfl trivial
    simp only [dlt hc, if_true, hw, Chk_of hc, rVN, Bind_snr, hr', fastF, gt_iff_lt]
    split <;> rfl
  · rintro r ⟨m, c, j⟩ hj -
    dsimp only at hj; subst hj
    simp only [dll, ff, if_false, fastF]
def slpF (n : Int) (b : Body) : Int := if b.Asleep = true then IntKind.i64.wrap (n + 1) else n
theorem met_slp_eq (w : World_) (h : Few w) : metrics_SleepingBodies w = some ((dyn w).foldl slpF 0) := by
  unfold metrics_SleepingBodies
  simp only [met_dyn_eq w h, Bind_snr, Let_nr, Join_nr]
  refine LOOP_l1 (dyn w) (fun t _ s => some (t.foldl slpF s)) _ _ (sm_of (dyn_len w h) (by omega)) ?_ ?_
  · intro r i t s hw hc hm hr
    simp only [dlt hc, if_true, hw, Chk_of hc, hr, List.foldl_cons, slpF]
    split <;> rfl
  · intro r s; simp only [dll, ff, if_false, List.foldl_nil]
theorem ref_slp_eq (w : World_) (h : Few w) : caromref51_SleepingBodies w = some ((dyn w).foldl slpF 0) := by
  unfold caromref51_SleepingBodies
  simp only [ref_dyn_eq w h, Bind_snr, Let_nr, Join_nr]
  refine LOOP_l1 (dyn w) (fun t _ s => some (t.foldl slpF s)) _ _ (sm_of (dyn_len w h) (by omega)) ?_ ?_
  · intro r i t s hw hc hm hr
    simp only [dlt hc, if_true, hw, Chk_of hc, hr, List.foldl_cons, slpF]
    split <;> rfl
  · intro r s; simp only [dll, ff, if_false, List.foldl_nil]
def bdsF : List Body → Bool → AABB → AABB × Bool
  | [], f, c => (c, f)
  | b :: t, f, c => if (!(GoOld.bodyBx b).2) = true then bdsF t f c else if (!f) = true then bdsF t true (GoOld.bodyBx b).1 else bdsF t f (GoOld.unionBx c (GoOld.bodyBx b).1)
def bds (w : World_) : AABB × Bool := if (wv w != 0) = true then (⟨⟨0, 0⟩, ⟨0, 0⟩⟩, false) else bdsF w.Bodies false ⟨⟨0, 0⟩, ⟨0, 0⟩⟩
theorem met_bds_eq (w : World_) (h : Few w) : metrics_Bounds w = some (bds w) := by
  unfold metrics_Bounds bds
  simp only [world_Val_eq w h, Bind_snr, Let_nr, Join_nr]
  split
  · rfl
  · refine LOOP_g w.Bodies (fun (v : Bool × Int × AABB) => v.2.1) (fun _ _ => True) (fun t v => some (bdsF t v.1 v.2.2)) _ _ h.sb rfl trivial ?_ ?_
    · rintro r i t ⟨m, j, c⟩ hj - hw hc hm hr
      dsimp only at hj; subst hj
      have hr' : ∀ m c, r (m, (i : Int) + 1, c) = some (bdsF t m c) := fun m c => hr (m, (i : Int) + 1, c) rfl trivial
      simp only [dlt hc, if_true, hw, Chk_of hc, mBB _ (h.smb _ hm), mAU, Bind_snr, hr', bdsF]
      split
      · rfl
      · split <;> rfl
    · rintro r ⟨m, j, c⟩ hj -
      dsimp only at hj; subst hj
      simp only [dll, ff, if_false, bdsF]
theorem ref_bds_eq (w : World_) (h : Few w) : caromref51_Bounds w = some (bds w) := by
  unfold caromref51_Bounds bds
  simp only [ref25_Val_eq w h, Bind_snr, Let_nr, Join_nr]
  split
  · rfl
  · refine LOOP_g w.Bodies (fun (v : Bool × Int × AABB) => v.2.1) (fun _ _ => True) (fun t v => some (bdsF t v.1 v.2.2)) _ _ h.sb rfl trivial ?_ ?_
    · rintro r i t ⟨m, j, c⟩ hj - hw hc hm hr
      dsimp only at hj; subst hj
      have hr' : ∀ m c, r (m, (i : Int) + 1, c) = some (bdsF t m c) := fun m c => hr (m, (i : Int) + 1, c) rfl trivial
      simp only [dlt hc, if_true, hw, Chk_of hc, rBB _ (h.smb _ hm), rAU, Bind_snr, hr', bdsF]
      cases (GoOld.bodyBx (ix w.Bodies (i : Int))).2 <;> cases m <;> rfl
    · rintro r ⟨m, j, c⟩ hj -
      dsimp only at hj; subst hj
      simp only [dll, ff, if_false, bdsF]
end GoForm


/-
  MetricsExact and MetricsExtremes in plain Lean. No conditions.
-/
set_option linter.all false
set_option maxRecDepth 100000
open Go Go.Rx

namespace GoForm
def smFix (b : Body) : Bool := decide ((b.Fixtures.length : Int) ≤ 4) && b.Fixtures.all (fun f => decide ((f.Shape.Vertices.length : Int) ≤ 10))
def smPts (c : Contact) : Bool := decide ((c.Manifold.Points.length : Int) ≤ 6)
def small (w : World_) : Bool := (decide ((w.Bodies.length : Int) ≤ 8) && decide ((w.Joints.length : Int) ≤ 8) && decide ((w.Contacts.length : Int) ≤ 20) && decide ((w.Overlaps.length : Int) ≤ 20) && decide (w.Settings.Iterations ≤ 16)) && (w.Bodies.all smFix && w.Contacts.all smPts)
theorem FewPoints_eq (l : List Contact) (h : l.length ≤ 40) : caromref27_FewPoints l = some (l.all smPts) := by
  unfold caromref27_FewPoints
  simp only [Let_nr]
  rw [show LOOP _ fuel (0 : Int) = _ from LOOP_all l smPts (some true) (some false) _ (sm_of h (by omega)) ?_ ?_]
  · exact if_some (X := Bool) _
  · intro r i hw hc hm
    simp only [dlt hc, if_true, hw, Chk_of hc, if_gt, smPts]
    rfl
  · intro r; simp only [dll, ff, if_false]; exact congrArg some (decide_eq_true (by omega))
theorem IsSmall_eq (w : World_) : caromref27_IsSmall w = some (small w) := by
  unfold caromref27_IsSmall small
  simp only [Let_nr, dec_gt (w.Bodies.length : Int) 8, dec_gt (w.Joints.length : Int) 8, dec_gt (w.Contacts.length : Int) 20, dec_gt (w.Overlaps.length : Int) 20, dec_gt w.Settings.Iterations 16, cond_or]
  have hn : ∀ a b c d e : Bool, ((((!a || !b) || !c) || !d) || !e) = !((((a && b) && c) && d) && e) := by intro a b c d e; cases a <;> cases b <;> cases c <;> cases d <;> cases e <;> rfl
  rw [hn]
  cases hb : (decide ((w.Bodies.length : Int) ≤ 8) && decide ((w.Joints.length : Int) ≤ 8) && decide ((w.Contacts.length : Int) ≤ 20) && decide ((w.Overlaps.length : Int) ≤ 20) && decide (w.Settings.Iterations ≤ 16))
  · rfl
  · simp only [Bool.and_eq_true, decide_eq_true_eq] at hb
    simp only [Bool.not_true, ff, if_false, Bool.true_and]
    rw [show LOOP _ fuel (0 : Int) = _ from LOOP_all w.Bodies smFix (some (w.Contacts.all smPts)) (some false) _ (sm_of (n := 8) (by omega) (by omega)) ?_ ?_]
    · cases w.Bodies.all smFix <;> rfl
    · intro r i hw hc hm
      simp only [dlt hc, if_true, Chk_of hc, smFix, dec_gt ((ix w.Bodies (i : Int)).Fixtures.length : Int) 4]
      by_cases h4 : ((ix w.Bodies (i : Int)).Fixtures.length : Int) ≤ 4
      rotate_left
      · simp only [decide_eq_false h4, Bool.not_false, if_true, Bool.false_and, ff, if_false]
      · simp only [decide_eq_true h4, Bool.not_true, ff, if_false, Bool.true_and]
        rw [show LOOP _ fuel (0 : Int) = _ from LOOP_all (ix w.Bodies (i : Int)).Fixtures (fun f => decide ((f.Shape.Vertices.length : Int) ≤ 10)) (r ((i : Int) + 1)) (some false) _ (sm_of (n := 8) (by omega) (by omega)) ?_ ?_]
        · intro r2 j hw2 hc2 hm2
          simp only [dlt hc2, if_true, Chk_of hc2, hw2, dec_gt ((ix (ix w.Bodies (i : Int)).Fixtures (j : Int)).Shape.Vertices.length : Int) 10]
          cases decide (((ix (ix w.Bodies (i : Int)).Fixtures (j : Int)).Shape.Vertices.length : Int) ≤ 10) <;> rfl
        · intro r2; simp only [dll, ff, if_false, hw]
    · intro r; simp only [dll, ff, if_false, FewPoints_eq w.Contacts (by omega), Bind_snr]
theorem small_Few {w : World_} (h : small w = true) : Few w := by
  unfold small smFix smPts at h
  simp only [Bool.and_eq_true, decide_eq_true_eq, List.all_eq_true] at h
  obtain ⟨⟨⟨⟨⟨h1, h2⟩, h3⟩, h4⟩, -⟩, h5, h6⟩ := h
  exact ⟨by omega, by omega, by omega, by omega, fun c hc => by have := h6 c hc; omega, fun b hb => by have := (h5 b hb).1; omega, fun b hb f hf => by have := (h5 b hb).2 f hf; omega⟩
def exB : Body := { ID := (1 : Int), Kind := (3 : Int), Transform := { Position := { X := (0 : Int), Y := (0 : Int) : Vec }, Angle := (0 : Int) : Transform }, Velocity := { X := (65536 : Int), Y := (0 : Int) : Vec }, AngularVelocity := (0 : Int), Force := { X := (0 : Int), Y := (0 : Int) : Vec }, Torque := (0 : Int), LinearDamping := (0 : Int), AngularDamping := (0 : Int), GravityScale := (0 : Int), Bullet := false, FixedRotation := false, NoSleep := false, Asleep := false, IdleSteps := (0 : Int), Fixtures := [{ Shape := { Kind := (3 : Int), Radius := (0 : Int), Vertices := [{ X := (-65536 : Int), Y := (0 : Int) : Vec }, { X := (65536 : Int), Y := (0 : Int) : Vec }, { X := (65536 : Int), Y := (65536 : Int) : Vec }, { X := (-65536 : Int), Y := (65536 : Int) : Vec }] : Shape }, Density := (65536 : Int), Friction := (0 : Int), Restitution := (0 : Int), Sensor := false, Category := (0 : Int), Mask := (0 : Int), Group := (0 : Int) : Fixture }] : Body }
def exW : World_ := { Settings := { TimeStep := (8192 : Int), Gravity := { X := (0 : Int), Y := (0 : Int) : Vec }, Iterations := (1 : Int), SleepSteps := (0 : Int) : Settings }, Bodies := [exB], Joints := [], Contacts := [], Overlaps := [], NextID := (2 : Int), Frame := (0 : Int) : World_ }
theorem exW_few : Few exW := small_Few (by decide +kernel)
theorem exW_val : wv exW = 0 := by decide +kernel
theorem exW_dyn : dyn exW = [exB] := by unfold dyn; rw [exW_val]; rfl
theorem exF : metrics_FastestBody exW = some (1, 65536) := by rw [met_fast_eq _ exW_few, exW_dyn]; exact congrArg some (by decide +kernel)
theorem exM : metrics_Momentum exW = some ⟨131072, 0⟩ := by rw [met_mom_eq _ exW_few, exW_dyn]; exact congrArg some (by decide +kernel)
theorem exK : metrics_KineticEnergy exW = some 65536 := by rw [met_ke_eq _ exW_few, exW_dyn]; exact congrArg some (by decide +kernel)
theorem exS : metrics_SleepingBodies exW = some 0 := by rw [met_slp_eq _ exW_few, exW_dyn]; exact congrArg some (by decide +kernel)
theorem example51 : caromlaw51_example = some true := by
  unfold caromlaw51_example
  refine (Bind_of exF).trans ?_
  refine (Bind_of exM).trans ?_
  simp only [Let_nr]
  refine (Bind_of (x := (65536 : Int)) exK).trans ?_
  refine (Bind_of (x := (0 : Int)) exS).trans ?_
  rfl
theorem caromlaw51_MetricsExact_any (w : World_) : caromlaw51_MetricsExact w = some true := by
  unfold caromlaw51_MetricsExact
  simp only [IsSmall_eq, Bind_snr, Let_nr, example51]
  cases h : small w
  · rfl
  · have hF := small_Few h
    simp only [Bool.not_true, ff, if_false, met_com_eq w hF, ref_com_eq w hF, met_mom_eq w hF, ref_mom_eq w hF, met_ke_eq w hF, ref_ke_eq w hF, Bind_snr, decide_true, Bool.and_self, beq_self_eq_true, if_true, Bool.cond_true]
theorem caromlaw51_MetricsExtremes_any (w : World_) : caromlaw51_MetricsExtremes w = some true := by
  unfold caromlaw51_MetricsExtremes
  simp only [IsSmall_eq, Bind_snr, Let_nr, example51]
  cases h : small w
  · rfl
  · have hF := small_Few h
    simp only [Bool.not_true, ff, if_false, met_fast_eq w hF, ref_fast_eq w hF, met_bds_eq w hF, ref_bds_eq w hF, met_pen_eq w hF, ref_pen_eq w hF, met_imp_eq w hF, ref_imp_eq w hF, met_slp_eq w hF, ref_slp_eq w hF, Bind_snr, decide_true, Bool.and_self, beq_self_eq_true, if_true, Bool.cond_true]
end GoForm


/-
  MetricsDynamicOnly and MetricsSleepingWorld in plain Lean. No conditions.
-/
set_option linter.all false
set_option maxRecDepth 100000
open Go Go.Rx

namespace GoForm
theorem take_ix {α : Type} [Inhabited α] (l : List α) (i : Nat) (h : i < l.length) : l.take (i + 1) = l.take i ++ [ix l (i : Int)] := by rw [ix_lt _ _ h, List.take_append_getElem]
theorem vbs_filter (N : Int) (f : Body → Bool) : ∀ (l : List Body) (i : Nat) (p : Int) (i' : Nat) (p' : Int), vbs N l i p = true → p' ≤ p → vbs N (l.filter f) i' p' = true
  | [], _, _, _, _, _, _ => rfl
  | b :: t, i, p, i', p', h, hp => by
    unfold vbs at h
    split at h
    · exact absurd h (by simp)
    · rename_i hc
      rw [List.filter_cons]
      split
      · unfold vbs
        rw [if_neg]
        · exact vbs_filter N f t (i + 1) b.ID (i' + 1) b.ID h (Int.le_refl _)
        · simp at hc ⊢; omega
      · simp at hc
        exact vbs_filter N f t (i + 1) b.ID i' p' h (by omega)
theorem wv_zero {w : World_} (h : wv w = 0) : vset w.Settings = 0 ∧ (decide (32 < (w.Bodies.length : Int)) || decide (32 < (w.Joints.length : Int)) || decide (8192 < (w.Contacts.length : Int)) || decide (8192 < (w.Overlaps.length : Int))) = false ∧ (!inb w.NextID 1 1099511627776 || !inb w.Frame 0 1099511627776) = false ∧ vbs w.NextID w.Bodies 0 0 = true ∧ vjs w w.Joints 0 0 = true ∧ cOk w = true := by
  unfold wv at h
  split at h
  · omega
  · split at h
    · omega
    · split at h
      · omega
      · split at h
        · omega
        · split at h
          · omega
          · split at h
            · omega
            · simp_all
def onlyD (w : World_) : World_ := { Settings := w.Settings, Bodies := w.Bodies.filter (fun b => b.Kind == 3), Joints := [], Contacts := [], Overlaps := [], NextID := w.NextID, Frame := w.Frame }
theorem onlyD_few {w : World_} (h : Few w) : Few (onlyD w) := by
  refine ⟨Nat.le_trans (List.length_filter_le _ _) h.bodies, by simp [onlyD], by simp [onlyD], by simp [onlyD], by simp [onlyD], ?_, ?_⟩
  · intro b hb; exact h.fixtures b (List.mem_filter.1 hb).1
  · intro b hb; exact h.vertices b (List.mem_filter.1 hb).1
theorem onlyD_val {w : World_} (h : wv w = 0) : wv (onlyD w) = 0 := by
  obtain ⟨h1, h2, h3, h4, h5, h6⟩ := wv_zero h
  have hb := vbs_filter w.NextID (fun b => b.Kind == 3) w.Bodies 0 0 0 0 h4 (Int.le_refl _)
  have hl := List.length_filter_le (fun b : Body => b.Kind == 3) w.Bodies
  unfold wv onlyD
  rw [if_neg (by simp [h1]), if_neg (by simp at h2 ⊢; omega), if_neg (by simpa using h3), if_neg (by simp [hb]), if_neg (by simp [vjs]), if_neg (by simp [cOk, keysOf, vks])]
theorem onlyD_dyn {w : World_} (h : wv w = 0) : dyn (onlyD w) = dyn w := by
  unfold dyn; rw [onlyD_val h, h]; simp [onlyD]
theorem caromlaw51_MetricsDynamicOnly_any (w : World_) : caromlaw51_MetricsDynamicOnly w = some true := by
  unfold caromlaw51_MetricsDynamicOnly
  simp only [IsSmall_eq, Bind_snr, Let_nr, example51, Join_nr]
  cases h : small w
  · rfl
  · have hF := small_Few h
    simp only [Bool.not_true, beq_self_eq_true, if_true, world_Val_eq w hF, Bind_snr, Bool.cond_false]
    by_cases hv : wv w = 0
    rotate_left
    · have : (wv w != 0) = true := by simpa using hv
      rw [this]; rfl
    · have : (wv w != 0) = false := by simp [hv]
      simp only [this, ff, if_false, world_Clone_eq w hF.smw, Bind_snr]
      refine LOOP_i w.Bodies (fun i s => s = (w.Bodies.take i).filter (fun b => b.Kind == 3)) (fun _ _ _ => some true) _ _ hF.sb rfl ?_ ?_
      · intro r i t s hp hw hc hm hr
        have hl := hF.bodies
        have hs : s.length ≤ 40 := by rw [hp]; exact Nat.le_trans (List.length_filter_le _ _) (by simp; omega)
        have hb : ∀ x : Body, (s.length + [x].length) * 152 ≤ 140737488355328 := by intro x; simp; omega
        have ht := take_ix w.Bodies i (by omega)
        simp only [dlt hc, if_true, hw, Chk_of hc, Chk_of (hb _)]
        split
        · rename_i hk
          exact hr _ (by rw [ht, List.filter_append, hp]; simp [List.filter_cons, hk])
        · rename_i hk
          exact hr _ (by rw [ht, List.filter_append, hp]; simp [List.filter_cons, hk])
      · intro r s hp
        have hx := onlyD_few hF
        have he : { Settings := w.Settings, Bodies := s, Joints := [], Contacts := [], Overlaps := [], NextID := w.NextID, Frame := w.Frame : World_ } = onlyD w := by unfold onlyD; rw [hp, List.take_length]
        simp only [dll, ff, if_false, he, met_com_eq w hF, met_com_eq _ hx, met_fast_eq w hF, met_fast_eq _ hx, met_mom_eq w hF, met_mom_eq _ hx, met_ke_eq w hF, met_ke_eq _ hx, met_slp_eq w hF, met_slp_eq _ hx, onlyD_dyn hv, Bind_snr, decide_true, Bool.and_self, beq_self_eq_true, if_true, Bool.cond_true]
end GoForm


/-
  MetricsSleepingWorld in plain Lean. No conditions.
-/
set_option linter.all false
set_option maxRecDepth 100000
open Go Go.Rx

namespace GoForm
def slp (b : Body) : Body := if (b.Kind == 3) = true then { b with Asleep := true, Velocity := ⟨0, 0⟩, AngularVelocity := 0 } else b
theorem slp_ID (b : Body) : (slp b).ID = b.ID := by unfold slp; split <;> rfl
theorem slp_Kind (b : Body) : (slp b).Kind = b.Kind := by unfold slp; split <;> rfl
theorem slp_Fix (b : Body) : (slp b).Fixtures = b.Fixtures := by unfold slp; split <;> rfl
theorem slp_val {b : Body} (h : GoOld.validB b = 0) : GoOld.validB (slp b) = 0 := by
  unfold slp
  split
  rotate_left
  · exact h
  · rename_i hk
    have hk3 : b.Kind = 3 := by simpa using hk
    rw [GoOld.validB_ok] at h ⊢
    obtain ⟨h1, h2, h3, h4, h5⟩ := h
    refine ⟨h1, ?_, h3, h4, ?_⟩
    · unfold GoOld.RngOk at h2 ⊢
      obtain ⟨a1, a2, a3, a4, a5⟩ := h2
      refine ⟨a1, a2, ?_, ?_, a5⟩
      · unfold GoOld.Bd GoOld.Wn; simp
      · unfold GoOld.Wn; simp
    · rw [GoOld.consB_iff] at h5 ⊢
      simp [hk3]
theorem vbs_slp (N : Int) : ∀ (l : List Body) (i : Nat) (p : Int), vbs N l i p = true → vbs N (l.map slp) i p = true
  | [], _, _, _ => rfl
  | b :: t, i, p, h => by
    unfold vbs at h
    split at h
    · exact absurd h (by simp)
    · rename_i hc
      rw [List.map_cons]
      unfold vbs
      have hv : GoOld.validB b = 0 := by simp at hc; exact hc.1.1
      rw [slp_ID, slp_val hv, if_neg]
      · exact vbs_slp N t _ _ h
      · rw [hv] at hc; exact hc
def slpW (w : World_) : World_ := { w with Bodies := w.Bodies.map slp }
theorem idx_map {α β : Type} (f : β → Bool) (g : α → β) : ∀ (l : List α) (i : Nat), idx f (l.map g) i = idx (fun a => f (g a)) l i
  | [], _ => rfl
  | a :: t, i => by unfold idx; rw [List.map_cons]; simp only [idx]; rw [idx_map f g t (i + 1)]
theorem slp_fb (w : World_) (id : Int) : fb (slpW w) id = fb w id := by
  unfold fb slpW
  rw [idx_map]; simp only [slp_ID]
theorem ix_mapD {α : Type} [Inhabited α] (g : α → α) (hd : g default = default) (l : List α) (i : Int) : ix (l.map g) i = g (ix l i) := by
  unfold ix
  rw [List.getD_eq_getElem?_getD, List.getD_eq_getElem?_getD, List.getElem?_map]
  cases l[i.toNat]? with
  | none => simp [hd]
  | some a => rfl
theorem slp_ixF (w : World_) (i : Int) : (ix (slpW w).Bodies i).Fixtures = (ix w.Bodies i).Fixtures := by
  unfold slpW; simp only; rw [ix_mapD slp rfl, slp_Fix]
theorem slp_exw (w : World_) (id n : Int) : exw (slpW w) id n = exw w id n := by unfold exw; rw [slp_fb, slp_ixF]
theorem slp_exk (w : World_) : exk (slpW w) = exk w := by funext k; unfold exk; rw [slp_exw, slp_exw]
theorem slp_vjs (w : World_) : ∀ (l : List Joint) (i : Nat) (p : Int), vjs (slpW w) l i p = vjs w l i p
  | [], _, _ => rfl
  | j :: t, i, p => by
    unfold vjs jcon
    rw [slp_fb, slp_fb, slp_fb, slp_vjs w t]; rfl
theorem slp_few {w : World_} (h : Few w) : Few (slpW w) := by
  refine ⟨by simp [slpW]; exact h.bodies, h.joints, h.contacts, h.overlaps, h.points, ?_, ?_⟩
  · intro b hb
    obtain ⟨a, ha, rfl⟩ := List.mem_map.1 hb
    rw [slp_Fix]; exact h.fixtures a ha
  · intro b hb
    obtain ⟨a, ha, rfl⟩ := List.mem_map.1 hb
    rw [slp_Fix]; exact h.vertices a ha
theorem slp_wv {w : World_} (h : wv w = 0) : wv (slpW w) = 0 := by
  obtain ⟨h1, h2, h3, h4, h5, h6⟩ := wv_zero h
  have hb : vbs (slpW w).NextID (slpW w).Bodies 0 0 = true := vbs_slp _ _ _ _ h4
  have hj : vjs (slpW w) (slpW w).Joints 0 0 = true := by rw [slp_vjs]; exact h5
  have hc : cOk (slpW w) = true := by
    unfold cOk keysOf at h6 ⊢
    rw [slp_exk]; exact h6
  have hl : (slpW w).Bodies.length = w.Bodies.length := by simp [slpW]
  have e2 : (decide (32 < ((slpW w).Bodies.length : Int)) || decide (32 < ((slpW w).Joints.length : Int)) || decide (8192 < ((slpW w).Contacts.length : Int)) || decide (8192 < ((slpW w).Overlaps.length : Int))) = false := by rw [hl]; exact h2
  unfold wv
  rw [hb, hj, hc, if_neg (by simp [slpW, h1]), if_neg (by rw [e2]; simp), if_neg (by simpa [slpW] using h3)]
  rfl
theorem slp_dyn {w : World_} (h : wv w = 0) : dyn (slpW w) = (w.Bodies.filter (fun b => b.Kind == 3)).map slp := by
  unfold dyn; rw [slp_wv h]
  simp only [slpW, bne_self_eq_false, ff, if_false]
  rw [List.filter_map]
  congr 1
  refine List.filter_congr (fun b _ => ?_)
  simp only [Function.comp, slp_Kind]
/-- A list of sleepers. -/
def Slept (l : List Body) : Prop := ∀ b ∈ l, b.Asleep = true ∧ b.Velocity = ⟨0, 0⟩ ∧ b.AngularVelocity = 0
theorem slp_slept (l : List Body) : Slept ((l.filter (fun b => b.Kind == 3)).map slp) := by
  intro b hb
  obtain ⟨a, ha, rfl⟩ := List.mem_map.1 hb
  have hk := (List.mem_filter.1 ha).2
  unfold slp; rw [if_pos hk]; exact ⟨rfl, rfl, rfl⟩
theorem sleep_cnt : ∀ (l : List Body) (n : Int), Slept l → 0 ≤ n → n + (l.length : Int) < 1000 → l.foldl slpF n = n + (l.length : Int)
  | [], n, _, _, _ => by simp
  | b :: t, n, h, h0, h1 => by
    have hb := h b (by simp)
    simp only [List.length_cons] at h1
    rw [List.foldl_cons, show slpF n b = n + 1 from by unfold slpF; rw [if_pos hb.1, wrap_in _ (by omega) (by omega)]]
    rw [sleep_cnt t (n + 1) (fun c hc => h c (by simp [hc])) (by omega) (by omega)]; simp only [List.length_cons]; omega
theorem mulS_0l (k : Int) : GoOld.mulS 0 k = 0 := by
  unfold GoOld.mulS; rw [show GoOld.sat 0 = 0 from rfl, Int.zero_mul]; rfl
theorem mulS_0r (k : Int) : GoOld.mulS k 0 = 0 := by
  unfold GoOld.mulS; rw [show GoOld.sat 0 = 0 from rfl, Int.mul_zero]; rfl
theorem sleep_mom : ∀ (l : List Body), Slept l → l.foldl momF ⟨0, 0⟩ = ⟨0, 0⟩
  | [], _ => rfl
  | b :: t, h => by
    have hb := h b (by simp)
    rw [List.foldl_cons, show momF ⟨0, 0⟩ b = ⟨0, 0⟩ from by unfold momF GoOld.scaleV; rw [hb.2.1]; simp only [mulS_0l]; rfl]
    exact sleep_mom t (fun c hc => h c (by simp [hc]))
theorem sleep_ke : ∀ (l : List Body), Slept l → l.foldl keF 0 = 0
  | [], _ => rfl
  | b :: t, h => by
    have hb := h b (by simp)
    rw [List.foldl_cons, show keF 0 b = 0 from by
      unfold keF; rw [hb.2.1, hb.2.2, mulS_0l, mulS_0r, show GoOld.dotV ⟨0, 0⟩ ⟨0, 0⟩ = 0 from by rfl, mulS_0r]; rfl]
    exact sleep_ke t (fun c hc => h c (by simp [hc]))
theorem len_0 : GoOld.lenV ⟨0, 0⟩ = 0 := by decide +kernel
theorem sleep_fast : ∀ (l : List Body) (id s : Int), Slept l → s ≤ 0 → (fastF l id s).2 = 0
  | [], id, s, _, h => by unfold fastF; simp only; omega
  | b :: t, id, s, h, h0 => by
    have hb := h b (by simp)
    have ht : Slept t := fun c hc => h c (by simp [hc])
    unfold fastF
    rw [hb.2.1, len_0]
    split
    · exact sleep_fast t _ _ ht (Int.le_refl _)
    · exact sleep_fast t _ _ ht h0
/-- How the loop of the law fills the list. -/
def mixS (l : List Body) (i : Nat) : List Body := (l.take i).map slp ++ l.drop i
theorem mixS_len (l : List Body) (i : Nat) (h : i ≤ l.length) : (mixS l i).length = l.length := by unfold mixS; simp; omega
theorem mixS_ix (l : List Body) (i : Nat) (h : i < l.length) : ix (mixS l i) (i : Int) = ix l (i : Int) := by
  have hl : ((l.take i).map slp).length = i := by simp; omega
  unfold mixS
  rw [ix_nat, List.getD_eq_getElem?_getD, List.getElem?_append_right (by omega), hl, Nat.sub_self, drop_ix l i h]; rfl
theorem mixS_set (l : List Body) (i : Nat) (h : i < l.length) : (mixS l i).set i (slp (ix l (i : Int))) = mixS l (i + 1) := by
  have hl : ((l.take i).map slp).length = i := by simp; omega
  unfold mixS
  rw [List.set_append_right _ _ (by omega), hl, Nat.sub_self, drop_ix l i h, take_ix l i h]
  simp
theorem mixS_keep (l : List Body) (i : Nat) (h : i < l.length) (hk : ¬ ((ix l (i : Int)).Kind == 3) = true) : mixS l i = mixS l (i + 1) := by
  rw [← mixS_set l i h, show slp (ix l (i : Int)) = ix l (i : Int) from by unfold slp; rw [if_neg hk]]
  rw [← mixS_ix l i h, set_ix]
theorem ix_set_self {α : Type} [Inhabited α] (l : List α) (i : Nat) (a : α) (h : i < l.length) : ix (l.set i a) (i : Int) = a := by
  rw [ix_lt _ _ (by simpa using h)]; simp
theorem caromlaw51_MetricsSleepingWorld_any (w : World_) : caromlaw51_MetricsSleepingWorld w = some true := by
  unfold caromlaw51_MetricsSleepingWorld
  simp only [IsSmall_eq, Bind_snr, Let_nr, example51, Join_nr]
  cases h : small w
  · rfl
  · have hF := small_Few h
    simp only [Bool.not_true, beq_self_eq_true, if_true, world_Val_eq w hF, Bind_snr, Bool.cond_false]
    by_cases hv : wv w = 0
    rotate_left
    · have : (wv w != 0) = true := by simpa using hv
      rw [this]; rfl
    · have : (wv w != 0) = false := by simp [hv]
      simp only [this, ff, if_false, world_Clone_eq w hF.smw, Bind_snr]
      refine LOOP_g w.Bodies (fun (v : Int × Int × List Body) => v.2.1) (fun i v => v.1 = (((w.Bodies.take i).filter (fun b => b.Kind == 3)).length : Int) ∧ v.2.2 = mixS w.Bodies i) (fun _ _ => some true) _ _ hF.sb rfl ⟨rfl, rfl⟩ ?_ ?_
      · rintro r i t ⟨m, j, s⟩ hj ⟨hp1, hp2⟩ hw hc hm hr
        dsimp only at hj hp1 hp2; subst hj hp2
        have hl := hF.bodies
        have hi : i < w.Bodies.length := by omega
        have hlen := mixS_len w.Bodies i (by omega)
        have hc2 : (0 : Int) ≤ (i : Int) ∧ (i : Int) < ((mixS w.Bodies i).length : Int) := by rw [hlen]; exact hc
        have ht := take_ix w.Bodies i hi
        have hml : (((w.Bodies.take i).filter (fun b => b.Kind == 3)).length : Int) ≤ 40 := by
          have := List.length_filter_le (fun b : Body => b.Kind == 3) (w.Bodies.take i)
          simp at this ⊢; omega
        have hcs : ∀ a : Body, (0 : Int) ≤ (i : Int) ∧ (i : Int) < (((mixS w.Bodies i).set i a).length : Int) := by intro a; rw [List.length_set]; exact hc2
        have hcs2 : ∀ a b : Body, (0 : Int) ≤ (i : Int) ∧ (i : Int) < ((((mixS w.Bodies i).set i a).set i b).length : Int) := by intro a b; rw [List.length_set]; exact hcs a
        simp only [dlt hc2, if_true, hw, Chk_of hc2, Int.toNat_natCast, Chk_of (hcs _), Chk_of (hcs2 _ _), mixS_ix w.Bodies i hi]
        split
        · rename_i hk
          have e1 : ∀ a : Body, ix ((mixS w.Bodies i).set i a) (i : Int) = a := fun a => ix_set_self _ _ _ (by rw [hlen]; exact hi)
          have e2 : ∀ a b : Body, ix (((mixS w.Bodies i).set i a).set i b) (i : Int) = b := fun a b => ix_set_self _ _ _ (by rw [List.length_set, hlen]; exact hi)
          simp only [e1, e2, List.set_set]
          refine hr _ rfl ⟨?_, ?_⟩
          · simp only
            rw [hp1, ht, List.filter_append, wrap_in _ (by omega) (by omega)]
            simp [List.filter_cons, hk]
          · simp only
            rw [← mixS_set w.Bodies i hi]
            congr 1
            unfold slp; rw [if_pos hk]
        · rename_i hk
          refine hr _ rfl ⟨?_, ?_⟩
          · simp only
            rw [hp1, ht, List.filter_append]
            simp [List.filter_cons, hk]
          · exact mixS_keep w.Bodies i hi hk
      · rintro r ⟨m, j, s⟩ hj ⟨hp1, hp2⟩
        dsimp only at hj hp1 hp2; subst hj hp2
        rw [List.take_length] at hp1
        have hx := slp_few hF
        have hme : mixS w.Bodies w.Bodies.length = w.Bodies.map slp := by unfold mixS; simp
        have he : { Settings := w.Settings, Bodies := mixS w.Bodies w.Bodies.length, Joints := w.Joints, Contacts := w.Contacts, Overlaps := w.Overlaps, NextID := w.NextID, Frame := w.Frame : World_ } = slpW w := by rw [hme]; rfl
        have hd : decide ((w.Bodies.length : Int) < ((mixS w.Bodies w.Bodies.length).length : Int)) = false := by rw [mixS_len _ _ (Nat.le_refl _)]; exact dll _
        have hS := slp_slept w.Bodies
        have hcnt : (dyn (slpW w)).foldl slpF 0 = m := by
          rw [slp_dyn hv, sleep_cnt _ 0 hS (Int.le_refl _) (by
            have := List.length_filter_le (fun b : Body => b.Kind == 3) w.Bodies
            have := hF.bodies
            simp; omega), hp1]; simp
        have hmo : mom (dyn (slpW w)) = ⟨0, 0⟩ := by unfold mom; rw [slp_dyn hv]; exact sleep_mom _ hS
        have hke : ke (dyn (slpW w)) = 0 := by unfold ke; rw [slp_dyn hv]; exact sleep_ke _ hS
        have hfa : (fastF (dyn (slpW w)) 0 (-1)).2 = 0 := by rw [slp_dyn hv]; exact sleep_fast _ _ _ hS (by omega)
        simp only [hd, ff, if_false, he, met_fast_eq _ hx, met_slp_eq _ hx, met_mom_eq _ hx, met_ke_eq _ hx, Bind_snr, hcnt, hmo, hke, hfa, decide_true, Bool.and_self, beq_self_eq_true, if_true, Bool.cond_true]
end GoForm



namespace GoForm
theorem caromlaw51_MetricsExact_true (a0 : World_) {P : Prop} (_ : P) : caromlaw51_MetricsExact a0 = some true := caromlaw51_MetricsExact_any a0
theorem caromlaw51_MetricsExtremes_true (a0 : World_) {P : Prop} (_ : P) : caromlaw51_MetricsExtremes a0 = some true := caromlaw51_MetricsExtremes_any a0
theorem caromlaw51_MetricsDynamicOnly_true (a0 : World_) {P : Prop} (_ : P) : caromlaw51_MetricsDynamicOnly a0 = some true := caromlaw51_MetricsDynamicOnly_any a0
theorem caromlaw51_MetricsSleepingWorld_true (a0 : World_) {P : Prop} (_ : P) : caromlaw51_MetricsSleepingWorld a0 = some true := caromlaw51_MetricsSleepingWorld_any a0
end GoForm

