import Derived.Test.YtdknhngjfoaphaaGreatF51D
import Derived.Test.YtdknhngjfoaphaaGreatRzQ
import Derived.Test.YtdknhngjfoaphaaGreatF51OL
set_option linter.all false
set_option maxRecDepth 100000
open Go Go.Rx
namespace GoForm
theorem Bind_br {α β : Type} {m : Option α} {k k' : α → Option β} (h : ∀ x, k x = k' x) : Rx.Bind m k = Rx.Bind m k' := by rw [funext h]
theorem ite_br {α : Type} {c : Prop} [Decidable c] {a b a' b' : α} (h1 : a = a') (h2 : b = b') : (if c then a else b) = (if c then a' else b') := by rw [h1, h2]
theorem Chk_br {α : Type} {c : Prop} [Decidable c] {k k' : Option α} (h : k = k') : Chk c k = Chk c k' := by rw [h]
theorem LOOP_br1 {A X : Type} {step : (A → Option X) → A → Option X} {g : Nat → A → Option X} (h0 : ∀ a, g 0 a = none) (hs : ∀ n (r : A → Option X), (∀ a, r a = g n a) → ∀ a, step r a = g (n + 1) a) : ∀ n a, LOOP step n a = g n a
  | 0, a => (h0 a).symm
  | n + 1, a => hs n _ (LOOP_br1 h0 hs n) a
theorem LOOP_br2 {A B X : Type} {step : (A × B → Option X) → A × B → Option X} {g : Nat → A → B → Option X} (h0 : ∀ a b, g 0 a b = none) (hs : ∀ n (r : A × B → Option X), (∀ a b, r (a, b) = g n a b) → ∀ a b, step r (a, b) = g (n + 1) a b) : ∀ n a b, LOOP step n (a, b) = g n a b
  | 0, a, b => (h0 a b).symm
  | n + 1, a, b => hs n _ (LOOP_br2 h0 hs n) a b
theorem LOOP_br3 {A B C X : Type} {step : (A × B × C → Option X) → A × B × C → Option X} {g : Nat → A → B → C → Option X} (h0 : ∀ a b c, g 0 a b c = none) (hs : ∀ n (r : A × B × C → Option X), (∀ a b c, r (a, b, c) = g n a b c) → ∀ a b c, step r (a, b, c) = g (n + 1) a b c) : ∀ n a b c, LOOP step n (a, b, c) = g n a b c
  | 0, a, b, c => (h0 a b c).symm
  | n + 1, a, b, c => hs n _ (LOOP_br3 h0 hs n) a b c
theorem LOOP_br4 {A B C D X : Type} {step : (A × B × C × D → Option X) → A × B × C × D → Option X} {g : Nat → A → B → C → D → Option X} (h0 : ∀ a b c d, g 0 a b c d = none) (hs : ∀ n (r : A × B × C × D → Option X), (∀ a b c d, r (a, b, c, d) = g n a b c d) → ∀ a b c d, step r (a, b, c, d) = g (n + 1) a b c d) : ∀ n a b c d, LOOP step n (a, b, c, d) = g n a b c d
  | 0, a, b, c, d => (h0 a b c d).symm
  | n + 1, a, b, c, d => hs n _ (LOOP_br4 h0 hs n) a b c d
theorem LOOP_br5 {A B C D E X : Type} {step : (A × B × C × D × E → Option X) → A × B × C × D × E → Option X} {g : Nat → A → B → C → D → E → Option X} (h0 : ∀ a b c d e, g 0 a b c d e = none) (hs : ∀ n (r : A × B × C × D × E → Option X), (∀ a b c d e, r (a, b, c, d, e) = g n a b c d e) → ∀ a b c d e, step r (a, b, c, d, e) = g (n + 1) a b c d e) : ∀ n a b c d e, LOOP step n (a, b, c, d, e) = g n a b c d e
  | 0, a, b, c, d, e => (h0 a b c d e).symm
  | n + 1, a, b, c, d, e => hs n _ (LOOP_br5 h0 hs n) a b c d e
theorem br_body_within (x0 : Int) (low1 : Int) (high2 : Int) : body_within x0 low1 high2 = some (GoOld.body_within x0 low1 high2) := by
  unfold body_within GoOld.body_within
  try simp only [Let_nr, Bind_snr, Bind_if, gd1, gd2, gd3, gd4, gd5, gd6, w64, gt_iff_lt, ge_iff_le, Join_nr]
  first | done | rfl | ((try simp only [cond_or, cond_and]); first | done | rfl | grind | (((repeat' split) <;> simp_all); done))

theorem br_body_bounded (v0 : Vec) (limit1 : Int) : body_bounded v0 limit1 = some (GoOld.body_bounded v0 limit1) := by
  unfold body_bounded GoOld.body_bounded
  try simp only [Let_nr, Bind_snr, Bind_if, gd1, gd2, gd3, gd4, gd5, gd6, w64, gt_iff_lt, ge_iff_le, Join_nr, GoOld.Vec.beq, br_body_within]
  first | done | rfl | ((try simp only [cond_or, cond_and]); first | done | rfl | grind | (((repeat' split) <;> simp_all); done))

theorem br_transform_inWorld (x0 : Int) : transform_inWorld x0 = some (GoOld.transform_inWorld x0) := by
  unfold transform_inWorld GoOld.transform_inWorld
  try simp only [Let_nr, Bind_snr, Bind_if, gd1, gd2, gd3, gd4, gd5, gd6, w64, gt_iff_lt, ge_iff_le, Join_nr]
  first | done | rfl | ((try simp only [cond_or, cond_and]); first | done | rfl | grind | (((repeat' split) <;> simp_all); done))

theorem br_transform_Valid (t0 : Transform) : transform_Valid t0 = some (GoOld.transform_Valid t0) := by
  unfold transform_Valid GoOld.transform_Valid
  try simp only [Let_nr, Bind_snr, Bind_if, gd1, gd2, gd3, gd4, gd5, gd6, w64, gt_iff_lt, ge_iff_le, Join_nr, GoOld.Vec.beq, br_transform_inWorld]
  first | done | rfl | ((try simp only [cond_or, cond_and]); first | done | rfl | grind | (((repeat' split) <;> simp_all); done))

theorem br_body_inRange (b0 : Body) : body_inRange b0 = some (GoOld.body_inRange b0) := by
  unfold body_inRange GoOld.body_inRange
  try simp only [Let_nr, Bind_snr, Bind_if, gd1, gd2, gd3, gd4, gd5, gd6, w64, gt_iff_lt, ge_iff_le, Join_nr, GoOld.Vec.beq, br_body_within, br_body_bounded, br_transform_Valid]
  first | done | rfl | ((try simp only [cond_or, cond_and]); first | done | rfl | grind | (((repeat' split) <;> simp_all); done))

theorem br_shape_validCount (s0 : Shape) : shape_validCount s0 = some (GoOld.shape_validCount s0) := by
  unfold shape_validCount GoOld.shape_validCount
  try simp only [Let_nr, Bind_snr, Bind_if, gd1, gd2, gd3, gd4, gd5, gd6, w64, gt_iff_lt, ge_iff_le, Join_nr, GoOld.Vec.beq]
  first | done | rfl | ((try simp only [cond_or, cond_and]); first | done | rfl | grind | (((repeat' split) <;> simp_all); done))

theorem br_slices_IndexFunc_216 (s0 : (List Vec)) (f1 : (Vec → Option Bool)) : slices_IndexFunc_216 s0 f1 = GoOld.slices_IndexFunc_Vec s0 f1 := by
  unfold slices_IndexFunc_216 GoOld.slices_IndexFunc_Vec
  generalize fuel = N
  try simp only [Let_nr, Bind_snr, Bind_if, gd1, gd2, gd3, gd4, gd5, gd6, w64, gt_iff_lt, ge_iff_le, Join_nr, GoOld.slices_IndexFunc_Vec_j2]
  (repeat (first | refine LOOP_br1 (fun _ => rfl) ?_ _ _ | refine Chk_br ?_ | refine Bind_br (fun _ => ?_) | refine ite_br ?_ ?_ | rfl))
  all_goals first | rfl | (intro n r ih v0; (first | rw [GoOld.slices_IndexFunc_Vec_l1]); (try simp only [ih, Let_nr, Bind_snr, Bind_if, gd1, gd2, gd3, gd4, gd5, gd6, w64, gt_iff_lt, ge_iff_le, Join_nr, GoOld.slices_IndexFunc_Vec_j2]); first | done | rfl | ((repeat (first | refine LOOP_br1 (fun _ => rfl) ?_ _ _ | refine Chk_br ?_ | refine Bind_br (fun _ => ?_) | refine ite_br ?_ ?_ | rfl)); all_goals first | rfl))

theorem br_slices_ContainsFunc_188 (s0 : (List Vec)) (f1 : (Vec → Option Bool)) : slices_ContainsFunc_188 s0 f1 = GoOld.slices_ContainsFunc_Vec s0 f1 := by
  unfold slices_ContainsFunc_188 GoOld.slices_ContainsFunc_Vec
  try simp only [Let_nr, Bind_snr, Bind_if, gd1, gd2, gd3, gd4, gd5, gd6, w64, gt_iff_lt, ge_iff_le, Join_nr, br_slices_IndexFunc_216]
  first | done | rfl | ((try simp only [cond_or, cond_and]); first | done | rfl | grind | (((repeat' split) <;> simp_all); done))

theorem br_shape_outOfRange (n0 : Int) : shape_outOfRange n0 = some (GoOld.shape_outOfRange n0) := by
  unfold shape_outOfRange GoOld.shape_outOfRange
  try simp only [Let_nr, Bind_snr, Bind_if, gd1, gd2, gd3, gd4, gd5, gd6, w64, gt_iff_lt, ge_iff_le, Join_nr]
  first | done | rfl | ((try simp only [cond_or, cond_and]); first | done | rfl | grind | (((repeat' split) <;> simp_all); done))

theorem br_shape_Validate_1 (v0 : Vec) : shape_Validate_1 v0 = some (GoOld.shape_Validate_c1 v0) := by
  unfold shape_Validate_1 GoOld.shape_Validate_c1
  try simp only [Let_nr, Bind_snr, Bind_if, gd1, gd2, gd3, gd4, gd5, gd6, w64, gt_iff_lt, ge_iff_le, Join_nr, GoOld.Vec.beq, br_shape_outOfRange]
  first | done | rfl | ((try simp only [cond_or, cond_and]); first | done | rfl | grind | (((repeat' split) <;> simp_all); done))

theorem br_fixed_Saturate (x0 : Int) : fixed_Saturate x0 = some (GoOld.fixed_Saturate x0) := by
  unfold fixed_Saturate GoOld.fixed_Saturate
  try simp only [Let_nr, Bind_snr, Bind_if, gd1, gd2, gd3, gd4, gd5, gd6, w64, gt_iff_lt, ge_iff_le, Join_nr]
  first | done | rfl | ((try simp only [cond_or, cond_and]); first | done | rfl | grind | (((repeat' split) <;> simp_all); done))

theorem br_fixed_Sub (a0 : Int) (b1 : Int) : fixed_Sub a0 b1 = some (GoOld.fixed_Sub a0 b1) := by
  unfold fixed_Sub GoOld.fixed_Sub
  try simp only [Let_nr, Bind_snr, Bind_if, gd1, gd2, gd3, gd4, gd5, gd6, w64, gt_iff_lt, ge_iff_le, Join_nr, br_fixed_Saturate]
  first | done | rfl | ((try simp only [cond_or, cond_and]); first | done | rfl | grind | (((repeat' split) <;> simp_all); done))

theorem br_vec2_Sub (a0 : Vec) (b1 : Vec) : vec2_Sub a0 b1 = some (GoOld.vec2_Sub a0 b1) := by
  unfold vec2_Sub GoOld.vec2_Sub
  try simp only [Let_nr, Bind_snr, Bind_if, gd1, gd2, gd3, gd4, gd5, gd6, w64, gt_iff_lt, ge_iff_le, Join_nr, br_fixed_Sub]
  first | done | rfl | ((try simp only [cond_or, cond_and]); first | done | rfl | grind | (((repeat' split) <;> simp_all); done))

theorem br_vec2_saturate (v0 : Vec) : vec2_saturate v0 = some (GoOld.vec2_saturate v0) := by
  unfold vec2_saturate GoOld.vec2_saturate
  try simp only [Let_nr, Bind_snr, Bind_if, gd1, gd2, gd3, gd4, gd5, gd6, w64, gt_iff_lt, ge_iff_le, Join_nr, br_fixed_Saturate]
  first | done | rfl | ((try simp only [cond_or, cond_and]); first | done | rfl | grind | (((repeat' split) <;> simp_all); done))

theorem br_vec2_DistanceSquared (a0 : Vec) (b1 : Vec) : vec2_DistanceSquared a0 b1 = some (GoOld.vec2_DistanceSquared a0 b1) := by
  unfold vec2_DistanceSquared GoOld.vec2_DistanceSquared
  try simp only [Let_nr, Bind_snr, Bind_if, gd1, gd2, gd3, gd4, gd5, gd6, w64, gt_iff_lt, ge_iff_le, Join_nr, br_vec2_saturate]
  first | done | rfl | ((try simp only [cond_or, cond_and]); first | done | rfl | grind | (((repeat' split) <;> simp_all); done))

theorem br_fixed_Isqrt (n0 : Int) : fixed_Isqrt n0 = GoOld.fixed_Isqrt n0 := by
  unfold fixed_Isqrt GoOld.fixed_Isqrt
  generalize fuel = N
  try simp only [Let_nr, Bind_snr, Bind_if, gd1, gd2, gd3, gd4, gd5, gd6, w64, gt_iff_lt, ge_iff_le, Join_nr, GoOld.fixed_Isqrt_j1, GoOld.fixed_Isqrt_j3]
  (repeat (first | refine LOOP_br2 (fun _ _ => rfl) ?_ _ _ _ | refine Chk_br ?_ | refine Bind_br (fun _ => ?_) | refine ite_br ?_ ?_ | rfl))
  all_goals first | rfl | (intro n r ih v0 v1; (first | rw [GoOld.fixed_Isqrt_l2]); (try simp only [ih, Let_nr, Bind_snr, Bind_if, gd1, gd2, gd3, gd4, gd5, gd6, w64, gt_iff_lt, ge_iff_le, Join_nr, GoOld.fixed_Isqrt_j1, GoOld.fixed_Isqrt_j3]); first | done | rfl | ((repeat (first | refine LOOP_br2 (fun _ _ => rfl) ?_ _ _ _ | refine Chk_br ?_ | refine Bind_br (fun _ => ?_) | refine ite_br ?_ ?_ | rfl)); all_goals first | rfl))

theorem br_vec2_Length (v0 : Vec) : vec2_Length v0 = GoOld.vec2_Length v0 := by
  unfold vec2_Length GoOld.vec2_Length
  try simp only [Let_nr, Bind_snr, Bind_if, gd1, gd2, gd3, gd4, gd5, gd6, w64, gt_iff_lt, ge_iff_le, Join_nr, br_vec2_DistanceSquared, br_fixed_Isqrt]
  first | done | rfl | ((try simp only [cond_or, cond_and]); first | done | rfl | grind | (((repeat' split) <;> simp_all); done))

theorem br_polygon_inReach (v0 : Vec) : polygon_inReach v0 = some (GoOld.polygon_inReach v0) := by
  unfold polygon_inReach GoOld.polygon_inReach
  try simp only [Let_nr, Bind_snr, Bind_if, gd1, gd2, gd3, gd4, gd5, gd6, w64, gt_iff_lt, ge_iff_le, Join_nr]
  first | done | rfl | ((try simp only [cond_or, cond_and]); first | done | rfl | grind | (((repeat' split) <;> simp_all); done))

theorem br_polygon_allInReach (points0 : (List Vec)) : polygon_allInReach points0 = GoOld.polygon_allInReach points0 := by
  unfold polygon_allInReach GoOld.polygon_allInReach
  generalize fuel = N
  try simp only [Let_nr, Bind_snr, Bind_if, gd1, gd2, gd3, gd4, gd5, gd6, w64, gt_iff_lt, ge_iff_le, Join_nr, br_polygon_inReach, GoOld.polygon_allInReach_j2]
  (repeat (first | refine LOOP_br1 (fun _ => rfl) ?_ _ _ | refine Chk_br ?_ | refine Bind_br (fun _ => ?_) | refine ite_br ?_ ?_ | rfl))
  all_goals first | rfl | (intro n r ih v0; (first | rw [GoOld.polygon_allInReach_l1]); (try simp only [ih, Let_nr, Bind_snr, Bind_if, gd1, gd2, gd3, gd4, gd5, gd6, w64, gt_iff_lt, ge_iff_le, Join_nr, br_polygon_inReach, GoOld.polygon_allInReach_j2]); first | done | rfl | ((repeat (first | refine LOOP_br1 (fun _ => rfl) ?_ _ _ | refine Chk_br ?_ | refine Bind_br (fun _ => ?_) | refine ite_br ?_ ?_ | rfl)); all_goals first | rfl))

theorem br_vec2_Orientation (a0 : Vec) (b1 : Vec) (c2 : Vec) : vec2_Orientation a0 b1 c2 = some (GoOld.vec2_Orientation a0 b1 c2) := by
  unfold vec2_Orientation GoOld.vec2_Orientation
  try simp only [Let_nr, Bind_snr, Bind_if, gd1, gd2, gd3, gd4, gd5, gd6, w64, gt_iff_lt, ge_iff_le, Join_nr, br_vec2_saturate]
  first | done | rfl | ((try simp only [cond_or, cond_and]); first | done | rfl | grind | (((repeat' split) <;> simp_all); done))

theorem br_polygon_IsConvex (vertices0 : (List Vec)) : polygon_IsConvex vertices0 = GoOld.polygon_IsConvex vertices0 := by
  unfold polygon_IsConvex GoOld.polygon_IsConvex
  simp only [Let_nr, Bind_snr, Bind_if, gd1, gd2, gd3, gd4, gd5, gd6, w64, gt_iff_lt, ge_iff_le, Join_nr, br_polygon_allInReach, br_vec2_Orientation]
  refine Bind_br (fun q => ?_)
  refine ite_br rfl ?_
  refine LOOP_br1 (fun _ => rfl) ?_ _ _
  intro n r ih v
  rw [GoOld.polygon_IsConvex_l3]
  simp only [ih, Let_nr, Bind_snr, Bind_if, gd1, gd2, gd3, gd4, gd5, gd6, w64, gt_iff_lt, ge_iff_le, Join_nr, GoOld.polygon_IsConvex_j4]
  refine ite_br ?_ rfl
  refine Chk_br ?_
  refine Chk_br ?_
  refine LOOP_br1 (fun _ => rfl) ?_ _ _
  intro n' r' ih' v'
  rw [GoOld.polygon_IsConvex_l1]
  simp only [ih', Let_nr, Bind_snr, Bind_if, gd1, gd2, gd3, gd4, gd5, gd6, w64, gt_iff_lt, ge_iff_le, Join_nr, GoOld.polygon_IsConvex_j2]

theorem br_polygon_ShortestEdge (vertices0 : (List Vec)) : polygon_ShortestEdge vertices0 = GoOld.polygon_ShortestEdge vertices0 := by
  unfold polygon_ShortestEdge GoOld.polygon_ShortestEdge
  generalize fuel = N
  try simp only [Let_nr, Bind_snr, Bind_if, gd1, gd2, gd3, gd4, gd5, gd6, w64, gt_iff_lt, ge_iff_le, Join_nr, br_vec2_Sub, br_vec2_Length, br_polygon_IsConvex, GoOld.polygon_ShortestEdge_j2]
  (repeat (first | refine LOOP_br2 (fun _ _ => rfl) ?_ _ _ _ | refine Chk_br ?_ | refine Bind_br (fun _ => ?_) | refine ite_br ?_ ?_ | rfl))
  all_goals first | rfl | (intro n r ih v0 v1; (first | rw [GoOld.polygon_ShortestEdge_l1]); (try simp only [ih, Let_nr, Bind_snr, Bind_if, gd1, gd2, gd3, gd4, gd5, gd6, w64, gt_iff_lt, ge_iff_le, Join_nr, br_vec2_Sub, br_vec2_Length, br_polygon_IsConvex, GoOld.polygon_ShortestEdge_j2]); first | done | rfl | ((repeat (first | refine LOOP_br2 (fun _ _ => rfl) ?_ _ _ _ | refine Chk_br ?_ | refine Bind_br (fun _ => ?_) | refine ite_br ?_ ?_ | rfl)); all_goals first | rfl))

theorem br_fixed_RoundDiv (n0 : Int) (d1 : Int) : fixed_RoundDiv n0 d1 = GoOld.fixed_RoundDiv n0 d1 := by
  unfold fixed_RoundDiv GoOld.fixed_RoundDiv
  try simp only [Let_nr, Bind_snr, Bind_if, gd1, gd2, gd3, gd4, gd5, gd6, w64, gt_iff_lt, ge_iff_le, Join_nr]
  first | done | rfl | ((try simp only [cond_or, cond_and]); first | done | rfl | grind | (((repeat' split) <;> simp_all); done))

theorem br_polygon_fan (vertices0 : (List Vec)) : polygon_fan vertices0 = GoOld.polygon_fan vertices0 := by
  unfold polygon_fan GoOld.polygon_fan
  generalize fuel = N
  try simp only [Let_nr, Bind_snr, Bind_if, gd1, gd2, gd3, gd4, gd5, gd6, w64, gt_iff_lt, ge_iff_le, Join_nr, br_fixed_RoundDiv, GoOld.polygon_fan_j2]
  (repeat (first | refine LOOP_br3 (fun _ _ _ => rfl) ?_ _ _ _ _ | refine Chk_br ?_ | refine Bind_br (fun _ => ?_) | refine ite_br ?_ ?_ | rfl))
  all_goals first | rfl | (intro n r ih v0 v1 v2; (first | rw [GoOld.polygon_fan_l1]); (try simp only [ih, Let_nr, Bind_snr, Bind_if, gd1, gd2, gd3, gd4, gd5, gd6, w64, gt_iff_lt, ge_iff_le, Join_nr, br_fixed_RoundDiv, GoOld.polygon_fan_j2]); first | done | rfl | ((repeat (first | refine LOOP_br3 (fun _ _ _ => rfl) ?_ _ _ _ _ | refine Chk_br ?_ | refine Bind_br (fun _ => ?_) | refine ite_br ?_ ?_ | rfl)); all_goals first | rfl))

theorem br_polygon_Area (vertices0 : (List Vec)) : polygon_Area vertices0 = GoOld.polygon_Area vertices0 := by
  unfold polygon_Area GoOld.polygon_Area
  try simp only [Let_nr, Bind_snr, Bind_if, gd1, gd2, gd3, gd4, gd5, gd6, w64, gt_iff_lt, ge_iff_le, Join_nr, br_polygon_IsConvex, br_fixed_RoundDiv, br_polygon_fan]
  first | done | rfl | ((try simp only [cond_or, cond_and]); first | done | rfl | grind | (((repeat' split) <;> simp_all); done))

theorem br_shape_Validate (s0 : Shape) : shape_Validate s0 = GoOld.shape_Validate s0 := by
  unfold shape_Validate GoOld.shape_Validate
  have hc : slices_ContainsFunc_188 s0.Vertices (fun (a : Tup tb [Ix.tVec]) => shape_Validate_1 a) = GoOld.slices_ContainsFunc_Vec s0.Vertices (fun y0 => some (GoOld.shape_Validate_c1 y0)) := (br_slices_ContainsFunc_188 s0.Vertices (fun a => shape_Validate_1 a)).trans (congrArg (GoOld.slices_ContainsFunc_Vec s0.Vertices) (funext br_shape_Validate_1))
  have gs : ∀ (c : Prop) [Decidable c] (a d : Vec) (e : Option Int), (if c then GoOld.vec2_Length (if c then a else d) else e) = if c then GoOld.vec2_Length a else e := by intro c _ a d e; by_cases h : c <;> simp [h]
  simp only [hc, gs, Let_nr, Bind_snr, Bind_if, gd1, gd2, gd3, gd4, gd5, gd6, w64, gt_iff_lt, ge_iff_le, Join_nr, br_shape_validCount, br_vec2_Sub, br_vec2_Length, br_polygon_IsConvex, br_polygon_ShortestEdge, br_polygon_Area, GoOld.shape_Validate_j1]

theorem br_body_ValidateFixture (f0 : Fixture) : body_ValidateFixture f0 = GoOld.body_ValidateFixture f0 := by
  unfold body_ValidateFixture GoOld.body_ValidateFixture
  try simp only [Let_nr, Bind_snr, Bind_if, gd1, gd2, gd3, gd4, gd5, gd6, w64, gt_iff_lt, ge_iff_le, Join_nr, GoOld.Vec.beq, br_body_within, br_shape_Validate]
  first | done | rfl | ((try simp only [cond_or, cond_and]); first | done | rfl | grind | (((repeat' split) <;> simp_all); done))

theorem br_body_moving (b0 : Body) : body_moving b0 = some (GoOld.body_moving b0) := by
  unfold body_moving GoOld.body_moving
  try simp only [Let_nr, Bind_snr, Bind_if, gd1, gd2, gd3, gd4, gd5, gd6, w64, gt_iff_lt, ge_iff_le, Join_nr]
  first | done | rfl | ((try simp only [cond_or, cond_and]); first | done | rfl | grind | (((repeat' split) <;> simp_all); done))

theorem br_body_consistent (b0 : Body) : body_consistent b0 = some (GoOld.body_consistent b0) := by
  unfold body_consistent GoOld.body_consistent
  try simp only [Let_nr, Bind_snr, Bind_if, gd1, gd2, gd3, gd4, gd5, gd6, w64, gt_iff_lt, ge_iff_le, Join_nr, GoOld.Vec.beq, br_body_moving]
  first | done | rfl | ((try simp only [cond_or, cond_and]); first | done | rfl | grind | (((repeat' split) <;> simp_all); done))

theorem br_body_Validate (b0 : Body) : body_Validate b0 = GoOld.body_Validate b0 := by
  unfold body_Validate GoOld.body_Validate
  generalize fuel = N
  try simp only [Let_nr, Bind_snr, Bind_if, gd1, gd2, gd3, gd4, gd5, gd6, w64, gt_iff_lt, ge_iff_le, Join_nr, br_body_inRange, br_body_ValidateFixture, br_body_consistent, GoOld.body_Validate_j2]
  (repeat (first | refine LOOP_br1 (fun _ => rfl) ?_ _ _ | refine Chk_br ?_ | refine Bind_br (fun _ => ?_) | refine ite_br ?_ ?_ | rfl))
  all_goals first | rfl | (intro n r ih v0; (first | rw [GoOld.body_Validate_l1]); (try simp only [ih, Let_nr, Bind_snr, Bind_if, gd1, gd2, gd3, gd4, gd5, gd6, w64, gt_iff_lt, ge_iff_le, Join_nr, br_body_inRange, br_body_ValidateFixture, br_body_consistent, GoOld.body_Validate_j2]); first | done | rfl | ((repeat (first | refine LOOP_br1 (fun _ => rfl) ?_ _ _ | refine Chk_br ?_ | refine Bind_br (fun _ => ?_) | refine ite_br ?_ ?_ | rfl)); all_goals first | rfl))

theorem br_fixed_Mul (a0 : Int) (b1 : Int) : fixed_Mul a0 b1 = GoOld.fixed_Mul a0 b1 := by
  unfold fixed_Mul GoOld.fixed_Mul
  try simp only [Let_nr, Bind_snr, Bind_if, gd1, gd2, gd3, gd4, gd5, gd6, w64, gt_iff_lt, ge_iff_le, Join_nr, br_fixed_Saturate, br_fixed_RoundDiv]
  first | done | rfl | ((try simp only [cond_or, cond_and]); first | done | rfl | grind | (((repeat' split) <;> simp_all); done))

theorem br_massdata_ofCircle (s0 : Shape) (density1 : Int) : massdata_ofCircle s0 density1 = GoOld.massdata_ofCircle s0 density1 := by
  unfold massdata_ofCircle GoOld.massdata_ofCircle
  try simp only [Let_nr, Bind_snr, Bind_if, gd1, gd2, gd3, gd4, gd5, gd6, w64, gt_iff_lt, ge_iff_le, Join_nr, br_fixed_RoundDiv, br_fixed_Mul]
  first | done | rfl | ((try simp only [cond_or, cond_and]); first | done | rfl | grind | (((repeat' split) <;> simp_all); done))

theorem br_fixed_Add (a0 : Int) (b1 : Int) : fixed_Add a0 b1 = some (GoOld.fixed_Add a0 b1) := by
  unfold fixed_Add GoOld.fixed_Add
  try simp only [Let_nr, Bind_snr, Bind_if, gd1, gd2, gd3, gd4, gd5, gd6, w64, gt_iff_lt, ge_iff_le, Join_nr, br_fixed_Saturate]
  first | done | rfl | ((try simp only [cond_or, cond_and]); first | done | rfl | grind | (((repeat' split) <;> simp_all); done))

theorem br_fixed_Lerp (a0 : Int) (b1 : Int) (t2 : Int) : fixed_Lerp a0 b1 t2 = GoOld.fixed_Lerp a0 b1 t2 := by
  unfold fixed_Lerp GoOld.fixed_Lerp
  try simp only [Let_nr, Bind_snr, Bind_if, gd1, gd2, gd3, gd4, gd5, gd6, w64, gt_iff_lt, ge_iff_le, Join_nr, br_fixed_Sub, br_fixed_Mul, br_fixed_Add]
  first | done | rfl | ((try simp only [cond_or, cond_and]); first | done | rfl | grind | (((repeat' split) <;> simp_all); done))

theorem br_vec2_Lerp (a0 : Vec) (b1 : Vec) (t2 : Int) : vec2_Lerp a0 b1 t2 = GoOld.vec2_Lerp a0 b1 t2 := by
  unfold vec2_Lerp GoOld.vec2_Lerp
  try simp only [Let_nr, Bind_snr, Bind_if, gd1, gd2, gd3, gd4, gd5, gd6, w64, gt_iff_lt, ge_iff_le, Join_nr, br_fixed_Lerp]
  first | done | rfl | ((try simp only [cond_or, cond_and]); first | done | rfl | grind | (((repeat' split) <;> simp_all); done))

theorem br_massdata_ofCapsule (s0 : Shape) (density1 : Int) : massdata_ofCapsule s0 density1 = GoOld.massdata_ofCapsule s0 density1 := by
  unfold massdata_ofCapsule GoOld.massdata_ofCapsule
  try simp only [Let_nr, Bind_snr, Bind_if, gd1, gd2, gd3, gd4, gd5, gd6, w64, gt_iff_lt, ge_iff_le, Join_nr, br_vec2_Sub, br_vec2_Length, br_fixed_RoundDiv, br_fixed_Mul, br_fixed_Add, br_vec2_Lerp]
  first | done | rfl | ((try simp only [cond_or, cond_and]); first | done | rfl | grind | (((repeat' split) <;> simp_all); done))

theorem br_polygon_Centroid (vertices0 : (List Vec)) : polygon_Centroid vertices0 = GoOld.polygon_Centroid vertices0 := by
  unfold polygon_Centroid GoOld.polygon_Centroid
  generalize fuel = N
  try simp only [Let_nr, Bind_snr, Bind_if, gd1, gd2, gd3, gd4, gd5, gd6, w64, gt_iff_lt, ge_iff_le, Join_nr, GoOld.Vec.beq, br_polygon_IsConvex, br_fixed_RoundDiv, br_polygon_fan, GoOld.polygon_Centroid_j2]
  (repeat (first | refine LOOP_br3 (fun _ _ _ => rfl) ?_ _ _ _ _ | refine Chk_br ?_ | refine Bind_br (fun _ => ?_) | refine ite_br ?_ ?_ | rfl))
  all_goals first | rfl | (intro n r ih v0 v1 v2; (first | rw [GoOld.polygon_Centroid_l1]); (try simp only [ih, Let_nr, Bind_snr, Bind_if, gd1, gd2, gd3, gd4, gd5, gd6, w64, gt_iff_lt, ge_iff_le, Join_nr, GoOld.Vec.beq, br_polygon_IsConvex, br_fixed_RoundDiv, br_polygon_fan, GoOld.polygon_Centroid_j2]); first | done | rfl | ((repeat (first | refine LOOP_br3 (fun _ _ _ => rfl) ?_ _ _ _ _ | refine Chk_br ?_ | refine Bind_br (fun _ => ?_) | refine ite_br ?_ ?_ | rfl)); all_goals first | rfl))

theorem br_vec2_product (n0 : Int) : vec2_product n0 = GoOld.vec2_product n0 := by
  unfold vec2_product GoOld.vec2_product
  try simp only [Let_nr, Bind_snr, Bind_if, gd1, gd2, gd3, gd4, gd5, gd6, w64, gt_iff_lt, ge_iff_le, Join_nr, br_fixed_Saturate, br_fixed_RoundDiv]
  first | done | rfl | ((try simp only [cond_or, cond_and]); first | done | rfl | grind | (((repeat' split) <;> simp_all); done))

theorem br_vec2_Cross (a0 : Vec) (b1 : Vec) : vec2_Cross a0 b1 = GoOld.vec2_Cross a0 b1 := by
  unfold vec2_Cross GoOld.vec2_Cross
  try simp only [Let_nr, Bind_snr, Bind_if, gd1, gd2, gd3, gd4, gd5, gd6, w64, gt_iff_lt, ge_iff_le, Join_nr, br_vec2_saturate, br_vec2_product]
  first | done | rfl | ((try simp only [cond_or, cond_and]); first | done | rfl | grind | (((repeat' split) <;> simp_all); done))

theorem br_vec2_Dot (a0 : Vec) (b1 : Vec) : vec2_Dot a0 b1 = GoOld.vec2_Dot a0 b1 := by
  unfold vec2_Dot GoOld.vec2_Dot
  try simp only [Let_nr, Bind_snr, Bind_if, gd1, gd2, gd3, gd4, gd5, gd6, w64, gt_iff_lt, ge_iff_le, Join_nr, br_vec2_saturate, br_vec2_product]
  first | done | rfl | ((try simp only [cond_or, cond_and]); first | done | rfl | grind | (((repeat' split) <;> simp_all); done))

theorem br_massdata_ofPolygon (s0 : Shape) (density1 : Int) : massdata_ofPolygon s0 density1 = GoOld.massdata_ofPolygon s0 density1 := by
  unfold massdata_ofPolygon GoOld.massdata_ofPolygon
  generalize fuel = N
  try simp only [Let_nr, Bind_snr, Bind_if, gd1, gd2, gd3, gd4, gd5, gd6, w64, gt_iff_lt, ge_iff_le, Join_nr, br_vec2_Sub, br_fixed_RoundDiv, br_polygon_Area, br_fixed_Mul, br_polygon_Centroid, br_vec2_Cross, br_vec2_Dot, GoOld.massdata_ofPolygon_j2]
  (repeat (first | refine LOOP_br4 (fun _ _ _ _ => rfl) ?_ _ _ _ _ _ | refine Chk_br ?_ | refine Bind_br (fun _ => ?_) | refine ite_br ?_ ?_ | rfl))
  all_goals first | rfl | (intro n r ih v0 v1 v2 v3; (first | rw [GoOld.massdata_ofPolygon_l1]); (try simp only [ih, Let_nr, Bind_snr, Bind_if, gd1, gd2, gd3, gd4, gd5, gd6, w64, gt_iff_lt, ge_iff_le, Join_nr, br_vec2_Sub, br_fixed_RoundDiv, br_polygon_Area, br_fixed_Mul, br_polygon_Centroid, br_vec2_Cross, br_vec2_Dot, GoOld.massdata_ofPolygon_j2]); first | done | rfl | ((repeat (first | refine LOOP_br4 (fun _ _ _ _ => rfl) ?_ _ _ _ _ _ | refine Chk_br ?_ | refine Bind_br (fun _ => ?_) | refine ite_br ?_ ?_ | rfl)); all_goals first | rfl))

theorem br_massdata_OfShape (s0 : Shape) (density1 : Int) : massdata_OfShape s0 density1 = GoOld.massdata_OfShape s0 density1 := by
  unfold massdata_OfShape GoOld.massdata_OfShape
  try simp only [Let_nr, Bind_snr, Bind_if, gd1, gd2, gd3, gd4, gd5, gd6, w64, gt_iff_lt, ge_iff_le, Join_nr, GoOld.Vec.beq, br_shape_Validate, br_massdata_ofCircle, br_massdata_ofCapsule, br_massdata_ofPolygon]
  first | done | rfl | ((try simp only [cond_or, cond_and]); first | done | rfl | grind | (((repeat' split) <;> simp_all); done))

theorem br_slices_IndexFunc_199 (s0 : (List MassData)) (f1 : (MassData → Option Bool)) : slices_IndexFunc_199 s0 f1 = GoOld.slices_IndexFunc_MassData s0 f1 := by
  unfold slices_IndexFunc_199 GoOld.slices_IndexFunc_MassData
  generalize fuel = N
  try simp only [Let_nr, Bind_snr, Bind_if, gd1, gd2, gd3, gd4, gd5, gd6, w64, gt_iff_lt, ge_iff_le, Join_nr, GoOld.slices_IndexFunc_MassData_j2]
  (repeat (first | refine LOOP_br1 (fun _ => rfl) ?_ _ _ | refine Chk_br ?_ | refine Bind_br (fun _ => ?_) | refine ite_br ?_ ?_ | rfl))
  all_goals first | rfl | (intro n r ih v0; (first | rw [GoOld.slices_IndexFunc_MassData_l1]); (try simp only [ih, Let_nr, Bind_snr, Bind_if, gd1, gd2, gd3, gd4, gd5, gd6, w64, gt_iff_lt, ge_iff_le, Join_nr, GoOld.slices_IndexFunc_MassData_j2]); first | done | rfl | ((repeat (first | refine LOOP_br1 (fun _ => rfl) ?_ _ _ | refine Chk_br ?_ | refine Bind_br (fun _ => ?_) | refine ite_br ?_ ?_ | rfl)); all_goals first | rfl))

theorem br_slices_ContainsFunc_165 (s0 : (List MassData)) (f1 : (MassData → Option Bool)) : slices_ContainsFunc_165 s0 f1 = GoOld.slices_ContainsFunc_MassData s0 f1 := by
  unfold slices_ContainsFunc_165 GoOld.slices_ContainsFunc_MassData
  try simp only [Let_nr, Bind_snr, Bind_if, gd1, gd2, gd3, gd4, gd5, gd6, w64, gt_iff_lt, ge_iff_le, Join_nr, br_slices_IndexFunc_199]
  first | done | rfl | ((try simp only [cond_or, cond_and]); first | done | rfl | grind | (((repeat' split) <;> simp_all); done))

theorem br_massdata_Combine_1 (p0 : MassData) : massdata_Combine_1 p0 = some (GoOld.massdata_Combine_c1 p0) := by
  unfold massdata_Combine_1 GoOld.massdata_Combine_c1
  try simp only [Let_nr, Bind_snr, Bind_if, gd1, gd2, gd3, gd4, gd5, gd6, w64, gt_iff_lt, ge_iff_le, Join_nr]
  first | done | rfl | ((try simp only [cond_or, cond_and]); first | done | rfl | grind | (((repeat' split) <;> simp_all); done))

theorem br_massdata_Combine (parts0 : (List MassData)) : massdata_Combine parts0 = GoOld.massdata_Combine parts0 := by
  have hc : slices_ContainsFunc_165 parts0 (fun (a : Tup tb [Ix.tMassData]) => massdata_Combine_1 a) = GoOld.slices_ContainsFunc_MassData parts0 (fun y0 => some (GoOld.massdata_Combine_c1 y0)) := (br_slices_ContainsFunc_165 parts0 (fun a => massdata_Combine_1 a)).trans (congrArg (GoOld.slices_ContainsFunc_MassData parts0) (funext br_massdata_Combine_1))
  unfold massdata_Combine GoOld.massdata_Combine
  simp only [hc, Let_nr, Bind_snr, Bind_if, gd1, gd2, gd3, gd4, gd5, gd6, w64, gt_iff_lt, ge_iff_le, Join_nr, br_fixed_Saturate, br_vec2_Sub, br_fixed_RoundDiv, br_fixed_Mul, br_fixed_Add, br_vec2_Dot]
  refine Bind_br (fun q => ?_)
  refine ite_br rfl ?_
  refine LOOP_br5 (fun _ _ _ _ _ => rfl) ?_ _ _ _ _ _ _
  intro n r ih v0 v1 v2 v3 v4
  rw [GoOld.massdata_Combine_l1]
  simp only [ih, Let_nr, Bind_snr, Bind_if, gd1, gd2, gd3, gd4, gd5, gd6, w64, gt_iff_lt, ge_iff_le, Join_nr, GoOld.massdata_Combine_j5, GoOld.massdata_Combine_j4]
  refine ite_br rfl ?_
  have hL : ∀ m : MassData, LOOP (fun (rec818 : Int × MassData → Option MassData) (s819 : Int × MassData) =>
    if decide (s819.fst < (parts0.length : Int)) = true then
    Chk ((0 : Int) ≤ s819.fst ∧ s819.fst < (parts0.length : Int))
    (Rx.Bind (GoOld.vec2_Dot (GoOld.vec2_Sub (ix parts0 s819.fst).Center s819.snd.Center) (GoOld.vec2_Sub (ix parts0 s819.fst).Center s819.snd.Center)) fun (r824 : Int) =>
    Rx.Bind (GoOld.fixed_Mul (ix parts0 s819.fst).Mass r824) fun (r825 : Int) =>
    rec818 (IntKind.i64.wrap (s819.fst + (1 : Int)), { Mass := s819.snd.Mass, Center := s819.snd.Center, Inertia := GoOld.fixed_Add (GoOld.fixed_Add s819.snd.Inertia (ix parts0 s819.fst).Inertia) r825 : MassData }))
    else some s819.snd) fuel ((0 : Int), m) = GoOld.massdata_Combine_l2 parts0 GoOld.massdata_Combine_j3 fuel 0 m := by
    intro m
    refine LOOP_br2 (fun _ _ => rfl) ?_ _ _ _
    intro n r ih v0 v1
    rw [GoOld.massdata_Combine_l2]
    simp only [ih, Let_nr, Bind_snr, Bind_if, gd1, gd2, gd3, gd4, gd5, gd6, w64, gt_iff_lt, ge_iff_le, Join_nr, GoOld.massdata_Combine_j3]
  simp only [hL]

theorem br_massdata_OfFixtures (fixtures0 : (List Fixture)) : massdata_OfFixtures fixtures0 = GoOld.massdata_OfFixtures fixtures0 := by
  unfold massdata_OfFixtures GoOld.massdata_OfFixtures
  simp only [Let_nr, Bind_snr, Bind_if, gd1, gd2, gd3, gd4, gd5, gd6, w64, gt_iff_lt, ge_iff_le, Join_nr, br_massdata_OfShape, br_massdata_Combine]
  refine ite_br rfl ?_
  refine LOOP_br2 (fun _ _ => rfl) ?_ _ _ _
  intro n r ih v0 v1
  rw [GoOld.massdata_OfFixtures_l2]
  simp only [ih, Let_nr, Bind_snr, Bind_if, gd1, gd2, gd3, gd4, gd5, gd6, w64, gt_iff_lt, ge_iff_le, Join_nr, GoOld.massdata_OfFixtures_j1, GoOld.massdata_OfFixtures_j3]

theorem br_body_MassData (b0 : Body) : body_MassData b0 = GoOld.body_MassData b0 := by
  unfold body_MassData GoOld.body_MassData
  try simp only [Let_nr, Bind_snr, Bind_if, gd1, gd2, gd3, gd4, gd5, gd6, w64, gt_iff_lt, ge_iff_le, Join_nr, br_massdata_OfFixtures]
  first | done | rfl | ((try simp only [cond_or, cond_and]); first | done | rfl | grind | (((repeat' split) <;> simp_all); done))

theorem br_vec2_Scale (v0 : Vec) (k1 : Int) : vec2_Scale v0 k1 = GoOld.vec2_Scale v0 k1 := by
  unfold vec2_Scale GoOld.vec2_Scale
  try simp only [Let_nr, Bind_snr, Bind_if, gd1, gd2, gd3, gd4, gd5, gd6, w64, gt_iff_lt, ge_iff_le, Join_nr, br_fixed_Mul]
  first | done | rfl | ((try simp only [cond_or, cond_and]); first | done | rfl | grind | (((repeat' split) <;> simp_all); done))

theorem br_vec2_Add (a0 : Vec) (b1 : Vec) : vec2_Add a0 b1 = some (GoOld.vec2_Add a0 b1) := by
  unfold vec2_Add GoOld.vec2_Add
  try simp only [Let_nr, Bind_snr, Bind_if, gd1, gd2, gd3, gd4, gd5, gd6, w64, gt_iff_lt, ge_iff_le, Join_nr, br_fixed_Add]
  first | done | rfl | ((try simp only [cond_or, cond_and]); first | done | rfl | grind | (((repeat' split) <;> simp_all); done))

theorem br_angle_Normalize (a0 : Int) : angle_Normalize a0 = some (GoOld.angle_Normalize a0) := by
  unfold angle_Normalize GoOld.angle_Normalize
  try simp only [Let_nr, Bind_snr, Bind_if, gd1, gd2, gd3, gd4, gd5, gd6, w64, gt_iff_lt, ge_iff_le, Join_nr]
  first | done | rfl | ((try simp only [cond_or, cond_and]); first | done | rfl | grind | (((repeat' split) <;> simp_all); done))

theorem br_angle_abs (x0 : Int) : angle_abs x0 = some (GoOld.angle_abs x0) := by
  unfold angle_abs GoOld.angle_abs
  try simp only [Let_nr, Bind_snr, Bind_if, gd1, gd2, gd3, gd4, gd5, gd6, w64, gt_iff_lt, ge_iff_le, Join_nr]
  first | done | rfl | ((try simp only [cond_or, cond_and]); first | done | rfl | grind | (((repeat' split) <;> simp_all); done))

theorem br_fixed_Clamp (x0 : Int) (low1 : Int) (high2 : Int) : fixed_Clamp x0 low1 high2 = some (GoOld.fixed_Clamp x0 low1 high2) := by
  unfold fixed_Clamp GoOld.fixed_Clamp
  try simp only [Let_nr, Bind_snr, Bind_if, gd1, gd2, gd3, gd4, gd5, gd6, w64, gt_iff_lt, ge_iff_le, Join_nr]
  first | done | rfl | ((try simp only [cond_or, cond_and]); first | done | rfl | grind | (((repeat' split) <;> simp_all); done))

theorem br_fixed_Div (a0 : Int) (b1 : Int) : fixed_Div a0 b1 = GoOld.fixed_Div a0 b1 := by
  unfold fixed_Div GoOld.fixed_Div
  try simp only [Let_nr, Bind_snr, Bind_if, gd1, gd2, gd3, gd4, gd5, gd6, w64, gt_iff_lt, ge_iff_le, Join_nr, GoOld.Vec.beq, br_fixed_Saturate, br_fixed_RoundDiv, br_fixed_Clamp]
  first | done | rfl | ((try simp only [cond_or, cond_and]); first | done | rfl | grind | (((repeat' split) <;> simp_all); done))

theorem br_angle_Sin (a0 : Int) : angle_Sin a0 = GoOld.angle_Sin a0 := by
  unfold angle_Sin GoOld.angle_Sin
  try simp only [Let_nr, Bind_snr, Bind_if, gd1, gd2, gd3, gd4, gd5, gd6, w64, gt_iff_lt, ge_iff_le, Join_nr, br_fixed_Sub, br_fixed_Mul, br_angle_Normalize, br_angle_abs, br_fixed_Div, GoOld.angle_Sin_j1]
  first | done | rfl | ((try simp only [cond_or, cond_and]); first | done | rfl | grind | (((repeat' split) <;> simp_all); done))

theorem br_angle_Cos (a0 : Int) : angle_Cos a0 = GoOld.angle_Cos a0 := by
  unfold angle_Cos GoOld.angle_Cos
  try simp only [Let_nr, Bind_snr, Bind_if, gd1, gd2, gd3, gd4, gd5, gd6, w64, gt_iff_lt, ge_iff_le, Join_nr, br_angle_Normalize, br_angle_abs, br_angle_Sin]
  first | done | rfl | ((try simp only [cond_or, cond_and]); first | done | rfl | grind | (((repeat' split) <;> simp_all); done))

theorem br_angle_Rot (a0 : Int) : angle_Rot a0 = GoOld.angle_Rot a0 := by
  unfold angle_Rot GoOld.angle_Rot
  try simp only [Let_nr, Bind_snr, Bind_if, gd1, gd2, gd3, gd4, gd5, gd6, w64, gt_iff_lt, ge_iff_le, Join_nr, br_fixed_Isqrt, br_fixed_Div, br_angle_Sin, br_angle_Cos]
  first | done | rfl | ((try simp only [cond_or, cond_and]); first | done | rfl | grind | (((repeat' split) <;> simp_all); done))

theorem br_vec2_Rotate (r0 : Rot) (v1 : Vec) : vec2_Rotate r0 v1 = GoOld.vec2_Rotate r0 v1 := by
  unfold vec2_Rotate GoOld.vec2_Rotate
  try simp only [Let_nr, Bind_snr, Bind_if, gd1, gd2, gd3, gd4, gd5, gd6, w64, gt_iff_lt, ge_iff_le, Join_nr, br_fixed_Saturate, br_vec2_saturate, br_vec2_product]
  first | done | rfl | ((try simp only [cond_or, cond_and]); first | done | rfl | grind | (((repeat' split) <;> simp_all); done))

theorem br_transform_Apply (t0 : Transform) (v1 : Vec) : transform_Apply t0 v1 = GoOld.transform_Apply t0 v1 := by
  unfold transform_Apply GoOld.transform_Apply
  try simp only [Let_nr, Bind_snr, Bind_if, gd1, gd2, gd3, gd4, gd5, gd6, w64, gt_iff_lt, ge_iff_le, Join_nr, br_vec2_Add, br_angle_Rot, br_vec2_Rotate]
  first | done | rfl | ((try simp only [cond_or, cond_and]); first | done | rfl | grind | (((repeat' split) <;> simp_all); done))

theorem br_body_WorldCenter (b0 : Body) : body_WorldCenter b0 = GoOld.body_WorldCenter b0 := by
  unfold body_WorldCenter GoOld.body_WorldCenter
  try simp only [Let_nr, Bind_snr, Bind_if, gd1, gd2, gd3, gd4, gd5, gd6, w64, gt_iff_lt, ge_iff_le, Join_nr, br_body_MassData, br_transform_Apply]
  first | done | rfl | ((try simp only [cond_or, cond_and]); first | done | rfl | grind | (((repeat' split) <;> simp_all); done))

theorem br_fixed_Ratio (n0 : Int) (d1 : Int) : fixed_Ratio n0 d1 = GoOld.fixed_Ratio n0 d1 := by
  unfold fixed_Ratio GoOld.fixed_Ratio
  try simp only [Let_nr, Bind_snr, Bind_if, gd1, gd2, gd3, gd4, gd5, gd6, w64, gt_iff_lt, ge_iff_le, Join_nr, br_fixed_RoundDiv]
  first | done | rfl | ((try simp only [cond_or, cond_and]); first | done | rfl | grind | (((repeat' split) <;> simp_all); done))

theorem br_caromref23_in (x0 : Int) (low1 : Int) (high2 : Int) : caromref23_in x0 low1 high2 = some (GoOld.ref23_in x0 low1 high2) := by
  unfold caromref23_in GoOld.ref23_in
  try simp only [Let_nr, Bind_snr, Bind_if, gd1, gd2, gd3, gd4, gd5, gd6, w64, gt_iff_lt, ge_iff_le, Join_nr]
  first | done | rfl | ((try simp only [cond_or, cond_and]); first | done | rfl | grind | (((repeat' split) <;> simp_all); done))

theorem br_caromref04_outside (x0 : Int) : caromref04_outside x0 = some (GoOld.ref04_outside x0) := by
  unfold caromref04_outside GoOld.ref04_outside
  try simp only [Let_nr, Bind_snr, Bind_if, gd1, gd2, gd3, gd4, gd5, gd6, w64, gt_iff_lt, ge_iff_le, Join_nr]
  first | done | rfl | ((try simp only [cond_or, cond_and]); first | done | rfl | grind | (((repeat' split) <;> simp_all); done))

theorem br_caromref04_Valid (p0 : Transform) : caromref04_Valid p0 = some (GoOld.ref04_Valid p0) := by
  unfold caromref04_Valid GoOld.ref04_Valid
  try simp only [Let_nr, Bind_snr, Bind_if, gd1, gd2, gd3, gd4, gd5, gd6, w64, gt_iff_lt, ge_iff_le, Join_nr, GoOld.Vec.beq, br_caromref04_outside]
  first | done | rfl | ((try simp only [cond_or, cond_and]); first | done | rfl | grind | (((repeat' split) <;> simp_all); done))

theorem br_caromref23_inRange (b0 : Body) : caromref23_inRange b0 = some (GoOld.ref23_inRange b0) := by
  unfold caromref23_inRange GoOld.ref23_inRange
  try simp only [Let_nr, Bind_snr, Bind_if, gd1, gd2, gd3, gd4, gd5, gd6, w64, gt_iff_lt, ge_iff_le, Join_nr, GoOld.Vec.beq, br_caromref23_in, br_caromref04_Valid]
  first | done | rfl | ((try simp only [cond_or, cond_and]); first | done | rfl | grind | (((repeat' split) <;> simp_all); done))

theorem br_caromref12_countMatches (s0 : Shape) : caromref12_countMatches s0 = some (GoOld.ref12_countMatches s0) := by
  unfold caromref12_countMatches GoOld.ref12_countMatches
  try simp only [Let_nr, Bind_snr, Bind_if, gd1, gd2, gd3, gd4, gd5, gd6, w64, gt_iff_lt, ge_iff_le, Join_nr, GoOld.Vec.beq]
  first | done | rfl | ((try simp only [cond_or, cond_and]); first | done | rfl | grind | (((repeat' split) <;> simp_all); done))

theorem br_caromref12_within (x0 : Int) (m1 : Int) : caromref12_within x0 m1 = some (GoOld.ref12_within x0 m1) := by
  unfold caromref12_within GoOld.ref12_within
  try simp only [Let_nr, Bind_snr, Bind_if, gd1, gd2, gd3, gd4, gd5, gd6, w64, gt_iff_lt, ge_iff_le, Join_nr]
  first | done | rfl | ((try simp only [cond_or, cond_and]); first | done | rfl | grind | (((repeat' split) <;> simp_all); done))

theorem br_caromref01_Saturate (x0 : Int) : caromref01_Saturate x0 = some (GoOld.ref01_Saturate x0) := by
  unfold caromref01_Saturate GoOld.ref01_Saturate
  try simp only [Let_nr, Bind_snr, Bind_if, gd1, gd2, gd3, gd4, gd5, gd6, w64, gt_iff_lt, ge_iff_le, Join_nr]
  first | done | rfl | ((try simp only [cond_or, cond_and]); first | done | rfl | grind | (((repeat' split) <;> simp_all); done))

theorem br_caromref01_Sub (a0 : Int) (b1 : Int) : caromref01_Sub a0 b1 = some (GoOld.ref01_Sub a0 b1) := by
  unfold caromref01_Sub GoOld.ref01_Sub
  try simp only [Let_nr, Bind_snr, Bind_if, gd1, gd2, gd3, gd4, gd5, gd6, w64, gt_iff_lt, ge_iff_le, Join_nr, br_caromref01_Saturate]
  first | done | rfl | ((try simp only [cond_or, cond_and]); first | done | rfl | grind | (((repeat' split) <;> simp_all); done))

theorem br_caromref03_Sub (a0 : Vec) (b1 : Vec) : caromref03_Sub a0 b1 = some (GoOld.ref03_Sub a0 b1) := by
  unfold caromref03_Sub GoOld.ref03_Sub
  try simp only [Let_nr, Bind_snr, Bind_if, gd1, gd2, gd3, gd4, gd5, gd6, w64, gt_iff_lt, ge_iff_le, Join_nr, br_caromref01_Sub]
  first | done | rfl | ((try simp only [cond_or, cond_and]); first | done | rfl | grind | (((repeat' split) <;> simp_all); done))

theorem br_caromref03_Saturated (v0 : Vec) : caromref03_Saturated v0 = some (GoOld.ref03_Saturated v0) := by
  unfold caromref03_Saturated GoOld.ref03_Saturated
  try simp only [Let_nr, Bind_snr, Bind_if, gd1, gd2, gd3, gd4, gd5, gd6, w64, gt_iff_lt, ge_iff_le, Join_nr, br_caromref01_Saturate]
  first | done | rfl | ((try simp only [cond_or, cond_and]); first | done | rfl | grind | (((repeat' split) <;> simp_all); done))

theorem br_caromref01_outOfRange (n0 : Int) : caromref01_outOfRange n0 = some (GoOld.ref01_outOfRange n0) := by
  unfold caromref01_outOfRange GoOld.ref01_outOfRange
  try simp only [Let_nr, Bind_snr, Bind_if, gd1, gd2, gd3, gd4, gd5, gd6, w64, gt_iff_lt, ge_iff_le, Join_nr]
  first | done | rfl | ((try simp only [cond_or, cond_and]); first | done | rfl | grind | (((repeat' split) <;> simp_all); done))

theorem br_caromref01_Isqrt (n0 : Int) : caromref01_Isqrt n0 = GoOld.ref01_Isqrt n0 := by
  unfold caromref01_Isqrt GoOld.ref01_Isqrt
  generalize fuel = N
  try simp only [Let_nr, Bind_snr, Bind_if, gd1, gd2, gd3, gd4, gd5, gd6, w64, gt_iff_lt, ge_iff_le, Join_nr, GoOld.Vec.beq, br_caromref01_outOfRange, GoOld.ref01_Isqrt_j1, GoOld.ref01_Isqrt_j3]
  (repeat (first | refine LOOP_br2 (fun _ _ => rfl) ?_ _ _ _ | refine Chk_br ?_ | refine Bind_br (fun _ => ?_) | refine ite_br ?_ ?_ | rfl))
  all_goals first | rfl | (intro n r ih v0 v1; (first | rw [GoOld.ref01_Isqrt_l2]); (try simp only [ih, Let_nr, Bind_snr, Bind_if, gd1, gd2, gd3, gd4, gd5, gd6, w64, gt_iff_lt, ge_iff_le, Join_nr, GoOld.Vec.beq, br_caromref01_outOfRange, GoOld.ref01_Isqrt_j1, GoOld.ref01_Isqrt_j3]); first | done | rfl | ((repeat (first | refine LOOP_br2 (fun _ _ => rfl) ?_ _ _ _ | refine Chk_br ?_ | refine Bind_br (fun _ => ?_) | refine ite_br ?_ ?_ | rfl)); all_goals first | rfl))

theorem br_caromref03_Length (v0 : Vec) : caromref03_Length v0 = GoOld.ref03_Length v0 := by
  unfold caromref03_Length GoOld.ref03_Length
  try simp only [Let_nr, Bind_snr, Bind_if, gd1, gd2, gd3, gd4, gd5, gd6, w64, gt_iff_lt, ge_iff_le, Join_nr, br_caromref03_Saturated, br_caromref01_Isqrt]
  first | done | rfl | ((try simp only [cond_or, cond_and]); first | done | rfl | grind | (((repeat' split) <;> simp_all); done))

theorem br_caromref11_inRange (v0 : Vec) : caromref11_inRange v0 = some (GoOld.ref11_inRange v0) := by
  unfold caromref11_inRange GoOld.ref11_inRange
  try simp only [Let_nr, Bind_snr, Bind_if, gd1, gd2, gd3, gd4, gd5, gd6, w64, gt_iff_lt, ge_iff_le, Join_nr]
  first | done | rfl | ((try simp only [cond_or, cond_and]); first | done | rfl | grind | (((repeat' split) <;> simp_all); done))

theorem br_caromref03_Orientation (a0 : Vec) (b1 : Vec) (c2 : Vec) : caromref03_Orientation a0 b1 c2 = some (GoOld.ref03_Orientation a0 b1 c2) := by
  unfold caromref03_Orientation GoOld.ref03_Orientation
  try simp only [Let_nr, Bind_snr, Bind_if, gd1, gd2, gd3, gd4, gd5, gd6, w64, gt_iff_lt, ge_iff_le, Join_nr, br_caromref03_Saturated]
  first | done | rfl | ((try simp only [cond_or, cond_and]); first | done | rfl | grind | (((repeat' split) <;> simp_all); done))

theorem br_caromref11_IsConvex (vertices0 : (List Vec)) : caromref11_IsConvex vertices0 = GoOld.ref11_IsConvex vertices0 := by
  unfold caromref11_IsConvex GoOld.ref11_IsConvex
  simp only [Let_nr, Bind_snr, Bind_if, gd1, gd2, gd3, gd4, gd5, gd6, w64, gt_iff_lt, ge_iff_le, Join_nr, br_caromref11_inRange, br_caromref03_Orientation]
  refine ite_br rfl ?_
  refine LOOP_br1 (fun _ => rfl) ?_ _ _
  intro n r ih v
  rw [GoOld.ref11_IsConvex_l1]
  simp only [ih, Let_nr, Bind_snr, Bind_if, gd1, gd2, gd3, gd4, gd5, gd6, w64, gt_iff_lt, ge_iff_le, Join_nr, GoOld.ref11_IsConvex_j6]
  refine ite_br rfl ?_
  refine LOOP_br1 (fun _ => rfl) ?_ _ _
  intro n' r' ih' v'
  rw [GoOld.ref11_IsConvex_l4]
  simp only [ih', Let_nr, Bind_snr, Bind_if, gd1, gd2, gd3, gd4, gd5, gd6, w64, gt_iff_lt, ge_iff_le, Join_nr, GoOld.ref11_IsConvex_j5]
  refine ite_br ?_ rfl
  refine Chk_br ?_
  refine LOOP_br1 (fun _ => rfl) ?_ _ _
  intro n2 r2 ih2 v2
  rw [GoOld.ref11_IsConvex_l2]
  simp only [ih2, Let_nr, Bind_snr, Bind_if, gd1, gd2, gd3, gd4, gd5, gd6, w64, gt_iff_lt, ge_iff_le, Join_nr, GoOld.ref11_IsConvex_j3]

theorem br_caromref11_ShortestEdge (vertices0 : (List Vec)) : caromref11_ShortestEdge vertices0 = GoOld.ref11_ShortestEdge vertices0 := by
  unfold caromref11_ShortestEdge GoOld.ref11_ShortestEdge
  generalize fuel = N
  try simp only [Let_nr, Bind_snr, Bind_if, gd1, gd2, gd3, gd4, gd5, gd6, w64, gt_iff_lt, ge_iff_le, Join_nr, br_caromref03_Sub, br_caromref03_Length, br_caromref11_IsConvex, GoOld.ref11_ShortestEdge_j1, GoOld.ref11_ShortestEdge_j3]
  (repeat (first | refine LOOP_br2 (fun _ _ => rfl) ?_ _ _ _ | refine Chk_br ?_ | refine Bind_br (fun _ => ?_) | refine ite_br ?_ ?_ | rfl))
  all_goals first | rfl | (intro n r ih v0 v1; (first | rw [GoOld.ref11_ShortestEdge_l2]); (try simp only [ih, Let_nr, Bind_snr, Bind_if, gd1, gd2, gd3, gd4, gd5, gd6, w64, gt_iff_lt, ge_iff_le, Join_nr, br_caromref03_Sub, br_caromref03_Length, br_caromref11_IsConvex, GoOld.ref11_ShortestEdge_j1, GoOld.ref11_ShortestEdge_j3]); first | done | rfl | ((repeat (first | refine LOOP_br2 (fun _ _ => rfl) ?_ _ _ _ | refine Chk_br ?_ | refine Bind_br (fun _ => ?_) | refine ite_br ?_ ?_ | rfl)); all_goals first | rfl))

theorem br_caromref01_RoundDiv (n0 : Int) (d1 : Int) : caromref01_RoundDiv n0 d1 = GoOld.ref01_RoundDiv n0 d1 := by
  unfold caromref01_RoundDiv GoOld.ref01_RoundDiv
  try simp only [Let_nr, Bind_snr, Bind_if, gd1, gd2, gd3, gd4, gd5, gd6, w64, gt_iff_lt, ge_iff_le, Join_nr, GoOld.Vec.beq, br_caromref01_outOfRange, GoOld.ref01_RoundDiv_j1, GoOld.ref01_RoundDiv_j2]
  first | done | rfl | ((try simp only [cond_or, cond_and]); first | done | rfl | grind | (((repeat' split) <;> simp_all); done))

theorem br_caromref11_cross (v0 : (List Vec)) (i1 : Int) : caromref11_cross v0 i1 = GoOld.ref11_cross v0 i1 := by
  unfold caromref11_cross GoOld.ref11_cross
  try simp only [Let_nr, Bind_snr, Bind_if, gd1, gd2, gd3, gd4, gd5, gd6, w64, gt_iff_lt, ge_iff_le, Join_nr, br_caromref01_RoundDiv]
  first | done | rfl | ((try simp only [cond_or, cond_and]); first | done | rfl | grind | (((repeat' split) <;> simp_all); done))

theorem br_caromref11_Area (vertices0 : (List Vec)) : caromref11_Area vertices0 = GoOld.ref11_Area vertices0 := by
  unfold caromref11_Area GoOld.ref11_Area
  generalize fuel = N
  try simp only [Let_nr, Bind_snr, Bind_if, gd1, gd2, gd3, gd4, gd5, gd6, w64, gt_iff_lt, ge_iff_le, Join_nr, br_caromref11_IsConvex, br_caromref01_RoundDiv, br_caromref11_cross, GoOld.ref11_Area_j2]
  (repeat (first | refine LOOP_br2 (fun _ _ => rfl) ?_ _ _ _ | refine Chk_br ?_ | refine Bind_br (fun _ => ?_) | refine ite_br ?_ ?_ | rfl))
  all_goals first | rfl | (intro n r ih v0 v1; (first | rw [GoOld.ref11_Area_l1]); (try simp only [ih, Let_nr, Bind_snr, Bind_if, gd1, gd2, gd3, gd4, gd5, gd6, w64, gt_iff_lt, ge_iff_le, Join_nr, br_caromref11_IsConvex, br_caromref01_RoundDiv, br_caromref11_cross, GoOld.ref11_Area_j2]); first | done | rfl | ((repeat (first | refine LOOP_br2 (fun _ _ => rfl) ?_ _ _ _ | refine Chk_br ?_ | refine Bind_br (fun _ => ?_) | refine ite_br ?_ ?_ | rfl)); all_goals first | rfl))

theorem br_caromref12_Validate (s0 : Shape) : caromref12_Validate s0 = GoOld.ref12_Validate s0 := by
  have gs : ∀ (c : Prop) [Decidable c] (a d : Vec) (e : Option Int), (if c then GoOld.ref03_Length (if c then a else d) else e) = if c then GoOld.ref03_Length a else e := by intro c _ a d e; by_cases h : c <;> simp [h]
  unfold caromref12_Validate GoOld.ref12_Validate
  simp only [gs, Let_nr, Bind_snr, Bind_if, gd1, gd2, gd3, gd4, gd5, gd6, w64, gt_iff_lt, ge_iff_le, Join_nr, br_caromref12_countMatches, br_caromref12_within, br_caromref03_Sub, br_caromref03_Length, br_caromref11_IsConvex, br_caromref11_ShortestEdge, br_caromref11_Area, GoOld.ref12_Validate_j2]
  refine ite_br rfl ?_
  refine ite_br rfl ?_
  refine LOOP_br1 (fun _ => rfl) ?_ _ _
  intro n r ih v
  rw [GoOld.ref12_Validate_l1]
  simp only [ih, Let_nr, Bind_snr, Bind_if, gd1, gd2, gd3, gd4, gd5, gd6, w64, gt_iff_lt, ge_iff_le, Join_nr, GoOld.ref12_Validate_j2]

theorem br_caromref23_ValidateFixture (f0 : Fixture) : caromref23_ValidateFixture f0 = GoOld.ref23_ValidateFixture f0 := by
  unfold caromref23_ValidateFixture GoOld.ref23_ValidateFixture
  try simp only [Let_nr, Bind_snr, Bind_if, gd1, gd2, gd3, gd4, gd5, gd6, w64, gt_iff_lt, ge_iff_le, Join_nr, GoOld.Vec.beq, br_caromref23_in, br_caromref12_Validate]
  first | done | rfl | ((try simp only [cond_or, cond_and]); first | done | rfl | grind | (((repeat' split) <;> simp_all); done))

theorem br_caromref23_Validate (b0 : Body) : caromref23_Validate b0 = GoOld.ref23_Validate b0 := by
  unfold caromref23_Validate GoOld.ref23_Validate
  generalize fuel = N
  try simp only [Let_nr, Bind_snr, Bind_if, gd1, gd2, gd3, gd4, gd5, gd6, w64, gt_iff_lt, ge_iff_le, Join_nr, GoOld.Vec.beq, br_caromref23_inRange, br_caromref23_ValidateFixture, GoOld.ref23_Validate_j2]
  (repeat (first | refine LOOP_br1 (fun _ => rfl) ?_ _ _ | refine Chk_br ?_ | refine Bind_br (fun _ => ?_) | refine ite_br ?_ ?_ | rfl))
  all_goals first | rfl | (intro n r ih v0; (first | rw [GoOld.ref23_Validate_l1]); (try simp only [ih, Let_nr, Bind_snr, Bind_if, gd1, gd2, gd3, gd4, gd5, gd6, w64, gt_iff_lt, ge_iff_le, Join_nr, GoOld.Vec.beq, br_caromref23_inRange, br_caromref23_ValidateFixture, GoOld.ref23_Validate_j2]); first | done | rfl | ((repeat (first | refine LOOP_br1 (fun _ => rfl) ?_ _ _ | refine Chk_br ?_ | refine Bind_br (fun _ => ?_) | refine ite_br ?_ ?_ | rfl)); all_goals first | rfl))

theorem br_shape_Vertices (s0 : Shape) (p1 : Transform) : shape_Vertices s0 p1 = GoOld.shape_Vertices s0 p1 := by
  unfold shape_Vertices GoOld.shape_Vertices
  generalize fuel = N
  try simp only [Let_nr, Bind_snr, Bind_if, gd1, gd2, gd3, gd4, gd5, gd6, w64, gt_iff_lt, ge_iff_le, Join_nr, br_shape_Validate, br_transform_Apply, GoOld.shape_Vertices_j2]
  (repeat (first | refine LOOP_br2 (fun _ _ => rfl) ?_ _ _ _ | refine Chk_br ?_ | refine Bind_br (fun _ => ?_) | refine ite_br ?_ ?_ | rfl))
  all_goals first | rfl | (intro n r ih v0 v1; (first | rw [GoOld.shape_Vertices_l1]); (try simp only [ih, Let_nr, Bind_snr, Bind_if, gd1, gd2, gd3, gd4, gd5, gd6, w64, gt_iff_lt, ge_iff_le, Join_nr, br_shape_Validate, br_transform_Apply, GoOld.shape_Vertices_j2]); first | done | rfl | ((repeat (first | refine LOOP_br2 (fun _ _ => rfl) ?_ _ _ _ | refine Chk_br ?_ | refine Bind_br (fun _ => ?_) | refine ite_br ?_ ?_ | rfl)); all_goals first | rfl))

theorem br_aabb_saturate (v0 : Vec) : aabb_saturate v0 = some (GoOld.aabb_saturate v0) := by
  unfold aabb_saturate GoOld.aabb_saturate
  try simp only [Let_nr, Bind_snr, Bind_if, gd1, gd2, gd3, gd4, gd5, gd6, w64, gt_iff_lt, ge_iff_le, Join_nr, br_fixed_Saturate]
  first | done | rfl | ((try simp only [cond_or, cond_and]); first | done | rfl | grind | (((repeat' split) <;> simp_all); done))

theorem br_aabb_lower (a0 : Vec) (b1 : Vec) : aabb_lower a0 b1 = some (GoOld.aabb_lower a0 b1) := by
  unfold aabb_lower GoOld.aabb_lower
  try simp only [Let_nr, Bind_snr, Bind_if, gd1, gd2, gd3, gd4, gd5, gd6, w64, gt_iff_lt, ge_iff_le, Join_nr]
  first | done | rfl | ((try simp only [cond_or, cond_and]); first | done | rfl | grind | (((repeat' split) <;> simp_all); done))

theorem br_aabb_upper (a0 : Vec) (b1 : Vec) : aabb_upper a0 b1 = some (GoOld.aabb_upper a0 b1) := by
  unfold aabb_upper GoOld.aabb_upper
  try simp only [Let_nr, Bind_snr, Bind_if, gd1, gd2, gd3, gd4, gd5, gd6, w64, gt_iff_lt, ge_iff_le, Join_nr]
  first | done | rfl | ((try simp only [cond_or, cond_and]); first | done | rfl | grind | (((repeat' split) <;> simp_all); done))

theorem br_aabb_FromPoints (points0 : (List Vec)) : aabb_FromPoints points0 = GoOld.aabb_FromPoints points0 := by
  unfold aabb_FromPoints GoOld.aabb_FromPoints
  generalize fuel = N
  try simp only [Let_nr, Bind_snr, Bind_if, gd1, gd2, gd3, gd4, gd5, gd6, w64, gt_iff_lt, ge_iff_le, Join_nr, GoOld.Vec.beq, br_aabb_saturate, br_aabb_lower, br_aabb_upper, GoOld.aabb_FromPoints_j2]
  (repeat (first | refine LOOP_br2 (fun _ _ => rfl) ?_ _ _ _ | refine Chk_br ?_ | refine Bind_br (fun _ => ?_) | refine ite_br ?_ ?_ | rfl))
  all_goals first | rfl | (intro n r ih v0 v1; (first | rw [GoOld.aabb_FromPoints_l1]); (try simp only [ih, Let_nr, Bind_snr, Bind_if, gd1, gd2, gd3, gd4, gd5, gd6, w64, gt_iff_lt, ge_iff_le, Join_nr, GoOld.Vec.beq, br_aabb_saturate, br_aabb_lower, br_aabb_upper, GoOld.aabb_FromPoints_j2]); first | done | rfl | ((repeat (first | refine LOOP_br2 (fun _ _ => rfl) ?_ _ _ _ | refine Chk_br ?_ | refine Bind_br (fun _ => ?_) | refine ite_br ?_ ?_ | rfl)); all_goals first | rfl))

theorem br_shape_Bounds (s0 : Shape) (p1 : Transform) : shape_Bounds s0 p1 = GoOld.shape_Bounds s0 p1 := by
  unfold shape_Bounds GoOld.shape_Bounds
  try simp only [Let_nr, Bind_snr, Bind_if, gd1, gd2, gd3, gd4, gd5, gd6, w64, gt_iff_lt, ge_iff_le, Join_nr, br_vec2_Sub, br_vec2_Add, br_shape_Vertices, br_aabb_FromPoints]
  first | done | rfl | ((try simp only [cond_or, cond_and]); first | done | rfl | grind | (((repeat' split) <;> simp_all); done))

theorem br_aabb_saturated (v0 : Vec) : aabb_saturated v0 = some (GoOld.aabb_saturated v0) := by
  unfold aabb_saturated GoOld.aabb_saturated
  try simp only [Let_nr, Bind_snr, Bind_if, gd1, gd2, gd3, gd4, gd5, gd6, w64, gt_iff_lt, ge_iff_le, Join_nr, GoOld.Vec.beq, br_fixed_Saturate]
  first | done | rfl | ((try simp only [cond_or, cond_and]); first | done | rfl | grind | (((repeat' split) <;> simp_all); done))

theorem br_aabb_Valid (b0 : AABB) : aabb_Valid b0 = some (GoOld.aabb_Valid b0) := by
  unfold aabb_Valid GoOld.aabb_Valid
  try simp only [Let_nr, Bind_snr, Bind_if, gd1, gd2, gd3, gd4, gd5, gd6, w64, gt_iff_lt, ge_iff_le, Join_nr, GoOld.Vec.beq, br_aabb_saturated]
  first | done | rfl | ((try simp only [cond_or, cond_and]); first | done | rfl | grind | (((repeat' split) <;> simp_all); done))

theorem br_aabb_Union (a0 : AABB) (b1 : AABB) : aabb_Union a0 b1 = some (GoOld.aabb_Union a0 b1) := by
  unfold aabb_Union GoOld.aabb_Union
  simp only [Let_nr, Bind_snr, Bind_if, gd1, gd2, gd3, gd4, gd5, gd6, w64, gt_iff_lt, ge_iff_le, Join_nr, br_aabb_lower, br_aabb_upper, br_aabb_Valid]
  cases GoOld.aabb_Valid a0 <;> cases GoOld.aabb_Valid b1 <;> rfl

theorem br_body_Bounds (b0 : Body) : body_Bounds b0 = GoOld.body_Bounds b0 := by
  unfold body_Bounds GoOld.body_Bounds
  generalize fuel = N
  try simp only [Let_nr, Bind_snr, Bind_if, gd1, gd2, gd3, gd4, gd5, gd6, w64, gt_iff_lt, ge_iff_le, Join_nr, GoOld.Vec.beq, br_shape_Bounds, br_aabb_Union, GoOld.body_Bounds_j1, GoOld.body_Bounds_j3]
  (repeat (first | refine LOOP_br2 (fun _ _ => rfl) ?_ _ _ _ | refine Chk_br ?_ | refine Bind_br (fun _ => ?_) | refine ite_br ?_ ?_ | rfl))
  all_goals first | rfl | (intro n r ih v0 v1; (first | rw [GoOld.body_Bounds_l2]); (try simp only [ih, Let_nr, Bind_snr, Bind_if, gd1, gd2, gd3, gd4, gd5, gd6, w64, gt_iff_lt, ge_iff_le, Join_nr, GoOld.Vec.beq, br_shape_Bounds, br_aabb_Union, GoOld.body_Bounds_j1, GoOld.body_Bounds_j3]); first | done | rfl | ((repeat (first | refine LOOP_br2 (fun _ _ => rfl) ?_ _ _ _ | refine Chk_br ?_ | refine Bind_br (fun _ => ?_) | refine ite_br ?_ ?_ | rfl)); all_goals first | rfl))

end GoForm
