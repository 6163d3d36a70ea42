import Derived.Test.YtacajmmjdefplaaGreatF25D
import Derived.Test.YtacajmmjdefplaaGreatQE
import Derived.Test.YtacajmmjdefplaaGreatF25OL
set_option linter.all false
set_option maxRecDepth 100000
open Go Go.Rx
namespace GoForm
theorem Bind_br {α β:Type} {m:Option α} {k k':α→Option β} (h:∀ x,k x=k' x):Rx.Bind m k=Rx.Bind m k':=by rw [funext h]
theorem ite_br {α:Type} {c:Prop} [Decidable c] {a b a' b':α} (h1:a=a') (h2:b=b'):(if c then a else b)=(if c then a' else b'):=by rw [h1,h2]
theorem Chk_br {α:Type} {c:Prop} [Decidable c] {k k':Option α} (h:k=k'):Chk c k=Chk c k':=by rw [h]
theorem LOOP_br1 {A X:Type} {step:(A→Option X)→A→Option X} {g:Nat→A→Option X} (h0:∀ a,g 0 a=none) (hs:∀ n (r:A→Option X),(∀ a,r a=g n a)→∀ a,step r a=g (n+1) a):∀ n a,LOOP step n a=g n a
  | 0,a=>(h0 a).symm
  | n+1,a=>hs n _ (LOOP_br1 h0 hs n) a
theorem LOOP_br2 {A B X:Type} {step:(A × B→Option X)→A × B→Option X} {g:Nat→A→B→Option X} (h0:∀ a b,g 0 a b=none) (hs:∀ n (r:A × B→Option X),(∀ a b,r (a,b)=g n a b)→∀ a b,step r (a,b)=g (n+1) a b):∀ n a b,LOOP step n (a,b)=g n a b
  | 0,a,b=>(h0 a b).symm
  | n+1,a,b=>hs n _ (LOOP_br2 h0 hs n) a b
theorem LOOP_br3 {A B C X:Type} {step:(A × B × C→Option X)→A × B × C→Option X} {g:Nat→A→B→C→Option X} (h0:∀ a b c,g 0 a b c=none) (hs:∀ n (r:A × B × C→Option X),(∀ a b c,r (a,b,c)=g n a b c)→∀ a b c,step r (a,b,c)=g (n+1) a b c):∀ n a b c,LOOP step n (a,b,c)=g n a b c
  | 0,a,b,c=>(h0 a b c).symm
  | n+1,a,b,c=>hs n _ (LOOP_br3 h0 hs n) a b c
theorem br_body_within (x0:Int) (low1:Int) (high2:Int):body_within x0 low1 high2=some (GoOld.body_within x0 low1 high2):=by
  unfold body_within GoOld.body_within
  try simp only [Let_nr,Bind_snr,Bind_if,gd1,gd2,gd3,gd4,gd5,gd6,w64,gt_iff_lt,ge_iff_le,Join_nr]
  first | done | rfl | ((try simp only [cond_or,cond_and]);first | done | rfl | grind | (((repeat' split) <;> simp_all);done))
theorem br_body_bounded (v0:Vec) (limit1:Int):body_bounded v0 limit1=some (GoOld.body_bounded v0 limit1):=by
  unfold body_bounded GoOld.body_bounded
  try simp only [Let_nr,Bind_snr,Bind_if,gd1,gd2,gd3,gd4,gd5,gd6,w64,gt_iff_lt,ge_iff_le,Join_nr,GoOld.Vec.beq,GoOld.Transform.beq,br_body_within]
  first | done | rfl | ((try simp only [cond_or,cond_and]);first | done | rfl | grind | (((repeat' split) <;> simp_all);done))
theorem br_transform_inWorld (x0:Int):transform_inWorld x0=some (GoOld.transform_inWorld x0):=by
  unfold transform_inWorld GoOld.transform_inWorld
  try simp only [Let_nr,Bind_snr,Bind_if,gd1,gd2,gd3,gd4,gd5,gd6,w64,gt_iff_lt,ge_iff_le,Join_nr]
  first | done | rfl | ((try simp only [cond_or,cond_and]);first | done | rfl | grind | (((repeat' split) <;> simp_all);done))
theorem br_transform_Valid (t0:Transform):transform_Valid t0=some (GoOld.transform_Valid t0):=by
  unfold transform_Valid GoOld.transform_Valid
  try simp only [Let_nr,Bind_snr,Bind_if,gd1,gd2,gd3,gd4,gd5,gd6,w64,gt_iff_lt,ge_iff_le,Join_nr,GoOld.Vec.beq,GoOld.Transform.beq,br_transform_inWorld]
  first | done | rfl | ((try simp only [cond_or,cond_and]);first | done | rfl | grind | (((repeat' split) <;> simp_all);done))
theorem br_body_inRange (b0:Body):body_inRange b0=some (GoOld.body_inRange b0):=by
  unfold body_inRange GoOld.body_inRange
  try simp only [Let_nr,Bind_snr,Bind_if,gd1,gd2,gd3,gd4,gd5,gd6,w64,gt_iff_lt,ge_iff_le,Join_nr,GoOld.Vec.beq,GoOld.Transform.beq,br_body_within,br_body_bounded,br_transform_Valid]
  first | done | rfl | ((try simp only [cond_or,cond_and]);first | done | rfl | grind | (((repeat' split) <;> simp_all);done))
theorem br_shape_validCount (s0:Shape):shape_validCount s0=some (GoOld.shape_validCount s0):=by
  unfold shape_validCount GoOld.shape_validCount
  try simp only [Let_nr,Bind_snr,Bind_if,gd1,gd2,gd3,gd4,gd5,gd6,w64,gt_iff_lt,ge_iff_le,Join_nr,GoOld.Vec.beq,GoOld.Transform.beq]
  first | done | rfl | ((try simp only [cond_or,cond_and]);first | done | rfl | grind | (((repeat' split) <;> simp_all);done))
theorem br_slices_IndexFunc_175 (s0:(List Vec)) (f1:(Vec→Option Bool)):slices_IndexFunc_175 s0 f1=GoOld.slices_IndexFunc_Vec s0 f1:=by
  unfold slices_IndexFunc_175 GoOld.slices_IndexFunc_Vec
  generalize fuel=N
  try simp only [Let_nr,Bind_snr,Bind_if,gd1,gd2,gd3,gd4,gd5,gd6,w64,gt_iff_lt,ge_iff_le,Join_nr,GoOld.slices_IndexFunc_Vec_j2]
  (repeat (first | refine LOOP_br1 (fun _=>rfl) ?_ _ _ | refine Chk_br ?_ | refine Bind_br (fun _=>?_) | refine ite_br ?_ ?_ | rfl))
  all_goals first | rfl | (intro n r ih v0;(first | rw [GoOld.slices_IndexFunc_Vec_l1]);(try simp only [ih,Let_nr,Bind_snr,Bind_if,gd1,gd2,gd3,gd4,gd5,gd6,w64,gt_iff_lt,ge_iff_le,Join_nr,GoOld.slices_IndexFunc_Vec_j2]);first | done | rfl | ((repeat (first | refine LOOP_br1 (fun _=>rfl) ?_ _ _ | refine Chk_br ?_ | refine Bind_br (fun _=>?_) | refine ite_br ?_ ?_ | rfl));all_goals first | rfl))
theorem br_slices_ContainsFunc_153 (s0:(List Vec)) (f1:(Vec→Option Bool)):slices_ContainsFunc_153 s0 f1=GoOld.slices_ContainsFunc_Vec s0 f1:=by
  unfold slices_ContainsFunc_153 GoOld.slices_ContainsFunc_Vec
  try simp only [Let_nr,Bind_snr,Bind_if,gd1,gd2,gd3,gd4,gd5,gd6,w64,gt_iff_lt,ge_iff_le,Join_nr,br_slices_IndexFunc_175]
  first | done | rfl | ((try simp only [cond_or,cond_and]);first | done | rfl | grind | (((repeat' split) <;> simp_all);done))
theorem br_shape_outOfRange (n0:Int):shape_outOfRange n0=some (GoOld.shape_outOfRange n0):=by
  unfold shape_outOfRange GoOld.shape_outOfRange
  try simp only [Let_nr,Bind_snr,Bind_if,gd1,gd2,gd3,gd4,gd5,gd6,w64,gt_iff_lt,ge_iff_le,Join_nr]
  first | done | rfl | ((try simp only [cond_or,cond_and]);first | done | rfl | grind | (((repeat' split) <;> simp_all);done))
theorem br_shape_Validate_1 (v0:Vec):shape_Validate_1 v0=some (GoOld.shape_Validate_c1 v0):=by
  unfold shape_Validate_1 GoOld.shape_Validate_c1
  try simp only [Let_nr,Bind_snr,Bind_if,gd1,gd2,gd3,gd4,gd5,gd6,w64,gt_iff_lt,ge_iff_le,Join_nr,GoOld.Vec.beq,GoOld.Transform.beq,br_shape_outOfRange]
  first | done | rfl | ((try simp only [cond_or,cond_and]);first | done | rfl | grind | (((repeat' split) <;> simp_all);done))
theorem br_fixed_Saturate (x0:Int):fixed_Saturate x0=some (GoOld.fixed_Saturate x0):=by
  unfold fixed_Saturate GoOld.fixed_Saturate
  try simp only [Let_nr,Bind_snr,Bind_if,gd1,gd2,gd3,gd4,gd5,gd6,w64,gt_iff_lt,ge_iff_le,Join_nr]
  first | done | rfl | ((try simp only [cond_or,cond_and]);first | done | rfl | grind | (((repeat' split) <;> simp_all);done))
theorem br_fixed_Sub (a0:Int) (b1:Int):fixed_Sub a0 b1=some (GoOld.fixed_Sub a0 b1):=by
  unfold fixed_Sub GoOld.fixed_Sub
  try simp only [Let_nr,Bind_snr,Bind_if,gd1,gd2,gd3,gd4,gd5,gd6,w64,gt_iff_lt,ge_iff_le,Join_nr,br_fixed_Saturate]
  first | done | rfl | ((try simp only [cond_or,cond_and]);first | done | rfl | grind | (((repeat' split) <;> simp_all);done))
theorem br_vec2_Sub (a0:Vec) (b1:Vec):vec2_Sub a0 b1=some (GoOld.vec2_Sub a0 b1):=by
  unfold vec2_Sub GoOld.vec2_Sub
  try simp only [Let_nr,Bind_snr,Bind_if,gd1,gd2,gd3,gd4,gd5,gd6,w64,gt_iff_lt,ge_iff_le,Join_nr,br_fixed_Sub]
  first | done | rfl | ((try simp only [cond_or,cond_and]);first | done | rfl | grind | (((repeat' split) <;> simp_all);done))
theorem br_vec2_saturate (v0:Vec):vec2_saturate v0=some (GoOld.vec2_saturate v0):=by
  unfold vec2_saturate GoOld.vec2_saturate
  try simp only [Let_nr,Bind_snr,Bind_if,gd1,gd2,gd3,gd4,gd5,gd6,w64,gt_iff_lt,ge_iff_le,Join_nr,br_fixed_Saturate]
  first | done | rfl | ((try simp only [cond_or,cond_and]);first | done | rfl | grind | (((repeat' split) <;> simp_all);done))
theorem br_vec2_DistanceSquared (a0:Vec) (b1:Vec):vec2_DistanceSquared a0 b1=some (GoOld.vec2_DistanceSquared a0 b1):=by
  unfold vec2_DistanceSquared GoOld.vec2_DistanceSquared
  try simp only [Let_nr,Bind_snr,Bind_if,gd1,gd2,gd3,gd4,gd5,gd6,w64,gt_iff_lt,ge_iff_le,Join_nr,br_vec2_saturate]
  first | done | rfl | ((try simp only [cond_or,cond_and]);first | done | rfl | grind | (((repeat' split) <;> simp_all);done))
theorem br_fixed_Isqrt (n0:Int):fixed_Isqrt n0=GoOld.fixed_Isqrt n0:=by
  unfold fixed_Isqrt GoOld.fixed_Isqrt
  generalize fuel=N
  try simp only [Let_nr,Bind_snr,Bind_if,gd1,gd2,gd3,gd4,gd5,gd6,w64,gt_iff_lt,ge_iff_le,Join_nr,GoOld.fixed_Isqrt_j1,GoOld.fixed_Isqrt_j3]
  (repeat (first | refine LOOP_br2 (fun _ _=>rfl) ?_ _ _ _ | refine Chk_br ?_ | refine Bind_br (fun _=>?_) | refine ite_br ?_ ?_ | rfl))
  all_goals first | rfl | (intro n r ih v0 v1;(first | rw [GoOld.fixed_Isqrt_l2]);(try simp only [ih,Let_nr,Bind_snr,Bind_if,gd1,gd2,gd3,gd4,gd5,gd6,w64,gt_iff_lt,ge_iff_le,Join_nr,GoOld.fixed_Isqrt_j1,GoOld.fixed_Isqrt_j3]);first | done | rfl | ((repeat (first | refine LOOP_br2 (fun _ _=>rfl) ?_ _ _ _ | refine Chk_br ?_ | refine Bind_br (fun _=>?_) | refine ite_br ?_ ?_ | rfl));all_goals first | rfl))
theorem br_vec2_Length (v0:Vec):vec2_Length v0=GoOld.vec2_Length v0:=by
  unfold vec2_Length GoOld.vec2_Length
  try simp only [Let_nr,Bind_snr,Bind_if,gd1,gd2,gd3,gd4,gd5,gd6,w64,gt_iff_lt,ge_iff_le,Join_nr,br_vec2_DistanceSquared,br_fixed_Isqrt]
  first | done | rfl | ((try simp only [cond_or,cond_and]);first | done | rfl | grind | (((repeat' split) <;> simp_all);done))
theorem br_polygon_inReach (v0:Vec):polygon_inReach v0=some (GoOld.polygon_inReach v0):=by
  unfold polygon_inReach GoOld.polygon_inReach
  try simp only [Let_nr,Bind_snr,Bind_if,gd1,gd2,gd3,gd4,gd5,gd6,w64,gt_iff_lt,ge_iff_le,Join_nr]
  first | done | rfl | ((try simp only [cond_or,cond_and]);first | done | rfl | grind | (((repeat' split) <;> simp_all);done))
theorem br_polygon_allInReach (points0:(List Vec)):polygon_allInReach points0=GoOld.polygon_allInReach points0:=by
  unfold polygon_allInReach GoOld.polygon_allInReach
  generalize fuel=N
  try simp only [Let_nr,Bind_snr,Bind_if,gd1,gd2,gd3,gd4,gd5,gd6,w64,gt_iff_lt,ge_iff_le,Join_nr,br_polygon_inReach,GoOld.polygon_allInReach_j2]
  (repeat (first | refine LOOP_br1 (fun _=>rfl) ?_ _ _ | refine Chk_br ?_ | refine Bind_br (fun _=>?_) | refine ite_br ?_ ?_ | rfl))
  all_goals first | rfl | (intro n r ih v0;(first | rw [GoOld.polygon_allInReach_l1]);(try simp only [ih,Let_nr,Bind_snr,Bind_if,gd1,gd2,gd3,gd4,gd5,gd6,w64,gt_iff_lt,ge_iff_le,Join_nr,br_polygon_inReach,GoOld.polygon_allInReach_j2]);first | done | rfl | ((repeat (first | refine LOOP_br1 (fun _=>rfl) ?_ _ _ | refine Chk_br ?_ | refine Bind_br (fun _=>?_) | refine ite_br ?_ ?_ | rfl));all_goals first | rfl))
theorem br_vec2_Orientation (a0:Vec) (b1:Vec) (c2:Vec):vec2_Orientation a0 b1 c2=some (GoOld.vec2_Orientation a0 b1 c2):=by
  unfold vec2_Orientation GoOld.vec2_Orientation
  try simp only [Let_nr,Bind_snr,Bind_if,gd1,gd2,gd3,gd4,gd5,gd6,w64,gt_iff_lt,ge_iff_le,Join_nr,br_vec2_saturate]
  first | done | rfl | ((try simp only [cond_or,cond_and]);first | done | rfl | grind | (((repeat' split) <;> simp_all);done))
theorem br_polygon_IsConvex (vertices0:(List Vec)):polygon_IsConvex vertices0=GoOld.polygon_IsConvex vertices0:=by
  unfold polygon_IsConvex GoOld.polygon_IsConvex
  simp only [Let_nr,Bind_snr,Bind_if,gd1,gd2,gd3,gd4,gd5,gd6,w64,gt_iff_lt,ge_iff_le,Join_nr,br_polygon_allInReach,br_vec2_Orientation]
  refine Bind_br (fun q=>?_)
  refine ite_br rfl ?_
  refine LOOP_br1 (fun _=>rfl) ?_ _ _
  intro n r ih v
  rw [GoOld.polygon_IsConvex_l3]
  simp only [ih,Let_nr,Bind_snr,Bind_if,gd1,gd2,gd3,gd4,gd5,gd6,w64,gt_iff_lt,ge_iff_le,Join_nr,GoOld.polygon_IsConvex_j4]
  refine ite_br ?_ rfl
  refine Chk_br ?_
  refine Chk_br ?_
  refine LOOP_br1 (fun _=>rfl) ?_ _ _
  intro n' r' ih' v'
  rw [GoOld.polygon_IsConvex_l1]
  simp only [ih',Let_nr,Bind_snr,Bind_if,gd1,gd2,gd3,gd4,gd5,gd6,w64,gt_iff_lt,ge_iff_le,Join_nr,GoOld.polygon_IsConvex_j2]
theorem br_polygon_ShortestEdge (vertices0:(List Vec)):polygon_ShortestEdge vertices0=GoOld.polygon_ShortestEdge vertices0:=by
  unfold polygon_ShortestEdge GoOld.polygon_ShortestEdge
  generalize fuel=N
  try simp only [Let_nr,Bind_snr,Bind_if,gd1,gd2,gd3,gd4,gd5,gd6,w64,gt_iff_lt,ge_iff_le,Join_nr,br_vec2_Sub,br_vec2_Length,br_polygon_IsConvex,GoOld.polygon_ShortestEdge_j2]
  (repeat (first | refine LOOP_br2 (fun _ _=>rfl) ?_ _ _ _ | refine Chk_br ?_ | refine Bind_br (fun _=>?_) | refine ite_br ?_ ?_ | rfl))
  all_goals first | rfl | (intro n r ih v0 v1;(first | rw [GoOld.polygon_ShortestEdge_l1]);(try simp only [ih,Let_nr,Bind_snr,Bind_if,gd1,gd2,gd3,gd4,gd5,gd6,w64,gt_iff_lt,ge_iff_le,Join_nr,br_vec2_Sub,br_vec2_Length,br_polygon_IsConvex,GoOld.polygon_ShortestEdge_j2]);first | done | rfl | ((repeat (first | refine LOOP_br2 (fun _ _=>rfl) ?_ _ _ _ | refine Chk_br ?_ | refine Bind_br (fun _=>?_) | refine ite_br ?_ ?_ | rfl));all_goals first | rfl))
theorem br_fixed_RoundDiv (n0:Int) (d1:Int):fixed_RoundDiv n0 d1=GoOld.fixed_RoundDiv n0 d1:=by
  unfold fixed_RoundDiv GoOld.fixed_RoundDiv
  try simp only [Let_nr,Bind_snr,Bind_if,gd1,gd2,gd3,gd4,gd5,gd6,w64,gt_iff_lt,ge_iff_le,Join_nr]
  first | done | rfl | ((try simp only [cond_or,cond_and]);first | done | rfl | grind | (((repeat' split) <;> simp_all);done))
theorem br_polygon_fan (vertices0:(List Vec)):polygon_fan vertices0=GoOld.polygon_fan vertices0:=by
  unfold polygon_fan GoOld.polygon_fan
  generalize fuel=N
  try simp only [Let_nr,Bind_snr,Bind_if,gd1,gd2,gd3,gd4,gd5,gd6,w64,gt_iff_lt,ge_iff_le,Join_nr,br_fixed_RoundDiv,GoOld.polygon_fan_j2]
  (repeat (first | refine LOOP_br3 (fun _ _ _=>rfl) ?_ _ _ _ _ | refine Chk_br ?_ | refine Bind_br (fun _=>?_) | refine ite_br ?_ ?_ | rfl))
  all_goals first | rfl | (intro n r ih v0 v1 v2;(first | rw [GoOld.polygon_fan_l1]);(try simp only [ih,Let_nr,Bind_snr,Bind_if,gd1,gd2,gd3,gd4,gd5,gd6,w64,gt_iff_lt,ge_iff_le,Join_nr,br_fixed_RoundDiv,GoOld.polygon_fan_j2]);first | done | rfl | ((repeat (first | refine LOOP_br3 (fun _ _ _=>rfl) ?_ _ _ _ _ | refine Chk_br ?_ | refine Bind_br (fun _=>?_) | refine ite_br ?_ ?_ | rfl));all_goals first | rfl))
theorem br_polygon_Area (vertices0:(List Vec)):polygon_Area vertices0=GoOld.polygon_Area vertices0:=by
  unfold polygon_Area GoOld.polygon_Area
  try simp only [Let_nr,Bind_snr,Bind_if,gd1,gd2,gd3,gd4,gd5,gd6,w64,gt_iff_lt,ge_iff_le,Join_nr,br_polygon_IsConvex,br_fixed_RoundDiv,br_polygon_fan]
  first | done | rfl | ((try simp only [cond_or,cond_and]);first | done | rfl | grind | (((repeat' split) <;> simp_all);done))
theorem br_shape_Validate (s0:Shape):shape_Validate s0=GoOld.shape_Validate s0:=by
  unfold shape_Validate GoOld.shape_Validate
  have hc:slices_ContainsFunc_153 s0.Vertices (fun (a:Tup tb [Ix.tVec])=>shape_Validate_1 a)=GoOld.slices_ContainsFunc_Vec s0.Vertices (fun y0=>some (GoOld.shape_Validate_c1 y0)):=(br_slices_ContainsFunc_153 s0.Vertices (fun a=>shape_Validate_1 a)).trans (congrArg (GoOld.slices_ContainsFunc_Vec s0.Vertices) (funext br_shape_Validate_1))
  have gs:∀ (c:Prop) [Decidable c] (a d:Vec) (e:Option Int),(if c then GoOld.vec2_Length (if c then a else d) else e)=if c then GoOld.vec2_Length a else e:=by intro c _ a d e;by_cases h:c <;> simp [h]
  simp only [hc,gs,Let_nr,Bind_snr,Bind_if,gd1,gd2,gd3,gd4,gd5,gd6,w64,gt_iff_lt,ge_iff_le,Join_nr,br_shape_validCount,br_vec2_Sub,br_vec2_Length,br_polygon_IsConvex,br_polygon_ShortestEdge,br_polygon_Area,GoOld.shape_Validate_j1]
theorem br_body_ValidateFixture (f0:Fixture):body_ValidateFixture f0=GoOld.body_ValidateFixture f0:=by
  unfold body_ValidateFixture GoOld.body_ValidateFixture
  try simp only [Let_nr,Bind_snr,Bind_if,gd1,gd2,gd3,gd4,gd5,gd6,w64,gt_iff_lt,ge_iff_le,Join_nr,GoOld.Vec.beq,GoOld.Transform.beq,br_body_within,br_shape_Validate]
  first | done | rfl | ((try simp only [cond_or,cond_and]);first | done | rfl | grind | (((repeat' split) <;> simp_all);done))
theorem br_body_moving (b0:Body):body_moving b0=some (GoOld.body_moving b0):=by
  unfold body_moving GoOld.body_moving
  try simp only [Let_nr,Bind_snr,Bind_if,gd1,gd2,gd3,gd4,gd5,gd6,w64,gt_iff_lt,ge_iff_le,Join_nr]
  first | done | rfl | ((try simp only [cond_or,cond_and]);first | done | rfl | grind | (((repeat' split) <;> simp_all);done))
theorem br_body_consistent (b0:Body):body_consistent b0=some (GoOld.body_consistent b0):=by
  unfold body_consistent GoOld.body_consistent
  try simp only [Let_nr,Bind_snr,Bind_if,gd1,gd2,gd3,gd4,gd5,gd6,w64,gt_iff_lt,ge_iff_le,Join_nr,GoOld.Vec.beq,GoOld.Transform.beq,br_body_moving]
  first | done | rfl | ((try simp only [cond_or,cond_and]);first | done | rfl | grind | (((repeat' split) <;> simp_all);done))
theorem br_body_Validate (b0:Body):body_Validate b0=GoOld.body_Validate b0:=by
  unfold body_Validate GoOld.body_Validate
  generalize fuel=N
  try simp only [Let_nr,Bind_snr,Bind_if,gd1,gd2,gd3,gd4,gd5,gd6,w64,gt_iff_lt,ge_iff_le,Join_nr,br_body_inRange,br_body_ValidateFixture,br_body_consistent,GoOld.body_Validate_j2]
  (repeat (first | refine LOOP_br1 (fun _=>rfl) ?_ _ _ | refine Chk_br ?_ | refine Bind_br (fun _=>?_) | refine ite_br ?_ ?_ | rfl))
  all_goals first | rfl | (intro n r ih v0;(first | rw [GoOld.body_Validate_l1]);(try simp only [ih,Let_nr,Bind_snr,Bind_if,gd1,gd2,gd3,gd4,gd5,gd6,w64,gt_iff_lt,ge_iff_le,Join_nr,br_body_inRange,br_body_ValidateFixture,br_body_consistent,GoOld.body_Validate_j2]);first | done | rfl | ((repeat (first | refine LOOP_br1 (fun _=>rfl) ?_ _ _ | refine Chk_br ?_ | refine Bind_br (fun _=>?_) | refine ite_br ?_ ?_ | rfl));all_goals first | rfl))
theorem br_caromref23_in (x0:Int) (low1:Int) (high2:Int):caromref23_in x0 low1 high2=some (GoOld.ref23_in x0 low1 high2):=by
  unfold caromref23_in GoOld.ref23_in
  try simp only [Let_nr,Bind_snr,Bind_if,gd1,gd2,gd3,gd4,gd5,gd6,w64,gt_iff_lt,ge_iff_le,Join_nr]
  first | done | rfl | ((try simp only [cond_or,cond_and]);first | done | rfl | grind | (((repeat' split) <;> simp_all);done))
theorem br_caromref04_outside (x0:Int):caromref04_outside x0=some (GoOld.ref04_outside x0):=by
  unfold caromref04_outside GoOld.ref04_outside
  try simp only [Let_nr,Bind_snr,Bind_if,gd1,gd2,gd3,gd4,gd5,gd6,w64,gt_iff_lt,ge_iff_le,Join_nr]
  first | done | rfl | ((try simp only [cond_or,cond_and]);first | done | rfl | grind | (((repeat' split) <;> simp_all);done))
theorem br_caromref04_Valid (p0:Transform):caromref04_Valid p0=some (GoOld.ref04_Valid p0):=by
  unfold caromref04_Valid GoOld.ref04_Valid
  try simp only [Let_nr,Bind_snr,Bind_if,gd1,gd2,gd3,gd4,gd5,gd6,w64,gt_iff_lt,ge_iff_le,Join_nr,GoOld.Vec.beq,GoOld.Transform.beq,br_caromref04_outside]
  first | done | rfl | ((try simp only [cond_or,cond_and]);first | done | rfl | grind | (((repeat' split) <;> simp_all);done))
theorem br_caromref23_inRange (b0:Body):caromref23_inRange b0=some (GoOld.ref23_inRange b0):=by
  unfold caromref23_inRange GoOld.ref23_inRange
  try simp only [Let_nr,Bind_snr,Bind_if,gd1,gd2,gd3,gd4,gd5,gd6,w64,gt_iff_lt,ge_iff_le,Join_nr,GoOld.Vec.beq,GoOld.Transform.beq,br_caromref23_in,br_caromref04_Valid]
  first | done | rfl | ((try simp only [cond_or,cond_and]);first | done | rfl | grind | (((repeat' split) <;> simp_all);done))
theorem br_caromref12_countMatches (s0:Shape):caromref12_countMatches s0=some (GoOld.ref12_countMatches s0):=by
  unfold caromref12_countMatches GoOld.ref12_countMatches
  try simp only [Let_nr,Bind_snr,Bind_if,gd1,gd2,gd3,gd4,gd5,gd6,w64,gt_iff_lt,ge_iff_le,Join_nr,GoOld.Vec.beq,GoOld.Transform.beq]
  first | done | rfl | ((try simp only [cond_or,cond_and]);first | done | rfl | grind | (((repeat' split) <;> simp_all);done))
theorem br_caromref12_within (x0:Int) (m1:Int):caromref12_within x0 m1=some (GoOld.ref12_within x0 m1):=by
  unfold caromref12_within GoOld.ref12_within
  try simp only [Let_nr,Bind_snr,Bind_if,gd1,gd2,gd3,gd4,gd5,gd6,w64,gt_iff_lt,ge_iff_le,Join_nr]
  first | done | rfl | ((try simp only [cond_or,cond_and]);first | done | rfl | grind | (((repeat' split) <;> simp_all);done))
theorem br_caromref01_Saturate (x0:Int):caromref01_Saturate x0=some (GoOld.ref01_Saturate x0):=by
  unfold caromref01_Saturate GoOld.ref01_Saturate
  try simp only [Let_nr,Bind_snr,Bind_if,gd1,gd2,gd3,gd4,gd5,gd6,w64,gt_iff_lt,ge_iff_le,Join_nr]
  first | done | rfl | ((try simp only [cond_or,cond_and]);first | done | rfl | grind | (((repeat' split) <;> simp_all);done))
theorem br_caromref01_Sub (a0:Int) (b1:Int):caromref01_Sub a0 b1=some (GoOld.ref01_Sub a0 b1):=by
  unfold caromref01_Sub GoOld.ref01_Sub
  try simp only [Let_nr,Bind_snr,Bind_if,gd1,gd2,gd3,gd4,gd5,gd6,w64,gt_iff_lt,ge_iff_le,Join_nr,br_caromref01_Saturate]
  first | done | rfl | ((try simp only [cond_or,cond_and]);first | done | rfl | grind | (((repeat' split) <;> simp_all);done))
theorem br_caromref03_Sub (a0:Vec) (b1:Vec):caromref03_Sub a0 b1=some (GoOld.ref03_Sub a0 b1):=by
  unfold caromref03_Sub GoOld.ref03_Sub
  try simp only [Let_nr,Bind_snr,Bind_if,gd1,gd2,gd3,gd4,gd5,gd6,w64,gt_iff_lt,ge_iff_le,Join_nr,br_caromref01_Sub]
  first | done | rfl | ((try simp only [cond_or,cond_and]);first | done | rfl | grind | (((repeat' split) <;> simp_all);done))
theorem br_caromref03_Saturated (v0:Vec):caromref03_Saturated v0=some (GoOld.ref03_Saturated v0):=by
  unfold caromref03_Saturated GoOld.ref03_Saturated
  try simp only [Let_nr,Bind_snr,Bind_if,gd1,gd2,gd3,gd4,gd5,gd6,w64,gt_iff_lt,ge_iff_le,Join_nr,br_caromref01_Saturate]
  first | done | rfl | ((try simp only [cond_or,cond_and]);first | done | rfl | grind | (((repeat' split) <;> simp_all);done))
theorem br_caromref01_outOfRange (n0:Int):caromref01_outOfRange n0=some (GoOld.ref01_outOfRange n0):=by
  unfold caromref01_outOfRange GoOld.ref01_outOfRange
  try simp only [Let_nr,Bind_snr,Bind_if,gd1,gd2,gd3,gd4,gd5,gd6,w64,gt_iff_lt,ge_iff_le,Join_nr]
  first | done | rfl | ((try simp only [cond_or,cond_and]);first | done | rfl | grind | (((repeat' split) <;> simp_all);done))
theorem br_caromref01_Isqrt (n0:Int):caromref01_Isqrt n0=GoOld.ref01_Isqrt n0:=by
  unfold caromref01_Isqrt GoOld.ref01_Isqrt
  generalize fuel=N
  try simp only [Let_nr,Bind_snr,Bind_if,gd1,gd2,gd3,gd4,gd5,gd6,w64,gt_iff_lt,ge_iff_le,Join_nr,GoOld.Vec.beq,GoOld.Transform.beq,br_caromref01_outOfRange,GoOld.ref01_Isqrt_j1,GoOld.ref01_Isqrt_j3]
  (repeat (first | refine LOOP_br2 (fun _ _=>rfl) ?_ _ _ _ | refine Chk_br ?_ | refine Bind_br (fun _=>?_) | refine ite_br ?_ ?_ | rfl))
  all_goals first | rfl | (intro n r ih v0 v1;(first | rw [GoOld.ref01_Isqrt_l2]);(try simp only [ih,Let_nr,Bind_snr,Bind_if,gd1,gd2,gd3,gd4,gd5,gd6,w64,gt_iff_lt,ge_iff_le,Join_nr,GoOld.Vec.beq,GoOld.Transform.beq,br_caromref01_outOfRange,GoOld.ref01_Isqrt_j1,GoOld.ref01_Isqrt_j3]);first | done | rfl | ((repeat (first | refine LOOP_br2 (fun _ _=>rfl) ?_ _ _ _ | refine Chk_br ?_ | refine Bind_br (fun _=>?_) | refine ite_br ?_ ?_ | rfl));all_goals first | rfl))
theorem br_caromref03_Length (v0:Vec):caromref03_Length v0=GoOld.ref03_Length v0:=by
  unfold caromref03_Length GoOld.ref03_Length
  try simp only [Let_nr,Bind_snr,Bind_if,gd1,gd2,gd3,gd4,gd5,gd6,w64,gt_iff_lt,ge_iff_le,Join_nr,br_caromref03_Saturated,br_caromref01_Isqrt]
  first | done | rfl | ((try simp only [cond_or,cond_and]);first | done | rfl | grind | (((repeat' split) <;> simp_all);done))
theorem br_caromref11_inRange (v0:Vec):caromref11_inRange v0=some (GoOld.ref11_inRange v0):=by
  unfold caromref11_inRange GoOld.ref11_inRange
  try simp only [Let_nr,Bind_snr,Bind_if,gd1,gd2,gd3,gd4,gd5,gd6,w64,gt_iff_lt,ge_iff_le,Join_nr]
  first | done | rfl | ((try simp only [cond_or,cond_and]);first | done | rfl | grind | (((repeat' split) <;> simp_all);done))
theorem br_caromref03_Orientation (a0:Vec) (b1:Vec) (c2:Vec):caromref03_Orientation a0 b1 c2=some (GoOld.ref03_Orientation a0 b1 c2):=by
  unfold caromref03_Orientation GoOld.ref03_Orientation
  try simp only [Let_nr,Bind_snr,Bind_if,gd1,gd2,gd3,gd4,gd5,gd6,w64,gt_iff_lt,ge_iff_le,Join_nr,br_caromref03_Saturated]
  first | done | rfl | ((try simp only [cond_or,cond_and]);first | done | rfl | grind | (((repeat' split) <;> simp_all);done))
theorem br_caromref11_IsConvex (vertices0:(List Vec)):caromref11_IsConvex vertices0=GoOld.ref11_IsConvex vertices0:=by
  unfold caromref11_IsConvex GoOld.ref11_IsConvex
  simp only [Let_nr,Bind_snr,Bind_if,gd1,gd2,gd3,gd4,gd5,gd6,w64,gt_iff_lt,ge_iff_le,Join_nr,br_caromref11_inRange,br_caromref03_Orientation]
  refine ite_br rfl ?_
  refine LOOP_br1 (fun _=>rfl) ?_ _ _
  intro n r ih v
  rw [GoOld.ref11_IsConvex_l1]
  simp only [ih,Let_nr,Bind_snr,Bind_if,gd1,gd2,gd3,gd4,gd5,gd6,w64,gt_iff_lt,ge_iff_le,Join_nr,GoOld.ref11_IsConvex_j6]
  refine ite_br rfl ?_
  refine LOOP_br1 (fun _=>rfl) ?_ _ _
  intro n' r' ih' v'
  rw [GoOld.ref11_IsConvex_l4]
  simp only [ih',Let_nr,Bind_snr,Bind_if,gd1,gd2,gd3,gd4,gd5,gd6,w64,gt_iff_lt,ge_iff_le,Join_nr,GoOld.ref11_IsConvex_j5]
  refine ite_br ?_ rfl
  refine Chk_br ?_
  refine LOOP_br1 (fun _=>rfl) ?_ _ _
  intro n2 r2 ih2 v2
  rw [GoOld.ref11_IsConvex_l2]
  simp only [ih2,Let_nr,Bind_snr,Bind_if,gd1,gd2,gd3,gd4,gd5,gd6,w64,gt_iff_lt,ge_iff_le,Join_nr,GoOld.ref11_IsConvex_j3]
theorem br_caromref11_ShortestEdge (vertices0:(List Vec)):caromref11_ShortestEdge vertices0=GoOld.ref11_ShortestEdge vertices0:=by
  unfold caromref11_ShortestEdge GoOld.ref11_ShortestEdge
  generalize fuel=N
  try simp only [Let_nr,Bind_snr,Bind_if,gd1,gd2,gd3,gd4,gd5,gd6,w64,gt_iff_lt,ge_iff_le,Join_nr,br_caromref03_Sub,br_caromref03_Length,br_caromref11_IsConvex,GoOld.ref11_ShortestEdge_j1,GoOld.ref11_ShortestEdge_j3]
  (repeat (first | refine LOOP_br2 (fun _ _=>rfl) ?_ _ _ _ | refine Chk_br ?_ | refine Bind_br (fun _=>?_) | refine ite_br ?_ ?_ | rfl))
  all_goals first | rfl | (intro n r ih v0 v1;(first | rw [GoOld.ref11_ShortestEdge_l2]);(try simp only [ih,Let_nr,Bind_snr,Bind_if,gd1,gd2,gd3,gd4,gd5,gd6,w64,gt_iff_lt,ge_iff_le,Join_nr,br_caromref03_Sub,br_caromref03_Length,br_caromref11_IsConvex,GoOld.ref11_ShortestEdge_j1,GoOld.ref11_ShortestEdge_j3]);first | done | rfl | ((repeat (first | refine LOOP_br2 (fun _ _=>rfl) ?_ _ _ _ | refine Chk_br ?_ | refine Bind_br (fun _=>?_) | refine ite_br ?_ ?_ | rfl));all_goals first | rfl))
theorem br_caromref01_RoundDiv (n0:Int) (d1:Int):caromref01_RoundDiv n0 d1=GoOld.ref01_RoundDiv n0 d1:=by
  unfold caromref01_RoundDiv GoOld.ref01_RoundDiv
  try simp only [Let_nr,Bind_snr,Bind_if,gd1,gd2,gd3,gd4,gd5,gd6,w64,gt_iff_lt,ge_iff_le,Join_nr,GoOld.Vec.beq,GoOld.Transform.beq,br_caromref01_outOfRange,GoOld.ref01_RoundDiv_j1,GoOld.ref01_RoundDiv_j2]
  first | done | rfl | ((try simp only [cond_or,cond_and]);first | done | rfl | grind | (((repeat' split) <;> simp_all);done))
theorem br_caromref11_cross (v0:(List Vec)) (i1:Int):caromref11_cross v0 i1=GoOld.ref11_cross v0 i1:=by
  unfold caromref11_cross GoOld.ref11_cross
  try simp only [Let_nr,Bind_snr,Bind_if,gd1,gd2,gd3,gd4,gd5,gd6,w64,gt_iff_lt,ge_iff_le,Join_nr,br_caromref01_RoundDiv]
  first | done | rfl | ((try simp only [cond_or,cond_and]);first | done | rfl | grind | (((repeat' split) <;> simp_all);done))
theorem br_caromref11_Area (vertices0:(List Vec)):caromref11_Area vertices0=GoOld.ref11_Area vertices0:=by
  unfold caromref11_Area GoOld.ref11_Area
  generalize fuel=N
  try simp only [Let_nr,Bind_snr,Bind_if,gd1,gd2,gd3,gd4,gd5,gd6,w64,gt_iff_lt,ge_iff_le,Join_nr,br_caromref11_IsConvex,br_caromref01_RoundDiv,br_caromref11_cross,GoOld.ref11_Area_j2]
  (repeat (first | refine LOOP_br2 (fun _ _=>rfl) ?_ _ _ _ | refine Chk_br ?_ | refine Bind_br (fun _=>?_) | refine ite_br ?_ ?_ | rfl))
  all_goals first | rfl | (intro n r ih v0 v1;(first | rw [GoOld.ref11_Area_l1]);(try simp only [ih,Let_nr,Bind_snr,Bind_if,gd1,gd2,gd3,gd4,gd5,gd6,w64,gt_iff_lt,ge_iff_le,Join_nr,br_caromref11_IsConvex,br_caromref01_RoundDiv,br_caromref11_cross,GoOld.ref11_Area_j2]);first | done | rfl | ((repeat (first | refine LOOP_br2 (fun _ _=>rfl) ?_ _ _ _ | refine Chk_br ?_ | refine Bind_br (fun _=>?_) | refine ite_br ?_ ?_ | rfl));all_goals first | rfl))
theorem br_caromref12_Validate (s0:Shape):caromref12_Validate s0=GoOld.ref12_Validate s0:=by
  have gs:∀ (c:Prop) [Decidable c] (a d:Vec) (e:Option Int),(if c then GoOld.ref03_Length (if c then a else d) else e)=if c then GoOld.ref03_Length a else e:=by intro c _ a d e;by_cases h:c <;> simp [h]
  unfold caromref12_Validate GoOld.ref12_Validate
  simp only [gs,Let_nr,Bind_snr,Bind_if,gd1,gd2,gd3,gd4,gd5,gd6,w64,gt_iff_lt,ge_iff_le,Join_nr,br_caromref12_countMatches,br_caromref12_within,br_caromref03_Sub,br_caromref03_Length,br_caromref11_IsConvex,br_caromref11_ShortestEdge,br_caromref11_Area,GoOld.ref12_Validate_j2]
  refine ite_br rfl ?_
  refine ite_br rfl ?_
  refine LOOP_br1 (fun _=>rfl) ?_ _ _
  intro n r ih v
  rw [GoOld.ref12_Validate_l1]
  simp only [ih,Let_nr,Bind_snr,Bind_if,gd1,gd2,gd3,gd4,gd5,gd6,w64,gt_iff_lt,ge_iff_le,Join_nr,GoOld.ref12_Validate_j2]
theorem br_caromref23_ValidateFixture (f0:Fixture):caromref23_ValidateFixture f0=GoOld.ref23_ValidateFixture f0:=by
  unfold caromref23_ValidateFixture GoOld.ref23_ValidateFixture
  try simp only [Let_nr,Bind_snr,Bind_if,gd1,gd2,gd3,gd4,gd5,gd6,w64,gt_iff_lt,ge_iff_le,Join_nr,GoOld.Vec.beq,GoOld.Transform.beq,br_caromref23_in,br_caromref12_Validate]
  first | done | rfl | ((try simp only [cond_or,cond_and]);first | done | rfl | grind | (((repeat' split) <;> simp_all);done))
theorem br_caromref23_Validate (b0:Body):caromref23_Validate b0=GoOld.ref23_Validate b0:=by
  unfold caromref23_Validate GoOld.ref23_Validate
  generalize fuel=N
  try simp only [Let_nr,Bind_snr,Bind_if,gd1,gd2,gd3,gd4,gd5,gd6,w64,gt_iff_lt,ge_iff_le,Join_nr,GoOld.Vec.beq,GoOld.Transform.beq,br_caromref23_inRange,br_caromref23_ValidateFixture,GoOld.ref23_Validate_j2]
  (repeat (first | refine LOOP_br1 (fun _=>rfl) ?_ _ _ | refine Chk_br ?_ | refine Bind_br (fun _=>?_) | refine ite_br ?_ ?_ | rfl))
  all_goals first | rfl | (intro n r ih v0;(first | rw [GoOld.ref23_Validate_l1]);(try simp only [ih,Let_nr,Bind_snr,Bind_if,gd1,gd2,gd3,gd4,gd5,gd6,w64,gt_iff_lt,ge_iff_le,Join_nr,GoOld.Vec.beq,GoOld.Transform.beq,br_caromref23_inRange,br_caromref23_ValidateFixture,GoOld.ref23_Validate_j2]);first | done | rfl | ((repeat (first | refine LOOP_br1 (fun _=>rfl) ?_ _ _ | refine Chk_br ?_ | refine Bind_br (fun _=>?_) | refine ite_br ?_ ?_ | rfl));all_goals first | rfl))
theorem br_caromref12_EqualVecs (a0:(List Vec)) (b1:(List Vec)):caromref12_EqualVecs a0 b1=GoOld.ref12_EqualVecs a0 b1:=by
  unfold caromref12_EqualVecs GoOld.ref12_EqualVecs
  generalize fuel=N
  try simp only [Let_nr,Bind_snr,Bind_if,gd1,gd2,gd3,gd4,gd5,gd6,w64,gt_iff_lt,ge_iff_le,Join_nr,GoOld.ref12_EqualVecs_j2]
  (repeat (first | refine LOOP_br1 (fun _=>rfl) ?_ _ _ | refine Chk_br ?_ | refine Bind_br (fun _=>?_) | refine ite_br ?_ ?_ | rfl))
  all_goals first | rfl | (intro n r ih v0;(first | rw [GoOld.ref12_EqualVecs_l1]);(try simp only [ih,Let_nr,Bind_snr,Bind_if,gd1,gd2,gd3,gd4,gd5,gd6,w64,gt_iff_lt,ge_iff_le,Join_nr,GoOld.ref12_EqualVecs_j2]);first | done | rfl | ((repeat (first | refine LOOP_br1 (fun _=>rfl) ?_ _ _ | refine Chk_br ?_ | refine Bind_br (fun _=>?_) | refine ite_br ?_ ?_ | rfl));all_goals first | rfl))
theorem br_caromref12_Equal (a0:Shape) (b1:Shape):caromref12_Equal a0 b1=GoOld.ref12_Equal a0 b1:=by
  unfold caromref12_Equal GoOld.ref12_Equal
  try simp only [Let_nr,Bind_snr,Bind_if,gd1,gd2,gd3,gd4,gd5,gd6,w64,gt_iff_lt,ge_iff_le,Join_nr,GoOld.Vec.beq,GoOld.Transform.beq,br_caromref12_EqualVecs]
  first | done | rfl | ((try simp only [cond_or,cond_and]);first | done | rfl | grind | (((repeat' split) <;> simp_all);done))
theorem br_caromref23_EqualFixture (a0:Fixture) (b1:Fixture):caromref23_EqualFixture a0 b1=GoOld.ref23_EqualFixture a0 b1:=by
  unfold caromref23_EqualFixture GoOld.ref23_EqualFixture
  try simp only [Let_nr,Bind_snr,Bind_if,gd1,gd2,gd3,gd4,gd5,gd6,w64,gt_iff_lt,ge_iff_le,Join_nr,GoOld.Vec.beq,GoOld.Transform.beq,br_caromref12_Equal]
  first | done | rfl | ((try simp only [cond_or,cond_and]);first | done | rfl | grind | (((repeat' split) <;> simp_all);done))
theorem br_caromref23_Equal (a0:Body) (b1:Body):caromref23_Equal a0 b1=GoOld.ref23_Equal a0 b1:=by
  unfold caromref23_Equal GoOld.ref23_Equal
  generalize fuel=N
  try simp only [Let_nr,Bind_snr,Bind_if,gd1,gd2,gd3,gd4,gd5,gd6,w64,gt_iff_lt,ge_iff_le,Join_nr,GoOld.Vec.beq,GoOld.Transform.beq,br_caromref23_EqualFixture,GoOld.ref23_Equal_j2]
  (repeat (first | refine LOOP_br1 (fun _=>rfl) ?_ _ _ | refine Chk_br ?_ | refine Bind_br (fun _=>?_) | refine ite_br ?_ ?_ | rfl))
  all_goals first | rfl | (intro n r ih v0;(first | rw [GoOld.ref23_Equal_l1]);(try simp only [ih,Let_nr,Bind_snr,Bind_if,gd1,gd2,gd3,gd4,gd5,gd6,w64,gt_iff_lt,ge_iff_le,Join_nr,GoOld.Vec.beq,GoOld.Transform.beq,br_caromref23_EqualFixture,GoOld.ref23_Equal_j2]);first | done | rfl | ((repeat (first | refine LOOP_br1 (fun _=>rfl) ?_ _ _ | refine Chk_br ?_ | refine Bind_br (fun _=>?_) | refine ite_br ?_ ?_ | rfl));all_goals first | rfl))
theorem br_slices_Equal_171 (s10:(List Vec)) (s21:(List Vec)):slices_Equal_171 s10 s21=GoOld.slices_Equal_Vec s10 s21:=by
  unfold slices_Equal_171 GoOld.slices_Equal_Vec
  generalize fuel=N
  try simp only [Let_nr,Bind_snr,Bind_if,gd1,gd2,gd3,gd4,gd5,gd6,w64,gt_iff_lt,ge_iff_le,Join_nr,GoOld.slices_Equal_Vec_j2]
  (repeat (first | refine LOOP_br1 (fun _=>rfl) ?_ _ _ | refine Chk_br ?_ | refine Bind_br (fun _=>?_) | refine ite_br ?_ ?_ | rfl))
  all_goals first | rfl | (intro n r ih v0;(first | rw [GoOld.slices_Equal_Vec_l1]);(try simp only [ih,Let_nr,Bind_snr,Bind_if,gd1,gd2,gd3,gd4,gd5,gd6,w64,gt_iff_lt,ge_iff_le,Join_nr,GoOld.slices_Equal_Vec_j2]);first | done | rfl | ((repeat (first | refine LOOP_br1 (fun _=>rfl) ?_ _ _ | refine Chk_br ?_ | refine Bind_br (fun _=>?_) | refine ite_br ?_ ?_ | rfl));all_goals first | rfl))
theorem br_shape_Equal (a0:Shape) (b1:Shape):shape_Equal a0 b1=GoOld.shape_Equal a0 b1:=by
  unfold shape_Equal GoOld.shape_Equal
  try simp only [Let_nr,Bind_snr,Bind_if,gd1,gd2,gd3,gd4,gd5,gd6,w64,gt_iff_lt,ge_iff_le,Join_nr,GoOld.Vec.beq,GoOld.Transform.beq,br_slices_Equal_171]
  first | done | rfl | ((try simp only [cond_or,cond_and]);first | done | rfl | grind | (((repeat' split) <;> simp_all);done))
theorem br_body_equalFixtures (a0:Fixture) (b1:Fixture):body_equalFixtures a0 b1=GoOld.body_equalFixtures a0 b1:=by
  unfold body_equalFixtures GoOld.body_equalFixtures
  try simp only [Let_nr,Bind_snr,Bind_if,gd1,gd2,gd3,gd4,gd5,gd6,w64,gt_iff_lt,ge_iff_le,Join_nr,GoOld.Vec.beq,GoOld.Transform.beq,br_shape_Equal]
  first | done | rfl | ((try simp only [cond_or,cond_and]);first | done | rfl | grind | (((repeat' split) <;> simp_all);done))
theorem br_body_Equal (a0:Body) (b1:Body):body_Equal a0 b1=GoOld.body_Equal a0 b1:=by
  unfold body_Equal GoOld.body_Equal
  generalize fuel=N
  try simp only [Let_nr,Bind_snr,Bind_if,gd1,gd2,gd3,gd4,gd5,gd6,w64,gt_iff_lt,ge_iff_le,Join_nr,GoOld.Vec.beq,GoOld.Transform.beq,br_body_equalFixtures,GoOld.body_Equal_j2]
  (repeat (first | refine LOOP_br1 (fun _=>rfl) ?_ _ _ | refine Chk_br ?_ | refine Bind_br (fun _=>?_) | refine ite_br ?_ ?_ | rfl))
  all_goals first | rfl | (intro n r ih v0;(first | rw [GoOld.body_Equal_l1]);(try simp only [ih,Let_nr,Bind_snr,Bind_if,gd1,gd2,gd3,gd4,gd5,gd6,w64,gt_iff_lt,ge_iff_le,Join_nr,GoOld.Vec.beq,GoOld.Transform.beq,br_body_equalFixtures,GoOld.body_Equal_j2]);first | done | rfl | ((repeat (first | refine LOOP_br1 (fun _=>rfl) ?_ _ _ | refine Chk_br ?_ | refine Bind_br (fun _=>?_) | refine ite_br ?_ ?_ | rfl));all_goals first | rfl))
end GoForm
