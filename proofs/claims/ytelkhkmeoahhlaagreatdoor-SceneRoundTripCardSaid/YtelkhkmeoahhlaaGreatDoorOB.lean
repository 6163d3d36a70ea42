/- Several texts in one. No conditions. -/
import Derived.Test.YtelkhkmeoahhlaaGreatDoorF52D
import Derived.Test.YtelkhkmeoahhlaaGreatDoorQE
import Derived.Test.YtelkhkmeoahhlaaGreatDoorOA
section
set_option linter.all false
set_option maxRecDepth 100000
open Go Go.Rx
namespace GoForm
theorem Bind_br {α β:Type} {m:Option α} {k k':α->Option β} (h:∀ x,k x=k' x):Rx.Bind m k=Rx.Bind m k':=by rw [funext h]
theorem ite_br {α:Type} {c:Prop} [Decidable c] {a b a' b':α} (h1:a=a') (h2:b=b'):(if c then a else b)=(if c then a' else b'):=by rw [h1,h2]
theorem Chk_br {α:Type} {c:Prop} [Decidable c] {k k':Option α} (h:k=k'):Chk c k=Chk c k':=by rw [h]
theorem LOOP_br1 {A X:Type} {step:(A->Option X)->A->Option X} {g:Nat->A->Option X} (h0:∀ a,g 0 a=none) (hs:∀ n (r:A->Option X),(∀ a,r a=g n a)->∀ a,step r a=g (n+1) a):∀ n a,LOOP step n a=g n a
 | 0,a=>(h0 a).symm
 | n+1,a=>hs n _ (LOOP_br1 h0 hs n) a
theorem LOOP_br2 {A B X:Type} {step:(A × B->Option X)->A × B->Option X} {g:Nat->A->B->Option X} (h0:∀ a b,g 0 a b=none) (hs:∀ n (r:A × B->Option X),(∀ a b,r (a,b)=g n a b)->∀ a b,step r (a,b)=g (n+1) a b):∀ n a b,LOOP step n (a,b)=g n a b
 | 0,a,b=>(h0 a b).symm
 | n+1,a,b=>hs n _ (LOOP_br2 h0 hs n) a b
theorem LOOP_br3 {A B C X:Type} {step:(A × B × C->Option X)->A × B × C->Option X} {g:Nat->A->B->C->Option X} (h0:∀ a b c,g 0 a b c=none) (hs:∀ n (r:A × B × C->Option X),(∀ a b c,r (a,b,c)=g n a b c)->∀ a b c,step r (a,b,c)=g (n+1) a b c):∀ n a b c,LOOP step n (a,b,c)=g n a b c
 | 0,a,b,c=>(h0 a b c).symm
 | n+1,a,b,c=>hs n _ (LOOP_br3 h0 hs n) a b c
theorem br_body_within (x0:Int) (low1:Int) (high2:Int):body_within x0 low1 high2=some (GoOld.body_within x0 low1 high2):=by
 unfold body_within GoOld.body_within
 try simp only [Let_nr,Bind_snr,Bind_if,gd1,gd2,gd3,gd4,gd5,gd6,w64,gt_iff_lt,ge_iff_le,Join_nr]
 first | done | rfl | ((try simp only [cond_or,cond_and]);first | done | rfl | grind | (((repeat' split) <;> simp_all);done))
theorem br_body_bounded (v0:Vec) (limit1:Int):body_bounded v0 limit1=some (GoOld.body_bounded v0 limit1):=by
 unfold body_bounded GoOld.body_bounded
 try simp only [Let_nr,Bind_snr,Bind_if,gd1,gd2,gd3,gd4,gd5,gd6,w64,gt_iff_lt,ge_iff_le,Join_nr,GoOld.Vec.beq,GoOld.Transform.beq,br_body_within]
 first | done | rfl | ((try simp only [cond_or,cond_and]);first | done | rfl | grind | (((repeat' split) <;> simp_all);done))
theorem br_transform_inWorld (x0:Int):transform_inWorld x0=some (GoOld.transform_inWorld x0):=by
 unfold transform_inWorld GoOld.transform_inWorld
 try simp only [Let_nr,Bind_snr,Bind_if,gd1,gd2,gd3,gd4,gd5,gd6,w64,gt_iff_lt,ge_iff_le,Join_nr]
 first | done | rfl | ((try simp only [cond_or,cond_and]);first | done | rfl | grind | (((repeat' split) <;> simp_all);done))
theorem br_transform_Valid (t0:Transform):transform_Valid t0=some (GoOld.transform_Valid t0):=by
 unfold transform_Valid GoOld.transform_Valid
 try simp only [Let_nr,Bind_snr,Bind_if,gd1,gd2,gd3,gd4,gd5,gd6,w64,gt_iff_lt,ge_iff_le,Join_nr,GoOld.Vec.beq,GoOld.Transform.beq,br_transform_inWorld]
 first | done | rfl | ((try simp only [cond_or,cond_and]);first | done | rfl | grind | (((repeat' split) <;> simp_all);done))
theorem br_body_inRange (b0:Body):body_inRange b0=some (GoOld.body_inRange b0):=by
 unfold body_inRange GoOld.body_inRange
 try simp only [Let_nr,Bind_snr,Bind_if,gd1,gd2,gd3,gd4,gd5,gd6,w64,gt_iff_lt,ge_iff_le,Join_nr,GoOld.Vec.beq,GoOld.Transform.beq,br_body_within,br_body_bounded,br_transform_Valid]
 first | done | rfl | ((try simp only [cond_or,cond_and]);first | done | rfl | grind | (((repeat' split) <;> simp_all);done))
theorem br_shape_validCount (s0:Shape):shape_validCount s0=some (GoOld.shape_validCount s0):=by
 unfold shape_validCount GoOld.shape_validCount
 try simp only [Let_nr,Bind_snr,Bind_if,gd1,gd2,gd3,gd4,gd5,gd6,w64,gt_iff_lt,ge_iff_le,Join_nr,GoOld.Vec.beq,GoOld.Transform.beq]
 first | done | rfl | ((try simp only [cond_or,cond_and]);first | done | rfl | grind | (((repeat' split) <;> simp_all);done))
theorem br_slices_IndexFunc_200 (s0:(List Vec)) (f1:(Vec->Option Bool)):slices_IndexFunc_200 s0 f1=GoOld.slices_IndexFunc_Vec s0 f1:=by
 unfold slices_IndexFunc_200 GoOld.slices_IndexFunc_Vec
 generalize fuel=N
 try simp only [Let_nr,Bind_snr,Bind_if,gd1,gd2,gd3,gd4,gd5,gd6,w64,gt_iff_lt,ge_iff_le,Join_nr,GoOld.slices_IndexFunc_Vec_j2]
 (repeat (first | refine LOOP_br1 (fun _=>rfl) ?_ _ _ | refine Chk_br ?_ | refine Bind_br (fun _=>?_) | refine ite_br ?_ ?_ | rfl))
 all_goals first | rfl | (intro n r ih v0;(first | rw [GoOld.slices_IndexFunc_Vec_l1]);(try simp only [ih,Let_nr,Bind_snr,Bind_if,gd1,gd2,gd3,gd4,gd5,gd6,w64,gt_iff_lt,ge_iff_le,Join_nr,GoOld.slices_IndexFunc_Vec_j2]);first | done | rfl | ((repeat (first | refine LOOP_br1 (fun _=>rfl) ?_ _ _ | refine Chk_br ?_ | refine Bind_br (fun _=>?_) | refine ite_br ?_ ?_ | rfl));all_goals first | rfl))
theorem br_slices_ContainsFunc_174 (s0:(List Vec)) (f1:(Vec->Option Bool)):slices_ContainsFunc_174 s0 f1=GoOld.slices_ContainsFunc_Vec s0 f1:=by
 unfold slices_ContainsFunc_174 GoOld.slices_ContainsFunc_Vec
 try simp only [Let_nr,Bind_snr,Bind_if,gd1,gd2,gd3,gd4,gd5,gd6,w64,gt_iff_lt,ge_iff_le,Join_nr,br_slices_IndexFunc_200]
 first | done | rfl | ((try simp only [cond_or,cond_and]);first | done | rfl | grind | (((repeat' split) <;> simp_all);done))
theorem br_shape_outOfRange (n0:Int):shape_outOfRange n0=some (GoOld.shape_outOfRange n0):=by
 unfold shape_outOfRange GoOld.shape_outOfRange
 try simp only [Let_nr,Bind_snr,Bind_if,gd1,gd2,gd3,gd4,gd5,gd6,w64,gt_iff_lt,ge_iff_le,Join_nr]
 first | done | rfl | ((try simp only [cond_or,cond_and]);first | done | rfl | grind | (((repeat' split) <;> simp_all);done))
theorem br_shape_Validate_1 (v0:Vec):shape_Validate_1 v0=some (GoOld.shape_Validate_c1 v0):=by
 unfold shape_Validate_1 GoOld.shape_Validate_c1
 try simp only [Let_nr,Bind_snr,Bind_if,gd1,gd2,gd3,gd4,gd5,gd6,w64,gt_iff_lt,ge_iff_le,Join_nr,GoOld.Vec.beq,GoOld.Transform.beq,br_shape_outOfRange]
 first | done | rfl | ((try simp only [cond_or,cond_and]);first | done | rfl | grind | (((repeat' split) <;> simp_all);done))
theorem br_fixed_Saturate (x0:Int):fixed_Saturate x0=some (GoOld.fixed_Saturate x0):=by
 unfold fixed_Saturate GoOld.fixed_Saturate
 try simp only [Let_nr,Bind_snr,Bind_if,gd1,gd2,gd3,gd4,gd5,gd6,w64,gt_iff_lt,ge_iff_le,Join_nr]
 first | done | rfl | ((try simp only [cond_or,cond_and]);first | done | rfl | grind | (((repeat' split) <;> simp_all);done))
theorem br_fixed_Sub (a0:Int) (b1:Int):fixed_Sub a0 b1=some (GoOld.fixed_Sub a0 b1):=by
 unfold fixed_Sub GoOld.fixed_Sub
 try simp only [Let_nr,Bind_snr,Bind_if,gd1,gd2,gd3,gd4,gd5,gd6,w64,gt_iff_lt,ge_iff_le,Join_nr,br_fixed_Saturate]
 first | done | rfl | ((try simp only [cond_or,cond_and]);first | done | rfl | grind | (((repeat' split) <;> simp_all);done))
theorem br_vec2_Sub (a0:Vec) (b1:Vec):vec2_Sub a0 b1=some (GoOld.vec2_Sub a0 b1):=by
 unfold vec2_Sub GoOld.vec2_Sub
 try simp only [Let_nr,Bind_snr,Bind_if,gd1,gd2,gd3,gd4,gd5,gd6,w64,gt_iff_lt,ge_iff_le,Join_nr,br_fixed_Sub]
 first | done | rfl | ((try simp only [cond_or,cond_and]);first | done | rfl | grind | (((repeat' split) <;> simp_all);done))
theorem br_vec2_saturate (v0:Vec):vec2_saturate v0=some (GoOld.vec2_saturate v0):=by
 unfold vec2_saturate GoOld.vec2_saturate
 try simp only [Let_nr,Bind_snr,Bind_if,gd1,gd2,gd3,gd4,gd5,gd6,w64,gt_iff_lt,ge_iff_le,Join_nr,br_fixed_Saturate]
 first | done | rfl | ((try simp only [cond_or,cond_and]);first | done | rfl | grind | (((repeat' split) <;> simp_all);done))
theorem br_vec2_DistanceSquared (a0:Vec) (b1:Vec):vec2_DistanceSquared a0 b1=some (GoOld.vec2_DistanceSquared a0 b1):=by
 unfold vec2_DistanceSquared GoOld.vec2_DistanceSquared
 try simp only [Let_nr,Bind_snr,Bind_if,gd1,gd2,gd3,gd4,gd5,gd6,w64,gt_iff_lt,ge_iff_le,Join_nr,br_vec2_saturate]
 first | done | rfl | ((try simp only [cond_or,cond_and]);first | done | rfl | grind | (((repeat' split) <;> simp_all);done))
theorem br_fixed_Isqrt (n0:Int):fixed_Isqrt n0=GoOld.fixed_Isqrt n0:=by
 unfold fixed_Isqrt GoOld.fixed_Isqrt
 generalize fuel=N
 try simp only [Let_nr,Bind_snr,Bind_if,gd1,gd2,gd3,gd4,gd5,gd6,w64,gt_iff_lt,ge_iff_le,Join_nr,GoOld.fixed_Isqrt_j1,GoOld.fixed_Isqrt_j3]
 (repeat (first | refine LOOP_br2 (fun _ _=>rfl) ?_ _ _ _ | refine Chk_br ?_ | refine Bind_br (fun _=>?_) | refine ite_br ?_ ?_ | rfl))
 all_goals first | rfl | (intro n r ih v0 v1;(first | rw [GoOld.fixed_Isqrt_l2]);(try simp only [ih,Let_nr,Bind_snr,Bind_if,gd1,gd2,gd3,gd4,gd5,gd6,w64,gt_iff_lt,ge_iff_le,Join_nr,GoOld.fixed_Isqrt_j1,GoOld.fixed_Isqrt_j3]);first | done | rfl | ((repeat (first | refine LOOP_br2 (fun _ _=>rfl) ?_ _ _ _ | refine Chk_br ?_ | refine Bind_br (fun _=>?_) | refine ite_br ?_ ?_ | rfl));all_goals first | rfl))
theorem br_vec2_Length (v0:Vec):vec2_Length v0=GoOld.vec2_Length v0:=by
 unfold vec2_Length GoOld.vec2_Length
 try simp only [Let_nr,Bind_snr,Bind_if,gd1,gd2,gd3,gd4,gd5,gd6,w64,gt_iff_lt,ge_iff_le,Join_nr,br_vec2_DistanceSquared,br_fixed_Isqrt]
 first | done | rfl | ((try simp only [cond_or,cond_and]);first | done | rfl | grind | (((repeat' split) <;> simp_all);done))
theorem br_polygon_inReach (v0:Vec):polygon_inReach v0=some (GoOld.polygon_inReach v0):=by
 unfold polygon_inReach GoOld.polygon_inReach
 try simp only [Let_nr,Bind_snr,Bind_if,gd1,gd2,gd3,gd4,gd5,gd6,w64,gt_iff_lt,ge_iff_le,Join_nr]
 first | done | rfl | ((try simp only [cond_or,cond_and]);first | done | rfl | grind | (((repeat' split) <;> simp_all);done))
theorem br_polygon_allInReach (points0:(List Vec)):polygon_allInReach points0=GoOld.polygon_allInReach points0:=by
 unfold polygon_allInReach GoOld.polygon_allInReach
 generalize fuel=N
 try simp only [Let_nr,Bind_snr,Bind_if,gd1,gd2,gd3,gd4,gd5,gd6,w64,gt_iff_lt,ge_iff_le,Join_nr,br_polygon_inReach,GoOld.polygon_allInReach_j2]
 (repeat (first | refine LOOP_br1 (fun _=>rfl) ?_ _ _ | refine Chk_br ?_ | refine Bind_br (fun _=>?_) | refine ite_br ?_ ?_ | rfl))
 all_goals first | rfl | (intro n r ih v0;(first | rw [GoOld.polygon_allInReach_l1]);(try simp only [ih,Let_nr,Bind_snr,Bind_if,gd1,gd2,gd3,gd4,gd5,gd6,w64,gt_iff_lt,ge_iff_le,Join_nr,br_polygon_inReach,GoOld.polygon_allInReach_j2]);first | done | rfl | ((repeat (first | refine LOOP_br1 (fun _=>rfl) ?_ _ _ | refine Chk_br ?_ | refine Bind_br (fun _=>?_) | refine ite_br ?_ ?_ | rfl));all_goals first | rfl))
theorem br_vec2_Orientation (a0:Vec) (b1:Vec) (c2:Vec):vec2_Orientation a0 b1 c2=some (GoOld.vec2_Orientation a0 b1 c2):=by
 unfold vec2_Orientation GoOld.vec2_Orientation
 try simp only [Let_nr,Bind_snr,Bind_if,gd1,gd2,gd3,gd4,gd5,gd6,w64,gt_iff_lt,ge_iff_le,Join_nr,br_vec2_saturate]
 first | done | rfl | ((try simp only [cond_or,cond_and]);first | done | rfl | grind | (((repeat' split) <;> simp_all);done))
theorem br_polygon_IsConvex (vertices0:(List Vec)):polygon_IsConvex vertices0=GoOld.polygon_IsConvex vertices0:=by
 unfold polygon_IsConvex GoOld.polygon_IsConvex
 simp only [Let_nr,Bind_snr,Bind_if,gd1,gd2,gd3,gd4,gd5,gd6,w64,gt_iff_lt,ge_iff_le,Join_nr,br_polygon_allInReach,br_vec2_Orientation]
 refine Bind_br (fun q=>?_)
 refine ite_br rfl ?_
 refine LOOP_br1 (fun _=>rfl) ?_ _ _
 intro n r ih v
 rw [GoOld.polygon_IsConvex_l3]
 simp only [ih,Let_nr,Bind_snr,Bind_if,gd1,gd2,gd3,gd4,gd5,gd6,w64,gt_iff_lt,ge_iff_le,Join_nr,GoOld.polygon_IsConvex_j4]
 refine ite_br ?_ rfl
 refine Chk_br ?_
 refine Chk_br ?_
 refine LOOP_br1 (fun _=>rfl) ?_ _ _
 intro n' r' ih' v'
 rw [GoOld.polygon_IsConvex_l1]
 simp only [ih',Let_nr,Bind_snr,Bind_if,gd1,gd2,gd3,gd4,gd5,gd6,w64,gt_iff_lt,ge_iff_le,Join_nr,GoOld.polygon_IsConvex_j2]
theorem br_polygon_ShortestEdge (vertices0:(List Vec)):polygon_ShortestEdge vertices0=GoOld.polygon_ShortestEdge vertices0:=by
 unfold polygon_ShortestEdge GoOld.polygon_ShortestEdge
 generalize fuel=N
 try simp only [Let_nr,Bind_snr,Bind_if,gd1,gd2,gd3,gd4,gd5,gd6,w64,gt_iff_lt,ge_iff_le,Join_nr,br_vec2_Sub,br_vec2_Length,br_polygon_IsConvex,GoOld.polygon_ShortestEdge_j2]
 (repeat (first | refine LOOP_br2 (fun _ _=>rfl) ?_ _ _ _ | refine Chk_br ?_ | refine Bind_br (fun _=>?_) | refine ite_br ?_ ?_ | rfl))
 all_goals first | rfl | (intro n r ih v0 v1;(first | rw [GoOld.polygon_ShortestEdge_l1]);(try simp only [ih,Let_nr,Bind_snr,Bind_if,gd1,gd2,gd3,gd4,gd5,gd6,w64,gt_iff_lt,ge_iff_le,Join_nr,br_vec2_Sub,br_vec2_Length,br_polygon_IsConvex,GoOld.polygon_ShortestEdge_j2]);first | done | rfl | ((repeat (first | refine LOOP_br2 (fun _ _=>rfl) ?_ _ _ _ | refine Chk_br ?_ | refine Bind_br (fun _=>?_) | refine ite_br ?_ ?_ | rfl));all_goals first | rfl))
theorem br_fixed_RoundDiv (n0:Int) (d1:Int):fixed_RoundDiv n0 d1=GoOld.fixed_RoundDiv n0 d1:=by
 unfold fixed_RoundDiv GoOld.fixed_RoundDiv
 try simp only [Let_nr,Bind_snr,Bind_if,gd1,gd2,gd3,gd4,gd5,gd6,w64,gt_iff_lt,ge_iff_le,Join_nr]
 first | done | rfl | ((try simp only [cond_or,cond_and]);first | done | rfl | grind | (((repeat' split) <;> simp_all);done))
theorem br_polygon_fan (vertices0:(List Vec)):polygon_fan vertices0=GoOld.polygon_fan vertices0:=by
 unfold polygon_fan GoOld.polygon_fan
 generalize fuel=N
 try simp only [Let_nr,Bind_snr,Bind_if,gd1,gd2,gd3,gd4,gd5,gd6,w64,gt_iff_lt,ge_iff_le,Join_nr,br_fixed_RoundDiv,GoOld.polygon_fan_j2]
 (repeat (first | refine LOOP_br3 (fun _ _ _=>rfl) ?_ _ _ _ _ | refine Chk_br ?_ | refine Bind_br (fun _=>?_) | refine ite_br ?_ ?_ | rfl))
 all_goals first | rfl | (intro n r ih v0 v1 v2;(first | rw [GoOld.polygon_fan_l1]);(try simp only [ih,Let_nr,Bind_snr,Bind_if,gd1,gd2,gd3,gd4,gd5,gd6,w64,gt_iff_lt,ge_iff_le,Join_nr,br_fixed_RoundDiv,GoOld.polygon_fan_j2]);first | done | rfl | ((repeat (first | refine LOOP_br3 (fun _ _ _=>rfl) ?_ _ _ _ _ | refine Chk_br ?_ | refine Bind_br (fun _=>?_) | refine ite_br ?_ ?_ | rfl));all_goals first | rfl))
theorem br_polygon_Area (vertices0:(List Vec)):polygon_Area vertices0=GoOld.polygon_Area vertices0:=by
 unfold polygon_Area GoOld.polygon_Area
 try simp only [Let_nr,Bind_snr,Bind_if,gd1,gd2,gd3,gd4,gd5,gd6,w64,gt_iff_lt,ge_iff_le,Join_nr,br_polygon_IsConvex,br_fixed_RoundDiv,br_polygon_fan]
 first | done | rfl | ((try simp only [cond_or,cond_and]);first | done | rfl | grind | (((repeat' split) <;> simp_all);done))
theorem br_shape_Validate (s0:Shape):shape_Validate s0=GoOld.shape_Validate s0:=by
 unfold shape_Validate GoOld.shape_Validate
 have hc:slices_ContainsFunc_174 s0.Vertices (fun (a:Tup tb [Ix.tVec])=>shape_Validate_1 a)=GoOld.slices_ContainsFunc_Vec s0.Vertices (fun y0=>some (GoOld.shape_Validate_c1 y0)):=(br_slices_ContainsFunc_174 s0.Vertices (fun a=>shape_Validate_1 a)).trans (congrArg (GoOld.slices_ContainsFunc_Vec s0.Vertices) (funext br_shape_Validate_1))
 have gs:∀ (c:Prop) [Decidable c] (a d:Vec) (e:Option Int),(if c then GoOld.vec2_Length (if c then a else d) else e)=if c then GoOld.vec2_Length a else e:=by intro c _ a d e;by_cases h:c <;> simp [h]
 simp only [hc,gs,Let_nr,Bind_snr,Bind_if,gd1,gd2,gd3,gd4,gd5,gd6,w64,gt_iff_lt,ge_iff_le,Join_nr,br_shape_validCount,br_vec2_Sub,br_vec2_Length,br_polygon_IsConvex,br_polygon_ShortestEdge,br_polygon_Area,GoOld.shape_Validate_j1]
theorem br_body_ValidateFixture (f0:Fixture):body_ValidateFixture f0=GoOld.body_ValidateFixture f0:=by
 unfold body_ValidateFixture GoOld.body_ValidateFixture
 try simp only [Let_nr,Bind_snr,Bind_if,gd1,gd2,gd3,gd4,gd5,gd6,w64,gt_iff_lt,ge_iff_le,Join_nr,GoOld.Vec.beq,GoOld.Transform.beq,br_body_within,br_shape_Validate]
 first | done | rfl | ((try simp only [cond_or,cond_and]);first | done | rfl | grind | (((repeat' split) <;> simp_all);done))
theorem br_body_moving (b0:Body):body_moving b0=some (GoOld.body_moving b0):=by
 unfold body_moving GoOld.body_moving
 try simp only [Let_nr,Bind_snr,Bind_if,gd1,gd2,gd3,gd4,gd5,gd6,w64,gt_iff_lt,ge_iff_le,Join_nr]
 first | done | rfl | ((try simp only [cond_or,cond_and]);first | done | rfl | grind | (((repeat' split) <;> simp_all);done))
theorem br_body_consistent (b0:Body):body_consistent b0=some (GoOld.body_consistent b0):=by
 unfold body_consistent GoOld.body_consistent
 try simp only [Let_nr,Bind_snr,Bind_if,gd1,gd2,gd3,gd4,gd5,gd6,w64,gt_iff_lt,ge_iff_le,Join_nr,GoOld.Vec.beq,GoOld.Transform.beq,br_body_moving]
 first | done | rfl | ((try simp only [cond_or,cond_and]);first | done | rfl | grind | (((repeat' split) <;> simp_all);done))
theorem br_body_Validate (b0:Body):body_Validate b0=GoOld.body_Validate b0:=by
 unfold body_Validate GoOld.body_Validate
 generalize fuel=N
 try simp only [Let_nr,Bind_snr,Bind_if,gd1,gd2,gd3,gd4,gd5,gd6,w64,gt_iff_lt,ge_iff_le,Join_nr,br_body_inRange,br_body_ValidateFixture,br_body_consistent,GoOld.body_Validate_j2]
 (repeat (first | refine LOOP_br1 (fun _=>rfl) ?_ _ _ | refine Chk_br ?_ | refine Bind_br (fun _=>?_) | refine ite_br ?_ ?_ | rfl))
 all_goals first | rfl | (intro n r ih v0;(first | rw [GoOld.body_Validate_l1]);(try simp only [ih,Let_nr,Bind_snr,Bind_if,gd1,gd2,gd3,gd4,gd5,gd6,w64,gt_iff_lt,ge_iff_le,Join_nr,br_body_inRange,br_body_ValidateFixture,br_body_consistent,GoOld.body_Validate_j2]);first | done | rfl | ((repeat (first | refine LOOP_br1 (fun _=>rfl) ?_ _ _ | refine Chk_br ?_ | refine Bind_br (fun _=>?_) | refine ite_br ?_ ?_ | rfl));all_goals first | rfl))
theorem br_caromref12_EqualVecs (a0:(List Vec)) (b1:(List Vec)):caromref12_EqualVecs a0 b1=GoOld.ref12_EqualVecs a0 b1:=by
 unfold caromref12_EqualVecs GoOld.ref12_EqualVecs
 generalize fuel=N
 try simp only [Let_nr,Bind_snr,Bind_if,gd1,gd2,gd3,gd4,gd5,gd6,w64,gt_iff_lt,ge_iff_le,Join_nr,GoOld.ref12_EqualVecs_j2]
 (repeat (first | refine LOOP_br1 (fun _=>rfl) ?_ _ _ | refine Chk_br ?_ | refine Bind_br (fun _=>?_) | refine ite_br ?_ ?_ | rfl))
 all_goals first | rfl | (intro n r ih v0;(first | rw [GoOld.ref12_EqualVecs_l1]);(try simp only [ih,Let_nr,Bind_snr,Bind_if,gd1,gd2,gd3,gd4,gd5,gd6,w64,gt_iff_lt,ge_iff_le,Join_nr,GoOld.ref12_EqualVecs_j2]);first | done | rfl | ((repeat (first | refine LOOP_br1 (fun _=>rfl) ?_ _ _ | refine Chk_br ?_ | refine Bind_br (fun _=>?_) | refine ite_br ?_ ?_ | rfl));all_goals first | rfl))
theorem br_caromref12_Equal (a0:Shape) (b1:Shape):caromref12_Equal a0 b1=GoOld.ref12_Equal a0 b1:=by
 unfold caromref12_Equal GoOld.ref12_Equal
 try simp only [Let_nr,Bind_snr,Bind_if,gd1,gd2,gd3,gd4,gd5,gd6,w64,gt_iff_lt,ge_iff_le,Join_nr,GoOld.Vec.beq,GoOld.Transform.beq,br_caromref12_EqualVecs]
 first | done | rfl | ((try simp only [cond_or,cond_and]);first | done | rfl | grind | (((repeat' split) <;> simp_all);done))
theorem br_caromref23_EqualFixture (a0:Fixture) (b1:Fixture):caromref23_EqualFixture a0 b1=GoOld.ref23_EqualFixture a0 b1:=by
 unfold caromref23_EqualFixture GoOld.ref23_EqualFixture
 try simp only [Let_nr,Bind_snr,Bind_if,gd1,gd2,gd3,gd4,gd5,gd6,w64,gt_iff_lt,ge_iff_le,Join_nr,GoOld.Vec.beq,GoOld.Transform.beq,br_caromref12_Equal]
 first | done | rfl | ((try simp only [cond_or,cond_and]);first | done | rfl | grind | (((repeat' split) <;> simp_all);done))
theorem br_caromref23_Equal (a0:Body) (b1:Body):caromref23_Equal a0 b1=GoOld.ref23_Equal a0 b1:=by
 unfold caromref23_Equal GoOld.ref23_Equal
 generalize fuel=N
 try simp only [Let_nr,Bind_snr,Bind_if,gd1,gd2,gd3,gd4,gd5,gd6,w64,gt_iff_lt,ge_iff_le,Join_nr,GoOld.Vec.beq,GoOld.Transform.beq,br_caromref23_EqualFixture,GoOld.ref23_Equal_j2]
 (repeat (first | refine LOOP_br1 (fun _=>rfl) ?_ _ _ | refine Chk_br ?_ | refine Bind_br (fun _=>?_) | refine ite_br ?_ ?_ | rfl))
 all_goals first | rfl | (intro n r ih v0;(first | rw [GoOld.ref23_Equal_l1]);(try simp only [ih,Let_nr,Bind_snr,Bind_if,gd1,gd2,gd3,gd4,gd5,gd6,w64,gt_iff_lt,ge_iff_le,Join_nr,GoOld.Vec.beq,GoOld.Transform.beq,br_caromref23_EqualFixture,GoOld.ref23_Equal_j2]);first | done | rfl | ((repeat (first | refine LOOP_br1 (fun _=>rfl) ?_ _ _ | refine Chk_br ?_ | refine Bind_br (fun _=>?_) | refine ite_br ?_ ?_ | rfl));all_goals first | rfl))
theorem br_caromref23_in (x0:Int) (low1:Int) (high2:Int):caromref23_in x0 low1 high2=some (GoOld.ref23_in x0 low1 high2):=by
 unfold caromref23_in GoOld.ref23_in
 try simp only [Let_nr,Bind_snr,Bind_if,gd1,gd2,gd3,gd4,gd5,gd6,w64,gt_iff_lt,ge_iff_le,Join_nr]
 first | done | rfl | ((try simp only [cond_or,cond_and]);first | done | rfl | grind | (((repeat' split) <;> simp_all);done))
theorem br_caromref04_outside (x0:Int):caromref04_outside x0=some (GoOld.ref04_outside x0):=by
 unfold caromref04_outside GoOld.ref04_outside
 try simp only [Let_nr,Bind_snr,Bind_if,gd1,gd2,gd3,gd4,gd5,gd6,w64,gt_iff_lt,ge_iff_le,Join_nr]
 first | done | rfl | ((try simp only [cond_or,cond_and]);first | done | rfl | grind | (((repeat' split) <;> simp_all);done))
theorem br_caromref04_Valid (p0:Transform):caromref04_Valid p0=some (GoOld.ref04_Valid p0):=by
 unfold caromref04_Valid GoOld.ref04_Valid
 try simp only [Let_nr,Bind_snr,Bind_if,gd1,gd2,gd3,gd4,gd5,gd6,w64,gt_iff_lt,ge_iff_le,Join_nr,GoOld.Vec.beq,GoOld.Transform.beq,br_caromref04_outside]
 first | done | rfl | ((try simp only [cond_or,cond_and]);first | done | rfl | grind | (((repeat' split) <;> simp_all);done))
theorem br_caromref23_inRange (b0:Body):caromref23_inRange b0=some (GoOld.ref23_inRange b0):=by
 unfold caromref23_inRange GoOld.ref23_inRange
 try simp only [Let_nr,Bind_snr,Bind_if,gd1,gd2,gd3,gd4,gd5,gd6,w64,gt_iff_lt,ge_iff_le,Join_nr,GoOld.Vec.beq,GoOld.Transform.beq,br_caromref23_in,br_caromref04_Valid]
 first | done | rfl | ((try simp only [cond_or,cond_and]);first | done | rfl | grind | (((repeat' split) <;> simp_all);done))
theorem br_caromref12_countMatches (s0:Shape):caromref12_countMatches s0=some (GoOld.ref12_countMatches s0):=by
 unfold caromref12_countMatches GoOld.ref12_countMatches
 try simp only [Let_nr,Bind_snr,Bind_if,gd1,gd2,gd3,gd4,gd5,gd6,w64,gt_iff_lt,ge_iff_le,Join_nr,GoOld.Vec.beq,GoOld.Transform.beq]
 first | done | rfl | ((try simp only [cond_or,cond_and]);first | done | rfl | grind | (((repeat' split) <;> simp_all);done))
theorem br_caromref12_within (x0:Int) (m1:Int):caromref12_within x0 m1=some (GoOld.ref12_within x0 m1):=by
 unfold caromref12_within GoOld.ref12_within
 try simp only [Let_nr,Bind_snr,Bind_if,gd1,gd2,gd3,gd4,gd5,gd6,w64,gt_iff_lt,ge_iff_le,Join_nr]
 first | done | rfl | ((try simp only [cond_or,cond_and]);first | done | rfl | grind | (((repeat' split) <;> simp_all);done))
theorem br_caromref01_Saturate (x0:Int):caromref01_Saturate x0=some (GoOld.ref01_Saturate x0):=by
 unfold caromref01_Saturate GoOld.ref01_Saturate
 try simp only [Let_nr,Bind_snr,Bind_if,gd1,gd2,gd3,gd4,gd5,gd6,w64,gt_iff_lt,ge_iff_le,Join_nr]
 first | done | rfl | ((try simp only [cond_or,cond_and]);first | done | rfl | grind | (((repeat' split) <;> simp_all);done))
theorem br_caromref01_Sub (a0:Int) (b1:Int):caromref01_Sub a0 b1=some (GoOld.ref01_Sub a0 b1):=by
 unfold caromref01_Sub GoOld.ref01_Sub
 try simp only [Let_nr,Bind_snr,Bind_if,gd1,gd2,gd3,gd4,gd5,gd6,w64,gt_iff_lt,ge_iff_le,Join_nr,br_caromref01_Saturate]
 first | done | rfl | ((try simp only [cond_or,cond_and]);first | done | rfl | grind | (((repeat' split) <;> simp_all);done))
theorem br_caromref03_Sub (a0:Vec) (b1:Vec):caromref03_Sub a0 b1=some (GoOld.ref03_Sub a0 b1):=by
 unfold caromref03_Sub GoOld.ref03_Sub
 try simp only [Let_nr,Bind_snr,Bind_if,gd1,gd2,gd3,gd4,gd5,gd6,w64,gt_iff_lt,ge_iff_le,Join_nr,br_caromref01_Sub]
 first | done | rfl | ((try simp only [cond_or,cond_and]);first | done | rfl | grind | (((repeat' split) <;> simp_all);done))
theorem br_caromref03_Saturated (v0:Vec):caromref03_Saturated v0=some (GoOld.ref03_Saturated v0):=by
 unfold caromref03_Saturated GoOld.ref03_Saturated
 try simp only [Let_nr,Bind_snr,Bind_if,gd1,gd2,gd3,gd4,gd5,gd6,w64,gt_iff_lt,ge_iff_le,Join_nr,br_caromref01_Saturate]
 first | done | rfl | ((try simp only [cond_or,cond_and]);first | done | rfl | grind | (((repeat' split) <;> simp_all);done))
theorem br_caromref01_outOfRange (n0:Int):caromref01_outOfRange n0=some (GoOld.ref01_outOfRange n0):=by
 unfold caromref01_outOfRange GoOld.ref01_outOfRange
 try simp only [Let_nr,Bind_snr,Bind_if,gd1,gd2,gd3,gd4,gd5,gd6,w64,gt_iff_lt,ge_iff_le,Join_nr]
 first | done | rfl | ((try simp only [cond_or,cond_and]);first | done | rfl | grind | (((repeat' split) <;> simp_all);done))
theorem br_caromref01_Isqrt (n0:Int):caromref01_Isqrt n0=GoOld.ref01_Isqrt n0:=by
 unfold caromref01_Isqrt GoOld.ref01_Isqrt
 generalize fuel=N
 try simp only [Let_nr,Bind_snr,Bind_if,gd1,gd2,gd3,gd4,gd5,gd6,w64,gt_iff_lt,ge_iff_le,Join_nr,GoOld.Vec.beq,GoOld.Transform.beq,br_caromref01_outOfRange,GoOld.ref01_Isqrt_j1,GoOld.ref01_Isqrt_j3]
 (repeat (first | refine LOOP_br2 (fun _ _=>rfl) ?_ _ _ _ | refine Chk_br ?_ | refine Bind_br (fun _=>?_) | refine ite_br ?_ ?_ | rfl))
 all_goals first | rfl | (intro n r ih v0 v1;(first | rw [GoOld.ref01_Isqrt_l2]);(try simp only [ih,Let_nr,Bind_snr,Bind_if,gd1,gd2,gd3,gd4,gd5,gd6,w64,gt_iff_lt,ge_iff_le,Join_nr,GoOld.Vec.beq,GoOld.Transform.beq,br_caromref01_outOfRange,GoOld.ref01_Isqrt_j1,GoOld.ref01_Isqrt_j3]);first | done | rfl | ((repeat (first | refine LOOP_br2 (fun _ _=>rfl) ?_ _ _ _ | refine Chk_br ?_ | refine Bind_br (fun _=>?_) | refine ite_br ?_ ?_ | rfl));all_goals first | rfl))
theorem br_caromref03_Length (v0:Vec):caromref03_Length v0=GoOld.ref03_Length v0:=by
 unfold caromref03_Length GoOld.ref03_Length
 try simp only [Let_nr,Bind_snr,Bind_if,gd1,gd2,gd3,gd4,gd5,gd6,w64,gt_iff_lt,ge_iff_le,Join_nr,br_caromref03_Saturated,br_caromref01_Isqrt]
 first | done | rfl | ((try simp only [cond_or,cond_and]);first | done | rfl | grind | (((repeat' split) <;> simp_all);done))
theorem br_caromref11_inRange (v0:Vec):caromref11_inRange v0=some (GoOld.ref11_inRange v0):=by
 unfold caromref11_inRange GoOld.ref11_inRange
 try simp only [Let_nr,Bind_snr,Bind_if,gd1,gd2,gd3,gd4,gd5,gd6,w64,gt_iff_lt,ge_iff_le,Join_nr]
 first | done | rfl | ((try simp only [cond_or,cond_and]);first | done | rfl | grind | (((repeat' split) <;> simp_all);done))
theorem br_caromref03_Orientation (a0:Vec) (b1:Vec) (c2:Vec):caromref03_Orientation a0 b1 c2=some (GoOld.ref03_Orientation a0 b1 c2):=by
 unfold caromref03_Orientation GoOld.ref03_Orientation
 try simp only [Let_nr,Bind_snr,Bind_if,gd1,gd2,gd3,gd4,gd5,gd6,w64,gt_iff_lt,ge_iff_le,Join_nr,br_caromref03_Saturated]
 first | done | rfl | ((try simp only [cond_or,cond_and]);first | done | rfl | grind | (((repeat' split) <;> simp_all);done))
theorem br_caromref11_IsConvex (vertices0:(List Vec)):caromref11_IsConvex vertices0=GoOld.ref11_IsConvex vertices0:=by
 unfold caromref11_IsConvex GoOld.ref11_IsConvex
 simp only [Let_nr,Bind_snr,Bind_if,gd1,gd2,gd3,gd4,gd5,gd6,w64,gt_iff_lt,ge_iff_le,Join_nr,br_caromref11_inRange,br_caromref03_Orientation]
 refine ite_br rfl ?_
 refine LOOP_br1 (fun _=>rfl) ?_ _ _
 intro n r ih v
 rw [GoOld.ref11_IsConvex_l1]
 simp only [ih,Let_nr,Bind_snr,Bind_if,gd1,gd2,gd3,gd4,gd5,gd6,w64,gt_iff_lt,ge_iff_le,Join_nr,GoOld.ref11_IsConvex_j6]
 refine ite_br rfl ?_
 refine LOOP_br1 (fun _=>rfl) ?_ _ _
 intro n' r' ih' v'
 rw [GoOld.ref11_IsConvex_l4]
 simp only [ih',Let_nr,Bind_snr,Bind_if,gd1,gd2,gd3,gd4,gd5,gd6,w64,gt_iff_lt,ge_iff_le,Join_nr,GoOld.ref11_IsConvex_j5]
 refine ite_br ?_ rfl
 refine Chk_br ?_
 refine LOOP_br1 (fun _=>rfl) ?_ _ _
 intro n2 r2 ih2 v2
 rw [GoOld.ref11_IsConvex_l2]
 simp only [ih2,Let_nr,Bind_snr,Bind_if,gd1,gd2,gd3,gd4,gd5,gd6,w64,gt_iff_lt,ge_iff_le,Join_nr,GoOld.ref11_IsConvex_j3]
theorem br_caromref11_ShortestEdge (vertices0:(List Vec)):caromref11_ShortestEdge vertices0=GoOld.ref11_ShortestEdge vertices0:=by
 unfold caromref11_ShortestEdge GoOld.ref11_ShortestEdge
 generalize fuel=N
 try simp only [Let_nr,Bind_snr,Bind_if,gd1,gd2,gd3,gd4,gd5,gd6,w64,gt_iff_lt,ge_iff_le,Join_nr,br_caromref03_Sub,br_caromref03_Length,br_caromref11_IsConvex,GoOld.ref11_ShortestEdge_j1,GoOld.ref11_ShortestEdge_j3]
 (repeat (first | refine LOOP_br2 (fun _ _=>rfl) ?_ _ _ _ | refine Chk_br ?_ | refine Bind_br (fun _=>?_) | refine ite_br ?_ ?_ | rfl))
 all_goals first | rfl | (intro n r ih v0 v1;(first | rw [GoOld.ref11_ShortestEdge_l2]);(try simp only [ih,Let_nr,Bind_snr,Bind_if,gd1,gd2,gd3,gd4,gd5,gd6,w64,gt_iff_lt,ge_iff_le,Join_nr,br_caromref03_Sub,br_caromref03_Length,br_caromref11_IsConvex,GoOld.ref11_ShortestEdge_j1,GoOld.ref11_ShortestEdge_j3]);first | done | rfl | ((repeat (first | refine LOOP_br2 (fun _ _=>rfl) ?_ _ _ _ | refine Chk_br ?_ | refine Bind_br (fun _=>?_) | refine ite_br ?_ ?_ | rfl));all_goals first | rfl))
theorem br_caromref01_RoundDiv (n0:Int) (d1:Int):caromref01_RoundDiv n0 d1=GoOld.ref01_RoundDiv n0 d1:=by
 unfold caromref01_RoundDiv GoOld.ref01_RoundDiv
 try simp only [Let_nr,Bind_snr,Bind_if,gd1,gd2,gd3,gd4,gd5,gd6,w64,gt_iff_lt,ge_iff_le,Join_nr,GoOld.Vec.beq,GoOld.Transform.beq,br_caromref01_outOfRange,GoOld.ref01_RoundDiv_j1,GoOld.ref01_RoundDiv_j2]
 first | done | rfl | ((try simp only [cond_or,cond_and]);first | done | rfl | grind | (((repeat' split) <;> simp_all);done))
theorem br_caromref11_cross (v0:(List Vec)) (i1:Int):caromref11_cross v0 i1=GoOld.ref11_cross v0 i1:=by
 unfold caromref11_cross GoOld.ref11_cross
 try simp only [Let_nr,Bind_snr,Bind_if,gd1,gd2,gd3,gd4,gd5,gd6,w64,gt_iff_lt,ge_iff_le,Join_nr,br_caromref01_RoundDiv]
 first | done | rfl | ((try simp only [cond_or,cond_and]);first | done | rfl | grind | (((repeat' split) <;> simp_all);done))
theorem br_caromref11_Area (vertices0:(List Vec)):caromref11_Area vertices0=GoOld.ref11_Area vertices0:=by
 unfold caromref11_Area GoOld.ref11_Area
 generalize fuel=N
 try simp only [Let_nr,Bind_snr,Bind_if,gd1,gd2,gd3,gd4,gd5,gd6,w64,gt_iff_lt,ge_iff_le,Join_nr,br_caromref11_IsConvex,br_caromref01_RoundDiv,br_caromref11_cross,GoOld.ref11_Area_j2]
 (repeat (first | refine LOOP_br2 (fun _ _=>rfl) ?_ _ _ _ | refine Chk_br ?_ | refine Bind_br (fun _=>?_) | refine ite_br ?_ ?_ | rfl))
 all_goals first | rfl | (intro n r ih v0 v1;(first | rw [GoOld.ref11_Area_l1]);(try simp only [ih,Let_nr,Bind_snr,Bind_if,gd1,gd2,gd3,gd4,gd5,gd6,w64,gt_iff_lt,ge_iff_le,Join_nr,br_caromref11_IsConvex,br_caromref01_RoundDiv,br_caromref11_cross,GoOld.ref11_Area_j2]);first | done | rfl | ((repeat (first | refine LOOP_br2 (fun _ _=>rfl) ?_ _ _ _ | refine Chk_br ?_ | refine Bind_br (fun _=>?_) | refine ite_br ?_ ?_ | rfl));all_goals first | rfl))
theorem br_caromref12_Validate (s0:Shape):caromref12_Validate s0=GoOld.ref12_Validate s0:=by
 have gs:∀ (c:Prop) [Decidable c] (a d:Vec) (e:Option Int),(if c then GoOld.ref03_Length (if c then a else d) else e)=if c then GoOld.ref03_Length a else e:=by intro c _ a d e;by_cases h:c <;> simp [h]
 unfold caromref12_Validate GoOld.ref12_Validate
 simp only [gs,Let_nr,Bind_snr,Bind_if,gd1,gd2,gd3,gd4,gd5,gd6,w64,gt_iff_lt,ge_iff_le,Join_nr,br_caromref12_countMatches,br_caromref12_within,br_caromref03_Sub,br_caromref03_Length,br_caromref11_IsConvex,br_caromref11_ShortestEdge,br_caromref11_Area,GoOld.ref12_Validate_j2]
 refine ite_br rfl ?_
 refine ite_br rfl ?_
 refine LOOP_br1 (fun _=>rfl) ?_ _ _
 intro n r ih v
 rw [GoOld.ref12_Validate_l1]
 simp only [ih,Let_nr,Bind_snr,Bind_if,gd1,gd2,gd3,gd4,gd5,gd6,w64,gt_iff_lt,ge_iff_le,Join_nr,GoOld.ref12_Validate_j2]
theorem br_caromref23_ValidateFixture (f0:Fixture):caromref23_ValidateFixture f0=GoOld.ref23_ValidateFixture f0:=by
 unfold caromref23_ValidateFixture GoOld.ref23_ValidateFixture
 try simp only [Let_nr,Bind_snr,Bind_if,gd1,gd2,gd3,gd4,gd5,gd6,w64,gt_iff_lt,ge_iff_le,Join_nr,GoOld.Vec.beq,GoOld.Transform.beq,br_caromref23_in,br_caromref12_Validate]
 first | done | rfl | ((try simp only [cond_or,cond_and]);first | done | rfl | grind | (((repeat' split) <;> simp_all);done))
theorem br_caromref23_Validate (b0:Body):caromref23_Validate b0=GoOld.ref23_Validate b0:=by
 unfold caromref23_Validate GoOld.ref23_Validate
 generalize fuel=N
 try simp only [Let_nr,Bind_snr,Bind_if,gd1,gd2,gd3,gd4,gd5,gd6,w64,gt_iff_lt,ge_iff_le,Join_nr,GoOld.Vec.beq,GoOld.Transform.beq,br_caromref23_inRange,br_caromref23_ValidateFixture,GoOld.ref23_Validate_j2]
 (repeat (first | refine LOOP_br1 (fun _=>rfl) ?_ _ _ | refine Chk_br ?_ | refine Bind_br (fun _=>?_) | refine ite_br ?_ ?_ | rfl))
 all_goals first | rfl | (intro n r ih v0;(first | rw [GoOld.ref23_Validate_l1]);(try simp only [ih,Let_nr,Bind_snr,Bind_if,gd1,gd2,gd3,gd4,gd5,gd6,w64,gt_iff_lt,ge_iff_le,Join_nr,GoOld.Vec.beq,GoOld.Transform.beq,br_caromref23_inRange,br_caromref23_ValidateFixture,GoOld.ref23_Validate_j2]);first | done | rfl | ((repeat (first | refine LOOP_br1 (fun _=>rfl) ?_ _ _ | refine Chk_br ?_ | refine Bind_br (fun _=>?_) | refine ite_br ?_ ?_ | rfl));all_goals first | rfl))
theorem bodyV (b:Body):body_Validate b=caromref23_Validate b:=by rw [br_body_Validate,br_caromref23_Validate,GoOld.body_Validate_eq,GoOld.ref23_Validate_eq]
theorem bodyV' (b:Body):caromref23_Validate b=some (GoOld.validB b):=by rw [br_caromref23_Validate,GoOld.ref23_Validate_eq]
def inb (x a b:Int):Bool:=decide (a<=x)&&decide (x<=b)
theorem world_in_eq (x a b:Int):world_in x a b=some (inb x a b):=by
 unfold world_in inb;simp only [Let_nr,ge_iff_le,cond_and]
theorem joint_in_eq (x a b:Int):joint_inRange x a b=some (inb x a b):=by
 unfold joint_inRange inb;simp only [Let_nr,ge_iff_le,cond_and]
def vset (s:Settings):Int:=if (inb s.TimeStep 64 8192&&inb s.Gravity.X (-16777216) 16777216&&inb s.Gravity.Y (-16777216) 16777216&&inb s.Iterations 1 32&&inb s.SleepSteps 0 1048576)=true then 0 else 6
theorem world_set_eq (s:Settings):world_ValidateSettings s=some (vset s):=by
 unfold world_ValidateSettings vset
 simp only [world_in_eq,Let_nr,Bind_snr,Bind_if]
 generalize inb s.TimeStep 64 8192=b1
 generalize inb s.Gravity.X (-16777216) 16777216=b2
 generalize inb s.Gravity.Y (-16777216) 16777216=b3
 generalize inb s.Iterations 1 32=b4
 generalize inb s.SleepSteps 0 1048576=b5
 cases b1 <;> cases b2 <;> cases b3 <;> cases b4 <;> cases b5 <;> rfl
/-! FindBody -/
def fb (w:World_) (id:Int):Int:=idx (fun b:Body=>b.ID==id) w.Bodies 0
theorem world_Find_eq (w:World_) (id:Int) (h:Sm w.Bodies):world_FindBody w id=some (fb w id):=by
 unfold world_FindBody slices_IndexFunc fb
 simp only [Let_nr]
 rw [show LOOP _ fuel (0:Int)=_ from LOOP_l0 w.Bodies (fun t i=>some (idx (fun b:Body=>b.ID==id) t i)) _ h ?_ ?_]
 ·exact Bind_snr _ _
 ·intro r i t hw hc hm hr
  simp only [dlt hc,if_true,hw,Chk_of hc,world_FindBody_1,Let_nr,Bind_snr,hr,idx]
  split <;> rfl
 ·intro r;simp only [dll,ff,if_false,idx]
theorem fb_bd (w:World_) (id:Int):fb w id = -1\/(0<=fb w id/\fb w id<(w.Bodies.length:Int)):=by
 have:=idx_bd (fun b:Body=>b.ID==id) w.Bodies 0;unfold fb;simpa using this
/-! bodies -/
def vbs (N:Int):List Body->Nat->Int->Bool
 | [],_,_=>true
 | b::t,i,p=>if (GoOld.validB b != 0||decide (N<=b.ID)||decide (b.ID<=p))=true then false else vbs N t (i+1) b.ID
theorem world_bodies_eq (w:World_) (h:Sm w.Bodies):world_validBodies w=some (vbs w.NextID w.Bodies 0 0):=by
 unfold world_validBodies
 simp only [Let_nr]
 refine LOOP_l1 w.Bodies (fun t i p=>some (vbs w.NextID t i p)) _ 0 h ?_ ?_
 ·intro r i t s hw hc hm hr
  simp only [dlt hc,if_true,hw,Chk_of hc,Let_nr,bodyV,bodyV',Bind_snr,hr,vbs,cond_or,ge_iff_le]
  split <;> rfl
 ·intro r s;simp only [dll,ff,if_false,vbs]
/-! joints -/
def inv4 (v:Vec) (m:Int):Bool:=inb v.X (-m) m&&inb v.Y (-m) m
theorem joint_pt_eq (v:Vec) (m:Int) (h:0<=m/\m<=1000000000000):joint_pointInRange v m=some (inv4 v m):=by
 unfold joint_pointInRange inv4
 have e:IntKind.i64.wrap ((0:Int) - m) = -m:=by rw [wrap_in _ (by omega) (by omega)];omega
 simp only [Let_nr,joint_in_eq,Bind_snr,Bind_if,e,cond_and,ga1]
def reach (k:Int):Int:=if (k==5)=true then 268435456 else 1048576
def limR (k:Int):Int × Int:=if (k==1)=true then (0,268435456) else if (k==2)=true then (-205888,205888) else (-268435456,268435456)
theorem joint_lim_eq (k:Int):joint_limitRange k=some (limR k):=by
 unfold joint_limitRange limR;simp only [Let_nr];split <;> (try split) <;> rfl
def impOk (j:Joint):Bool:=[j.Impulses.fst,j.Impulses.snd.fst,j.Impulses.snd.snd.fst,j.Impulses.snd.snd.snd].all fun x=>inb x (-536870911) 536870911
def numOk (j:Joint):Bool:=impOk j&&(inb j.ID 1 1099511627776&&inv4 j.AnchorA (reach j.Kind)&&inv4 j.AnchorB 1048576&&inb j.ReferenceAngle (-205888) 205887&&inb j.Lower (limR j.Kind).1 (limR j.Kind).2&&inb j.Upper (limR j.Kind).1 (limR j.Kind).2&&decide (j.Lower<=j.Upper)&&inb j.MotorSpeed (-16777216) 16777216&&inb j.MaxForce 0 536870911&&inb j.Softness 0 536870911&&inb j.BreakForce 0 536870911)
theorem reach_bd (k:Int):0<=reach k/\reach k<=1000000000000:=by unfold reach;split <;> omega
theorem sm4 (a b c d:Int):Sm [a,b,c,d]:=by unfold Sm;simp
def all4 (fin:Bool):List Int->Bool
 | []=>fin
 | a::t=>if (!inb a (-536870911) 536870911)=true then false else all4 fin t
theorem all4_eq (fin:Bool):∀ l:List Int,all4 fin l=(l.all (fun x=>inb x (-536870911) 536870911)&&fin)
 | []=>rfl
 | a::t=>by unfold all4;rw [all4_eq fin t];cases h:inb a (-536870911) 536870911 <;> simp [h]
theorem joint_num_eq (j:Joint):joint_numbersInRange j=some (numOk j):=by
 unfold joint_numbersInRange numOk impOk
 rw [<- all4_eq]
 have h1:∀ m:Int,0<=m/\m<=1000000000000->joint_pointInRange j.AnchorA m=some (inv4 j.AnchorA m):=fun m=>joint_pt_eq _ m
 have h2:=joint_pt_eq j.AnchorB 1048576 (by omega)
 have hK:∀ m:Int,reach j.Kind=m->0<=m/\m<=1000000000000:=fun m h=>h ▸ reach_bd _
 by_cases hk:(j.Kind==5)=true <;> simp only [Join_nr,Let_nr,hk,ff,if_true,if_false,joint_lim_eq,Bind_snr,joint_in_eq,h2,h1 268435456 (by omega),h1 1048576 (by omega),Bind_if,cond_and,ga1,reach]
 all_goals
  refine LOOP_l0 [j.Impulses.fst,j.Impulses.snd.fst,j.Impulses.snd.snd.fst,j.Impulses.snd.snd.snd] (fun t _=>some (all4 _ t)) _ (sm4 _ _ _ _) ?_ ?_
  ·intro r i t hw hc hm hr
   have hc4:(0:Int)<=(i:Int)/\(i:Int)<((4:Nat):Int):=hc
   have hd4:decide ((i:Int)<(4:Int))=true:=dlt hc
   simp only [hd4,if_true,hw,Chk_of hc4,hr,all4]
   split <;> rfl
  ·intro r
   have:decide (([j.Impulses.fst,j.Impulses.snd.fst,j.Impulses.snd.snd.fst,j.Impulses.snd.snd.snd].length:Int)<(4:Int))=false:=rfl
   simp only [this,ff,if_false,all4]
def jbOk (j:Joint):Bool:=if (j.Kind==5)=true then (j.BodyA==0&&inb j.BodyB 1 1099511627776) else (inb j.BodyA 1 1099511627776&&inb j.BodyB 1 1099511627776&&(j.BodyA != j.BodyB))
theorem joint_bod_eq (j:Joint):joint_validBodies j=some (jbOk j):=by
 unfold joint_validBodies jbOk
 simp only [Let_nr,joint_in_eq,Bind_snr,Bind_if,cond_and,ga1]
 split <;> rfl
def plainA (j:Joint):Bool:=decide (j.Axis.X=0)&&decide (j.Axis.Y=0)
def jinc (j:Joint):Bool:=if (j.Kind==3)=true then !inb (GoOld.lenV j.Axis) 65520 65552 else if (j.Kind==1)=true then (!plainA j||j.EnableMotor || !j.EnableLimit) else if (j.Kind==4)=true then (!plainA j||j.EnableMotor||j.EnableLimit) else if (j.Kind==5)=true then (!plainA j||j.EnableMotor||j.EnableLimit) else !plainA j
theorem joint_inc_eq (j:Joint):joint_inconsistent j=some (jinc j):=by
 unfold joint_inconsistent jinc plainA
 simp only [Let_nr,Join_nr,br_vec2_Length,GoOld.vec2_Length_eq,joint_in_eq,Bind_snr,Bind_if,cond_and,cond_or]
 repeat' split
 all_goals rfl
def jv (j:Joint):Int:=if (decide (j.Kind<1)||decide (5<j.Kind))=true then 10 else if (!numOk j)=true then 6 else if (!jbOk j)=true then 14 else if jinc j=true then 15 else 0
theorem joint_Val_eq (j:Joint):joint_Validate j=some (jv j):=by
 unfold joint_Validate jv
 simp only [Let_nr,joint_num_eq,joint_bod_eq,joint_inc_eq,Bind_snr,cond_or,gt_iff_lt]
 repeat' split
 all_goals rfl
def jex (w:World_) (j:Joint):Bool:=decide (0<=fb w j.BodyB)&&(j.Kind==5||decide (0<=fb w j.BodyA))
theorem world_ex_eq (w:World_) (j:Joint) (h:Sm w.Bodies):world_bodiesExist w j=some (jex w j):=by
 unfold world_bodiesExist jex
 simp only [Let_nr,world_Find_eq w _ h,Bind_snr,Bind_if,cond_and,cond_or,ge_iff_le,ga8]
def jcon (w:World_) (j:Joint):Bool:=(j.BodyA==0||decide (0<=fb w j.BodyA))&&(j.BodyB==0||decide (0<=fb w j.BodyB))
theorem jv_zero {j:Joint} (h:jv j=0):numOk j=true/\jbOk j=true/\jinc j=false/\1<=j.Kind/\j.Kind<=5:=by
 unfold jv at h
 split at h
 ·omega
 ·split at h
  ·omega
  ·split at h
   ·omega
   ·split at h
    ·omega
    ·simp_all
theorem jex_con {w:World_} {j:Joint} (h:jv j=0):jex w j=jcon w j:=by
 have h2:=(jv_zero h).2.1
 unfold jbOk inb at h2
 unfold jex jcon
 by_cases hk:j.Kind=5
 ·simp [hk] at h2 ⊢
  have:¬ j.BodyB=0:=by omega
  simp [h2.1,this]
 ·simp [hk] at h2 ⊢
  have:¬ j.BodyB=0:=by omega
  have:¬ j.BodyA=0:=by omega
  have e1:(j.BodyA==0)=false:=by simpa using this
  have e2:(j.BodyB==0)=false:=by simp;omega
  have e3:(j.Kind==5)=false:=by simpa using hk
  rw [e1,e2,e3];simp only [Bool.false_or];exact Bool.and_comm _ _
def vjs (w:World_):List Joint->Nat->Int->Bool
 | [],_,_=>true
 | j::t,i,p=>if (jv j != 0||decide (w.NextID<=j.ID)||decide (j.ID<=p) || !jcon w j||decide (0<=fb w j.ID))=true then false else vjs w t (i+1) j.ID
theorem world_joints_eq (w:World_) (h:Sm w.Joints) (hb:Sm w.Bodies):world_validJoints w=some (vjs w w.Joints 0 0):=by
 unfold world_validJoints
 simp only [Let_nr]
 refine LOOP_l1 w.Joints (fun t i p=>some (vjs w t i p)) _ 0 h ?_ ?_
 ·intro r i t s hw hc hm hr
  simp only [dlt hc,if_true,hw,Chk_of hc,Let_nr,joint_Val_eq,world_ex_eq w _ hb,world_Find_eq w _ hb,Bind_snr,Bind_if,hr,vjs,cond_or,ge_iff_le,ga3,ga5]
  by_cases hj:jv (ix w.Joints (i:Int))=0
  ·rw [jex_con hj];split <;> rfl
  ·simp [hj]
 ·intro r s;simp only [dll,ff,if_false,vjs]
theorem cmp_nan (x:Int):cmp_isNaN x=some false:=by unfold cmp_isNaN;simp [Let_nr]
def cmpZ (x y:Int):Int:=if x<y then -1 else if y<x then 1 else 0
theorem cmp_eq (x y:Int):cmp_Compare x y=some (cmpZ x y):=by
 unfold cmp_Compare cmpZ
 simp only [cmp_nan,Bind_snr,ff,if_false,Let_nr,decide_eq_true_eq,gt_iff_lt]
 split
 ·rfl
 ·split <;> rfl
def orZ:List Int->Int
 | []=>0
 | a::t=>if (a != 0)=true then a else orZ t
theorem or_eq (l:List Int) (h:Sm l):cmp_Or l=some (orZ l):=by
 unfold cmp_Or
 simp only [Let_nr]
 refine LOOP_l0 l (fun t _=>some (orZ t)) _ h ?_ ?_
 ·intro r i t hw hc hm hr
  simp only [dlt hc,if_true,hw,Chk_of hc,Let_nr,hr,orZ]
  split <;> rfl
 ·intro r;simp only [dll,ff,if_false,orZ]
def lessK (a b:PairKey):Bool:=if a.BodyA≠b.BodyA then decide (a.BodyA<b.BodyA) else if a.FixtureA≠b.FixtureA then decide (a.FixtureA<b.FixtureA) else if a.BodyB≠b.BodyB then decide (a.BodyB<b.BodyB) else decide (a.FixtureB<b.FixtureB)
theorem cmpZ_0 (x y:Int):cmpZ x y=0↔x=y:=by unfold cmpZ;split <;> (try split) <;> omega
theorem cmpZ_n (x y:Int):cmpZ x y<0↔x<y:=by unfold cmpZ;split <;> (try split) <;> omega
theorem less_eq (a b:PairKey):broadphase_Less a b=some (lessK a b):=by
 unfold broadphase_Less broadphase_compare lessK
 simp only [cmp_eq,Bind_snr]
 rw [or_eq _ (sm4 _ _ _ _)]
 simp only [Bind_snr,Let_nr,orZ,bne_iff_ne,ne_eq,cmpZ_0]
 by_cases h1:a.BodyA=b.BodyA
 ·by_cases h2:a.FixtureA=b.FixtureA
  ·by_cases h3:a.BodyB=b.BodyB
   ·by_cases h4:a.FixtureB=b.FixtureB
    ·simp [h1,h2,h3,h4]
    ·simp [h1,h2,h3,h4,cmpZ_n]
   ·simp [h1,h2,h3,cmpZ_n]
  ·simp [h1,h2,cmpZ_n]
 ·simp [h1,cmpZ_n]
theorem lessK_irr (a:PairKey):lessK a a=false:=by unfold lessK;simp
def okK (k:PairKey):Bool:=decide (k.BodyA<k.BodyB)&&decide (0<=k.FixtureA)&&decide (k.FixtureA<4)&&decide (0<=k.FixtureB)&&decide (k.FixtureB<4)
theorem valid_eq (k:PairKey):broadphase_valid k=some (okK k):=by
 unfold broadphase_valid okK;simp only [Let_nr,cond_and,ge_iff_le]
def vks:List PairKey->Nat->PairKey->Bool
 | [],_,_=>true
 | k::t,i,p=>if (!okK k||(decide (0<(i:Int)) && !lessK p k))=true then false else vks t (i+1) k
theorem keq (a b:PairKey):(decide (a.BodyA=b.BodyA)&&(decide (a.FixtureA=b.FixtureA)&&(decide (a.BodyB=b.BodyB)&&decide (a.FixtureB=b.FixtureB))))=decide (a=b):=by
 rw [Bool.eq_iff_iff];cases a;cases b;simp
theorem vk_eq (l:List PairKey) (h:Sm l):broadphase_ValidKeys l=some (vks l 0 ⟨0,0,0,0⟩):=by
 unfold broadphase_ValidKeys
 simp only [Let_nr,keq]
 refine LOOP_l2 l (fun t i p=>some (vks t i p)) _ _ h ?_ ?_
 ·intro r i t s hw hc hm hr
  have g:∀ (c e f a d:Bool),(c||(e&&(f || !(if (c==false&&e==true&&f==false)=true then a else d))))=(c||(e&&(f || !a))):=by intro c e f a d;cases c <;> cases e <;> cases f <;> rfl
  simp only [dlt hc,if_true,hw,Chk_of hc,Let_nr,valid_eq,less_eq,Bind_snr,Bind_if,hr,vks,cond_or,cond_and,gt_iff_lt,g]
  have e:(decide (ix l (i:Int)=s) || !lessK s (ix l (i:Int))) = !lessK s (ix l (i:Int)):=by
   by_cases hh:ix l (i:Int)=s
   ·rw [hh,lessK_irr];simp
   ·simp [hh]
  rw [e];split <;> rfl
 ·intro r s;simp only [dll,ff,if_false,vks]
/-! the standard library's searches -/
theorem ixf_int (l:List Int) (f:Int->Option Bool) (g:Int->Bool) (h:Sm l) (hf:∀ a∈l,f a=some (g a)):slices_IndexFunc_183 l f=some (idx g l 0):=by
 unfold slices_IndexFunc_183
 simp only [Let_nr]
 refine LOOP_l0 l (fun t i=>some (idx g t i)) _ h ?_ ?_
 ·intro r i t hw hc hm hr
  simp only [dlt hc,if_true,hw,Chk_of hc,Let_nr,hf _ hm,Bind_snr,hr,idx]
  split <;> rfl
 ·intro r;simp only [dll,ff,if_false,idx]
theorem ixf_pt (l:List ContactPoint) (f:ContactPoint->Option Bool) (g:ContactPoint->Bool) (h:Sm l) (hf:∀ a∈l,f a=some (g a)):slices_IndexFunc_151 l f=some (idx g l 0):=by
 unfold slices_IndexFunc_151
 simp only [Let_nr]
 refine LOOP_l0 l (fun t i=>some (idx g t i)) _ h ?_ ?_
 ·intro r i t hw hc hm hr
  simp only [dlt hc,if_true,hw,Chk_of hc,Let_nr,hf _ hm,Bind_snr,hr,idx]
  split <;> rfl
 ·intro r;simp only [dll,ff,if_false,idx]
theorem ixf_key (l:List PairKey) (f:PairKey->Option Bool) (g:PairKey->Bool) (h:Sm l) (hf:∀ a∈l,f a=some (g a)):slices_IndexFunc_117 l f=some (idx g l 0):=by
 unfold slices_IndexFunc_117
 simp only [Let_nr]
 refine LOOP_l0 l (fun t i=>some (idx g t i)) _ h ?_ ?_
 ·intro r i t hw hc hm hr
  simp only [dlt hc,if_true,hw,Chk_of hc,Let_nr,hf _ hm,Bind_snr,hr,idx]
  split <;> rfl
 ·intro r;simp only [dll,ff,if_false,idx]
theorem ctf_int (l:List Int) (f:Int->Option Bool) (g:Int->Bool) (h:Sm l) (hf:∀ a∈l,f a=some (g a)):slices_ContainsFunc_149 l f=some (l.any g):=by
 unfold slices_ContainsFunc_149;simp only [ixf_int l f g h hf,Bind_snr,Let_nr,ge_iff_le,idx_any]
theorem ctf_pt (l:List ContactPoint) (f:ContactPoint->Option Bool) (g:ContactPoint->Bool) (h:Sm l) (hf:∀ a∈l,f a=some (g a)):slices_ContainsFunc_113 l f=some (l.any g):=by
 unfold slices_ContainsFunc_113;simp only [ixf_pt l f g h hf,Bind_snr,Let_nr,ge_iff_le,idx_any]
theorem ctf_key (l:List PairKey) (f:PairKey->Option Bool) (g:PairKey->Bool) (h:Sm l) (hf:∀ a∈l,f a=some (g a)):slices_ContainsFunc l f=some (l.any g):=by
 unfold slices_ContainsFunc;simp only [ixf_key l f g h hf,Bind_snr,Let_nr,ge_iff_le,idx_any]
/-! manifolds -/
def sat (x:Int):Bool:=inb x (-536870911) 536870911
theorem world_sat_eq (l:List Int) (h:Sm l):world_saturated l=some (l.all sat):=by
 unfold world_saturated
 show Rx.Bind (slices_ContainsFunc_149 l world_saturated_1) (fun r=>Let (!r) fun x=>some x)=_
 rw [ctf_int l _ (fun n => !sat n) h (fun a _=>by unfold world_saturated_1 sat;simp only [world_in_eq,Bind_snr,Let_nr])]
 simp only [Bind_snr,Let_nr,List.any_eq_not_all_not,Bool.not_not]
def pOk (p:ContactPoint):Bool := !decide (p.NormalImpulse<0)&&(sat p.Point.X&&(sat p.Point.Y&&(sat p.Separation&&(sat p.ID&&(sat p.NormalImpulse&&sat p.TangentImpulse)))))
def mOk (m:Manifold):Bool := !(decide ((m.Points.length:Int)<1)||decide (2<(m.Points.length:Int))||((m.Points.length:Int)==2&&(ix m.Points 0).ID==(ix m.Points 1).ID) || !(sat m.Normal.X&&sat m.Normal.Y))&&m.Points.all pOk
theorem world_pt1 (p:ContactPoint):world_validManifold_1 p=some (!pOk p):=by
 have h6:∀ a b c d e f:Int,Sm [a,b,c,d,e,f]:=by intros;unfold Sm;simp
 unfold world_validManifold_1 pOk
 simp only [Let_nr,world_sat_eq _ (h6 _ _ _ _ _ _),Bind_snr,Bind_if,cond_or,ga3,List.all_cons,List.all_nil,Bool.and_true,Bool.not_and,Bool.not_not]
theorem chkP {l:List ContactPoint} {a:Bool}:((!a&&((l.length:Int)==2))=true->(0:Int)<=(0:Int)/\(0:Int)<(l.length:Int))/\((!a&&((l.length:Int)==2))=true->(0:Int)<=(1:Int)/\(1:Int)<(l.length:Int)):=by
 constructor <;> intro h <;> simp at h <;> omega
theorem world_man_eq (m:Manifold) (h:Sm m.Points):world_validManifold m=some (mOk m):=by
 have h2:∀ a b:Int,Sm [a,b]:=by intros;unfold Sm;simp
 have hg:∀ a b:Bool,(a==false&&b==true)=(!a&&b):=by intro a b;cases a <;> cases b <;> rfl
 unfold world_validManifold mOk
 simp only [Let_nr,hg]
 rw [Chk_of chkP.1,Chk_of chkP.2]
 simp only [world_sat_eq _ (h2 _ _),Bind_snr,Bind_if,cond_or,cond_and,ga3,List.all_cons,List.all_nil,Bool.and_true,gt_iff_lt]
 rw [ctf_pt m.Points _ (fun p => !pOk p) h (fun p _=>world_pt1 p)]
 simp only [Bind_snr,List.any_eq_not_all_not,Bool.not_not]
 generalize (decide ((m.Points.length:Int)<1)||decide (2<(m.Points.length:Int))||((m.Points.length:Int)==2&&(ix m.Points 0).ID==(ix m.Points 1).ID) || !(sat m.Normal.X&&sat m.Normal.Y))=c
 cases c <;> simp
def exw (w:World_) (id n:Int):Bool:=decide (0<=fb w id)&&decide (0<=n)&&decide (n<((ix w.Bodies (fb w id)).Fixtures.length:Int))
def exk (w:World_) (k:PairKey):Bool:=exw w k.BodyA k.FixtureA&&exw w k.BodyB k.FixtureB
theorem world_fix_eq (w:World_) (k:PairKey) (h:Sm w.Bodies) (hk:okK k=true):world_fixturesExist w k=some (exk w k):=by
 unfold world_fixturesExist exk exw
 simp only [Let_nr,world_Find_eq w _ h,Bind_snr,ge_iff_le,cond_and]
 have h1:=fb_bd w k.BodyA
 have h2:=fb_bd w k.BodyB
 rw [Chk_of (by intro hh;simp at hh;omega),Chk_of (by intro hh;simp at hh;omega)]
 refine congrArg some ?_
 unfold okK at hk;simp at hk
 rw [Bool.eq_iff_iff];simp;omega
theorem concat_eq (a b:List PairKey) (ha:a.length<=10000) (hb:b.length<=10000):slices_Concat [a,b]=some (a++b):=by
 obtain ⟨n,hn⟩:∃ n,fuel=n+3:=⟨2 ^ 70 - 3,rfl⟩
 have w1:IntKind.i64.wrap ((0:Int)+(a.length:Int))=(a.length:Int):=by rw [wrap_in _ (by omega) (by omega)];omega
 have w2:IntKind.i64.wrap ((a.length:Int)+(b.length:Int))=(a.length:Int)+(b.length:Int):=wrap_in _ (by omega) (by omega)
 have w3:IntKind.i64.wrap ((0:Int)+(1:Int))=1:=rfl
 have w4:IntKind.i64.wrap ((1:Int)+(1:Int))=2:=rfl
 have w5:IntKind.i64.wrap ((0:Int) - (0:Int))=0:=rfl
 have w6:IntKind.i64.wrap ((a.length:Int)+(b.length:Int) - 0)=(a.length:Int)+(b.length:Int):=by rw [wrap_in _ (by omega) (by omega)];omega
 have x0:ix [a,b] (0:Int)=a:=rfl
 have x1:ix [a,b] (1:Int)=b:=rfl
 have l2:(([a,b]:List (List PairKey)).length:Int)=2:=rfl
 have d0:decide ((0:Int)<2)=true:=rfl
 have d1:decide ((1:Int)<2)=true:=rfl
 have d2:decide ((2:Int)<2)=false:=rfl
 have e1:decide ((a.length:Int)<0)=false:=decide_eq_false (by omega)
 have e2:decide ((a.length:Int)+(b.length:Int)<0)=false:=decide_eq_false (by omega)
 have c0:(0:Int)<=(0:Int)/\(0:Int)<2:=by omega
 have c1:(0:Int)<=(1:Int)/\(1:Int)<2:=by omega
 have inner:∀ v:List PairKey,v=[]->LOOP (fun (rec688:List PairKey × Int->Option (List PairKey)) (s689:List PairKey × Int)=>
  if decide (s689.snd<(2:Int))=true then Chk ((0:Int)<=s689.snd/\s689.snd<(2:Int))
  (Chk ((List.length s689.fst+(ix [a,b] s689.snd).length)*(32:Nat)<=(140737488355328:Nat)) (rec688 (s689.fst++ix [a,b] s689.snd,IntKind.i64.wrap (s689.snd+(1:Int))))) else some s689.fst) (n+3) (v,(0:Int))=some (a++b):=by
  intro v hv;subst hv
  have b1:(List.length ([]:List PairKey)+a.length)*32<=140737488355328:=by simp;omega
  have b2:(a.length+b.length)*32<=140737488355328:=by omega
  simp only [LOOP_s,d0,d1,d2,if_true,ff,if_false,Chk_of c0,Chk_of c1,x0,x1,w3,w4,Chk_of b1,List.nil_append,Chk_of b2]
 unfold slices_Concat
 rw [hn]
 simp only [Let_nr,Join_nr,l2]
 rw [LOOP_s]
 simp only [d0,if_true,Chk_of c0,x0,w1,e1,ff,if_false,w3]
 rw [LOOP_s]
 simp only [d1,if_true,Chk_of c1,x1,w2,e2,ff,if_false,w4]
 rw [LOOP_s]
 simp only [d2,ff,if_false,e2,w5,w6]
 by_cases hz:(a.length:Int)+(b.length:Int)>0
 ·rw [if_pos (decide_eq_true hz)]
  rw [Chk_true,Chk_of ⟨hz,by omega,by omega⟩,Chk_of (by simp),Chk_of (by simp)]
  exact inner _ (by simp)
 ·rw [if_neg (by simpa using hz)]
  exact inner _ rfl
structure Few (w:World_):Prop where
 bodies:w.Bodies.length<=1000
 joints:w.Joints.length<=1000
 contacts:w.Contacts.length<=1000
 overlaps:w.Overlaps.length<=1000
 points:∀ c∈w.Contacts,c.Manifold.Points.length<=1000
 fixtures:∀ b∈w.Bodies,b.Fixtures.length<=1000
 vertices:∀ b∈w.Bodies,∀ f∈b.Fixtures,f.Shape.Vertices.length<=10000
theorem Few.sb {w:World_} (h:Few w):Sm w.Bodies:=sm_of h.bodies (by omega)
theorem Few.sj {w:World_} (h:Few w):Sm w.Joints:=sm_of h.joints (by omega)
theorem Few.sc {w:World_} (h:Few w):Sm w.Contacts:=sm_of h.contacts (by omega)
theorem Few.so {w:World_} (h:Few w):Sm w.Overlaps:=sm_of h.overlaps (by omega)
def keysOf (w:World_):List PairKey:=w.Contacts.map (·.Key)
def k0:PairKey:=⟨0,0,0,0⟩
def cOk (w:World_):Bool:=w.Contacts.all (fun c=>mOk c.Manifold)&&(vks (keysOf w) 0 k0&&vks w.Overlaps 0 k0&&((keysOf w).all (exk w)&&w.Overlaps.all (exk w)))
theorem vks_ok:∀ (l:List PairKey) (i:Nat) (p:PairKey),vks l i p=true->∀ k∈l,okK k=true
 | [],_,_,_,_,h=>by simp at h
 | a :: t,i,p,h,k,hk=>by
   unfold vks at h
   split at h
   ·exact absurd h (by simp)
   ·rename_i hh
    rcases List.mem_cons.1 hk with e | e
    ·subst e;simp at hh;exact hh.1
    ·exact vks_ok t _ _ h k e
def vcs (fin:List PairKey->Bool):List Contact->List PairKey->Bool
 | [],s=>fin s
 | c::t,s=>if (!mOk c.Manifold)=true then false else vcs fin t (s++[c.Key])
theorem vcs_eq (fin:List PairKey->Bool):∀ (l:List Contact) (s:List PairKey),vcs fin l s=(l.all (fun c=>mOk c.Manifold)&&fin (s++l.map (·.Key)))
 | [],s=>by simp [vcs]
 | c::t,s=>by unfold vcs;rw [vcs_eq fin t];cases h:mOk c.Manifold <;> simp [h]
theorem world_con_eq (w:World_) (h:Few w):world_validContacts w=some (cOk w):=by
 have hf : ∀ s:List PairKey,s.length<=1000->(Rx.Bind (broadphase_ValidKeys s) fun (r726:Bool)=>
  Rx.Bind (if ((!r726)==false)=true then broadphase_ValidKeys w.Overlaps else some default) fun (r728:Bool)=>
  if (bif !r726 then true else !r728)=true then some false
  else
  Rx.Bind (slices_Concat [s,w.Overlaps]) fun (r731:List PairKey)=>
  Rx.Bind (slices_ContainsFunc r731 fun a=>world_validContacts_1 a w) fun (r732:Bool)=>some !r732)=some (vks s 0 k0&&vks w.Overlaps 0 k0&&(s.all (exk w)&&w.Overlaps.all (exk w))):=by
  intro s hs
  simp only [vk_eq s (sm_of hs (by omega)),vk_eq _ h.so,Bind_snr,Bind_if,cond_or,ga3]
  show (if (!vks s 0 k0 || !vks w.Overlaps 0 k0)=true then some false else _)=_
  cases h1:vks s 0 k0
  ·rfl
  ·cases h2:vks w.Overlaps 0 k0
   ·rfl
   ·simp only [Bool.not_true,Bool.or_false,ff,if_false,Bool.true_and]
    rw [concat_eq s w.Overlaps (by omega) (by have:=h.overlaps;omega),Bind_snr]
    rw [ctf_key (s++w.Overlaps) _ (fun k => !exk w k) (sm_of (n:=2000) (by have:=h.overlaps;simp;omega) (by omega))]
    ·rw [Bind_snr,List.any_append,List.any_eq_not_all_not,List.any_eq_not_all_not]
     simp only [Bool.not_not,Bool.not_or]
    ·intro k hk
     have:okK k=true:=by
      rcases List.mem_append.1 hk with e | e
      ·exact vks_ok _ _ _ h1 k e
      ·exact vks_ok _ _ _ h2 k e
     unfold world_validContacts_1
     rw [world_fix_eq w k h.sb this,Bind_snr,Let_nr]
 unfold world_validContacts
 simp only [Let_nr]
 have hc0:cOk w=vcs (fun s=>vks s 0 k0&&vks w.Overlaps 0 k0&&(s.all (exk w)&&w.Overlaps.all (exk w))) w.Contacts []:=by rw [vcs_eq];rfl
 rw [hc0]
 refine (LOOP_i w.Contacts (fun i s=>s.length=i) (fun t _ s=>some (vcs (fun s=>vks s 0 k0&&vks w.Overlaps 0 k0&&(s.all (exk w)&&w.Overlaps.all (exk w))) t s)) _ _ h.sc rfl ?_ ?_)
 ·intro r i t s hp hw hc hm hr
  have hl:=h.contacts
  have hp2:(s++[(ix w.Contacts (i:Int)).Key]).length=i+1:=by simp [hp]
  have hb:(List.length s+[(ix w.Contacts (i:Int)).Key].length)*32<=140737488355328:=by simp [hp];omega
  simp only [dlt hc,if_true,hw,Chk_of hc,Chk_of hb,world_man_eq _ (sm_of (h.points _ hm) (by omega)),Bind_snr,Let_nr,hr _ hp2,vcs]
  split <;> rfl
 ·intro r s hp
  have hl:=h.contacts
  simp only [dll,ff,if_false]
  exact hf s (by omega)
def wv (w:World_):Int:=if (vset w.Settings != 0)=true then 17 else if (decide (32<(w.Bodies.length:Int))||decide (32<(w.Joints.length:Int))||decide (8192<(w.Contacts.length:Int))||decide (8192<(w.Overlaps.length:Int)))=true then 11 else if (!inb w.NextID 1 1099511627776 || !inb w.Frame 0 1099511627776)=true then 6 else if (!vbs w.NextID w.Bodies 0 0)=true then 14 else if (!vjs w w.Joints 0 0)=true then 15 else if (!cOk w)=true then 16 else 0
theorem world_Val_eq (w:World_) (h:Few w):world_Validate w=some (wv w):=by
 unfold world_Validate wv
 simp only [Let_nr,world_set_eq,world_in_eq,world_bodies_eq w h.sb,world_joints_eq w h.sj h.sb,world_con_eq w h,Bind_snr,Bind_if,cond_or,ga3,gt_iff_lt]
 repeat' split
 all_goals rfl
def SmB (b:Body):Prop:=b.Fixtures.length<=10000/\∀ f∈b.Fixtures,f.Shape.Vertices.length<=10000
theorem Few.smb {w:World_} (h:Few w):∀ b∈w.Bodies,SmB b:=fun b hb=>⟨Nat.le_trans (h.fixtures b hb) (by omega),fun f hf=>Nat.le_trans (h.vertices b hb f hf) (by omega)⟩
structure SmW (w:World_):Prop where
 bodies:w.Bodies.length<=10000
 joints:w.Joints.length<=10000
 contacts:w.Contacts.length<=10000
 overlaps:w.Overlaps.length<=10000
 points:∀ c∈w.Contacts,c.Manifold.Points.length<=10000
 body:∀ b∈w.Bodies,SmB b
theorem Few.smw {w:World_} (h:Few w):SmW w:=⟨Nat.le_trans h.bodies (by omega),Nat.le_trans h.joints (by omega),Nat.le_trans h.contacts (by omega),Nat.le_trans h.overlaps (by omega),fun c hc=>Nat.le_trans (h.points c hc) (by omega),h.smb⟩
def fewB (b:Body):Bool:=decide ((b.Fixtures.length:Int)<=8)&&b.Fixtures.all (fun f=>decide ((f.Shape.Vertices.length:Int)<=20))
def allF {X:Type} (fin bad:X):List Fixture->X
 | []=>fin
 | f::t=>if decide ((f.Shape.Vertices.length:Int)>20)=true then bad else allF fin bad t
theorem allF_eq {X:Type} (fin bad:X):∀ l:List Fixture,allF fin bad l=if l.all (fun f=>decide ((f.Shape.Vertices.length:Int)<=20))=true then fin else bad
 | []=>rfl
 | f :: t=>by
   unfold allF;rw [allF_eq fin bad t]
   by_cases h:(f.Shape.Vertices.length:Int)>20
   ·have:decide ((f.Shape.Vertices.length:Int)<=20)=false:=decide_eq_false (by omega)
    simp only [h,decide_true,if_true,List.all_cons,this,Bool.false_and,ff,if_false]
   ·have:decide ((f.Shape.Vertices.length:Int)<=20)=true:=decide_eq_true (by omega)
    simp only [decide_eq_false h,ff,if_false,List.all_cons,this,Bool.true_and]
def allB:List Body->Bool
 | []=>true
 | b::t=>if decide ((b.Fixtures.length:Int)>8)=true then false else if b.Fixtures.all (fun f=>decide ((f.Shape.Vertices.length:Int)<=20))=true then allB t else false
theorem allB_eq:∀ l:List Body,allB l=l.all fewB
 | []=>rfl
 | b :: t=>by
   unfold allB fewB;rw [allB_eq t]
   by_cases h:(b.Fixtures.length:Int)>8
   ·have:decide ((b.Fixtures.length:Int)<=8)=false:=decide_eq_false (by omega)
    simp only [h,decide_true,if_true,List.all_cons,this,Bool.false_and]
   ·have:decide ((b.Fixtures.length:Int)<=8)=true:=decide_eq_true (by omega)
    simp only [decide_eq_false h,ff,if_false,List.all_cons,this,Bool.true_and]
    cases b.Fixtures.all (fun f=>decide ((f.Shape.Vertices.length:Int)<=20)) <;> rfl
theorem ref22_Few_eq (l:List Body) (n:Nat) (hn:n<=10000):caromref22_Few l (n:Int)=some (decide ((l.length:Int)<=(n:Int))&&l.all fewB):=by
 unfold caromref22_Few
 simp only [Let_nr]
 by_cases h:(l.length:Int)>(n:Int)
 ·have:decide ((l.length:Int)<=(n:Int))=false:=decide_eq_false (by omega)
  simp only [h,decide_true,if_true,this,Bool.false_and]
 ·have hh:decide ((l.length:Int)<=(n:Int))=true:=decide_eq_true (by omega)
  simp only [decide_eq_false h,ff,if_false,hh,Bool.true_and]
  rw [<- allB_eq]
  refine LOOP_l0 l (fun t _=>some (allB t)) _ (sm_of (n:=10000) (by omega) (by omega)) ?_ ?_
  ·intro r i t hw hc hm hr
   simp only [dlt hc,if_true,Chk_of hc,allB]
   by_cases h8:((ix l (i:Int)).Fixtures.length:Int)>8
   ·simp only [h8,decide_true,if_true]
   ·simp only [decide_eq_false h8,ff,if_false]
    refine (LOOP_l0 (ix l (i:Int)).Fixtures (fun t _=>allF (r ((i:Int)+1)) (some false) t) _ (sm_of (n:=8) (by omega) (by omega)) ?_ ?_).trans ?_
    ·intro r2 j u hw2 hc2 hm2 hr2
     simp only [dlt hc2,if_true,Chk_of hc2,hw2,hr2,allF]
    ·intro r2;simp only [dll,ff,if_false,hw,allF]
    ·rw [allF_eq,hr];split <;> rfl
  ·intro r;simp only [dll,ff,if_false,allB]
def few (w:World_):Bool:=decide ((w.Joints.length:Int)<=40)&&decide ((w.Contacts.length:Int)<=80)&&decide ((w.Overlaps.length:Int)<=80)&&(decide ((w.Bodies.length:Int)<=40)&&w.Bodies.all fewB)&&w.Contacts.all (fun c=>decide ((c.Manifold.Points.length:Int)<=8))
def allC:List Contact->Bool
 | []=>true
 | c::t=>if decide ((c.Manifold.Points.length:Int)>8)=true then false else allC t
theorem allC_eq:∀ l:List Contact,allC l=l.all (fun c=>decide ((c.Manifold.Points.length:Int)<=8))
 | []=>rfl
 | c :: t=>by
   unfold allC;rw [allC_eq t]
   by_cases h:(c.Manifold.Points.length:Int)>8
   ·have:decide ((c.Manifold.Points.length:Int)<=8)=false:=decide_eq_false (by omega)
    simp only [h,decide_true,if_true,List.all_cons,this,Bool.false_and]
   ·have:decide ((c.Manifold.Points.length:Int)<=8)=true:=decide_eq_true (by omega)
    simp only [decide_eq_false h,ff,if_false,List.all_cons,this,Bool.true_and]
theorem ref25_Few_eq (w:World_):caromref25_Few w=some (few w):=by
 have hB:=ref22_Few_eq w.Bodies 40 (by omega)
 have e1:decide ((w.Joints.length:Int)>40) = !decide ((w.Joints.length:Int)<=40):=by rw [Bool.eq_iff_iff];simp
 have e2:decide ((w.Contacts.length:Int)>80) = !decide ((w.Contacts.length:Int)<=80):=by rw [Bool.eq_iff_iff];simp
 have e3:decide ((w.Overlaps.length:Int)>80) = !decide ((w.Overlaps.length:Int)<=80):=by rw [Bool.eq_iff_iff];simp
 have hB':caromref22_Few w.Bodies (40:Int)=some (decide ((w.Bodies.length:Int)<=40)&&w.Bodies.all fewB):=hB
 unfold caromref25_Few few
 simp only [Let_nr,hB',Bind_snr,Bind_if,cond_or,ga3,e1,e2,e3]
 by_cases hc:(w.Contacts.length:Int)<=80
 ·have hL:LOOP (fun (rec32:Int->Option Bool) (s33:Int)=>
   if decide (s33<(w.Contacts.length:Int))=true then Chk ((0:Int)<=s33/\s33<(w.Contacts.length:Int))
   (if decide (((ix w.Contacts s33).Manifold.Points.length:Int)>8)=true then some false else rec32 (IntKind.i64.wrap (s33+(1:Int)))) else some true) fuel (0:Int)=some (w.Contacts.all (fun c=>decide ((c.Manifold.Points.length:Int)<=8))):=by
   rw [<- allC_eq]
   refine LOOP_l0 w.Contacts (fun t _=>some (allC t)) _ (sm_of (n:=80) (by omega) (by omega)) ?_ ?_
   ·intro r i t hw hc hm hr
    simp only [dlt hc,if_true,Chk_of hc,hw,hr,allC]
    split <;> rfl
   ·intro r;simp only [dll,ff,if_false,allC]
  rw [hL]
  generalize decide ((w.Joints.length:Int)<=40)=b1
  generalize decide ((w.Contacts.length:Int)<=80)=b2
  generalize decide ((w.Overlaps.length:Int)<=80)=b3
  generalize decide ((w.Bodies.length:Int)<=40)=b4
  generalize w.Bodies.all fewB=b5
  cases b1 <;> cases b2 <;> cases b3 <;> cases b4 <;> cases b5 <;> rfl
 ·have e:decide ((w.Contacts.length:Int)<=80)=false:=decide_eq_false hc
  simp only [e,Bool.not_false,Bool.or_true,Bool.true_or,if_true,Bool.and_false,Bool.false_and]
theorem few_Few {w:World_} (h:few w=true):Few w:=by
 unfold few fewB at h
 simp only [Bool.and_eq_true,decide_eq_true_eq,List.all_eq_true] at h
 obtain ⟨⟨⟨⟨h1,h2⟩,h3⟩,h4,h5⟩,h6⟩:=h
 exact ⟨by omega,by omega,by omega,by omega,fun c hc=>by have:=h6 c hc;omega,fun b hb=>by have:=(h5 b hb).1;omega,fun b hb f hf=>by have:=(h5 b hb).2 f hf;omega⟩
def b9:Body:={ ID:=1,Kind:=1,Transform:=⟨⟨0,0⟩,0⟩,Velocity:=⟨0,0⟩,AngularVelocity:=0,Force:=⟨0,0⟩,Torque:=0,LinearDamping:=0,AngularDamping:=0,GravityScale:=0,Bullet:=false,FixedRotation:=false,NoSleep:=false,Asleep:=false,IdleSteps:=0,Fixtures:=[] }
theorem veq (a b:Vec):(decide (a.X=b.X)&&decide (a.Y=b.Y))=decide (a=b):=by
 rw [Bool.eq_iff_iff];cases a;cases b;simp
theorem jeq (x y:Joint):(decide (x.ID=y.ID)&&(decide (x.Kind=y.Kind)&&(decide (x.BodyA=y.BodyA)&&(decide (x.BodyB=y.BodyB)&&(decide (x.AnchorA=y.AnchorA)&&(decide (x.AnchorB=y.AnchorB)&&(decide (x.Axis=y.Axis)&&(decide (x.ReferenceAngle=y.ReferenceAngle)&&(decide (x.EnableLimit=y.EnableLimit)&&(decide (x.Lower=y.Lower)&&(decide (x.Upper=y.Upper)&&(decide (x.EnableMotor=y.EnableMotor)&&(decide (x.MotorSpeed=y.MotorSpeed)&&(decide (x.MaxForce=y.MaxForce)&&(decide (x.Softness=y.Softness)&&(decide (x.BreakForce=y.BreakForce)&&(decide (x.CollideConnected=y.CollideConnected)&&(decide (x.Impulses.fst=y.Impulses.fst)&&(decide (x.Impulses.snd.fst=y.Impulses.snd.fst)&&(decide (x.Impulses.snd.snd.fst=y.Impulses.snd.snd.fst)&&decide (x.Impulses.snd.snd.snd=y.Impulses.snd.snd.snd)))))))))))))))))))))=decide (x=y):=by
 obtain ⟨x1,x2,x3,x4,⟨x5,x6⟩,⟨x7,x8⟩,⟨x9,x10⟩,x11,x12,x13,x14,x15,x16,x17,x18,x19,x20,⟨x21,x22,x23,x24⟩⟩:=x
 obtain ⟨y1,y2,y3,y4,⟨y5,y6⟩,⟨y7,y8⟩,⟨y9,y10⟩,y11,y12,y13,y14,y15,y16,y17,y18,y19,y20,⟨y21,y22,y23,y24⟩⟩:=y
 rw [Bool.eq_iff_iff];simp [and_assoc]
theorem peq (x y:ContactPoint):(decide (x.Point=y.Point)&&(decide (x.Separation=y.Separation)&&(decide (x.ID=y.ID)&&(decide (x.NormalImpulse=y.NormalImpulse)&&decide (x.TangentImpulse=y.TangentImpulse)))))=decide (x=y):=by
 obtain ⟨⟨x5,x6⟩,x1,x2,x3,x4⟩:=x
 obtain ⟨⟨y5,y6⟩,y1,y2,y3,y4⟩:=y
 rw [Bool.eq_iff_iff];simp [and_assoc]
theorem steq (x y:Settings):(decide (x.TimeStep=y.TimeStep)&&(decide (x.Gravity=y.Gravity)&&(decide (x.Iterations=y.Iterations)&&decide (x.SleepSteps=y.SleepSteps))))=decide (x=y):=by
 obtain ⟨x1,⟨x5,x6⟩,x2,x3⟩:=x
 obtain ⟨y1,⟨y5,y6⟩,y2,y3⟩:=y
 rw [Bool.eq_iff_iff];simp [and_assoc]
theorem len_bne {α:Type} (l m:List α):((l.length:Int) != (m.length:Int)) = !decide (l.length=m.length):=by rw [Bool.eq_iff_iff];simp;omega
theorem if_not_dec {α:Type} {p:Prop} [Decidable p] (a b:α):(if (!decide p)=true then a else b)=if p then b else a:=by by_cases h:p <;> simp [h]
theorem ref16_Equal_eq (a b:Manifold) (h:a.Points.length<=10000):caromref16_Equal a b=some (decide (a=b)):=by
 obtain ⟨an,ap⟩:=a
 obtain ⟨bn,bp⟩:=b
 unfold caromref16_Equal
 simp only [Let_nr,veq,peq,len_bne,cond_or]
 by_cases hl:ap.length=bp.length
 ·rw [show LOOP _ fuel (0:Int)=_ from LOOP_eq2 ap bp (some true) (some false) _ (sm_of h (by omega)) hl ?_ ?_]
  ·by_cases h1:an=bn
   ·by_cases h2:ap=bp <;> simp [h1,h2,hl]
   ·simp [h1]
  ·intro r i hw hc hc2 hm
   simp only [dlt hc,if_true,hw,Chk_of hc,Chk_of hc2,if_not_dec]
  ·intro r;simp only [dll,ff,if_false]
 ·have:¬ ap=bp:=fun e=>hl (by rw [e])
  simp [hl,this]
theorem ref22_Keys_eq (a b:List PairKey) (h:a.length<=10000):caromref22_Keys a b=some (decide (a=b)):=by
 unfold caromref22_Keys
 simp only [Let_nr,keq,len_bne]
 by_cases hl:a.length=b.length
 ·rw [show LOOP _ fuel (0:Int)=_ from LOOP_eq2 a b (some true) (some false) _ (sm_of h (by omega)) hl ?_ ?_]
  ·by_cases h2:a=b <;> simp [h2,hl]
  ·intro r i hw hc hc2 hm
   simp only [dlt hc,if_true,hw,Chk_of hc,Chk_of hc2,if_not_dec]
  ·intro r;simp only [dll,ff,if_false]
 ·have:¬ a=b:=fun e=>hl (by rw [e])
  simp [hl,this]
theorem fixok {b:Body} (h:SmB b):GoOld.FixOk b:=⟨Nat.le_trans h.1 (by omega),fun f hf=>Nat.le_trans (h.2 f hf) (by omega)⟩
theorem ref23_Equal_eq' (a b:Body) (h:SmB a):caromref23_Equal a b=some (decide (a=b)):=by rw [br_caromref23_Equal,GoOld.ref23_Equal_eq a b (fixok h)]
theorem ref25_Equal_eq (a b:World_) (h:SmW a):caromref25_Equal a b=some (decide (a=b)):=by
 obtain ⟨a_s,ab,aj,ac,ao,an,af⟩:=a
 obtain ⟨b_s,bb,bj,bc,bo,bn,bf⟩:=b
 obtain ⟨h1,h2,h3,h4,h5,h6⟩:=h
 dsimp only at h1 h2 h3 h4 h5 h6
 unfold caromref25_Equal
 simp only [Let_nr,veq,jeq,keq,steq,len_bne,cond_or,ref22_Keys_eq ao bo h4,Bind_snr,Bind_if,ga3]
 simp only [ne_bne]
 by_cases hb:ab.length=bb.length
 ·by_cases hj:aj.length=bj.length
  ·by_cases hc:ac.length=bc.length
   ·rw [show LOOP _ fuel (0:Int)=_ from LOOP_eq2 ab bb (if aj=bj then (if ac=bc then some true else some false) else some false) (some false) _ (sm_of h1 (by omega)) hb ?_ ?_]
    ·by_cases e1:a_s=b_s <;> by_cases e2:an=bn <;> by_cases e3:af=bf <;> by_cases e4:ao=bo <;> by_cases e5:ab=bb <;> by_cases e6:aj=bj <;> by_cases e7:ac=bc <;> simp [e1,e2,e3,e4,e5,e6,e7,hb,hj,hc]
    ·intro r i hw hc hc2 hm
     simp only [dlt hc,if_true,hw,Chk_of hc,Chk_of hc2,ref23_Equal_eq' _ _ (h6 _ hm),Bind_snr,if_not_dec]
    ·intro r
     simp only [dll,ff,if_false]
     refine LOOP_eq2 aj bj (if ac=bc then some true else some false) (some false) _ (sm_of h2 (by omega)) hj ?_ ?_
     ·intro r i hw hc hc2 hm
      simp only [dlt hc,if_true,hw,Chk_of hc,Chk_of hc2,if_not_dec]
     ·intro r
      simp only [dll,ff,if_false]
      refine LOOP_eq2 ac bc (some true) (some false) _ (sm_of h3 (by omega)) hc ?_ ?_
      ·intro r i hw hc hc2 hm
       simp only [dlt hc,if_true,hw,Chk_of hc,Chk_of hc2,Chk_of (fun _=>hc),Chk_of (fun _=>hc2),ref16_Equal_eq _ _ (h5 _ hm),Bind_snr,Bind_if,ga3]
       generalize ix ac (i:Int)=x
       generalize ix bc (i:Int)=y
       obtain ⟨xk,xm⟩:=x
       obtain ⟨yk,ym⟩:=y
       by_cases e1:xk=yk <;> by_cases e2:xm=ym <;> simp [e1,e2]
      ·intro r;simp only [dll,ff,if_false]
   ·have:¬ ac=bc:=fun e=>hc (by rw [e])
    simp [hc,this]
  ·have:¬ aj=bj:=fun e=>hj (by rw [e])
   simp [hj,this]
 ·have:¬ ab=bb:=fun e=>hb (by rw [e])
  simp [hb,this]
end GoForm
end
