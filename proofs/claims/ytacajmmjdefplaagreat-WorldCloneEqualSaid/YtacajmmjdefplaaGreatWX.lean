/- Several texts in one. No conditions. -/
import Derived.Test.YtacajmmjdefplaaGreatF25D
import Derived.Test.YtacajmmjdefplaaGreatF25B
import Derived.Test.YtacajmmjdefplaaGreatF25OL
import Derived.Test.YtacajmmjdefplaaGreatQE
import Derived.Test.YtacajmmjdefplaaGreatF25T
import Derived.Test.YtacajmmjdefplaaGreatKV
section
set_option linter.all false
set_option maxRecDepth 100000
open Go Go.Rx
namespace GoForm
theorem bodyV (b:Body):body_Validate b=caromref23_Validate b:=by rw [br_body_Validate,br_caromref23_Validate,GoOld.body_Validate_eq,GoOld.ref23_Validate_eq]
theorem bodyV' (b:Body):caromref23_Validate b=some (GoOld.validB b):=by rw [br_caromref23_Validate,GoOld.ref23_Validate_eq]
def inb (x a b:Int):Bool:=decide (a≤x)&&decide (x≤b)
theorem world_in_eq (x a b:Int):world_in x a b=some (inb x a b):=by
  unfold world_in inb;simp only [Let_nr,ge_iff_le,cond_and]
theorem joint_in_eq (x a b:Int):joint_inRange x a b=some (inb x a b):=by
  unfold joint_inRange inb;simp only [Let_nr,ge_iff_le,cond_and]
def vset (s:Settings):Int:=if (inb s.TimeStep 64 8192&&inb s.Gravity.X (-16777216) 16777216&&inb s.Gravity.Y (-16777216) 16777216&&inb s.Iterations 1 32&&inb s.SleepSteps 0 1048576)=true then 0 else 6
theorem world_set_eq (s:Settings):world_ValidateSettings s=some (vset s):=by
  unfold world_ValidateSettings vset
  simp only [world_in_eq,Let_nr,Bind_snr,Bind_if]
  generalize inb s.TimeStep 64 8192=b1
  generalize inb s.Gravity.X (-16777216) 16777216=b2
  generalize inb s.Gravity.Y (-16777216) 16777216=b3
  generalize inb s.Iterations 1 32=b4
  generalize inb s.SleepSteps 0 1048576=b5
  cases b1 <;> cases b2 <;> cases b3 <;> cases b4 <;> cases b5 <;> rfl
/-! FindBody -/
def fb (w:World_) (id:Int):Int:=idx (fun b:Body=>b.ID==id) w.Bodies 0
theorem world_Find_eq (w:World_) (id:Int) (h:Sm w.Bodies):world_FindBody w id=some (fb w id):=by
  unfold world_FindBody slices_IndexFunc fb
  simp only [Let_nr]
  rw [show LOOP _ fuel (0:Int)=_ from LOOP_l0 w.Bodies (fun t i=>some (idx (fun b:Body=>b.ID==id) t i)) _ h ?_ ?_]
  · exact Bind_snr _ _
  · intro r i t hw hc hm hr
    simp only [dlt hc,if_true,hw,Chk_of hc,world_FindBody_1,Let_nr,Bind_snr,hr,idx]
    split <;> rfl
  · intro r;simp only [dll,ff,if_false,idx]
theorem fb_bd (w:World_) (id:Int):fb w id = -1∨(0≤fb w id∧fb w id<(w.Bodies.length:Int)):=by
  have:=idx_bd (fun b:Body=>b.ID==id) w.Bodies 0;unfold fb;simpa using this
/-! bodies -/
def vbs (N:Int):List Body→Nat→Int→Bool
  | [],_,_=>true
  | b::t,i,p=>if (GoOld.validB b != 0||decide (N≤b.ID)||decide (b.ID≤p))=true then false else vbs N t (i+1) b.ID
theorem world_bodies_eq (w:World_) (h:Sm w.Bodies):world_validBodies w=some (vbs w.NextID w.Bodies 0 0):=by
  unfold world_validBodies
  simp only [Let_nr]
  refine LOOP_l1 w.Bodies (fun t i p=>some (vbs w.NextID t i p)) _ 0 h ?_ ?_
  · intro r i t s hw hc hm hr
    simp only [dlt hc,if_true,hw,Chk_of hc,Let_nr,bodyV,bodyV',Bind_snr,hr,vbs,cond_or,ge_iff_le]
    split <;> rfl
  · intro r s;simp only [dll,ff,if_false,vbs]
/-! joints -/
def inv4 (v:Vec) (m:Int):Bool:=inb v.X (-m) m&&inb v.Y (-m) m
theorem joint_pt_eq (v:Vec) (m:Int) (h:0≤m∧m≤1000000000000):joint_pointInRange v m=some (inv4 v m):=by
  unfold joint_pointInRange inv4
  have e:IntKind.i64.wrap ((0:Int) - m) = -m:=by rw [wrap_in _ (by omega) (by omega)];omega
  simp only [Let_nr,joint_in_eq,Bind_snr,Bind_if,e,cond_and,ga1]
def reach (k:Int):Int:=if (k==5)=true then 268435456 else 1048576
def limR (k:Int):Int × Int:=if (k==1)=true then (0,268435456) else if (k==2)=true then (-205888,205888) else (-268435456,268435456)
theorem joint_lim_eq (k:Int):joint_limitRange k=some (limR k):=by
  unfold joint_limitRange limR;simp only [Let_nr];split <;> (try split) <;> rfl
def impOk (j:Joint):Bool:=[j.Impulses.fst,j.Impulses.snd.fst,j.Impulses.snd.snd.fst,j.Impulses.snd.snd.snd].all fun x=>inb x (-536870911) 536870911
def numOk (j:Joint):Bool:=impOk j&&(inb j.ID 1 1099511627776&&inv4 j.AnchorA (reach j.Kind)&&inv4 j.AnchorB 1048576&&inb j.ReferenceAngle (-205888) 205887&&inb j.Lower (limR j.Kind).1 (limR j.Kind).2&&inb j.Upper (limR j.Kind).1 (limR j.Kind).2&&decide (j.Lower≤j.Upper)&&inb j.MotorSpeed (-16777216) 16777216&&inb j.MaxForce 0 536870911&&inb j.Softness 0 536870911&&inb j.BreakForce 0 536870911)
theorem reach_bd (k:Int):0≤reach k∧reach k≤1000000000000:=by unfold reach;split <;> omega
theorem sm4 (a b c d:Int):Sm [a,b,c,d]:=by unfold Sm;simp
def all4 (fin:Bool):List Int→Bool
  | []=>fin
  | a::t=>if (!inb a (-536870911) 536870911)=true then false else all4 fin t
theorem all4_eq (fin:Bool):∀ l:List Int,all4 fin l=(l.all (fun x=>inb x (-536870911) 536870911)&&fin)
  | []=>rfl
  | a::t=>by unfold all4;rw [all4_eq fin t];cases h:inb a (-536870911) 536870911 <;> simp [h]
theorem joint_num_eq (j:Joint):joint_numbersInRange j=some (numOk j):=by
  unfold joint_numbersInRange numOk impOk
  rw [← all4_eq]
  have h1:∀ m:Int,0≤m∧m≤1000000000000→joint_pointInRange j.AnchorA m=some (inv4 j.AnchorA m):=fun m=>joint_pt_eq _ m
  have h2:=joint_pt_eq j.AnchorB 1048576 (by omega)
  have hK:∀ m:Int,reach j.Kind=m→0≤m∧m≤1000000000000:=fun m h=>h ▸ reach_bd _
  by_cases hk:(j.Kind==5)=true <;> simp only [Join_nr,Let_nr,hk,ff,if_true,if_false,joint_lim_eq,Bind_snr,joint_in_eq,h2,h1 268435456 (by omega),h1 1048576 (by omega),Bind_if,cond_and,ga1,reach]
  all_goals
    refine LOOP_l0 [j.Impulses.fst,j.Impulses.snd.fst,j.Impulses.snd.snd.fst,j.Impulses.snd.snd.snd] (fun t _=>some (all4 _ t)) _ (sm4 _ _ _ _) ?_ ?_
    · intro r i t hw hc hm hr
      have hc4:(0:Int)≤(i:Int)∧(i:Int)<((4:Nat):Int):=hc
      have hd4:decide ((i:Int)<(4:Int))=true:=dlt hc
      simp only [hd4,if_true,hw,Chk_of hc4,hr,all4]
      split <;> rfl
    · intro r
      have:decide (([j.Impulses.fst,j.Impulses.snd.fst,j.Impulses.snd.snd.fst,j.Impulses.snd.snd.snd].length:Int)<(4:Int))=false:=rfl
      simp only [this,ff,if_false,all4]
def jbOk (j:Joint):Bool:=if (j.Kind==5)=true then (j.BodyA==0&&inb j.BodyB 1 1099511627776) else (inb j.BodyA 1 1099511627776&&inb j.BodyB 1 1099511627776&&(j.BodyA != j.BodyB))
theorem joint_bod_eq (j:Joint):joint_validBodies j=some (jbOk j):=by
  unfold joint_validBodies jbOk
  simp only [Let_nr,joint_in_eq,Bind_snr,Bind_if,cond_and,ga1]
  split <;> rfl
def plainA (j:Joint):Bool:=decide (j.Axis.X=0)&&decide (j.Axis.Y=0)
def jinc (j:Joint):Bool:=if (j.Kind==3)=true then !inb (GoOld.lenV j.Axis) 65520 65552 else if (j.Kind==1)=true then (!plainA j||j.EnableMotor || !j.EnableLimit) else if (j.Kind==4)=true then (!plainA j||j.EnableMotor||j.EnableLimit) else if (j.Kind==5)=true then (!plainA j||j.EnableMotor||j.EnableLimit) else !plainA j
theorem joint_inc_eq (j:Joint):joint_inconsistent j=some (jinc j):=by
  unfold joint_inconsistent jinc plainA
  simp only [Let_nr,Join_nr,br_vec2_Length,GoOld.vec2_Length_eq,joint_in_eq,Bind_snr,Bind_if,cond_and,cond_or]
  repeat' split
  all_goals rfl
def jv (j:Joint):Int:=if (decide (j.Kind<1)||decide (5<j.Kind))=true then 10 else if (!numOk j)=true then 6 else if (!jbOk j)=true then 14 else if jinc j=true then 15 else 0
theorem joint_Val_eq (j:Joint):joint_Validate j=some (jv j):=by
  unfold joint_Validate jv
  simp only [Let_nr,joint_num_eq,joint_bod_eq,joint_inc_eq,Bind_snr,cond_or,gt_iff_lt]
  repeat' split
  all_goals rfl
end GoForm
/-
  Plain laws of world: what validation of joints and contacts computes. No conditions.
-/
set_option linter.all false
set_option maxRecDepth 100000
open Go Go.Rx
namespace GoForm
def jex (w:World_) (j:Joint):Bool:=decide (0≤fb w j.BodyB)&&(j.Kind==5||decide (0≤fb w j.BodyA))
theorem world_ex_eq (w:World_) (j:Joint) (h:Sm w.Bodies):world_bodiesExist w j=some (jex w j):=by
  unfold world_bodiesExist jex
  simp only [Let_nr,world_Find_eq w _ h,Bind_snr,Bind_if,cond_and,cond_or,ge_iff_le,ga8]
def jcon (w:World_) (j:Joint):Bool:=(j.BodyA==0||decide (0≤fb w j.BodyA))&&(j.BodyB==0||decide (0≤fb w j.BodyB))
theorem jv_zero {j:Joint} (h:jv j=0):numOk j=true∧jbOk j=true∧jinc j=false∧1≤j.Kind∧j.Kind≤5:=by
  unfold jv at h
  split at h
  · omega
  · split at h
    · omega
    · split at h
      · omega
      · split at h
        · omega
        · simp_all
theorem jex_con {w:World_} {j:Joint} (h:jv j=0):jex w j=jcon w j:=by
  have h2:=(jv_zero h).2.1
  unfold jbOk inb at h2
  unfold jex jcon
  by_cases hk:j.Kind=5
  · simp [hk] at h2 ⊢
    have:¬ j.BodyB=0:=by omega
    simp [h2.1,this]
  · simp [hk] at h2 ⊢
    have:¬ j.BodyB=0:=by omega
    have:¬ j.BodyA=0:=by omega
    have e1:(j.BodyA==0)=false:=by simpa using this
    have e2:(j.BodyB==0)=false:=by simp;omega
    have e3:(j.Kind==5)=false:=by simpa using hk
    rw [e1,e2,e3];simp only [Bool.false_or];exact Bool.and_comm _ _
def vjs (w:World_):List Joint→Nat→Int→Bool
  | [],_,_=>true
  | j::t,i,p=>if (jv j != 0||decide (w.NextID≤j.ID)||decide (j.ID≤p) || !jcon w j||decide (0≤fb w j.ID))=true then false else vjs w t (i+1) j.ID
theorem world_joints_eq (w:World_) (h:Sm w.Joints) (hb:Sm w.Bodies):world_validJoints w=some (vjs w w.Joints 0 0):=by
  unfold world_validJoints
  simp only [Let_nr]
  refine LOOP_l1 w.Joints (fun t i p=>some (vjs w t i p)) _ 0 h ?_ ?_
  · intro r i t s hw hc hm hr
    simp only [dlt hc,if_true,hw,Chk_of hc,Let_nr,joint_Val_eq,world_ex_eq w _ hb,world_Find_eq w _ hb,Bind_snr,Bind_if,hr,vjs,cond_or,ge_iff_le,ga3,ga5]
    by_cases hj:jv (ix w.Joints (i:Int))=0
    · rw [jex_con hj];split <;> rfl
    · simp [hj]
  · intro r s;simp only [dll,ff,if_false,vjs]
end GoForm
/-
  Plain laws of world: what validation of contacts computes. No conditions.
-/
set_option linter.all false
set_option maxRecDepth 100000
open Go Go.Rx
namespace GoForm
theorem cmp_nan (x:Int):cmp_isNaN x=some false:=by unfold cmp_isNaN;simp [Let_nr]
def cmpZ (x y:Int):Int:=if x<y then -1 else if y<x then 1 else 0
theorem cmp_eq (x y:Int):cmp_Compare x y=some (cmpZ x y):=by
  unfold cmp_Compare cmpZ
  simp only [cmp_nan,Bind_snr,ff,if_false,Let_nr,decide_eq_true_eq,gt_iff_lt]
  split
  · rfl
  · split <;> rfl
def orZ:List Int→Int
  | []=>0
  | a::t=>if (a != 0)=true then a else orZ t
theorem or_eq (l:List Int) (h:Sm l):cmp_Or l=some (orZ l):=by
  unfold cmp_Or
  simp only [Let_nr]
  refine LOOP_l0 l (fun t _=>some (orZ t)) _ h ?_ ?_
  · intro r i t hw hc hm hr
    simp only [dlt hc,if_true,hw,Chk_of hc,Let_nr,hr,orZ]
    split <;> rfl
  · intro r;simp only [dll,ff,if_false,orZ]
def lessK (a b:PairKey):Bool:=if a.BodyA≠b.BodyA then decide (a.BodyA<b.BodyA) else if a.FixtureA≠b.FixtureA then decide (a.FixtureA<b.FixtureA) else if a.BodyB≠b.BodyB then decide (a.BodyB<b.BodyB) else decide (a.FixtureB<b.FixtureB)
theorem cmpZ_0 (x y:Int):cmpZ x y=0↔x=y:=by unfold cmpZ;split <;> (try split) <;> omega
theorem cmpZ_n (x y:Int):cmpZ x y<0↔x<y:=by unfold cmpZ;split <;> (try split) <;> omega
theorem less_eq (a b:PairKey):broadphase_Less a b=some (lessK a b):=by
  unfold broadphase_Less broadphase_compare lessK
  simp only [cmp_eq,Bind_snr]
  rw [or_eq _ (sm4 _ _ _ _)]
  simp only [Bind_snr,Let_nr,orZ,bne_iff_ne,ne_eq,cmpZ_0]
  by_cases h1:a.BodyA=b.BodyA
  · by_cases h2:a.FixtureA=b.FixtureA
    · by_cases h3:a.BodyB=b.BodyB
      · by_cases h4:a.FixtureB=b.FixtureB
        · simp [h1,h2,h3,h4]
        · simp [h1,h2,h3,h4,cmpZ_n]
      · simp [h1,h2,h3,cmpZ_n]
    · simp [h1,h2,cmpZ_n]
  · simp [h1,cmpZ_n]
theorem lessK_irr (a:PairKey):lessK a a=false:=by unfold lessK;simp
def okK (k:PairKey):Bool:=decide (k.BodyA<k.BodyB)&&decide (0≤k.FixtureA)&&decide (k.FixtureA<4)&&decide (0≤k.FixtureB)&&decide (k.FixtureB<4)
theorem valid_eq (k:PairKey):broadphase_valid k=some (okK k):=by
  unfold broadphase_valid okK;simp only [Let_nr,cond_and,ge_iff_le]
def vks:List PairKey→Nat→PairKey→Bool
  | [],_,_=>true
  | k::t,i,p=>if (!okK k||(decide (0<(i:Int)) && !lessK p k))=true then false else vks t (i+1) k
theorem keq (a b:PairKey):(decide (a.BodyA=b.BodyA)&&(decide (a.FixtureA=b.FixtureA)&&(decide (a.BodyB=b.BodyB)&&decide (a.FixtureB=b.FixtureB))))=decide (a=b):=by
  rw [Bool.eq_iff_iff];cases a;cases b;simp
theorem vk_eq (l:List PairKey) (h:Sm l):broadphase_ValidKeys l=some (vks l 0 ⟨0,0,0,0⟩):=by
  unfold broadphase_ValidKeys
  simp only [Let_nr,keq]
  refine LOOP_l2 l (fun t i p=>some (vks t i p)) _ _ h ?_ ?_
  · intro r i t s hw hc hm hr
    have g:∀ (c e f a d:Bool),(c||(e&&(f || !(if (c==false&&e==true&&f==false)=true then a else d))))=(c||(e&&(f || !a))):=by intro c e f a d;cases c <;> cases e <;> cases f <;> rfl
    simp only [dlt hc,if_true,hw,Chk_of hc,Let_nr,valid_eq,less_eq,Bind_snr,Bind_if,hr,vks,cond_or,cond_and,gt_iff_lt,g]
    have e:(decide (ix l (i:Int)=s) || !lessK s (ix l (i:Int))) = !lessK s (ix l (i:Int)):=by
      by_cases hh:ix l (i:Int)=s
      · rw [hh,lessK_irr];simp
      · simp [hh]
    rw [e];split <;> rfl
  · intro r s;simp only [dll,ff,if_false,vks]
end GoForm
/-
  Plain laws of world: what validation of contacts computes. No conditions.
-/
set_option linter.all false
set_option maxRecDepth 100000
open Go Go.Rx
namespace GoForm
/-! the standard library's searches -/
theorem ixf_int (l:List Int) (f:Int→Option Bool) (g:Int→Bool) (h:Sm l) (hf:∀ a∈l,f a=some (g a)):slices_IndexFunc_172 l f=some (idx g l 0):=by
  unfold slices_IndexFunc_172
  simp only [Let_nr]
  refine LOOP_l0 l (fun t i=>some (idx g t i)) _ h ?_ ?_
  · intro r i t hw hc hm hr
    simp only [dlt hc,if_true,hw,Chk_of hc,Let_nr,hf _ hm,Bind_snr,hr,idx]
    split <;> rfl
  · intro r;simp only [dll,ff,if_false,idx]
theorem ixf_pt (l:List ContactPoint) (f:ContactPoint→Option Bool) (g:ContactPoint→Bool) (h:Sm l) (hf:∀ a∈l,f a=some (g a)):slices_IndexFunc_148 l f=some (idx g l 0):=by
  unfold slices_IndexFunc_148
  simp only [Let_nr]
  refine LOOP_l0 l (fun t i=>some (idx g t i)) _ h ?_ ?_
  · intro r i t hw hc hm hr
    simp only [dlt hc,if_true,hw,Chk_of hc,Let_nr,hf _ hm,Bind_snr,hr,idx]
    split <;> rfl
  · intro r;simp only [dll,ff,if_false,idx]
theorem ixf_key (l:List PairKey) (f:PairKey→Option Bool) (g:PairKey→Bool) (h:Sm l) (hf:∀ a∈l,f a=some (g a)):slices_IndexFunc_101 l f=some (idx g l 0):=by
  unfold slices_IndexFunc_101
  simp only [Let_nr]
  refine LOOP_l0 l (fun t i=>some (idx g t i)) _ h ?_ ?_
  · intro r i t hw hc hm hr
    simp only [dlt hc,if_true,hw,Chk_of hc,Let_nr,hf _ hm,Bind_snr,hr,idx]
    split <;> rfl
  · intro r;simp only [dll,ff,if_false,idx]
theorem ctf_int (l:List Int) (f:Int→Option Bool) (g:Int→Bool) (h:Sm l) (hf:∀ a∈l,f a=some (g a)):slices_ContainsFunc_146 l f=some (l.any g):=by
  unfold slices_ContainsFunc_146;simp only [ixf_int l f g h hf,Bind_snr,Let_nr,ge_iff_le,idx_any]
theorem ctf_pt (l:List ContactPoint) (f:ContactPoint→Option Bool) (g:ContactPoint→Bool) (h:Sm l) (hf:∀ a∈l,f a=some (g a)):slices_ContainsFunc_119 l f=some (l.any g):=by
  unfold slices_ContainsFunc_119;simp only [ixf_pt l f g h hf,Bind_snr,Let_nr,ge_iff_le,idx_any]
theorem ctf_key (l:List PairKey) (f:PairKey→Option Bool) (g:PairKey→Bool) (h:Sm l) (hf:∀ a∈l,f a=some (g a)):slices_ContainsFunc l f=some (l.any g):=by
  unfold slices_ContainsFunc;simp only [ixf_key l f g h hf,Bind_snr,Let_nr,ge_iff_le,idx_any]
/-! manifolds -/
def sat (x:Int):Bool:=inb x (-536870911) 536870911
theorem world_sat_eq (l:List Int) (h:Sm l):world_saturated l=some (l.all sat):=by
  unfold world_saturated
  show Rx.Bind (slices_ContainsFunc_146 l world_saturated_1) (fun r=>Let (!r) fun x=>some x)=_
  rw [ctf_int l _ (fun n => !sat n) h (fun a _=>by unfold world_saturated_1 sat;simp only [world_in_eq,Bind_snr,Let_nr])]
  simp only [Bind_snr,Let_nr,List.any_eq_not_all_not,Bool.not_not]
def pOk (p:ContactPoint):Bool := !decide (p.NormalImpulse<0)&&(sat p.Point.X&&(sat p.Point.Y&&(sat p.Separation&&(sat p.ID&&(sat p.NormalImpulse&&sat p.TangentImpulse)))))
def mOk (m:Manifold):Bool := !(decide ((m.Points.length:Int)<1)||decide (2<(m.Points.length:Int))||((m.Points.length:Int)==2&&(ix m.Points 0).ID==(ix m.Points 1).ID) || !(sat m.Normal.X&&sat m.Normal.Y))&&m.Points.all pOk
theorem world_pt1 (p:ContactPoint):world_validManifold_1 p=some (!pOk p):=by
  have h6:∀ a b c d e f:Int,Sm [a,b,c,d,e,f]:=by intros;unfold Sm;simp
  unfold world_validManifold_1 pOk
  simp only [Let_nr,world_sat_eq _ (h6 _ _ _ _ _ _),Bind_snr,Bind_if,cond_or,ga3,List.all_cons,List.all_nil,Bool.and_true,Bool.not_and,Bool.not_not]
theorem chkP {l:List ContactPoint} {a:Bool}:((!a&&((l.length:Int)==2))=true→(0:Int)≤(0:Int)∧(0:Int)<(l.length:Int))∧((!a&&((l.length:Int)==2))=true→(0:Int)≤(1:Int)∧(1:Int)<(l.length:Int)):=by
  constructor <;> intro h <;> simp at h <;> omega
theorem world_man_eq (m:Manifold) (h:Sm m.Points):world_validManifold m=some (mOk m):=by
  have h2:∀ a b:Int,Sm [a,b]:=by intros;unfold Sm;simp
  have hg:∀ a b:Bool,(a==false&&b==true)=(!a&&b):=by intro a b;cases a <;> cases b <;> rfl
  unfold world_validManifold mOk
  simp only [Let_nr,hg]
  rw [Chk_of chkP.1,Chk_of chkP.2]
  simp only [world_sat_eq _ (h2 _ _),Bind_snr,Bind_if,cond_or,cond_and,ga3,List.all_cons,List.all_nil,Bool.and_true,gt_iff_lt]
  rw [ctf_pt m.Points _ (fun p => !pOk p) h (fun p _=>world_pt1 p)]
  simp only [Bind_snr,List.any_eq_not_all_not,Bool.not_not]
  generalize (decide ((m.Points.length:Int)<1)||decide (2<(m.Points.length:Int))||((m.Points.length:Int)==2&&(ix m.Points 0).ID==(ix m.Points 1).ID) || !(sat m.Normal.X&&sat m.Normal.Y))=c
  cases c <;> simp
end GoForm
/-
  Plain laws of world: validation agrees with the reference. No conditions.
-/
set_option linter.all false
set_option maxRecDepth 100000
open Go Go.Rx
namespace GoForm
def exw (w:World_) (id n:Int):Bool:=decide (0≤fb w id)&&decide (0≤n)&&decide (n<((ix w.Bodies (fb w id)).Fixtures.length:Int))
def exk (w:World_) (k:PairKey):Bool:=exw w k.BodyA k.FixtureA&&exw w k.BodyB k.FixtureB
theorem world_fix_eq (w:World_) (k:PairKey) (h:Sm w.Bodies) (hk:okK k=true):world_fixturesExist w k=some (exk w k):=by
  unfold world_fixturesExist exk exw
  simp only [Let_nr,world_Find_eq w _ h,Bind_snr,ge_iff_le,cond_and]
  have h1:=fb_bd w k.BodyA
  have h2:=fb_bd w k.BodyB
  rw [Chk_of (by intro hh;simp at hh;omega),Chk_of (by intro hh;simp at hh;omega)]
  refine congrArg some ?_
  unfold okK at hk;simp at hk
  rw [Bool.eq_iff_iff];simp;omega
theorem concat_eq (a b:List PairKey) (ha:a.length≤10000) (hb:b.length≤10000):slices_Concat [a,b]=some (a++b):=by
  obtain ⟨n,hn⟩:∃ n,fuel=n+3:=⟨2 ^ 70 - 3,rfl⟩
  have w1:IntKind.i64.wrap ((0:Int)+(a.length:Int))=(a.length:Int):=by rw [wrap_in _ (by omega) (by omega)];omega
  have w2:IntKind.i64.wrap ((a.length:Int)+(b.length:Int))=(a.length:Int)+(b.length:Int):=wrap_in _ (by omega) (by omega)
  have w3:IntKind.i64.wrap ((0:Int)+(1:Int))=1:=rfl
  have w4:IntKind.i64.wrap ((1:Int)+(1:Int))=2:=rfl
  have w5:IntKind.i64.wrap ((0:Int) - (0:Int))=0:=rfl
  have w6:IntKind.i64.wrap ((a.length:Int)+(b.length:Int) - 0)=(a.length:Int)+(b.length:Int):=by rw [wrap_in _ (by omega) (by omega)];omega
  have x0:ix [a,b] (0:Int)=a:=rfl
  have x1:ix [a,b] (1:Int)=b:=rfl
  have l2:(([a,b]:List (List PairKey)).length:Int)=2:=rfl
  have d0:decide ((0:Int)<2)=true:=rfl
  have d1:decide ((1:Int)<2)=true:=rfl
  have d2:decide ((2:Int)<2)=false:=rfl
  have e1:decide ((a.length:Int)<0)=false:=decide_eq_false (by omega)
  have e2:decide ((a.length:Int)+(b.length:Int)<0)=false:=decide_eq_false (by omega)
  have c0:(0:Int)≤(0:Int)∧(0:Int)<2:=by omega
  have c1:(0:Int)≤(1:Int)∧(1:Int)<2:=by omega
  have inner:∀ v:List PairKey,v=[]→LOOP (fun (rec688:List PairKey × Int→Option (List PairKey)) (s689:List PairKey × Int)=>
      if decide (s689.snd<(2:Int))=true then Chk ((0:Int)≤s689.snd∧s689.snd<(2:Int))
      (Chk ((List.length s689.fst+(ix [a,b] s689.snd).length)*(32:Nat)≤(140737488355328:Nat)) (rec688 (s689.fst++ix [a,b] s689.snd,IntKind.i64.wrap (s689.snd+(1:Int))))) else some s689.fst) (n+3) (v,(0:Int))=some (a++b):=by
    intro v hv;subst hv
    have b1:(List.length ([]:List PairKey)+a.length)*32≤140737488355328:=by simp;omega
    have b2:(a.length+b.length)*32≤140737488355328:=by omega
    simp only [LOOP_s,d0,d1,d2,if_true,ff,if_false,Chk_of c0,Chk_of c1,x0,x1,w3,w4,Chk_of b1,List.nil_append,Chk_of b2]
  unfold slices_Concat
  rw [hn]
  simp only [Let_nr,Join_nr,l2]
  rw [LOOP_s]
  simp only [d0,if_true,Chk_of c0,x0,w1,e1,ff,if_false,w3]
  rw [LOOP_s]
  simp only [d1,if_true,Chk_of c1,x1,w2,e2,ff,if_false,w4]
  rw [LOOP_s]
  simp only [d2,ff,if_false,e2,w5,w6]
  by_cases hz:(a.length:Int)+(b.length:Int)>0
  · rw [if_pos (decide_eq_true hz)]
    rw [Chk_true,Chk_of ⟨hz,by omega,by omega⟩,Chk_of (by simp),Chk_of (by simp)]
    exact inner _ (by simp)
  · rw [if_neg (by simpa using hz)]
    exact inner _ rfl
end GoForm
/-
  Plain laws of world: validation agrees with the reference. No conditions.
-/
set_option linter.all false
set_option maxRecDepth 100000
open Go Go.Rx
namespace GoForm
structure Few (w:World_):Prop where
  bodies:w.Bodies.length≤40
  joints:w.Joints.length≤40
  contacts:w.Contacts.length≤80
  overlaps:w.Overlaps.length≤80
  points:∀ c∈w.Contacts,c.Manifold.Points.length≤8
  fixtures:∀ b∈w.Bodies,b.Fixtures.length≤8
  vertices:∀ b∈w.Bodies,∀ f∈b.Fixtures,f.Shape.Vertices.length≤20
theorem Few.sb {w:World_} (h:Few w):Sm w.Bodies:=sm_of h.bodies (by omega)
theorem Few.sj {w:World_} (h:Few w):Sm w.Joints:=sm_of h.joints (by omega)
theorem Few.sc {w:World_} (h:Few w):Sm w.Contacts:=sm_of h.contacts (by omega)
theorem Few.so {w:World_} (h:Few w):Sm w.Overlaps:=sm_of h.overlaps (by omega)
def keysOf (w:World_):List PairKey:=w.Contacts.map (·.Key)
def k0:PairKey:=⟨0,0,0,0⟩
def cOk (w:World_):Bool:=w.Contacts.all (fun c=>mOk c.Manifold)&&(vks (keysOf w) 0 k0&&vks w.Overlaps 0 k0&&((keysOf w).all (exk w)&&w.Overlaps.all (exk w)))
theorem vks_ok:∀ (l:List PairKey) (i:Nat) (p:PairKey),vks l i p=true→∀ k∈l,okK k=true
  | [],_,_,_,_,h=>by simp at h
  | a :: t,i,p,h,k,hk=>by
    unfold vks at h
    split at h
    · exact absurd h (by simp)
    · rename_i hh
      rcases List.mem_cons.1 hk with e | e
      · subst e;simp at hh;exact hh.1
      · exact vks_ok t _ _ h k e
def vcs (fin:List PairKey→Bool):List Contact→List PairKey→Bool
  | [],s=>fin s
  | c::t,s=>if (!mOk c.Manifold)=true then false else vcs fin t (s++[c.Key])
theorem vcs_eq (fin:List PairKey→Bool):∀ (l:List Contact) (s:List PairKey),vcs fin l s=(l.all (fun c=>mOk c.Manifold)&&fin (s++l.map (·.Key)))
  | [],s=>by simp [vcs]
  | c::t,s=>by unfold vcs;rw [vcs_eq fin t];cases h:mOk c.Manifold <;> simp [h]
theorem world_con_eq (w:World_) (h:Few w):world_validContacts w=some (cOk w):=by
  have hf : ∀ s:List PairKey,s.length≤80→(Rx.Bind (broadphase_ValidKeys s) fun (r726:Bool)=>
      Rx.Bind (if ((!r726)==false)=true then broadphase_ValidKeys w.Overlaps else some default) fun (r728:Bool)=>
      if (bif !r726 then true else !r728)=true then some false
      else
      Rx.Bind (slices_Concat [s,w.Overlaps]) fun (r731:List PairKey)=>
      Rx.Bind (slices_ContainsFunc r731 fun a=>world_validContacts_1 a w) fun (r732:Bool)=>some !r732)=some (vks s 0 k0&&vks w.Overlaps 0 k0&&(s.all (exk w)&&w.Overlaps.all (exk w))):=by
    intro s hs
    simp only [vk_eq s (sm_of hs (by omega)),vk_eq _ h.so,Bind_snr,Bind_if,cond_or,ga3]
    show (if (!vks s 0 k0 || !vks w.Overlaps 0 k0)=true then some false else _)=_
    cases h1:vks s 0 k0
    · rfl
    · cases h2:vks w.Overlaps 0 k0
      · rfl
      · simp only [Bool.not_true,Bool.or_false,ff,if_false,Bool.true_and]
        rw [concat_eq s w.Overlaps (by omega) (by have:=h.overlaps;omega),Bind_snr]
        rw [ctf_key (s++w.Overlaps) _ (fun k => !exk w k) (sm_of (n:=200) (by have:=h.overlaps;simp;omega) (by omega))]
        · rw [Bind_snr,List.any_append,List.any_eq_not_all_not,List.any_eq_not_all_not]
          simp only [Bool.not_not,Bool.not_or]
        · intro k hk
          have:okK k=true:=by
            rcases List.mem_append.1 hk with e | e
            · exact vks_ok _ _ _ h1 k e
            · exact vks_ok _ _ _ h2 k e
          unfold world_validContacts_1
          rw [world_fix_eq w k h.sb this,Bind_snr,Let_nr]
  unfold world_validContacts
  simp only [Let_nr]
  have hc0:cOk w=vcs (fun s=>vks s 0 k0&&vks w.Overlaps 0 k0&&(s.all (exk w)&&w.Overlaps.all (exk w))) w.Contacts []:=by rw [vcs_eq];rfl
  rw [hc0]
  refine (LOOP_i w.Contacts (fun i s=>s.length=i) (fun t _ s=>some (vcs (fun s=>vks s 0 k0&&vks w.Overlaps 0 k0&&(s.all (exk w)&&w.Overlaps.all (exk w))) t s)) _ _ h.sc rfl ?_ ?_)
  · intro r i t s hp hw hc hm hr
    have hl:=h.contacts
    have hp2:(s++[(ix w.Contacts (i:Int)).Key]).length=i+1:=by simp [hp]
    have hb:(List.length s+[(ix w.Contacts (i:Int)).Key].length)*32≤140737488355328:=by simp [hp];omega
    simp only [dlt hc,if_true,hw,Chk_of hc,Chk_of hb,world_man_eq _ (sm_of (h.points _ hm) (by omega)),Bind_snr,Let_nr,hr _ hp2,vcs]
    split <;> rfl
  · intro r s hp
    have hl:=h.contacts
    simp only [dll,ff,if_false]
    exact hf s (by omega)
def wv (w:World_):Int:=if (vset w.Settings != 0)=true then 17 else if (decide (32<(w.Bodies.length:Int))||decide (32<(w.Joints.length:Int))||decide (8192<(w.Contacts.length:Int))||decide (8192<(w.Overlaps.length:Int)))=true then 11 else if (!inb w.NextID 1 1099511627776 || !inb w.Frame 0 1099511627776)=true then 6 else if (!vbs w.NextID w.Bodies 0 0)=true then 14 else if (!vjs w w.Joints 0 0)=true then 15 else if (!cOk w)=true then 16 else 0
theorem world_Val_eq (w:World_) (h:Few w):world_Validate w=some (wv w):=by
  unfold world_Validate wv
  simp only [Let_nr,world_set_eq,world_in_eq,world_bodies_eq w h.sb,world_joints_eq w h.sj h.sb,world_con_eq w h,Bind_snr,Bind_if,cond_or,ga3,gt_iff_lt]
  repeat' split
  all_goals rfl
end GoForm
/-
  Plain laws of world: a clone equals what it was made of. No conditions.
-/
set_option linter.all false
set_option maxRecDepth 100000
open Go Go.Rx
namespace GoForm
theorem cloneB (l:List Body) (h:l.length≤100000):slices_Clone l=some l:=by
  unfold slices_Clone;rw [Alike_of (by intro h;subst h;rfl),Chk_of (by omega)]
theorem cloneV (l:List Vec) (h:l.length≤100000):slices_Clone_128 l=some l:=by
  unfold slices_Clone_128;rw [Alike_of (by intro h;subst h;rfl),Chk_of (by omega)]
theorem cloneJ (l:List Joint) (h:l.length≤100000):slices_Clone_78 l=some l:=by
  unfold slices_Clone_78;rw [Alike_of (by intro h;subst h;rfl),Chk_of (by omega)]
theorem cloneC (l:List Contact) (h:l.length≤100000):slices_Clone_79 l=some l:=by
  unfold slices_Clone_79;rw [Alike_of (by intro h;subst h;rfl),Chk_of (by omega)]
theorem cloneK (l:List PairKey) (h:l.length≤100000):slices_Clone_80 l=some l:=by
  unfold slices_Clone_80;rw [Alike_of (by intro h;subst h;rfl),Chk_of (by omega)]
theorem cloneP (l:List ContactPoint) (h:l.length≤100000):slices_Clone_115 l=some l:=by
  unfold slices_Clone_115;rw [Alike_of (by intro h;subst h;rfl),Chk_of (by omega)]
def SmB (b:Body):Prop:=b.Fixtures.length≤10000∧∀ f∈b.Fixtures,f.Shape.Vertices.length≤10000
theorem Few.smb {w:World_} (h:Few w):∀ b∈w.Bodies,SmB b:=fun b hb=>⟨Nat.le_trans (h.fixtures b hb) (by omega),fun f hf=>Nat.le_trans (h.vertices b hb f hf) (by omega)⟩
theorem body_Clone_eq (b:Body) (h:SmB b):body_Clone b=some b:=by
  unfold body_Clone
  simp only [Let_nr]
  refine (LOOP_i b.Fixtures (fun i s=>s.length=i) (fun t _ s=>some { b with Fixtures:=s++t }) _ [] (sm_of h.1 (by omega)) rfl ?_ ?_)
  · intro r i t s hp hw hc hm hr
    have hl:=h.1
    have hp2:∀ f:Fixture,(s++[f]).length=i+1:=by intro f;simp [hp]
    have hb:∀ f:Fixture,(List.length s+[f].length)*96≤140737488355328:=by intro f;simp [hp];omega
    have hsh:shape_Clone (ix b.Fixtures (i:Int)).Shape=some (ix b.Fixtures (i:Int)).Shape:=by
      unfold shape_Clone;rw [cloneV _ (Nat.le_trans (h.2 _ hm) (by omega))];rfl
    simp only [dlt hc,if_true,hw,Chk_of hc,hsh,Bind_snr,Chk_of (hb _),hr _ (hp2 _),List.append_assoc,List.singleton_append]
  · intro r s hp;simp only [dll,ff,if_false,List.append_nil]
theorem ref23_Clone_eq (b:Body) (h:SmB b):caromref23_Clone b=some b:=by
  unfold caromref23_Clone
  simp only [Let_nr]
  refine (LOOP_i b.Fixtures (fun i s=>s.length=i) (fun t _ s=>some { b with Fixtures:=s++t }) _ [] (sm_of h.1 (by omega)) rfl ?_ ?_)
  · intro r i t s hp hw hc hm hr
    have hl:=h.1
    have hp2:∀ f:Fixture,(s++[f]).length=i+1:=by intro f;simp [hp]
    have hb:∀ f:Fixture,(List.length s+[f].length)*96≤140737488355328:=by intro f;simp [hp];omega
    have hsh:caromref12_Clone (ix b.Fixtures (i:Int)).Shape=some (ix b.Fixtures (i:Int)).Shape:=by
      unfold caromref12_Clone;rw [Chk_of (by have:=h.2 _ hm;omega)]
    simp only [dlt hc,if_true,hw,Chk_of hc,hsh,Bind_snr,Chk_of (hb _),hr _ (hp2 _),List.append_assoc,List.singleton_append]
  · intro r s hp;simp only [dll,ff,if_false,List.append_nil]
theorem man_Clone_eq (m:Manifold) (h:m.Points.length≤100000):manifold_Clone m=some m:=by
  unfold manifold_Clone;rw [cloneP _ h];rfl
theorem ref16_Clone_eq (m:Manifold) (h:m.Points.length≤100000):caromref16_Clone m=some m:=by
  unfold caromref16_Clone;rw [Chk_of (by omega)]
structure SmW (w:World_):Prop where
  bodies:w.Bodies.length≤10000
  joints:w.Joints.length≤10000
  contacts:w.Contacts.length≤10000
  overlaps:w.Overlaps.length≤10000
  points:∀ c∈w.Contacts,c.Manifold.Points.length≤10000
  body:∀ b∈w.Bodies,SmB b
theorem Few.smw {w:World_} (h:Few w):SmW w:=⟨Nat.le_trans h.bodies (by omega),Nat.le_trans h.joints (by omega),Nat.le_trans h.contacts (by omega),Nat.le_trans h.overlaps (by omega),fun c hc=>Nat.le_trans (h.points c hc) (by omega),h.smb⟩
theorem world_Clone_eq (w:World_) (h:SmW w):world_Clone w=some w:=by
  unfold world_Clone
  simp only [cloneB _ (Nat.le_trans h.bodies (by omega)),cloneJ _ (Nat.le_trans h.joints (by omega)),cloneC _ (Nat.le_trans h.contacts (by omega)),cloneK _ (Nat.le_trans h.overlaps (by omega)),Bind_snr,Let_nr]
  refine (LOOP_j w.Bodies (fun _ s=>s=w.Bodies) (fun _ _ _=>some w) _ _ (sm_of h.bodies (by omega)) rfl ?_ ?_)
  · intro r i t s hp hw hc hm hr
    subst hp
    have e:List.set w.Bodies (Int.toNat (i:Int)) (ix w.Bodies (i:Int))=w.Bodies:=set_ix _ _
    simp only [dlt hc,if_true,hw,Chk_of hc,body_Clone_eq _ (h.body _ hm),Bind_snr,e,hr _ rfl]
  · intro r s hp
    subst hp
    simp only [dll,ff,if_false]
    refine (LOOP_j w.Contacts (fun _ s=>s=w.Contacts) (fun _ _ _=>some w) _ _ (sm_of h.contacts (by omega)) rfl ?_ ?_)
    · intro r i t s hp hw hc hm hr
      subst hp
      have e:List.set w.Contacts (Int.toNat (i:Int)) { Key:=(ix w.Contacts (i:Int)).Key,Manifold:=(ix w.Contacts (i:Int)).Manifold:Contact }=w.Contacts:=set_ix _ _
      simp only [dlt hc,if_true,hw,Chk_of hc,man_Clone_eq _ (Nat.le_trans (h.points _ hm) (by omega)),Bind_snr,e,hr _ rfl]
    · intro r s hp;subst hp;simp only [dll,ff,if_false]
theorem ref25_Clone_eq (w:World_) (h:SmW w):caromref25_Clone w=some w:=by
  unfold caromref25_Clone
  simp only [Let_nr]
  refine (LOOP_j w.Bodies (fun i s=>s={ w with Bodies:=w.Bodies.take i,Contacts:=[] }) (fun _ _ _=>some w) _ _ (sm_of h.bodies (by omega)) (by simp) ?_ ?_)
  · intro r i t s hp hw hc hm hr
    subst hp
    have hl:=h.bodies
    have hi:i<w.Bodies.length:=by omega
    have hb:((w.Bodies.take i).length+[ix w.Bodies (i:Int)].length)*152≤140737488355328:=by simp;omega
    have ht:w.Bodies.take i++[ix w.Bodies (i:Int)]=w.Bodies.take (i+1):=by rw [ix_lt _ _ hi,List.take_append_getElem]
    simp only [dlt hc,if_true,hw,Chk_of hc,ref23_Clone_eq _ (h.body _ hm),Bind_snr,Chk_of hb,ht]
    exact hr _ rfl
  · intro r s hp
    subst hp
    have hj:=h.joints
    simp only [dll,ff,if_false,List.take_length]
    rw [Chk_of (by omega)]
    refine (LOOP_j w.Contacts (fun i s=>s={ w with Contacts:=w.Contacts.take i }) (fun _ _ _=>some w) _ _ (sm_of h.contacts (by omega)) (by simp) ?_ ?_)
    · intro r i t s hp hw hc hm hr
      subst hp
      have hl:=h.contacts
      have hi:i<w.Contacts.length:=by omega
      have hb:((w.Contacts.take i).length+[({ Key:=(ix w.Contacts (i:Int)).Key,Manifold:=(ix w.Contacts (i:Int)).Manifold }:Contact)].length)*72≤140737488355328:=by simp;omega
      have ht:w.Contacts.take i++[({ Key:=(ix w.Contacts (i:Int)).Key,Manifold:=(ix w.Contacts (i:Int)).Manifold }:Contact)]=w.Contacts.take (i+1):=by
        show w.Contacts.take i++[ix w.Contacts (i:Int)]=_
        rw [ix_lt _ _ hi,List.take_append_getElem]
      simp only [dlt hc,if_true,hw,Chk_of hc,ref16_Clone_eq _ (Nat.le_trans (h.points _ hm) (by omega)),Bind_snr,Chk_of hb,ht]
      exact hr _ rfl
    · intro r s hp
      subst hp
      have ho:=h.overlaps
      simp only [dll,ff,if_false,List.take_length]
      rw [Chk_of (by omega)]
def zeroW:World_:={ Settings:={ TimeStep:=0,Gravity:={ X:=0,Y:=0 },Iterations:=0,SleepSteps:=0 },Bodies:=[],Joints:=[],Contacts:=[],Overlaps:=[],NextID:=0,Frame:=0 }
def addW (w:World_) (b:Body):World_ × Int × Int:=
  if (decide (32≤(w.Bodies.length:Int))||decide (1099511627776≤w.NextID))=true then (zeroW,0,9)
  else if (GoOld.validB { b with ID:=w.NextID } != 0)=true then (zeroW,0,14)
  else ({ w with Bodies:=w.Bodies++[{ b with ID:=w.NextID }],NextID:=IntKind.i64.wrap (w.NextID+1) },w.NextID,0)
theorem world_Add_eq (w:World_) (b:Body) (h:SmW w) (hb:SmB b):world_AddBody w b=some (addW w b):=by
  have hl:=h.bodies
  have hc:∀ x:Body,(w.Bodies.length+[x].length)*152≤140737488355328:=by intro x;simp;omega
  unfold world_AddBody addW
  simp only [Let_nr,body_Clone_eq b hb,bodyV,bodyV',world_Clone_eq w h,Bind_snr,cond_or,ge_iff_le,Chk_of (hc _)]
  split
  · rfl
  · split <;> rfl
end GoForm
/-
  WorldValidation in plain Lean: the law holds of every world. No conditions.
-/
set_option linter.all false
set_option maxRecDepth 100000
open Go Go.Rx
namespace GoForm
def fewB (b:Body):Bool:=decide ((b.Fixtures.length:Int)≤8)&&b.Fixtures.all (fun f=>decide ((f.Shape.Vertices.length:Int)≤20))
def allF {X:Type} (fin bad:X):List Fixture→X
  | []=>fin
  | f::t=>if decide ((f.Shape.Vertices.length:Int)>20)=true then bad else allF fin bad t
theorem allF_eq {X:Type} (fin bad:X):∀ l:List Fixture,allF fin bad l=if l.all (fun f=>decide ((f.Shape.Vertices.length:Int)≤20))=true then fin else bad
  | []=>rfl
  | f :: t=>by
    unfold allF;rw [allF_eq fin bad t]
    by_cases h:(f.Shape.Vertices.length:Int)>20
    · have:decide ((f.Shape.Vertices.length:Int)≤20)=false:=decide_eq_false (by omega)
      simp only [h,decide_true,if_true,List.all_cons,this,Bool.false_and,ff,if_false]
    · have:decide ((f.Shape.Vertices.length:Int)≤20)=true:=decide_eq_true (by omega)
      simp only [decide_eq_false h,ff,if_false,List.all_cons,this,Bool.true_and]
def allB:List Body→Bool
  | []=>true
  | b::t=>if decide ((b.Fixtures.length:Int)>8)=true then false else if b.Fixtures.all (fun f=>decide ((f.Shape.Vertices.length:Int)≤20))=true then allB t else false
theorem allB_eq:∀ l:List Body,allB l=l.all fewB
  | []=>rfl
  | b :: t=>by
    unfold allB fewB;rw [allB_eq t]
    by_cases h:(b.Fixtures.length:Int)>8
    · have:decide ((b.Fixtures.length:Int)≤8)=false:=decide_eq_false (by omega)
      simp only [h,decide_true,if_true,List.all_cons,this,Bool.false_and]
    · have:decide ((b.Fixtures.length:Int)≤8)=true:=decide_eq_true (by omega)
      simp only [decide_eq_false h,ff,if_false,List.all_cons,this,Bool.true_and]
      cases b.Fixtures.all (fun f=>decide ((f.Shape.Vertices.length:Int)≤20)) <;> rfl
theorem ref22_Few_eq (l:List Body) (n:Nat) (hn:n≤10000):caromref22_Few l (n:Int)=some (decide ((l.length:Int)≤(n:Int))&&l.all fewB):=by
  unfold caromref22_Few
  simp only [Let_nr]
  by_cases h:(l.length:Int)>(n:Int)
  · have:decide ((l.length:Int)≤(n:Int))=false:=decide_eq_false (by omega)
    simp only [h,decide_true,if_true,this,Bool.false_and]
  · have hh:decide ((l.length:Int)≤(n:Int))=true:=decide_eq_true (by omega)
    simp only [decide_eq_false h,ff,if_false,hh,Bool.true_and]
    rw [← allB_eq]
    refine LOOP_l0 l (fun t _=>some (allB t)) _ (sm_of (n:=10000) (by omega) (by omega)) ?_ ?_
    · intro r i t hw hc hm hr
      simp only [dlt hc,if_true,Chk_of hc,allB]
      by_cases h8:((ix l (i:Int)).Fixtures.length:Int)>8
      · simp only [h8,decide_true,if_true]
      · simp only [decide_eq_false h8,ff,if_false]
        refine (LOOP_l0 (ix l (i:Int)).Fixtures (fun t _=>allF (r ((i:Int)+1)) (some false) t) _ (sm_of (n:=8) (by omega) (by omega)) ?_ ?_).trans ?_
        · intro r2 j u hw2 hc2 hm2 hr2
          simp only [dlt hc2,if_true,Chk_of hc2,hw2,hr2,allF]
        · intro r2;simp only [dll,ff,if_false,hw,allF]
        · rw [allF_eq,hr];split <;> rfl
    · intro r;simp only [dll,ff,if_false,allB]
def few (w:World_):Bool:=decide ((w.Joints.length:Int)≤40)&&decide ((w.Contacts.length:Int)≤80)&&decide ((w.Overlaps.length:Int)≤80)&&(decide ((w.Bodies.length:Int)≤40)&&w.Bodies.all fewB)&&w.Contacts.all (fun c=>decide ((c.Manifold.Points.length:Int)≤8))
def allC:List Contact→Bool
  | []=>true
  | c::t=>if decide ((c.Manifold.Points.length:Int)>8)=true then false else allC t
theorem allC_eq:∀ l:List Contact,allC l=l.all (fun c=>decide ((c.Manifold.Points.length:Int)≤8))
  | []=>rfl
  | c :: t=>by
    unfold allC;rw [allC_eq t]
    by_cases h:(c.Manifold.Points.length:Int)>8
    · have:decide ((c.Manifold.Points.length:Int)≤8)=false:=decide_eq_false (by omega)
      simp only [h,decide_true,if_true,List.all_cons,this,Bool.false_and]
    · have:decide ((c.Manifold.Points.length:Int)≤8)=true:=decide_eq_true (by omega)
      simp only [decide_eq_false h,ff,if_false,List.all_cons,this,Bool.true_and]
theorem ref25_Few_eq (w:World_):caromref25_Few w=some (few w):=by
  have hB:=ref22_Few_eq w.Bodies 40 (by omega)
  have e1:decide ((w.Joints.length:Int)>40) = !decide ((w.Joints.length:Int)≤40):=by rw [Bool.eq_iff_iff];simp
  have e2:decide ((w.Contacts.length:Int)>80) = !decide ((w.Contacts.length:Int)≤80):=by rw [Bool.eq_iff_iff];simp
  have e3:decide ((w.Overlaps.length:Int)>80) = !decide ((w.Overlaps.length:Int)≤80):=by rw [Bool.eq_iff_iff];simp
  have hB':caromref22_Few w.Bodies (40:Int)=some (decide ((w.Bodies.length:Int)≤40)&&w.Bodies.all fewB):=hB
  unfold caromref25_Few few
  simp only [Let_nr,hB',Bind_snr,Bind_if,cond_or,ga3,e1,e2,e3]
  by_cases hc:(w.Contacts.length:Int)≤80
  · have hL:LOOP (fun (rec32:Int→Option Bool) (s33:Int)=>
        if decide (s33<(w.Contacts.length:Int))=true then Chk ((0:Int)≤s33∧s33<(w.Contacts.length:Int))
        (if decide (((ix w.Contacts s33).Manifold.Points.length:Int)>8)=true then some false else rec32 (IntKind.i64.wrap (s33+(1:Int)))) else some true) fuel (0:Int)=some (w.Contacts.all (fun c=>decide ((c.Manifold.Points.length:Int)≤8))):=by
      rw [← allC_eq]
      refine LOOP_l0 w.Contacts (fun t _=>some (allC t)) _ (sm_of (n:=80) (by omega) (by omega)) ?_ ?_
      · intro r i t hw hc hm hr
        simp only [dlt hc,if_true,Chk_of hc,hw,hr,allC]
        split <;> rfl
      · intro r;simp only [dll,ff,if_false,allC]
    rw [hL]
    generalize decide ((w.Joints.length:Int)≤40)=b1
    generalize decide ((w.Contacts.length:Int)≤80)=b2
    generalize decide ((w.Overlaps.length:Int)≤80)=b3
    generalize decide ((w.Bodies.length:Int)≤40)=b4
    generalize w.Bodies.all fewB=b5
    cases b1 <;> cases b2 <;> cases b3 <;> cases b4 <;> cases b5 <;> rfl
  · have e:decide ((w.Contacts.length:Int)≤80)=false:=decide_eq_false hc
    simp only [e,Bool.not_false,Bool.or_true,Bool.true_or,if_true,Bool.and_false,Bool.false_and]
theorem few_Few {w:World_} (h:few w=true):Few w:=by
  unfold few fewB at h
  simp only [Bool.and_eq_true,decide_eq_true_eq,List.all_eq_true] at h
  obtain ⟨⟨⟨⟨h1,h2⟩,h3⟩,h4,h5⟩,h6⟩:=h
  exact ⟨by omega,by omega,by omega,by omega,fun c hc=>by have:=h6 c hc;omega,fun b hb=>by have:=(h5 b hb).1;omega,fun b hb f hf=>by have:=(h5 b hb).2 f hf;omega⟩
def nilW (s:Settings) (n:Int):World_:={ Settings:=s,Bodies:=[],Joints:=[],Contacts:=[],Overlaps:=[],NextID:=n,Frame:=0 }
def newW (s:Settings):World_ × Int:=if (vset s != 0)=true then (nilW ⟨0,⟨0,0⟩,0,0⟩ 0,vset s) else (nilW s 1,0)
theorem world_New_eq (s:Settings):world_New s=some (newW s):=by
  unfold world_New newW nilW
  simp only [world_set_eq,Bind_snr,Let_nr]
  split <;> rfl
theorem nilW_few (s:Settings) (n:Int):Few (nilW s n):=⟨by unfold nilW;simp,by unfold nilW;simp,by unfold nilW;simp,by unfold nilW;simp,by unfold nilW;simp,by unfold nilW;simp,by unfold nilW;simp⟩
def b9:Body:={ ID:=1,Kind:=1,Transform:=⟨⟨0,0⟩,0⟩,Velocity:=⟨0,0⟩,AngularVelocity:=0,Force:=⟨0,0⟩,Torque:=0,LinearDamping:=0,AngularDamping:=0,GravityScale:=0,Bullet:=false,FixedRotation:=false,NoSleep:=false,Asleep:=false,IdleSteps:=0,Fixtures:=[] }
def w9:World_:={ Settings:=⟨1024,⟨0,0⟩,4,60⟩,Bodies:=[b9],Joints:=[],Contacts:=[],Overlaps:=[],NextID:=2,Frame:=0 }
theorem add9:world_AddBody (nilW ⟨1024,⟨0,0⟩,4,60⟩ 1) { b9 with ID:=9 }=some (w9,1,0):=by
  rw [world_Add_eq _ _ (nilW_few _ _).smw ⟨by unfold b9;simp,by unfold b9;simp⟩]
  exact congrArg some (by decide +kernel)
theorem val9:world_Validate w9=some 0:=by
  have:Few w9:=⟨by unfold w9;simp,by unfold w9;simp,by unfold w9;simp,by unfold w9;simp,by unfold w9;simp,by intro b hb;simp [w9] at hb;subst hb;simp [b9],by intro b hb;simp [w9] at hb;subst hb;simp [b9]⟩
  rw [world_Val_eq _ this];exact congrArg some (by decide +kernel)
theorem rem9:world_RemoveBody w9 9=some (nilW ⟨0,⟨0,0⟩,0,0⟩ 0,8):=by
  unfold world_RemoveBody
  have:world_FindBody w9 9=some (-1):=by rw [world_Find_eq _ _ (sm_of (n:=1) (by unfold w9;simp) (by omega))];rfl
  rw [this,Bind_snr]
  rfl
theorem example25:caromlaw25_example=some true:=by
  have hn:world_New ⟨1024,⟨0,0⟩,4,60⟩=some (nilW ⟨1024,⟨0,0⟩,4,60⟩ 1,0):=by rw [world_New_eq];rfl
  have hz:world_Validate (nilW ⟨0,⟨0,0⟩,0,0⟩ 0)=some 17:=by rw [world_Val_eq _ (nilW_few _ _)];rfl
  have hf:world_FindBody w9 1=some 0:=by rw [world_Find_eq _ _ (sm_of (n:=1) (by unfold w9;simp) (by omega))];rfl
  unfold caromlaw25_example caromlaw25_settings
  rw [Bind_snr,hn,Bind_snr]
  refine (Bind_of add9).trans ?_
  refine (Bind_of rem9).trans ?_
  simp only [Let_nr,val9,hf]
  refine (Bind_of (x:=(0:Int)) rfl).trans ?_
  refine (Bind_of (x:=(0:Int)) rfl).trans ?_
  refine (Bind_of (x:=(17:Int)) hz).trans ?_
  rfl
end GoForm
/-
  Plain laws of world: equality; WorldAddBody. No conditions.
-/
set_option linter.all false
set_option maxRecDepth 100000
open Go Go.Rx
namespace GoForm
theorem veq (a b:Vec):(decide (a.X=b.X)&&decide (a.Y=b.Y))=decide (a=b):=by
  rw [Bool.eq_iff_iff];cases a;cases b;simp
theorem jeq (x y:Joint):(decide (x.ID=y.ID)&&(decide (x.Kind=y.Kind)&&(decide (x.BodyA=y.BodyA)&&(decide (x.BodyB=y.BodyB)&&(decide (x.AnchorA=y.AnchorA)&&(decide (x.AnchorB=y.AnchorB)&&(decide (x.Axis=y.Axis)&&(decide (x.ReferenceAngle=y.ReferenceAngle)&&(decide (x.EnableLimit=y.EnableLimit)&&(decide (x.Lower=y.Lower)&&(decide (x.Upper=y.Upper)&&(decide (x.EnableMotor=y.EnableMotor)&&(decide (x.MotorSpeed=y.MotorSpeed)&&(decide (x.MaxForce=y.MaxForce)&&(decide (x.Softness=y.Softness)&&(decide (x.BreakForce=y.BreakForce)&&(decide (x.CollideConnected=y.CollideConnected)&&(decide (x.Impulses.fst=y.Impulses.fst)&&(decide (x.Impulses.snd.fst=y.Impulses.snd.fst)&&(decide (x.Impulses.snd.snd.fst=y.Impulses.snd.snd.fst)&&decide (x.Impulses.snd.snd.snd=y.Impulses.snd.snd.snd)))))))))))))))))))))=decide (x=y):=by
  obtain ⟨x1,x2,x3,x4,⟨x5,x6⟩,⟨x7,x8⟩,⟨x9,x10⟩,x11,x12,x13,x14,x15,x16,x17,x18,x19,x20,⟨x21,x22,x23,x24⟩⟩:=x
  obtain ⟨y1,y2,y3,y4,⟨y5,y6⟩,⟨y7,y8⟩,⟨y9,y10⟩,y11,y12,y13,y14,y15,y16,y17,y18,y19,y20,⟨y21,y22,y23,y24⟩⟩:=y
  rw [Bool.eq_iff_iff];simp [and_assoc]
theorem peq (x y:ContactPoint):(decide (x.Point=y.Point)&&(decide (x.Separation=y.Separation)&&(decide (x.ID=y.ID)&&(decide (x.NormalImpulse=y.NormalImpulse)&&decide (x.TangentImpulse=y.TangentImpulse)))))=decide (x=y):=by
  obtain ⟨⟨x5,x6⟩,x1,x2,x3,x4⟩:=x
  obtain ⟨⟨y5,y6⟩,y1,y2,y3,y4⟩:=y
  rw [Bool.eq_iff_iff];simp [and_assoc]
theorem steq (x y:Settings):(decide (x.TimeStep=y.TimeStep)&&(decide (x.Gravity=y.Gravity)&&(decide (x.Iterations=y.Iterations)&&decide (x.SleepSteps=y.SleepSteps))))=decide (x=y):=by
  obtain ⟨x1,⟨x5,x6⟩,x2,x3⟩:=x
  obtain ⟨y1,⟨y5,y6⟩,y2,y3⟩:=y
  rw [Bool.eq_iff_iff];simp [and_assoc]
theorem len_bne {α:Type} (l m:List α):((l.length:Int) != (m.length:Int)) = !decide (l.length=m.length):=by rw [Bool.eq_iff_iff];simp;omega
theorem if_not_dec {α:Type} {p:Prop} [Decidable p] (a b:α):(if (!decide p)=true then a else b)=if p then b else a:=by by_cases h:p <;> simp [h]
theorem ref16_Equal_eq (a b:Manifold) (h:a.Points.length≤10000):caromref16_Equal a b=some (decide (a=b)):=by
  obtain ⟨an,ap⟩:=a
  obtain ⟨bn,bp⟩:=b
  unfold caromref16_Equal
  simp only [Let_nr,veq,peq,len_bne,cond_or]
  by_cases hl:ap.length=bp.length
  · rw [show LOOP _ fuel (0:Int)=_ from LOOP_eq2 ap bp (some true) (some false) _ (sm_of h (by omega)) hl ?_ ?_]
    · by_cases h1:an=bn
      · by_cases h2:ap=bp <;> simp [h1,h2,hl]
      · simp [h1]
    · intro r i hw hc hc2 hm
      simp only [dlt hc,if_true,hw,Chk_of hc,Chk_of hc2,if_not_dec]
    · intro r;simp only [dll,ff,if_false]
  · have:¬ ap=bp:=fun e=>hl (by rw [e])
    simp [hl,this]
theorem ref22_Keys_eq (a b:List PairKey) (h:a.length≤10000):caromref22_Keys a b=some (decide (a=b)):=by
  unfold caromref22_Keys
  simp only [Let_nr,keq,len_bne]
  by_cases hl:a.length=b.length
  · rw [show LOOP _ fuel (0:Int)=_ from LOOP_eq2 a b (some true) (some false) _ (sm_of h (by omega)) hl ?_ ?_]
    · by_cases h2:a=b <;> simp [h2,hl]
    · intro r i hw hc hc2 hm
      simp only [dlt hc,if_true,hw,Chk_of hc,Chk_of hc2,if_not_dec]
    · intro r;simp only [dll,ff,if_false]
  · have:¬ a=b:=fun e=>hl (by rw [e])
    simp [hl,this]
theorem fixok {b:Body} (h:SmB b):GoOld.FixOk b:=⟨Nat.le_trans h.1 (by omega),fun f hf=>Nat.le_trans (h.2 f hf) (by omega)⟩
theorem ref23_Equal_eq' (a b:Body) (h:SmB a):caromref23_Equal a b=some (decide (a=b)):=by rw [br_caromref23_Equal,GoOld.ref23_Equal_eq a b (fixok h)]
theorem body_Equal_eq' (a b:Body) (h:SmB a):body_Equal a b=some (decide (a=b)):=by rw [br_body_Equal,GoOld.body_Equal_eq a b (fixok h)]
theorem ref25_Equal_eq (a b:World_) (h:SmW a):caromref25_Equal a b=some (decide (a=b)):=by
  obtain ⟨a_s,ab,aj,ac,ao,an,af⟩:=a
  obtain ⟨b_s,bb,bj,bc,bo,bn,bf⟩:=b
  obtain ⟨h1,h2,h3,h4,h5,h6⟩:=h
  dsimp only at h1 h2 h3 h4 h5 h6
  unfold caromref25_Equal
  simp only [Let_nr,veq,jeq,keq,steq,len_bne,cond_or,ref22_Keys_eq ao bo h4,Bind_snr,Bind_if,ga3]
  simp only [ne_bne]
  by_cases hb:ab.length=bb.length
  · by_cases hj:aj.length=bj.length
    · by_cases hc:ac.length=bc.length
      · rw [show LOOP _ fuel (0:Int)=_ from LOOP_eq2 ab bb (if aj=bj then (if ac=bc then some true else some false) else some false) (some false) _ (sm_of h1 (by omega)) hb ?_ ?_]
        · by_cases e1:a_s=b_s <;> by_cases e2:an=bn <;> by_cases e3:af=bf <;> by_cases e4:ao=bo <;> by_cases e5:ab=bb <;> by_cases e6:aj=bj <;> by_cases e7:ac=bc <;> simp [e1,e2,e3,e4,e5,e6,e7,hb,hj,hc]
        · intro r i hw hc hc2 hm
          simp only [dlt hc,if_true,hw,Chk_of hc,Chk_of hc2,ref23_Equal_eq' _ _ (h6 _ hm),Bind_snr,if_not_dec]
        · intro r
          simp only [dll,ff,if_false]
          refine LOOP_eq2 aj bj (if ac=bc then some true else some false) (some false) _ (sm_of h2 (by omega)) hj ?_ ?_
          · intro r i hw hc hc2 hm
            simp only [dlt hc,if_true,hw,Chk_of hc,Chk_of hc2,if_not_dec]
          · intro r
            simp only [dll,ff,if_false]
            refine LOOP_eq2 ac bc (some true) (some false) _ (sm_of h3 (by omega)) hc ?_ ?_
            · intro r i hw hc hc2 hm
              simp only [dlt hc,if_true,hw,Chk_of hc,Chk_of hc2,Chk_of (fun _=>hc),Chk_of (fun _=>hc2),ref16_Equal_eq _ _ (h5 _ hm),Bind_snr,Bind_if,ga3]
              generalize ix ac (i:Int)=x
              generalize ix bc (i:Int)=y
              obtain ⟨xk,xm⟩:=x
              obtain ⟨yk,ym⟩:=y
              by_cases e1:xk=yk <;> by_cases e2:xm=ym <;> simp [e1,e2]
            · intro r;simp only [dll,ff,if_false]
      · have:¬ ac=bc:=fun e=>hc (by rw [e])
        simp [hc,this]
    · have:¬ aj=bj:=fun e=>hj (by rw [e])
      simp [hj,this]
  · have:¬ ab=bb:=fun e=>hb (by rw [e])
    simp [hb,this]
end GoForm
set_option linter.all false
set_option maxRecDepth 100000
open Go Go.Rx
namespace GoForm
def wkB (b:Body):Body:={ b with Asleep:=false,IdleSteps:=0 }
def wakeW (w:World_) (id:Int):World_:=
  if (decide (0≤fb w id)&&decide ((ix w.Bodies (fb w id)).Kind=3))=true then { w with Bodies:=w.Bodies.set (fb w id).toNat (wkB (ix w.Bodies (fb w id))) } else w
theorem ix_set_same {α:Type} [Inhabited α] (l:List α) (i:Nat) (x:α) (h:i<l.length):ix (l.set i x) (i:Int)=x:=by
  rw [ix_lt _ _ (by simpa using h)];simp
theorem fb_cases (w:World_) (id:Int):fb w id = -1∨∃ k:Nat,fb w id=(k:Int)∧k<w.Bodies.length:=by
  rcases idx_bd (fun b:Body=>b.ID==id) w.Bodies 0 with h | h
  · exact Or.inl h
  · right;exact ⟨(fb w id).toNat,by unfold fb;omega,by unfold fb;omega⟩
theorem bif_and (a:Bool) (k:Int):(bif a then (k==3) else false)=(a&&decide (k=3)):=by rw [cond_and,eq_beq]
theorem world_Wake_eq (w:World_) (id:Int) (h:SmW w):world_WakeBody w id=some (wakeW w id):=by
  unfold world_WakeBody wakeW
  rw [world_Clone_eq w h,Bind_snr]
  simp only [Join_nr,Let_nr,world_Find_eq w id (sm_of h.bodies (by omega)),Bind_snr,ge_iff_le,bif_and]
  rcases fb_cases w id with hk | ⟨k,hk,hl⟩
  · rw [hk,Chk_of (by simp),Chk_of (by simp),if_neg (by simp),if_neg (by simp)]
  · rw [hk,Chk_of (fun _=>by omega),Chk_of (fun _=>by omega)]
    by_cases h3:(ix w.Bodies (k:Int)).Kind=3
    · rw [if_pos (by simp [h3]),if_pos (by simp [h3]),Chk_of (by omega),Chk_of (by omega)]
      simp only [Int.toNat_natCast,List.length_set]
      rw [Chk_of (by omega),Chk_of (by omega)]
      simp only [ix_set_same _ _ _ hl,List.set_set]
      rfl
    · rw [if_neg (by simp [h3]),if_neg (by simp [h3])]
theorem mem_set_or {α:Type} (l:List α) (i:Nat) (x y:α) (h:y∈l.set i x):y∈l∨y=x:=List.mem_or_eq_of_mem_set h
theorem wake_sm (w:World_) (id:Int) (h:SmW w):SmW (wakeW w id):=by
  unfold wakeW
  split
  next hc=>
    refine ⟨by simpa using h.bodies,h.joints,h.contacts,h.overlaps,h.points,?_⟩
    intro b hb
    rcases mem_set_or _ _ _ _ hb with hb | hb
    · exact h.body b hb
    · rcases fb_cases w id with hk | ⟨k,hk,hl⟩
      · rw [hk] at hc;simp at hc
      · have:=h.body _ (ix_mem w.Bodies (fb w id) (by omega))
        rw [hb];exact this
  · exact h
end GoForm
set_option linter.all false
set_option maxRecDepth 100000
open Go Go.Rx
namespace GoForm
theorem take_app_len {α:Type} (a b:List α) (n:Nat) (h:n=a.length):(a++b).take n=a:=by subst h;simp
end GoForm
set_option linter.all false
set_option maxRecDepth 100000
open Go Go.Rx
namespace GoForm
theorem idx_shift {α:Type} (q:α→Bool) (l:List α) (i:Nat) (x:α) (h:q x=false):idx q (x::l) i=idx q l (i+1):=by
  rw [idx,if_neg (by rw [h];decide)]
theorem LOOP_findN {α X:Type} [Inhabited α] (l:List α) (q:α→Bool) (R:Option X) (step:(Int→Option X)→Int→Option X) (hl:Sm l)
    (hs1:∀ (r:Int→Option X) (i:Nat),IntKind.i64.wrap ((i:Int)+1)=(i:Int)+1→(0≤(i:Int)∧(i:Int)<(l.length:Int))→q (ix l (i:Int))=false→step r (i:Int)=r ((i:Int)+1))
    (hs2:∀ (r:Int→Option X) (i:Nat),(0≤(i:Int)∧(i:Int)<(l.length:Int))→idx q l 0=(i:Int)→q (ix l (i:Int))=true→step r (i:Int)=R)
    (he:∀ (r:Int→Option X),idx q l 0 = -1→step r (l.length:Int)=R):
    ∀ (n i:Nat),i≤l.length→l.length - i<n→idx q (l.drop i) i=idx q l 0→LOOP step n (i:Int)=R
  | 0,i,_,h,_=>by omega
  | n + 1,i,h1,h2,h3=>by
    rw [LOOP_s]
    by_cases h:i<l.length
    · have hd:=drop_ix l i h
      rw [hd] at h3
      cases hq:q (ix l (i:Int))
      · rw [hs1 _ i (w64_s i (by unfold Sm at hl;omega)) ⟨by omega,by omega⟩ hq]
        rw [idx_shift q _ _ _ hq] at h3
        exact LOOP_findN l q R step hl hs1 hs2 he n (i+1) (by omega) (by omega) h3
      · rw [idx,if_pos hq] at h3
        exact hs2 _ i ⟨by omega,by omega⟩ h3.symm hq
    · have e:i=l.length:=by omega
      subst e
      rw [List.drop_length] at h3
      exact he _ h3.symm
theorem LOOP_findR {α X:Type} [Inhabited α] (l:List α) (q:α→Bool) (R:Option X) (step:(Int→Option X)→Int→Option X) (hl:Sm l)
    (hs1:∀ (r:Int→Option X) (i:Nat),IntKind.i64.wrap ((i:Int)+1)=(i:Int)+1→(0≤(i:Int)∧(i:Int)<(l.length:Int))→q (ix l (i:Int))=false→step r (i:Int)=r ((i:Int)+1))
    (hs2:∀ (r:Int→Option X) (i:Nat),(0≤(i:Int)∧(i:Int)<(l.length:Int))→idx q l 0=(i:Int)→q (ix l (i:Int))=true→step r (i:Int)=R)
    (he:∀ (r:Int→Option X),idx q l 0 = -1→step r (l.length:Int)=R):LOOP step fuel (0:Int)=R:=
  LOOP_findN l q R step hl hs1 hs2 he fuel 0 (Nat.zero_le _) (by unfold Sm at hl;have:fuel=2 ^ 70:=rfl;omega) (by simp)
theorem idx_none {α:Type} (q:α→Bool) (l:List α) (h:idx q l 0 = -1):l.filter (fun x => !q x)=l:=by
  have h2:=idx_any q l 0
  rw [h] at h2
  have h3:l.any q=false:=by rw [← h2];rfl
  rw [List.filter_eq_self]
  intro a ha
  rw [List.any_eq_false] at h3
  have:=h3 a ha
  simpa using this
theorem idx_first {α:Type} [Inhabited α] (q:α→Bool):∀ (l:List α) (i k:Nat),idx q l i=(k:Int)→i≤k∧k - i<l.length∧q (ix l ((k - i:Nat):Int))=true∧(l.take (k - i)).filter (fun x => !q x)=l.take (k - i)
  | [],i,k,h=>by simp [idx] at h
  | a :: l,i,k,h=>by
    cases hq:q a
    · rw [idx_shift q _ _ _ hq] at h
      obtain ⟨h1,h2,h3,h4⟩:=idx_first q l (i+1) k h
      have e:k - i=(k - (i+1))+1:=by omega
      refine ⟨by omega,by simp;omega,?_,?_⟩
      · rw [e];exact h3
      · rw [e,List.take_succ_cons,List.filter_cons_of_pos (by simp [hq]),h4]
    · rw [idx,if_pos hq] at h
      have:k=i:=by omega
      subst this
      rw [Nat.sub_self]
      exact ⟨Nat.le_refl _,by simp,hq,by simp⟩
theorem LOOP_delN {α X:Type} [Inhabited α] (l:List α) (q:α→Bool) (R:Option X) (step:(Int × Int × List α→Option X)→Int × Int × List α→Option X) (hl:Sm l)
    (hs:∀ (r:Int × Int × List α→Option X) (i j:Nat) (s:List α),IntKind.i64.wrap ((i:Int)+1)=(i:Int)+1→IntKind.i64.wrap ((j:Int)+1)=(j:Int)+1→i<j→j<s.length→s.length=l.length→step r ((i:Int),(j:Int),s)=if q (ix s (j:Int))=true then r ((i:Int),(j:Int)+1,s) else r ((i:Int)+1,(j:Int)+1,s.set i (ix s (j:Int))))
    (he:∀ (r:Int × Int × List α→Option X) (i:Nat) (s:List α),i<s.length→s.length=l.length→s.take i=l.filter (fun x => !q x)→step r ((i:Int),(s.length:Int),s)=R):
    ∀ (n i j:Nat) (s:List α),s.length=l.length→i<j→j≤l.length→s.take i=(l.take j).filter (fun x => !q x)→s.drop j=l.drop j→l.length - j<n→LOOP step n ((i:Int),(j:Int),s)=R
  | 0,_,_,_,_,_,_,_,_,h=>by omega
  | n + 1,i,j,s,h1,h2,h3,h4,h5,h6=>by
    rw [LOOP_s]
    by_cases h:j<l.length
    · have hls:l.length<2 ^ 62:=hl
      have hd:=drop_ix l j h
      have hd2:=drop_ix s j (by omega)
      rw [h5,hd] at hd2
      have hx:ix s (j:Int)=ix l (j:Int):=(List.cons.inj hd2).1.symm
      have hd3:s.drop (j+1)=l.drop (j+1):=(List.cons.inj hd2).2.symm
      have ht:l.take (j+1)=l.take j++[ix l (j:Int)]:=by rw [List.take_add_one,ix_lt l j h];simp [h]
      rw [hs _ i j s (w64_s i (by omega)) (w64_s j (by omega)) h2 (by omega) h1,hx]
      cases hq:q (ix l (j:Int))
      · rw [if_neg (by decide)]
        refine LOOP_delN l q R step hl hs he n (i+1) (j+1) _ (by simpa using h1) (by omega) (by omega) ?_ ?_ (by omega)
        · rw [ht,List.filter_append,← h4,List.filter_cons_of_pos (by simp [hq]),List.filter_nil]
          rw [List.take_add_one,List.take_set_of_le (Nat.le_refl _),List.getElem?_set_self (by omega)];rfl
        · rw [List.drop_set_of_lt (by omega)];exact hd3
      · rw [if_pos rfl]
        refine LOOP_delN l q R step hl hs he n i (j+1) s h1 (by omega) (by omega) ?_ hd3 (by omega)
        rw [ht,List.filter_append,← h4,List.filter_cons_of_neg (by simp [hq]),List.filter_nil,List.append_nil]
    · have e:j=s.length:=by omega
      subst e
      exact he _ i s h2 h1 (by rw [h4,List.take_of_length_le (show l.length≤s.length by omega)])
theorem LOOP_delR {α X:Type} [Inhabited α] (l:List α) (q:α→Bool) (R:Option X) (k:Nat) (step:(Int × Int × List α→Option X)→Int × Int × List α→Option X) (hl:Sm l) (hk:idx q l 0=(k:Int))
    (hs:∀ (r:Int × Int × List α→Option X) (i j:Nat) (s:List α),IntKind.i64.wrap ((i:Int)+1)=(i:Int)+1→IntKind.i64.wrap ((j:Int)+1)=(j:Int)+1→i<j→j<s.length→s.length=l.length→step r ((i:Int),(j:Int),s)=if q (ix s (j:Int))=true then r ((i:Int),(j:Int)+1,s) else r ((i:Int)+1,(j:Int)+1,s.set i (ix s (j:Int))))
    (he:∀ (r:Int × Int × List α→Option X) (i:Nat) (s:List α),i<s.length→s.length=l.length→s.take i=l.filter (fun x => !q x)→step r ((i:Int),(s.length:Int),s)=R):
    LOOP step fuel ((k:Int),IntKind.i64.wrap ((k:Int)+1),l)=R:=by
  obtain ⟨_,h2,h3,h4⟩:=idx_first q l 0 k hk
  rw [Nat.sub_zero] at h2 h3 h4
  have hls:l.length<2 ^ 62:=hl
  rw [w64_s k (by omega)]
  refine LOOP_delN l q R step hl hs he fuel k (k+1) l rfl (by omega) (by omega) ?_ rfl (by have:fuel=2 ^ 70:=rfl;omega)
  rw [List.take_add_one,List.filter_append,h4]
  have:l[k]? = some (ix l (k:Int)):=by rw [ix_lt l k h2];simp [h2]
  rw [this]
  simp [h3]
theorem LOOP_accR {α β X:Type} [Inhabited α] (l:List α) (f:α→List β) (acc0:List β) (R:Option X) (step:(List β × Int→Option X)→List β × Int→Option X) (hl:Sm l) (hf:∀ a,(f a).length≤2)
    (hs:∀ (r:List β × Int→Option X) (i:Nat) (acc:List β),acc.length≤acc0.length+2*i→IntKind.i64.wrap ((i:Int)+1)=(i:Int)+1→(0≤(i:Int)∧(i:Int)<(l.length:Int))→ix l (i:Int)∈l→step r (acc,(i:Int))=r (acc++f (ix l (i:Int)),(i:Int)+1))
    (he:∀ (r:List β × Int→Option X),step r (acc0++l.flatMap f,(l.length:Int))=R):LOOP step fuel (acc0,(0:Int))=R:=by
  have key:∀ (n i:Nat) (acc:List β),i≤l.length→l.length - i<n→acc.length≤acc0.length+2*i→acc++(l.drop i).flatMap f=acc0++l.flatMap f→LOOP step n (acc,(i:Int))=R:=by
    intro n
    induction n with
    | zero=>intro i acc _ h;omega
    | succ n ih=>
      intro i acc h1 h2 h3 h4
      rw [LOOP_s]
      by_cases h:i<l.length
      · rw [hs _ i acc h3 (w64_s i (by unfold Sm at hl;omega)) ⟨by omega,by omega⟩ (ix_mem l _ ⟨by omega,by omega⟩)]
        rw [drop_ix l i h,List.flatMap_cons,← List.append_assoc] at h4
        exact ih (i+1) _ (by omega) (by omega) (by have:=hf (ix l (i:Int));simp;omega) h4
      · have e:i=l.length:=by omega
        subst e
        rw [List.drop_length,List.flatMap_nil,List.append_nil] at h4
        rw [h4];exact he _
  exact key fuel 0 acc0 (Nat.zero_le _) (by unfold Sm at hl;have:fuel=2 ^ 70:=rfl;omega) (by omega) (by simp)
end GoForm
set_option linter.all false
set_option maxRecDepth 100000
open Go Go.Rx
namespace GoForm
def att (id:Int) (j:Joint):Bool:=(id != 0)&&(j.BodyA==id||j.BodyB==id)
def refK (id:Int) (k:PairKey):Bool:=k.BodyA==id||k.BodyB==id
def oth (a b id:Int):Int:=if a=id then b else a
theorem att_eq (j:Joint) (id:Int):joint_Attached j id=some (att id j):=by
  unfold joint_Attached att;simp only [Let_nr,cond_or,cond_and]
theorem rb1_eq (k:PairKey) (id:Int):world_RemoveBody_1 k id=some (refK id k):=by
  unfold world_RemoveBody_1 refK;simp only [Let_nr,cond_or]
theorem rb2_eq (j:Joint) (id:Int):world_RemoveBody_2 j id=some (att id j):=by
  unfold world_RemoveBody_2;rw [att_eq,Bind_snr]
theorem oth_eq (a b id:Int):world_other a b id=some (oth a b id):=by
  unfold world_other oth;simp only [Let_nr]
  by_cases h:a=id
  · rw [if_pos (by simpa using h),if_pos h]
  · rw [if_neg (by simpa using h),if_neg h]
theorem IF128 (l:List Joint) (g:Joint→Option Bool) (q:Joint→Bool) (hg:∀ a,g a=some (q a)) (hl:Sm l):slices_IndexFunc_69 l g=some (idx q l 0):=by
  unfold slices_IndexFunc_69
  simp only [Let_nr]
  refine LOOP_l0 l (fun t i=>some (idx q t i)) _ hl ?_ ?_
  · intro r i t hw hc hm hr
    rw [if_pos (dlt hc),Chk_of hc,hg,Bind_snr,hw,hr]
    show _=some (if q (ix l (i:Int))=true then (i:Int) else idx q t (i+1))
    split <;> rfl
  · intro r;rw [if_neg (by simp)];rfl
theorem IF130 (l:List PairKey) (g:PairKey→Option Bool) (q:PairKey→Bool) (hg:∀ a,g a=some (q a)) (hl:Sm l):slices_IndexFunc_101 l g=some (idx q l 0):=by
  unfold slices_IndexFunc_101
  simp only [Let_nr]
  refine LOOP_l0 l (fun t i=>some (idx q t i)) _ hl ?_ ?_
  · intro r i t hw hc hm hr
    rw [if_pos (dlt hc),Chk_of hc,hg,Bind_snr,hw,hr]
    show _=some (if q (ix l (i:Int))=true then (i:Int) else idx q t (i+1))
    split <;> rfl
  · intro r;rw [if_neg (by simp)];rfl
def wakeL (w:World_):List Int→World_
  | []=>w
  | a::t=>wakeL (if a=0 then w else wakeW w a) t
theorem wakeAllL_eq (w:World_) (ns:List Int) (h:SmW w) (hn:ns.length≤1000000):world_wakeAll w ns=some (wakeL w ns):=by
  unfold world_wakeAll
  simp only [Let_nr,Join_nr]
  refine LOOP_j ns (fun _ s=>SmW s) (fun t _ s=>some (wakeL s t)) _ w (sm_of hn (by omega)) h ?_ ?_
  · intro r i t s hp hw hc hm hr
    rw [if_pos (dlt hc),Chk_of hc,hw]
    show _=some (wakeL (if ix ns (i:Int)=0 then s else wakeW s (ix ns (i:Int))) t)
    by_cases ha:ix ns (i:Int)=0
    · rw [if_neg (by rw [ha];decide),if_pos ha];exact hr _ hp
    · rw [if_pos (by simpa using ha),if_neg ha,world_Wake_eq _ _ hp,Bind_snr];exact hr _ (wake_sm _ _ hp)
  · intro r s hp;rw [if_neg (by simp)];rfl
theorem smS (w:World_) (B:List Body) (J:List Joint) (C:List Contact) (O:List PairKey) (h:SmW w) (hb:B.Sublist w.Bodies) (hj:J.Sublist w.Joints) (hc:C.Sublist w.Contacts) (ho:O.Sublist w.Overlaps):
    SmW { Settings:=w.Settings,Bodies:=B,Joints:=J,Contacts:=C,Overlaps:=O,NextID:=w.NextID,Frame:=w.Frame }:=
  ⟨Nat.le_trans hb.length_le h.bodies,Nat.le_trans hj.length_le h.joints,Nat.le_trans hc.length_le h.contacts,Nat.le_trans ho.length_le h.overlaps,fun c hcc=>h.points c (hc.subset hcc),fun b hbb=>h.body b (hb.subset hbb)⟩
theorem cutSub {α:Type} (l:List α) (k:Nat):(l.take k++l.drop (k+1)).Sublist l:=by
  have h1:=List.take_append_drop k l
  have h2:(l.drop (k+1)).Sublist (l.drop k):=by
    rw [← List.drop_drop];exact List.drop_sublist _ _
  have h3:=List.Sublist.append (List.Sublist.refl (l.take k)) h2
  rwa [h1] at h3
def fJ (id:Int) (j:Joint):List Int:=if att id j=true then [oth j.BodyA j.BodyB id] else []
def fC (id:Int) (c:Contact):List Int:=if refK id c.Key=true then [oth c.Key.BodyA c.Key.BodyB id] else []
def nsP (w:World_) (id:Int):List Int:=[]++(w.Joints.flatMap (fJ id)++w.Contacts.flatMap (fC id))
def rmW (w:World_) (id:Int) (k:Nat):World_:=
  { Settings:=w.Settings,Bodies:=w.Bodies.take k++w.Bodies.drop (k+1),Joints:=w.Joints.filter (fun j => !att id j),Contacts:=w.Contacts.filter (fun c => !refK id c.Key),Overlaps:=w.Overlaps.filter (fun k => !refK id k),NextID:=w.NextID,Frame:=w.Frame }
def rmP (w:World_) (id:Int):World_ × Int:=if fb w id<0 then (zeroW,8) else (wakeL (rmW w id (fb w id).toNat) (nsP w id),0)
theorem idx_ne {α:Type} (q:α→Bool) (l:List α) (h:idx q l 0 ≠ -1):∃ k:Nat,idx q l 0=(k:Int):=by
  rcases idx_bd q l 0 with g | g
  · exact absurd g h
  · exact ⟨(idx q l 0).toNat,by omega⟩
theorem flat_len {α:Type} (f:α→List Int) (hf:∀ a,(f a).length≤2):∀ l:List α,(l.flatMap f).length≤2*l.length
  | []=>by simp
  | a::l=>by have:=flat_len f hf l;have:=hf a;simp only [List.flatMap_cons,List.length_append,List.length_cons];omega
theorem fJ_len (id:Int) (j:Joint):(fJ id j).length≤2:=by unfold fJ;split <;> simp
theorem fC_len (id:Int) (c:Contact):(fC id c).length≤2:=by unfold fC;split <;> simp
theorem nsP_len (w:World_) (id:Int) (h:SmW w):(nsP w id).length≤1000000:=by
  unfold nsP
  have h1:=flat_len (fJ id) (fJ_len id) w.Joints
  have h2:=flat_len (fC id) (fC_len id) w.Contacts
  have:=h.joints;have:=h.contacts
  simp only [List.length_append,List.length_nil];omega
theorem world_Rem_eq (w:World_) (id:Int) (h:SmW w):world_RemoveBody w id=some (rmP w id):=by
  have hsb:=h.bodies
  have hsj:=h.joints
  have hsc:=h.contacts
  have hso:=h.overlaps
  have hns:=nsP_len w id h
  unfold world_RemoveBody
  rw [world_Find_eq w id (sm_of h.bodies (by omega)),Bind_snr]
  simp only [Let_nr,Join_nr]
  rcases fb_cases w id with hk | ⟨k,hk,hl⟩
  · rw [hk,if_pos (by simp)];unfold rmP;rw [hk,if_pos (by decide)];rfl
  have n4:¬ ((k:Int)<0):=by omega
  have hR:rmP w id=(wakeL (rmW w id k) (nsP w id),0):=by unfold rmP;rw [hk,if_neg n4,Int.toNat_natCast]
  rw [hR,hk,if_neg (by simp),world_Clone_eq w h,Bind_snr]
  unfold rmW
  refine LOOP_accR w.Joints (fJ id) [] _ _ (sm_of hsj (by omega)) (fJ_len id) ?_ ?_
  · intro r i acc ha hw hc hm
    rw [if_pos (dlt hc),Chk_of hc,Chk_of hc,hw,att_eq,Bind_snr]
    by_cases ht:att id (ix w.Joints (i:Int))=true
    · rw [if_pos ht,oth_eq,Bind_snr,Chk_of (by simp at ha ⊢;omega),show fJ id (ix w.Joints (i:Int))=_ from if_pos ht]
    · rw [if_neg ht,show fJ id (ix w.Joints (i:Int))=_ from if_neg ht,List.append_nil]
  intro r0
  rw [if_neg (by simp)]
  have hfl:=flat_len (fJ id) (fJ_len id) w.Joints
  refine LOOP_accR w.Contacts (fC id) _ _ _ (sm_of hsc (by omega)) (fC_len id) ?_ ?_
  · intro r i acc ha hw hc hm
    simp only [List.nil_append] at ha
    rw [if_pos (dlt hc),Chk_of hc,Chk_of hc,hw,rb1_eq,Bind_snr]
    by_cases ht:refK id (ix w.Contacts (i:Int)).Key=true
    · rw [if_pos ht,oth_eq,Bind_snr,Chk_of (by simp;omega),show fC id (ix w.Contacts (i:Int))=_ from if_pos ht]
    · rw [if_neg ht,show fC id (ix w.Contacts (i:Int))=_ from if_neg ht,List.append_nil]
  intro r1
  rw [if_neg (by simp)]
  have hw2:IntKind.i64.wrap ((k:Int)+1)=((k+1:Nat):Int):=by rw [wrap_in _ (by omega) (by omega)];omega
  rw [hw2,Chk_of (by omega),if_neg (by simp;omega)]
  have e1:List.take (w.Bodies.length - (k+1)) (List.drop (k+1) w.Bodies)=w.Bodies.drop (k+1):=by
    apply List.take_of_length_le;simp
  have e2:(w.Bodies.drop (k+1)).length=w.Bodies.length - (k+1):=by simp
  simp only [Int.toNat_natCast,Option.getD_some,Option.getD_none,Nat.sub_zero,Nat.zero_add,e1,e2]
  have e3:k+(w.Bodies.length - (k+1))=w.Bodies.length - 1:=by omega
  have l3:(w.Bodies.take k++w.Bodies.drop (k+1)).length=w.Bodies.length - 1:=by simp;omega
  have hXs:=cutSub w.Bodies k
  simp only [e3]
  generalize w.Bodies.take k++w.Bodies.drop (k+1)=X at l3 hXs ⊢
  rw [Chk_of (by omega),Chk_of (by omega),Chk_of (by omega),Chk_of (by omega),Chk_of (by omega),Chk_of (by simp;omega)]
  simp only [List.append_assoc,take_app_len X _ _ l3.symm]
  rw [Chk_of (by simp;omega)]
  refine (Bind_of (IF128 _ _ (att id) (fun a=>rb2_eq a id) (sm_of hsj (by omega)))).trans ?_
  by_cases hj:idx (att id) w.Joints 0 = -1
  · have hJ:w.Joints.filter (fun j => !att id j)=w.Joints:=idx_none _ _ hj
    rw [hj,if_pos (by decide),hJ]
    refine LOOP_findR w.Contacts (fun c=>refK id c.Key) _ _ (sm_of hsc (by omega)) ?_ ?_ ?_
    · intro r i hw hc hq
      rw [if_pos (dlt hc),Chk_of hc,Chk_of hc,rb1_eq,Bind_snr,if_neg (by simpa using hq),hw]
    · intro r i hc hidx hq
      have n1:¬ ((i:Int) == -1)=true:=by simp
      rw [if_pos (dlt hc),Chk_of hc,Chk_of hc,rb1_eq,Bind_snr,if_pos hq,if_neg n1]
      refine LOOP_delR w.Contacts (fun c=>refK id c.Key) _ i _ (sm_of hsc (by omega)) hidx ?_ ?_
      · intro r i j s hwi hwj hij hjs hsl
        have hcj:(0:Int)≤(j:Int)∧(j:Int)<(s.length:Int):=by omega
        have hci:(0:Int)≤(i:Int)∧(i:Int)<(s.length:Int):=by omega
        rw [if_pos (dlt hcj),Chk_of hcj,Chk_of hcj,rb1_eq,Bind_snr,hwj]
        cases hq:refK id (ix s (j:Int)).Key
        · rw [if_pos (by decide),Chk_of hci,Chk_of hci,hwi,if_neg (by decide)];rfl
        · rw [if_neg (by decide),if_pos (by decide)]
      intro r i s his hsl hF
      rw [if_neg (by simp)]
      simp only [Int.toNat_natCast,Option.getD_some,Option.getD_none,Nat.sub_zero]
      have l1:(s.take i).length=i:=by simp;omega
      rw [Chk_of (by omega),Chk_of (by omega)]
      simp only [List.append_assoc,take_app_len (s.take i) _ _ l1.symm]
      rw [Chk_of (by simp;omega),Chk_of (by simp;omega)]
      simp only [hF]
      refine (Bind_of (IF130 _ _ (refK id) (fun a=>rb1_eq a id) (sm_of hso (by omega)))).trans ?_
      by_cases ho:idx (refK id) w.Overlaps 0 = -1
      · have hO:w.Overlaps.filter (fun k => !refK id k)=w.Overlaps:=idx_none _ _ ho
        rw [ho,if_pos (by decide),hO]
        rw [show (([]:List Int)++(w.Joints.flatMap (fJ id)++w.Contacts.flatMap (fC id)))=nsP w id from rfl,wakeAllL_eq _ _ (smS w _ _ _ _ h hXs (by first | exact List.Sublist.refl _ | exact List.filter_sublist) (by first | exact List.Sublist.refl _ | exact List.filter_sublist) (by first | exact List.Sublist.refl _ | exact List.filter_sublist)) hns,Bind_snr]
      obtain ⟨ko,hko⟩:=idx_ne _ _ ho
      rw [hko,if_neg (by simp)]
      refine LOOP_delR w.Overlaps (refK id) _ ko _ (sm_of hso (by omega)) hko ?_ ?_
      · intro r i j s hwi hwj hij hjs hsl
        have hcj:(0:Int)≤(j:Int)∧(j:Int)<(s.length:Int):=by omega
        have hci:(0:Int)≤(i:Int)∧(i:Int)<(s.length:Int):=by omega
        rw [if_pos (dlt hcj),Chk_of hcj,Chk_of hcj,rb1_eq,Bind_snr,hwj]
        cases hq:refK id (ix s (j:Int))
        · rw [if_pos (by decide),Chk_of hci,Chk_of hci,hwi,if_neg (by decide)];rfl
        · rw [if_neg (by decide),if_pos (by decide)]
      intro r i s his hsl hF
      rw [if_neg (by simp)]
      simp only [Int.toNat_natCast,Option.getD_some,Option.getD_none,Nat.sub_zero]
      have l1:(s.take i).length=i:=by simp;omega
      rw [Chk_of (by omega),Chk_of (by omega)]
      simp only [List.append_assoc,take_app_len (s.take i) _ _ l1.symm]
      rw [Chk_of (by simp;omega),Chk_of (by simp;omega)]
      simp only [hF]
      rw [show (([]:List Int)++(w.Joints.flatMap (fJ id)++w.Contacts.flatMap (fC id)))=nsP w id from rfl,wakeAllL_eq _ _ (smS w _ _ _ _ h hXs (by first | exact List.Sublist.refl _ | exact List.filter_sublist) (by first | exact List.Sublist.refl _ | exact List.filter_sublist) (by first | exact List.Sublist.refl _ | exact List.filter_sublist)) hns,Bind_snr]
    · intro r hidx
      have hC:w.Contacts.filter (fun c => !refK id c.Key)=w.Contacts:=idx_none (fun c:Contact=>refK id c.Key) _ hidx
      rw [if_neg (by simp),hC]
      refine (Bind_of (IF130 _ _ (refK id) (fun a=>rb1_eq a id) (sm_of hso (by omega)))).trans ?_
      by_cases ho:idx (refK id) w.Overlaps 0 = -1
      · have hO:w.Overlaps.filter (fun k => !refK id k)=w.Overlaps:=idx_none _ _ ho
        rw [ho,if_pos (by decide),hO]
        rw [show (([]:List Int)++(w.Joints.flatMap (fJ id)++w.Contacts.flatMap (fC id)))=nsP w id from rfl,wakeAllL_eq _ _ (smS w _ _ _ _ h hXs (by first | exact List.Sublist.refl _ | exact List.filter_sublist) (by first | exact List.Sublist.refl _ | exact List.filter_sublist) (by first | exact List.Sublist.refl _ | exact List.filter_sublist)) hns,Bind_snr]
      obtain ⟨ko,hko⟩:=idx_ne _ _ ho
      rw [hko,if_neg (by simp)]
      refine LOOP_delR w.Overlaps (refK id) _ ko _ (sm_of hso (by omega)) hko ?_ ?_
      · intro r i j s hwi hwj hij hjs hsl
        have hcj:(0:Int)≤(j:Int)∧(j:Int)<(s.length:Int):=by omega
        have hci:(0:Int)≤(i:Int)∧(i:Int)<(s.length:Int):=by omega
        rw [if_pos (dlt hcj),Chk_of hcj,Chk_of hcj,rb1_eq,Bind_snr,hwj]
        cases hq:refK id (ix s (j:Int))
        · rw [if_pos (by decide),Chk_of hci,Chk_of hci,hwi,if_neg (by decide)];rfl
        · rw [if_neg (by decide),if_pos (by decide)]
      intro r i s his hsl hF
      rw [if_neg (by simp)]
      simp only [Int.toNat_natCast,Option.getD_some,Option.getD_none,Nat.sub_zero]
      have l1:(s.take i).length=i:=by simp;omega
      rw [Chk_of (by omega),Chk_of (by omega)]
      simp only [List.append_assoc,take_app_len (s.take i) _ _ l1.symm]
      rw [Chk_of (by simp;omega),Chk_of (by simp;omega)]
      simp only [hF]
      rw [show (([]:List Int)++(w.Joints.flatMap (fJ id)++w.Contacts.flatMap (fC id)))=nsP w id from rfl,wakeAllL_eq _ _ (smS w _ _ _ _ h hXs (by first | exact List.Sublist.refl _ | exact List.filter_sublist) (by first | exact List.Sublist.refl _ | exact List.filter_sublist) (by first | exact List.Sublist.refl _ | exact List.filter_sublist)) hns,Bind_snr]
  obtain ⟨kj,hkj⟩:=idx_ne _ _ hj
  rw [hkj,if_neg (by simp)]
  refine LOOP_delR w.Joints (att id) _ kj _ (sm_of hsj (by omega)) hkj ?_ ?_
  · intro r i j s hwi hwj hij hjs hsl
    have hcj:(0:Int)≤(j:Int)∧(j:Int)<(s.length:Int):=by omega
    have hci:(0:Int)≤(i:Int)∧(i:Int)<(s.length:Int):=by omega
    rw [if_pos (dlt hcj),Chk_of hcj,Chk_of hcj,rb2_eq,Bind_snr,hwj]
    cases hq:att id (ix s (j:Int))
    · rw [if_pos (by decide),Chk_of hci,Chk_of hci,hwi,if_neg (by decide)];rfl
    · rw [if_neg (by decide),if_pos (by decide)]
  intro r i s his hsl hF
  rw [if_neg (by simp)]
  simp only [Int.toNat_natCast,Option.getD_some,Option.getD_none,Nat.sub_zero]
  have l1:(s.take i).length=i:=by simp;omega
  rw [Chk_of (by omega),Chk_of (by omega)]
  simp only [List.append_assoc,take_app_len (s.take i) _ _ l1.symm]
  rw [Chk_of (by simp;omega),Chk_of (by simp;omega)]
  simp only [hF]
  refine LOOP_findR w.Contacts (fun c=>refK id c.Key) _ _ (sm_of hsc (by omega)) ?_ ?_ ?_
  · intro r i hw hc hq
    rw [if_pos (dlt hc),Chk_of hc,Chk_of hc,rb1_eq,Bind_snr,if_neg (by simpa using hq),hw]
  · intro r i hc hidx hq
    have n1:¬ ((i:Int) == -1)=true:=by simp
    rw [if_pos (dlt hc),Chk_of hc,Chk_of hc,rb1_eq,Bind_snr,if_pos hq,if_neg n1]
    refine LOOP_delR w.Contacts (fun c=>refK id c.Key) _ i _ (sm_of hsc (by omega)) hidx ?_ ?_
    · intro r i j s hwi hwj hij hjs hsl
      have hcj:(0:Int)≤(j:Int)∧(j:Int)<(s.length:Int):=by omega
      have hci:(0:Int)≤(i:Int)∧(i:Int)<(s.length:Int):=by omega
      rw [if_pos (dlt hcj),Chk_of hcj,Chk_of hcj,rb1_eq,Bind_snr,hwj]
      cases hq:refK id (ix s (j:Int)).Key
      · rw [if_pos (by decide),Chk_of hci,Chk_of hci,hwi,if_neg (by decide)];rfl
      · rw [if_neg (by decide),if_pos (by decide)]
    intro r i s his hsl hF
    rw [if_neg (by simp)]
    simp only [Int.toNat_natCast,Option.getD_some,Option.getD_none,Nat.sub_zero]
    have l1:(s.take i).length=i:=by simp;omega
    rw [Chk_of (by omega),Chk_of (by omega)]
    simp only [List.append_assoc,take_app_len (s.take i) _ _ l1.symm]
    rw [Chk_of (by simp;omega),Chk_of (by simp;omega)]
    simp only [hF]
    refine (Bind_of (IF130 _ _ (refK id) (fun a=>rb1_eq a id) (sm_of hso (by omega)))).trans ?_
    by_cases ho:idx (refK id) w.Overlaps 0 = -1
    · have hO:w.Overlaps.filter (fun k => !refK id k)=w.Overlaps:=idx_none _ _ ho
      rw [ho,if_pos (by decide),hO]
      rw [show (([]:List Int)++(w.Joints.flatMap (fJ id)++w.Contacts.flatMap (fC id)))=nsP w id from rfl,wakeAllL_eq _ _ (smS w _ _ _ _ h hXs (by first | exact List.Sublist.refl _ | exact List.filter_sublist) (by first | exact List.Sublist.refl _ | exact List.filter_sublist) (by first | exact List.Sublist.refl _ | exact List.filter_sublist)) hns,Bind_snr]
    obtain ⟨ko,hko⟩:=idx_ne _ _ ho
    rw [hko,if_neg (by simp)]
    refine LOOP_delR w.Overlaps (refK id) _ ko _ (sm_of hso (by omega)) hko ?_ ?_
    · intro r i j s hwi hwj hij hjs hsl
      have hcj:(0:Int)≤(j:Int)∧(j:Int)<(s.length:Int):=by omega
      have hci:(0:Int)≤(i:Int)∧(i:Int)<(s.length:Int):=by omega
      rw [if_pos (dlt hcj),Chk_of hcj,Chk_of hcj,rb1_eq,Bind_snr,hwj]
      cases hq:refK id (ix s (j:Int))
      · rw [if_pos (by decide),Chk_of hci,Chk_of hci,hwi,if_neg (by decide)];rfl
      · rw [if_neg (by decide),if_pos (by decide)]
    intro r i s his hsl hF
    rw [if_neg (by simp)]
    simp only [Int.toNat_natCast,Option.getD_some,Option.getD_none,Nat.sub_zero]
    have l1:(s.take i).length=i:=by simp;omega
    rw [Chk_of (by omega),Chk_of (by omega)]
    simp only [List.append_assoc,take_app_len (s.take i) _ _ l1.symm]
    rw [Chk_of (by simp;omega),Chk_of (by simp;omega)]
    simp only [hF]
    rw [show (([]:List Int)++(w.Joints.flatMap (fJ id)++w.Contacts.flatMap (fC id)))=nsP w id from rfl,wakeAllL_eq _ _ (smS w _ _ _ _ h hXs (by first | exact List.Sublist.refl _ | exact List.filter_sublist) (by first | exact List.Sublist.refl _ | exact List.filter_sublist) (by first | exact List.Sublist.refl _ | exact List.filter_sublist)) hns,Bind_snr]
  · intro r hidx
    have hC:w.Contacts.filter (fun c => !refK id c.Key)=w.Contacts:=idx_none (fun c:Contact=>refK id c.Key) _ hidx
    rw [if_neg (by simp),hC]
    refine (Bind_of (IF130 _ _ (refK id) (fun a=>rb1_eq a id) (sm_of hso (by omega)))).trans ?_
    by_cases ho:idx (refK id) w.Overlaps 0 = -1
    · have hO:w.Overlaps.filter (fun k => !refK id k)=w.Overlaps:=idx_none _ _ ho
      rw [ho,if_pos (by decide),hO]
      rw [show (([]:List Int)++(w.Joints.flatMap (fJ id)++w.Contacts.flatMap (fC id)))=nsP w id from rfl,wakeAllL_eq _ _ (smS w _ _ _ _ h hXs (by first | exact List.Sublist.refl _ | exact List.filter_sublist) (by first | exact List.Sublist.refl _ | exact List.filter_sublist) (by first | exact List.Sublist.refl _ | exact List.filter_sublist)) hns,Bind_snr]
    obtain ⟨ko,hko⟩:=idx_ne _ _ ho
    rw [hko,if_neg (by simp)]
    refine LOOP_delR w.Overlaps (refK id) _ ko _ (sm_of hso (by omega)) hko ?_ ?_
    · intro r i j s hwi hwj hij hjs hsl
      have hcj:(0:Int)≤(j:Int)∧(j:Int)<(s.length:Int):=by omega
      have hci:(0:Int)≤(i:Int)∧(i:Int)<(s.length:Int):=by omega
      rw [if_pos (dlt hcj),Chk_of hcj,Chk_of hcj,rb1_eq,Bind_snr,hwj]
      cases hq:refK id (ix s (j:Int))
      · rw [if_pos (by decide),Chk_of hci,Chk_of hci,hwi,if_neg (by decide)];rfl
      · rw [if_neg (by decide),if_pos (by decide)]
    intro r i s his hsl hF
    rw [if_neg (by simp)]
    simp only [Int.toNat_natCast,Option.getD_some,Option.getD_none,Nat.sub_zero]
    have l1:(s.take i).length=i:=by simp;omega
    rw [Chk_of (by omega),Chk_of (by omega)]
    simp only [List.append_assoc,take_app_len (s.take i) _ _ l1.symm]
    rw [Chk_of (by simp;omega),Chk_of (by simp;omega)]
    simp only [hF]
    rw [show (([]:List Int)++(w.Joints.flatMap (fJ id)++w.Contacts.flatMap (fC id)))=nsP w id from rfl,wakeAllL_eq _ _ (smS w _ _ _ _ h hXs (by first | exact List.Sublist.refl _ | exact List.filter_sublist) (by first | exact List.Sublist.refl _ | exact List.filter_sublist) (by first | exact List.Sublist.refl _ | exact List.filter_sublist)) hns,Bind_snr]
end GoForm
set_option linter.all false
set_option maxRecDepth 100000
open Go Go.Rx
namespace GoForm
end GoForm
set_option linter.all false
set_option maxRecDepth 100000
open Go Go.Rx
namespace GoForm
abbrev Sig:=List (Int × Nat)
def hasB (S:Sig) (id:Int):Prop:=∃ s∈S,s.1=id
def hasF (S:Sig) (id n:Int):Prop:=∃ s∈S,s.1=id∧0≤n∧n<(s.2:Int)
def KS (S:Sig) (l:List PairKey):Prop:=(∀ k∈l,okK k=true∧hasF S k.BodyA k.FixtureA∧hasF S k.BodyB k.FixtureB)∧l.Pairwise (fun a b=>lessK a b=true)
structure RV (S:Sig) (N:Int) (st:Settings) (fr:Int) (J:List Joint) (C:List Contact) (O:List PairKey):Prop where
  set:vset st=0
  nb:S.length≤32
  nj:J.length≤32
  nc:C.length≤8192
  no:O.length≤8192
  nid:1≤N∧N≤1099511627776
  frm:inb fr 0 1099511627776=true
  bid:∀ s∈S,0<s.1∧s.1<N
  bsrt:S.Pairwise (fun a b=>a.1<b.1)
  jnt:∀ j∈J,jv j=0∧0<j.ID∧j.ID<N∧(j.BodyA=0∨hasB S j.BodyA)∧(j.BodyB=0∨hasB S j.BodyB)∧¬ hasB S j.ID
  jsrt:J.Pairwise (fun a b=>a.ID<b.ID)
  man:∀ c∈C,mOk c.Manifold=true
  ck:KS S (C.map (·.Key))
  ok:KS S O
end GoForm
set_option linter.all false
set_option maxRecDepth 100000
open Go Go.Rx
namespace GoForm
end GoForm
set_option linter.all false
set_option maxRecDepth 100000
open Go Go.Rx
namespace GoForm
theorem few_wake (w:World_) (id:Int) (h:Few w):Few (wakeW w id):=by
  unfold wakeW
  split
  next hc=>
    have hx:ix w.Bodies (fb w id)∈w.Bodies:=by
      rcases fb_cases w id with hk | ⟨k,hk,hl⟩
      · rw [hk] at hc;simp at hc
      · exact ix_mem w.Bodies _ (by omega)
    refine ⟨by simpa using h.bodies,h.joints,h.contacts,h.overlaps,h.points,?_,?_⟩
    · intro b hb
      rcases mem_set_or _ _ _ _ hb with hb | hb
      · exact h.fixtures b hb
      · rw [hb];have hh:=h.fixtures (ix w.Bodies (fb w id)) hx;exact hh
    · intro b hb
      rcases mem_set_or _ _ _ _ hb with hb | hb
      · exact h.vertices b hb
      · rw [hb];have hh:=h.vertices (ix w.Bodies (fb w id)) hx;exact hh
  · exact h
theorem few_wakeL:∀ (ns:List Int) (w:World_),Few w→Few (wakeL w ns)
  | [],w,h=>h
  | a::t,w,h=>by
    unfold wakeL
    split
    · exact few_wakeL t w h
    · exact few_wakeL t _ (few_wake _ _ h)
theorem few_zero:Few zeroW:=nilW_few ⟨0,⟨0,0⟩,0,0⟩ 0
theorem few_sub (w:World_) (id:Int) (k:Nat) (h:Few w):Few (rmW w id k):=by
  have hb:=cutSub w.Bodies k
  exact ⟨Nat.le_trans hb.length_le h.bodies,Nat.le_trans (List.length_filter_le _ _) h.joints,Nat.le_trans (List.length_filter_le _ _) h.contacts,Nat.le_trans (List.length_filter_le _ _) h.overlaps,
    fun c hc=>h.points c (List.filter_sublist.subset hc),fun b hm=>h.fixtures b (hb.subset hm),fun b hm=>h.vertices b (hb.subset hm)⟩
theorem few_rmP (w:World_) (id:Int) (h:Few w):Few (rmP w id).1:=by
  unfold rmP
  split
  · exact few_zero
  · exact few_wakeL _ _ (few_sub _ _ _ h)
end GoForm
set_option linter.all false
set_option maxRecDepth 100000
open Go Go.Rx
namespace GoForm
end GoForm
set_option linter.all false
set_option maxRecDepth 100000
open Go Go.Rx
namespace GoForm
end GoForm
set_option linter.all false
set_option maxRecDepth 100000
open Go Go.Rx
namespace GoForm
end GoForm
end

section
set_option linter.all false
set_option maxRecDepth 100000
open Go Go.Rx
namespace GoForm
theorem EP_eq (a b:List ContactPoint) (h:Sm a):slices_Equal_116 a b=some (decide (a=b)):=by
  unfold slices_Equal_116
  simp only [Let_nr,veq,peq,len_bne]
  by_cases hl:a.length=b.length
  · rw [if_neg (by simp [hl])]
    rw [show LOOP _ fuel (0:Int)=_ from LOOP_eq2 a b (some true) (some false) _ h hl ?_ ?_]
    · by_cases h2:a=b <;> simp [h2]
    · intro r i hw hc hc2 hm
      simp only [dlt hc,if_true,hw,Chk_of hc,Chk_of hc2,if_not_dec]
    · intro r;simp only [dll,ff,if_false]
  · have:¬ a=b:=fun e=>hl (by rw [e])
    simp [hl,this]
theorem EJ_eq (a b:List Joint) (h:Sm a):slices_Equal a b=some (decide (a=b)):=by
  unfold slices_Equal
  simp only [Let_nr,veq,jeq,len_bne]
  by_cases hl:a.length=b.length
  · rw [if_neg (by simp [hl])]
    rw [show LOOP _ fuel (0:Int)=_ from LOOP_eq2 a b (some true) (some false) _ h hl ?_ ?_]
    · by_cases h2:a=b <;> simp [h2]
    · intro r i hw hc hc2 hm
      simp only [dlt hc,if_true,hw,Chk_of hc,Chk_of hc2,if_not_dec]
    · intro r;simp only [dll,ff,if_false]
  · have:¬ a=b:=fun e=>hl (by rw [e])
    simp [hl,this]
theorem EK_eq (a b:List PairKey) (h:Sm a):slices_Equal_88 a b=some (decide (a=b)):=by
  unfold slices_Equal_88
  simp only [Let_nr,keq,len_bne]
  by_cases hl:a.length=b.length
  · rw [if_neg (by simp [hl])]
    rw [show LOOP _ fuel (0:Int)=_ from LOOP_eq2 a b (some true) (some false) _ h hl ?_ ?_]
    · by_cases h2:a=b <;> simp [h2]
    · intro r i hw hc hc2 hm
      simp only [dlt hc,if_true,hw,Chk_of hc,Chk_of hc2,if_not_dec]
    · intro r;simp only [dll,ff,if_false]
  · have:¬ a=b:=fun e=>hl (by rw [e])
    simp [hl,this]
theorem EM_eq (a b:Manifold) (h:a.Points.length≤10000):manifold_Equal a b=some (decide (a=b)):=by
  obtain ⟨an,ap⟩:=a
  obtain ⟨bn,bp⟩:=b
  unfold manifold_Equal
  simp only [Let_nr,veq,EP_eq ap bp (sm_of h (by omega))]
  by_cases h1:an=bn <;> by_cases h2:ap=bp <;> simp [h1,h2,Rx.Bind]
theorem EC_eq (a b:Contact) (h:a.Manifold.Points.length≤10000):world_Equal_1 a b=some (decide (a=b)):=by
  obtain ⟨ak,am⟩:=a
  obtain ⟨bk,bm⟩:=b
  unfold world_Equal_1
  simp only [Let_nr,keq,EM_eq am bm h]
  by_cases h1:ak=bk <;> by_cases h2:am=bm <;> simp [h1,h2,Rx.Bind]
theorem EF_eq (a b:List Body) (g:Body × Body→Option Bool) (h:Sm a) (hg:∀ x∈a,∀ y,g (x,y)=some (decide (x=y))):slices_EqualFunc a b g=some (decide (a=b)):=by
  unfold slices_EqualFunc
  simp only [Let_nr,len_bne]
  by_cases hl:a.length=b.length
  · rw [if_neg (by simp [hl])]
    rw [show LOOP _ fuel (0:Int)=_ from LOOP_eq2 a b (some true) (some false) _ h hl ?_ ?_]
    · by_cases h2:a=b <;> simp [h2]
    · intro r i hw hc hc2 hm
      simp only [dlt hc,if_true,hw,Chk_of hc,Chk_of hc2,hg _ hm,Bind_snr,if_not_dec]
    · intro r;simp only [dll,ff,if_false]
  · have:¬ a=b:=fun e=>hl (by rw [e])
    simp [hl,this]
theorem EG_eq (a b:List Contact) (g:Contact × Contact→Option Bool) (h:Sm a) (hg:∀ x∈a,∀ y,g (x,y)=some (decide (x=y))):slices_EqualFunc_87 a b g=some (decide (a=b)):=by
  unfold slices_EqualFunc_87
  simp only [Let_nr,len_bne]
  by_cases hl:a.length=b.length
  · rw [if_neg (by simp [hl])]
    rw [show LOOP _ fuel (0:Int)=_ from LOOP_eq2 a b (some true) (some false) _ h hl ?_ ?_]
    · by_cases h2:a=b <;> simp [h2]
    · intro r i hw hc hc2 hm
      simp only [dlt hc,if_true,hw,Chk_of hc,Chk_of hc2,hg _ hm,Bind_snr,if_not_dec]
    · intro r;simp only [dll,ff,if_false]
  · have:¬ a=b:=fun e=>hl (by rw [e])
    simp [hl,this]
theorem Bind_ife {c:Bool} {m:Option Bool} {b:Bool} {β:Type} (h:m=some b) (k:Bool→Option β):Rx.Bind (if (c==true)=true then m else some default) k=k (if c=true then b else default):=by
  subst h;cases c <;> rfl
theorem EW_eq (a b:World_) (h:SmW a):world_Equal a b=some (decide (a=b)):=by
  obtain ⟨a_s,ab,aj,ac,ao,an,af⟩:=a
  obtain ⟨b_s,bb,bj,bc,bo,bn,bf⟩:=b
  obtain ⟨h1,h2,h3,h4,h5,h6⟩:=h
  dsimp only at h1 h2 h3 h4 h5 h6
  have e1:=EF_eq ab bb (fun a=>body_Equal a.fst a.snd) (sm_of h1 (by omega)) (fun x hx y=>body_Equal_eq' x y (h6 x hx))
  have e2:=EG_eq ac bc (fun a=>world_Equal_1 a.fst a.snd) (sm_of h3 (by omega)) (fun x hx y=>EC_eq x y (h5 x hx))
  unfold world_Equal
  simp only [Let_nr,veq,steq]
  refine (Bind_ife e1 _).trans ?_
  refine (Bind_ife (EJ_eq aj bj (sm_of h2 (by omega))) _).trans ?_
  refine (Bind_ife e2 _).trans ?_
  refine (Bind_ife (EK_eq ao bo (sm_of h4 (by omega))) _).trans ?_
  by_cases q1:a_s=b_s <;> by_cases q2:an=bn <;> by_cases q3:af=bf <;> by_cases q4:ab=bb <;> by_cases q5:aj=bj <;> by_cases q6:ac=bc <;> by_cases q7:ao=bo <;> simp [q1,q2,q3,q4,q5,q6,q7]
end GoForm
end

section
set_option linter.all false
set_option maxRecDepth 100000
open Go Go.Rx Go.Proofs Go.RowKit
namespace GoForm
theorem Few.wee {w:World_} (h:Few w):Wee w:=by
  refine ⟨⟨Nat.le_trans h.bodies (by omega),Nat.le_trans h.joints (by omega),Nat.le_trans h.contacts (by omega),Nat.le_trans h.overlaps (by omega)⟩,fun b hb=>⟨Nat.le_trans (h.fixtures b hb) (by omega),fun f hf=>Nat.le_trans (h.vertices b hb f hf) (by omega)⟩,fun c hc=>Nat.le_trans (h.points c hc) (by omega)⟩
theorem law_true (x y:World_) (id:Int):FnR Tryz.prog 7 [e_World_ x,e_World_ y,.v (.int .i64 id)] (.v (.bool true)) []:=by
  intro w m vs hgl hi hr
  obtain ⟨v1,t1,rfl,h1,r1⟩:=hr.inv
  obtain ⟨v2,t2,rfl,h2,r2⟩:=r1.inv
  obtain ⟨t3,rfl,r3⟩:=r2.invV
  obtain rfl:=r3.inv0
  refine (law_core (x:=x) (y:=y) (id:=id) (ref25_Few_eq x) (ref25_Few_eq y) example25 (q:=decide (x=y)) (r:=rmP x id) (g:=wakeW x id) (fun hx hy=>?_) hi h1 h2).mono ?_
  · have fx:=few_Few hx
    have sx:=fx.smw
    exact ⟨fx.wee,ref25_Clone_eq x sx,world_Clone_eq x sx,EW_eq x y sx,ref25_Equal_eq x y sx,by rw [ref25_Equal_eq x x sx];simp,by rw [EW_eq x x sx];simp,world_Rem_eq x id sx,(few_rmP x id fx).wee,world_Wake_eq x id sx,(few_wake x id fx).wee⟩
  · rintro e w' ⟨rfl,hb⟩
    exact ⟨_,m,noNames,rfl,hb,⟨hi.below hb,Mem.le.refl m,fun _ _ _ h=>.inl h,by intro id l h;simp [find] at h,by intro id s p h;simp [find] at h,by intro id b n h;simp [noNames] at h,by intro id id' b n n' h;simp [noNames] at h,hgl⟩,fun _ _=>rfl,.v⟩
theorem caromlaw25_WorldCloneEqual_fnr (x y:World_) (id:Int) {P Q R:Prop} (_:P) (_:Q) (_:R):FnR Tryz.prog 7 [e_World_ x,e_World_ y,e_int id] (.v (.bool true)) []:=law_true x y id
end GoForm
end
