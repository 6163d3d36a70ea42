/- Several texts in one. No conditions. -/
import Derived.Test.YtffgldbihpgjgaaGreatDoorF47D
import Derived.Test.YtffgldbihpgjgaaGreatDoorQE
import Derived.Test.YtffgldbihpgjgaaGreatDoorGX
import Derived.Test.YtffgldbihpgjgaaGreatDoorF47S
section
/- Inputs: validation and equality, the program's and the reference's. No conditions. -/
set_option linter.all false
set_option maxRecDepth 100000
open Go Go.Rx
namespace GoForm
def zBody:Body:={ ID:=0,Kind:=0,Transform:={ Position:={ X:=0,Y:=0 },Angle:=0 },Velocity:={ X:=0,Y:=0 },AngularVelocity:=0,Force:={ X:=0,Y:=0 },Torque:=0,LinearDamping:=0,AngularDamping:=0,GravityScale:=0,Bullet:=false,FixedRotation:=false,NoSleep:=false,Asleep:=false,IdleSteps:=0,Fixtures:=[] }
theorem fuel20:∃ m,fuel=m+20:=⟨2 ^ 70 - 20,by unfold fuel;decide⟩
theorem bodyZ (b:Body):∃ be,body_Equal b zBody=some be∧caromref23_Equal b zBody=some be:=by
  obtain ⟨m,hm⟩:=fuel20
  unfold body_Equal caromref23_Equal
  rw [hm]
  simp only [Let_nr]
  by_cases h:b.Fixtures=[]
  · refine ⟨_,by rw [if_neg (by rw [h];decide),LOOP_s,if_neg (by rw [h];simp)],?_⟩
    rw [if_neg (by rw [h];decide),LOOP_s,if_neg (by rw [h];simp)]
    have key:∀ (c d e:Bool),((!c)&&d)=e→(if c=true then some false else some d)=some e:=by
      intro c d e h;cases c <;> simp_all
    refine key _ _ _ ?_
    simp only [cond_or,cond_and]
    rw [Bool.eq_iff_iff]
    simp only [Bool.and_eq_true,Bool.or_eq_true,Bool.not_eq_true',Bool.or_eq_false_iff,bne_eq_false_iff_eq,Bool.not_eq_false',beq_iff_eq,decide_eq_true_iff]
    grind
  · have hl:b.Fixtures.length≠0:=fun q=>h (List.length_eq_zero_iff.1 q)
    refine ⟨false,?_,?_⟩ <;> rw [if_pos (by rw [bne_iff_ne];show ((b.Fixtures.length:Int))≠((0:Nat):Int);omega)]
theorem Used_eq (k:Int):caromref43_UsedFields k=input_UsedFields k:=by
  unfold caromref43_UsedFields input_UsedFields;rfl
def sat (n:Int):Bool:=decide (-536870911≤n)&&decide (n≤536870911)
theorem isSat_eq (n:Int):input_isSaturated n=some (sat n):=by
  unfold input_isSaturated sat;simp only [Let_nr,cond_and];try rfl
theorem unsat_eq (n:Int):caromref43_unsaturated n=some (!sat n):=by
  unfold caromref43_unsaturated sat
  simp only [Let_nr,cond_or]
  by_cases h1 : -536870911≤n <;> by_cases h2:n≤536870911 <;> simp [h1,h2] <;> try omega
theorem if_some2 {α:Type} {p:Prop} [Decidable p] (a b:α):(if p then some a else some b)=some (if p then a else b):=by split <;> rfl
theorem Validate43_eq (x:Input):∃ e,input_Validate x=some e∧caromref43_Validate x=some e:=by
  obtain ⟨be,hb1,hb2⟩:=bodyZ x.Body
  obtain ⟨u,hu⟩:∃ u,input_UsedFields x.Kind=some u:=by
    unfold input_UsedFields
    simp only [Let_nr,Join_nr,if_some2]
    exact ⟨_,rfl⟩
  unfold input_Validate caromref43_Validate
  unfold zBody at hb1 hb2
  rw [Used_eq,hu]
  simp only [Let_nr,Join_nr,Bind_snr,hb1,hb2,isSat_eq,unsat_eq,Bind_if,cond_or,cond_and,if_some2]
  refine ⟨_,rfl,?_⟩
  congr 1
  obtain ⟨u1,u2,u3⟩:=u
  simp only
  generalize (decide (x.Kind<1)||decide (x.Kind>12))=k0
  generalize (decide (x.ID<1)||decide (x.ID>1099511627776))=i0
  generalize sat x.Vec.X=sx
  generalize sat x.Vec.Y=sy
  generalize sat x.Value=sv
  generalize (x.ID != 0)=i1
  generalize (!(decide (x.Vec.X=0)&&decide (x.Vec.Y=0)))=v1
  generalize (x.Value != 0)=v2
  generalize (x.Kind != 9)=k9
  generalize (x.Kind != 11)=k11
  generalize (!(decide (x.Joint.ID=0)&&_))=jz
  cases k0
  · cases u1 <;> cases u2 <;> cases u3 <;> cases i0 <;> cases sx <;> cases sy <;> cases sv <;> (try rfl) <;> cases i1 <;> cases v1 <;> cases v2 <;> (try rfl) <;> cases k9 <;> cases be <;> (try rfl) <;> cases k11 <;> cases jz <;> rfl
  · rfl
theorem dec_of {p q:Prop} [Decidable p] [Decidable q] (h:p↔q):decide p=decide q:=by
  by_cases hp:p
  · rw [decide_eq_true hp,decide_eq_true (h.1 hp)]
  · rw [decide_eq_false hp,decide_eq_false (fun hq=>hp (h.2 hq))]
theorem EV_eq (a b:List Vec) (h:Sm a):slices_Equal a b=some (decide (a=b)):=by
  unfold slices_Equal
  simp only [Let_nr]
  by_cases hl:a.length=b.length
  · rw [if_neg (by simp [hl]),LOOP_eq2 a b (some true) (some false) _ h hl ?_ ?_]
    · split <;> simp [*]
    · intro r i hw hc hc2 hm
      rw [if_pos (dlt hc),Chk_of hc,Chk_of hc2,hw]
      obtain ⟨x1,y1⟩:=ix a (i:Int)
      obtain ⟨x2,y2⟩:=ix b (i:Int)
      by_cases e1:x1=x2 <;> by_cases e2:y1=y2 <;> simp [e1,e2]
    · intro r;rw [dll,if_neg (by simp)]
  · have:a≠b:=fun e=>hl (by rw [e])
    rw [if_pos (by simp only [bne_iff_ne,ne_eq];omega)];simp [this]
theorem EV2_eq (a b:List Vec) (h:Sm a):caromref12_EqualVecs a b=some (decide (a=b)):=by
  unfold caromref12_EqualVecs
  simp only [Let_nr]
  by_cases hl:a.length=b.length
  · rw [if_neg (by simp [hl]),LOOP_eq2 a b (some true) (some false) _ h hl ?_ ?_]
    · split <;> simp [*]
    · intro r i hw hc hc2 hm
      rw [if_pos (dlt hc),Chk_of hc,Chk_of hc2,hw]
      obtain ⟨x1,y1⟩:=ix a (i:Int)
      obtain ⟨x2,y2⟩:=ix b (i:Int)
      by_cases e1:x1=x2 <;> by_cases e2:y1=y2 <;> simp [e1,e2]
    · intro r;rw [dll,if_neg (by simp)]
  · have:a≠b:=fun e=>hl (by rw [e])
    rw [if_pos (by simp only [bne_iff_ne,ne_eq];omega)];simp [this]
theorem ES_eq (a b:Shape) (h:Sm a.Vertices):shape_Equal a b=some (decide (a=b)):=by
  unfold shape_Equal
  simp only [Let_nr,EV_eq _ _ h]
  obtain ⟨k1,r1,v1⟩:=a
  obtain ⟨k2,r2,v2⟩:=b
  by_cases e1:k1=k2 <;> by_cases e2:r1=r2 <;> by_cases e3:v1=v2 <;> simp [e1,e2,e3,Bind_snr]
theorem ES2_eq (a b:Shape) (h:Sm a.Vertices):caromref12_Equal a b=some (decide (a=b)):=by
  unfold caromref12_Equal
  simp only [Let_nr,EV2_eq _ _ h]
  obtain ⟨k1,r1,v1⟩:=a
  obtain ⟨k2,r2,v2⟩:=b
  by_cases e1:k1=k2 <;> by_cases e2:r1=r2 <;> by_cases e3:v1=v2 <;> simp [e1,e2,e3,Bind_snr]
theorem fix_dec (a b:Fixture):decide (a=b)=(decide (a.Shape=b.Shape)&&decide (a.Density=b.Density)&&decide (a.Friction=b.Friction)&&decide (a.Restitution=b.Restitution)&&decide (a.Sensor=b.Sensor)&&decide (a.Category=b.Category)&&decide (a.Mask=b.Mask)&&decide (a.Group=b.Group)):=by
  simp only [← Bool.decide_and]
  refine dec_of ?_
  constructor
  · intro e;subst e;simp
  · intro h;cases a;cases b;simp_all
theorem beqI (a b:Int):(a==b)=decide (a=b):=rfl
theorem beqB (a b:Bool):(a==b)=decide (a=b):=by cases a <;> cases b <;> rfl
theorem EFx_eq (a b:Fixture) (h:Sm a.Shape.Vertices):body_equalFixtures a b=some (decide (a=b)):=by
  unfold body_equalFixtures
  simp only [Let_nr,ES_eq _ _ h,Bind_snr,fix_dec a b,beqI,beqB,cond_and]
  generalize decide (a.Shape=b.Shape)=x1
  generalize decide (a.Density=b.Density)=x2
  generalize decide (a.Friction=b.Friction)=x3
  generalize decide (a.Restitution=b.Restitution)=x4
  generalize decide (a.Sensor=b.Sensor)=x5
  generalize decide (a.Category=b.Category)=x6
  generalize decide (a.Mask=b.Mask)=x7
  generalize decide (a.Group=b.Group)=x8
  simp only [Bool.and_assoc]
theorem EFx2_eq (a b:Fixture) (h:Sm a.Shape.Vertices):caromref23_EqualFixture a b=some (decide (a=b)):=by
  unfold caromref23_EqualFixture
  simp only [Let_nr,ES2_eq _ _ h,Bind_snr,fix_dec a b,beqI,beqB,cond_and]
structure Bd (b:Body):Prop where
  sm:Sm b.Fixtures
  vs:∀ f∈b.Fixtures,Sm f.Shape.Vertices
def bodR (a b:Body):Bool:=decide (a.ID=b.ID)&&decide (a.Kind=b.Kind)&&(decide (a.Transform.Position.X=b.Transform.Position.X)&&decide (a.Transform.Position.Y=b.Transform.Position.Y)&&decide (a.Transform.Angle=b.Transform.Angle))&&(decide (a.Velocity.X=b.Velocity.X)&&decide (a.Velocity.Y=b.Velocity.Y))&&decide (a.AngularVelocity=b.AngularVelocity)&&(decide (a.Force.X=b.Force.X)&&decide (a.Force.Y=b.Force.Y))&&decide (a.Torque=b.Torque)&&decide (a.LinearDamping=b.LinearDamping)&&decide (a.AngularDamping=b.AngularDamping)&&decide (a.GravityScale=b.GravityScale)&&decide (a.Bullet=b.Bullet)&&decide (a.FixedRotation=b.FixedRotation)&&decide (a.NoSleep=b.NoSleep)&&decide (a.Asleep=b.Asleep)&&decide (a.IdleSteps=b.IdleSteps)
theorem body_dec (a b:Body):decide (a=b)=(bodR a b&&decide (a.Fixtures=b.Fixtures)):=by
  unfold bodR
  simp only [← Bool.decide_and]
  refine dec_of ?_
  constructor
  · intro e;subst e;simp
  · intro h
    obtain ⟨a1,a2,⟨⟨a3,a4⟩,a5⟩,⟨a6,a7⟩,a8,⟨a9,a10⟩,a11,a12,a13,a14,a15,a16,a17,a18,a19,a20⟩:=a
    obtain ⟨b1,b2,⟨⟨b3,b4⟩,b5⟩,⟨b6,b7⟩,b8,⟨b9,b10⟩,b11,b12,b13,b14,b15,b16,b17,b18,b19,b20⟩:=b
    simp_all
theorem body_fin (a b:Body):(if a.Fixtures=b.Fixtures then some (bodR a b) else some false)=some (decide (a=b)):=by
  rw [body_dec]
  by_cases h:a.Fixtures=b.Fixtures <;> simp [h]
theorem EB_eq (a b:Body) (h:Bd a):body_Equal a b=some (decide (a=b)):=by
  unfold body_Equal
  simp only [Let_nr]
  by_cases hl:a.Fixtures.length=b.Fixtures.length
  · rw [if_neg (by simp [hl]),LOOP_eq2 a.Fixtures b.Fixtures (some (bodR a b)) (some false) _ h.sm hl ?_ ?_,body_fin]
    · intro r i hw hc hc2 hm
      rw [if_pos (dlt hc),Chk_of hc,Chk_of hc2,hw,EFx_eq _ _ (h.vs _ hm),Bind_snr]
      by_cases e:ix a.Fixtures (i:Int)=ix b.Fixtures (i:Int) <;> simp [e]
    · intro r
      rw [dll,if_neg (by simp)]
      simp only [beqI,beqB,cond_and,bodR]
      generalize decide (a.ID=b.ID)=x1
      generalize decide (a.Kind=b.Kind)=x2
      generalize (decide (a.Transform.Position.X=b.Transform.Position.X)&&decide (a.Transform.Position.Y=b.Transform.Position.Y)&&decide (a.Transform.Angle=b.Transform.Angle))=x3
      generalize (decide (a.Velocity.X=b.Velocity.X)&&decide (a.Velocity.Y=b.Velocity.Y))=x4
      generalize (decide (a.Force.X=b.Force.X)&&decide (a.Force.Y=b.Force.Y))=x5
      simp only [Bool.and_assoc]
  · have:a≠b:=fun e=>hl (by rw [e])
    rw [if_pos (by simp only [bne_iff_ne,ne_eq];omega)];simp [this]
theorem EB2_eq (a b:Body) (h:Bd a):caromref23_Equal a b=some (decide (a=b)):=by
  unfold caromref23_Equal
  simp only [Let_nr]
  by_cases hl:a.Fixtures.length=b.Fixtures.length
  · rw [if_neg (by simp [hl]),LOOP_eq2 a.Fixtures b.Fixtures (some (bodR a b)) (some false) _ h.sm hl ?_ ?_,body_fin]
    · intro r i hw hc hc2 hm
      rw [dlt hc,dlt hc2,if_pos (by rfl),Chk_of hc,Chk_of hc2,hw,EFx2_eq _ _ (h.vs _ hm),Bind_snr]
      by_cases e:ix a.Fixtures (i:Int)=ix b.Fixtures (i:Int) <;> simp [e]
    · intro r
      rw [dll,if_neg (by simp)]
      simp only [beqI,beqB,cond_and,cond_or,bodR,bne]
      generalize decide (a.ID=b.ID)=x1
      generalize decide (a.Kind=b.Kind)=x2
      generalize (decide (a.Transform.Position.X=b.Transform.Position.X)&&decide (a.Transform.Position.Y=b.Transform.Position.Y)&&decide (a.Transform.Angle=b.Transform.Angle))=x3
      generalize (decide (a.Velocity.X=b.Velocity.X)&&decide (a.Velocity.Y=b.Velocity.Y))=x4
      generalize (decide (a.Force.X=b.Force.X)&&decide (a.Force.Y=b.Force.Y))=x5
      generalize decide (a.AngularVelocity=b.AngularVelocity)=x6
      generalize decide (a.Torque=b.Torque)=x7
      cases x1 <;> cases x2 <;> cases x3 <;> cases x4 <;> cases x5 <;> cases x6 <;> cases x7 <;> simp
  · have:a≠b:=fun e=>hl (by rw [e])
    rw [if_pos (by simp only [bne_iff_ne,ne_eq];omega)];simp [this]
theorem EI_eq (x y:Input) (h:Bd x.Body):∃ q,input_Equal x y=some q∧caromref43_Equal x y=some q∧(x=y→q=true):=by
  unfold input_Equal caromref43_Equal
  simp only [Let_nr,EB_eq _ _ h,EB2_eq _ _ h,cond_and,Bind_if]
  refine ⟨_,rfl,?_,?_⟩
  · generalize (x.Kind==y.Kind)=x1
    generalize (x.ID==y.ID)=x2
    generalize (decide (x.Vec.X=y.Vec.X)&&decide (x.Vec.Y=y.Vec.Y))=x3
    generalize (x.Value==y.Value)=x4
    generalize (decide (x.Body=y.Body))=x5
    refine congrArg some ?_
    generalize hz:(decide (x.Joint.ID=y.Joint.ID)&&_)=x6
    cases x1 <;> cases x2 <;> cases x3 <;> cases x4 <;> cases x5 <;> cases x6 <;> rfl
  · intro e;subst e;simp
end GoForm
end

section
/- Recordings in plain Lean: validation, equality, clones, small recordings. No conditions. -/
set_option linter.all false
set_option maxRecDepth 100000
open Go Go.Rx
namespace GoForm
theorem LOOP_two {α X:Type} [Inhabited α] (q:α→α→Bool) (l m:List α) (fin bad:Option X) (step:(Int→Option X)→Int→Option X) (hl:Sm l) (hlen:l.length=m.length)
    (hs:∀ (r:Int→Option X) (i:Nat),IntKind.i64.wrap ((i:Int)+1)=(i:Int)+1→(0≤(i:Int)∧(i:Int)<(l.length:Int))→(0≤(i:Int)∧(i:Int)<(m.length:Int))→ix l (i:Int)∈l→step r (i:Int)=if q (ix l (i:Int)) (ix m (i:Int))=true then r ((i:Int)+1) else bad)
    (he:∀ (r:Int→Option X),step r (l.length:Int)=fin):LOOP step fuel (0:Int)=if (l.zip m).all (fun p=>q p.1 p.2)=true then fin else bad:=by
  have:=LOOP_l0 l (fun t i=>if (t.zip (m.drop i)).all (fun p=>q p.1 p.2)=true then fin else bad) step hl ?_ ?_
  · exact this
  · intro r i t hw hc hm hr
    have hc2:0≤(i:Int)∧(i:Int)<(m.length:Int):=by omega
    rw [hs r i hw hc hc2 hm,hr,drop_ix m i (by omega),List.zip_cons_cons,List.all_cons]
    show (if q (ix l (i:Int)) (ix m (i:Int))=true then _ else bad)=if (q (ix l (i:Int)) (ix m (i:Int))&&_)=true then fin else bad
    cases q (ix l (i:Int)) (ix m (i:Int))
    · rfl
    · simp only [if_true,Bool.true_and]
  · intro r;rw [he];rfl
noncomputable def eqI (x y:Input):Bool:=(input_Equal x y).getD false
theorem eqI_2 (x y:Input) (h:Bd x.Body):caromref43_Equal x y=some (eqI x y):=by
  obtain ⟨q,h1,h2,-⟩:=EI_eq x y h
  unfold eqI;rw [h1,h2];rfl
theorem eqI_r (x:Input) (h:Bd x.Body):eqI x x=true:=by
  obtain ⟨q,h1,-,h3⟩:=EI_eq x x h
  unfold eqI;rw [h1,h3 rfl];rfl
noncomputable def eqF (a b:List Input):Bool:=decide (a.length=b.length)&&(a.zip b).all (fun p=>eqI p.1 p.2)
noncomputable def eqR (a b:List (List Input)):Bool:=decide (a.length=b.length)&&(a.zip b).all (fun p=>eqF p.1 p.2)
structure OkF (a:List Input):Prop where
  sm:a.length≤1000000
  bd:∀ x∈a,x.Body.Fixtures.length≤1000000∧∀ f∈x.Body.Fixtures,f.Shape.Vertices.length≤1000000
structure OkR (a:List (List Input)):Prop where
  sm:a.length≤1000000
  fr:∀ f∈a,OkF f
theorem OkF.b {a:List Input} (h:OkF a) {x:Input} (hx:x∈a):Bd x.Body:=
  ⟨sm_of (h.bd x hx).1 (by decide),fun f hf=>sm_of ((h.bd x hx).2 f hf) (by decide)⟩
theorem zip_self {α:Type} (q:α→α→Bool):∀ (l:List α),(∀ x∈l,q x x=true)→(l.zip l).all (fun p=>q p.1 p.2)=true
  | [],_=>rfl
  | a::l,h=>by
    rw [List.zip_cons_cons,List.all_cons,zip_self q l (fun x hx=>h x (List.mem_cons_of_mem _ hx))]
    show (q a a&&true)=true
    rw [h a (List.mem_cons_self ..)];rfl
theorem eqF_r (a:List Input) (h:OkF a):eqF a a=true:=by
  unfold eqF;rw [zip_self eqI a (fun x hx=>eqI_r x (h.b hx))];simp
theorem eqR_r (a:List (List Input)) (h:OkR a):eqR a a=true:=by
  unfold eqR;rw [zip_self eqF a (fun x hx=>eqF_r x (h.fr x hx))];simp
theorem refEqF (a b:List Input) (h:OkF a):caromref47_EqualInputs a b=some (eqF a b):=by
  unfold caromref47_EqualInputs eqF
  simp only [Let_nr]
  by_cases hl:a.length=b.length
  · rw [if_neg (by simp [hl]),LOOP_two eqI a b (some true) (some false) _ (sm_of h.sm (by decide)) hl ?_ ?_]
    · rw [decide_eq_true hl,Bool.true_and];split <;> simp [*]
    · intro r i hw hc hc2 hm
      rw [dlt hc,dlt hc2]
      simp only [cond_true,if_true]
      rw [Chk_of hc,Chk_of hc2,hw,eqI_2 _ _ (h.b hm),Bind_snr]
      cases eqI (ix a (i:Int)) (ix b (i:Int)) <;> simp
    · intro r;rw [dll];simp
  · rw [if_pos (by simp only [bne_iff_ne,ne_eq];omega),decide_eq_false hl];rfl
theorem refEqR (a b:List (List Input)) (h:OkR a):caromref47_Equal a b=some (eqR a b):=by
  unfold caromref47_Equal eqR
  simp only [Let_nr]
  by_cases hl:a.length=b.length
  · rw [if_neg (by simp [hl]),LOOP_two eqF a b (some true) (some false) _ (sm_of h.sm (by decide)) hl ?_ ?_]
    · rw [decide_eq_true hl,Bool.true_and];split <;> simp [*]
    · intro r i hw hc hc2 hm
      rw [dlt hc,dlt hc2]
      simp only [cond_true,if_true]
      rw [Chk_of hc,Chk_of hc2,hw,refEqF _ _ (h.fr _ hm),Bind_snr]
      cases eqF (ix a (i:Int)) (ix b (i:Int)) <;> simp
    · intro r;rw [dll];simp
  · rw [if_pos (by simp only [bne_iff_ne,ne_eq];omega),decide_eq_false hl];rfl
noncomputable def vld (x:Input):Int:=(input_Validate x).getD 0
theorem vld_1 (x:Input):input_Validate x=some (vld x):=by
  obtain ⟨q,h1,-⟩:=Validate43_eq x
  unfold vld;rw [h1];rfl
theorem vld_2 (x:Input):caromref43_Validate x=some (vld x):=by
  obtain ⟨q,h1,h2⟩:=Validate43_eq x
  unfold vld;rw [h1,h2];rfl
noncomputable def okV (x:Input):Bool:=decide (vld x=0)
theorem progAllV (a:List Input) (h:Sm a):recording_allValid a=some (a.all okV):=by
  unfold recording_allValid
  simp only [Let_nr]
  rw [LOOP_all a okV (some true) (some false) _ h ?_ ?_]
  · split <;> simp [*]
  · intro r i hw hc hm
    rw [if_pos (dlt hc),Chk_of hc,hw,vld_1,Bind_snr]
    unfold okV
    by_cases h:vld (ix a (i:Int))=0 <;> simp [h]
  · intro r;rw [dll];simp
theorem refAllV (a:List Input) (h:Sm a):caromref47_validInputs a=some (a.all okV):=by
  unfold caromref47_validInputs
  simp only [Let_nr]
  rw [LOOP_all a okV (some true) (some false) _ h ?_ ?_]
  · split <;> simp [*]
  · intro r i hw hc hm
    rw [if_pos (dlt hc),Chk_of hc,hw,vld_2,Bind_snr]
    unfold okV
    by_cases h:vld (ix a (i:Int))=0 <;> simp [h]
  · intro r;rw [dll];simp
noncomputable def rvl (r:List (List Input)):Int:=if 4096<r.length then 11 else if r.all (fun f=>decide (f.length≤32))=true then (if r.all (fun f=>f.all okV)=true then 0 else 20) else 11
theorem progVal (r:List (List Input)):recording_Validate r=some (rvl r):=by
  unfold recording_Validate rvl
  simp only [Let_nr]
  by_cases h:4096<r.length
  · rw [if_pos (by simp;omega),if_pos h]
  · have hs:Sm r:=sm_of (n:=4096) (by omega) (by decide)
    rw [if_neg (by simp;omega),if_neg h]
    by_cases h32:r.all (fun f=>decide (f.length≤32))=true
    · rw [LOOP_all r (fun f=>decide (f.length≤32)) (some (if r.all (fun f=>f.all okV)=true then 0 else 20)) (some 11) _ hs ?_ ?_]
      · rw [if_pos h32,if_pos h32]
      · intro s i hw hc hm
        rw [if_pos (dlt hc),Chk_of hc,hw]
        by_cases h3:(ix r (i:Int)).length≤32
        · rw [if_neg (by simp;omega),if_pos (by simpa using h3)]
        · rw [if_pos (by simp;omega),if_neg (by simpa using h3)]
      · intro s
        rw [dll,if_neg (by simp)]
        rw [LOOP_all r (fun f=>f.all okV) (some 0) (some 20) _ hs ?_ ?_]
        · split <;> rfl
        · intro s i hw hc hm
          have:=List.all_eq_true.1 h32 _ hm
          rw [if_pos (dlt hc),Chk_of hc,hw,progAllV _ (sm_of (of_decide_eq_true this) (by decide)),Bind_snr]
          cases (ix r (i:Int)).all okV <;> simp
        · intro s;rw [dll];simp
    · rw [if_neg h32]
      have:∀ fin,LOOP (fun (rec181:Int→Option Int) (s182:Int)=>if decide (s182<(r.length:Int))=true then Chk ((0:Int)≤s182∧s182<(r.length:Int)) (if decide (((ix r s182).length:Int)>32)=true then some (11:Int) else rec181 (IntKind.i64.wrap (s182+1))) else fin) fuel 0=some 11:=by
        intro fin
        rw [LOOP_all r (fun f=>decide (f.length≤32)) fin (some 11) _ hs ?_ ?_]
        · rw [if_neg h32]
        · intro s i hw hc hm
          rw [if_pos (dlt hc),Chk_of hc,hw]
          by_cases h3:(ix r (i:Int)).length≤32
          · rw [if_neg (by simp;omega),if_pos (by simpa using h3)]
          · rw [if_pos (by simp;omega),if_neg (by simpa using h3)]
        · intro s;rw [dll];simp
      exact this _
theorem refVal (r:List (List Input)):caromref47_Validate r=some (rvl r):=by
  unfold caromref47_Validate rvl
  simp only [Let_nr]
  by_cases h:4096<r.length
  · rw [if_pos (by simp;omega),if_pos h]
  · have hs:Sm r:=sm_of (n:=4096) (by omega) (by decide)
    rw [if_neg (by simp;omega),if_neg h]
    by_cases h32:r.all (fun f=>decide (f.length≤32))=true
    · rw [LOOP_all r (fun f=>decide (f.length≤32)) (some (if r.all (fun f=>f.all okV)=true then 0 else 20)) (some 11) _ hs ?_ ?_]
      · rw [if_pos h32,if_pos h32]
      · intro s i hw hc hm
        rw [if_pos (dlt hc),Chk_of hc,hw]
        by_cases h3:(ix r (i:Int)).length≤32
        · rw [if_neg (by simp;omega),if_pos (by simpa using h3)]
        · rw [if_pos (by simp;omega),if_neg (by simpa using h3)]
      · intro s
        rw [dll,if_neg (by simp)]
        rw [LOOP_all r (fun f=>f.all okV) (some 0) (some 20) _ hs ?_ ?_]
        · split <;> rfl
        · intro s i hw hc hm
          have:=List.all_eq_true.1 h32 _ hm
          rw [if_pos (dlt hc),Chk_of hc,hw,refAllV _ (sm_of (of_decide_eq_true this) (by decide)),Bind_snr]
          cases (ix r (i:Int)).all okV <;> simp
        · intro s;rw [dll];simp
    · rw [if_neg h32]
      have:∀ fin,LOOP (fun (rec181:Int→Option Int) (s182:Int)=>if decide (s182<(r.length:Int))=true then Chk ((0:Int)≤s182∧s182<(r.length:Int)) (if decide (((ix r s182).length:Int)>32)=true then some (11:Int) else rec181 (IntKind.i64.wrap (s182+1))) else fin) fuel 0=some 11:=by
        intro fin
        rw [LOOP_all r (fun f=>decide (f.length≤32)) fin (some 11) _ hs ?_ ?_]
        · rw [if_neg h32]
        · intro s i hw hc hm
          rw [if_pos (dlt hc),Chk_of hc,hw]
          by_cases h3:(ix r (i:Int)).length≤32
          · rw [if_neg (by simp;omega),if_pos (by simpa using h3)]
          · rw [if_pos (by simp;omega),if_neg (by simpa using h3)]
        · intro s;rw [dll];simp
      exact this _
end GoForm
end

section
/- Recordings in plain Lean: clones, slices, small recordings. No conditions. -/
set_option linter.all false
set_option maxRecDepth 100000
open Go Go.Rx
namespace GoForm
theorem OkR.sub {a b:List (List Input)} (h:OkR a) (hs:∀ f∈b,f∈a) (hl:b.length≤a.length):OkR b:=⟨by have:=h.sm;omega,fun f hf=>h.fr f (hs f hf)⟩
theorem OkF.sub {a b:List Input} (h:OkF a) (hs:∀ f∈b,f∈a) (hl:b.length≤a.length):OkF b:=⟨by have:=h.sm;omega,fun f hf=>h.bd f (hs f hf)⟩
theorem OkR.append {a b:List (List Input)} (ha:OkR a) (hb:OkR b) (h:a.length+b.length≤1000000):OkR (a++b):=
  ⟨by rw [List.length_append];exact h,fun f hf=>(List.mem_append.1 hf).elim (ha.fr f) (hb.fr f)⟩
def smX (x:Input):Bool:=(x.Body.Fixtures.take 6).all (fun f=>decide (f.Shape.Vertices.length≤12))&&decide (x.Body.Fixtures.length≤6)
def smF (a:List Input):Bool:=(a.take 40).all smX&&decide (a.length≤40)
theorem ix_take {α:Type} [Inhabited α] (l:List α) (n i:Nat) (h:i<n):ix (l.take n) (i:Int)=ix l (i:Int):=by
  unfold ix
  simp only [Int.toNat_natCast,List.getD_eq_getElem?_getD]
  rw [List.getElem?_take_of_lt h]
theorem smF_eq (a:List Input):caromref47_SmallInputs a=some (smF a):=by
  unfold caromref47_SmallInputs
  simp only [Let_nr]
  rw [LOOP_all (a.take 40) smX (some (decide (a.length≤40))) (some false) _ (sm_of (n:=40) (by rw [List.length_take];omega) (by decide)) ?_ ?_]
  · unfold smF;cases (a.take 40).all smX <;> rfl
  · intro r i hw hc hm
    rw [List.length_take] at hc
    have h1:(i:Int)<(a.length:Int):=by omega
    have h2:(i:Int)<40:=by omega
    rw [decide_eq_true h1,decide_eq_true h2]
    simp only [cond_true,if_true]
    rw [Chk_of (by omega),ix_take _ _ _ (by omega)]
    generalize ix a (i:Int)=x
    rw [LOOP_all (x.Body.Fixtures.take 6) (fun f=>decide (f.Shape.Vertices.length≤12)) (if decide ((x.Body.Fixtures.length:Int)>6)=true then some false else r ((i:Int)+1)) (some false) _ (sm_of (n:=6) (by rw [List.length_take];omega) (by decide)) ?_ ?_]
    · unfold smX
      by_cases h6:x.Body.Fixtures.length≤6
      · have h7:decide ((x.Body.Fixtures.length:Int)>6)=false:=decide_eq_false (by omega)
        rw [h7,decide_eq_true h6,Bool.and_true];rfl
      · have h7:decide ((x.Body.Fixtures.length:Int)>6)=true:=decide_eq_true (by omega)
        rw [h7,decide_eq_false h6,Bool.and_false]
        cases (x.Body.Fixtures.take 6).all (fun f=>decide (f.Shape.Vertices.length≤12)) <;> rfl
    · intro r2 j hw2 hd hm2
      rw [List.length_take] at hd
      have h3:(j:Int)<(x.Body.Fixtures.length:Int):=by omega
      have h4:(j:Int)<6:=by omega
      rw [decide_eq_true h3,decide_eq_true h4]
      simp only [cond_true,if_true]
      rw [Chk_of (by omega),ix_take _ _ _ (by omega),hw2]
      by_cases h12:(ix x.Body.Fixtures (j:Int)).Shape.Vertices.length≤12
      · rw [if_neg (by simp;omega),if_pos (by simpa using h12)]
      · rw [if_pos (by simp;omega),if_neg (by simpa using h12)]
    · intro r2
      have:(bif decide (((x.Body.Fixtures.take 6).length:Int)<(x.Body.Fixtures.length:Int)) then decide (((x.Body.Fixtures.take 6).length:Int)<6) else false)=false:=by
        rw [List.length_take]
        by_cases h:x.Body.Fixtures.length≤6
        · rw [decide_eq_false (by omega)];rfl
        · have:¬ (((min 6 x.Body.Fixtures.length:Nat):Int)<6):=by omega
          rw [decide_eq_false this,cond_and,Bool.and_false]
      rw [this,if_neg (by simp),hw]
  · intro r
    have:(bif decide (((a.take 40).length:Int)<(a.length:Int)) then decide (((a.take 40).length:Int)<40) else false)=false:=by
      rw [List.length_take]
      by_cases h:a.length≤40
      · rw [decide_eq_false (by omega)];rfl
      · have:¬ (((min 40 a.length:Nat):Int)<40):=by omega
        rw [decide_eq_false this,cond_and,Bool.and_false]
    rw [this,if_neg (by simp)]
    exact congrArg some (dec_of (by omega))
def smG (len:Nat):List (List Input)→Int→Bool
  | [],_=>decide (len≤5000)
  | f::t,n=>if decide (IntKind.i64.wrap (n+(f.length:Int))>100)=true∨smF f=false then false else smG len t (IntKind.i64.wrap (n+(f.length:Int)))
theorem small_eq (r:List (List Input)):caromref47_Small r=some (smG r.length (r.take 5000) 0):=by
  unfold caromref47_Small
  simp only [Let_nr]
  refine LOOP_l1 (r.take 5000) (fun t _ n=>some (smG r.length t n)) _ 0 (sm_of (n:=5000) (by rw [List.length_take];omega) (by decide)) ?_ ?_
  · intro s i t n hw hc hm hr
    rw [List.length_take] at hc
    have h1:(i:Int)<(r.length:Int):=by omega
    have h2:(i:Int)<5000:=by omega
    rw [ix_take _ _ _ (by omega)]
    simp only
    rw [decide_eq_true h1,decide_eq_true h2]
    simp only [cond_true,if_true]
    rw [Chk_of (by omega),Chk_of (fun _=>by omega),smF_eq,hw,hr]
    generalize ix r (i:Int)=f
    show _=some (if decide (IntKind.i64.wrap (n+(f.length:Int))>100)=true∨smF f=false then false else smG r.length t (IntKind.i64.wrap (n+(f.length:Int))))
    generalize smG r.length t (IntKind.i64.wrap (n+(f.length:Int)))=gg
    generalize IntKind.i64.wrap (n+(f.length:Int))=nn
    cases hd:decide (nn>100) <;> cases hf:smF f <;> rfl
  · intro s n
    simp only
    have:(bif decide (((r.take 5000).length:Int)<(r.length:Int)) then decide (((r.take 5000).length:Int)<5000) else false)=false:=by
      rw [List.length_take]
      by_cases h:r.length≤5000
      · rw [decide_eq_false (by omega)];rfl
      · have:¬ (((min 5000 r.length:Nat):Int)<5000):=by omega
        rw [decide_eq_false this,cond_and,Bool.and_false]
    rw [this,if_neg (by simp)]
    exact congrArg some (dec_of (by omega))
noncomputable def smR (r:List (List Input)):Bool:=smG r.length (r.take 5000) 0
theorem smR_eq (r:List (List Input)):caromref47_Small r=some (smR r):=small_eq r
theorem ex_bind:(Rx.Bind caromlaw47_example fun (r:Bool)=>some r)=some true:=by rw [example47];rfl
end GoForm
end

section
/- Recordings in plain Lean: appending inputs. No conditions. -/
set_option linter.all false
set_option maxRecDepth 100000
open Go Go.Rx
namespace GoForm
theorem rvl_len {r:List (List Input)} (h:rvl r=0):r.length≤4096:=by
  unfold rvl at h
  by_cases h2:4096<r.length
  · rw [if_pos h2] at h;cases h
  · omega
end GoForm
end

section
/- Recordings in plain Lean: inputs appended twice. No conditions. -/
set_option linter.all false
set_option maxRecDepth 100000
open Go Go.Rx
namespace GoForm
theorem getD_mem_or {α:Type} (r:List (List α)) (i:Nat):r.getD i []∈r∨r.getD i []=[]:=by
  rw [List.getD_eq_getElem?_getD]
  cases h:r[i]? with
  | none=>exact .inr rfl
  | some x=>exact .inl (List.mem_of_getElem? h)
theorem rvl_zero (r:List (List Input)):rvl r=0↔r.length≤4096∧∀ i,(r.getD i []).length≤32∧(r.getD i []).all okV=true:=by
  have hm:∀ {p:List Input→Bool},p []=true→(r.all p=true↔∀ i,p (r.getD i [])=true):=by
    intro p hp
    rw [List.all_eq_true]
    constructor
    · intro h i
      rcases getD_mem_or r i with hi | hi
      · exact h _ hi
      · rw [hi];exact hp
    · intro h x hx
      obtain ⟨i,hi⟩:=List.mem_iff_getElem?.1 hx
      have:=h i
      rw [List.getD_eq_getElem?_getD,hi] at this
      exact this
  unfold rvl
  by_cases h:4096<r.length
  · rw [if_pos h];constructor
    · intro e;cases e
    · intro e;omega
  · rw [if_neg h]
    by_cases h1:r.all (fun f=>decide (f.length≤32))=true
    · rw [if_pos h1]
      have g1:=(hm (p:=fun f=>decide (f.length≤32)) rfl).1 h1
      by_cases h2:r.all (fun f=>f.all okV)=true
      · rw [if_pos h2]
        have g2:=(hm (p:=fun f=>f.all okV) rfl).1 h2
        exact ⟨fun _=>⟨by omega,fun i=>⟨of_decide_eq_true (g1 i),g2 i⟩⟩,fun _=>rfl⟩
      · rw [if_neg h2]
        constructor
        · intro e;cases e
        · intro e;exact absurd ((hm (p:=fun f=>f.all okV) rfl).2 fun i=>(e.2 i).2) h2
    · rw [if_neg h1]
      constructor
      · intro e;cases e
      · intro e;exact absurd ((hm (p:=fun f=>decide (f.length≤32)) rfl).2 fun i=>decide_eq_true (e.2 i).1) h1
end GoForm
end

section
/- Recordings as text: lines, in plain Lean. No conditions. -/
set_option linter.all false
set_option maxRecDepth 100000
open Go Go.Rx
namespace GoForm
def I64 (n:Int):Prop:=IntKind.i64.min≤n∧n≤IntKind.i64.max
theorem fil (n:Int) (h:I64 n):(fmtInt n).length≤20:=(fmtInt_len n h.1 h.2).1
theorem fmtFix_len (n:Int) (h:I64 n):(fmtFix n).length≤21:=by
  unfold fmtFix
  split
  · rw [List.length_append]
    have h1:=h.1;have h2:=h.2
    rw [i64_min] at h1;rw [i64_max] at h2
    have hq:(n.tdiv 65536).natAbs=n.natAbs / 65536:=by rw [Int.natAbs_tdiv];rfl
    have:=fil (n.tdiv 65536) ⟨by rw [i64_min];omega,by rw [i64_max];omega⟩
    simp;omega
  · have:=fil n h;omega
noncomputable def wdv (k:Int):List UInt8:=(recording_word k).getD []
theorem word_1 (k:Int):recording_word k=some (wdv k):=by
  have:∃ s,recording_word k=some s:=by
    unfold recording_word
    simp only [Let_nr,if_some2]
    exact ⟨_,rfl⟩
  obtain ⟨s,hs⟩:=this
  unfold wdv;rw [hs];rfl
theorem word_2 (k:Int):caromref47_word k=some (wdv k):=by rw [← word_1];rfl
theorem wdv_len (k:Int):(wdv k).length≤20:=by
  have h:=word_1 k
  unfold recording_word at h
  simp only [Let_nr] at h
  repeat' split at h
  all_goals (have h:=Option.some.inj h;rw [← h];decide)
noncomputable def usd (k:Int):Bool × Bool × Bool:=(input_UsedFields k).getD (false,false,false)
theorem used_1 (k:Int):input_UsedFields k=some (usd k):=by
  have:∃ u,input_UsedFields k=some u:=by
    unfold input_UsedFields
    simp only [Let_nr,Join_nr,if_some2]
    exact ⟨_,rfl⟩
  obtain ⟨s,hs⟩:=this
  unfold usd;rw [hs];rfl
theorem used_2 (k:Int):caromref43_UsedFields k=some (usd k):=by rw [Used_eq,used_1]
noncomputable def fldF (x:Input):List (List UInt8):=[wdv x.Kind,fmtInt x.ID]++((if (usd x.Kind).2.1=true then [fmtFix x.Vec.X,fmtFix x.Vec.Y] else [])++(if (usd x.Kind).2.2=true then [fmtFix x.Value] else []))
structure InO (x:Input):Prop where
  id:I64 x.ID
  vx:I64 x.Vec.X
  vy:I64 x.Vec.Y
  vv:I64 x.Value
noncomputable def lineF (x:Input):List UInt8:=Lib.join (fldF x) [32]
theorem fldF_len (x:Input) (h:InO x):(fldF x).length≤5∧∀ p∈fldF x,p.length≤21:=by
  unfold fldF
  refine ⟨?_,?_⟩
  · rw [List.length_append,List.length_append];split <;> split <;> simp
  · intro p hp
    rcases List.mem_append.1 hp with hp | hp
    · simp at hp
      rcases hp with rfl | rfl
      · have:=wdv_len x.Kind;omega
      · have:=fil _ h.id;omega
    · rcases List.mem_append.1 hp with hp | hp
      · split at hp
        · simp at hp
          rcases hp with rfl | rfl
          · exact fmtFix_len _ h.vx
          · exact fmtFix_len _ h.vy
        · cases hp
      · split at hp
        · simp at hp;subst hp;exact fmtFix_len _ h.vv
        · cases hp
theorem lineF_len (x:Input) (h:InO x):(lineF x).length≤110:=by
  obtain ⟨h1,h2⟩:=fldF_len x h
  have:=join_len (fldF x) 21 h2
  unfold lineF
  omega
theorem progLine (x:Input) (h:InO x):recording_formatInput x=some (lineF x):=by
  have hl:=lineF_len x h
  unfold recording_formatInput
  rw [word_1,Bind_snr,FormatInt_eq _ h.id.1 h.id.2,Bind_snr,used_1,Bind_snr]
  simp only [Join_nr]
  have hJ:∀ l,l=fldF x→(Rx.Bind (format_JoinFields l) fun r271=>some r271)=some (lineF x):=by
    intro l e
    subst e
    rw [JoinFields_eq _ (by have:=(fldF_len x h).1;omega) (by unfold lineF at hl;omega)];rfl
  unfold fldF at hJ
  cases h1:(usd x.Kind).2.1 <;> cases h2:(usd x.Kind).2.2 <;> simp only [h1,h2,if_true,if_false,Bool.false_eq_true,List.append_nil,List.nil_append] at hJ ⊢
  · exact hJ _ rfl
  · rw [FormatFixed_eq _ h.vv.1 h.vv.2,Bind_snr,Chk_of (by simp)]
    exact hJ _ rfl
  · rw [FormatFixed_eq _ h.vx.1 h.vx.2,Bind_snr,FormatFixed_eq _ h.vy.1 h.vy.2,Bind_snr,Chk_of (by simp)]
    exact hJ _ rfl
  · rw [FormatFixed_eq _ h.vx.1 h.vx.2,Bind_snr,FormatFixed_eq _ h.vy.1 h.vy.2,Bind_snr,Chk_of (by simp)]
    show Rx.Bind _ _=_
    rw [FormatFixed_eq _ h.vv.1 h.vv.2,Bind_snr,Chk_of (by simp)]
    exact hJ _ rfl
theorem join2 (l m:List (List UInt8)) (h:l≠[]):Lib.join (Lib.join l [32]::m) [32]=Lib.join (l++m) [32]:=by
  cases l with
  | nil=>exact absurd rfl h
  | cons a t=>
    rw [Lib.join_cons,List.cons_append,Lib.join_cons,Lib.join_cons,List.append_assoc]
    unfold Lib.joinTail
    rw [List.map_append,List.flatten_append]
theorem refLine (x:Input) (h:InO x):caromref47_line x=some (lineF x):=by
  have hl:=lineF_len x h
  have hd:=wdv_len x.Kind
  have h0:=fil _ h.id
  have hx:=fmtFix_len _ h.vx
  have hy:=fmtFix_len _ h.vy
  have hv:=fmtFix_len _ h.vv
  have jl:∀ (l:List (List UInt8)) (n k:Nat),(∀ p∈l,p.length≤n)→l.length≤k→n≤1000→k≤1000→(Lib.join l [32]).length≤140737488355328:=by
    intro l n k h1 h2 h3 h4
    have:=join_len l n h1
    have h5:l.length*(n+1)≤1000*1001:=Nat.mul_le_mul (by omega) (by omega)
    omega
  have j0l:(Lib.join [wdv x.Kind,fmtInt x.ID] [32]).length≤100:=by
    have:=join_len [wdv x.Kind,fmtInt x.ID] 20 (by intro p hp;simp at hp;rcases hp with rfl | rfl <;> omega)
    simp at this;omega
  have j0:caromref08_JoinFields [wdv x.Kind,fmtInt x.ID]=some (Lib.join [wdv x.Kind,fmtInt x.ID] [32]):=refJoinFields_eq _ (by simp) (by omega)
  unfold caromref47_line
  rw [used_2,Bind_snr,word_2,Bind_snr,refFormatInt_eq _ h.id.1 h.id.2,Bind_snr,j0,Bind_snr]
  simp only [Join_nr]
  unfold lineF fldF
  have jl3:(Lib.join (Lib.join [wdv x.Kind,fmtInt x.ID] [32]::[fmtFix x.Vec.X,fmtFix x.Vec.Y]) [32]).length≤400:=by
    have:=join_len (Lib.join [wdv x.Kind,fmtInt x.ID] [32]::[fmtFix x.Vec.X,fmtFix x.Vec.Y]) 100 (by intro p hp;simp at hp;rcases hp with rfl | rfl | rfl <;> omega)
    simp at this ⊢;omega
  cases h1:(usd x.Kind).2.1 <;> cases h2:(usd x.Kind).2.2 <;> simp only [if_true,if_false,Bool.false_eq_true,List.append_nil,List.nil_append]
  · rw [refFormatFixed_eq _ h.vv.1 h.vv.2,Bind_snr,refJoinFields_eq _ (by simp) (jl _ 100 2 (by intro p hp;simp at hp;rcases hp with rfl | rfl <;> omega) (by simp) (by omega) (by omega)),Bind_snr,join2 _ _ (by simp)]
  · rw [refFormatFixed_eq _ h.vx.1 h.vx.2,Bind_snr,refFormatFixed_eq _ h.vy.1 h.vy.2,Bind_snr,refJoinFields_eq _ (by simp) (by omega),Bind_snr,join2 _ _ (by simp)]
  · rw [refFormatFixed_eq _ h.vx.1 h.vx.2,Bind_snr,refFormatFixed_eq _ h.vy.1 h.vy.2,Bind_snr,refJoinFields_eq _ (by simp) (by omega),Bind_snr]
    show Rx.Bind _ _=_
    rw [refFormatFixed_eq _ h.vv.1 h.vv.2,Bind_snr,refJoinFields_eq _ (by simp) (jl _ 400 2 (by intro p hp;simp only [List.mem_cons,List.not_mem_nil,or_false] at hp;rcases hp with rfl | rfl <;> omega) (by simp) (by omega) (by omega)),Bind_snr,join2 _ _ (by simp),List.cons_append,join2 _ _ (by simp)]
end GoForm
end

section
/- Recordings as text: Format, in plain Lean. No conditions. -/
set_option linter.all false
set_option maxRecDepth 100000
open Go Go.Rx
namespace GoForm
noncomputable def okK (x:Input):Bool:=decide (wdv x.Kind≠[])
noncomputable def frT (f:List Input):List UInt8:=[102,114,97,109,101,10]++f.flatMap (fun x=>lineF x++[10])
noncomputable def recT (r:List (List Input)):List UInt8:=r.flatMap frT
noncomputable def fmtV (r:List (List Input)):List UInt8 × Int:=if rvl r≠0 then ([],25) else if r.all (fun f=>f.all okK)=true then (recT r,0) else ([],25)
def IOR (r:List (List Input)):Prop:=∀ f∈r,∀ x∈f,InO x
theorem rvl_fr {r:List (List Input)} (h:rvl r=0) {f:List Input} (hf:f∈r):f.length≤32:=by
  obtain ⟨i,hi⟩:=List.mem_iff_getElem?.1 hf
  have:=((rvl_zero r).1 h).2 i
  rw [List.getD_eq_getElem?_getD,hi] at this
  exact this.1
noncomputable def fG {X:Type} (k:List UInt8→Option X) (bad:Option X) (t:List Input) (s:List UInt8):Option X:=if t.all okK=true then k (s++t.flatMap (fun x=>lineF x++[10])) else bad
noncomputable def rG (t:List (List Input)) (s:List UInt8):Option (List UInt8 × Int):=if t.all (fun f=>f.all okK)=true then some (s++recT t,0) else some ([],25)
theorem rG_nil (s:List UInt8):rG [] s=some (s,0):=by unfold rG recT;simp
theorem rG_cons (f:List Input) (t:List (List Input)) (s:List UInt8):fG (fun s'=>rG t s') (some ([],25)) f (s++[102,114,97,109,101,10])=rG (f::t) s:=by
  unfold fG rG recT
  rw [List.all_cons,List.flatMap_cons]
  cases f.all okK
  · rfl
  · simp only [if_true,Bool.true_and]
    unfold frT
    simp only [List.append_assoc]
theorem fG_cons {X:Type} (k:List UInt8→Option X) (bad:Option X) (x:Input) (t:List Input) (s:List UInt8):fG k bad (x::t) s=if wdv x.Kind=[] then bad else fG k bad t (s++(lineF x++[10])):=by
  unfold fG okK
  rw [List.all_cons,List.flatMap_cons]
  by_cases h:wdv x.Kind=[]
  · rw [if_pos h];simp [h]
  · rw [if_neg h];simp only [h,ne_eq,not_false_eq_true,decide_true,Bool.true_and,List.append_assoc]
theorem progFmt (r:List (List Input)) (ho:IOR r):recording_Format r=some (fmtV r):=by
  unfold recording_Format fmtV
  rw [progVal,Bind_snr]
  simp only [Let_nr]
  by_cases h2:rvl r≠0
  · rw [if_pos h2,if_pos (by simpa using h2)]
  · rw [if_neg h2,if_neg (by simpa using h2)]
    have h0:rvl r=0:=by omega
    have hl:=rvl_len h0
    have key:rG r []=some (if r.all (fun f=>f.all okK)=true then (recT r,0) else ([],25)):=by
      unfold rG;rw [List.nil_append];split <;> rfl
    rw [← key]
    refine LOOP_i r (fun i s=>s.length≤i*4000) (fun t _ s=>rG t s) _ [] (sm_of hl (by decide)) (by simp) ?_ ?_
    · intro q i t s hs hw hc hm hr
      have hfm:=ix_mem r (i:Int) hc
      have hf32:=rvl_fr h0 hfm
      simp only
      rw [if_pos (dlt hc),Chk_of hc,Chk_of (by omega),← rG_cons]
      refine LOOP_i (ix r (i:Int)) (fun j s'=>s'.length≤i*4000+6+j*111) (fun t' _ s'=>fG (fun s''=>rG t s'') (some ([],25)) t' s') _ _ (sm_of (n:=32) hf32 (by decide)) (by simp;omega) ?_ ?_
      · intro q2 j t2 s2 hs2 hw2 hd hm2 hr2
        have hio:=ho _ hfm _ hm2
        have hll:=lineF_len _ hio
        simp only
        rw [if_pos (dlt hd),Chk_of hd,word_1,Bind_snr,fG_cons]
        by_cases hwd:wdv (ix (ix r (i:Int)) (j:Int)).Kind=[]
        · rw [if_pos hwd,if_pos (by rw [hwd];rfl)]
        · rw [if_neg hwd,if_neg (by simpa using hwd),progLine _ hio,Bind_snr,Chk_of (by omega),Chk_of (by simp only [List.length_append];simp;omega),hw2]
          exact hr2 _ (by simp only [List.length_append];simp;omega)
      · intro q2 s2 hs2
        simp only
        rw [dll,if_neg (by simp),hw,hr s2 (by rw [Nat.add_mul];omega)]
        unfold fG;simp
    · intro q s hs
      simp only
      rw [dll,if_neg (by simp),rG_nil]
theorem refFmt (r:List (List Input)) (ho:IOR r):caromref47_Format r=some (fmtV r):=by
  unfold caromref47_Format fmtV
  rw [refVal,Bind_snr]
  simp only [Let_nr]
  by_cases h2:rvl r≠0
  · rw [if_pos h2,if_pos (by simpa using h2)]
  · rw [if_neg h2,if_neg (by simpa using h2)]
    have h0:rvl r=0:=by omega
    have hl:=rvl_len h0
    have key:rG r []=some (if r.all (fun f=>f.all okK)=true then (recT r,0) else ([],25)):=by
      unfold rG;rw [List.nil_append];split <;> rfl
    rw [← key]
    refine LOOP_i r (fun i s=>s.length≤i*4000) (fun t _ s=>rG t s) _ [] (sm_of hl (by decide)) (by simp) ?_ ?_
    · intro q i t s hs hw hc hm hr
      have hfm:=ix_mem r (i:Int) hc
      have hf32:=rvl_fr h0 hfm
      simp only
      rw [if_pos (dlt hc),Chk_of (by omega),← rG_cons]
      refine LOOP_i (ix r (i:Int)) (fun j s'=>s'.length≤i*4000+6+j*111) (fun t' _ s'=>fG (fun s''=>rG t s'') (some ([],25)) t' s') _ _ (sm_of (n:=32) hf32 (by decide)) (by simp;omega) ?_ ?_
      · intro q2 j t2 s2 hs2 hw2 hd hm2 hr2
        have hio:=ho _ hfm _ hm2
        have hll:=lineF_len _ hio
        simp only
        rw [Chk_of hc,if_pos (dlt hd),Chk_of hc,Chk_of hd,word_2,Bind_snr,fG_cons]
        by_cases hwd:wdv (ix (ix r (i:Int)) (j:Int)).Kind=[]
        · rw [if_pos hwd,if_pos (by rw [hwd];rfl)]
        · rw [if_neg hwd,if_neg (by simpa using hwd),Chk_of hc,Chk_of hd,refLine _ hio,Bind_snr,Chk_of (by omega),Chk_of (by simp only [List.length_append];omega),hw2,List.append_assoc]
          exact hr2 _ (by simp only [List.length_append];simp;omega)
      · intro q2 s2 hs2
        simp only
        rw [Chk_of hc,dll,if_neg (by simp),hw,hr s2 (by rw [Nat.add_mul];omega)]
        unfold fG;simp
    · intro q s hs
      simp only
      rw [dll,if_neg (by simp),rG_nil]
end GoForm
end
