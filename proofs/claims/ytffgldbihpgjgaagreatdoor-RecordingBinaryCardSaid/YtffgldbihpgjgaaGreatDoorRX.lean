/- Several texts in one. No conditions. -/
import Derived.Test.YtffgldbihpgjgaaGreatDoorF47D
import Derived.Test.YtffgldbihpgjgaaGreatDoorQE
import Derived.Test.YtffgldbihpgjgaaGreatDoorGX
import Derived.Test.YtffgldbihpgjgaaGreatDoorRW
section
/- Inputs: validation and equality, the program's and the reference's. No conditions. -/
set_option linter.all false
set_option maxRecDepth 100000
open Go Go.Rx
namespace GoForm
def zBody:Body:={ ID:=0,Kind:=0,Transform:={ Position:={ X:=0,Y:=0 },Angle:=0 },Velocity:={ X:=0,Y:=0 },AngularVelocity:=0,Force:={ X:=0,Y:=0 },Torque:=0,LinearDamping:=0,AngularDamping:=0,GravityScale:=0,Bullet:=false,FixedRotation:=false,NoSleep:=false,Asleep:=false,IdleSteps:=0,Fixtures:=[] }
theorem fuel20:∃ m,fuel=m+20:=⟨2 ^ 70 - 20,by unfold fuel;decide⟩
theorem bodyZ (b:Body):∃ be,jde b zBody=some be∧jbp b zBody=some be:=by
  obtain ⟨m,hm⟩:=fuel20
  unfold jde jbp
  rw [hm]
  simp only [jax]
  by_cases h:b.Fixtures=[]
  · refine ⟨_,by rw [if_neg (by rw [h];decide),jcE,if_neg (by rw [h];simp)],?_⟩
    rw [if_neg (by rw [h];decide),jcE,if_neg (by rw [h];simp)]
    have key:∀ (c d e:Bool),((!c)&&d)=e→(if c=true then some false else some d)=some e:=by
      intro c d e h;cases c <;> simp_all
    refine key _ _ _ ?_
    simp only [jeN,jb9]
    rw [Bool.eq_iff_iff]
    simp only [Bool.and_eq_true,Bool.or_eq_true,Bool.not_eq_true',Bool.or_eq_false_iff,bne_eq_false_iff_eq,Bool.not_eq_false',beq_iff_eq,decide_eq_true_iff]
    grind
  · have hl:b.Fixtures.length≠0:=fun q=>h (List.length_eq_zero_iff.1 q)
    refine ⟨false,?_,?_⟩ <;> rw [if_pos (by rw [bne_iff_ne];show ((b.Fixtures.length:Int))≠((0:Nat):Int);omega)]
theorem Used_eq (k:Int):jbV k=jbe k:=by
 unfold jbV jbe;rfl
def sat (n:Int):Bool:=decide (-536870911≤n)&&decide (n≤536870911)
theorem isSat_eq (n:Int):jbB n=some (sat n):=by
 unfold jbB sat;simp only [jax,jb9];try rfl
theorem unsat_eq (n:Int):jaZ n=some (!sat n):=by
 unfold jaZ sat
 simp only [jax,jeN]
 by_cases h1 : -536870911≤n <;> by_cases h2:n≤536870911 <;> simp [h1,h2] <;> try omega
theorem jlz {α:Type} {p:Prop} [Decidable p] (a b:α):(if p then some a else some b)=some (if p then a else b):=by split <;> rfl
theorem jgq (x:Input):∃ e,jci x=some e∧jbG x=some e:=by
 obtain ⟨be,hb1,hb2⟩:=bodyZ x.Body
 obtain ⟨u,hu⟩:∃ u,jbe x.Kind=some u:=by
  unfold jbe
  simp only [jax,jjx,jlz]
  exact ⟨_,rfl⟩
 unfold jci jbG
 unfold zBody at hb1 hb2
 rw [Used_eq,hu]
 simp only [jax,jjx,jaq,hb1,hb2,isSat_eq,unsat_eq,joD,jeN,jb9,jlz]
 refine ⟨_,rfl,?_⟩
 congr 1
 obtain ⟨u1,u2,u3⟩:=u
 simp only
 generalize (decide (x.Kind<1)||decide (x.Kind>12))=k0
 generalize (decide (x.ID<1)||decide (x.ID>1099511627776))=i0
 generalize sat x.Vec.X=sx
 generalize sat x.Vec.Y=sy
 generalize sat x.Value=sv
 generalize (x.ID != 0)=i1
 generalize (!(decide (x.Vec.X=0)&&decide (x.Vec.Y=0)))=v1
 generalize (x.Value != 0)=v2
 generalize (x.Kind != 9)=k9
 generalize (x.Kind != 11)=k11
 generalize (!(decide (x.Joint.ID=0)&&_))=jz
 cases k0
 ·cases u1 <;> cases u2 <;> cases u3 <;> cases i0 <;> cases sx <;> cases sy <;> cases sv <;> (try rfl) <;> cases i1 <;> cases v1 <;> cases v2 <;> (try rfl) <;> cases k9 <;> cases be <;> (try rfl) <;> cases k11 <;> cases jz <;> rfl
 ·rfl
theorem jlN {p q:Prop} [Decidable p] [Decidable q] (h:p↔q):decide p=decide q:=by
 by_cases hp:p
 ·rw [decide_eq_true hp,decide_eq_true (h.1 hp)]
 ·rw [decide_eq_false hp,decide_eq_false (fun hq=>hp (h.2 hq))]
theorem EV_eq (a b:List Vec) (h:Sm a):jd4 a b=some (decide (a=b)):=by
  unfold jd4
  simp only [jax]
  by_cases hl:a.length=b.length
  · rw [if_neg (by simp [hl]),jgs a b (some true) (some false) _ h hl ?_ ?_]
    · split <;> simp [*]
    · intro r i hw hc hc2 hm
      rw [if_pos (dlt hc),jaC hc,jaC hc2,hw]
      obtain ⟨x1,y1⟩:=ix a (i:Int)
      obtain ⟨x2,y2⟩:=ix b (i:Int)
      by_cases e1:x1=x2 <;> by_cases e2:y1=y2 <;> simp [e1,e2]
    · intro r;rw [dll,if_neg (by simp)]
  · have:a≠b:=fun e=>hl (by rw [e])
    rw [if_pos (by simp only [bne_iff_ne,ne_eq];omega)];simp [this]
theorem EV2_eq (a b:List Vec) (h:Sm a):jb4 a b=some (decide (a=b)):=by
  unfold jb4
  simp only [jax]
  by_cases hl:a.length=b.length
  · rw [if_neg (by simp [hl]),jgs a b (some true) (some false) _ h hl ?_ ?_]
    · split <;> simp [*]
    · intro r i hw hc hc2 hm
      rw [if_pos (dlt hc),jaC hc,jaC hc2,hw]
      obtain ⟨x1,y1⟩:=ix a (i:Int)
      obtain ⟨x2,y2⟩:=ix b (i:Int)
      by_cases e1:x1=x2 <;> by_cases e2:y1=y2 <;> simp [e1,e2]
    · intro r;rw [dll,if_neg (by simp)]
  · have:a≠b:=fun e=>hl (by rw [e])
    rw [if_pos (by simp only [bne_iff_ne,ne_eq];omega)];simp [this]
theorem ES_eq (a b:Shape) (h:Sm a.Vertices):jeC a b=some (decide (a=b)):=by
 unfold jeC
 simp only [jax,EV_eq _ _ h]
 obtain ⟨k1,r1,v1⟩:=a
 obtain ⟨k2,r2,v2⟩:=b
 by_cases e1:k1=k2 <;> by_cases e2:r1=r2 <;> by_cases e3:v1=v2 <;> simp [e1,e2,e3,jaq]
theorem ES2_eq (a b:Shape) (h:Sm a.Vertices):jcM a b=some (decide (a=b)):=by
 unfold jcM
 simp only [jax,EV2_eq _ _ h]
 obtain ⟨k1,r1,v1⟩:=a
 obtain ⟨k2,r2,v2⟩:=b
 by_cases e1:k1=k2 <;> by_cases e2:r1=r2 <;> by_cases e3:v1=v2 <;> simp [e1,e2,e3,jaq]
theorem jnZ (a b:Fixture):decide (a=b)=(decide (a.Shape=b.Shape)&&decide (a.Density=b.Density)&&decide (a.Friction=b.Friction)&&decide (a.Restitution=b.Restitution)&&decide (a.Sensor=b.Sensor)&&decide (a.Category=b.Category)&&decide (a.Mask=b.Mask)&&decide (a.Group=b.Group)):=by
 simp only [← Bool.decide_and]
 refine jlN ?_
 constructor
 ·intro e;subst e;simp
 ·intro h;cases a;cases b;simp_all
theorem beqI (a b:Int):(a==b)=decide (a=b):=rfl
theorem beqB (a b:Bool):(a==b)=decide (a=b):=by cases a <;> cases b <;> rfl
theorem EFx_eq (a b:Fixture) (h:Sm a.Shape.Vertices):jco a b=some (decide (a=b)):=by
 unfold jco
 simp only [jax,ES_eq _ _ h,jaq,jnZ a b,beqI,beqB,jb9]
 generalize decide (a.Shape=b.Shape)=x1
 generalize decide (a.Density=b.Density)=x2
 generalize decide (a.Friction=b.Friction)=x3
 generalize decide (a.Restitution=b.Restitution)=x4
 generalize decide (a.Sensor=b.Sensor)=x5
 generalize decide (a.Category=b.Category)=x6
 generalize decide (a.Mask=b.Mask)=x7
 generalize decide (a.Group=b.Group)=x8
 simp only [Bool.and_assoc]
theorem EFx2_eq (a b:Fixture) (h:Sm a.Shape.Vertices):jbv a b=some (decide (a=b)):=by
 unfold jbv
 simp only [jax,ES2_eq _ _ h,jaq,jnZ a b,beqI,beqB,jb9]
structure Bd (b:Body):Prop where
 sm:Sm b.Fixtures
 vs:∀ f∈b.Fixtures,Sm f.Shape.Vertices
def bodR (a b:Body):Bool:=decide (a.ID=b.ID)&&decide (a.Kind=b.Kind)&&(decide (a.Transform.Position.X=b.Transform.Position.X)&&decide (a.Transform.Position.Y=b.Transform.Position.Y)&&decide (a.Transform.Angle=b.Transform.Angle))&&(decide (a.Velocity.X=b.Velocity.X)&&decide (a.Velocity.Y=b.Velocity.Y))&&decide (a.AngularVelocity=b.AngularVelocity)&&(decide (a.Force.X=b.Force.X)&&decide (a.Force.Y=b.Force.Y))&&decide (a.Torque=b.Torque)&&decide (a.LinearDamping=b.LinearDamping)&&decide (a.AngularDamping=b.AngularDamping)&&decide (a.GravityScale=b.GravityScale)&&decide (a.Bullet=b.Bullet)&&decide (a.FixedRotation=b.FixedRotation)&&decide (a.NoSleep=b.NoSleep)&&decide (a.Asleep=b.Asleep)&&decide (a.IdleSteps=b.IdleSteps)
theorem body_dec (a b:Body):decide (a=b)=(bodR a b&&decide (a.Fixtures=b.Fixtures)):=by
  unfold bodR
  simp only [← Bool.decide_and]
  refine jlN ?_
  constructor
  · intro e;subst e;simp
  · intro h
    obtain ⟨a1,a2,⟨⟨a3,a4⟩,a5⟩,⟨a6,a7⟩,a8,⟨a9,a10⟩,a11,a12,a13,a14,a15,a16,a17,a18,a19,a20⟩:=a
    obtain ⟨b1,b2,⟨⟨b3,b4⟩,b5⟩,⟨b6,b7⟩,b8,⟨b9,b10⟩,b11,b12,b13,b14,b15,b16,b17,b18,b19,b20⟩:=b
    simp_all
theorem jlR (a b:Body):(if a.Fixtures=b.Fixtures then some (bodR a b) else some false)=some (decide (a=b)):=by
 rw [body_dec]
 by_cases h:a.Fixtures=b.Fixtures <;> simp [h]
theorem EB_eq (a b:Body) (h:Bd a):jde a b=some (decide (a=b)):=by
  unfold jde
  simp only [jax]
  by_cases hl:a.Fixtures.length=b.Fixtures.length
  · rw [if_neg (by simp [hl]),jgs a.Fixtures b.Fixtures (some (bodR a b)) (some false) _ h.sm hl ?_ ?_,jlR]
    · intro r i hw hc hc2 hm
      rw [if_pos (dlt hc),jaC hc,jaC hc2,hw,EFx_eq _ _ (h.vs _ hm),jaq]
      by_cases e:ix a.Fixtures (i:Int)=ix b.Fixtures (i:Int) <;> simp [e]
    · intro r
      rw [dll,if_neg (by simp)]
      simp only [beqI,beqB,jb9,bodR]
      generalize decide (a.ID=b.ID)=x1
      generalize decide (a.Kind=b.Kind)=x2
      generalize (decide (a.Transform.Position.X=b.Transform.Position.X)&&decide (a.Transform.Position.Y=b.Transform.Position.Y)&&decide (a.Transform.Angle=b.Transform.Angle))=x3
      generalize (decide (a.Velocity.X=b.Velocity.X)&&decide (a.Velocity.Y=b.Velocity.Y))=x4
      generalize (decide (a.Force.X=b.Force.X)&&decide (a.Force.Y=b.Force.Y))=x5
      simp only [Bool.and_assoc]
  · have:a≠b:=fun e=>hl (by rw [e])
    rw [if_pos (by simp only [bne_iff_ne,ne_eq];omega)];simp [this]
theorem EB2_eq (a b:Body) (h:Bd a):jbp a b=some (decide (a=b)):=by
  unfold jbp
  simp only [jax]
  by_cases hl:a.Fixtures.length=b.Fixtures.length
  · rw [if_neg (by simp [hl]),jgs a.Fixtures b.Fixtures (some (bodR a b)) (some false) _ h.sm hl ?_ ?_,jlR]
    · intro r i hw hc hc2 hm
      rw [dlt hc,dlt hc2,if_pos (by rfl),jaC hc,jaC hc2,hw,EFx2_eq _ _ (h.vs _ hm),jaq]
      by_cases e:ix a.Fixtures (i:Int)=ix b.Fixtures (i:Int) <;> simp [e]
    · intro r
      rw [dll,if_neg (by simp)]
      simp only [beqI,beqB,jb9,jeN,bodR,bne]
      generalize decide (a.ID=b.ID)=x1
      generalize decide (a.Kind=b.Kind)=x2
      generalize (decide (a.Transform.Position.X=b.Transform.Position.X)&&decide (a.Transform.Position.Y=b.Transform.Position.Y)&&decide (a.Transform.Angle=b.Transform.Angle))=x3
      generalize (decide (a.Velocity.X=b.Velocity.X)&&decide (a.Velocity.Y=b.Velocity.Y))=x4
      generalize (decide (a.Force.X=b.Force.X)&&decide (a.Force.Y=b.Force.Y))=x5
      generalize decide (a.AngularVelocity=b.AngularVelocity)=x6
      generalize decide (a.Torque=b.Torque)=x7
      cases x1 <;> cases x2 <;> cases x3 <;> cases x4 <;> cases x5 <;> cases x6 <;> cases x7 <;> simp
  · have:a≠b:=fun e=>hl (by rw [e])
    rw [if_pos (by simp only [bne_iff_ne,ne_eq];omega)];simp [this]
theorem EI_eq (x y:Input) (h:Bd x.Body):∃ q,jdS x y=some q∧jcg x y=some q∧(x=y→q=true):=by
  unfold jdS jcg
  simp only [jax,EB_eq _ _ h,EB2_eq _ _ h,jb9,joD]
  refine ⟨_,rfl,?_,?_⟩
  · generalize (x.Kind==y.Kind)=x1
    generalize (x.ID==y.ID)=x2
    generalize (decide (x.Vec.X=y.Vec.X)&&decide (x.Vec.Y=y.Vec.Y))=x3
    generalize (x.Value==y.Value)=x4
    generalize (decide (x.Body=y.Body))=x5
    refine congrArg some ?_
    generalize hz:(decide (x.Joint.ID=y.Joint.ID)&&_)=x6
    cases x1 <;> cases x2 <;> cases x3 <;> cases x4 <;> cases x5 <;> cases x6 <;> rfl
  · intro e;subst e;simp
end GoForm
end

section
/- Recordings in plain Lean: validation, equality, clones, small recordings. No conditions. -/
set_option linter.all false
set_option maxRecDepth 100000
open Go Go.Rx
namespace GoForm
theorem jlU {α X:Type} [Inhabited α] (q:α→α→Bool) (l m:List α) (fin bad:Option X) (step:(Int→Option X)→Int→Option X) (hl:Sm l) (hlen:l.length=m.length)
    (hs:∀ (r:Int→Option X) (i:Nat),IntKind.i64.wrap ((i:Int)+1)=(i:Int)+1→(0≤(i:Int)∧(i:Int)<(l.length:Int))→(0≤(i:Int)∧(i:Int)<(m.length:Int))→ix l (i:Int)∈l→step r (i:Int)=if q (ix l (i:Int)) (ix m (i:Int))=true then r ((i:Int)+1) else bad)
    (he:∀ (r:Int→Option X),step r (l.length:Int)=fin):LOOP step fuel (0:Int)=if (l.zip m).all (fun p=>q p.1 p.2)=true then fin else bad:=by
  have:=jk2 l (fun t i=>if (t.zip (m.drop i)).all (fun p=>q p.1 p.2)=true then fin else bad) step hl ?_ ?_
  · exact this
  · intro r i t hw hc hm hr
    have hc2:0≤(i:Int)∧(i:Int)<(m.length:Int):=by omega
    rw [hs r i hw hc hc2 hm,hr,jfY m i (by omega),List.zip_cons_cons,List.all_cons]
    show (if q (ix l (i:Int)) (ix m (i:Int))=true then _ else bad)=if (q (ix l (i:Int)) (ix m (i:Int))&&_)=true then fin else bad
    cases q (ix l (i:Int)) (ix m (i:Int))
    · rfl
    · simp only [if_true,Bool.true_and]
  · intro r;rw [he];rfl
noncomputable def eqI (x y:Input):Bool:=(jdS x y).getD false
theorem eqI_2 (x y:Input) (h:Bd x.Body):jcg x y=some (eqI x y):=by
 obtain ⟨q,h1,h2,-⟩:=EI_eq x y h
 unfold eqI;rw [h1,h2];rfl
theorem eqI_r (x:Input) (h:Bd x.Body):eqI x x=true:=by
 obtain ⟨q,h1,-,h3⟩:=EI_eq x x h
 unfold eqI;rw [h1,h3 rfl];rfl
noncomputable def eqF (a b:List Input):Bool:=decide (a.length=b.length)&&(a.zip b).all (fun p=>eqI p.1 p.2)
noncomputable def eqR (a b:List (List Input)):Bool:=decide (a.length=b.length)&&(a.zip b).all (fun p=>eqF p.1 p.2)
structure OkF (a:List Input):Prop where
 sm:a.length≤1000000
 bd:∀ x∈a,x.Body.Fixtures.length≤1000000∧∀ f∈x.Body.Fixtures,f.Shape.Vertices.length≤1000000
structure OkR (a:List (List Input)):Prop where
 sm:a.length≤1000000
 fr:∀ f∈a,OkF f
theorem OkF.b {a:List Input} (h:OkF a) {x:Input} (hx:x∈a):Bd x.Body:=
 ⟨jeA (h.bd x hx).1 (by decide),fun f hf=>jeA ((h.bd x hx).2 f hf) (by decide)⟩
theorem jiL {α:Type} (q:α→α→Bool):∀ (l:List α),(∀ x∈l,q x x=true)→(l.zip l).all (fun p=>q p.1 p.2)=true
  | [],_=>rfl
  | a::l,h=>by
    rw [List.zip_cons_cons,List.all_cons,jiL q l (fun x hx=>h x (List.mem_cons_of_mem _ hx))]
    show (q a a&&true)=true
    rw [h a (List.mem_cons_self ..)];rfl
theorem eqF_r (a:List Input) (h:OkF a):eqF a a=true:=by
 unfold eqF;rw [jiL eqI a (fun x hx=>eqI_r x (h.b hx))];simp
theorem eqR_r (a:List (List Input)) (h:OkR a):eqR a a=true:=by
 unfold eqR;rw [jiL eqF a (fun x hx=>eqF_r x (h.fr x hx))];simp
theorem refEqF (a b:List Input) (h:OkF a):jbL a b=some (eqF a b):=by
  unfold jbL eqF
  simp only [jax]
  by_cases hl:a.length=b.length
  · rw [if_neg (by simp [hl]),jlU eqI a b (some true) (some false) _ (jeA h.sm (by decide)) hl ?_ ?_]
    · rw [decide_eq_true hl,Bool.true_and];split <;> simp [*]
    · intro r i hw hc hc2 hm
      rw [dlt hc,dlt hc2]
      simp only [cond_true,if_true]
      rw [jaC hc,jaC hc2,hw,eqI_2 _ _ (h.b hm),jaq]
      cases eqI (ix a (i:Int)) (ix b (i:Int)) <;> simp
    · intro r;rw [dll];simp
  · rw [if_pos (by simp only [bne_iff_ne,ne_eq];omega),decide_eq_false hl];rfl
theorem refEqR (a b:List (List Input)) (h:OkR a):jcL a b=some (eqR a b):=by
  unfold jcL eqR
  simp only [jax]
  by_cases hl:a.length=b.length
  · rw [if_neg (by simp [hl]),jlU eqF a b (some true) (some false) _ (jeA h.sm (by decide)) hl ?_ ?_]
    · rw [decide_eq_true hl,Bool.true_and];split <;> simp [*]
    · intro r i hw hc hc2 hm
      rw [dlt hc,dlt hc2]
      simp only [cond_true,if_true]
      rw [jaC hc,jaC hc2,hw,refEqF _ _ (h.fr _ hm),jaq]
      cases eqF (ix a (i:Int)) (ix b (i:Int)) <;> simp
    · intro r;rw [dll];simp
  · rw [if_pos (by simp only [bne_iff_ne,ne_eq];omega),decide_eq_false hl];rfl
noncomputable def vld (x:Input):Int:=(jci x).getD 0
theorem vld_1 (x:Input):jci x=some (vld x):=by
 obtain ⟨q,h1,-⟩:=jgq x
 unfold vld;rw [h1];rfl
theorem vld_2 (x:Input):jbG x=some (vld x):=by
 obtain ⟨q,h1,h2⟩:=jgq x
 unfold vld;rw [h1,h2];rfl
noncomputable def okV (x:Input):Bool:=decide (vld x=0)
theorem progAllV (a:List Input) (h:Sm a):jaP a=some (a.all okV):=by
  unfold jaP
  simp only [jax]
  rw [jdj a okV (some true) (some false) _ h ?_ ?_]
  · split <;> simp [*]
  · intro r i hw hc hm
    rw [if_pos (dlt hc),jaC hc,hw,vld_1,jaq]
    unfold okV
    by_cases h:vld (ix a (i:Int))=0 <;> simp [h]
  · intro r;rw [dll];simp
theorem refAllV (a:List Input) (h:Sm a):jbI a=some (a.all okV):=by
  unfold jbI
  simp only [jax]
  rw [jdj a okV (some true) (some false) _ h ?_ ?_]
  · split <;> simp [*]
  · intro r i hw hc hm
    rw [if_pos (dlt hc),jaC hc,hw,vld_2,jaq]
    unfold okV
    by_cases h:vld (ix a (i:Int))=0 <;> simp [h]
  · intro r;rw [dll];simp
noncomputable def rvl (r:List (List Input)):Int:=if 4096<r.length then 11 else if r.all (fun f=>decide (f.length≤32))=true then (if r.all (fun f=>f.all okV)=true then 0 else 20) else 11
theorem jni (r:List (List Input)):jas r=some (rvl r):=by
  unfold jas rvl
  simp only [jax]
  by_cases h:4096<r.length
  · rw [if_pos (by simp;omega),if_pos h]
  · have hs:Sm r:=jeA (n:=4096) (by omega) (by decide)
    rw [if_neg (by simp;omega),if_neg h]
    by_cases h32:r.all (fun f=>decide (f.length≤32))=true
    · rw [jdj r (fun f=>decide (f.length≤32)) (some (if r.all (fun f=>f.all okV)=true then 0 else 20)) (some 11) _ hs ?_ ?_]
      · rw [if_pos h32,if_pos h32]
      · intro s i hw hc hm
        rw [if_pos (dlt hc),jaC hc,hw]
        by_cases h3:(ix r (i:Int)).length≤32
        · rw [if_neg (by simp;omega),if_pos (by simpa using h3)]
        · rw [if_pos (by simp;omega),if_neg (by simpa using h3)]
      · intro s
        rw [dll,if_neg (by simp)]
        rw [jdj r (fun f=>f.all okV) (some 0) (some 20) _ hs ?_ ?_]
        · split <;> rfl
        · intro s i hw hc hm
          have:=List.all_eq_true.1 h32 _ hm
          rw [if_pos (dlt hc),jaC hc,hw,progAllV _ (jeA (of_decide_eq_true this) (by decide)),jaq]
          cases (ix r (i:Int)).all okV <;> simp
        · intro s;rw [dll];simp
    · rw [if_neg h32]
      have:∀ fin,LOOP (fun (rec181:Int→Option Int) (s182:Int)=>if decide (s182<(r.length:Int))=true then Chk ((0:Int)≤s182∧s182<(r.length:Int)) (if decide (((ix r s182).length:Int)>32)=true then some (11:Int) else rec181 (IntKind.i64.wrap (s182+1))) else fin) fuel 0=some 11:=by
        intro fin
        rw [jdj r (fun f=>decide (f.length≤32)) fin (some 11) _ hs ?_ ?_]
        · rw [if_neg h32]
        · intro s i hw hc hm
          rw [if_pos (dlt hc),jaC hc,hw]
          by_cases h3:(ix r (i:Int)).length≤32
          · rw [if_neg (by simp;omega),if_pos (by simpa using h3)]
          · rw [if_pos (by simp;omega),if_neg (by simpa using h3)]
        · intro s;rw [dll];simp
      exact this _
theorem refVal (r:List (List Input)):jbj r=some (rvl r):=by
  unfold jbj rvl
  simp only [jax]
  by_cases h:4096<r.length
  · rw [if_pos (by simp;omega),if_pos h]
  · have hs:Sm r:=jeA (n:=4096) (by omega) (by decide)
    rw [if_neg (by simp;omega),if_neg h]
    by_cases h32:r.all (fun f=>decide (f.length≤32))=true
    · rw [jdj r (fun f=>decide (f.length≤32)) (some (if r.all (fun f=>f.all okV)=true then 0 else 20)) (some 11) _ hs ?_ ?_]
      · rw [if_pos h32,if_pos h32]
      · intro s i hw hc hm
        rw [if_pos (dlt hc),jaC hc,hw]
        by_cases h3:(ix r (i:Int)).length≤32
        · rw [if_neg (by simp;omega),if_pos (by simpa using h3)]
        · rw [if_pos (by simp;omega),if_neg (by simpa using h3)]
      · intro s
        rw [dll,if_neg (by simp)]
        rw [jdj r (fun f=>f.all okV) (some 0) (some 20) _ hs ?_ ?_]
        · split <;> rfl
        · intro s i hw hc hm
          have:=List.all_eq_true.1 h32 _ hm
          rw [if_pos (dlt hc),jaC hc,hw,refAllV _ (jeA (of_decide_eq_true this) (by decide)),jaq]
          cases (ix r (i:Int)).all okV <;> simp
        · intro s;rw [dll];simp
    · rw [if_neg h32]
      have:∀ fin,LOOP (fun (rec181:Int→Option Int) (s182:Int)=>if decide (s182<(r.length:Int))=true then Chk ((0:Int)≤s182∧s182<(r.length:Int)) (if decide (((ix r s182).length:Int)>32)=true then some (11:Int) else rec181 (IntKind.i64.wrap (s182+1))) else fin) fuel 0=some 11:=by
        intro fin
        rw [jdj r (fun f=>decide (f.length≤32)) fin (some 11) _ hs ?_ ?_]
        · rw [if_neg h32]
        · intro s i hw hc hm
          rw [if_pos (dlt hc),jaC hc,hw]
          by_cases h3:(ix r (i:Int)).length≤32
          · rw [if_neg (by simp;omega),if_pos (by simpa using h3)]
          · rw [if_pos (by simp;omega),if_neg (by simpa using h3)]
        · intro s;rw [dll];simp
      exact this _
end GoForm
end

section
/- Recordings in plain Lean: clones, slices, small recordings. No conditions. -/
set_option linter.all false
set_option maxRecDepth 100000
open Go Go.Rx
namespace GoForm
theorem OkR.sub {a b:List (List Input)} (h:OkR a) (hs:∀ f∈b,f∈a) (hl:b.length≤a.length):OkR b:=⟨by have:=h.sm;omega,fun f hf=>h.fr f (hs f hf)⟩
theorem OkF.sub {a b:List Input} (h:OkF a) (hs:∀ f∈b,f∈a) (hl:b.length≤a.length):OkF b:=⟨by have:=h.sm;omega,fun f hf=>h.bd f (hs f hf)⟩
theorem OkR.append {a b:List (List Input)} (ha:OkR a) (hb:OkR b) (h:a.length+b.length≤1000000):OkR (a++b):=
 ⟨by rw [List.length_append];exact h,fun f hf=>(List.mem_append.1 hf).elim (ha.fr f) (hb.fr f)⟩
def smX (x:Input):Bool:=(x.Body.Fixtures.take 6).all (fun f=>decide (f.Shape.Vertices.length≤12))&&decide (x.Body.Fixtures.length≤6)
def smF (a:List Input):Bool:=(a.take 40).all smX&&decide (a.length≤40)
theorem jkH {α:Type} [Inhabited α] (l:List α) (n i:Nat) (h:i<n):ix (l.take n) (i:Int)=ix l (i:Int):=by
 unfold ix
 simp only [Int.toNat_natCast,List.getD_eq_getElem?_getD]
 rw [List.getElem?_take_of_lt h]
theorem smF_eq (a:List Input):jbK a=some (smF a):=by
  unfold jbK
  simp only [jax]
  rw [jdj (a.take 40) smX (some (decide (a.length≤40))) (some false) _ (jeA (n:=40) (by rw [List.length_take];omega) (by decide)) ?_ ?_]
  · unfold smF;cases (a.take 40).all smX <;> rfl
  · intro r i hw hc hm
    rw [List.length_take] at hc
    have h1:(i:Int)<(a.length:Int):=by omega
    have h2:(i:Int)<40:=by omega
    rw [decide_eq_true h1,decide_eq_true h2]
    simp only [cond_true,if_true]
    rw [jaC (by omega),jkH _ _ _ (by omega)]
    generalize ix a (i:Int)=x
    rw [jdj (x.Body.Fixtures.take 6) (fun f=>decide (f.Shape.Vertices.length≤12)) (if decide ((x.Body.Fixtures.length:Int)>6)=true then some false else r ((i:Int)+1)) (some false) _ (jeA (n:=6) (by rw [List.length_take];omega) (by decide)) ?_ ?_]
    · unfold smX
      by_cases h6:x.Body.Fixtures.length≤6
      · have h7:decide ((x.Body.Fixtures.length:Int)>6)=false:=decide_eq_false (by omega)
        rw [h7,decide_eq_true h6,Bool.and_true];rfl
      · have h7:decide ((x.Body.Fixtures.length:Int)>6)=true:=decide_eq_true (by omega)
        rw [h7,decide_eq_false h6,Bool.and_false]
        cases (x.Body.Fixtures.take 6).all (fun f=>decide (f.Shape.Vertices.length≤12)) <;> rfl
    · intro r2 j hw2 hd hm2
      rw [List.length_take] at hd
      have h3:(j:Int)<(x.Body.Fixtures.length:Int):=by omega
      have h4:(j:Int)<6:=by omega
      rw [decide_eq_true h3,decide_eq_true h4]
      simp only [cond_true,if_true]
      rw [jaC (by omega),jkH _ _ _ (by omega),hw2]
      by_cases h12:(ix x.Body.Fixtures (j:Int)).Shape.Vertices.length≤12
      · rw [if_neg (by simp;omega),if_pos (by simpa using h12)]
      · rw [if_pos (by simp;omega),if_neg (by simpa using h12)]
    · intro r2
      have:(bif decide (((x.Body.Fixtures.take 6).length:Int)<(x.Body.Fixtures.length:Int)) then decide (((x.Body.Fixtures.take 6).length:Int)<6) else false)=false:=by
        rw [List.length_take]
        by_cases h:x.Body.Fixtures.length≤6
        · rw [decide_eq_false (by omega)];rfl
        · have:¬ (((min 6 x.Body.Fixtures.length:Nat):Int)<6):=by omega
          rw [decide_eq_false this,jb9,Bool.and_false]
      rw [this,if_neg (by simp),hw]
  · intro r
    have:(bif decide (((a.take 40).length:Int)<(a.length:Int)) then decide (((a.take 40).length:Int)<40) else false)=false:=by
      rw [List.length_take]
      by_cases h:a.length≤40
      · rw [decide_eq_false (by omega)];rfl
      · have:¬ (((min 40 a.length:Nat):Int)<40):=by omega
        rw [decide_eq_false this,jb9,Bool.and_false]
    rw [this,if_neg (by simp)]
    exact congrArg some (jlN (by omega))
theorem smF_ok {a:List Input} (h:smF a=true):a.length≤40∧∀ x∈a,x.Body.Fixtures.length≤6∧∀ f∈x.Body.Fixtures,f.Shape.Vertices.length≤12:=by
 unfold smF at h
 rw [Bool.and_eq_true] at h
 have h40:=of_decide_eq_true h.2
 rw [List.take_of_length_le h40] at h
 refine ⟨h40,fun x hx=>?_⟩
 have:=List.all_eq_true.1 h.1 x hx
 unfold smX at this
 rw [Bool.and_eq_true] at this
 have h6:=of_decide_eq_true this.2
 rw [List.take_of_length_le h6] at this
 exact ⟨h6,fun f hf=>of_decide_eq_true (List.all_eq_true.1 this.1 f hf)⟩
def smG (len:Nat):List (List Input)→Int→Bool
 | [],_=>decide (len≤5000)
 | f::t,n=>if decide (IntKind.i64.wrap (n+(f.length:Int))>100)=true∨smF f=false then false else smG len t (IntKind.i64.wrap (n+(f.length:Int)))
theorem smG_ok {len:Nat}:∀ {t:List (List Input)} {n:Int},smG len t n=true→len≤5000∧∀ f∈t,smF f=true
  | [],n,h=>⟨of_decide_eq_true h,fun f hf=>by cases hf⟩
  | f :: t,n,h=>by
    unfold smG at h
    by_cases hc:decide (IntKind.i64.wrap (n+(f.length:Int))>100)=true∨smF f=false
    · rw [if_pos hc] at h;cases h
    · rw [if_neg hc] at h
      obtain ⟨h1,h2⟩:=smG_ok h
      refine ⟨h1,fun g hg=>?_⟩
      rcases List.mem_cons.1 hg with rfl | hg
      · cases e:smF g with
        | true=>rfl
        | false=>exact absurd (.inr e) hc
      · exact h2 g hg
theorem jlc (r:List (List Input)):jcf r=some (smG r.length (r.take 5000) 0):=by
  unfold jcf
  simp only [jax]
  refine joy (r.take 5000) (fun t _ n=>some (smG r.length t n)) _ 0 (jeA (n:=5000) (by rw [List.length_take];omega) (by decide)) ?_ ?_
  · intro s i t n hw hc hm hr
    rw [List.length_take] at hc
    have h1:(i:Int)<(r.length:Int):=by omega
    have h2:(i:Int)<5000:=by omega
    rw [jkH _ _ _ (by omega)]
    simp only
    rw [decide_eq_true h1,decide_eq_true h2]
    simp only [cond_true,if_true]
    rw [jaC (by omega),jaC (fun _=>by omega),smF_eq,hw,hr]
    generalize ix r (i:Int)=f
    show _=some (if decide (IntKind.i64.wrap (n+(f.length:Int))>100)=true∨smF f=false then false else smG r.length t (IntKind.i64.wrap (n+(f.length:Int))))
    generalize smG r.length t (IntKind.i64.wrap (n+(f.length:Int)))=gg
    generalize IntKind.i64.wrap (n+(f.length:Int))=nn
    cases hd:decide (nn>100) <;> cases hf:smF f <;> rfl
  · intro s n
    simp only
    have:(bif decide (((r.take 5000).length:Int)<(r.length:Int)) then decide (((r.take 5000).length:Int)<5000) else false)=false:=by
      rw [List.length_take]
      by_cases h:r.length≤5000
      · rw [decide_eq_false (by omega)];rfl
      · have:¬ (((min 5000 r.length:Nat):Int)<5000):=by omega
        rw [decide_eq_false this,jb9,Bool.and_false]
    rw [this,if_neg (by simp)]
    exact congrArg some (jlN (by omega))
noncomputable def smR (r:List (List Input)):Bool:=smG r.length (r.take 5000) 0
theorem smR_eq (r:List (List Input)):jcf r=some (smR r):=jlc r
theorem smR_ok {r:List (List Input)} (h:smR r=true):r.length≤5000∧∀ f∈r,smF f=true:=by
 obtain ⟨h1,h2⟩:=smG_ok h
 rw [List.take_of_length_le h1] at h2
 exact ⟨h1,h2⟩
theorem ex_bind:(Rx.Bind jbY fun (r:Bool)=>some r)=some true:=by rw [jj5];rfl
end GoForm
end

section
/- The encoders of bodies and joints, in plain Lean: the bytes that both of them append. No conditions. -/
set_option linter.all false
set_option maxRecDepth 100000
open Go Go.Rx
open GoOld (jav jbO)
namespace GoForm
def jgp (x:Vec):Prop:=(IntKind.i64.min≤x.X∧x.X≤IntKind.i64.max)∧(IntKind.i64.min≤x.Y∧x.Y≤IntKind.i64.max)
def jk0 (x:Transform):Prop:=jgp x.Position∧(IntKind.i64.min≤x.Angle∧x.Angle≤IntKind.i64.max)
def Shape_P (x:Shape):Prop:=(IntKind.i64.min≤x.Kind∧x.Kind≤IntKind.i64.max)∧(IntKind.i64.min≤x.Radius∧x.Radius≤IntKind.i64.max)∧((∀ a∈x.Vertices,jgp a)∧(x.Vertices).length≤9223372036854775807)
def jgt (x:Fixture):Prop:=Shape_P x.Shape∧(IntKind.i64.min≤x.Density∧x.Density≤IntKind.i64.max)∧(IntKind.i64.min≤x.Friction∧x.Friction≤IntKind.i64.max)∧(IntKind.i64.min≤x.Restitution∧x.Restitution≤IntKind.i64.max)∧True∧(IntKind.i64.min≤x.Category∧x.Category≤IntKind.i64.max)∧(IntKind.i64.min≤x.Mask∧x.Mask≤IntKind.i64.max)∧(IntKind.i64.min≤x.Group∧x.Group≤IntKind.i64.max)
def jlZ (x:Body):Prop:=(IntKind.i64.min≤x.ID∧x.ID≤IntKind.i64.max)∧(IntKind.i64.min≤x.Kind∧x.Kind≤IntKind.i64.max)∧jk0 x.Transform∧jgp x.Velocity∧(IntKind.i64.min≤x.AngularVelocity∧x.AngularVelocity≤IntKind.i64.max)∧jgp x.Force∧(IntKind.i64.min≤x.Torque∧x.Torque≤IntKind.i64.max)∧(IntKind.i64.min≤x.LinearDamping∧x.LinearDamping≤IntKind.i64.max)∧(IntKind.i64.min≤x.AngularDamping∧x.AngularDamping≤IntKind.i64.max)∧(IntKind.i64.min≤x.GravityScale∧x.GravityScale≤IntKind.i64.max)∧True∧True∧True∧True∧(IntKind.i64.min≤x.IdleSteps∧x.IdleSteps≤IntKind.i64.max)∧((∀ a∈x.Fixtures,jgt a)∧(x.Fixtures).length≤9223372036854775807)
def jjw (x:Joint):Prop:=(IntKind.i64.min≤x.ID∧x.ID≤IntKind.i64.max)∧(IntKind.i64.min≤x.Kind∧x.Kind≤IntKind.i64.max)∧(IntKind.i64.min≤x.BodyA∧x.BodyA≤IntKind.i64.max)∧(IntKind.i64.min≤x.BodyB∧x.BodyB≤IntKind.i64.max)∧jgp x.AnchorA∧jgp x.AnchorB∧jgp x.Axis∧(IntKind.i64.min≤x.ReferenceAngle∧x.ReferenceAngle≤IntKind.i64.max)∧True∧(IntKind.i64.min≤x.Lower∧x.Lower≤IntKind.i64.max)∧(IntKind.i64.min≤x.Upper∧x.Upper≤IntKind.i64.max)∧True∧(IntKind.i64.min≤x.MotorSpeed∧x.MotorSpeed≤IntKind.i64.max)∧(IntKind.i64.min≤x.MaxForce∧x.MaxForce≤IntKind.i64.max)∧(IntKind.i64.min≤x.Softness∧x.Softness≤IntKind.i64.max)∧(IntKind.i64.min≤x.BreakForce∧x.BreakForce≤IntKind.i64.max)∧True∧((IntKind.i64.min≤x.Impulses.1∧x.Impulses.1≤IntKind.i64.max)∧(IntKind.i64.min≤x.Impulses.2.1∧x.Impulses.2.1≤IntKind.i64.max)∧(IntKind.i64.min≤x.Impulses.2.2.1∧x.Impulses.2.2.1≤IntKind.i64.max)∧(IntKind.i64.min≤x.Impulses.2.2.2∧x.Impulses.2.2.2≤IntKind.i64.max))
def jjz (x:Input):Prop:=(IntKind.i64.min≤x.Kind∧x.Kind≤IntKind.i64.max)∧(IntKind.i64.min≤x.ID∧x.ID≤IntKind.i64.max)∧jgp x.Vec∧(IntKind.i64.min≤x.Value∧x.Value≤IntKind.i64.max)∧jlZ x.Body∧jjw x.Joint
def cap9:Nat:=1000000000
theorem jbg {n:Int} (h:IntKind.i64.min≤n∧n≤IntKind.i64.max):(jav n).length≤9:=GoOld.encInt_le n h
theorem aI {b:List UInt8} {n:Int} (h:IntKind.i64.min≤n∧n≤IntKind.i64.max) (hb:b.length≤cap9):codec_AppendInt b n=some (b++jav n):=(jkc b n).trans (GoOld.codec_AppendInt_eq b n h (Nat.le_trans hb (by decide)))
theorem aI2 {b:List UInt8} {n:Int} (h:IntKind.i64.min≤n∧n≤IntKind.i64.max) (hb:b.length≤cap9):jay b n=some (b++jav n):=(jhg b n).trans (GoOld.ref_AppendInt_eq b n h (Nat.le_trans hb (by decide)))
def encV (v:Vec):List UInt8:=jav v.X++jav v.Y
def jdX (x:Bool):List UInt8:=[if x=true then 1 else 0]
theorem jdw {v:Vec} (h:jgp v):(encV v).length≤18:=by have h1:=jbg h.1;have h2:=jbg h.2;unfold encV;rw [List.length_append];omega
theorem aV {b:List UInt8} {v:Vec} (h:jgp v) (hb:b.length+9≤cap9):jbF b v=some (b++encV v):=by
 have h1:=jbg h.1
 unfold jbF
 rw [aI h.1 (by omega),Bind_some,aI h.2 (by rw [List.length_append];omega),Bind_some,List.append_assoc];rfl
theorem aV2 {b:List UInt8} {v:Vec} (h:jgp v) (hb:b.length+9≤cap9):jaB b v=some (b++encV v):=by
 have h1:=jbg h.1
 unfold jaB
 rw [aI2 h.1 (by omega),Bind_some,aI2 h.2 (by rw [List.length_append];omega),Bind_some,List.append_assoc];rfl
theorem aB {b:List UInt8} (x:Bool) (hb:b.length≤cap9):jce b x=some (b++jdX x):=by
 have hc:b.length≤1000000000:=hb
 unfold jce jdX
 cases x <;> simp only [if_true,if_false,jkb,Bool.false_eq_true] <;> rw [GoOld.extend_eq _ _ (by simp;omega)] <;> rfl
theorem aB2 {b:List UInt8} (x:Bool) (hb:b.length≤cap9):jaD b x=some (b++jdX x):=by
 have hc:b.length≤1000000000:=hb
 unfold jaD jdX
 rw [jaC (by omega)]
 cases x <;> simp only [if_true,if_false,Bool.false_eq_true] <;> rw [jaC (by omega)] <;> rfl
theorem ja5 {α:Type} {E:α→List UInt8} {c:Nat}:∀ (l:List α),(∀ x∈l,(E x).length≤c)→(l.flatMap E).length≤l.length*c
  | [],_=>by simp
  | x::t,h=>by
    have h1:=h x (List.mem_cons_self ..)
    have h2:=ja5 t (fun y hy=>h y (List.mem_cons_of_mem _ hy))
    rw [List.flatMap_cons,List.length_append,List.length_cons,Nat.add_mul];omega
def App {α X:Type} (B:α→(snapshot_encoder→Option X)→snapshot_encoder→Option X) (E:α→List UInt8) (c:Nat) (x:α):Prop:=
 (E x).length≤c∧∀ (k:snapshot_encoder→Option X) (b:List UInt8),b.length+c≤cap9→B x k { buf:=b }=k { buf:=b++E x }
theorem jlL {α X:Type} [Inhabited α] {B:α→(snapshot_encoder→Option X)→snapshot_encoder→Option X} {E:α→List UInt8} {c:Nat} {l:List α} (K:snapshot_encoder→Option X) {b:List UInt8} (hl:l.length≤1000000) (hB:∀ x∈l,App B E c x) (hb:b.length+l.length*c≤cap9):eLK B l K { buf:=b }=K { buf:=b++l.flatMap E }:=by
  unfold eLK
  rw [jax]
  refine LOOP_j l (fun i (s:snapshot_encoder)=>s.buf.length+(l.length - i)*c≤cap9) (fun t _ s=>K { buf:=s.buf++t.flatMap E }) _ _ (jeA hl (by decide)) (by simpa using hb) ?_ ?_
  · intro r i t s hp hw hc hm hr
    simp only [Let_eq]
    rw [if_pos (dlt hc),jaC hc,hw]
    obtain ⟨h1,h2⟩:=hB _ hm
    have e1:(l.length - i)*c=(l.length - (i+1))*c+c:=by
      have:l.length - i=(l.length - (i+1))+1:=by omega
      rw [this,Nat.add_mul,Nat.one_mul]
    rw [show s={ buf:=s.buf } from rfl,h2 _ _ (by omega),hr _ (by simp only [List.length_append];omega)]
    simp only [List.flatMap_cons,List.append_assoc]
  · intro r s hp
    simp only [Let_eq]
    rw [dll,if_neg (by simp)]
    simp
theorem bI_app {X:Type} {n:Int} (h:IntKind.i64.min≤n∧n≤IntKind.i64.max):App (X:=X) bI jav 9 n:=⟨jbg h,fun k b hb=>by unfold bI;rw [aI h (by show b.length≤cap9;omega),Bind_some]⟩
theorem bV_app {X:Type} {v:Vec} (h:jgp v):App (X:=X) bV encV 18 v:=⟨jdw h,fun k b hb=>by unfold bV;rw [aV h (by show b.length+9≤cap9;omega),Bind_some]⟩
theorem bB_app {X:Type} (x:Bool):App (X:=X) bB jdX 1 x:=⟨Nat.le_refl _,fun k b hb=>by unfold bB;rw [aB x (by show b.length≤cap9;omega),Bind_some]⟩
def encF (f:Fixture):List UInt8:=[f.Shape.Kind,f.Shape.Radius,(f.Shape.Vertices.length:Int)].flatMap jav++(f.Shape.Vertices.flatMap encV++([f.Density,f.Friction,f.Restitution].flatMap jav++([f.Sensor].flatMap jdX++[f.Category,f.Mask,f.Group].flatMap jav)))
def encB (x:Body):List UInt8:=[x.ID,x.Kind].flatMap jav++([x.Transform.Position].flatMap encV++([x.Transform.Angle].flatMap jav++([x.Velocity].flatMap encV++([x.AngularVelocity].flatMap jav++([x.Force].flatMap encV++([x.Torque,x.LinearDamping,x.AngularDamping,x.GravityScale].flatMap jav++([x.Bullet,x.FixedRotation,x.NoSleep,x.Asleep].flatMap jdX++([x.IdleSteps,(x.Fixtures.length:Int)].flatMap jav++x.Fixtures.flatMap encF))))))))
def encJ (x:Joint):List UInt8:=[x.ID,x.Kind,x.BodyA,x.BodyB].flatMap jav++([x.AnchorA,x.AnchorB,x.Axis].flatMap encV++([x.ReferenceAngle].flatMap jav++([x.EnableLimit].flatMap jdX++([x.Lower,x.Upper].flatMap jav++([x.EnableMotor].flatMap jdX++([x.MotorSpeed,x.MaxForce,x.Softness,x.BreakForce].flatMap jav++([x.CollideConnected].flatMap jdX++[x.Impulses.1,x.Impulses.2.1,x.Impulses.2.2.1,x.Impulses.2.2.2].flatMap jav)))))))
theorem sAB (b:List UInt8) (x:Body):jbC b x=Chk (b.length*1≤140737488355328) (eLK bI [x.ID,x.Kind] (fun e=>eLK bV [x.Transform.Position] (fun e=>eLK bI [x.Transform.Angle] (fun e=>eLK bV [x.Velocity] (fun e=>eLK bI [x.AngularVelocity] (fun e=>eLK bV [x.Force] (fun e=>eLK bI [x.Torque,x.LinearDamping,x.AngularDamping,x.GravityScale] (fun e=>eLK bB [x.Bullet,x.FixedRotation,x.NoSleep,x.Asleep] (fun e=>Let (x.Fixtures.length:Int) fun n=>eLK bI [x.IdleSteps,n] (fun e=>eLK bF x.Fixtures (fun e=>some e.buf) e) e) e) e) e) e) e) e) e) { buf:=b }):=by kernel_rfl
theorem sAJ (b:List UInt8) (x:Joint):jbr b x=Chk (b.length*1≤140737488355328) (eLK bI [x.ID,x.Kind,x.BodyA,x.BodyB] (fun e=>eLK bV [x.AnchorA,x.AnchorB,x.Axis] (fun e=>eLK bI [x.ReferenceAngle] (fun e=>eLK bB [x.EnableLimit] (fun e=>eLK bI [x.Lower,x.Upper] (fun e=>eLK bB [x.EnableMotor] (fun e=>eLK bI [x.MotorSpeed,x.MaxForce,x.Softness,x.BreakForce] (fun e=>eLK bB [x.CollideConnected] (fun e=>eLK bI [x.Impulses.1,x.Impulses.2.1,x.Impulses.2.2.1,x.Impulses.2.2.2] (fun e=>some e.buf) e) e) e) e) e) e) e) e) { buf:=b }):=by kernel_rfl
theorem jb6 {α:Type} {l:List α} (h:l.length≤1000000):IntKind.i64.min≤(l.length:Int)∧(l.length:Int)≤IntKind.i64.max:=by
 have h1:IntKind.i64.min = -9223372036854775808:=rfl
 have h2:IntKind.i64.max=9223372036854775807:=rfl
 omega
theorem all2 {α:Type} {p:α→Prop} {a b:α} (h1:p a) (h2:p b):∀ x∈[a,b],p x:=by simp [h1,h2]
theorem all3 {α:Type} {p:α→Prop} {a b c:α} (h1:p a) (h2:p b) (h3:p c):∀ x∈[a,b,c],p x:=by simp [h1,h2,h3]
theorem all4 {α:Type} {p:α→Prop} {a b c d:α} (h1:p a) (h2:p b) (h3:p c) (h4:p d):∀ x∈[a,b,c,d],p x:=by simp [h1,h2,h3,h4]
theorem all1 {α:Type} {p:α→Prop} {a:α} (h1:p a):∀ x∈[a],p x:=by simp [h1]
theorem jbb {l:List Int} (h:∀ n∈l,IntKind.i64.min≤n∧n≤IntKind.i64.max):(l.flatMap jav).length≤l.length*9:=ja5 l fun x hx=>jbg (h x hx)
theorem jfn {l:List Vec} (h:∀ n∈l,jgp n):(l.flatMap encV).length≤l.length*18:=ja5 l fun x hx=>jdw (h x hx)
theorem jfK (l:List Bool):(l.flatMap jdX).length≤l.length*1:=ja5 l fun x _=>Nat.le_refl _
theorem stI {X:Type} {l:List Int} (h:∀ n∈l,IntKind.i64.min≤n∧n≤IntKind.i64.max) (K:snapshot_encoder→Option X) {b:List UInt8} (hl:l.length≤1000) (hb:b.length+l.length*9≤cap9):eLK bI l K { buf:=b }=K { buf:=b++l.flatMap jav }:=jlL K (by omega) (fun x hx=>bI_app (h x hx)) hb
theorem stV {X:Type} {l:List Vec} (h:∀ n∈l,jgp n) (K:snapshot_encoder→Option X) {b:List UInt8} (hl:l.length≤1000) (hb:b.length+l.length*18≤cap9):eLK bV l K { buf:=b }=K { buf:=b++l.flatMap encV }:=jlL K (by omega) (fun x hx=>bV_app (h x hx)) hb
theorem stB {X:Type} (l:List Bool) (K:snapshot_encoder→Option X) {b:List UInt8} (hl:l.length≤1000) (hb:b.length+l.length*1≤cap9):eLK bB l K { buf:=b }=K { buf:=b++l.flatMap jdX }:=jlL K (by omega) (fun x _=>bB_app x) hb
end GoForm
end

section
/- The encoders of bodies and joints: the program's. No conditions. -/
set_option linter.all false
set_option maxRecDepth 100000
open Go Go.Rx
open GoOld (jav jbO)
namespace GoForm
theorem jjl {f:Fixture} (h:jgt f) (hv:f.Shape.Vertices.length≤12):(encF f).length≤298:=by
 obtain ⟨⟨h1,h2,h3,-⟩,h4,h5,h6,-,h7,h8,h9⟩:=h
 have L0:([f.Shape.Kind,f.Shape.Radius,(f.Shape.Vertices.length:Int)].flatMap jav).length≤27:=Nat.le_trans (jbb (l:=[f.Shape.Kind,f.Shape.Radius,(f.Shape.Vertices.length:Int)]) (all3 h1 h2 (jb6 (by omega)))) (by first | exact Nat.le_refl _ | (show _*18≤216;omega))
 have L1:(f.Shape.Vertices.flatMap encV).length≤216:=Nat.le_trans (jfn (l:=f.Shape.Vertices) h3) (by first | exact Nat.le_refl _ | (show _*18≤216;omega))
 have L2:([f.Density,f.Friction,f.Restitution].flatMap jav).length≤27:=Nat.le_trans (jbb (l:=[f.Density,f.Friction,f.Restitution]) (all3 h4 h5 h6)) (by first | exact Nat.le_refl _ | (show _*18≤216;omega))
 have L3:([f.Sensor].flatMap jdX).length≤1:=Nat.le_trans (jfK [f.Sensor]) (by first | exact Nat.le_refl _ | (show _*18≤216;omega))
 have L4:([f.Category,f.Mask,f.Group].flatMap jav).length≤27:=Nat.le_trans (jbb (l:=[f.Category,f.Mask,f.Group]) (all3 h7 h8 h9)) (by first | exact Nat.le_refl _ | (show _*18≤216;omega))
 unfold encF
 simp only [List.length_append]
 omega
theorem bF_app {X:Type} {f:Fixture} (h:jgt f) (hv:f.Shape.Vertices.length≤12):App (X:=X) bF encF 298 f:=by
 refine ⟨jjl h hv,fun k b hb=>?_⟩
 obtain ⟨⟨h1,h2,h3,-⟩,h4,h5,h6,-,h7,h8,h9⟩:=h
 have L0:([f.Shape.Kind,f.Shape.Radius,(f.Shape.Vertices.length:Int)].flatMap jav).length≤27:=Nat.le_trans (jbb (l:=[f.Shape.Kind,f.Shape.Radius,(f.Shape.Vertices.length:Int)]) (all3 h1 h2 (jb6 (by omega)))) (by first | exact Nat.le_refl _ | (show _*18≤216;omega))
 have L1:(f.Shape.Vertices.flatMap encV).length≤216:=Nat.le_trans (jfn (l:=f.Shape.Vertices) h3) (by first | exact Nat.le_refl _ | (show _*18≤216;omega))
 have L2:([f.Density,f.Friction,f.Restitution].flatMap jav).length≤27:=Nat.le_trans (jbb (l:=[f.Density,f.Friction,f.Restitution]) (all3 h4 h5 h6)) (by first | exact Nat.le_refl _ | (show _*18≤216;omega))
 have L3:([f.Sensor].flatMap jdX).length≤1:=Nat.le_trans (jfK [f.Sensor]) (by first | exact Nat.le_refl _ | (show _*18≤216;omega))
 have L4:([f.Category,f.Mask,f.Group].flatMap jav).length≤27:=Nat.le_trans (jbb (l:=[f.Category,f.Mask,f.Group]) (all3 h7 h8 h9)) (by first | exact Nat.le_refl _ | (show _*18≤216;omega))
 unfold bF
 rw [jax]
 rw [stI (all3 h1 h2 (jb6 (by omega))) _ (by first | decide | (simp;done) | omega) (by first | (simp only [List.length_append,List.length_cons,List.length_nil];omega) | (simp only [List.length_append];omega))]
 rw [stV h3 _ (by first | decide | (simp;done) | omega) (by first | (simp only [List.length_append,List.length_cons,List.length_nil];omega) | (simp only [List.length_append];omega))]
 rw [stI (all3 h4 h5 h6) _ (by first | decide | (simp;done) | omega) (by first | (simp only [List.length_append,List.length_cons,List.length_nil];omega) | (simp only [List.length_append];omega))]
 rw [stB [f.Sensor] _ (by first | decide | (simp;done) | omega) (by first | (simp only [List.length_append,List.length_cons,List.length_nil];omega) | (simp only [List.length_append];omega))]
 rw [stI (all3 h7 h8 h9) _ (by first | decide | (simp;done) | omega) (by first | (simp only [List.length_append,List.length_cons,List.length_nil];omega) | (simp only [List.length_append];omega))]
 unfold encF
 simp only [List.append_assoc]
theorem jjm {x:Body} (h:jlZ x) (hf:x.Fixtures.length≤6) (hv:∀ f∈x.Fixtures,f.Shape.Vertices.length≤12):(encB x).length≤1936:=by
 obtain ⟨h1,h2,h3,h4,h5,h6,h7,h8,h9,h10,-,-,-,-,h11,h12,-⟩:=h
 have L0:([x.ID,x.Kind].flatMap jav).length≤18:=Nat.le_trans (jbb (l:=[x.ID,x.Kind]) (all2 h1 h2)) (by first | exact Nat.le_refl _ | (show _*18≤216;omega))
 have L1:([x.Transform.Position].flatMap encV).length≤18:=Nat.le_trans (jfn (l:=[x.Transform.Position]) (all1 h3.1)) (by first | exact Nat.le_refl _ | (show _*18≤216;omega))
 have L2:([x.Transform.Angle].flatMap jav).length≤9:=Nat.le_trans (jbb (l:=[x.Transform.Angle]) (all1 h3.2)) (by first | exact Nat.le_refl _ | (show _*18≤216;omega))
 have L3:([x.Velocity].flatMap encV).length≤18:=Nat.le_trans (jfn (l:=[x.Velocity]) (all1 h4)) (by first | exact Nat.le_refl _ | (show _*18≤216;omega))
 have L4:([x.AngularVelocity].flatMap jav).length≤9:=Nat.le_trans (jbb (l:=[x.AngularVelocity]) (all1 h5)) (by first | exact Nat.le_refl _ | (show _*18≤216;omega))
 have L5:([x.Force].flatMap encV).length≤18:=Nat.le_trans (jfn (l:=[x.Force]) (all1 h6)) (by first | exact Nat.le_refl _ | (show _*18≤216;omega))
 have L6:([x.Torque,x.LinearDamping,x.AngularDamping,x.GravityScale].flatMap jav).length≤36:=Nat.le_trans (jbb (l:=[x.Torque,x.LinearDamping,x.AngularDamping,x.GravityScale]) (all4 h7 h8 h9 h10)) (by first | exact Nat.le_refl _ | (show _*18≤216;omega))
 have L7:([x.Bullet,x.FixedRotation,x.NoSleep,x.Asleep].flatMap jdX).length≤4:=Nat.le_trans (jfK [x.Bullet,x.FixedRotation,x.NoSleep,x.Asleep]) (by first | exact Nat.le_refl _ | (show _*18≤216;omega))
 have L8:([x.IdleSteps,(x.Fixtures.length:Int)].flatMap jav).length≤18:=Nat.le_trans (jbb (l:=[x.IdleSteps,(x.Fixtures.length:Int)]) (all2 h11 (jb6 (by omega)))) (by first | exact Nat.le_refl _ | (show _*18≤216;omega))
 have L9:(x.Fixtures.flatMap encF).length≤1788:=Nat.le_trans (ja5 (c:=298) _ fun f hf=>jjl (h12 f hf) (hv f hf)) (by omega)
 unfold encB
 simp only [List.length_append]
 omega
theorem pAB {b:List UInt8} {x:Body} (h:jlZ x) (hf:x.Fixtures.length≤6) (hv:∀ f∈x.Fixtures,f.Shape.Vertices.length≤12) (hb:b.length+1936≤cap9):jbC b x=some (b++encB x):=by
 obtain ⟨h1,h2,h3,h4,h5,h6,h7,h8,h9,h10,-,-,-,-,h11,h12,-⟩:=h
 have L0:([x.ID,x.Kind].flatMap jav).length≤18:=Nat.le_trans (jbb (l:=[x.ID,x.Kind]) (all2 h1 h2)) (by first | exact Nat.le_refl _ | (show _*18≤216;omega))
 have L1:([x.Transform.Position].flatMap encV).length≤18:=Nat.le_trans (jfn (l:=[x.Transform.Position]) (all1 h3.1)) (by first | exact Nat.le_refl _ | (show _*18≤216;omega))
 have L2:([x.Transform.Angle].flatMap jav).length≤9:=Nat.le_trans (jbb (l:=[x.Transform.Angle]) (all1 h3.2)) (by first | exact Nat.le_refl _ | (show _*18≤216;omega))
 have L3:([x.Velocity].flatMap encV).length≤18:=Nat.le_trans (jfn (l:=[x.Velocity]) (all1 h4)) (by first | exact Nat.le_refl _ | (show _*18≤216;omega))
 have L4:([x.AngularVelocity].flatMap jav).length≤9:=Nat.le_trans (jbb (l:=[x.AngularVelocity]) (all1 h5)) (by first | exact Nat.le_refl _ | (show _*18≤216;omega))
 have L5:([x.Force].flatMap encV).length≤18:=Nat.le_trans (jfn (l:=[x.Force]) (all1 h6)) (by first | exact Nat.le_refl _ | (show _*18≤216;omega))
 have L6:([x.Torque,x.LinearDamping,x.AngularDamping,x.GravityScale].flatMap jav).length≤36:=Nat.le_trans (jbb (l:=[x.Torque,x.LinearDamping,x.AngularDamping,x.GravityScale]) (all4 h7 h8 h9 h10)) (by first | exact Nat.le_refl _ | (show _*18≤216;omega))
 have L7:([x.Bullet,x.FixedRotation,x.NoSleep,x.Asleep].flatMap jdX).length≤4:=Nat.le_trans (jfK [x.Bullet,x.FixedRotation,x.NoSleep,x.Asleep]) (by first | exact Nat.le_refl _ | (show _*18≤216;omega))
 have L8:([x.IdleSteps,(x.Fixtures.length:Int)].flatMap jav).length≤18:=Nat.le_trans (jbb (l:=[x.IdleSteps,(x.Fixtures.length:Int)]) (all2 h11 (jb6 (by omega)))) (by first | exact Nat.le_refl _ | (show _*18≤216;omega))
 rw [sAB,jaC (by have:cap9=1000000000:=rfl;omega)]
 rw [stI (all2 h1 h2) _ (by first | decide | (simp;done) | omega) (by first | (simp only [List.length_append,List.length_cons,List.length_nil];omega) | (simp only [List.length_append];omega))]
 rw [stV (all1 h3.1) _ (by first | decide | (simp;done) | omega) (by first | (simp only [List.length_append,List.length_cons,List.length_nil];omega) | (simp only [List.length_append];omega))]
 rw [stI (all1 h3.2) _ (by first | decide | (simp;done) | omega) (by first | (simp only [List.length_append,List.length_cons,List.length_nil];omega) | (simp only [List.length_append];omega))]
 rw [stV (all1 h4) _ (by first | decide | (simp;done) | omega) (by first | (simp only [List.length_append,List.length_cons,List.length_nil];omega) | (simp only [List.length_append];omega))]
 rw [stI (all1 h5) _ (by first | decide | (simp;done) | omega) (by first | (simp only [List.length_append,List.length_cons,List.length_nil];omega) | (simp only [List.length_append];omega))]
 rw [stV (all1 h6) _ (by first | decide | (simp;done) | omega) (by first | (simp only [List.length_append,List.length_cons,List.length_nil];omega) | (simp only [List.length_append];omega))]
 rw [stI (all4 h7 h8 h9 h10) _ (by first | decide | (simp;done) | omega) (by first | (simp only [List.length_append,List.length_cons,List.length_nil];omega) | (simp only [List.length_append];omega))]
 rw [stB [x.Bullet,x.FixedRotation,x.NoSleep,x.Asleep] _ (by first | decide | (simp;done) | omega) (by first | (simp only [List.length_append,List.length_cons,List.length_nil];omega) | (simp only [List.length_append];omega))]
 rw [jax]
 rw [stI (all2 h11 (jb6 (by omega))) _ (by first | decide | (simp;done) | omega) (by first | (simp only [List.length_append,List.length_cons,List.length_nil];omega) | (simp only [List.length_append];omega))]
 rw [jlL (E:=encF) (c:=298) _ (by omega) (fun f hf=>bF_app (h12 f hf) (hv f hf)) (by simp only [List.length_append];omega)]
 unfold encB
 simp only [List.append_assoc]
theorem encJ_len {x:Joint} (h:jjw x):(encJ x).length≤192:=by
 obtain ⟨h1,h2,h3,h4,h5,h6,h7,h8,-,h9,h10,-,h11,h12,h13,h14,-,h15,h16,h17,h18⟩:=h
 have L0:([x.ID,x.Kind,x.BodyA,x.BodyB].flatMap jav).length≤36:=Nat.le_trans (jbb (l:=[x.ID,x.Kind,x.BodyA,x.BodyB]) (all4 h1 h2 h3 h4)) (by first | exact Nat.le_refl _ | (show _*18≤216;omega))
 have L1:([x.AnchorA,x.AnchorB,x.Axis].flatMap encV).length≤54:=Nat.le_trans (jfn (l:=[x.AnchorA,x.AnchorB,x.Axis]) (all3 h5 h6 h7)) (by first | exact Nat.le_refl _ | (show _*18≤216;omega))
 have L2:([x.ReferenceAngle].flatMap jav).length≤9:=Nat.le_trans (jbb (l:=[x.ReferenceAngle]) (all1 h8)) (by first | exact Nat.le_refl _ | (show _*18≤216;omega))
 have L3:([x.EnableLimit].flatMap jdX).length≤1:=Nat.le_trans (jfK [x.EnableLimit]) (by first | exact Nat.le_refl _ | (show _*18≤216;omega))
 have L4:([x.Lower,x.Upper].flatMap jav).length≤18:=Nat.le_trans (jbb (l:=[x.Lower,x.Upper]) (all2 h9 h10)) (by first | exact Nat.le_refl _ | (show _*18≤216;omega))
 have L5:([x.EnableMotor].flatMap jdX).length≤1:=Nat.le_trans (jfK [x.EnableMotor]) (by first | exact Nat.le_refl _ | (show _*18≤216;omega))
 have L6:([x.MotorSpeed,x.MaxForce,x.Softness,x.BreakForce].flatMap jav).length≤36:=Nat.le_trans (jbb (l:=[x.MotorSpeed,x.MaxForce,x.Softness,x.BreakForce]) (all4 h11 h12 h13 h14)) (by first | exact Nat.le_refl _ | (show _*18≤216;omega))
 have L7:([x.CollideConnected].flatMap jdX).length≤1:=Nat.le_trans (jfK [x.CollideConnected]) (by first | exact Nat.le_refl _ | (show _*18≤216;omega))
 have L8:([x.Impulses.1,x.Impulses.2.1,x.Impulses.2.2.1,x.Impulses.2.2.2].flatMap jav).length≤36:=Nat.le_trans (jbb (l:=[x.Impulses.1,x.Impulses.2.1,x.Impulses.2.2.1,x.Impulses.2.2.2]) (all4 h15 h16 h17 h18)) (by first | exact Nat.le_refl _ | (show _*18≤216;omega))
 unfold encJ
 simp only [List.length_append]
 omega
theorem pAJ {b:List UInt8} {x:Joint} (h:jjw x) (hb:b.length+192≤cap9):jbr b x=some (b++encJ x):=by
 obtain ⟨h1,h2,h3,h4,h5,h6,h7,h8,-,h9,h10,-,h11,h12,h13,h14,-,h15,h16,h17,h18⟩:=h
 have L0:([x.ID,x.Kind,x.BodyA,x.BodyB].flatMap jav).length≤36:=Nat.le_trans (jbb (l:=[x.ID,x.Kind,x.BodyA,x.BodyB]) (all4 h1 h2 h3 h4)) (by first | exact Nat.le_refl _ | (show _*18≤216;omega))
 have L1:([x.AnchorA,x.AnchorB,x.Axis].flatMap encV).length≤54:=Nat.le_trans (jfn (l:=[x.AnchorA,x.AnchorB,x.Axis]) (all3 h5 h6 h7)) (by first | exact Nat.le_refl _ | (show _*18≤216;omega))
 have L2:([x.ReferenceAngle].flatMap jav).length≤9:=Nat.le_trans (jbb (l:=[x.ReferenceAngle]) (all1 h8)) (by first | exact Nat.le_refl _ | (show _*18≤216;omega))
 have L3:([x.EnableLimit].flatMap jdX).length≤1:=Nat.le_trans (jfK [x.EnableLimit]) (by first | exact Nat.le_refl _ | (show _*18≤216;omega))
 have L4:([x.Lower,x.Upper].flatMap jav).length≤18:=Nat.le_trans (jbb (l:=[x.Lower,x.Upper]) (all2 h9 h10)) (by first | exact Nat.le_refl _ | (show _*18≤216;omega))
 have L5:([x.EnableMotor].flatMap jdX).length≤1:=Nat.le_trans (jfK [x.EnableMotor]) (by first | exact Nat.le_refl _ | (show _*18≤216;omega))
 have L6:([x.MotorSpeed,x.MaxForce,x.Softness,x.BreakForce].flatMap jav).length≤36:=Nat.le_trans (jbb (l:=[x.MotorSpeed,x.MaxForce,x.Softness,x.BreakForce]) (all4 h11 h12 h13 h14)) (by first | exact Nat.le_refl _ | (show _*18≤216;omega))
 have L7:([x.CollideConnected].flatMap jdX).length≤1:=Nat.le_trans (jfK [x.CollideConnected]) (by first | exact Nat.le_refl _ | (show _*18≤216;omega))
 have L8:([x.Impulses.1,x.Impulses.2.1,x.Impulses.2.2.1,x.Impulses.2.2.2].flatMap jav).length≤36:=Nat.le_trans (jbb (l:=[x.Impulses.1,x.Impulses.2.1,x.Impulses.2.2.1,x.Impulses.2.2.2]) (all4 h15 h16 h17 h18)) (by first | exact Nat.le_refl _ | (show _*18≤216;omega))
 rw [sAJ,jaC (by have:cap9=1000000000:=rfl;omega)]
 rw [stI (all4 h1 h2 h3 h4) _ (by first | decide | (simp;done) | omega) (by first | (simp only [List.length_append,List.length_cons,List.length_nil];omega) | (simp only [List.length_append];omega))]
 rw [stV (all3 h5 h6 h7) _ (by first | decide | (simp;done) | omega) (by first | (simp only [List.length_append,List.length_cons,List.length_nil];omega) | (simp only [List.length_append];omega))]
 rw [stI (all1 h8) _ (by first | decide | (simp;done) | omega) (by first | (simp only [List.length_append,List.length_cons,List.length_nil];omega) | (simp only [List.length_append];omega))]
 rw [stB [x.EnableLimit] _ (by first | decide | (simp;done) | omega) (by first | (simp only [List.length_append,List.length_cons,List.length_nil];omega) | (simp only [List.length_append];omega))]
 rw [stI (all2 h9 h10) _ (by first | decide | (simp;done) | omega) (by first | (simp only [List.length_append,List.length_cons,List.length_nil];omega) | (simp only [List.length_append];omega))]
 rw [stB [x.EnableMotor] _ (by first | decide | (simp;done) | omega) (by first | (simp only [List.length_append,List.length_cons,List.length_nil];omega) | (simp only [List.length_append];omega))]
 rw [stI (all4 h11 h12 h13 h14) _ (by first | decide | (simp;done) | omega) (by first | (simp only [List.length_append,List.length_cons,List.length_nil];omega) | (simp only [List.length_append];omega))]
 rw [stB [x.CollideConnected] _ (by first | decide | (simp;done) | omega) (by first | (simp only [List.length_append,List.length_cons,List.length_nil];omega) | (simp only [List.length_append];omega))]
 rw [stI (all4 h15 h16 h17 h18) _ (by first | decide | (simp;done) | omega) (by first | (simp only [List.length_append,List.length_cons,List.length_nil];omega) | (simp only [List.length_append];omega))]
 unfold encJ
 simp only [List.append_assoc]
end GoForm
end

section
/- The encoders of bodies and joints: the reference's. No conditions. -/
set_option linter.all false
set_option maxRecDepth 100000
open Go Go.Rx
open GoOld (jav jbO)
namespace GoForm
def rL {α:Type} [Inhabited α] (A:List UInt8→α→Option (List UInt8)) (l:List α) (b:List UInt8):Option (List UInt8):=
 LOOP (fun (rec:List UInt8 × Int→Option (List UInt8)) s=>Let (l.length:Int) fun n=>Let (decide (s.2<n)) fun x=>if x=true then Chk ((0:Int)≤s.2∧s.2<(l.length:Int)) (Let (ix l s.2) fun v=>Rx.Bind (A s.1 v) fun q=>Let (IntKind.i64.wrap (s.2+1)) fun z=>rec (q,z)) else some s.1) fuel (b,(0:Int))
def App2 {α:Type} (A:List UInt8→α→Option (List UInt8)) (E:α→List UInt8) (c:Nat) (x:α):Prop:=
 (E x).length≤c∧∀ (b:List UInt8),b.length+c≤cap9→A b x=some (b++E x)
theorem rL_eq {α:Type} [Inhabited α] {A:List UInt8→α→Option (List UInt8)} {E:α→List UInt8} {c:Nat} {l:List α} {b:List UInt8} (hl:l.length≤1000000) (hB:∀ x∈l,App2 A E c x) (hb:b.length+l.length*c≤cap9):rL A l b=some (b++l.flatMap E):=by
  unfold rL
  refine jiK l (fun i (s:List UInt8)=>s.length+(l.length - i)*c≤cap9) (fun t _ s=>some (s++t.flatMap E)) _ _ (jeA hl (by decide)) (by simpa using hb) ?_ ?_
  · intro r i t s hp hw hc hm hr
    simp only [Let_eq]
    rw [if_pos (dlt hc),jaC hc,hw]
    obtain ⟨h1,h2⟩:=hB _ hm
    have e1:(l.length - i)*c=(l.length - (i+1))*c+c:=by
      have:l.length - i=(l.length - (i+1))+1:=by omega
      rw [this,Nat.add_mul,Nat.one_mul]
    rw [h2 _ (by omega),Bind_some,hr _ (by simp only [List.length_append];omega)]
    simp only [List.flatMap_cons,List.append_assoc]
  · intro r s hp
    simp only [Let_eq]
    rw [dll,if_neg (by simp)]
    simp
theorem rAI0 (b:List UInt8) (l:List Int):jap b l=rL jay l b:=by kernel_rfl
theorem rAI {l:List Int} (h:∀ n∈l,IntKind.i64.min≤n∧n≤IntKind.i64.max) {b:List UInt8} (hl:l.length≤1000) (hb:b.length+l.length*9≤cap9):jap b l=some (b++l.flatMap jav):=by
 rw [rAI0]
 exact rL_eq (c:=9) (by omega) (fun x hx=>⟨jbg (h x hx),fun b hb=>aI2 (h x hx) (by omega)⟩) hb
theorem rAS0 (b:List UInt8) (s:Shape):jck b s=Let (s.Vertices.length:Int) fun n=>Rx.Bind (jap b [s.Kind,s.Radius,n]) fun r=>rL jaB s.Vertices r:=by kernel_rfl
theorem jfl (x:Bool):(jdX x).length=1:=rfl
theorem rAF {f:Fixture} (h:jgt f) (hv:f.Shape.Vertices.length≤12):App2 ja2 encF 298 f:=by
 refine ⟨jjl h hv,fun b hb=>?_⟩
 obtain ⟨⟨h1,h2,h3,-⟩,h4,h5,h6,-,h7,h8,h9⟩:=h
 have M0:([f.Shape.Kind,f.Shape.Radius,(f.Shape.Vertices.length:Int)].flatMap jav).length≤27:=Nat.le_trans (jbb (l:=[f.Shape.Kind,f.Shape.Radius,(f.Shape.Vertices.length:Int)]) (all3 h1 h2 (jb6 (by omega)))) (Nat.le_refl _)
 have M1:(f.Shape.Vertices.flatMap encV).length≤216:=Nat.le_trans (jfn (l:=f.Shape.Vertices) h3) (by omega)
 have L0:([f.Density,f.Friction,f.Restitution].flatMap jav).length≤27:=Nat.le_trans (jbb (l:=[f.Density,f.Friction,f.Restitution]) (all3 h4 h5 h6)) (Nat.le_refl _)
 have L1:=jfl f.Sensor
 have L2:([f.Category,f.Mask,f.Group].flatMap jav).length≤27:=Nat.le_trans (jbb (l:=[f.Category,f.Mask,f.Group]) (all3 h7 h8 h9)) (Nat.le_refl _)
 unfold ja2
 rw [rAS0,jax]
 rw [rAI (all3 h1 h2 (jb6 (by omega))) (by first | decide | (simp;done) | omega) (by first | (simp only [List.length_append,List.length_cons,List.length_nil];omega) | (simp only [List.length_append];omega)),Bind_some]
 rw [rL_eq (E:=encV) (c:=18) (by omega) (fun v hvv=>⟨jdw (h3 v hvv),fun b hb=>aV2 (h3 v hvv) (by omega)⟩) (by simp only [List.length_append];omega),Bind_some]
 rw [rAI (all3 h4 h5 h6) (by first | decide | (simp;done) | omega) (by first | (simp only [List.length_append,List.length_cons,List.length_nil];omega) | (simp only [List.length_append];omega)),Bind_some]
 rw [aB2 f.Sensor (by first | (simp only [List.length_append,List.length_cons,List.length_nil];omega) | (simp only [List.length_append];omega)),Bind_some]
 rw [rAI (all3 h7 h8 h9) (by first | decide | (simp;done) | omega) (by first | (simp only [List.length_append,List.length_cons,List.length_nil];omega) | (simp only [List.length_append];omega)),Bind_some]
 unfold encF
 simp only [List.flatMap_cons,List.flatMap_nil,List.append_nil,List.append_assoc]
theorem rAB {b:List UInt8} {x:Body} (h:jlZ x) (hf:x.Fixtures.length≤6) (hv:∀ f∈x.Fixtures,f.Shape.Vertices.length≤12) (hb:b.length+1936≤cap9):jbU b x=some (b++encB x):=by
 obtain ⟨h1,h2,h3,h4,h5,h6,h7,h8,h9,h10,-,-,-,-,h11,h12,-⟩:=h
 have L0:([x.ID,x.Kind].flatMap jav).length≤18:=Nat.le_trans (jbb (l:=[x.ID,x.Kind]) (all2 h1 h2)) (Nat.le_refl _)
 have L1:(encV x.Transform.Position).length≤18:=jdw h3.1
 have L2:([x.Transform.Angle].flatMap jav).length≤9:=Nat.le_trans (jbb (l:=[x.Transform.Angle]) (all1 h3.2)) (Nat.le_refl _)
 have L3:(encV x.Velocity).length≤18:=jdw h4
 have L4:([x.AngularVelocity].flatMap jav).length≤9:=Nat.le_trans (jbb (l:=[x.AngularVelocity]) (all1 h5)) (Nat.le_refl _)
 have L5:(encV x.Force).length≤18:=jdw h6
 have L6:([x.Torque,x.LinearDamping,x.AngularDamping,x.GravityScale].flatMap jav).length≤36:=Nat.le_trans (jbb (l:=[x.Torque,x.LinearDamping,x.AngularDamping,x.GravityScale]) (all4 h7 h8 h9 h10)) (Nat.le_refl _)
 have L7:=jfl x.Bullet
 have L8:=jfl x.FixedRotation
 have L9:=jfl x.NoSleep
 have L10:=jfl x.Asleep
 have L11:([x.IdleSteps,(x.Fixtures.length:Int)].flatMap jav).length≤18:=Nat.le_trans (jbb (l:=[x.IdleSteps,(x.Fixtures.length:Int)]) (all2 h11 (jb6 (by omega)))) (Nat.le_refl _)
 unfold jbU
 rw [jaC (by have:cap9=1000000000:=rfl;omega)]
 rw [rAI (all2 h1 h2) (by first | decide | (simp;done) | omega) (by first | (simp only [List.length_append,List.length_cons,List.length_nil];omega) | (simp only [List.length_append];omega)),Bind_some]
 rw [aV2 h3.1 (by first | (simp only [List.length_append,List.length_cons,List.length_nil];omega) | (simp only [List.length_append];omega)),Bind_some]
 rw [rAI (all1 h3.2) (by first | decide | (simp;done) | omega) (by first | (simp only [List.length_append,List.length_cons,List.length_nil];omega) | (simp only [List.length_append];omega)),Bind_some]
 rw [aV2 h4 (by first | (simp only [List.length_append,List.length_cons,List.length_nil];omega) | (simp only [List.length_append];omega)),Bind_some]
 rw [rAI (all1 h5) (by first | decide | (simp;done) | omega) (by first | (simp only [List.length_append,List.length_cons,List.length_nil];omega) | (simp only [List.length_append];omega)),Bind_some]
 rw [aV2 h6 (by first | (simp only [List.length_append,List.length_cons,List.length_nil];omega) | (simp only [List.length_append];omega)),Bind_some]
 rw [rAI (all4 h7 h8 h9 h10) (by first | decide | (simp;done) | omega) (by first | (simp only [List.length_append,List.length_cons,List.length_nil];omega) | (simp only [List.length_append];omega)),Bind_some]
 rw [aB2 x.Bullet (by first | (simp only [List.length_append,List.length_cons,List.length_nil];omega) | (simp only [List.length_append];omega)),Bind_some]
 rw [aB2 x.FixedRotation (by first | (simp only [List.length_append,List.length_cons,List.length_nil];omega) | (simp only [List.length_append];omega)),Bind_some]
 rw [aB2 x.NoSleep (by first | (simp only [List.length_append,List.length_cons,List.length_nil];omega) | (simp only [List.length_append];omega)),Bind_some]
 rw [aB2 x.Asleep (by first | (simp only [List.length_append,List.length_cons,List.length_nil];omega) | (simp only [List.length_append];omega)),Bind_some]
 rw [jax]
 rw [rAI (all2 h11 (jb6 (by omega))) (by first | decide | (simp;done) | omega) (by first | (simp only [List.length_append,List.length_cons,List.length_nil];omega) | (simp only [List.length_append];omega)),Bind_some]
 refine (rL_eq (A:=ja2) (E:=encF) (c:=298) (by omega) (fun f hf=>rAF (h12 f hf) (hv f hf)) (by simp only [List.length_append];omega)).trans ?_
 unfold encB
 simp only [List.flatMap_cons,List.flatMap_nil,List.append_nil,List.append_assoc]
theorem rAJ {b:List UInt8} {x:Joint} (h:jjw x) (hb:b.length+192≤cap9):jbM b x=some (b++encJ x):=by
 obtain ⟨h1,h2,h3,h4,h5,h6,h7,h8,-,h9,h10,-,h11,h12,h13,h14,-,h15,h16,h17,h18⟩:=h
 have L0:([x.ID,x.Kind,x.BodyA,x.BodyB].flatMap jav).length≤36:=Nat.le_trans (jbb (l:=[x.ID,x.Kind,x.BodyA,x.BodyB]) (all4 h1 h2 h3 h4)) (Nat.le_refl _)
 have L1:(encV x.AnchorA).length≤18:=jdw h5
 have L2:(encV x.AnchorB).length≤18:=jdw h6
 have L3:(encV x.Axis).length≤18:=jdw h7
 have L4:([x.ReferenceAngle].flatMap jav).length≤9:=Nat.le_trans (jbb (l:=[x.ReferenceAngle]) (all1 h8)) (Nat.le_refl _)
 have L5:=jfl x.EnableLimit
 have L6:([x.Lower,x.Upper].flatMap jav).length≤18:=Nat.le_trans (jbb (l:=[x.Lower,x.Upper]) (all2 h9 h10)) (Nat.le_refl _)
 have L7:=jfl x.EnableMotor
 have L8:([x.MotorSpeed,x.MaxForce,x.Softness,x.BreakForce].flatMap jav).length≤36:=Nat.le_trans (jbb (l:=[x.MotorSpeed,x.MaxForce,x.Softness,x.BreakForce]) (all4 h11 h12 h13 h14)) (Nat.le_refl _)
 have L9:=jfl x.CollideConnected
 have L10:([x.Impulses.1,x.Impulses.2.1,x.Impulses.2.2.1,x.Impulses.2.2.2].flatMap jav).length≤36:=Nat.le_trans (jbb (l:=[x.Impulses.1,x.Impulses.2.1,x.Impulses.2.2.1,x.Impulses.2.2.2]) (all4 h15 h16 h17 h18)) (Nat.le_refl _)
 unfold jbM
 rw [jaC (by have:cap9=1000000000:=rfl;omega)]
 rw [rAI (all4 h1 h2 h3 h4) (by first | decide | (simp;done) | omega) (by first | (simp only [List.length_append,List.length_cons,List.length_nil];omega) | (simp only [List.length_append];omega)),Bind_some]
 rw [aV2 h5 (by first | (simp only [List.length_append,List.length_cons,List.length_nil];omega) | (simp only [List.length_append];omega)),Bind_some]
 rw [aV2 h6 (by first | (simp only [List.length_append,List.length_cons,List.length_nil];omega) | (simp only [List.length_append];omega)),Bind_some]
 rw [aV2 h7 (by first | (simp only [List.length_append,List.length_cons,List.length_nil];omega) | (simp only [List.length_append];omega)),Bind_some]
 rw [rAI (all1 h8) (by first | decide | (simp;done) | omega) (by first | (simp only [List.length_append,List.length_cons,List.length_nil];omega) | (simp only [List.length_append];omega)),Bind_some]
 rw [aB2 x.EnableLimit (by first | (simp only [List.length_append,List.length_cons,List.length_nil];omega) | (simp only [List.length_append];omega)),Bind_some]
 rw [rAI (all2 h9 h10) (by first | decide | (simp;done) | omega) (by first | (simp only [List.length_append,List.length_cons,List.length_nil];omega) | (simp only [List.length_append];omega)),Bind_some]
 rw [aB2 x.EnableMotor (by first | (simp only [List.length_append,List.length_cons,List.length_nil];omega) | (simp only [List.length_append];omega)),Bind_some]
 rw [rAI (all4 h11 h12 h13 h14) (by first | decide | (simp;done) | omega) (by first | (simp only [List.length_append,List.length_cons,List.length_nil];omega) | (simp only [List.length_append];omega)),Bind_some]
 rw [aB2 x.CollideConnected (by first | (simp only [List.length_append,List.length_cons,List.length_nil];omega) | (simp only [List.length_append];omega)),Bind_some]
 rw [rAI (all4 h15 h16 h17 h18) (by first | decide | (simp;done) | omega) (by first | (simp only [List.length_append,List.length_cons,List.length_nil];omega) | (simp only [List.length_append];omega)),Bind_some]
 unfold encJ
 simp only [List.flatMap_cons,List.flatMap_nil,List.append_nil,List.append_assoc]
end GoForm
end

section
/- recording.Encode and the reference's: the same bytes before the seal. No conditions. -/
set_option linter.all false
set_option maxRecDepth 100000
open Go Go.Rx
open GoOld (jav jbO)
namespace GoForm
def encI (x:Input):List UInt8:=jav x.Kind++(jav x.ID++(encV x.Vec++(jav x.Value++(encB x.Body++encJ x.Joint))))
def jim (f:List Input):List UInt8:=jav f.length++f.flatMap encI
def encR (r:List (List Input)):List UInt8:=jav r.length++r.flatMap jim
def jf6 (b:List UInt8):List UInt8:=b++[jat (crcV b),jat (bShr .u32 (crcV b) 8),jat (bShr .u32 (crcV b) 16),jat (bShr .u32 (crcV b) 24)]
theorem jmQ {b:List UInt8} (h:b.length≤cap9):jdE b=some (jf6 b):=by
 show jmT b=_
 unfold jmT
 rw [if_pos (Nat.le_trans h (by decide))];rfl
structure SmI (x:Input):Prop where
 p:jjz x
 f:x.Body.Fixtures.length≤6
 v:∀ f∈x.Body.Fixtures,f.Shape.Vertices.length≤12
theorem jjk {x:Input} (h:SmI x):(encI x).length≤2173:=by
 obtain ⟨h1,h2,h3,h4,h5,h6⟩:=h.p
 have q1:=jbg h1
 have q2:=jbg h2
 have q3:=jdw h3
 have q4:=jbg h4
 have q5:=jjm h5 h.f h.v
 have q6:=encJ_len h6
 unfold encI
 simp only [List.length_append];omega
theorem pIn {X:Type} (K:List UInt8→Option X) (s:List UInt8) (x:Input) (h:SmI x) (hb:s.length+2173≤cap9):
  (Rx.Bind (codec_AppendInt s x.Kind) fun a=>Rx.Bind (codec_AppendInt a x.ID) fun a=>Rx.Bind (jbF a x.Vec) fun a=>Rx.Bind (codec_AppendInt a x.Value) fun a=>Rx.Bind (jbC a x.Body) fun a=>Rx.Bind (jbr a x.Joint) fun a=>K a)=K (s++encI x):=by
 obtain ⟨h1,h2,h3,h4,h5,h6⟩:=h.p
 have q1:=jbg h1
 have q2:=jbg h2
 have q3:=jdw h3
 have q4:=jbg h4
 have q5:=jjm h5 h.f h.v
 rw [aI h1 (by omega),Bind_some,aI h2 (by simp only [List.length_append];omega),Bind_some,aV h3 (by simp only [List.length_append];omega),Bind_some,aI h4 (by simp only [List.length_append];omega),Bind_some,pAB h5 h.f h.v (by simp only [List.length_append];omega),Bind_some,pAJ h6 (by simp only [List.length_append];omega),Bind_some]
 unfold encI
 simp only [List.append_assoc]
theorem rIn {s:List UInt8} {x:Input} (h:SmI x) (hb:s.length+2173≤cap9):jbJ s x=some (s++encI x):=by
 obtain ⟨h1,h2,h3,h4,h5,h6⟩:=h.p
 have q1:=jbg h1
 have q2:=jbg h2
 have q3:=jdw h3
 have q4:=jbg h4
 have q5:=jjm h5 h.f h.v
 unfold jbJ
 rw [aI2 h1 (by omega),Bind_some,aI2 h2 (by simp only [List.length_append];omega),Bind_some,aV2 h3 (by simp only [List.length_append];omega),Bind_some,aI2 h4 (by simp only [List.length_append];omega),Bind_some,rAB h5 h.f h.v (by simp only [List.length_append];omega),Bind_some,rAJ h6 (by simp only [List.length_append];omega),Bind_some]
 unfold encI
 simp only [List.append_assoc]
structure SmR (r:List (List Input)):Prop where
 l:r.length≤5000
 f:∀ f∈r,f.length≤40∧∀ x∈f,SmI x
theorem SmR.of {r:List (List Input)} (h:(∀ a∈r,((∀ b∈a,jjz b)∧a.length≤9223372036854775807))∧r.length≤9223372036854775807) (hs:smR r=true):SmR r:=by
 obtain ⟨h1,h2⟩:=smR_ok hs
 refine ⟨h1,fun f hf=>?_⟩
 obtain ⟨h3,h4⟩:=smF_ok (h2 f hf)
 exact ⟨h3,fun x hx=>⟨(h.1 f hf).1 x hx,(h4 x hx).1,(h4 x hx).2⟩⟩
noncomputable def jiE (r:List (List Input)):List UInt8 × Int:=if rvl r≠0 then ([],25) else (jf6 (encR r),0)
theorem progEnc {r:List (List Input)} (h:SmR r):jcd r=some (jiE r):=by
  unfold jcd jiE
  rw [jni,jaq]
  simp only [jax]
  have hc9:cap9=1000000000:=rfl
  by_cases h2:rvl r≠0
  · rw [if_pos h2,if_pos (by simpa using h2)]
  · rw [if_neg h2,if_neg (by simpa using h2)]
    have q0:=jbg (jb6 (l:=r) (Nat.le_trans h.l (by decide)))
    rw [aI (jb6 (Nat.le_trans h.l (by decide))) (by simp [hc9]),Bind_some,List.nil_append]
    refine (jiK r (fun i s=>s.length≤9+i*87000) (fun t _ s=>some (jf6 (s++t.flatMap jim),0)) _ _ (jeA h.l (by decide)) (by simpa using q0) ?_ ?_).trans rfl
    · intro q i t s hs hw hc hm hr
      obtain ⟨hf40,hfx⟩:=h.f _ hm
      have q1:=jbg (jb6 (l:=ix r (i:Int)) (Nat.le_trans hf40 (by decide)))
      have hi:i<5000:=by have:=h.l;omega
      simp only
      rw [if_pos (dlt hc),jaC hc,aI (jb6 (Nat.le_trans hf40 (by decide))) (by omega),Bind_some]
      refine (jiK (ix r (i:Int)) (fun j s'=>s'.length≤9+i*87000+9+j*2173) (fun t' _ s'=>some (jf6 ((s'++t'.flatMap encI)++t.flatMap jim),0)) _ _ (jeA hf40 (by decide)) (by simp only [List.length_append];omega) ?_ ?_).trans ?_
      · intro q2 j t2 s2 hs2 hw2 hd hm2 hr2
        have hxx:=hfx _ hm2
        have hl:=jjk hxx
        simp only
        rw [if_pos (dlt hd),jaC hd,pIn _ _ _ hxx (by omega),hw2,hr2 _ (by simp only [List.length_append];omega)]
        simp only [List.flatMap_cons,List.append_assoc]
      · intro q2 s2 hs2
        simp only
        rw [dll,if_neg (by simp),hw,hr s2 (by rw [Nat.add_mul];omega)]
        simp only [List.flatMap_nil,List.append_nil]
      · simp only [List.flatMap_cons,List.append_assoc,jim]
    · intro q s hs
      simp only
      rw [dll,if_neg (by simp),jmQ (by have:=h.l;omega),Bind_some]
      simp only [List.flatMap_nil,List.append_nil]
end GoForm
end
