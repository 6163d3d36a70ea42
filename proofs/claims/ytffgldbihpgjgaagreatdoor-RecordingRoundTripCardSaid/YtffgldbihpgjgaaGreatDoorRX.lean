/- Several texts in one. No conditions. -/
import Derived.Test.YtffgldbihpgjgaaGreatDoorF47D
import Derived.Test.YtffgldbihpgjgaaGreatDoorQE
import Derived.Test.YtffgldbihpgjgaaGreatDoorGX
import Derived.Test.YtffgldbihpgjgaaGreatDoorF47S
section
set_option linter.all false
set_option maxRecDepth 100000
open Go Go.Rx
namespace GoForm
def MF:Body:={ID:=0,Kind:=0,Transform:={Position:={X:=0,Y:=0},qy:=0},jZ:={X:=0,Y:=0},jC:=0,YA:={X:=0,Y:=0},Yl:=0,jN:=0,jI:=0,jR:=0,YO:=false,jQ:=false,yE:=false,YP:=false,Jt:=0,jk:=[]}
theorem jg0:∃m,fuel=m+20:=⟨2 ^ 70 - 20,by unfold fuel;decide⟩
theorem jhz (b:Body):∃be,Qr b MF=some be/\yC b MF=some be:=by
 obtain⟨m,hm⟩:=jg0
 unfold Qr yC
 rw[hm]
 simp only[JD]
 by_cases h:b.jk=[]
 ·refine⟨_,by rw[if_neg (by rw[h];decide),ZX,if_neg (by rw[h];simp)],?_⟩
  rw[if_neg (by rw[h];decide),ZX,if_neg (by rw[h];simp)]
  have key:∀(c d e:Bool),((!c)&&d)=e->(if c=true then some false else some d)=some e:=by
   intro c d e h;cases c <;> simp_all
  refine key _ _ _ ?_
  simp only[Zf,Yq]
  rw[Bool.eq_iff_iff]
  simp only[Bool.and_eq_true,Bool.or_eq_true,Bool.not_eq_true',Bool.or_eq_false_iff,bne_eq_false_iff_eq,Bool.not_eq_false',beq_iff_eq,decide_eq_true_iff]
  grind
 ·have hl:b.jk.length≠0:=fun q=>h (List.length_eq_zero_iff.1 q)
  refine⟨false,?_,?_⟩ <;> rw[if_pos (by rw[bne_iff_ne];show((b.jk.length:Int))≠((0:Nat):Int);omega)]
theorem jgF (k:Int):qj k=jT k:=by
 unfold qj jT;rfl
def sat (n:Int):Bool:=decide (-536870911<=n)&&decide (n<=536870911)
theorem Pq (n:Int):yP n=some (sat n):=by
 unfold yP sat;simp only[JD,Yq];try rfl
theorem unsat_eq (n:Int):yq n=some (!sat n):=by
 unfold yq sat
 simp only[JD,Zf]
 by_cases h1 : -536870911<=n <;> by_cases h2:n<=536870911 <;> simp[h1,h2] <;> try omega
theorem ZG {α:Type}{p:Prop}[Decidable p](a b:α):(if p then some a else some b)=some (if p then a else b):=by split <;> rfl
theorem UA (x:Input):∃e,yK x=some e/\zC x=some e:=by
 obtain⟨be,hb1,hb2⟩:=jhz x.Body
 obtain⟨u,hu⟩:∃u,jT x.Kind=some u:=by
  unfold jT
  simp only[JD,QQ,ZG]
  exact⟨_,rfl⟩
 unfold yK zC
 unfold MF at hb1 hb2
 rw[jgF,hu]
 simp only[JD,QQ,jG,hb1,hb2,Pq,unsat_eq,pA,Zf,Yq,ZG]
 refine⟨_,rfl,?_⟩
 congr 1
 obtain⟨u1,u2,u3⟩:=u
 simp only
 generalize (decide (x.Kind<1)||decide (x.Kind>12))=k0
 generalize (decide (x.ID<1)||decide (x.ID>1099511627776))=i0
 generalize sat x.Vec.X=sx
 generalize sat x.Vec.Y=sy
 generalize sat x.Value=sv
 generalize (x.ID != 0)=i1
 generalize (!(decide (x.Vec.X=0)&&decide (x.Vec.Y=0)))=v1
 generalize (x.Value != 0)=v2
 generalize (x.Kind != 9)=k9
 generalize (x.Kind != 11)=k11
 generalize (!(decide (x.jn.ID=0)&&_))=jz
 cases k0
 ·cases u1 <;> cases u2 <;> cases u3 <;> cases i0 <;> cases sx <;> cases sy <;> cases sv <;> (try rfl) <;> cases i1 <;> cases v1 <;> cases v2 <;> (try rfl) <;> cases k9 <;> cases be <;> (try rfl) <;> cases k11 <;> cases jz <;> rfl
 ·rfl
theorem PN {p q:Prop}[Decidable p][Decidable q](h:p↔q):decide p=decide q:=by
 by_cases hp:p
 ·rw[decide_eq_true hp,decide_eq_true (h.1 hp)]
 ·rw[decide_eq_false hp,decide_eq_false (fun hq=>hp (h.2 hq))]
theorem jhC (a b:List Vec)(h:Sm a):zN a b=some (decide (a=b)):=by
 unfold zN
 simp only[JD]
 by_cases hl:a.length=b.length
 ·rw[if_neg (by simp[hl]),vN a b (some true) (some false) _ h hl ?_ ?_]
  ·split <;> simp[*]
  ·intro r i hw hc hc2 hm
   rw[if_pos (dlt hc),jV hc,jV hc2,hw]
   obtain⟨x1,y1⟩:=ix a (i:Int)
   obtain⟨x2,y2⟩:=ix b (i:Int)
   by_cases e1:x1=x2 <;> by_cases e2:y1=y2 <;> simp[e1,e2]
  ·intro r;rw[dll,if_neg (by simp)]
 ·have:a≠b:=fun e=>hl (by rw[e])
  rw[if_pos (by simp only[bne_iff_ne,ne_eq];omega)];simp[this]
theorem jhe (a b:List Vec)(h:Sm a):Yr a b=some (decide (a=b)):=by
 unfold Yr
 simp only[JD]
 by_cases hl:a.length=b.length
 ·rw[if_neg (by simp[hl]),vN a b (some true) (some false) _ h hl ?_ ?_]
  ·split <;> simp[*]
  ·intro r i hw hc hc2 hm
   rw[if_pos (dlt hc),jV hc,jV hc2,hw]
   obtain⟨x1,y1⟩:=ix a (i:Int)
   obtain⟨x2,y2⟩:=ix b (i:Int)
   by_cases e1:x1=x2 <;> by_cases e2:y1=y2 <;> simp[e1,e2]
  ·intro r;rw[dll,if_neg (by simp)]
 ·have:a≠b:=fun e=>hl (by rw[e])
  rw[if_pos (by simp only[bne_iff_ne,ne_eq];omega)];simp[this]
theorem jhD (a b:Shape)(h:Sm a.jS):ZA a b=some (decide (a=b)):=by
 unfold ZA
 simp only[JD,jhC _ _ h]
 obtain⟨k1,r1,v1⟩:=a
 obtain⟨k2,r2,v2⟩:=b
 by_cases e1:k1=k2 <;> by_cases e2:r1=r2 <;> by_cases e3:v1=v2 <;> simp[e1,e2,e3,jG]
theorem jhf (a b:Shape)(h:Sm a.jS):qA a b=some (decide (a=b)):=by
 unfold qA
 simp only[JD,jhe _ _ h]
 obtain⟨k1,r1,v1⟩:=a
 obtain⟨k2,r2,v2⟩:=b
 by_cases e1:k1=k2 <;> by_cases e2:r1=r2 <;> by_cases e3:v1=v2 <;> simp[e1,e2,e3,jG]
theorem jbF (a b:Jy):decide (a=b)=(decide (a.Shape=b.Shape)&&decide (a.yy=b.yy)&&decide (a.JL=b.JL)&&decide (a.jX=b.jX)&&decide (a.YX=b.YX)&&decide (a.Category=b.Category)&&decide (a.Mask=b.Mask)&&decide (a.QH=b.QH)):=by
 simp only[<-Bool.decide_and]
 refine PN ?_
 constructor
 ·intro e;subst e;simp
 ·intro h;cases a;cases b;simp_all
theorem jhl (a b:Int):(a==b)=decide (a=b):=rfl
theorem jhm (a b:Bool):(a==b)=decide (a=b):=by cases a <;> cases b <;> rfl
theorem jhh (a b:Jy)(h:Sm a.Shape.jS):YV a b=some (decide (a=b)):=by
 unfold YV
 simp only[JD,jhD _ _ h,jG,jbF a b,jhl,jhm,Yq]
 generalize decide (a.Shape=b.Shape)=x1
 generalize decide (a.yy=b.yy)=x2
 generalize decide (a.JL=b.JL)=x3
 generalize decide (a.jX=b.jX)=x4
 generalize decide (a.YX=b.YX)=x5
 generalize decide (a.Category=b.Category)=x6
 generalize decide (a.Mask=b.Mask)=x7
 generalize decide (a.QH=b.QH)=x8
 simp only[Bool.and_assoc]
theorem jgL (a b:Jy)(h:Sm a.Shape.jS):yI a b=some (decide (a=b)):=by
 unfold yI
 simp only[JD,jhf _ _ h,jG,jbF a b,jhl,jhm,Yq]
structure Bd (b:Body):Prop where
 sm:Sm b.jk
 vs:∀f∈b.jk,Sm f.Shape.jS
def jgy (a b:Body):Bool:=decide (a.ID=b.ID)&&decide (a.Kind=b.Kind)&&(decide (a.Transform.Position.X=b.Transform.Position.X)&&decide (a.Transform.Position.Y=b.Transform.Position.Y)&&decide (a.Transform.qy=b.Transform.qy))&&(decide (a.jZ.X=b.jZ.X)&&decide (a.jZ.Y=b.jZ.Y))&&decide (a.jC=b.jC)&&(decide (a.YA.X=b.YA.X)&&decide (a.YA.Y=b.YA.Y))&&decide (a.Yl=b.Yl)&&decide (a.jN=b.jN)&&decide (a.jI=b.jI)&&decide (a.jR=b.jR)&&decide (a.YO=b.YO)&&decide (a.jQ=b.jQ)&&decide (a.yE=b.yE)&&decide (a.YP=b.YP)&&decide (a.Jt=b.Jt)
theorem jdV (a b:Body):decide (a=b)=(jgy a b&&decide (a.jk=b.jk)):=by
 unfold jgy
 simp only[<-Bool.decide_and]
 refine PN ?_
 constructor
 ·intro e;subst e;simp
 ·intro h
  obtain⟨a1,a2,⟨⟨a3,a4⟩,a5⟩,⟨a6,a7⟩,a8,⟨a9,a10⟩,a11,a12,a13,a14,a15,a16,a17,a18,a19,a20⟩:=a
  obtain⟨b1,b2,⟨⟨b3,b4⟩,b5⟩,⟨b6,b7⟩,b8,⟨b9,b10⟩,b11,b12,b13,b14,b15,b16,b17,b18,b19,b20⟩:=b
  simp_all
theorem mb (a b:Body):(if a.jk=b.jk then some (jgy a b)else some false)=some (decide (a=b)):=by
 rw[jdV]
 by_cases h:a.jk=b.jk <;> simp[h]
theorem jhi (a b:Body)(h:Bd a):Qr a b=some (decide (a=b)):=by
 unfold Qr
 simp only[JD]
 by_cases hl:a.jk.length=b.jk.length
 ·rw[if_neg (by simp[hl]),vN a.jk b.jk (some (jgy a b)) (some false) _ h.sm hl ?_ ?_,mb]
  ·intro r i hw hc hc2 hm
   rw[if_pos (dlt hc),jV hc,jV hc2,hw,jhh _ _ (h.vs _ hm),jG]
   by_cases e:ix a.jk (i:Int)=ix b.jk (i:Int) <;> simp[e]
  ·intro r
   rw[dll,if_neg (by simp)]
   simp only[jhl,jhm,Yq,jgy]
   generalize decide (a.ID=b.ID)=x1
   generalize decide (a.Kind=b.Kind)=x2
   generalize (decide (a.Transform.Position.X=b.Transform.Position.X)&&decide (a.Transform.Position.Y=b.Transform.Position.Y)&&decide (a.Transform.qy=b.Transform.qy))=x3
   generalize (decide (a.jZ.X=b.jZ.X)&&decide (a.jZ.Y=b.jZ.Y))=x4
   generalize (decide (a.YA.X=b.YA.X)&&decide (a.YA.Y=b.YA.Y))=x5
   simp only[Bool.and_assoc]
 ·have:a≠b:=fun e=>hl (by rw[e])
  rw[if_pos (by simp only[bne_iff_ne,ne_eq];omega)];simp[this]
theorem jhj (a b:Body)(h:Bd a):yC a b=some (decide (a=b)):=by
 unfold yC
 simp only[JD]
 by_cases hl:a.jk.length=b.jk.length
 ·rw[if_neg (by simp[hl]),vN a.jk b.jk (some (jgy a b)) (some false) _ h.sm hl ?_ ?_,mb]
  ·intro r i hw hc hc2 hm
   rw[dlt hc,dlt hc2,if_pos (by rfl),jV hc,jV hc2,hw,jgL _ _ (h.vs _ hm),jG]
   by_cases e:ix a.jk (i:Int)=ix b.jk (i:Int) <;> simp[e]
  ·intro r
   rw[dll,if_neg (by simp)]
   simp only[jhl,jhm,Yq,Zf,jgy,bne]
   generalize decide (a.ID=b.ID)=x1
   generalize decide (a.Kind=b.Kind)=x2
   generalize (decide (a.Transform.Position.X=b.Transform.Position.X)&&decide (a.Transform.Position.Y=b.Transform.Position.Y)&&decide (a.Transform.qy=b.Transform.qy))=x3
   generalize (decide (a.jZ.X=b.jZ.X)&&decide (a.jZ.Y=b.jZ.Y))=x4
   generalize (decide (a.YA.X=b.YA.X)&&decide (a.YA.Y=b.YA.Y))=x5
   generalize decide (a.jC=b.jC)=x6
   generalize decide (a.Yl=b.Yl)=x7
   cases x1 <;> cases x2 <;> cases x3 <;> cases x4 <;> cases x5 <;> cases x6 <;> cases x7 <;> simp
 ·have:a≠b:=fun e=>hl (by rw[e])
  rw[if_pos (by simp only[bne_iff_ne,ne_eq];omega)];simp[this]
theorem jhg (x y:Input)(h:Bd x.Body):∃q,zn x y=some q/\YL x y=some q/\(x=y->q=true):=by
 unfold zn YL
 simp only[JD,jhi _ _ h,jhj _ _ h,Yq,pA]
 refine⟨_,rfl,?_,?_⟩
 ·generalize (x.Kind==y.Kind)=x1
  generalize (x.ID==y.ID)=x2
  generalize (decide (x.Vec.X=y.Vec.X)&&decide (x.Vec.Y=y.Vec.Y))=x3
  generalize (x.Value==y.Value)=x4
  generalize (decide (x.Body=y.Body))=x5
  refine congrArg some ?_
  generalize hz:(decide (x.jn.ID=y.jn.ID)&&_)=x6
  cases x1 <;> cases x2 <;> cases x3 <;> cases x4 <;> cases x5 <;> cases x6 <;> rfl
 ·intro e;subst e;simp
theorem mj {α X:Type}[Inhabited α](q:α->α->Bool)(l m:List α)(fin bad:Option X)(step:(Int->Option X)->Int->Option X)(hl:Sm l)(hlen:l.length=m.length)
 (hs:∀(r:Int->Option X) (i:Nat),IntKind.i64.wrap ((i:Int)+1)=(i:Int)+1->(0<=(i:Int)/\(i:Int)<(l.length:Int))->(0<=(i:Int)/\(i:Int)<(m.length:Int))->ix l (i:Int)∈l->step r (i:Int)=if q (ix l (i:Int)) (ix m (i:Int))=true then r ((i:Int)+1)else bad)
 (he:∀(r:Int->Option X),step r (l.length:Int)=fin):qw step fuel (0:Int)=if(l.zip m).all (fun p=>q p.1 p.2)=true then fin else bad:=by
 have:=pt l (fun t i=>if(t.zip (m.drop i)).all (fun p=>q p.1 p.2)=true then fin else bad) step hl ?_ ?_
 ·exact this
 ·intro r i t hw hc hm hr
  have hc2:0<=(i:Int)/\(i:Int)<(m.length:Int):=by omega
  rw[hs r i hw hc hc2 hm,hr,zw m i (by omega),List.zip_cons_cons,List.all_cons]
  show(if q (ix l (i:Int)) (ix m (i:Int))=true then _ else bad)=if(q (ix l (i:Int)) (ix m (i:Int))&&_)=true then fin else bad
  cases q (ix l (i:Int)) (ix m (i:Int))
  ·rfl
  ·simp only[if_true,Bool.true_and]
 ·intro r;rw[he];rfl
noncomputable def eqI (x y:Input):Bool:=(zn x y).getD false
theorem jhx (x y:Input)(h:Bd x.Body):YL x y=some (eqI x y):=by
 obtain⟨q,h1,h2,-⟩:=jhg x y h
 unfold eqI;rw[h1,h2];rfl
theorem jhw (x:Input)(h:Bd x.Body):eqI x x=true:=by
 obtain⟨q,h1,-,h3⟩:=jhg x x h
 unfold eqI;rw[h1,h3 rfl];rfl
noncomputable def eqF (a b:List Input):Bool:=decide (a.length=b.length)&&(a.zip b).all (fun p=>eqI p.1 p.2)
noncomputable def eqR (a b:List (List Input)):Bool:=decide (a.length=b.length)&&(a.zip b).all (fun p=>eqF p.1 p.2)
structure OkF (a:List Input):Prop where
 sm:a.length<=1000000
 bd:∀x∈a,x.Body.jk.length<=1000000/\∀f∈x.Body.jk,f.Shape.jS.length<=1000000
structure OkR (a:List (List Input)):Prop where
 sm:a.length<=1000000
 fr:∀f∈a,OkF f
theorem OkF.b {a:List Input}(h:OkF a){x:Input}(hx:x∈a):Bd x.Body:=
 ⟨Zy (h.bd x hx).1 (by decide),fun f hf=>Zy ((h.bd x hx).2 f hf) (by decide)⟩
theorem uD {α:Type}(q:α->α->Bool):∀(l:List α),(∀x∈l,q x x=true)->(l.zip l).all (fun p=>q p.1 p.2)=true
 | [],_=>rfl
 |a::l,h=>by
  rw[List.zip_cons_cons,List.all_cons,uD q l (fun x hx=>h x (List.mem_cons_of_mem _ hx))]
  show(q a a&&true)=true
  rw[h a (List.mem_cons_self ..)];rfl
theorem jhy (a:List Input)(h:OkF a):eqF a a=true:=by
 unfold eqF;rw[uD eqI a (fun x hx=>jhw x (h.b hx))];simp
theorem jg2 (a:List (List Input))(h:OkR a):eqR a a=true:=by
 unfold eqR;rw[uD eqF a (fun x hx=>jhy x (h.fr x hx))];simp
theorem jgV (a b:List Input)(h:OkF a):yY a b=some (eqF a b):=by
 unfold yY eqF
 simp only[JD]
 by_cases hl:a.length=b.length
 ·rw[if_neg (by simp[hl]),mj eqI a b (some true) (some false) _ (Zy h.sm (by decide)) hl ?_ ?_]
  ·rw[decide_eq_true hl,Bool.true_and];split <;> simp[*]
  ·intro r i hw hc hc2 hm
   rw[dlt hc,dlt hc2]
   simp only[cond_true,if_true]
   rw[jV hc,jV hc2,hw,jhx _ _ (h.b hm),jG]
   cases eqI (ix a (i:Int)) (ix b (i:Int)) <;> simp
  ·intro r;rw[dll];simp
 ·rw[if_pos (by simp only[bne_iff_ne,ne_eq];omega),decide_eq_false hl];rfl
theorem jea (a b:List (List Input))(h:OkR a):YK a b=some (eqR a b):=by
 unfold YK eqR
 simp only[JD]
 by_cases hl:a.length=b.length
 ·rw[if_neg (by simp[hl]),mj eqF a b (some true) (some false) _ (Zy h.sm (by decide)) hl ?_ ?_]
  ·rw[decide_eq_true hl,Bool.true_and];split <;> simp[*]
  ·intro r i hw hc hc2 hm
   rw[dlt hc,dlt hc2]
   simp only[cond_true,if_true]
   rw[jV hc,jV hc2,hw,jgV _ _ (h.fr _ hm),jG]
   cases eqF (ix a (i:Int)) (ix b (i:Int)) <;> simp
  ·intro r;rw[dll];simp
 ·rw[if_pos (by simp only[bne_iff_ne,ne_eq];omega),decide_eq_false hl];rfl
noncomputable def vld (x:Input):Int:=(yK x).getD 0
theorem jeX (x:Input):yK x=some (vld x):=by
 obtain⟨q,h1,-⟩:=UA x
 unfold vld;rw[h1];rfl
noncomputable def okV (x:Input):Bool:=decide (vld x=0)
theorem jc2 (a:List Input)(h:Sm a):Ju a=some (a.all okV):=by
 unfold Ju
 simp only[JD]
 rw[zU a okV (some true) (some false) _ h ?_ ?_]
 ·split <;> simp[*]
 ·intro r i hw hc hm
  rw[if_pos (dlt hc),jV hc,hw,jeX,jG]
  unfold okV
  by_cases h:vld (ix a (i:Int))=0 <;> simp[h]
 ·intro r;rw[dll];simp
noncomputable def rvl (r:List (List Input)):Int:=if 4096<r.length then 11 else if r.all (fun f=>decide (f.length<=32))=true then(if r.all (fun f=>f.all okV)=true then 0 else 20)else 11
theorem wQ (r:List (List Input)):jy r=some (rvl r):=by
 unfold jy rvl
 simp only[JD]
 by_cases h:4096<r.length
 ·rw[if_pos (by simp;omega),if_pos h]
 ·have hs:Sm r:=Zy (n:=4096) (by omega) (by decide)
  rw[if_neg (by simp;omega),if_neg h]
  by_cases h32:r.all (fun f=>decide (f.length<=32))=true
  ·rw[zU r (fun f=>decide (f.length<=32)) (some (if r.all (fun f=>f.all okV)=true then 0 else 20)) (some 11) _ hs ?_ ?_]
   ·rw[if_pos h32,if_pos h32]
   ·intro s i hw hc hm
    rw[if_pos (dlt hc),jV hc,hw]
    by_cases h3:(ix r (i:Int)).length<=32
    ·rw[if_neg (by simp;omega),if_pos (by simpa using h3)]
    ·rw[if_pos (by simp;omega),if_neg (by simpa using h3)]
   ·intro s
    rw[dll,if_neg (by simp)]
    rw[zU r (fun f=>f.all okV) (some 0) (some 20) _ hs ?_ ?_]
    ·split <;> rfl
    ·intro s i hw hc hm
     have:=List.all_eq_true.1 h32 _ hm
     rw[if_pos (dlt hc),jV hc,hw,jc2 _ (Zy (of_decide_eq_true this) (by decide)),jG]
     cases (ix r (i:Int)).all okV <;> simp
    ·intro s;rw[dll];simp
  ·rw[if_neg h32]
   have:∀fin,qw (fun(rec181:Int->Option Int) (s182:Int)=>if decide (s182<(r.length:Int))=true then Chk ((0:Int)<=s182/\s182<(r.length:Int)) (if decide (((ix r s182).length:Int)>32)=true then some (11:Int)else rec181 (IntKind.i64.wrap (s182+1)))else fin) fuel 0=some 11:=by
    intro fin
    rw[zU r (fun f=>decide (f.length<=32)) fin (some 11) _ hs ?_ ?_]
    ·rw[if_neg h32]
    ·intro s i hw hc hm
     rw[if_pos (dlt hc),jV hc,hw]
     by_cases h3:(ix r (i:Int)).length<=32
     ·rw[if_neg (by simp;omega),if_pos (by simpa using h3)]
     ·rw[if_pos (by simp;omega),if_neg (by simpa using h3)]
    ·intro s;rw[dll];simp
   exact this _
def smX (x:Input):Bool:=(x.Body.jk.take 6).all (fun f=>decide (f.Shape.jS.length<=12))&&decide (x.Body.jk.length<=6)
def smF (a:List Input):Bool:=(a.take 40).all smX&&decide (a.length<=40)
theorem XG {α:Type}[Inhabited α](l:List α)(n i:Nat)(h:i<n):ix (l.take n) (i:Int)=ix l (i:Int):=by
 unfold ix
 simp only[Int.toNat_natCast,List.getD_eq_getElem?_getD]
 rw[List.getElem?_take_of_lt h]
theorem jgT (a:List Input):yX a=some (smF a):=by
 unfold yX
 simp only[JD]
 rw[zU (a.take 40) smX (some (decide (a.length<=40))) (some false) _ (Zy (n:=40) (by rw[List.length_take];omega) (by decide)) ?_ ?_]
 ·unfold smF;cases (a.take 40).all smX <;> rfl
 ·intro r i hw hc hm
  rw[List.length_take]at hc
  have h1:(i:Int)<(a.length:Int):=by omega
  have h2:(i:Int)<40:=by omega
  rw[decide_eq_true h1,decide_eq_true h2]
  simp only[cond_true,if_true]
  rw[jV (by omega),XG _ _ _ (by omega)]
  generalize ix a (i:Int)=x
  rw[zU (x.Body.jk.take 6) (fun f=>decide (f.Shape.jS.length<=12)) (if decide ((x.Body.jk.length:Int)>6)=true then some false else r ((i:Int)+1)) (some false) _ (Zy (n:=6) (by rw[List.length_take];omega) (by decide)) ?_ ?_]
  ·unfold smX
   by_cases h6:x.Body.jk.length<=6
   ·have h7:decide ((x.Body.jk.length:Int)>6)=false:=decide_eq_false (by omega)
    rw[h7,decide_eq_true h6,Bool.and_true];rfl
   ·have h7:decide ((x.Body.jk.length:Int)>6)=true:=decide_eq_true (by omega)
    rw[h7,decide_eq_false h6,Bool.and_false]
    cases (x.Body.jk.take 6).all (fun f=>decide (f.Shape.jS.length<=12)) <;> rfl
  ·intro r2 j hw2 hd hm2
   rw[List.length_take]at hd
   have h3:(j:Int)<(x.Body.jk.length:Int):=by omega
   have h4:(j:Int)<6:=by omega
   rw[decide_eq_true h3,decide_eq_true h4]
   simp only[cond_true,if_true]
   rw[jV (by omega),XG _ _ _ (by omega),hw2]
   by_cases h12:(ix x.Body.jk (j:Int)).Shape.jS.length<=12
   ·rw[if_neg (by simp;omega),if_pos (by simpa using h12)]
   ·rw[if_pos (by simp;omega),if_neg (by simpa using h12)]
  ·intro r2
   have:(bif decide (((x.Body.jk.take 6).length:Int)<(x.Body.jk.length:Int))then decide (((x.Body.jk.take 6).length:Int)<6)else false)=false:=by
    rw[List.length_take]
    by_cases h:x.Body.jk.length<=6
    ·rw[decide_eq_false (by omega)];rfl
    ·have:¬ (((min 6 x.Body.jk.length:Nat):Int)<6):=by omega
     rw[decide_eq_false this,Yq,Bool.and_false]
   rw[this,if_neg (by simp),hw]
 ·intro r
  have:(bif decide (((a.take 40).length:Int)<(a.length:Int))then decide (((a.take 40).length:Int)<40)else false)=false:=by
   rw[List.length_take]
   by_cases h:a.length<=40
   ·rw[decide_eq_false (by omega)];rfl
   ·have:¬ (((min 40 a.length:Nat):Int)<40):=by omega
    rw[decide_eq_false this,Yq,Bool.and_false]
  rw[this,if_neg (by simp)]
  exact congrArg some (PN (by omega))
theorem uf {a:List Input}(h:smF a=true):a.length<=40/\∀x∈a,x.Body.jk.length<=6/\∀f∈x.Body.jk,f.Shape.jS.length<=12:=by
 unfold smF at h
 rw[Bool.and_eq_true]at h
 have h40:=of_decide_eq_true h.2
 rw[List.take_of_length_le h40]at h
 refine⟨h40,fun x hx=>?_⟩
 have:=List.all_eq_true.1 h.1 x hx
 unfold smX at this
 rw[Bool.and_eq_true]at this
 have h6:=of_decide_eq_true this.2
 rw[List.take_of_length_le h6]at this
 exact⟨h6,fun f hf=>of_decide_eq_true (List.all_eq_true.1 this.1 f hf)⟩
theorem je5 {a:List Input}(h:smF a=true):OkF a:=by
 obtain⟨h1,h2⟩:=uf h
 exact⟨by omega,fun x hx=>⟨by have:=(h2 x hx).1;omega,fun f hf=>by have:=(h2 x hx).2 f hf;omega⟩⟩
def smG (len:Nat):List (List Input)->Int->Bool
 | [],_=>decide (len<=5000)
 |f::t,n=>if decide (IntKind.i64.wrap (n+(f.length:Int))>100)=true\/smF f=false then false else smG len t (IntKind.i64.wrap (n+(f.length:Int)))
theorem jd7 {len:Nat}:∀{t:List (List Input)} {n:Int},smG len t n=true->len<=5000/\∀f∈t,smF f=true
 | [],n,h=>⟨of_decide_eq_true h,fun f hf=>by cases hf⟩
 |f :: t,n,h=>by
  unfold smG at h
  by_cases hc:decide (IntKind.i64.wrap (n+(f.length:Int))>100)=true\/smF f=false
  ·rw[if_pos hc]at h;cases h
  ·rw[if_neg hc]at h
   obtain⟨h1,h2⟩:=jd7 h
   refine⟨h1,fun g hg=>?_⟩
   rcases List.mem_cons.1 hg with rfl|hg
   ·cases e:smF g with
    |true=>rfl
    |false=>exact absurd (.inr e) hc
   ·exact h2 g hg
theorem pN (r:List (List Input)):YJ r=some (smG r.length (r.take 5000) 0):=by
 unfold YJ
 simp only[JD]
 refine jcm (r.take 5000) (fun t _ n=>some (smG r.length t n)) _ 0 (Zy (n:=5000) (by rw[List.length_take];omega) (by decide)) ?_ ?_
 ·intro s i t n hw hc hm hr
  rw[List.length_take]at hc
  have h1:(i:Int)<(r.length:Int):=by omega
  have h2:(i:Int)<5000:=by omega
  rw[XG _ _ _ (by omega)]
  simp only
  rw[decide_eq_true h1,decide_eq_true h2]
  simp only[cond_true,if_true]
  rw[jV (by omega),jV (fun _=>by omega),jgT,hw,hr]
  generalize ix r (i:Int)=f
  show _=some (if decide (IntKind.i64.wrap (n+(f.length:Int))>100)=true\/smF f=false then false else smG r.length t (IntKind.i64.wrap (n+(f.length:Int))))
  generalize smG r.length t (IntKind.i64.wrap (n+(f.length:Int)))=gg
  generalize IntKind.i64.wrap (n+(f.length:Int))=nn
  cases hd:decide (nn>100) <;> cases hf:smF f <;> rfl
 ·intro s n
  simp only
  have:(bif decide (((r.take 5000).length:Int)<(r.length:Int))then decide (((r.take 5000).length:Int)<5000)else false)=false:=by
   rw[List.length_take]
   by_cases h:r.length<=5000
   ·rw[decide_eq_false (by omega)];rfl
   ·have:¬ (((min 5000 r.length:Nat):Int)<5000):=by omega
    rw[decide_eq_false this,Yq,Bool.and_false]
  rw[this,if_neg (by simp)]
  exact congrArg some (PN (by omega))
noncomputable def smR (r:List (List Input)):Bool:=smG r.length (r.take 5000) 0
theorem jgS (r:List (List Input)):YJ r=some (smR r):=pN r
theorem UR {r:List (List Input)}(h:smR r=true):r.length<=5000/\∀f∈r,smF f=true:=by
 obtain⟨h1,h2⟩:=jd7 h
 rw[List.take_of_length_le h1]at h2
 exact⟨h1,h2⟩
theorem je4 {r:List (List Input)}(h:smR r=true):OkR r:=by
 obtain⟨h1,h2⟩:=UR h
 exact⟨by omega,fun f hf=>je5 (h2 f hf)⟩
theorem jgh:(Rx.Bind Yk fun(r:Bool)=>some r)=some true:=by rw[xF];rfl
theorem je7 {r:List (List Input)}(h:rvl r=0):r.length<=4096:=by
 unfold rvl at h
 by_cases h2:4096<r.length
 ·rw[if_pos h2]at h;cases h
 ·omega
theorem KA {α:Type}(r:List (List α))(i:Nat):r.getD i []∈r\/r.getD i []=[]:=by
 rw[List.getD_eq_getElem?_getD]
 cases h:r[i]? with
 |none=>exact .inr rfl
 |some x=>exact .inl (List.mem_of_getElem? h)
theorem pP (r:List (List Input)):rvl r=0↔r.length<=4096/\∀i,(r.getD i []).length<=32/\(r.getD i []).all okV=true:=by
 have hm:∀{p:List Input->Bool},p []=true->(r.all p=true↔∀i,p (r.getD i [])=true):=by
  intro p hp
  rw[List.all_eq_true]
  constructor
  ·intro h i
   rcases KA r i with hi|hi
   ·exact h _ hi
   ·rw[hi];exact hp
  ·intro h x hx
   obtain⟨i,hi⟩:=List.mem_iff_getElem?.1 hx
   have:=h i
   rw[List.getD_eq_getElem?_getD,hi]at this
   exact this
 unfold rvl
 by_cases h:4096<r.length
 ·rw[if_pos h];constructor
  ·intro e;cases e
  ·intro e;omega
 ·rw[if_neg h]
  by_cases h1:r.all (fun f=>decide (f.length<=32))=true
  ·rw[if_pos h1]
   have g1:=(hm (p:=fun f=>decide (f.length<=32)) rfl).1 h1
   by_cases h2:r.all (fun f=>f.all okV)=true
   ·rw[if_pos h2]
    have g2:=(hm (p:=fun f=>f.all okV) rfl).1 h2
    exact⟨fun _=>⟨by omega,fun i=>⟨of_decide_eq_true (g1 i),g2 i⟩⟩,fun _=>rfl⟩
   ·rw[if_neg h2]
    constructor
    ·intro e;cases e
    ·intro e;exact absurd ((hm (p:=fun f=>f.all okV) rfl).2 fun i=>(e.2 i).2) h2
  ·rw[if_neg h1]
   constructor
   ·intro e;cases e
   ·intro e;exact absurd ((hm (p:=fun f=>decide (f.length<=32)) rfl).2 fun i=>decide_eq_true (e.2 i).1) h1
def I64 (n:Int):Prop:=IntKind.i64.min<=n/\n<=IntKind.i64.max
theorem fil (n:Int)(h:I64 n):(yv n).length<=20:=(uu n h.1 h.2).1
theorem Vh (n:Int)(h:I64 n):(YH n).length<=21:=by
 unfold YH
 split
 ·rw[List.length_append]
  have h1:=h.1;have h2:=h.2
  rw[Vf]at h1;rw[Vg]at h2
  have hq:(n.tdiv 65536).natAbs=n.natAbs / 65536:=by rw[Int.natAbs_tdiv];rfl
  have:=fil (n.tdiv 65536) ⟨by rw[Vf];omega,by rw[Vg];omega⟩
  simp;omega
 ·have:=fil n h;omega
noncomputable def wdv (k:Int):List UInt8:=(jm k).getD []
theorem MG (k:Int):jm k=some (wdv k):=by
 have:∃s,jm k=some s:=by
  unfold jm
  simp only[JD,ZG]
  exact⟨_,rfl⟩
 obtain⟨s,hs⟩:=this
 unfold wdv;rw[hs];rfl
theorem jeW (k:Int):(wdv k).length<=20:=by
 have h:=MG k
 unfold jm at h
 simp only[JD]at h
 repeat' split at h
 all_goals (have h:=Option.some.inj h;rw[<-h];decide)
noncomputable def usd (k:Int):Bool × Bool × Bool:=(jT k).getD (false,false,false)
theorem ML (k:Int):jT k=some (usd k):=by
 have:∃u,jT k=some u:=by
  unfold jT
  simp only[JD,QQ,ZG]
  exact⟨_,rfl⟩
 obtain⟨s,hs⟩:=this
 unfold usd;rw[hs];rfl
noncomputable def uv (x:Input):List (List UInt8):=[wdv x.Kind,yv x.ID]++((if(usd x.Kind).2.1=true then[YH x.Vec.X,YH x.Vec.Y]else[])++(if(usd x.Kind).2.2=true then[YH x.Value]else[]))
structure Ij (x:Input):Prop where
 id:I64 x.ID
 vx:I64 x.Vec.X
 vy:I64 x.Vec.Y
 vv:I64 x.Value
noncomputable def Zc (x:Input):List UInt8:=Lib.join (uv x) [32]
theorem Py (x:Input)(h:Ij x):(uv x).length<=5/\∀p∈uv x,p.length<=21:=by
 unfold uv
 refine⟨?_,?_⟩
 ·rw[List.length_append,List.length_append];split <;> split <;> simp
 ·intro p hp
  rcases List.mem_append.1 hp with hp|hp
  ·simp at hp
   rcases hp with rfl|rfl
   ·have:=jeW x.Kind;omega
   ·have:=fil _ h.id;omega
  ·rcases List.mem_append.1 hp with hp|hp
   ·split at hp
    ·simp at hp
     rcases hp with rfl|rfl
     ·exact Vh _ h.vx
     ·exact Vh _ h.vy
    ·cases hp
   ·split at hp
    ·simp at hp;subst hp;exact Vh _ h.vv
    ·cases hp
theorem wY (x:Input)(h:Ij x):(Zc x).length<=110:=by
 obtain⟨h1,h2⟩:=Py x h
 have:=jdk (uv x) 21 h2
 unfold Zc
 omega
theorem jc1 (x:Input)(h:Ij x):Yf x=some (Zc x):=by
 have hl:=wY x h
 unfold Yf
 rw[MG,jG,kM _ h.id.1 h.id.2,jG,ML,jG]
 simp only[QQ]
 have hJ:∀l,l=uv x->(Rx.Bind (Yw l) fun r271=>some r271)=some (Zc x):=by
  intro l e
  subst e
  rw[UD _ (by have:=(Py x h).1;omega) (by unfold Zc at hl;omega)];rfl
 unfold uv at hJ
 cases h1:(usd x.Kind).2.1 <;> cases h2:(usd x.Kind).2.2 <;> simp only[h1,h2,if_true,if_false,Bool.false_eq_true,List.append_nil,List.nil_append]at hJ⊢
 ·exact hJ _ rfl
 ·rw[YR _ h.vv.1 h.vv.2,jG,jV (by simp)]
  exact hJ _ rfl
 ·rw[YR _ h.vx.1 h.vx.2,jG,YR _ h.vy.1 h.vy.2,jG,jV (by simp)]
  exact hJ _ rfl
 ·rw[YR _ h.vx.1 h.vx.2,jG,YR _ h.vy.1 h.vy.2,jG,jV (by simp)]
  show Rx.Bind _ _=_
  rw[YR _ h.vv.1 h.vv.2,jG,jV (by simp)]
  exact hJ _ rfl
noncomputable def okK (x:Input):Bool:=decide (wdv x.Kind≠[])
noncomputable def frT (f:List Input):List UInt8:=[102,114,97,109,101,10]++f.flatMap (fun x=>Zc x++[10])
noncomputable def mD (r:List (List Input)):List UInt8:=r.flatMap frT
noncomputable def jdz (r:List (List Input)):List UInt8 × Int:=if rvl r≠0 then([],25)else if r.all (fun f=>f.all okK)=true then(mD r,0)else([],25)
def IOR (r:List (List Input)):Prop:=∀f∈r,∀x∈f,Ij x
theorem jbC {α β:Type}(g:α->List β)(n:Nat):∀(l:List α),(∀a∈l,(g a).length<=n)->(l.flatMap g).length<=l.length*n
 | [],_=>by simp
 |a::l,h=>by
  have h1:=jbC g n l (fun b hb=>h b (List.mem_cons_of_mem _ hb))
  have h2:=h a (List.mem_cons_self ..)
  rw[List.flatMap_cons,List.length_append,List.length_cons,Nat.add_mul];omega
theorem jgU {r:List (List Input)}(h:rvl r=0){f:List Input}(hf:f∈r):f.length<=32:=by
 obtain⟨i,hi⟩:=List.mem_iff_getElem?.1 hf
 have:=((pP r).1 h).2 i
 rw[List.getD_eq_getElem?_getD,hi]at this
 exact this.1
noncomputable def fG {X:Type}(k:List UInt8->Option X)(bad:Option X)(t:List Input)(s:List UInt8):Option X:=if t.all okK=true then k (s++t.flatMap (fun x=>Zc x++[10]))else bad
noncomputable def rG (t:List (List Input))(s:List UInt8):Option (List UInt8 × Int):=if t.all (fun f=>f.all okK)=true then some (s++mD t,0)else some ([],25)
theorem jgW (s:List UInt8):rG [] s=some (s,0):=by unfold rG mD;simp
theorem jff (f:List Input)(t:List (List Input))(s:List UInt8):fG (fun s'=>rG t s') (some ([],25)) f (s++[102,114,97,109,101,10])=rG (f::t) s:=by
 unfold fG rG mD
 rw[List.all_cons,List.flatMap_cons]
 cases f.all okK
 ·rfl
 ·simp only[if_true,Bool.true_and]
  unfold frT
  simp only[List.append_assoc]
theorem jgg {X:Type}(k:List UInt8->Option X)(bad:Option X)(x:Input)(t:List Input)(s:List UInt8):fG k bad (x::t) s=if wdv x.Kind=[]then bad else fG k bad t (s++(Zc x++[10])):=by
 unfold fG okK
 rw[List.all_cons,List.flatMap_cons]
 by_cases h:wdv x.Kind=[]
 ·rw[if_pos h];simp[h]
 ·rw[if_neg h];simp only[h,ne_eq,not_false_eq_true,decide_true,Bool.true_and,List.append_assoc]
theorem jaA (r:List (List Input))(ho:IOR r):yA r=some (jdz r):=by
 unfold yA jdz
 rw[wQ,jG]
 simp only[JD]
 by_cases h2:rvl r≠0
 ·rw[if_pos h2,if_pos (by simpa using h2)]
 ·rw[if_neg h2,if_neg (by simpa using h2)]
  have h0:rvl r=0:=by omega
  have hl:=je7 h0
  have key:rG r []=some (if r.all (fun f=>f.all okK)=true then(mD r,0)else([],25)):=by
   unfold rG;rw[List.nil_append];split <;> rfl
  rw[<-key]
  refine mo r (fun i s=>s.length<=i*4000) (fun t _ s=>rG t s) _ [] (Zy hl (by decide)) (by simp) ?_ ?_
  ·intro q i t s hs hw hc hm hr
   have hfm:=Wc r (i:Int) hc
   have hf32:=jgU h0 hfm
   simp only
   rw[if_pos (dlt hc),jV hc,jV (by omega),<-jff]
   refine mo (ix r (i:Int)) (fun j s'=>s'.length<=i*4000+6+j*111) (fun t' _ s'=>fG (fun s''=>rG t s'') (some ([],25)) t' s') _ _ (Zy (n:=32) hf32 (by decide)) (by simp;omega) ?_ ?_
   ·intro q2 j t2 s2 hs2 hw2 hd hm2 hr2
    have hio:=ho _ hfm _ hm2
    have hll:=wY _ hio
    simp only
    rw[if_pos (dlt hd),jV hd,MG,jG,jgg]
    by_cases hwd:wdv (ix (ix r (i:Int)) (j:Int)).Kind=[]
    ·rw[if_pos hwd,if_pos (by rw[hwd];rfl)]
    ·rw[if_neg hwd,if_neg (by simpa using hwd),jc1 _ hio,jG,jV (by omega),jV (by simp only[List.length_append];simp;omega),hw2]
     exact hr2 _ (by simp only[List.length_append];simp;omega)
   ·intro q2 s2 hs2
    simp only
    rw[dll,if_neg (by simp),hw,hr s2 (by rw[Nat.add_mul];omega)]
    unfold fG;simp
  ·intro q s hs
   simp only
   rw[dll,if_neg (by simp),jgW]
theorem MX (c:UInt8):∀(l:List UInt8),∀p∈spl c l,p.length<=l.length
 | [],p,hp=>by simp[spl]at hp;subst hp;simp
 |x :: l,p,hp=>by
  have ih:=MX c l
  rw[Qt]at hp
  split at hp
  ·rcases List.mem_cons.1 hp with rfl|hp
   ·simp
   ·have:=ih p hp;simp;omega
  ·split at hp
   ·simp at hp;subst hp;simp
   ·rename_i q qs hq
    rcases List.mem_cons.1 hp with rfl|hp
    ·have:=ih q (by rw[hq];exact List.mem_cons_self ..);simp;omega
    ·have:=ih p (by rw[hq];exact List.mem_cons_of_mem _ hp);simp;omega
theorem kq9:wdv 9=[]:=by kernel_rfl
theorem jhZ:wdv 11=[]:=by kernel_rfl
def xf:Nat->List (List UInt8)->Option (List Int)
 |_,[]=>some []
 |i,s::t=>if(if i=0 then mO s else Pc s).2≠0 then none else match xf (i+1) t with
  |none=>none
  |some l=>some ((if i=0 then mO s else Pc s).1::l)
theorem jaL:∀(t:List (List UInt8)) (i:Nat),(∀s∈t,Sm s)->KY jt jl i t=some (xf i t)
 | [],i,_=>rfl
 |s :: t,i,h=>by
  have ih:=jaL t (i+1) (fun q hq=>h q (List.mem_cons_of_mem _ hq))
  have hs:=h s (List.mem_cons_self ..)
  have e:(if i=0 then jt s else jl s)=some (if i=0 then mO s else Pc s):=by
   rw[pq s hs,UC s hs];split <;> rfl
  rw[KY,e,xf]
  generalize (if i=0 then mO s else Pc s)=q
  obtain⟨n,c⟩:=q
  dsimp only
  by_cases hc:c≠0
  ·rw[if_pos hc,if_pos hc]
  ·rw[if_neg hc,if_neg hc,ih]
   cases xf (i+1) t <;> rfl
def jfA (kind:Int)(u:Bool × Bool × Bool)(rest:List (List UInt8)):Input × Bool:=
 if kind=0\/rest.length≠(WT u.2.1 u.2.2).length then(qu 0 false false [],false)
 else match xf 0 rest with
  |none=>(qu 0 false false [],false)
  |some l=>(qu kind u.2.1 u.2.2 l,true)
noncomputable def uj (fs:List (List UInt8)):Input × Bool:=jfA (qV jm (fs.headD []) 12) (usd (qV jm (fs.headD []) 12)) fs.tail
theorem jfy (fs:List (List UInt8))(hne:fs≠[])(hs:∀s∈fs,Sm s):jP fs=some (uj fs):=by
 cases fs with
 |nil=>exact absurd rfl hne
 |cons f0 rest=>
  show wL jm jT jt jl (f0::rest)=_
  show _=some (jfA (qV jm f0 12) (usd (qV jm f0 12)) rest)
  unfold wL jfA
  dsimp only
  rw[ML,jaL rest 0 (fun s h=>hs s (List.mem_cons_of_mem _ h))]
  dsimp only
  by_cases hc:qV jm f0 12=0\/rest.length≠(WT (usd (qV jm f0 12)).2.1 (usd (qV jm f0 12)).2.2).length
  ·exact(if_pos hc).trans (congrArg some (if_pos hc).symm)
  ·refine(if_neg hc).trans (Eq.trans ?_ (congrArg some (if_neg hc).symm))
   cases xf 0 rest <;> rfl
noncomputable def vq:List (List UInt8)->Nat->List (List Input)->List (List Input) × Nat
 | [],_,r=>(r,0)
 |line::t,i,r=>if(JM line).2≠0\/(JM line).1=[]then([],i+1)else if line=zp then vq t (i+1) (r++[[]])
   else if(uj (JM line).1).2=false\/r=[]then([],i+1)else vq t (i+1) (r.set (r.length - 1) (r.getD (r.length - 1) []++[(uj (JM line).1).1]))
theorem jhq {l p:List UInt8}(h:p∈(JM l).1):p.length<=l.length:=by
 unfold JM at h
 split at h
 ·cases h
 ·split at h
  ·exact MX 32 l p h
  ·cases h
theorem xe:∀(L:List (List UInt8)) (i:Nat) (r:List (List Input)),(∀l∈L,l.length<=100000)->Yt Jv jP L i r=some (vq L i r)
 | [],i,r,_=>rfl
 |line::t,i,r,h=>by
  have hl:=h line (List.mem_cons_self ..)
  have ih:=fun i r=>xe t i r (fun l hl=>h l (List.mem_cons_of_mem _ hl))
  rw[Yt,vq,jct line (by omega)]
  dsimp only
  by_cases h1:(JM line).2≠0\/(JM line).1=[]
  ·rw[if_pos h1,if_pos h1]
  ·rw[if_neg h1,if_neg h1]
   by_cases h2:line=zp
   ·rw[if_pos h2,if_pos h2,ih]
   ·rw[if_neg h2,if_neg h2,jfy _ (fun e=>h1 (.inr e)) (fun s hs=>Zy (n:=100000) (by have:=jhq hs;omega) (by decide))]
    dsimp only
    by_cases h3:(uj (JM line).1).2=false\/r=[]
    ·rw[if_pos h3,if_pos h3]
    ·rw[if_neg h3,if_neg h3,ih]
theorem jhp {l p:List UInt8}(h:p∈(Qz l).1):p.length<=l.length:=by
 unfold Qz at h
 split at h
 ·cases h
 ·split at h
  ·have:=MX 10 l.dropLast p h
   rw[List.length_dropLast]at this;omega
  ·cases h
theorem jeg (l:List UInt8):(Qz l).1.length<=l.length+1:=by
 unfold Qz
 split
 ·simp
 ·split
  ·show(spl 10 l.dropLast).length<=_
   rw[vS];have:=List.count_le_length (a:=(10:UInt8)) (l:=l.dropLast);rw[List.length_dropLast]at this;omega
  ·simp
noncomputable def jgf (y:List (List Input) × Nat):List (List Input) × Int × Int:=if y.2≠0 then([],(y.2:Int),27)else if rvl y.1≠0 then([],0,25)else(y.1,0,0)
noncomputable def Kj (s:List UInt8):List (List Input) × Int × Int:=if(Qz s).2≠0 then([],0,(Qz s).2)else jgf (vq (Qz s).1 0 [])
theorem xd (s:List UInt8)(h:s.length<=90000):yx s=some (Kj s):=by
 show kr JW Jv jP jy s=_
 unfold kr Kj jgf
 rw[UB s (by omega)]
 dsimp only
 by_cases h1:(Qz s).2≠0
 ·rw[if_pos h1,if_pos h1]
 ·have hn:=jeg s
  rw[if_neg h1,if_neg h1,if_pos (by omega),xe _ _ _ (fun l hl=>by have:=jhp hl;omega)]
  dsimp only
  by_cases h2:(vq (Qz s).1 0 []).2≠0
  ·rw[if_pos h2,if_pos h2]
  ·rw[if_neg h2,if_neg h2,wQ]
   dsimp only
   split <;> rfl
def ExB (r:List (List Input)):Prop:=∀f∈r,∀x∈f,x.Body=exB
theorem jaF (fs:List (List UInt8)):(uj fs).1.Body=exB:=by
 unfold uj jfA
 split
 ·rfl
 ·split <;> rfl
theorem Xy:∀(t:List (List UInt8)) (i:Nat) (r:List (List Input)),ExB r->r.length<=i->(∀f∈r,f.length<=i)->ExB (vq t i r).1/\(vq t i r).1.length<=i+t.length/\∀f∈(vq t i r).1,f.length<=i+t.length
 | [],i,r,h1,h2,h3=>⟨h1,h2,h3⟩
 |line :: t,i,r,h1,h2,h3=>by
  have nil:ExB ([]:List (List Input))/\([]:List (List Input)).length<=i+(line::t).length/\∀f∈([]:List (List Input)),f.length<=i+(line::t).length:=⟨fun f hf=>(by cases hf),by simp,fun f hf=>(by cases hf)⟩
  rw[vq]
  by_cases c1:(JM line).2≠0\/(JM line).1=[]
  ·rw[if_pos c1];exact nil
  ·rw[if_neg c1]
   by_cases c2:line=zp
   ·rw[if_pos c2]
    have:=Xy t (i+1) (r++[[]]) (fun f hf x hx=>by
     rcases List.mem_append.1 hf with hf|hf
     ·exact h1 f hf x hx
     ·simp at hf;subst hf;cases hx) (by rw[List.length_append];simp;omega) (fun f hf=>by
     rcases List.mem_append.1 hf with hf|hf
     ·have:=h3 f hf;omega
     ·simp at hf;subst hf;simp)
    rw[List.length_cons]
    have e:i+(t.length+1)=i+1+t.length:=by omega
    rw[e];exact this
   ·rw[if_neg c2]
    by_cases c3:(uj (JM line).1).2=false\/r=[]
    ·rw[if_pos c3];exact nil
    ·rw[if_neg c3]
     have hlast:∀x∈r.getD (r.length - 1) [],x.Body=exB:=by
      intro x hx
      rcases KA r (r.length - 1)with h|h
      ·exact h1 _ h x hx
      ·rw[h]at hx;cases hx
     have hll:(r.getD (r.length - 1) []).length<=i:=by
      rcases KA r (r.length - 1)with h|h
      ·exact h3 _ h
      ·rw[h];simp
     have:=Xy t (i+1) (r.set (r.length - 1) (r.getD (r.length - 1) []++[(uj (JM line).1).1])) (fun f hf x hx=>by
      rcases List.mem_or_eq_of_mem_set hf with hf|hf
      ·exact h1 f hf x hx
      ·rw[hf]at hx
       rcases List.mem_append.1 hx with hx|hx
       ·exact hlast x hx
       ·simp at hx;subst hx;exact jaF _) (by rw[List.length_set];omega) (fun f hf=>by
      rcases List.mem_or_eq_of_mem_set hf with hf|hf
      ·have:=h3 f hf;omega
      ·rw[hf,List.length_append,List.length_cons,List.length_nil];omega)
     rw[List.length_cons]
     have e:i+(t.length+1)=i+1+t.length:=by omega
     rw[e];exact this
theorem jaK (s:List UInt8)(h:s.length<=90000):OkR (Kj s).1:=by
 have hn:=jeg s
 have hnil:OkR []:=⟨by simp,fun f hf=>(by cases hf)⟩
 obtain⟨k1,k2,k3⟩:=Xy (Qz s).1 0 [] (fun f hf=>(by cases hf)) (by simp) (fun f hf=>(by cases hf))
 unfold Kj jgf
 split
 ·exact hnil
 ·split
  ·exact hnil
  ·split
   ·exact hnil
   ·refine⟨by show(vq (Qz s).1 0 []).1.length<=_;omega,fun f hf=>⟨by have:=k3 f hf;omega,fun x hx=>?_⟩⟩
    rw[k1 f hf x hx]
    exact⟨by decide,fun f hf=>(by cases hf)⟩
end GoForm
end
