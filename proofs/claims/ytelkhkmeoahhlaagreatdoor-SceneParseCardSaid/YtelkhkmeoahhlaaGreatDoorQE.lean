/-
  Plain lemmas on loops that go over a list, and on checks: the list's own recursion is what the loop computes. No conditions.
-/
import Derived.Test.YtelkhkmeoahhlaaGreatDoorQD
set_option linter.all false
namespace Go.Rx
theorem jI {V ρ:Type}(K:V->Option ρ)(b:(V->Option ρ)->Option ρ):Join K b=b K:=Eq.trans (by rfl) (Eq.refl _)
theorem jj {β X:Type}(v:β)(k:β->X):Let v k=k v:=Eq.trans (by rfl) (Eq.refl _)
theorem jb {α β:Type}(x:α)(k:α->Option β):Bind (some x) k=k x:=Eq.trans (by rfl) (Eq.refl _)
theorem jz {α β:Type}{p:Prop}[Decidable p](a d:α)(k:α->Option β):Bind (if p then some a else some d) k=k (if p then a else d):=by by_cases h:p <;> simp[h]
theorem gd1 (c a d:Bool):(bif c then(if(c==true)=true then a else d)else false)=(bif c then a else false):=by cases c <;> rfl
theorem gd2 (c a d:Bool):(bif c then true else(if(c==false)=true then a else d))=(bif c then true else a):=by cases c <;> rfl
theorem gd3 (c a d:Bool):(bif c then true else !(if(c==false)=true then a else d))=(bif c then true else !a):=by cases c <;> rfl
theorem gd4 (c a d:Bool):(bif c then !(if(c==true)=true then a else d)else false)=(bif c then !a else false):=by cases c <;> rfl
theorem gd5 (c:Bool)(a d k:Int):(bif c then((if(c==true)=true then a else d) != k)else false)=(bif c then(a != k)else false):=by cases c <;> rfl
theorem gd6 (c:Bool)(a d k:Int):(bif c then decide ((if(c==true)=true then a else d)<k)else false)=(bif c then decide (a<k)else false):=by cases c <;> rfl
theorem ga1 (c a d:Bool):(c&&(if(c==true)=true then a else d))=(c&&a):=by cases c <;> rfl
theorem ga2 (c a d:Bool):(c||(if(c==false)=true then a else d))=(c||a):=by cases c <;> rfl
theorem ga3 (c a d:Bool):(c|| !(if(c==false)=true then a else d))=(c|| !a):=by cases c <;> rfl
theorem ga4 (c a d:Bool):(c && !(if(c==true)=true then a else d))=(c && !a):=by cases c <;> rfl
theorem ga5 (c:Bool)(a d:Int):(c||decide (0<=(if(c==false)=true then a else d)))=(c||decide (0<=a)):=by cases c <;> rfl
theorem ga8 (c e:Bool)(a d:Int):(c&&(e||decide (0<=(if(c==true&&e==false)=true then a else d))))=(c&&(e||decide (0<=a))):=by cases c <;> cases e <;> rfl
theorem ga9 (c e f a d:Bool):(c||(e&&(!(if(c==false&&e==true)=true then a else d)||f)))=(c||(e&&(!a||f))):=by cases c <;> cases e <;> rfl
def Sm {α:Type}(l:List α):Prop:=l.length<2 ^ 62
theorem vk {α:Type}{l:List α}{n:Nat}(h:l.length<=n)(hn:n<2 ^ 62):Sm l:=Nat.lt_of_le_of_lt h hn
theorem jb1 (i:Nat)(h:i<2 ^ 62):IntKind.i64.wrap ((i:Int)+1)=(i:Int)+1:=Yh _ (by omega) (by omega)
theorem jd1 {α X:Type}[Inhabited α](l:List α)(G:List α->Nat->Option X)(step:(Int->Option X)->Int->Option X)(hl:Sm l)
 (hs:∀(r:Int->Option X) (i:Nat) (t:List α),IntKind.i64.wrap ((i:Int)+1)=(i:Int)+1->(0<=(i:Int)/\(i:Int)<(l.length:Int))->ix l (i:Int)∈l->r ((i:Int)+1)=G t (i+1)->step r (i:Int)=G (ix l (i:Int)::t) i)
 (he:∀(r:Int->Option X),step r (l.length:Int)=G [] l.length):∀(n i:Nat),i<=l.length->l.length - i<n->Yg step n (i:Int)=G (l.drop i) i
 |0,i,_,h=>by omega
 |n + 1,i,h1,h2=>by
  rw[kY]
  by_cases h:i<l.length
  ·rw[Ke l i h]
   exact hs _ i _ (jb1 i (by unfold Sm at hl;omega)) ⟨by omega,by omega⟩ (Xt l _ ⟨by omega,by omega⟩) (jd1 l G step hl hs he n (i+1) (by omega) (by omega))
  ·have e:i=l.length:=by omega
   subst e;rw[he,List.drop_length]
theorem Zw {α X:Type}[Inhabited α](l:List α)(G:List α->Nat->Option X)(step:(Int->Option X)->Int->Option X)(hl:Sm l)
 (hs:∀(r:Int->Option X) (i:Nat) (t:List α),IntKind.i64.wrap ((i:Int)+1)=(i:Int)+1->(0<=(i:Int)/\(i:Int)<(l.length:Int))->ix l (i:Int)∈l->r ((i:Int)+1)=G t (i+1)->step r (i:Int)=G (ix l (i:Int)::t) i)
 (he:∀(r:Int->Option X),step r (l.length:Int)=G [] l.length):Yg step fuel (0:Int)=G l 0:=
 jd1 l G step hl hs he fuel 0 (Nat.zero_le _) (Nat.lt_trans (Nat.lt_of_le_of_lt (Nat.sub_le _ _) hl) (by unfold fuel;decide))
theorem jd0 {α σ X:Type}[Inhabited α](l:List α)(G:List α->Nat->σ->Option X)(step:(σ × Int->Option X)->σ × Int->Option X)(hl:Sm l)
 (hs:∀(r:σ × Int->Option X) (i:Nat) (t:List α) (s:σ),IntKind.i64.wrap ((i:Int)+1)=(i:Int)+1->(0<=(i:Int)/\(i:Int)<(l.length:Int))->ix l (i:Int)∈l->(∀s,r (s,(i:Int)+1)=G t (i+1) s)->step r (s,(i:Int))=G (ix l (i:Int)::t) i s)
 (he:∀(r:σ × Int->Option X) (s:σ),step r (s,(l.length:Int))=G [] l.length s):∀(n i:Nat) (s:σ),i<=l.length->l.length - i<n->Yg step n (s,(i:Int))=G (l.drop i) i s
 |0,i,s,_,h=>by omega
 |n + 1,i,s,h1,h2=>by
  rw[kY]
  by_cases h:i<l.length
  ·rw[Ke l i h]
   exact hs _ i _ s (jb1 i (by unfold Sm at hl;omega)) ⟨by omega,by omega⟩ (Xt l _ ⟨by omega,by omega⟩) (fun s=>jd0 l G step hl hs he n (i+1) s (by omega) (by omega))
  ·have e:i=l.length:=by omega
   subst e;rw[he,List.drop_length]
theorem PI {α σ X:Type}[Inhabited α](l:List α)(G:List α->Nat->σ->Option X)(step:(σ × Int->Option X)->σ × Int->Option X)(s0:σ)(hl:Sm l)
 (hs:∀(r:σ × Int->Option X) (i:Nat) (t:List α) (s:σ),IntKind.i64.wrap ((i:Int)+1)=(i:Int)+1->(0<=(i:Int)/\(i:Int)<(l.length:Int))->ix l (i:Int)∈l->(∀s,r (s,(i:Int)+1)=G t (i+1) s)->step r (s,(i:Int))=G (ix l (i:Int)::t) i s)
 (he:∀(r:σ × Int->Option X) (s:σ),step r (s,(l.length:Int))=G [] l.length s):Yg step fuel (s0,(0:Int))=G l 0 s0:=
 jd0 l G step hl hs he fuel 0 s0 (Nat.zero_le _) (Nat.lt_trans (Nat.lt_of_le_of_lt (Nat.sub_le _ _) hl) (by unfold fuel;decide))
theorem jdZ {α σ X:Type}[Inhabited α](l:List α)(G:List α->Nat->σ->Option X)(step:(Int × σ->Option X)->Int × σ->Option X)(hl:Sm l)
 (hs:∀(r:Int × σ->Option X) (i:Nat) (t:List α) (s:σ),IntKind.i64.wrap ((i:Int)+1)=(i:Int)+1->(0<=(i:Int)/\(i:Int)<(l.length:Int))->ix l (i:Int)∈l->(∀s,r ((i:Int)+1,s)=G t (i+1) s)->step r ((i:Int),s)=G (ix l (i:Int)::t) i s)
 (he:∀(r:Int × σ->Option X) (s:σ),step r ((l.length:Int),s)=G [] l.length s):∀(n i:Nat) (s:σ),i<=l.length->l.length - i<n->Yg step n ((i:Int),s)=G (l.drop i) i s
 |0,i,s,_,h=>by omega
 |n + 1,i,s,h1,h2=>by
  rw[kY]
  by_cases h:i<l.length
  ·rw[Ke l i h]
   exact hs _ i _ s (jb1 i (by unfold Sm at hl;omega)) ⟨by omega,by omega⟩ (Xt l _ ⟨by omega,by omega⟩) (fun s=>jdZ l G step hl hs he n (i+1) s (by omega) (by omega))
  ·have e:i=l.length:=by omega
   subst e;rw[he,List.drop_length]
theorem jlI {α σ X:Type}[Inhabited α](l:List α)(G:List α->Nat->σ->Option X)(step:(Int × σ->Option X)->Int × σ->Option X)(s0:σ)(hl:Sm l)
 (hs:∀(r:Int × σ->Option X) (i:Nat) (t:List α) (s:σ),IntKind.i64.wrap ((i:Int)+1)=(i:Int)+1->(0<=(i:Int)/\(i:Int)<(l.length:Int))->ix l (i:Int)∈l->(∀s,r ((i:Int)+1,s)=G t (i+1) s)->step r ((i:Int),s)=G (ix l (i:Int)::t) i s)
 (he:∀(r:Int × σ->Option X) (s:σ),step r ((l.length:Int),s)=G [] l.length s):Yg step fuel ((0:Int),s0)=G l 0 s0:=
 jdZ l G step hl hs he fuel 0 s0 (Nat.zero_le _) (Nat.lt_trans (Nat.lt_of_le_of_lt (Nat.sub_le _ _) hl) (by unfold fuel;decide))
theorem jhA {α σ X:Type}[Inhabited α](l:List α)(P:Nat->σ->Prop)(G:List α->Nat->σ->Option X)(step:(σ × Int->Option X)->σ × Int->Option X)(hl:Sm l)
 (hs:∀(r:σ × Int->Option X) (i:Nat) (t:List α) (s:σ),P i s->IntKind.i64.wrap ((i:Int)+1)=(i:Int)+1->(0<=(i:Int)/\(i:Int)<(l.length:Int))->ix l (i:Int)∈l->(∀s,P (i+1) s->r (s,(i:Int)+1)=G t (i+1) s)->step r (s,(i:Int))=G (ix l (i:Int)::t) i s)
 (he:∀(r:σ × Int->Option X) (s:σ),P l.length s->step r (s,(l.length:Int))=G [] l.length s):∀(n i:Nat) (s:σ),P i s->i<=l.length->l.length - i<n->Yg step n (s,(i:Int))=G (l.drop i) i s
 |0,i,s,_,_,h=>by omega
 |n + 1,i,s,hp,h1,h2=>by
  rw[kY]
  by_cases h:i<l.length
  ·rw[Ke l i h]
   exact hs _ i _ s hp (jb1 i (by unfold Sm at hl;omega)) ⟨by omega,by omega⟩ (Xt l _ ⟨by omega,by omega⟩) (fun s hp=>jhA l P G step hl hs he n (i+1) s hp (by omega) (by omega))
  ·have e:i=l.length:=by omega
   subst e;rw[he _ _ hp,List.drop_length]
theorem jjY {α σ X:Type}[Inhabited α](l:List α)(P:Nat->σ->Prop)(G:List α->Nat->σ->Option X)(step:(σ × Int->Option X)->σ × Int->Option X)(s0:σ)(hl:Sm l)(h0:P 0 s0)
 (hs:∀(r:σ × Int->Option X) (i:Nat) (t:List α) (s:σ),P i s->IntKind.i64.wrap ((i:Int)+1)=(i:Int)+1->(0<=(i:Int)/\(i:Int)<(l.length:Int))->ix l (i:Int)∈l->(∀s,P (i+1) s->r (s,(i:Int)+1)=G t (i+1) s)->step r (s,(i:Int))=G (ix l (i:Int)::t) i s)
 (he:∀(r:σ × Int->Option X) (s:σ),P l.length s->step r (s,(l.length:Int))=G [] l.length s):Yg step fuel (s0,(0:Int))=G l 0 s0:=
 jhA l P G step hl hs he fuel 0 s0 h0 (Nat.zero_le _) (Nat.lt_trans (Nat.lt_of_le_of_lt (Nat.sub_le _ _) hl) (by unfold fuel;decide))
def idx {α:Type}(f:α->Bool):List α->Nat->Int
 | [],_ => -1
 |a::l,i=>if f a=true then(i:Int)else idx f l (i+1)
theorem jjy {α:Type}(f:α->Bool):∀(l:List α) (i:Nat),idx f l i = -1\/((i:Int)<=idx f l i/\idx f l i<(i:Int)+(l.length:Int))
 | [],i=>Or.inl rfl
 |a::l,i=>by
  unfold idx
  split
  ·right;simp;omega
  ·have:=jjy f l (i+1);simp only[List.length_cons];omega
theorem MW {α:Type}(f:α->Bool):∀(l:List α) (i:Nat),decide (0<=idx f l i)=l.any f
 | [],i=>rfl
 |a::l,i=>by
  unfold idx
  by_cases h:f a=true
  ·rw[if_pos h];simp[h]
  ·rw[if_neg h,MW f l (i+1)];simp[h]
theorem dlt {i n:Int}(h:0<=i/\i<n):decide (i<n)=true:=decide_eq_true h.2
theorem dll (n:Int):decide (n<n)=false:=decide_eq_false (Int.lt_irrefl n)
theorem ff:(false=true)=False:=eq_false (fun h=>Bool.noConfusion h)
end Go.Rx
namespace Go.Rx
theorem UR {α X:Type}[Inhabited α][DecidableEq α](l m:List α)(fin bad:Option X)(step:(Int->Option X)->Int->Option X)(hl:Sm l)(hlen:l.length=m.length)
 (hs:∀(r:Int->Option X) (i:Nat),IntKind.i64.wrap ((i:Int)+1)=(i:Int)+1->(0<=(i:Int)/\(i:Int)<(l.length:Int))->(0<=(i:Int)/\(i:Int)<(m.length:Int))->ix l (i:Int)∈l->step r (i:Int)=if ix l (i:Int)=ix m (i:Int)then r ((i:Int)+1)else bad)
 (he:∀(r:Int->Option X),step r (l.length:Int)=fin):Yg step fuel (0:Int)=if l=m then fin else bad:=by
 have:=Zw l (fun t i=>if t=m.drop i then fin else bad) step hl ?_ ?_
 ·simpa using this
 ·intro r i t hw hc hm hr
  have hc2:0<=(i:Int)/\(i:Int)<(m.length:Int):=by omega
  rw[hs r i hw hc hc2 hm,hr,Ke m i (by omega)]
  by_cases h:ix l (i:Int)=ix m (i:Int)
  ·simp[h]
  ·simp[h]
 ·intro r;rw[he,hlen,List.drop_length];simp
theorem ne_bne {a b:Int}:(a != b) = !decide (a=b):=by rw[Bool.eq_iff_iff];simp
end Go.Rx
namespace Go.Rx
theorem jhB {V α X:Type}[Inhabited α](l:List α)(pos:V->Int)(P:Nat->V->Prop)(G:List α->V->Option X)(step:(V->Option X)->V->Option X)(hl:Sm l)
 (hs:∀(r:V->Option X) (i:Nat) (t:List α) (v:V),pos v=(i:Int)->P i v->IntKind.i64.wrap ((i:Int)+1)=(i:Int)+1->(0<=(i:Int)/\(i:Int)<(l.length:Int))->ix l (i:Int)∈l->(∀v',pos v'=(i:Int)+1->P (i+1) v'->r v'=G t v')->step r v=G (ix l (i:Int)::t) v)
 (he:∀(r:V->Option X) (v:V),pos v=(l.length:Int)->P l.length v->step r v=G [] v):∀(n i:Nat) (v:V),pos v=(i:Int)->P i v->i<=l.length->l.length - i<n->Yg step n v=G (l.drop i) v
 |0,i,v,_,_,_,h=>by omega
 |n + 1,i,v,hv,hp,h1,h2=>by
  rw[kY]
  by_cases h:i<l.length
  ·rw[Ke l i h]
   exact hs _ i _ v hv hp (jb1 i (by unfold Sm at hl;omega)) ⟨by omega,by omega⟩ (Xt l _ ⟨by omega,by omega⟩) (fun v' hv' hp'=>jhB l pos P G step hl hs he n (i+1) v' (by omega) hp' (by omega) (by omega))
  ·have e:i=l.length:=by omega
   subst e;rw[he _ _ hv hp,List.drop_length]
theorem LOOP_g {V α X:Type}[Inhabited α](l:List α)(pos:V->Int)(P:Nat->V->Prop)(G:List α->V->Option X)(step:(V->Option X)->V->Option X)(v0:V)(hl:Sm l)(hv:pos v0=0)(hp:P 0 v0)
 (hs:∀(r:V->Option X) (i:Nat) (t:List α) (v:V),pos v=(i:Int)->P i v->IntKind.i64.wrap ((i:Int)+1)=(i:Int)+1->(0<=(i:Int)/\(i:Int)<(l.length:Int))->ix l (i:Int)∈l->(∀v',pos v'=(i:Int)+1->P (i+1) v'->r v'=G t v')->step r v=G (ix l (i:Int)::t) v)
 (he:∀(r:V->Option X) (v:V),pos v=(l.length:Int)->P l.length v->step r v=G [] v):Yg step fuel v0=G l v0:=
 jhB l pos P G step hl hs he fuel 0 v0 hv hp (Nat.zero_le _) (Nat.lt_trans (Nat.lt_of_le_of_lt (Nat.sub_le _ _) hl) (by unfold fuel;decide))
end Go.Rx
namespace Go.Rx
theorem pj {α X:Type}[Inhabited α](l:List α)(q:α->Bool)(fin bad:Option X)(step:(Int->Option X)->Int->Option X)(hl:Sm l)
 (hs:∀(r:Int->Option X) (i:Nat),IntKind.i64.wrap ((i:Int)+1)=(i:Int)+1->(0<=(i:Int)/\(i:Int)<(l.length:Int))->ix l (i:Int)∈l->step r (i:Int)=if q (ix l (i:Int))=true then r ((i:Int)+1)else bad)
 (he:∀(r:Int->Option X),step r (l.length:Int)=fin):Yg step fuel (0:Int)=if l.all q=true then fin else bad:=by
 refine Zw l (fun t _=>if t.all q=true then fin else bad) step hl ?_ ?_
 ·intro r i t hw hc hm hr
  rw[hs r i hw hc hm,hr,List.all_cons]
  cases q (ix l (i:Int)) <;> simp
 ·intro r;rw[he];rfl
end Go.Rx
