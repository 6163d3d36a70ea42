/- Several texts in one. No conditions. -/
import Derived.Test.YtffgldbihpgjgaaGreatDoorQD
import Derived.Lib.Bytealg
import Derived.Lib.Join
import Derived.Laws.IdiomArrays
import Derived.ProofKit
import Derived.Carry
import Derived.Below
import Derived.ChangeSame
import Derived.Deep.Slices
import Derived.OpenShut
section
set_option linter.all false
namespace Go.Rx
section
open Go.RowKit
variable [GlC]
def Join {V ρ:Type} (K:V->Option ρ) (b:(V->Option ρ)->Option ρ):Option ρ:=b K
def asgO:List Oper->List Nat
 | []=>[]
 | o::os=>match o.dst with | some d=>d::asgO os | none=>asgO os
def WV:Code->List Nat
 | .region _ ops _=>asgO ops.toList
 | .seq a b=>WV a++WV b
 | .cond _ a b=>WV a++WV b
 | .block _ a=>WV a
 | .loop a=>WV a
 | _=>[]
section
variable {tb:Tb}
def An.j:An tb->Option (JA tb)
 | .n=>none
 | .t j _ _=>j
def An.l:An tb->An tb
 | .n=>.n
 | .t _ a _=>a
def An.r:An tb->An tb
 | .n=>.n
 | .t _ _ b=>b
end
section
variable {P:Program} {tb:Tb} {ρ:Type} {cx:Ctx P tb}
def jaY (body:SLS tb->(Qs->SLS tb->Option ρ)->Option ρ):Nat->SLS tb->(Qs->SLS tb->Option ρ)->Option ρ
 | 0,_,_=>none
 | n+1,L,k=>body L fun e L'=>match e with
   | .normal=>jaY body n L' k
   | e=>k e L'
noncomputable def exec (cx:Ctx P tb) (I:Iln P tb ρ) (im:Nat->Bool) (bar:Nat->Nat) (N:Nat):Code->An tb->SLS tb->(Qs->SLS tb->Option ρ)->Option ρ
 | .skip,_,L,k=>k .normal L
 | .region id ops draw,_,L,k=>runR cx I im N draw (bar id) ops L (k .normal)
 | .seq a b,n,L,k=>(match n.j with
   | none=>exec cx I im bar N a n.l L fun e L'=>match e with
     | .normal=>exec cx I im bar N b n.r L' k
     | e=>k e L'
   | some A=>jcx L A.vars L fun L=>tst (wf L) <| Join (fun v=>exec cx I im bar N b n.r (stJ cx L (WV a) A v) k) fun J=>exec cx I im bar N a n.l L fun e L'=>match e with
     | .normal=>jcx L A.vars L' fun L2=>unJ cx L (WV a) A L2 J
     | e=>k e L')
 | .cond c a b,n,L,k=>got (opd L [] c) fun x=>(match x with
   | .con (.bool t)=>(match t with | true=>exec cx I im bar N a n.l L k | false=>exec cx I im bar N b n.r L k)
   | .bo t=>If t (exec cx I im bar N a n.l L k) (exec cx I im bar N b n.r L k)
   | _=>none)
 | .block id a,n,L,k=>exec cx I im bar N a n.l L fun e L'=>match e with
   | .exit j=>(match Nat.beq j id with | true=>k .normal L' | false=>k (.exit j) L')
   | e=>k e L'
 | .loop a,n,L,k=>(match n.j with
   | none=>jaY (fun L k=>exec cx I im bar N a n.l L k) 8 L k
   | some A=>jcx L A.vars L fun L=>tst (wf L) <| unJ cx L (WV a) A L fun v0=>qw (fun rec v=>exec cx I im bar N a n.l (stJ cx L (WV a) A v) fun e L'=>match e with
     | .normal=>jcx L A.vars L' fun L2=>unJ cx L (WV a) A L2 rec
     | e=>k e L') fuel v0)
 | .exit id,_,L,k=>k (.exit id) L
 | .ret,_,L,k=>k .ret L
 | _,_,_,_=>none
def EndOk (L:SLS tb) (k:Qs->SLS tb->Option ρ) (r:ρ) (e:Qs) (Lf:LS):Prop:=∃ L',k e L'=some r/\RI [] L'.e/\Ext L L'/\YN Lf L'.av
theorem Wp.post {P N c Q Q' L} (h:Wp P N c Q L) (hq:∀ e Lf,Q e Lf->∃ L2,YN Lf L2/\Q' e L2):Wp P N c Q' L:=
 fun _ _ _ _ _ _ _ s Qc hc=>h _ _ _ _ _ _ _ s Qc fun e L' a' w' m' bl' q s'=>
  let ⟨L2,t,q2⟩:=hq e L' q
  let ⟨_,_,s2⟩:=t _ _ _ _ _ _ _ _ s'
  hc e L2 a' w' _ _ q2 s2
theorem Qp {I:Iln P tb ρ} (hI:WL I) {im bar N}:∀ {c:Code} {n:An tb} {L:SLS tb} {k:Qs->SLS tb->Option ρ} {r},RI [] L.e->exec cx I im bar N c n L k=some r->Wp P N c (EndOk L k r) L.av
 | .skip,n,L,k,r,hi,h=>Wp.skip ⟨L,h,hi,.refl L,.refl _⟩
 | .region id ops draw,n,L,k,r,hi,h=>je8 hI hi (show runR cx I im N draw (bar id) ops L (k .normal)=some r from h) fun L' h' hi' x' L0 ht=>⟨L',h',hi',x',ht⟩
 | .exit id,n,L,k,r,hi,h=>Wp.exit ⟨L,h,hi,.refl L,.refl _⟩
 | .ret,n,L,k,r,hi,h=>Wp.ret ⟨L,h,hi,.refl L,.refl _⟩
 | .block id a,n,L,k,r,hi,h=>by
   refine Wp.block ((Qp hI (c:=a) hi (show exec cx I im bar N a n.l L _=some r from h)).mono ?_)
   rintro e Lf ⟨L',h',hi',x',ht⟩
   cases e with
   | normal=>exact ⟨L',h',hi',x',ht⟩
   | ret=>exact ⟨L',h',hi',x',ht⟩
   | exit j=>
     simp only [Qs.inBlock]
     have h':(match Nat.beq j id with | true=>k .normal L' | false=>k (.exit j) L')=some r:=h'
     split at h'
     ·rename_i hb
      rw [if_pos (Nat.eq_of_beq_eq_true hb)]
      exact ⟨L',h',hi',x',ht⟩
     ·rename_i hb
      rw [if_neg (fun he=>by subst he;rw [Nat.beq_refl] at hb;cases hb)]
      exact ⟨L',h',hi',x',ht⟩
 | .cond c a b,n,L,k,r,hi,h=>by
   obtain ⟨x,hx,h2⟩:=jg (show got (opd L [] c) _=some r from h)
   clear h
   have hy:=jY (Gu.nil hi.inv) hx
   cases x with
   | con v=>
     cases v with
     | bool t=>
       cases t with
       | true=>exact Wp.cond (t:=true) hy (fun _=>Qp hI hi h2) (fun h=>by cases h)
       | false=>exact Wp.cond (t:=false) hy (fun h=>by cases h) (fun _=>Qp hI hi h2)
     | _=>cases h2
   | bo t=>
     have h3:(if t=true then exec cx I im bar N a n.l L k else exec cx I im bar N b n.r L k)=some r:=h2
     refine Wp.cond (t:=t) hy (fun ht=>?_) (fun ht=>?_)
     ·rw [if_pos ht] at h3;exact Qp hI hi h3
     ·rw [if_neg (by rw [ht];simp)] at h3;exact Qp hI hi h3
   | _=>cases h2
 | .seq a b,n,L,k,r,hi,h=>by
   have h:(match n.j with
    | none=>exec cx I im bar N a n.l L fun e L'=>match e with
      | .normal=>exec cx I im bar N b n.r L' k
      | e=>k e L'
    | some A=>jcx L A.vars L fun L=>tst (wf L) <| Join (fun v=>exec cx I im bar N b n.r (stJ cx L (WV a) A v) k) fun J=>exec cx I im bar N a n.l L fun e L'=>match e with
      | .normal=>jcx L A.vars L' fun L2=>unJ cx L (WV a) A L2 J
      | e=>k e L')=some r:=h
   split at h
   ·refine Wp.seq ((Qp hI (c:=a) hi h).mono ?_)
    rintro e Lf ⟨L',h',hi',x',ht⟩
    cases e with
    | normal=>
      refine Wp.Qe ht ((Qp hI (c:=b) hi' h').mono ?_)
      rintro e Lf ⟨L2,h2,hi2,x2,ht2⟩
      exact ⟨L2,h2,hi2,x'.trans x2,ht2⟩
    | exit j=>exact ⟨L',h',hi',x',ht⟩
    | ret=>exact ⟨L',h',hi',x',ht⟩
   ·rename_i A _
    obtain ⟨L9,h,g9⟩:=uZ cx h
    have hi:=g9.i hi
    obtain ⟨hw,h⟩:=jK h
    have h:=(show exec cx I im bar N a n.l L9 _=some r from h)
    refine Wp.Qe g9.t (Wp.seq ((Qp hI (c:=a) hi h).mono ?_))
    rintro e Lf ⟨L',h',hi',x',ht⟩
    cases e with
    | normal=>
      obtain ⟨L8,h',g8⟩:=uZ cx h'
      obtain ⟨v,h2,hi2,x2,ht2⟩:=pG (wf_e hw) hi (x'.trans g8.x) h'
      refine Wp.Qe ((ht.trans g8.t).trans ht2) ((Qp hI (c:=b) hi2 h2).mono ?_)
      rintro e Lf ⟨L3,h3,hi3,x3,ht3⟩
      exact ⟨L3,h3,hi3,g9.x.trans (x2.trans x3),ht3⟩
    | exit j=>exact ⟨L',h',hi',g9.x.trans x',ht⟩
    | ret=>exact ⟨L',h',hi',g9.x.trans x',ht⟩
 | .loop a,n,L,k,r,hi,h=>by
   have h:(match n.j with
    | none=>jaY (fun L k=>exec cx I im bar N a n.l L k) 8 L k
    | some A=>jcx L A.vars L fun L=>tst (wf L) <| unJ cx L (WV a) A L fun v0=>qw (fun rec v=>exec cx I im bar N a n.l (stJ cx L (WV a) A v) fun e L'=>match e with
      | .normal=>jcx L A.vars L' fun L2=>unJ cx L (WV a) A L2 rec
      | e=>k e L') fuel v0)=some r:=h
   split at h
   ·refine Wp.loopS (fun L':SLS tb=>L'.av) (fun m L'=>jaY (fun L k=>exec cx I im bar N a n.l L k) m L' k=some r/\RI [] L'.e/\Ext L L') 8 L ⟨h,hi,.refl L⟩ (.refl _) ?_
    rintro m L1 ⟨hm,hi1,x1⟩
    cases m with
    | zero=>cases hm
    | succ m=>
      have hm:exec cx I im bar N a n.l L1 (fun e L'=>match e with
       | .normal=>jaY (fun L k=>exec cx I im bar N a n.l L k) m L' k
       | e=>k e L')=some r:=hm
      refine (Qp hI (c:=a) hi1 hm).mono ?_
      rintro e Lf ⟨L',h',hi',x',ht⟩
      cases e with
      | normal=>exact ⟨m,L',Nat.lt_succ_self m,⟨h',hi',x1.trans x'⟩,ht⟩
      | exit j=>exact ⟨L',h',hi',x1.trans x',ht⟩
      | ret=>exact ⟨L',h',hi',x1.trans x',ht⟩
   ·rename_i A _
    obtain ⟨L9,h,g9⟩:=uZ cx h
    have hi:=g9.i hi
    obtain ⟨hw,h⟩:=jK h
    have hw:=wf_e hw
    obtain ⟨v0,h,hi0,x0,ht0⟩:=pG hw hi (.refl L9) h
    generalize hstep:(fun (rec:VT A.vars->Option ρ) v=>exec cx I im bar N a n.l (stJ cx L9 (WV a) A v) fun e L'=>match e with
     | .normal=>jcx L9 A.vars L' fun L2=>unJ cx L9 (WV a) A L2 rec
     | e=>k e L')=step at h
    refine Wp.Qe g9.t (Wp.loopS (fun v=>(stJ cx L9 (WV a) A v).av) (fun m v=>qw step m v=some r/\RI [] (stJ cx L9 (WV a) A v).e/\Ext L9 (stJ cx L9 (WV a) A v)) fuel v0 ⟨h,hi0,x0⟩ ht0 ?_)
    rintro m v ⟨hm,hiv,xv⟩
    cases m with
    | zero=>cases hm
    | succ m=>
      have hm:step (qw step m) v=some r:=hm
      rw [<- hstep] at hm
      refine (Qp hI (c:=a) hiv hm).mono ?_
      rintro e Lf ⟨L',h',hi',x',ht⟩
      cases e with
      | normal=>
        obtain ⟨L8,h',g8⟩:=uZ cx h'
        obtain ⟨v',h2,hi2,x2,ht2⟩:=pG hw hi ((xv.trans x').trans g8.x) h'
        rw [hstep] at h2
        exact ⟨m,v',Nat.lt_succ_self m,⟨h2,hi2,x2⟩,(ht.trans g8.t).trans ht2⟩
      | exit j=>exact ⟨L',h',hi',g9.x.trans (xv.trans x'),ht⟩
      | ret=>exact ⟨L',h',hi',g9.x.trans (xv.trans x'),ht⟩
 | .rangeFunc _ _ _ _,n,L,k,r,hi,h=>by cases h
 | .scope _,n,L,k,r,hi,h=>by cases h
 | .label _,n,L,k,r,hi,h=>by cases h
 | .goto _,n,L,k,r,hi,h=>by cases h
 | .refuse _,n,L,k,r,hi,h=>by cases h
noncomputable def jf6 (cx:Ctx P tb) (I:Iln P tb ρ):Iln P tb ρ:=fun i xs d L gs k=>
 tst (Nat.ble xs.length i.fn.ntmps) <| tst (UG (Yh L.gn) xs) <| tst (wU xs) <|
 exec cx I i.im i.bar i.fn.ntmps i.code i.an { L with e:=jcB 0 xs,s:=L.e::L.s } fun e L'=>match e with
 | .exit _=>none
 | _=>jgq [] i.fn.results.toList L' fun L'=>got (uN P L' i.fn.results.toList) fun ys=>tst (UG (Yh L'.gn) ys) <| tst (wU ys) <| k { L' with e:=(d,UN ys)::L.e,s:=L.s } gs
theorem jdr {I:Iln P tb ρ} (hI:WL I):WL (jf6 cx I):=by
 intro i xs d L gs k r hi hm h N ops rest K o y args tys as yQ hg ho hd hN hy has hxs kk
 subst hxs
 unfold jf6 at h
 obtain ⟨hle,h⟩:=jK h
 obtain ⟨hkx,h⟩:=jK h
 obtain ⟨hox,h⟩:=jK h
 have hkx:=qS hkx
 have hE:RI [] (jcB 0 (as++yQ):ka tb):=by
  intro t G x hx
  have:=Ud hox _ (PF hx)
  cases this
 have key:=Qp hI hE h
 refine GoT.act hg (fun d' h'=>by rw [hd] at h';cases h';exact hN)
  (AEx.inl (L:=L.av) (K:=fun L1=>GoT P ops N rest K L1) (fn:=i.fn) (c:=i.code) (N2:=i.fn.ntmps) (xs:=avL as) (yQ:=avL yQ) ho hd i.hf i.hb rfl i.call hy has ?_ ?_) (fun L' h=>h)
 ·rw [<- JY,JX];exact Nat.le_of_ble_eq_true hle
 ·have e0:(⟨jcB 0 (as++yQ),L.e::L.s,L.h,L.nx,L.gn⟩:SLS tb).av=⟨qh 0 (avL as++avL yQ),L.av.e::L.av.s,L.av.h,L.av.f⟩:=by
   show (⟨avE L.gn (jcB 0 (as++yQ)),_,_,_⟩:LS)=_
   rw [jbJ hkx,JY];rfl
  rw [e0] at key
  refine key.post ?_
  rintro e Lf ⟨L',h',hi',x',ht⟩
  have main:jgq [] i.fn.results.toList L' (fun L'=>got (uN P L' i.fn.results.toList) fun ys=>tst (UG (Yh L'.gn) ys) <| tst (wU ys) <| k { L' with e:=(d,UN ys)::L.e,s:=L.s } gs)=some r->
   ∃ L2,YN Lf L2/\∃ xs e0 s0,zE P L2 i.fn.results.toList xs/\L2.s=e0::s0/\GoT P ops N rest K ⟨(d,YS xs)::e0,s0,L2.h,L2.f⟩:=by
   intro h'
   obtain ⟨L9,h',g9⟩:=Wu cx h'
   obtain ⟨ys,hys,h'⟩:=jg h'
   obtain ⟨hky,h'⟩:=jK h'
   obtain ⟨hoy,h'⟩:=jK h'
   have hky:=qS hky
   have x9:=x'.trans g9.x
   refine ⟨L9.av,ht.trans g9.t,avL ys,avE L9.gn L.e,L.s.map (avE L9.gn),wj hys,?_,?_⟩
   ·show L9.s.map (avE L9.gn)=_
    rw [x9.s];rfl
   ·have:=kk _ _ h' (hi.put hm (MP hoy)) ⟨rfl,⟨[_],rfl⟩,x9.h,x9.nx,x9.gn⟩
    have e1:({ L9 with e:=(d,UN ys)::L.e,s:=L.s }:SLS tb).av=⟨(d,YS (avL ys))::avE L9.gn L.e,L.s.map (avE L9.gn),L9.av.h,L9.av.f⟩:=by
     show (⟨(d,((UN ys).res L9.gn).av)::avE L9.gn L.e,_,_,_⟩:LS)=_
     rw [MO hky,jcI];rfl
    rw [e1] at this
    exact this
  cases e with
  | exit j=>cases h'
  | normal=>obtain ⟨L2,t2,q⟩:=main h';exact ⟨L2,t2,.inl rfl,q⟩
  | ret=>obtain ⟨L2,t2,q⟩:=main h';exact ⟨L2,t2,.inr rfl,q⟩
noncomputable def lvl (cx:Ctx P tb):Nat->Iln P tb ρ
 | 0=>noIln
 | n+1=>jf6 cx (lvl cx n)
theorem jel:∀ n,WL (lvl (ρ:=ρ) cx n)
 | 0=>jc6
 | n+1=>jdr (jel n)
end
end
section
open Go.RowKit
variable [GlC]
def YW:List (Nat × Nat)->Nat->Nat
 | [],_=>100000
 | (a,b)::l,r=>match Nat.beq a r with | true=>b | false=>YW l r
section
variable {P:Program} {tb:Tb} {cx:Ctx P tb}
structure CloD (tb:Tb) (ps rs:List tb.Ix) where
 g:Tup tb ps->Option (Tup tb rs)
 f:Nat
 yQ:List AV
 h:CloR tb f yQ ps rs g
def PTy.D:PTy tb->Type
 | .d i=>tb.T i
 | .cap i=>tb.T i
 | .fn ps rs=>CloD tb ps rs
def My (tb:Tb):List (PTy tb)->Type
 | []=>Unit
 | p::r=>p.D × My tb r
def fgt:(p:PTy tb)->p.D->p.den
 | .d _,x=>x
 | .cap _,x=>x
 | .fn _ _,c=>c.g
def fgts:(l:List (PTy tb))->My tb l->WY tb l
 | [],_=>()
 | p::r,a=>(fgt p a.1,fgts r a.2)
def jch (cx:Ctx P tb):(p:PTy tb)->p.D->SV tb
 | .d i,x=>(cx.cd i).sv x
 | .cap i,x=>.cp ((cx.cd i).cs x)
 | .fn ps rs,c=>.cl ps rs c.g c.f c.yQ c.h
def kK (cx:Ctx P tb):(l:List (PTy tb))->My tb l->Nat->ka tb
 | [],_,_=>[]
 | p::r,a,k=>(k,jch cx p a.1)::kK cx r a.2 (k+1)
theorem jeQ (cx:Ctx P tb):∀ {l:List (PTy tb)} {a avs},UF P l a avs->∃ d:My tb l,fgts l d=a/\∀ k,avE [] (kK cx l d k)=qh k avs
 | [],a,[],_=>⟨(),rfl,fun _=>rfl⟩
 | [],a,_::_,h=>by cases h
 | p::l,a,[],h=>by cases p <;> cases h
 | p :: l,(a,b),v::vs,h=>by
   obtain ⟨h1,h2⟩:=h
   obtain ⟨d,hd1,hd2⟩:=jeQ cx h2
   have rsv:∀ x:SV tb,x.res []=x:=fun x=>qR (Wh (fun _=>rfl) x)
   cases p with
   | d i=>
     refine ⟨(a,d),Prod.ext rfl hd1,fun k=>?_⟩
     show (k,((jch cx (.d i) a).res []).av)::avE [] (kK cx l d (k+1))=(k,v)::qh (k+1) vs
     rw [hd2,rsv]
     have e1:(jch cx (.d i) a).av=tb.el i a:=(cx.ok i).sv a
     rw [e1]
     have:v=tb.el i a:=h1
     rw [this]
   | cap i=>
     refine ⟨(a,d),Prod.ext rfl hd1,fun k=>?_⟩
     show (k,((jch cx (.cap i) a).res []).av)::avE [] (kK cx l d (k+1))=(k,v)::qh (k+1) vs
     rw [hd2,rsv]
     have e1:(jch cx (.cap i) a).av=.Qf (tb.el i a).cells:=congrArg AV.Qf ((cx.ok i).cs a)
     rw [e1]
     have:v=.Qf (tb.el i a).cells:=h1
     rw [this]
   | fn ps rs=>
     obtain ⟨f,yQ,rfl,hc⟩:=h1
     exact ⟨((⟨a,f,yQ,hc⟩:CloD tb ps rs),d),Prod.ext rfl hd1,fun k=>by
      show (k,_)::avE [] (kK cx l d (k+1))=(k,_)::qh (k+1) vs
      rw [hd2];rfl⟩
def L00:SLS tb:=⟨[],[],[],0,[]⟩
def kfin (cx:Ctx P tb) (own:List Nat) (rs:List tb.Ix) (vs:List ResultVar) (e:Qs) (L:SLS tb):Option (Tup tb rs):=match e with
 | .exit _=>none
 | _ => match own with
   | []=>jgq [] vs L fun L=>got (uN P L vs) fun xs=>MA (jcz xs []) L fun L=>got (uN P L vs) fun xs=>tst (UG (fun _=>false) xs) (tupD cx rs xs)
   | _::_=>jgq [] vs L fun L=>got (uN P L vs) fun xs=>MA (xj own 0 (match xs with | [x]=>Ql x | _=>[]) []) L fun L=>got (uN P L vs) fun xs=>match rs,xs with
     | [i],[x]=>tst (x.has (Yh L.gn)) <| unJ cx L00 [0] ⟨[.val 0 i own],[]⟩ { e:=[(0,x)],s:=[],h:=L.h,nx:=L.nx,gn:=L.gn } fun v=>tst (Nat.beq (qN own 0 0 ((cx.cd i).cs v)).2.length own.length) (some v)
     | _,_=>none
theorem Ub {own:List Nat}:∀ {l:List (SV tb)} {j k d},k<=d->d<k+(qN own j k l).2.length->find d (qN own j k l).2≠none
 | [],j,k,d,h1,h2=>by simp [qN] at h2;omega
 | x :: l,j,k,d,h1,h2=>by
   rw [kA] at h2 ⊢
   split at h2
   ·rename_i E xs _ _
    simp only [List.length_cons] at h2
    simp only
    rw [jj]
    split
    ·simp
    ·exact Ub (by omega) (by omega)
   ·exact Ub h1 h2
theorem Xb {l l':List AV} (h:QG l l') (hl:l.length=l'.length):Sub (YS l) (YS l'):=by
 cases l with
 | nil=>cases l' with
   | nil=>exact .refl _
   | cons=>simp at hl
 | cons x l=>
   cases l with
   | nil =>
     cases l' with
     | nil=>simp at hl
     | cons y l'=>
       cases l' with
       | cons=>simp at hl
       | nil=>
         intro m bl v r
         have:=h m bl [v] (.cons r .nil)
         cases this with | cons a b=>exact a
   | cons x2 l=>
     cases l' with
     | nil=>simp at hl
     | cons y l'=>
       cases l' with
       | nil=>simp at hl
       | cons y2 l'=>exact .tup h
theorem pH:∀ {l:List tb.Ix} {xs a},tupD cx l xs=some a->xs.length=(Zn l a).length
 | [],xs,_,h=>by
   obtain ⟨h1,h⟩:=jK (show tst (isE xs) _=some _ from h)
   rw [jbh h1];rfl
 | i::l,[],_,h=>by cases h
 | i::l,x::xs,ab,h=>by
   obtain ⟨a,ha,h⟩:=jg (show got ((cx.cd i).of x) _=some ab from h)
   obtain ⟨b,hb,h⟩:=jg h
   cases h
   rw [MR,List.length_cons,List.length_cons,pH hb]
theorem Ja {fid : Nat} {fn:Func} {code:Code} {ps:List (PTy tb)} {rs:List tb.Ix} {own:List Nat} {F:WY tb ps->Option (Tup tb rs)} {im bar N an}
 (hf:P.funcs[fid]? = some fn) (hb:fn.body=some code) (hN:fn.ntmps=N) (hn:Nat.ble ps.length N=true) (hr:∀ d:My tb ps,jba (tb:=tb) [] (kK cx ps d 0)=true)
 (H:∀ d:My tb ps,exec cx (lvl cx 6) im bar N code an ⟨kK cx ps d 0,[],[],0,[]⟩ (kfin cx own rs fn.results.toList)=F (fgts ps d)):
 ∀ a avs r,UF P ps a avs->F a=some r->FnR P fid avs (vI tb cx.cd own rs r 0).1.av ((vI tb cx.cd own rs r 0).2.map fun p=>(p.1,p.2.av)):=by
 intro a avs r hr0 hF
 obtain ⟨d,rfl,hd⟩:=jeQ cx hr0
 have hav:=hd 0
 have hlen:avs.length=ps.length:=by
  have:∀ {l:List (PTy tb)} {a avs},UF P l a avs->avs.length=l.length:=by
   intro l
   induction l with
   | nil=>intro a avs h;cases avs with | nil=>rfl | cons=>cases h
   | cons p l ih=>intro a avs h;cases avs with | nil=>cases p <;> cases h | cons v vs=>exact congrArg (·+1) (ih h.2)
  exact this hr0
 rw [<- H d] at hF
 have hi:RI [] (kK cx ps d 0):=by
  intro t G x hx
  have:=(XE (hr d) _ (Qv hx)).2
  cases this
 have key:=Qp (jel 6) (L:=⟨kK cx ps d 0,[],[],0,[]⟩) hi hF
 refine FnR.intro hf hb hN (by rw [hlen];exact Nat.le_of_ble_eq_true hn) ?_
 have e0:(⟨kK cx ps d 0,[],[],0,[]⟩:SLS tb).av=⟨qh 0 avs,[],[],fun d=>0<=d⟩:=by
  show (⟨avE [] (kK cx ps d 0),[],[],_⟩:LS)=_
  rw [hav]
 rw [e0] at key
 refine Wp.Qe (YN.f (f':=fun d=>0<=d) fun _ _=>trivial) (key.post ?_)
 rintro e Lf ⟨L',h',hi',x',ht⟩
 unfold kfin at h'
 cases e with
 | exit j=>cases h'
 | _ =>
   cases own with
   | nil =>
     obtain ⟨L7,h',g7⟩:=Wu cx h'
     obtain ⟨xs0,hxs0,h'⟩:=jg h'
     obtain ⟨L9,h',g9⟩:=kG cx (gs:=[]) h'
     obtain ⟨xs,hxs,h'⟩:=jg h'
     refine ⟨L9.av,(ht.trans g7.t).trans g9.t,by simp,avL xs,?_⟩
     obtain ⟨hbare,h'⟩:=jK h'
     obtain ⟨s1,s2⟩:=Xc h'
     have hl:=pH h'
     obtain ⟨a1,a2⟩:=Wz cx.cd cx.ok rs r 0
     refine ⟨⟨[(0,wK rs r)],[],[],fun _=>True⟩,wj hxs,?_,by rw [jj,if_pos rfl,a1],by rw [a2];rfl,fun _ _=>trivial⟩
     refine LS.ren.Qe (q:=fun _=>none) (r:=fun _=>none) (nils:=fun _=>false) ⟨by simp,?_,trivial,?_,by simp,by simp⟩
     ·intro t y hf
      have hf:find t [(0,wK rs r)]=some y:=hf
      rw [jj] at hf
      split at hf
      ·rename_i h0
       subst h0
       cases hf
       refine .inr ⟨_,by show find 0 [(0,YS (avL xs))]=_;rw [jj,if_pos rfl],?_⟩
       have hb2:(YS (avL xs)).qH=true:=by
        have h1:=zo hbare
        cases xs with
        | nil=>rfl
        | cons x xs=>
          cases xs with
          | nil =>
            have:(AV.clean (fun _=>false) x.av&&true)=true:=h1
            rw [Bool.and_true] at this
            exact this
          | cons x2 xs=>exact h1
       show wa _ ((YS (avL xs)).re _) _
       rw [kJ hb2]
       exact (Xb s1 (by rw [JX];exact hl)).n
      ·simp [find] at hf
     ·intro id b hf;simp [find] at hf
   | cons o ow=>
     obtain ⟨L7,h',g7⟩:=Wu cx h'
     obtain ⟨xs0,hxs0,h'⟩:=jg h'
     obtain ⟨L8,h',g8⟩:=kG cx (gs:=[]) h'
     obtain ⟨xs,hxs,h'⟩:=jg h'
     refine ⟨L8.av,(ht.trans g7.t).trans g8.t,by simp,avL xs,?_⟩
     match rs,xs,r,hxs,h' with
     | [i],[x],r,hxs,h'=>
       obtain ⟨hkx,h'⟩:=jK h'
       have hkx:=qR hkx
       have hw:Wf (L00 (tb:=tb)):=⟨rfl,rfl,rfl⟩
       obtain ⟨v,h2,hi2,x2,ht2⟩:=pG (L1:={ e:=[(0,x)],s:=[],h:=L8.h,nx:=L8.nx,gn:=L8.gn }) hw (by intro t G x hx;simp [L00,find] at hx) ⟨rfl,⟨_,(List.append_nil _).symm⟩,⟨_,(List.append_nil _).symm⟩,Nat.zero_le _,⟨_,(List.append_nil _).symm⟩⟩ h'
       obtain ⟨hl,h2⟩:=jK h2
       cases h2
       have hl:=Nat.eq_of_beq_eq_true hl
       have hdr:drN (L00 (tb:=tb)) ⟨[.val 0 i (o::ow)],[]⟩=[]:=rfl
       have hmk:(WM cx L00 [JV.val 0 i (o::ow)] (r:tb.T i) 0)=([(0,WO (cx.cd i) (qN (o::ow) 0 0 ((cx.cd i).cs r)).1)],(qN (o::ow) 0 0 ((cx.cd i).cs r)).2):=by
        simp [WM,mkV,vh]
       have e9:(⟨[(0,x)],[],L8.h,L8.nx,L8.gn⟩:SLS tb).av={ L8.av with e:=[(0,YS (avL [x]))],s:=[] }:=by
        show (⟨[(0,(x.res L8.gn).av)],[],_,_⟩:LS)=_
        rw [hkx];rfl
       rw [e9] at ht2
       refine ⟨_,wj hxs,ht2,?_,?_,?_⟩
       ·show find 0 (avE (Wt (drN L00 _)++[]) ((WM cx L00 [JV.val 0 i (o::ow)] (r:tb.T i) 0).1++_))=_
        rw [hdr,hmk]
        show find 0 ((0,((WO (cx.cd i) (qN (o::ow) 0 0 ((cx.cd i).cs r)).1).res []).av)::_)=_
        rw [jj,if_pos rfl,qR (Wh (q:=Yh []) (fun _=>rfl) _)];rfl
       ·show avH (Wt (drN L00 _)++[]) ((WM cx L00 [JV.val 0 i (o::ow)] (r:tb.T i) 0).2++[])=_
        rw [hdr,hmk]
        have:=Vv (g:=([]:Gn tb)) (a:=(qN (o::ow) 0 0 ((cx.cd i).cs r)).2) (b:=[]) (fun p hp=>⟨rfl,(kS p hp).2.2⟩)
        refine this.trans ?_
        show _++[]=_
        rw [List.append_nil];rfl
       ·intro d hd
        show 0+Xw [JV.val 0 i (o::ow)]<=d
        have e1:Xw [JV.val 0 i (o::ow)]=(o::ow).length:=by simp [Xw,nOwn]
        rw [e1,Nat.zero_add,<- hl]
        rcases Nat.lt_or_ge d (qN (o::ow) 0 0 ((cx.cd i).cs r)).2.length with hlt | hge
        ·exfalso
         have h3:=Ub (own:=o::ow) (l:=(cx.cd i).cs r) (j:=0) (k:=0) (d:=d) (Nat.zero_le _) (by omega)
         have hd:find d ((qN (o::ow) 0 0 ((cx.cd i).cs r)).2.map fun p=>(p.1,p.2.av))=none:=hd
         rw [kZ (fun b:SC tb=>b.av)] at hd
         cases hq:find d (qN (o::ow) 0 0 ((cx.cd i).cs r)).2 with
         | none=>exact h3 hq
         | some z=>rw [hq] at hd;cases hd
        ·exact hge
     | [],xs,r,hxs,h'=>cases h'
     | _::_::_,xs,r,hxs,h'=>cases h'
     | [_],[],r,hxs,h'=>cases h'
     | [_],_::_::_,r,hxs,h'=>cases h'
end
end
instance gl0:GlC:=⟨fun _=>True,fun _ h=>h⟩
theorem FnR.up (g:GlC) {P:Program} {f:FuncId} {args:List AV} {r:AV} {hr:Hp} (h:@FnR gl0 P f args r hr):@FnR g P f args r hr:=by
 intro w m vs hgl hi hrp
 refine (h w m vs trivial hi hrp).mono ?_
 rintro e w' ⟨v,m',bl',he,hb,hws,hz,hv⟩
 exact ⟨v,m',bl',he,hb,@Zk.mk g _ _ _ _ _ _ (@Zk.imm gl0 _ _ _ _ _ _ hws) (@Zk.le gl0 _ _ _ _ _ _ hws) (@Zk.grow gl0 _ _ _ _ _ _ hws) (@Zk.blk gl0 _ _ _ _ _ _ hws) (@Zk.it gl0 _ _ _ _ _ _ hws) (@Zk.own gl0 _ _ _ _ _ _ hws) (@Zk.inj gl0 _ _ _ _ _ _ hws) hgl,hz,hv⟩
section
open Go.RowKit
variable [GlC]
theorem FnR.Xu {P:Program} {f:FuncId} {args:List AV} {r:AV}
 (H:∀ (w:World) (m:Mem) (vs:List Value),Imm m w->Jq m je args vs->Calls P f vs.toArray w fun e w'=>∃ v,e=.returned v/\Below w.heap.size w w'/\Rep m je r v):FnR P f args r []:=by
 intro w m vs hgl hi hr
 refine (H w m vs hi hr).mono ?_
 rintro e w' ⟨v,he,hb,hv⟩
 refine ⟨v,m,je,he,hb,⟨hi.below hb,Mem.le.refl m,fun _ _ _ h=>.inl h,?_,?_,?_,?_,hgl⟩,fun _ _=>rfl,hv⟩
 ·intro id l h;simp [find] at h
 ·intro id s p h;simp [find] at h
 ·intro id b n h;simp [je] at h
 ·intro id id' b n n' h;simp [je] at h
theorem Kt {m bl x y vs} (h:Jq m bl [x,y] vs):∃ a b,vs=[a,b]/\Rep m bl x a/\Rep m bl y b:=by
 cases h with
 | cons h1 t=>cases t with
   | cons h2 t=>cases t with
     | nil=>exact ⟨_,_,rfl,h1,h2⟩
def Ps (s sub:List UInt8):Option Int:=match sub with
 | [c]=>some (Lib.indexByte s c)
 | _=>none
theorem Mi {P:Program} {f:FuncId} (H:∀ (s:ByteArray) (c:UInt8) (w:World),Calls P f #[.string s,.string ⟨#[c]⟩] w fun e w'=>e=.returned (.int .i64 (Lib.indexByte s.data.toList c))/\w'=w)
 {s sub:List UInt8} {n:Int} (h:Ps s sub=some n):FnR P f [sAV s,sAV sub] (.v (.int .i64 n)) []:=by
 unfold Ps at h
 split at h
 ·rename_i c
  cases h
  refine FnR.Xu fun w m vs hi hr=>?_
  obtain ⟨a,b,rfl,h1,h2⟩:=Kt hr
  have h1:=h1.YG;have h2:=h2.YG
  subst h1 h2
  refine (H ⟨s.toArray⟩ c w).mono ?_
  rintro e w' ⟨rfl,rfl⟩
  exact ⟨_,rfl,Below.refl _ _,.v⟩
 ·cases h
def PQ (s sub:List UInt8):Option Int:=match sub with
 | [c]=>some (s.count c:Int)
 | _=>none
theorem Mj {P:Program} {f:FuncId} (H:∀ (s:ByteArray) (c:UInt8) (w:World),Calls P f #[.string s,.string ⟨#[c]⟩] w fun e w'=>e=.returned (.int .i64 (Lib.countByte s.data.toList c))/\w'=w)
 {s sub:List UInt8} {n:Int} (h:PQ s sub=some n):FnR P f [sAV s,sAV sub] (.v (.int .i64 n)) []:=by
 unfold PQ at h
 split at h
 ·rename_i c
  cases h
  refine FnR.Xu fun w m vs hi hr=>?_
  obtain ⟨a,b,rfl,h1,h2⟩:=Kt hr
  have h1:=h1.YG;have h2:=h2.YG
  subst h1 h2
  refine (H ⟨s.toArray⟩ c w).mono ?_
  rintro e w' ⟨rfl,rfl⟩
  exact ⟨_,rfl,Below.refl _ _,.v⟩
 ·cases h
def jfX (l:List (List UInt8)) (sep:List UInt8):Option (List UInt8):=Chk ((Lib.join l sep).length<=140737488355328/\l.length<=140737488355328) (some (Lib.join l sep))
theorem pR {m bl}:∀ {l:List (List UInt8)} {cs},Jq m bl (l.map sAV) cs->cs=l.map fun s=>Value.string ⟨s.toArray⟩
 | [],_,.nil=>rfl
 | s::l,_,.cons h t=>by rw [h.YG,pR t];rfl
theorem Pz:∀ l:List (List UInt8),(l.map sAV).flatMap AV.cells=l.map sAV
 | []=>rfl
 | s::l=>by rw [List.map_cons,List.flatMap_cons,Pz l];rfl
theorem jdy {P:Program} {f:FuncId}
 (H0:∀ (a:Option Addr) (c:Nat) (sep:ByteArray) (w:World),Calls P f #[.slice a 0 c,.string sep] w fun e w'=>e=.returned (.string ⟨#[]⟩)/\w'=w)
 (H:∀ (bk o c:Nat) (xs:List ByteArray) (sep:ByteArray) (w:World) (hcells:∀ (j:Nat) x,xs[j]? = some x->w.cell? ⟨bk,o+j,none⟩=some (.string x))
   (hbk:bk<w.heap.size) (hN:xs.length<=140737488355328) (hcap:xs.length<=c) (hlen:(Lib.join (xs.map (·.data.toList)) sep.data.toList).length<=140737488355328),
   Calls P f #[.slice (some ⟨bk,o,none⟩) xs.length c,.string sep] w fun e w'=>e=.returned (.string ⟨(Lib.join (xs.map (·.data.toList)) sep.data.toList).toArray⟩)/\Below w.heap.size w w')
 {l:List (List UInt8)} {sep s:List UInt8} (h:jfX l sep=some s):FnR P f [.sl false 1 (l.map sAV),sAV sep] (sAV s) []:=by
 obtain ⟨⟨hc,hN⟩,h⟩:=wb h
 cases h
 refine FnR.Xu fun w m vs hi hr=>?_
 obtain ⟨a,b,rfl,h1,h2⟩:=Kt hr
 have h2:=h2.YG
 subst h2
 have e0:∀ (ad:Option Addr) (c:Nat),Calls P f [Value.slice ad 0 c,.string ⟨sep.toArray⟩].toArray w fun e w'=>∃ v,e=.returned v/\Below w.heap.size w w'/\Rep m je (sAV (Lib.join [] sep)) v:=by
  intro ad c
  refine (H0 ad c ⟨sep.toArray⟩ w).mono ?_
  rintro e w' ⟨rfl,rfl⟩
  exact ⟨_,rfl,Below.refl _ _,.v⟩
 cases l with
 | nil=>
   cases h1 with
   | slnil=>exact e0 _ _
   | sl g1 g2 g3 g4 g5 g6 g7=>exact e0 _ _
 | cons x l=>
   cases h1 with
   | sl g1 g2 g3 g4 g5 g6 g7=>
     rename_i ad cap cs
     rw [Pz] at g2
     have hcs:=pR g2
     subst hcs
     have hsp:=g4 (by simp)
     have hd:ad=⟨ad.block,ad.off,none⟩:=by rw [<- hsp]
     rw [hd]
     have key:=H ad.block ad.off cap ((x::l).map fun s=>(⟨s.toArray⟩:ByteArray)) ⟨sep.toArray⟩ w ?_ ?_ ?_ ?_ ?_
     ·rw [List.length_map] at key
      have e1:((x::l).map fun s=>(⟨s.toArray⟩:ByteArray)).map (·.data.toList)=x::l:=by
       rw [List.map_map]
       exact (List.map_congr_left fun s _=>rfl).trans (List.map_id _)
      rw [e1] at key
      rw [List.length_map]
      refine key.mono ?_
      rintro e w' ⟨rfl,hb⟩
      exact ⟨_,rfl,hb,.v⟩
     ·intro j y hj
      rw [List.getElem?_map] at hj
      obtain ⟨z,hz,rfl⟩:=Option.map_eq_some_iff.1 hj
      exact hi _ _ _ (g5 j _ (by rw [List.getElem?_map,hz];rfl))
     ·exact hi.lt (g5 0 _ rfl)
     ·rw [List.length_map];exact hN
     ·rw [List.length_map,<- List.length_map (f:=sAV) ];exact g6
     ·rw [List.map_map]
      refine Nat.le_trans (Nat.le_of_eq ?_) hc
      congr 2
      exact (List.map_congr_left fun s _=>rfl).trans (List.map_id _)
end
section
open Go.RowKit
variable [GlC]
section
variable {P:Program} {tb:Tb} {cx:Ctx P tb}
def hfin (P:Program) (vs:List ResultVar) (e:Qs) (L:SLS tb):Option (SV tb):=match e with
 | .exit _=>none
 | _=>got (uN P L vs) fun xs=>match xs with
   | [x]=>tst (x.has fun _=>false) (some x)
   | _=>none
end
end
section
open Go.RowKit Go.ChangeShapes Go.WideShapes Go.ChangeAt Go.Deep
variable [GlC]
def vo (W:World):Mem:=fun b o=>W.cell? ⟨b,o,none⟩
theorem jbp (W:World):Imm (vo W) W:=fun _ _ _ h=>h
def qv (P:Program) (W:World) (t:TypeId) {α:Type} (F:α->List AV) (wf:α->Prop):Prop:=
 ∀ {H:Type} (enc:TypeId × Value->H) fuel cs x,DataW.trod enc P W 0 (fun _=>true) true fuel t cs=some x->
   ∃ a:α,Jq (vo W) je (F a) cs/\(∀ c∈cs,jA c=true)/\wf a
section
variable {P:Program} {W:World} {t:TypeId}
theorem mQ (ht:P.underlying t=some .bool):qv P W t (fun b=>[.v (.bool b)]) (fun _=>True):=by
 intro H enc fuel cs x h
 obtain ⟨b,rfl,-⟩:=DataW.trod_bool ht h
 exact ⟨b,.cons .v .nil,by simp [jA,Value.oneCell'],trivial⟩
theorem kB {k:IntKind} (ht:P.underlying t=some (.int k)):qv P W t (fun n=>[.v (.int k n)]) (fun n=>k.min<=n/\n<=k.max):=by
 intro H enc fuel cs x h
 obtain ⟨n,rfl,-,hw⟩:=DataW.trod_int ht h
 refine ⟨n,.cons .v .nil,by simp [jA,Value.oneCell'],?_⟩
 simpa [Lit.wf] using hw
theorem mP (ht:P.underlying t=some (.int .u8)):qv P W t (fun c=>[Jg c]) (fun _=>True):=by
 intro H enc fuel cs x h
 obtain ⟨n,rfl,-,hw⟩:=DataW.trod_int ht h
 have hw':0<=n/\n<=255:=by simpa [Lit.wf,IntKind.min,IntKind.max,IntKind.bits,IntKind.signed] using hw
 refine ⟨UInt8.ofNat n.toNat,?_,by simp [jA,Value.oneCell'],trivial⟩
 have:Jg (UInt8.ofNat n.toNat)=.v (.int .u8 n):=by
  have h1:(UInt8.ofNat n.toNat).toNat=n.toNat % 256:=UInt8.toNat_ofNat'
  unfold Jg;rw [h1];congr 2;omega
 show Jq _ _ [Jg _] _
 rw [this]
 exact .cons .v .nil
theorem jaN (ht:P.underlying t=some .string):qv P W t (fun (s:List UInt8)=>[.v (.string ⟨s.toArray⟩)]) (fun s=>s.length<=9223372036854775807):=by
 intro H enc fuel cs x h
 obtain ⟨s,rfl,-,hw⟩:=DataW.trod_string ht h
 refine ⟨s.data.toList,.cons .v .nil,by simp [jA,Value.oneCell'],?_⟩
 have e:s.data.toList.length=s.size:=by rw [Array.length_toList];rfl
 show s.data.toList.length<=9223372036854775807
 rw [e]
 exact hw
theorem UU {m:Mem} {bl} {α:Type} {F:α->List AV}:∀ (l:List α) (V:Nat->List Value),(∀ i (h:i<l.length),Jq m bl (F (l[i]'h)) (V i))->Jq m bl (l.flatMap F) ((List.range l.length).flatMap V)
 | [],_,_=>.nil
 | a::l,V,h=>by
   rw [List.length_cons,List.range_succ_eq_map,List.flatMap_cons,List.flatMap_cons,List.flatMap_map]
   exact (h 0 (by simp)).append (UU l (fun i=>V (i+1)) fun i hi=>h (i+1) (by simpa using hi))
theorem PB {V:Nat->List Value} {sz:Nat}:∀ (n:Nat),(∀ i,i<n->(V i).length=sz)->∀ (j:Nat) (v:Value),((List.range n).flatMap V)[j]? = some v->∃ i k,i<n/\k<sz/\j=i*sz+k/\(V i)[k]? = some v
 | 0,_,j,v,h=>by simp at h
 | n + 1,hV,j,v,h=>by
   have hlen:((List.range n).flatMap V).length=n*sz:=by
    clear h
    induction n with
    | zero=>simp
    | succ n ih=>
      rw [List.range_succ,List.flatMap_append,List.length_append,ih fun i hi=>hV i (by omega)]
      simp [hV n (by omega),Nat.add_mul]
   rw [List.range_succ,List.flatMap_append] at h
   by_cases hj:j<n*sz
   ·rw [List.getElem?_append_left (by omega)] at h
    obtain ⟨i,k,h1,h2,h3,h4⟩:=PB n (fun i hi=>hV i (by omega)) j v h
    exact ⟨i,k,by omega,h2,h3,h4⟩
   ·rw [List.getElem?_append_right (by omega),hlen] at h
    simp only [List.flatMap_cons,List.flatMap_nil,List.append_nil] at h
    have hk:j - n*sz<sz:=by
     rcases Nat.lt_or_ge (j - n*sz) sz with h' | h'
     ·exact h'
     ·rw [List.getElem?_eq_none (by rw [hV n (by omega)];exact h')] at h;cases h
    exact ⟨n,j - n*sz,by omega,hk,by omega,h⟩
theorem jb0 {w:World} {a:Addr} {v:Value} (h:w.cell? a=some v):a.spot=none:=by
 unfold World.cell? at h
 split at h
 ·split at h
  ·cases h
  ·rename_i hs;simpa using hs
 ·cases h
theorem zj {e:TypeId} {α:Type} {F:α->List AV} {E:α->AV} {wf:α->Prop} {sz:Nat} (ht:P.underlying t=some (.slice e)) (hs:P.cellsOf e=sz) (hpos:0<sz) (he:qv P W e F wf)
 (hE:∀ a,(E a).cells=F a) (hl:∀ a,(F a).length=sz):qv P W t (fun (l:List α)=>[.sl false sz (l.map E)]) (fun l=>(∀ a∈l,wf a)/\l.length<=9223372036854775807):=by
 intro H enc fuel cs x h
 rcases open_slice ht h with ⟨rfl,-⟩ | ⟨a,len,cap,m,n,D,Pl,rfl,hb,hlc,hcm,hm,-,hel⟩
 ·exact ⟨[],.cons .slnil .nil,by simp [jA,Value.oneCell'],by simp,by simp⟩
 rw [hs] at hel
 have hlm:len<=m:=by rw [hm];split <;> omega
 -- the elements
 have hch:∀ i,i<len->∃ p:α × List Value,Jq (vo W) je (F p.1) p.2/\(∀ c∈p.2,jA c=true)/\wf p.1/\W.cells? 0 (a.add (i*sz)) sz=some p.2:=by
  intro i hi
  obtain ⟨cs',h1,h2⟩:=hel i (by omega)
  obtain ⟨y,g1,g2,g3⟩:=he enc n cs' _ h2
  exact ⟨(y,cs'),g1,g2,g3,h1⟩
 rcases Nat.eq_zero_or_pos len with h0 | h0
 ·subst h0
  refine ⟨[],.cons (.sl (cs:=[]) (by simp) (by simpa using Jq.nil) (by simp) (by simp) (by simp) (by simp) (by simp)) .nil,by simp [jA,Value.oneCell'],by simp,by simp⟩
 obtain ⟨p0,-⟩:=hch 0 h0
 haveI:Inhabited (α × List Value):=⟨p0⟩
 obtain ⟨f,hf⟩:=choose_lt hch
 have hall:∀ i,i<len->∀ k,k<sz->W.cell? ((a.add (i*sz)).add k)=(f i).2[k]? /\ (f i).2.length=sz:=by
  intro i hi k hk
  obtain ⟨-,-,-,h4⟩:=hf i hi
  obtain ⟨-,q1,q2⟩:=World.cells?_some h4
  exact ⟨q2 k hk,q1⟩
 have hsp:a.spot=none:=by
  have h1:=hall 0 h0 0 hpos
  have h2:(f 0).2[0]? = some ((f 0).2[0]'(by omega)):=by simp
  rw [h2] at h1
  have:=jb0 h1.1
  simpa [Addr.add] using this
 let l:List α:=(List.range len).map fun i=>(f i).1
 have hll:l.length=len:=by simp [l]
 have hget:∀ i (h:i<l.length),l[i]'h=(f i).1:=by intro i h;simp [l]
 have hrep:Jq (vo W) je (l.flatMap F) ((List.range len).flatMap fun i=>(f i).2):=by
  have:=UU (m:=vo W) (bl:=je) (F:=F) l (fun i=>(f i).2) fun i hi=>by rw [hget];exact (hf i (by omega)).1
  rwa [hll] at this
 have hfm:(l.map E).flatMap AV.cells=l.flatMap F:=by
  rw [List.flatMap_map]
  exact congrArg (fun g=>l.flatMap g) (funext fun x=>hE x)
 refine ⟨l,.cons (?_:Rep _ _ (.sl false sz (l.map E)) _) .nil,by simp [jA,Value.oneCell'],?_,?_⟩
 ·have:=Rep.sl (m:=vo W) (bl:=je) (c:=false) (sz:=sz) (l:=l.map E) (a:=a) (cap:=cap) (cs:=(List.range len).flatMap fun i=>(f i).2)
   (by intro x hx;obtain ⟨y,-,rfl⟩:=List.mem_map.1 hx;rw [hE,hl]) (by rw [hfm];exact hrep)
   (by intro c hc;obtain ⟨i,hi,hc⟩:=List.mem_flatMap.1 hc;exact (hf i (by simpa using hi)).2.1 c hc) (fun _=>hsp)
   (by
     intro j v hj
     obtain ⟨i,k,h1,h2,rfl,h4⟩:=PB len (fun i hi=>(hall i hi 0 hpos).2) j v hj
     have:=(hall i h1 k h2).1
     rw [h4] at this
     obtain ⟨b,o,sp⟩:=a
     simp only at hsp;subst hsp
     rw [yd,yd,Nat.add_assoc] at this
     exact this) (by simp [hll];exact hlc) (by simp)
  rwa [List.length_map,hll] at this
 ·intro y hy
  obtain ⟨i,hi,rfl⟩:=List.mem_map.1 hy
  exact (hf i (by simpa using hi)).2.2.1
 ·rw [hll]
  have:cap<=9223372036854775807:=hcm
  omega
theorem qB {fs:Array Field} {i off:Nat} {f:Field} {α:Type} {F:α->List AV} {wf:α->Prop} {n:Nat} (hf:fs[i]? = some f) (ho:f.offset=off) (hc:P.cellsOf f.type=n) (h:qv P W f.type F wf):
 ∀ {H:Type} (enc:TypeId × Value->H) fuel (cs:List Value) (xs:List (DataW H × List MemPlace)),xs.length=fs.size->cs.length=off+n->
 (∀ (j:Nat) (f:Field),fs[j]? = some f->DataW.trod enc P W 0 (fun _=>true) true fuel f.type ((cs.drop f.offset).take (P.cellsOf f.type))=xs[j]?)->
 ∃ a:α,Jq (vo W) je (F a) (cs.drop off)/\(∀ c∈cs.drop off,jA c=true)/\wf a:=by
 intro H enc fuel cs xs hx hl hall
 have hi:i<fs.size:=by
  rcases Nat.lt_or_ge i fs.size with h | h
  ·exact h
  ·simp [Array.getElem?_eq_none h] at hf
 have h1:=hall i f hf
 rw [List.getElem?_eq_getElem (by omega),ho,hc,List.take_of_length_le (by simp;omega)] at h1
 exact h enc fuel _ _ h1
theorem ju {fs:Array Field} {i off off' N:Nat} {f:Field} {α β:Type} {F:α->List AV} {G:β->List AV} {wf:α->Prop} {wg:β->Prop} {n:Nat} (hf:fs[i]? = some f) (ho:f.offset=off) (hc:P.cellsOf f.type=n) (ho':off+n=off') (h:qv P W f.type F wf)
 (k:∀ {H:Type} (enc:TypeId × Value->H) fuel (cs:List Value) (xs:List (DataW H × List MemPlace)),xs.length=fs.size->cs.length=N->
   (∀ (j:Nat) (f:Field),fs[j]? = some f->DataW.trod enc P W 0 (fun _=>true) true fuel f.type ((cs.drop f.offset).take (P.cellsOf f.type))=xs[j]?)->
   ∃ a:β,Jq (vo W) je (G a) (cs.drop off')/\(∀ c∈cs.drop off',jA c=true)/\wg a):
 ∀ {H:Type} (enc:TypeId × Value->H) fuel (cs:List Value) (xs:List (DataW H × List MemPlace)),xs.length=fs.size->cs.length=N->
 (∀ (j:Nat) (f:Field),fs[j]? = some f->DataW.trod enc P W 0 (fun _=>true) true fuel f.type ((cs.drop f.offset).take (P.cellsOf f.type))=xs[j]?)->
 ∃ a:α × β,Jq (vo W) je (F a.1++G a.2) (cs.drop off)/\(∀ c∈cs.drop off,jA c=true)/\wf a.1/\wg a.2:=by
 intro H enc fuel cs xs hx hl hall
 have hi:i<fs.size:=by
  rcases Nat.lt_or_ge i fs.size with h | h
  ·exact h
  ·simp [Array.getElem?_eq_none h] at hf
 have h1:=hall i f hf
 rw [List.getElem?_eq_getElem (by omega),ho,hc] at h1
 obtain ⟨a,g1,g2,g3⟩:=h enc fuel _ _ h1
 obtain ⟨b,k1,k2,k3⟩:=k enc fuel cs xs hx hl hall
 have e:cs.drop off=(cs.drop off).take n++cs.drop off':=by
  rw [<- ho',<- List.drop_drop,List.take_append_drop]
 refine ⟨(a,b),?_,?_,g3,k3⟩
 ·rw [e];exact g1.append k1
 ·intro c hc
  rw [e] at hc
  rcases List.mem_append.1 hc with hc | hc
  ·exact g2 c hc
  ·exact k2 c hc
theorem qg {fs:Array Field} {α β:Type} {F:β->List AV} {G:α->List AV} {wf:β->Prop} {wg:α->Prop} {N:Nat} (g:β->α) (ht:P.underlying t=some (.struct fs)) (hN:P.cellsOf t=N)
 (k:∀ {H:Type} (enc:TypeId × Value->H) fuel (cs:List Value) (xs:List (DataW H × List MemPlace)),xs.length=fs.size->cs.length=N->
   (∀ (j:Nat) (f:Field),fs[j]? = some f->DataW.trod enc P W 0 (fun _=>true) true fuel f.type ((cs.drop f.offset).take (P.cellsOf f.type))=xs[j]?)->
   ∃ a:β,Jq (vo W) je (F a) (cs.drop 0)/\(∀ c∈cs.drop 0,jA c=true)/\wf a)
 (hG:∀ b,G (g b)=F b) (hw:∀ b,wf b->wg (g b)):qv P W t G wg:=by
 intro H enc fuel cs x h
 obtain ⟨xs,n,-,-,hl,hx,hall⟩:=DataW.trod_struct ht h
 obtain ⟨b,h1,h2,h3⟩:=k enc n cs xs hx (by rw [hl,hN]) hall
 exact ⟨g b,by rw [hG];simpa using h1,by simpa using h2,hw b h3⟩
theorem jcJ {H:Type} {enc:TypeId × Value->H} {n:Nat} {e:TypeId} {fuel cs x} (ht:P.underlying t=some (.array n e)) (h:DataW.trod enc P W 0 (fun _=>true) true fuel t cs=some x):cs.length=P.cellsOf t:=by
 cases fuel with
 | zero=>simp [DataW.trod] at h
 | succ k=>
   unfold DataW.trod at h
   rw [ht] at h
   simp at h
   exact h.1
theorem mR {e:TypeId} {α:Type} {F:α->List AV} {wf:α->Prop} (ht:P.underlying t=some (.array 4 e)) (hN:P.cellsOf t=4) (hc:P.cellsOf e=1) (he:qv P W e F wf):
 qv P W t (fun (x:α × α × α × α)=>F x.1++(F x.2.1++(F x.2.2.1++F x.2.2.2))) (fun x=>wf x.1/\wf x.2.1/\wf x.2.2.1/\wf x.2.2.2):=by
 intro H enc fuel cs x h
 have hl:=jcJ ht h
 rw [hN] at hl
 match cs,hl with
 | [c0,c1,c2,c3],_=>
   obtain ⟨y0,y1,y2,y3,n,-,g0,g1,g2,g3⟩:=trod_array4 ht hc h
   obtain ⟨a0,p0,q0,r0⟩:=he enc _ _ _ g0
   obtain ⟨a1,p1,q1,r1⟩:=he enc _ _ _ g1
   obtain ⟨a2,p2,q2,r2⟩:=he enc _ _ _ g2
   obtain ⟨a3,p3,q3,r3⟩:=he enc _ _ _ g3
   refine ⟨(a0,a1,a2,a3),?_,?_,r0,r1,r2,r3⟩
   ·exact p0.append (p1.append (p2.append p3))
   ·intro c hcm
    simp only [List.mem_cons,List.not_mem_nil,or_false] at hcm
    rcases hcm with rfl | rfl | rfl | rfl
    ·exact q0 _ (by simp)
    ·exact q1 _ (by simp)
    ·exact q2 _ (by simp)
    ·exact q3 _ (by simp)
/-! an argument -/
theorem XZ {H:Type} {enc:TypeId × Value->H} {base:Nat} {v:Value} {d:DataW H} {ps:List MemPlace} (hna:∀ cs,v≠.agg cs) {α:Type} {E:α->AV} {wf:α->Prop} (ho:qv P W t (fun a=>[E a]) wf)
 (h:DataW.Trod enc P W 0 (fun _=>true) true t v d ps) (hok:Value.okWide P W .any base t v):∃ a:α,Rep (vo W) je (E a) v/\wf a:=by
 obtain ⟨fuel,h⟩:=h
 obtain ⟨a,h1,h2,h3⟩:=ho enc fuel _ _ h
 refine ⟨a,?_,h3⟩
 have hc:v.cells=#[v]:=by cases v <;> first | rfl | exact absurd rfl (hna _)
 rw [hc] at h1
 cases h1 with
 | cons h t=>exact h
theorem Xv {base:Nat} {v:Value} {td:TypeDesc} (ht:P.underlying t=some td) (hd:Pr td=false) (hok:Value.okWide P W .any base t v):∀ cs,v≠.agg cs:=by
 rintro cs rfl
 unfold Value.okWide at hok
 rw [ht] at hok
 cases td <;> simp_all [Pr,Cell.okWide,Cell.ok]
theorem KR {H:Type} {enc:TypeId × Value->H} (hl:laidOutB P=true) {W W':World} {sp:Nat->Bool} (hb:Below W.heap.size W W'):∀ (ts:List TypeId) (vs:List Value) (ds:List (DataW H)) (ps:List MemPlace),
 (∀ t∈ts,P.readableRec t=true/\t<P.types.size)->DataW.TrodAll enc P W 0 (fun _=>true) true ts vs ds ps->(∀ x∈ps,x.block<W.heap.size)->(∀ x∈ps,sp x.block=true)->DataW.TrodAll enc P W' 0 sp true ts vs ds ps
 | [],[],[],ps,_,h,_,_=>h
 | t::ts,v::vs,d::ds,ps,hr,h,hlt,hsp=>by
   obtain ⟨p,q,h1,h2,rfl⟩:=h
   refine ⟨p,q,?_,KR hl hb ts vs ds q (fun t ht=>hr t (by simp [ht])) h2 (fun x hx=>hlt x (by simp [hx])) (fun x hx=>hsp x (by simp [hx])),rfl⟩
   exact WideElems.Trod_stays hl (hr t (by simp)).1 (hr t (by simp)).2 h1 (fun x hx=>hb.same (hlt x (by simp [hx]))) (fun x hx=>hsp x (by simp [hx]))
 | [],[],_::_,_,_,h,_,_=>by simp [DataW.TrodAll] at h
 | [],_::_,_,_,_,h,_,_=>by simp [DataW.TrodAll] at h
 | _::_,[],_,_,_,h,_,_=>by simp [DataW.TrodAll] at h
 | _::_,_::_,[],_,_,h,_,_=>by simp [DataW.TrodAll] at h
theorem Ua {H:Type} {enc:TypeId × Value->H} {f:Func} {s:ChangeSpec} {apart fresh handsOn again:Bool} {W W':World} {args:Array Value} {v:Value} {ds gs:List (DataW H)} {before pa pv:List MemPlace}
 (hW:DataW.Whole enc P f.params.toList s.vars apart W args.toList ds gs before)
 (hres:∀ (b:Nat) (sp:Nat->Bool) (hd:Bool),DataW.TrodAll enc P W' b sp hd f.resultTypes.toList (v.resultList f.resultTypes.size) (s.fn H (ds++gs)).results [])
 (hargs:∀ sp:Nat->Bool,(∀ p∈before,sp p.block=true)->DataW.TrodAll enc P W' 0 sp true f.params.toList args.toList (s.fn H (ds++gs)).args pa)
 (hvars:∀ sp:Nat->Bool,(∀ p∈before,sp p.block=true)->DataW.TrodVars enc P W' sp s.vars (s.fn H (ds++gs)).vars pv)
 (hps:before=pa++pv) (hb:Below W.heap.size W W')
 (hok:∀ (j:Nat) (t:TypeId) (r:Value),f.resultTypes[j]? = some t->(v.resultList f.resultTypes.size)[j]? = some r->Value.okWide P W' .any 0 t r):
 s.post enc P f apart fresh handsOn again W args v W':=by
 have hlt:∀ p∈before,p.block<W.heap.size:=fun p hp=>hW.lt p hp
 have hold:∀ p∈before,(fun b=>decide (b<W.heap.size)) p.block=true:=fun p hp=>by simpa using hlt p hp
 refine ⟨ds,gs,before,[],pa,pv,hW,hres _ _ _,hargs _ hold,hvars _ hold,World.keptBut_mono (fun p hp=>⟨hp,?_⟩) (hb.frame (·∈before)),fun _=>?_⟩
 ·rw [hps,List.mem_append] at hp
  exact Or.inr hp
 ·obtain ⟨_,_,_,_,_,hz,hn⟩:=hW
  refine ⟨hok,_,_,([]++pa)++pv,⟨[]++pa,pv,trodAll_append (hargs _ (fun _ _=>rfl)) (hres _ _ _),hvars _ (fun _ _=>rfl),rfl,?_,?_⟩,?_⟩
  ·intro b off hp
   have hin:MemPlace.cell b off∈before:=by rw [hps];simpa using hp
   rw [hb.frozen (hlt _ hin)]
   exact hz b off hin
  ·intro ha
   have:=hn ha
   rw [hps] at this
   simpa using this
  ·intro p hp _
   rw [hps]
   simpa using hp
theorem jdd {H:Type} {enc:TypeId × Value->H} {id:FuncId} {f:Func} {s:ChangeSpec} {apart fresh handsOn again:Bool} {args:Array Value} {ds:List (DataW H)} {before:List MemPlace} {avs:List AV} {tb:TypeId}
 (hl:laidOutB P=true) (hr0:(f.params.toList.all fun t=>P.readableRec t&&Nat.blt t P.types.size)=true) (hrt:f.resultTypes=#[tb]) (htb:P.underlying tb=some .bool) (hvs:s.vars=[])
 (hW:DataW.Whole enc P f.params.toList s.vars apart W args.toList ds [] before) (hfn:s.fn H (ds++[])={ results:=[.lit (.bool true)],args:=ds })
 (hrep:Jq (vo W) je avs args.toList) (hc:FnR P id avs (.v (.bool true)) []) (hgl:GlC.G (vo W):=by exact True.intro):
 Calls P id args W fun e W'=>∃ v,e=.returned v/\s.post enc P f apart fresh handsOn again W args v W':=by
 have hr:∀ t∈f.params.toList,P.readableRec t=true/\t<P.types.size:=by
  intro t ht
  have:=List.all_eq_true.1 hr0 t ht
  simp only [Bool.and_eq_true] at this
  exact ⟨this.1,Nat.le_of_ble_eq_true this.2⟩
 have:=hc W (vo W) args.toList hgl (jbp W) hrep
 rw [Array.toArray_toList] at this
 refine this.mono ?_
 rintro e W' ⟨v,m',bl',rfl,hb,-,-,hv⟩
 have hv':=hv.YG
 subst hv'
 have hW':=hW
 obtain ⟨p,q,hA,hV,rfl,-,-⟩:=hW
 rw [hvs] at hV
 obtain ⟨-,rfl⟩:=trodVars_none hV
 simp only [List.append_nil] at hW' hfn ⊢
 refine ⟨_,rfl,Ua (pa:=p) (pv:=[]) hW' ?_ ?_ ?_ (by simp) hb ?_⟩
 ·intro b sp hd
  rw [List.append_nil,hfn,hrt]
  exact trodAll_mk1 (shut_bool htb _)
 ·intro sp hsp
  rw [List.append_nil,hfn]
  exact KR hl hb _ _ _ _ hr hA (fun x hx=>hW'.lt x hx) hsp
 ·intro sp hsp
  rw [List.append_nil,hfn,hvs]
  rfl
 ·exact ok_one hrt rfl (okWide_bool_mk htb _)
end
end
end Go.Rx
end

section
set_option linter.all false
namespace Go.Rx
theorem qq (n:Int) (h1 : -9223372036854775808<=n) (h2:n<=9223372036854775807):IntKind.i64.wrap n=n:=by
 simp [IntKind.wrap,IntKind.bits,IntKind.signed];omega
theorem wrap_u64 (n:Int):IntKind.u64.wrap n=n % 18446744073709551616:=by simp [IntKind.wrap,IntKind.bits,IntKind.signed]
theorem ZX {V X:Type} (step:(V->Option X)->V->Option X) (n:Nat) (v:V):qw step (n+1) v=step (qw step n) v:=rfl
@[simp] theorem Let_eq {β X:Type} (v:β) (k:β->X):Let v k=k v:=rfl
@[simp] theorem Bind_some {α β:Type} (x:α) (k:α->Option β):Bind (some x) k=k x:=rfl
@[simp] theorem Bind_none {α β:Type} (k:α->Option β):Bind none k=none:=rfl
theorem Bind_of {α β:Type} {m:Option α} {x:α} {k:α->Option β} (h:m=some x):Bind m k=k x:=by rw [h];rfl
theorem jV {α:Type} {c:Prop} [Decidable c] {k:Option α} (h:c):Chk c k=k:=if_pos h
@[simp] theorem Chk_true {α:Type} {k:Option α}:Chk True k=k:=rfl
theorem UL (n:Int) (h : -9223372036854775808<=n/\n<=9223372036854775807):w64 n=n:=qq n h.1 h.2
theorem VA (n:Int):(w64 n=n % 18446744073709551616/\n % 18446744073709551616<9223372036854775808)\/(w64 n=n % 18446744073709551616 - 18446744073709551616/\9223372036854775808<=n % 18446744073709551616):=by
 unfold w64
 simp only [IntKind.wrap,IntKind.bits,IntKind.signed]
 by_cases h:9223372036854775808<=n % 18446744073709551616
 ·right;refine ⟨?_,h⟩;simp;omega
 ·left;refine ⟨?_,by omega⟩;simp;omega
theorem Kh (n:Int):IntKind.u64.wrap n=n % 18446744073709551616:=wrap_u64 n
theorem Vf:IntKind.i64.min = -9223372036854775808:=rfl
theorem Vg:IntKind.i64.max=9223372036854775807:=rfl
theorem Zf (a b:Bool):(bif a then true else b)=(a||b):=by cases a <;> rfl
theorem Yq (a b:Bool):(bif a then b else false)=(a&&b):=by cases a <;> rfl
theorem fuel_lt (n:Nat) (h:n<2 ^ 70):n<fuel:=h
theorem ix_nat {α:Type} [Inhabited α] (l:List α) (i:Nat):ix l (i:Int)=l.getD i default:=rfl
theorem Ui {α:Type} [Inhabited α] (l:List α) (i:Nat) (h:i<l.length):ix l (i:Int)=l[i]:=by
 rw [ix_nat];simp [List.getD,List.getElem?_eq_getElem h]
theorem zw {α:Type} [Inhabited α] (l:List α) (i:Nat) (h:i<l.length):l.drop i=ix l (i:Int)::l.drop (i+1):=by
 rw [Ui l i h,List.drop_eq_getElem_cons h]
end Go.Rx
namespace Go.Rx
theorem Wc {α:Type} [Inhabited α] (l:List α) (i:Int) (h:0<=i/\i<l.length):ix l i∈l:=by
 obtain ⟨n,rfl⟩:=Int.eq_ofNat_of_zero_le h.1
 rw [Ui l n (by omega)];exact List.getElem_mem _
end Go.Rx
end

section
set_option linter.all false
namespace Go.Rx
theorem QQ {V ρ:Type} (K:V->Option ρ) (b:(V->Option ρ)->Option ρ):Join K b=b K:=Eq.trans (by rfl) (Eq.refl _)
theorem JD {β X:Type} (v:β) (k:β->X):Let v k=k v:=Eq.trans (by rfl) (Eq.refl _)
theorem jG {α β:Type} (x:α) (k:α->Option β):Bind (some x) k=k x:=Eq.trans (by rfl) (Eq.refl _)
theorem pA {α β:Type} {p:Prop} [Decidable p] (a d:α) (k:α->Option β):Bind (if p then some a else some d) k=k (if p then a else d):=by by_cases h:p <;> simp [h]
def Sm {α:Type} (l:List α):Prop:=l.length<2 ^ 62
theorem Zy {α:Type} {l:List α} {n:Nat} (h:l.length<=n) (hn:n<2 ^ 62):Sm l:=Nat.lt_of_le_of_lt h hn
theorem UK (i:Nat) (h:i<2 ^ 62):IntKind.i64.wrap ((i:Int)+1)=(i:Int)+1:=qq _ (by omega) (by omega)
theorem mn {α X:Type} [Inhabited α] (l:List α) (G:List α->Nat->Option X) (step:(Int->Option X)->Int->Option X) (hl:Sm l)
 (hs:∀ (r:Int->Option X) (i:Nat) (t:List α),IntKind.i64.wrap ((i:Int)+1)=(i:Int)+1->(0<=(i:Int)/\(i:Int)<(l.length:Int))->ix l (i:Int)∈l->r ((i:Int)+1)=G t (i+1)->step r (i:Int)=G (ix l (i:Int)::t) i)
 (he:∀ (r:Int->Option X),step r (l.length:Int)=G [] l.length):∀ (n i:Nat),i<=l.length->l.length - i<n->qw step n (i:Int)=G (l.drop i) i
 | 0,i,_,h=>by omega
 | n + 1,i,h1,h2=>by
   rw [ZX]
   by_cases h:i<l.length
   ·rw [zw l i h]
    exact hs _ i _ (UK i (by unfold Sm at hl;omega)) ⟨by omega,by omega⟩ (Wc l _ ⟨by omega,by omega⟩) (mn l G step hl hs he n (i+1) (by omega) (by omega))
   ·have e:i=l.length:=by omega
    subst e;rw [he,List.drop_length]
theorem pt {α X:Type} [Inhabited α] (l:List α) (G:List α->Nat->Option X) (step:(Int->Option X)->Int->Option X) (hl:Sm l)
 (hs:∀ (r:Int->Option X) (i:Nat) (t:List α),IntKind.i64.wrap ((i:Int)+1)=(i:Int)+1->(0<=(i:Int)/\(i:Int)<(l.length:Int))->ix l (i:Int)∈l->r ((i:Int)+1)=G t (i+1)->step r (i:Int)=G (ix l (i:Int)::t) i)
 (he:∀ (r:Int->Option X),step r (l.length:Int)=G [] l.length):qw step fuel (0:Int)=G l 0:=
 mn l G step hl hs he fuel 0 (Nat.zero_le _) (Nat.lt_trans (Nat.lt_of_le_of_lt (Nat.sub_le _ _) hl) (by unfold fuel;decide))
theorem mm {α σ X:Type} [Inhabited α] (l:List α) (G:List α->Nat->σ->Option X) (step:(σ × Int->Option X)->σ × Int->Option X) (hl:Sm l)
 (hs:∀ (r:σ × Int->Option X) (i:Nat) (t:List α) (s:σ),IntKind.i64.wrap ((i:Int)+1)=(i:Int)+1->(0<=(i:Int)/\(i:Int)<(l.length:Int))->ix l (i:Int)∈l->(∀ s,r (s,(i:Int)+1)=G t (i+1) s)->step r (s,(i:Int))=G (ix l (i:Int)::t) i s)
 (he:∀ (r:σ × Int->Option X) (s:σ),step r (s,(l.length:Int))=G [] l.length s):∀ (n i:Nat) (s:σ),i<=l.length->l.length - i<n->qw step n (s,(i:Int))=G (l.drop i) i s
 | 0,i,s,_,h=>by omega
 | n + 1,i,s,h1,h2=>by
   rw [ZX]
   by_cases h:i<l.length
   ·rw [zw l i h]
    exact hs _ i _ s (UK i (by unfold Sm at hl;omega)) ⟨by omega,by omega⟩ (Wc l _ ⟨by omega,by omega⟩) (fun s=>mm l G step hl hs he n (i+1) s (by omega) (by omega))
   ·have e:i=l.length:=by omega
    subst e;rw [he,List.drop_length]
theorem jcm {α σ X:Type} [Inhabited α] (l:List α) (G:List α->Nat->σ->Option X) (step:(σ × Int->Option X)->σ × Int->Option X) (s0:σ) (hl:Sm l)
 (hs:∀ (r:σ × Int->Option X) (i:Nat) (t:List α) (s:σ),IntKind.i64.wrap ((i:Int)+1)=(i:Int)+1->(0<=(i:Int)/\(i:Int)<(l.length:Int))->ix l (i:Int)∈l->(∀ s,r (s,(i:Int)+1)=G t (i+1) s)->step r (s,(i:Int))=G (ix l (i:Int)::t) i s)
 (he:∀ (r:σ × Int->Option X) (s:σ),step r (s,(l.length:Int))=G [] l.length s):qw step fuel (s0,(0:Int))=G l 0 s0:=
 mm l G step hl hs he fuel 0 s0 (Nat.zero_le _) (Nat.lt_trans (Nat.lt_of_le_of_lt (Nat.sub_le _ _) hl) (by unfold fuel;decide))
theorem ml {α σ X:Type} [Inhabited α] (l:List α) (G:List α->Nat->σ->Option X) (step:(Int × σ->Option X)->Int × σ->Option X) (hl:Sm l)
 (hs:∀ (r:Int × σ->Option X) (i:Nat) (t:List α) (s:σ),IntKind.i64.wrap ((i:Int)+1)=(i:Int)+1->(0<=(i:Int)/\(i:Int)<(l.length:Int))->ix l (i:Int)∈l->(∀ s,r ((i:Int)+1,s)=G t (i+1) s)->step r ((i:Int),s)=G (ix l (i:Int)::t) i s)
 (he:∀ (r:Int × σ->Option X) (s:σ),step r ((l.length:Int),s)=G [] l.length s):∀ (n i:Nat) (s:σ),i<=l.length->l.length - i<n->qw step n ((i:Int),s)=G (l.drop i) i s
 | 0,i,s,_,h=>by omega
 | n + 1,i,s,h1,h2=>by
   rw [ZX]
   by_cases h:i<l.length
   ·rw [zw l i h]
    exact hs _ i _ s (UK i (by unfold Sm at hl;omega)) ⟨by omega,by omega⟩ (Wc l _ ⟨by omega,by omega⟩) (fun s=>ml l G step hl hs he n (i+1) s (by omega) (by omega))
   ·have e:i=l.length:=by omega
    subst e;rw [he,List.drop_length]
theorem jgI {α σ X:Type} [Inhabited α] (l:List α) (G:List α->Nat->σ->Option X) (step:(Int × σ->Option X)->Int × σ->Option X) (s0:σ) (hl:Sm l)
 (hs:∀ (r:Int × σ->Option X) (i:Nat) (t:List α) (s:σ),IntKind.i64.wrap ((i:Int)+1)=(i:Int)+1->(0<=(i:Int)/\(i:Int)<(l.length:Int))->ix l (i:Int)∈l->(∀ s,r ((i:Int)+1,s)=G t (i+1) s)->step r ((i:Int),s)=G (ix l (i:Int)::t) i s)
 (he:∀ (r:Int × σ->Option X) (s:σ),step r ((l.length:Int),s)=G [] l.length s):qw step fuel ((0:Int),s0)=G l 0 s0:=
 ml l G step hl hs he fuel 0 s0 (Nat.zero_le _) (Nat.lt_trans (Nat.lt_of_le_of_lt (Nat.sub_le _ _) hl) (by unfold fuel;decide))
theorem jco {α σ X:Type} [Inhabited α] (l:List α) (P:Nat->σ->Prop) (G:List α->Nat->σ->Option X) (step:(σ × Int->Option X)->σ × Int->Option X) (hl:Sm l)
 (hs:∀ (r:σ × Int->Option X) (i:Nat) (t:List α) (s:σ),P i s->IntKind.i64.wrap ((i:Int)+1)=(i:Int)+1->(0<=(i:Int)/\(i:Int)<(l.length:Int))->ix l (i:Int)∈l->(∀ s,P (i+1) s->r (s,(i:Int)+1)=G t (i+1) s)->step r (s,(i:Int))=G (ix l (i:Int)::t) i s)
 (he:∀ (r:σ × Int->Option X) (s:σ),P l.length s->step r (s,(l.length:Int))=G [] l.length s):∀ (n i:Nat) (s:σ),P i s->i<=l.length->l.length - i<n->qw step n (s,(i:Int))=G (l.drop i) i s
 | 0,i,s,_,_,h=>by omega
 | n + 1,i,s,hp,h1,h2=>by
   rw [ZX]
   by_cases h:i<l.length
   ·rw [zw l i h]
    exact hs _ i _ s hp (UK i (by unfold Sm at hl;omega)) ⟨by omega,by omega⟩ (Wc l _ ⟨by omega,by omega⟩) (fun s hp=>jco l P G step hl hs he n (i+1) s hp (by omega) (by omega))
   ·have e:i=l.length:=by omega
    subst e;rw [he _ _ hp,List.drop_length]
theorem mo {α σ X:Type} [Inhabited α] (l:List α) (P:Nat->σ->Prop) (G:List α->Nat->σ->Option X) (step:(σ × Int->Option X)->σ × Int->Option X) (s0:σ) (hl:Sm l) (h0:P 0 s0)
 (hs:∀ (r:σ × Int->Option X) (i:Nat) (t:List α) (s:σ),P i s->IntKind.i64.wrap ((i:Int)+1)=(i:Int)+1->(0<=(i:Int)/\(i:Int)<(l.length:Int))->ix l (i:Int)∈l->(∀ s,P (i+1) s->r (s,(i:Int)+1)=G t (i+1) s)->step r (s,(i:Int))=G (ix l (i:Int)::t) i s)
 (he:∀ (r:σ × Int->Option X) (s:σ),P l.length s->step r (s,(l.length:Int))=G [] l.length s):qw step fuel (s0,(0:Int))=G l 0 s0:=
 jco l P G step hl hs he fuel 0 s0 h0 (Nat.zero_le _) (Nat.lt_trans (Nat.lt_of_le_of_lt (Nat.sub_le _ _) hl) (by unfold fuel;decide))
theorem jcn {α σ X:Type} [Inhabited α] (l:List α) (P:Nat->σ->Prop) (G:List α->Nat->σ->Option X) (step:(Int × σ->Option X)->Int × σ->Option X) (hl:Sm l)
 (hs:∀ (r:Int × σ->Option X) (i:Nat) (t:List α) (s:σ),P i s->IntKind.i64.wrap ((i:Int)+1)=(i:Int)+1->(0<=(i:Int)/\(i:Int)<(l.length:Int))->ix l (i:Int)∈l->(∀ s,P (i+1) s->r ((i:Int)+1,s)=G t (i+1) s)->step r ((i:Int),s)=G (ix l (i:Int)::t) i s)
 (he:∀ (r:Int × σ->Option X) (s:σ),P l.length s->step r ((l.length:Int),s)=G [] l.length s):∀ (n i:Nat) (s:σ),P i s->i<=l.length->l.length - i<n->qw step n ((i:Int),s)=G (l.drop i) i s
 | 0,i,s,_,_,h=>by omega
 | n + 1,i,s,hp,h1,h2=>by
   rw [ZX]
   by_cases h:i<l.length
   ·rw [zw l i h]
    exact hs _ i _ s hp (UK i (by unfold Sm at hl;omega)) ⟨by omega,by omega⟩ (Wc l _ ⟨by omega,by omega⟩) (fun s hp=>jcn l P G step hl hs he n (i+1) s hp (by omega) (by omega))
   ·have e:i=l.length:=by omega
    subst e;rw [he _ _ hp,List.drop_length]
theorem LOOP_j {α σ X:Type} [Inhabited α] (l:List α) (P:Nat->σ->Prop) (G:List α->Nat->σ->Option X) (step:(Int × σ->Option X)->Int × σ->Option X) (s0:σ) (hl:Sm l) (h0:P 0 s0)
 (hs:∀ (r:Int × σ->Option X) (i:Nat) (t:List α) (s:σ),P i s->IntKind.i64.wrap ((i:Int)+1)=(i:Int)+1->(0<=(i:Int)/\(i:Int)<(l.length:Int))->ix l (i:Int)∈l->(∀ s,P (i+1) s->r ((i:Int)+1,s)=G t (i+1) s)->step r ((i:Int),s)=G (ix l (i:Int)::t) i s)
 (he:∀ (r:Int × σ->Option X) (s:σ),P l.length s->step r ((l.length:Int),s)=G [] l.length s):qw step fuel ((0:Int),s0)=G l 0 s0:=
 jcn l P G step hl hs he fuel 0 s0 h0 (Nat.zero_le _) (Nat.lt_trans (Nat.lt_of_le_of_lt (Nat.sub_le _ _) hl) (by unfold fuel;decide))
theorem dlt {i n:Int} (h:0<=i/\i<n):decide (i<n)=true:=decide_eq_true h.2
theorem dll (n:Int):decide (n<n)=false:=decide_eq_false (Int.lt_irrefl n)
theorem ff:(false=true)=False:=eq_false (fun h=>Bool.noConfusion h)
end Go.Rx
namespace Go.Rx
theorem vN {α X:Type} [Inhabited α] [DecidableEq α] (l m:List α) (fin bad:Option X) (step:(Int->Option X)->Int->Option X) (hl:Sm l) (hlen:l.length=m.length)
 (hs:∀ (r:Int->Option X) (i:Nat),IntKind.i64.wrap ((i:Int)+1)=(i:Int)+1->(0<=(i:Int)/\(i:Int)<(l.length:Int))->(0<=(i:Int)/\(i:Int)<(m.length:Int))->ix l (i:Int)∈l->step r (i:Int)=if ix l (i:Int)=ix m (i:Int) then r ((i:Int)+1) else bad)
 (he:∀ (r:Int->Option X),step r (l.length:Int)=fin):qw step fuel (0:Int)=if l=m then fin else bad:=by
 have:=pt l (fun t i=>if t=m.drop i then fin else bad) step hl ?_ ?_
 ·simpa using this
 ·intro r i t hw hc hm hr
  have hc2:0<=(i:Int)/\(i:Int)<(m.length:Int):=by omega
  rw [hs r i hw hc hc2 hm,hr,zw m i (by omega)]
  by_cases h:ix l (i:Int)=ix m (i:Int)
  ·simp [h]
  ·simp [h]
 ·intro r;rw [he,hlen,List.drop_length];simp
end Go.Rx
namespace Go.Rx
theorem jcp {V α X:Type} [Inhabited α] (l:List α) (pos:V->Int) (P:Nat->V->Prop) (G:List α->V->Option X) (step:(V->Option X)->V->Option X) (hl:Sm l)
 (hs:∀ (r:V->Option X) (i:Nat) (t:List α) (v:V),pos v=(i:Int)->P i v->IntKind.i64.wrap ((i:Int)+1)=(i:Int)+1->(0<=(i:Int)/\(i:Int)<(l.length:Int))->ix l (i:Int)∈l->(∀ v',pos v'=(i:Int)+1->P (i+1) v'->r v'=G t v')->step r v=G (ix l (i:Int)::t) v)
 (he:∀ (r:V->Option X) (v:V),pos v=(l.length:Int)->P l.length v->step r v=G [] v):∀ (n i:Nat) (v:V),pos v=(i:Int)->P i v->i<=l.length->l.length - i<n->qw step n v=G (l.drop i) v
 | 0,i,v,_,_,_,h=>by omega
 | n + 1,i,v,hv,hp,h1,h2=>by
   rw [ZX]
   by_cases h:i<l.length
   ·rw [zw l i h]
    exact hs _ i _ v hv hp (UK i (by unfold Sm at hl;omega)) ⟨by omega,by omega⟩ (Wc l _ ⟨by omega,by omega⟩) (fun v' hv' hp'=>jcp l pos P G step hl hs he n (i+1) v' (by omega) hp' (by omega) (by omega))
   ·have e:i=l.length:=by omega
    subst e;rw [he _ _ hv hp,List.drop_length]
theorem LOOP_g {V α X:Type} [Inhabited α] (l:List α) (pos:V->Int) (P:Nat->V->Prop) (G:List α->V->Option X) (step:(V->Option X)->V->Option X) (v0:V) (hl:Sm l) (hv:pos v0=0) (hp:P 0 v0)
 (hs:∀ (r:V->Option X) (i:Nat) (t:List α) (v:V),pos v=(i:Int)->P i v->IntKind.i64.wrap ((i:Int)+1)=(i:Int)+1->(0<=(i:Int)/\(i:Int)<(l.length:Int))->ix l (i:Int)∈l->(∀ v',pos v'=(i:Int)+1->P (i+1) v'->r v'=G t v')->step r v=G (ix l (i:Int)::t) v)
 (he:∀ (r:V->Option X) (v:V),pos v=(l.length:Int)->P l.length v->step r v=G [] v):qw step fuel v0=G l v0:=
 jcp l pos P G step hl hs he fuel 0 v0 hv hp (Nat.zero_le _) (Nat.lt_trans (Nat.lt_of_le_of_lt (Nat.sub_le _ _) hl) (by unfold fuel;decide))
end Go.Rx
namespace Go.Rx
theorem zU {α X:Type} [Inhabited α] (l:List α) (q:α->Bool) (fin bad:Option X) (step:(Int->Option X)->Int->Option X) (hl:Sm l)
 (hs:∀ (r:Int->Option X) (i:Nat),IntKind.i64.wrap ((i:Int)+1)=(i:Int)+1->(0<=(i:Int)/\(i:Int)<(l.length:Int))->ix l (i:Int)∈l->step r (i:Int)=if q (ix l (i:Int))=true then r ((i:Int)+1) else bad)
 (he:∀ (r:Int->Option X),step r (l.length:Int)=fin):qw step fuel (0:Int)=if l.all q=true then fin else bad:=by
 refine pt l (fun t _=>if t.all q=true then fin else bad) step hl ?_ ?_
 ·intro r i t hw hc hm hr
  rw [hs r i hw hc hm,hr,List.all_cons]
  cases q (ix l (i:Int)) <;> simp
 ·intro r;rw [he];rfl
end Go.Rx
end
