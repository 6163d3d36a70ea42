/- Several texts in one. No conditions. -/
import Derived.Test.YtelkhkmeoahhlaaGreatDoorQD
import Derived.Lib.Bytealg
import Derived.Lib.Join
import Derived.Laws.IdiomArrays
import Derived.ProofKit
import Derived.Carry
import Derived.Below
import Derived.ChangeSame
import Derived.Deep.Slices
import Derived.OpenShut
section
set_option linter.all false
namespace Go.Rx
section
open Go.RowKit
variable [GlC]
def Join {V ρ:Type} (K:V->Option ρ) (b:(V->Option ρ)->Option ρ):Option ρ:=b K
def asgO:List Oper->List Nat
 | []=>[]
 | o::os=>match o.dst with | some d=>d::asgO os | none=>asgO os
def asgC:Code->List Nat
 | .region _ ops _=>asgO ops.toList
 | .seq a b=>asgC a++asgC b
 | .cond _ a b=>asgC a++asgC b
 | .block _ a=>asgC a
 | .loop a=>asgC a
 | _=>[]
section
variable {tb:Tb}
def An.j:An tb->Option (JA tb)
 | .n=>none
 | .t j _ _=>j
def An.l:An tb->An tb
 | .n=>.n
 | .t _ a _=>a
def An.r:An tb->An tb
 | .n=>.n
 | .t _ _ b=>b
end
section
variable {P:Program} {tb:Tb} {ρ:Type} {cx:Ctx P tb}
def loopU (body:SLS tb->(AExit->SLS tb->Option ρ)->Option ρ):Nat->SLS tb->(AExit->SLS tb->Option ρ)->Option ρ
 | 0,_,_=>none
 | n+1,L,k=>body L fun e L'=>match e with
   | .normal=>loopU body n L' k
   | e=>k e L'
noncomputable def exec (cx:Ctx P tb) (I:Iln P tb ρ) (im:Nat->Bool) (bar:Nat->Nat) (N:Nat):Code->An tb->SLS tb->(AExit->SLS tb->Option ρ)->Option ρ
 | .skip,_,L,k=>k .normal L
 | .region id ops draw,_,L,k=>runR cx I im N draw (bar id) ops L (k .normal)
 | .seq a b,n,L,k=>(match n.j with
   | none=>exec cx I im bar N a n.l L fun e L'=>match e with
     | .normal=>exec cx I im bar N b n.r L' k
     | e=>k e L'
   | some A=>preJ L A.vars L fun L=>tst (wf L) <| Join (fun v=>exec cx I im bar N b n.r (stJ cx L (asgC a) A v) k) fun J=>exec cx I im bar N a n.l L fun e L'=>match e with
     | .normal=>preJ L A.vars L' fun L2=>unJ cx L (asgC a) A L2 J
     | e=>k e L')
 | .cond c a b,n,L,k=>got (opd L [] c) fun x=>(match x with
   | .con (.bool t)=>(match t with | true=>exec cx I im bar N a n.l L k | false=>exec cx I im bar N b n.r L k)
   | .bo t=>If t (exec cx I im bar N a n.l L k) (exec cx I im bar N b n.r L k)
   | _=>none)
 | .block id a,n,L,k=>exec cx I im bar N a n.l L fun e L'=>match e with
   | .exit j=>(match Nat.beq j id with | true=>k .normal L' | false=>k (.exit j) L')
   | e=>k e L'
 | .loop a,n,L,k=>(match n.j with
   | none=>loopU (fun L k=>exec cx I im bar N a n.l L k) 8 L k
   | some A=>preJ L A.vars L fun L=>tst (wf L) <| unJ cx L (asgC a) A L fun v0=>LOOP (fun rec v=>exec cx I im bar N a n.l (stJ cx L (asgC a) A v) fun e L'=>match e with
     | .normal=>preJ L A.vars L' fun L2=>unJ cx L (asgC a) A L2 rec
     | e=>k e L') fuel v0)
 | .exit id,_,L,k=>k (.exit id) L
 | .ret,_,L,k=>k .ret L
 | _,_,_,_=>none
def EndOk (L:SLS tb) (k:AExit->SLS tb->Option ρ) (r:ρ) (e:AExit) (Lf:LS):Prop:=∃ L',k e L'=some r/\RI [] L'.e/\Ext L L'/\Tells Lf L'.av
theorem Wp.post {P N c Q Q' L} (h:Wp P N c Q L) (hq:∀ e Lf,Q e Lf->∃ L2,Tells Lf L2/\Q' e L2):Wp P N c Q' L:=
 fun _ _ _ _ _ _ _ s Qc hc=>h _ _ _ _ _ _ _ s Qc fun e L' a' w' m' bl' q s'=>
  let ⟨L2,t,q2⟩:=hq e L' q
  let ⟨_,_,s2⟩:=t _ _ _ _ _ _ _ _ s'
  hc e L2 a' w' _ _ q2 s2
theorem exec_ok {I:Iln P tb ρ} (hI:InlOk I) {im bar N}:∀ {c:Code} {n:An tb} {L:SLS tb} {k:AExit->SLS tb->Option ρ} {r},RI [] L.e->exec cx I im bar N c n L k=some r->Wp P N c (EndOk L k r) L.av
 | .skip,n,L,k,r,hi,h=>Wp.skip ⟨L,h,hi,.refl L,.refl _⟩
 | .region id ops draw,n,L,k,r,hi,h=>runR_ok hI hi (show runR cx I im N draw (bar id) ops L (k .normal)=some r from h) fun L' h' hi' x' L0 ht=>⟨L',h',hi',x',ht⟩
 | .exit id,n,L,k,r,hi,h=>Wp.exit ⟨L,h,hi,.refl L,.refl _⟩
 | .ret,n,L,k,r,hi,h=>Wp.ret ⟨L,h,hi,.refl L,.refl _⟩
 | .block id a,n,L,k,r,hi,h=>by
   refine Wp.block ((exec_ok hI (c:=a) hi (show exec cx I im bar N a n.l L _=some r from h)).mono ?_)
   rintro e Lf ⟨L',h',hi',x',ht⟩
   cases e with
   | normal=>exact ⟨L',h',hi',x',ht⟩
   | ret=>exact ⟨L',h',hi',x',ht⟩
   | exit j=>
     simp only [AExit.inBlock]
     have h':(match Nat.beq j id with | true=>k .normal L' | false=>k (.exit j) L')=some r:=h'
     split at h'
     ·rename_i hb
      rw [if_pos (Nat.eq_of_beq_eq_true hb)]
      exact ⟨L',h',hi',x',ht⟩
     ·rename_i hb
      rw [if_neg (fun he=>by subst he;rw [Nat.beq_refl] at hb;cases hb)]
      exact ⟨L',h',hi',x',ht⟩
 | .cond c a b,n,L,k,r,hi,h=>by
   obtain ⟨x,hx,h2⟩:=got_e (show got (opd L [] c) _=some r from h)
   clear h
   have hy:=opd_ok (Gu.nil hi.inv) hx
   cases x with
   | con v=>
     cases v with
     | bool t=>
       cases t with
       | true=>exact Wp.cond (t:=true) hy (fun _=>exec_ok hI hi h2) (fun h=>by cases h)
       | false=>exact Wp.cond (t:=false) hy (fun h=>by cases h) (fun _=>exec_ok hI hi h2)
     | _=>cases h2
   | bo t=>
     have h3:(if t=true then exec cx I im bar N a n.l L k else exec cx I im bar N b n.r L k)=some r:=h2
     refine Wp.cond (t:=t) hy (fun ht=>?_) (fun ht=>?_)
     ·rw [if_pos ht] at h3;exact exec_ok hI hi h3
     ·rw [if_neg (by rw [ht];simp)] at h3;exact exec_ok hI hi h3
   | _=>cases h2
 | .seq a b,n,L,k,r,hi,h=>by
   have h:(match n.j with
    | none=>exec cx I im bar N a n.l L fun e L'=>match e with
      | .normal=>exec cx I im bar N b n.r L' k
      | e=>k e L'
    | some A=>preJ L A.vars L fun L=>tst (wf L) <| Join (fun v=>exec cx I im bar N b n.r (stJ cx L (asgC a) A v) k) fun J=>exec cx I im bar N a n.l L fun e L'=>match e with
      | .normal=>preJ L A.vars L' fun L2=>unJ cx L (asgC a) A L2 J
      | e=>k e L')=some r:=h
   split at h
   ·refine Wp.seq ((exec_ok hI (c:=a) hi h).mono ?_)
    rintro e Lf ⟨L',h',hi',x',ht⟩
    cases e with
    | normal=>
      refine Wp.tells ht ((exec_ok hI (c:=b) hi' h').mono ?_)
      rintro e Lf ⟨L2,h2,hi2,x2,ht2⟩
      exact ⟨L2,h2,hi2,x'.trans x2,ht2⟩
    | exit j=>exact ⟨L',h',hi',x',ht⟩
    | ret=>exact ⟨L',h',hi',x',ht⟩
   ·rename_i A _
    obtain ⟨L9,h,g9⟩:=preJ_ok cx h
    have hi:=g9.i hi
    obtain ⟨hw,h⟩:=tst_e h
    have h:=(show exec cx I im bar N a n.l L9 _=some r from h)
    refine Wp.tells g9.t (Wp.seq ((exec_ok hI (c:=a) hi h).mono ?_))
    rintro e Lf ⟨L',h',hi',x',ht⟩
    cases e with
    | normal=>
      obtain ⟨L8,h',g8⟩:=preJ_ok cx h'
      obtain ⟨v,h2,hi2,x2,ht2⟩:=unJ_ok (wf_e hw) hi (x'.trans g8.x) h'
      refine Wp.tells ((ht.trans g8.t).trans ht2) ((exec_ok hI (c:=b) hi2 h2).mono ?_)
      rintro e Lf ⟨L3,h3,hi3,x3,ht3⟩
      exact ⟨L3,h3,hi3,g9.x.trans (x2.trans x3),ht3⟩
    | exit j=>exact ⟨L',h',hi',g9.x.trans x',ht⟩
    | ret=>exact ⟨L',h',hi',g9.x.trans x',ht⟩
 | .loop a,n,L,k,r,hi,h=>by
   have h:(match n.j with
    | none=>loopU (fun L k=>exec cx I im bar N a n.l L k) 8 L k
    | some A=>preJ L A.vars L fun L=>tst (wf L) <| unJ cx L (asgC a) A L fun v0=>LOOP (fun rec v=>exec cx I im bar N a n.l (stJ cx L (asgC a) A v) fun e L'=>match e with
      | .normal=>preJ L A.vars L' fun L2=>unJ cx L (asgC a) A L2 rec
      | e=>k e L') fuel v0)=some r:=h
   split at h
   ·refine Wp.loopS (fun L':SLS tb=>L'.av) (fun m L'=>loopU (fun L k=>exec cx I im bar N a n.l L k) m L' k=some r/\RI [] L'.e/\Ext L L') 8 L ⟨h,hi,.refl L⟩ (.refl _) ?_
    rintro m L1 ⟨hm,hi1,x1⟩
    cases m with
    | zero=>cases hm
    | succ m=>
      have hm:exec cx I im bar N a n.l L1 (fun e L'=>match e with
       | .normal=>loopU (fun L k=>exec cx I im bar N a n.l L k) m L' k
       | e=>k e L')=some r:=hm
      refine (exec_ok hI (c:=a) hi1 hm).mono ?_
      rintro e Lf ⟨L',h',hi',x',ht⟩
      cases e with
      | normal=>exact ⟨m,L',Nat.lt_succ_self m,⟨h',hi',x1.trans x'⟩,ht⟩
      | exit j=>exact ⟨L',h',hi',x1.trans x',ht⟩
      | ret=>exact ⟨L',h',hi',x1.trans x',ht⟩
   ·rename_i A _
    obtain ⟨L9,h,g9⟩:=preJ_ok cx h
    have hi:=g9.i hi
    obtain ⟨hw,h⟩:=tst_e h
    have hw:=wf_e hw
    obtain ⟨v0,h,hi0,x0,ht0⟩:=unJ_ok hw hi (.refl L9) h
    generalize hstep:(fun (rec:VT A.vars->Option ρ) v=>exec cx I im bar N a n.l (stJ cx L9 (asgC a) A v) fun e L'=>match e with
     | .normal=>preJ L9 A.vars L' fun L2=>unJ cx L9 (asgC a) A L2 rec
     | e=>k e L')=step at h
    refine Wp.tells g9.t (Wp.loopS (fun v=>(stJ cx L9 (asgC a) A v).av) (fun m v=>LOOP step m v=some r/\RI [] (stJ cx L9 (asgC a) A v).e/\Ext L9 (stJ cx L9 (asgC a) A v)) fuel v0 ⟨h,hi0,x0⟩ ht0 ?_)
    rintro m v ⟨hm,hiv,xv⟩
    cases m with
    | zero=>cases hm
    | succ m=>
      have hm:step (LOOP step m) v=some r:=hm
      rw [<- hstep] at hm
      refine (exec_ok hI (c:=a) hiv hm).mono ?_
      rintro e Lf ⟨L',h',hi',x',ht⟩
      cases e with
      | normal=>
        obtain ⟨L8,h',g8⟩:=preJ_ok cx h'
        obtain ⟨v',h2,hi2,x2,ht2⟩:=unJ_ok hw hi ((xv.trans x').trans g8.x) h'
        rw [hstep] at h2
        exact ⟨m,v',Nat.lt_succ_self m,⟨h2,hi2,x2⟩,(ht.trans g8.t).trans ht2⟩
      | exit j=>exact ⟨L',h',hi',g9.x.trans (xv.trans x'),ht⟩
      | ret=>exact ⟨L',h',hi',g9.x.trans (xv.trans x'),ht⟩
 | .rangeFunc _ _ _ _,n,L,k,r,hi,h=>by cases h
 | .scope _,n,L,k,r,hi,h=>by cases h
 | .label _,n,L,k,r,hi,h=>by cases h
 | .goto _,n,L,k,r,hi,h=>by cases h
 | .refuse _,n,L,k,r,hi,h=>by cases h
noncomputable def inlBy (cx:Ctx P tb) (I:Iln P tb ρ):Iln P tb ρ:=fun i xs d L gs k=>
 tst (Nat.ble xs.length i.fn.ntmps) <| tst (hasL (keepQ L.gn) xs) <| tst (noOpts xs) <|
 exec cx I i.im i.bar i.fn.ntmps i.code i.an { L with e:=envS 0 xs,s:=L.e::L.s } fun e L'=>match e with
 | .exit _=>none
 | _=>cutR [] i.fn.results.toList L' fun L'=>got (resSs P L' i.fn.results.toList) fun ys=>tst (hasL (keepQ L'.gn) ys) <| tst (noOpts ys) <| k { L' with e:=(d,tupSV ys)::L.e,s:=L.s } gs
theorem inlBy_ok {I:Iln P tb ρ} (hI:InlOk I):InlOk (inlBy cx I):=by
 intro i xs d L gs k r hi hm h N ops rest K o y args tys as caps hg ho hd hN hy has hxs kk
 subst hxs
 unfold inlBy at h
 obtain ⟨hle,h⟩:=tst_e h
 obtain ⟨hkx,h⟩:=tst_e h
 obtain ⟨hox,h⟩:=tst_e h
 have hkx:=resL_keep hkx
 have hE:RI [] (envS 0 (as++caps):SEnv tb):=by
  intro t G x hx
  have:=noOpts_e hox _ (envS_mem hx)
  cases this
 have key:=exec_ok hI hE h
 refine GoT.act hg (fun d' h'=>by rw [hd] at h';cases h';exact hN)
  (AEx.inl (L:=L.av) (K:=fun L1=>GoT P ops N rest K L1) (fn:=i.fn) (c:=i.code) (N2:=i.fn.ntmps) (xs:=avL as) (caps:=avL caps) ho hd i.hf i.hb rfl i.call hy has ?_ ?_) (fun L' h=>h)
 ·rw [<- avL_append,avL_length];exact Nat.le_of_ble_eq_true hle
 ·have e0:(⟨envS 0 (as++caps),L.e::L.s,L.h,L.nx,L.gn⟩:SLS tb).av=⟨envFrom 0 (avL as++avL caps),L.av.e::L.av.s,L.av.h,L.av.f⟩:=by
   show (⟨avE L.gn (envS 0 (as++caps)),_,_,_⟩:LS)=_
   rw [envS_av hkx,avL_append];rfl
  rw [e0] at key
  refine key.post ?_
  rintro e Lf ⟨L',h',hi',x',ht⟩
  have main:cutR [] i.fn.results.toList L' (fun L'=>got (resSs P L' i.fn.results.toList) fun ys=>tst (hasL (keepQ L'.gn) ys) <| tst (noOpts ys) <| k { L' with e:=(d,tupSV ys)::L.e,s:=L.s } gs)=some r->
   ∃ L2,Tells Lf L2/\∃ xs e0 s0,RessOk P L2 i.fn.results.toList xs/\L2.s=e0::s0/\GoT P ops N rest K ⟨(d,tupleOf xs)::e0,s0,L2.h,L2.f⟩:=by
   intro h'
   obtain ⟨L9,h',g9⟩:=cutR_ok cx h'
   obtain ⟨ys,hys,h'⟩:=got_e h'
   obtain ⟨hky,h'⟩:=tst_e h'
   obtain ⟨hoy,h'⟩:=tst_e h'
   have hky:=resL_keep hky
   have x9:=x'.trans g9.x
   refine ⟨L9.av,ht.trans g9.t,avL ys,avE L9.gn L.e,L.s.map (avE L9.gn),resSs_ok hys,?_,?_⟩
   ·show L9.s.map (avE L9.gn)=_
    rw [x9.s];rfl
   ·have:=kk _ _ h' (hi.put hm (tupSV_opt hoy)) ⟨rfl,⟨[_],rfl⟩,x9.h,x9.nx,x9.gn⟩
    have e1:({ L9 with e:=(d,tupSV ys)::L.e,s:=L.s }:SLS tb).av=⟨(d,tupleOf (avL ys))::avE L9.gn L.e,L.s.map (avE L9.gn),L9.av.h,L9.av.f⟩:=by
     show (⟨(d,((tupSV ys).res L9.gn).av)::avE L9.gn L.e,_,_,_⟩:LS)=_
     rw [tupSV_res hky,tupSV_av];rfl
    rw [e1] at this
    exact this
  cases e with
  | exit j=>cases h'
  | normal=>obtain ⟨L2,t2,q⟩:=main h';exact ⟨L2,t2,.inl rfl,q⟩
  | ret=>obtain ⟨L2,t2,q⟩:=main h';exact ⟨L2,t2,.inr rfl,q⟩
noncomputable def lvl (cx:Ctx P tb):Nat->Iln P tb ρ
 | 0=>noIln
 | n+1=>inlBy cx (lvl cx n)
theorem lvl_ok:∀ n,InlOk (lvl (ρ:=ρ) cx n)
 | 0=>noIln_ok
 | n+1=>inlBy_ok (lvl_ok n)
end
end
section
open Go.RowKit
variable [GlC]
def barF:List (Nat × Nat)->Nat->Nat
 | [],_=>100000
 | (a,b)::l,r=>match Nat.beq a r with | true=>b | false=>barF l r
section
variable {P:Program} {tb:Tb} {cx:Ctx P tb}
structure CloD (tb:Tb) (ps rs:List tb.Ix) where
 g:Tup tb ps->Option (Tup tb rs)
 f:Nat
 caps:List AV
 h:CloR tb f caps ps rs g
def PTy.D:PTy tb->Type
 | .d i=>tb.T i
 | .cap i=>tb.T i
 | .fn ps rs=>CloD tb ps rs
def DArgs (tb:Tb):List (PTy tb)->Type
 | []=>Unit
 | p::r=>p.D × DArgs tb r
def fgt:(p:PTy tb)->p.D->p.den
 | .d _,x=>x
 | .cap _,x=>x
 | .fn _ _,c=>c.g
def fgts:(l:List (PTy tb))->DArgs tb l->PArgs tb l
 | [],_=>()
 | p::r,a=>(fgt p a.1,fgts r a.2)
def argSV (cx:Ctx P tb):(p:PTy tb)->p.D->SV tb
 | .d i,x=>(cx.cd i).sv x
 | .cap i,x=>.cp ((cx.cd i).cs x)
 | .fn ps rs,c=>.cl ps rs c.g c.f c.caps c.h
def argSVs (cx:Ctx P tb):(l:List (PTy tb))->DArgs tb l->Nat->SEnv tb
 | [],_,_=>[]
 | p::r,a,k=>(k,argSV cx p a.1)::argSVs cx r a.2 (k+1)
theorem args_D (cx:Ctx P tb):∀ {l:List (PTy tb)} {a avs},ArgsR P l a avs->∃ d:DArgs tb l,fgts l d=a/\∀ k,avE [] (argSVs cx l d k)=envFrom k avs
 | [],a,[],_=>⟨(),rfl,fun _=>rfl⟩
 | [],a,_::_,h=>by cases h
 | p::l,a,[],h=>by cases p <;> cases h
 | p :: l,(a,b),v::vs,h=>by
   obtain ⟨h1,h2⟩:=h
   obtain ⟨d,hd1,hd2⟩:=args_D cx h2
   have rsv:∀ x:SV tb,x.res []=x:=fun x=>res_keep (has_all (fun _=>rfl) x)
   cases p with
   | d i=>
     refine ⟨(a,d),Prod.ext rfl hd1,fun k=>?_⟩
     show (k,((argSV cx (.d i) a).res []).av)::avE [] (argSVs cx l d (k+1))=(k,v)::envFrom (k+1) vs
     rw [hd2,rsv]
     have e1:(argSV cx (.d i) a).av=tb.el i a:=(cx.ok i).sv a
     rw [e1]
     have:v=tb.el i a:=h1
     rw [this]
   | cap i=>
     refine ⟨(a,d),Prod.ext rfl hd1,fun k=>?_⟩
     show (k,((argSV cx (.cap i) a).res []).av)::avE [] (argSVs cx l d (k+1))=(k,v)::envFrom (k+1) vs
     rw [hd2,rsv]
     have e1:(argSV cx (.cap i) a).av=.cptr (tb.el i a).cells:=congrArg AV.cptr ((cx.ok i).cs a)
     rw [e1]
     have:v=.cptr (tb.el i a).cells:=h1
     rw [this]
   | fn ps rs=>
     obtain ⟨f,caps,rfl,hc⟩:=h1
     exact ⟨((⟨a,f,caps,hc⟩:CloD tb ps rs),d),Prod.ext rfl hd1,fun k=>by
      show (k,_)::avE [] (argSVs cx l d (k+1))=(k,_)::envFrom (k+1) vs
      rw [hd2];rfl⟩
def L00:SLS tb:=⟨[],[],[],0,[]⟩
def kfin (cx:Ctx P tb) (own:List Nat) (rs:List tb.Ix) (vs:List ResultVar) (e:AExit) (L:SLS tb):Option (Tup tb rs):=match e with
 | .exit _=>none
 | _ => match own with
   | []=>cutR [] vs L fun L=>got (resSs P L vs) fun xs=>frzK (nmsL xs []) L fun L=>got (resSs P L vs) fun xs=>tst (hasL (fun _=>false) xs) (tupD cx rs xs)
   | _::_=>cutR [] vs L fun L=>got (resSs P L vs) fun xs=>frzK (nonOwn own 0 (match xs with | [x]=>cellsS x | _=>[]) []) L fun L=>got (resSs P L vs) fun xs=>match rs,xs with
     | [i],[x]=>tst (x.has (keepQ L.gn)) <| unJ cx L00 [0] ⟨[.val 0 i own],[]⟩ { e:=[(0,x)],s:=[],h:=L.h,nx:=L.nx,gn:=L.gn } fun v=>tst (Nat.beq (ownS own 0 0 ((cx.cd i).cs v)).2.length own.length) (some v)
     | _,_=>none
theorem ownS_has {own:List Nat}:∀ {l:List (SV tb)} {j k d},k<=d->d<k+(ownS own j k l).2.length->find d (ownS own j k l).2≠none
 | [],j,k,d,h1,h2=>by simp [ownS] at h2;omega
 | x :: l,j,k,d,h1,h2=>by
   rw [ownS_cons] at h2 ⊢
   split at h2
   ·rename_i E xs _ _
    simp only [List.length_cons] at h2
    simp only
    rw [find_cons]
    split
    ·simp
    ·exact ownS_has (by omega) (by omega)
   ·exact ownS_has h1 h2
theorem tupleOf_sub {l l':List AV} (h:SubL l l') (hl:l.length=l'.length):Sub (tupleOf l) (tupleOf l'):=by
 cases l with
 | nil=>cases l' with
   | nil=>exact .refl _
   | cons=>simp at hl
 | cons x l=>
   cases l with
   | nil =>
     cases l' with
     | nil=>simp at hl
     | cons y l'=>
       cases l' with
       | cons=>simp at hl
       | nil=>
         intro m bl v r
         have:=h m bl [v] (.cons r .nil)
         cases this with | cons a b=>exact a
   | cons x2 l=>
     cases l' with
     | nil=>simp at hl
     | cons y l'=>
       cases l' with
       | nil=>simp at hl
       | cons y2 l'=>exact .tup h
theorem tupD_len:∀ {l:List tb.Ix} {xs a},tupD cx l xs=some a->xs.length=(tupAV l a).length
 | [],xs,_,h=>by
   obtain ⟨h1,h⟩:=tst_e (show tst (isE xs) _=some _ from h)
   rw [isE_e h1];rfl
 | i::l,[],_,h=>by cases h
 | i::l,x::xs,ab,h=>by
   obtain ⟨a,ha,h⟩:=got_e (show got ((cx.cd i).of x) _=some ab from h)
   obtain ⟨b,hb,h⟩:=got_e h
   cases h
   rw [tupC_av,List.length_cons,List.length_cons,tupD_len hb]
theorem con_ok {fid:Nat} {fn:Func} {code:Code} {ps:List (PTy tb)} {rs:List tb.Ix} {own:List Nat} {F:PArgs tb ps->Option (Tup tb rs)} {im bar N an}
 (hf:P.funcs[fid]? = some fn) (hb:fn.body=some code) (hN:fn.ntmps=N) (hn:Nat.ble ps.length N=true) (hr:∀ d:DArgs tb ps,keepE (tb:=tb) [] (argSVs cx ps d 0)=true)
 (H:∀ d:DArgs tb ps,exec cx (lvl cx 6) im bar N code an ⟨argSVs cx ps d 0,[],[],0,[]⟩ (kfin cx own rs fn.results.toList)=F (fgts ps d)):
 ∀ a avs r,ArgsR P ps a avs->F a=some r->FnR P fid avs (ansS tb cx.cd own rs r 0).1.av ((ansS tb cx.cd own rs r 0).2.map fun p=>(p.1,p.2.av)):=by
 intro a avs r hr0 hF
 obtain ⟨d,rfl,hd⟩:=args_D cx hr0
 have hav:=hd 0
 have hlen:avs.length=ps.length:=by
  have:∀ {l:List (PTy tb)} {a avs},ArgsR P l a avs->avs.length=l.length:=by
   intro l
   induction l with
   | nil=>intro a avs h;cases avs with | nil=>rfl | cons=>cases h
   | cons p l ih=>intro a avs h;cases avs with | nil=>cases p <;> cases h | cons v vs=>exact congrArg (·+1) (ih h.2)
  exact this hr0
 rw [<- H d] at hF
 have hi:RI [] (argSVs cx ps d 0):=by
  intro t G x hx
  have:=(keepE_e (hr d) _ (find_mem hx)).2
  cases this
 have key:=exec_ok (lvl_ok 6) (L:=⟨argSVs cx ps d 0,[],[],0,[]⟩) hi hF
 refine FnR.intro hf hb hN (by rw [hlen];exact Nat.le_of_ble_eq_true hn) ?_
 have e0:(⟨argSVs cx ps d 0,[],[],0,[]⟩:SLS tb).av=⟨envFrom 0 avs,[],[],fun d=>0<=d⟩:=by
  show (⟨avE [] (argSVs cx ps d 0),[],[],_⟩:LS)=_
  rw [hav]
 rw [e0] at key
 refine Wp.tells (Tells.f (f':=fun d=>0<=d) fun _ _=>trivial) (key.post ?_)
 rintro e Lf ⟨L',h',hi',x',ht⟩
 unfold kfin at h'
 cases e with
 | exit j=>cases h'
 | _ =>
   cases own with
   | nil =>
     obtain ⟨L7,h',g7⟩:=cutR_ok cx h'
     obtain ⟨xs0,hxs0,h'⟩:=got_e h'
     obtain ⟨L9,h',g9⟩:=frzK_ok cx (gs:=[]) h'
     obtain ⟨xs,hxs,h'⟩:=got_e h'
     refine ⟨L9.av,(ht.trans g7.t).trans g9.t,by simp,avL xs,?_⟩
     obtain ⟨hbare,h'⟩:=tst_e h'
     obtain ⟨s1,s2⟩:=tupD_ok h'
     have hl:=tupD_len h'
     obtain ⟨a1,a2⟩:=ansS_av cx.cd cx.ok rs r 0
     refine ⟨⟨[(0,resAV rs r)],[],[],fun _=>True⟩,resSs_ok hxs,?_,by rw [find_cons,if_pos rfl,a1],by rw [a2];rfl,fun _ _=>trivial⟩
     refine LS.ren.tells (q:=fun _=>none) (r:=fun _=>none) (nils:=fun _=>false) ⟨by simp,?_,trivial,?_,by simp,by simp⟩
     ·intro t y hf
      have hf:find t [(0,resAV rs r)]=some y:=hf
      rw [find_cons] at hf
      split at hf
      ·rename_i h0
       subst h0
       cases hf
       refine .inr ⟨_,by show find 0 [(0,tupleOf (avL xs))]=_;rw [find_cons,if_pos rfl],?_⟩
       have hb2:(tupleOf (avL xs)).isBare=true:=by
        have h1:=hasL_bare hbare
        cases xs with
        | nil=>rfl
        | cons x xs=>
          cases xs with
          | nil =>
            have:(AV.clean (fun _=>false) x.av&&true)=true:=h1
            rw [Bool.and_true] at this
            exact this
          | cons x2 xs=>exact h1
       show SubN _ ((tupleOf (avL xs)).re _) _
       rw [bare_of hb2]
       exact (tupleOf_sub s1 (by rw [avL_length];exact hl)).n
      ·simp [find] at hf
     ·intro id b hf;simp [find] at hf
   | cons o ow=>
     obtain ⟨L7,h',g7⟩:=cutR_ok cx h'
     obtain ⟨xs0,hxs0,h'⟩:=got_e h'
     obtain ⟨L8,h',g8⟩:=frzK_ok cx (gs:=[]) h'
     obtain ⟨xs,hxs,h'⟩:=got_e h'
     refine ⟨L8.av,(ht.trans g7.t).trans g8.t,by simp,avL xs,?_⟩
     match rs,xs,r,hxs,h' with
     | [i],[x],r,hxs,h'=>
       obtain ⟨hkx,h'⟩:=tst_e h'
       have hkx:=res_keep hkx
       have hw:Wf (L00 (tb:=tb)):=⟨rfl,rfl,rfl⟩
       obtain ⟨v,h2,hi2,x2,ht2⟩:=unJ_ok (L1:={ e:=[(0,x)],s:=[],h:=L8.h,nx:=L8.nx,gn:=L8.gn }) hw (by intro t G x hx;simp [L00,find] at hx) ⟨rfl,⟨_,(List.append_nil _).symm⟩,⟨_,(List.append_nil _).symm⟩,Nat.zero_le _,⟨_,(List.append_nil _).symm⟩⟩ h'
       obtain ⟨hl,h2⟩:=tst_e h2
       cases h2
       have hl:=Nat.eq_of_beq_eq_true hl
       have hdr:drN (L00 (tb:=tb)) ⟨[.val 0 i (o::ow)],[]⟩=[]:=rfl
       have hmk:(mkVs cx L00 [JV.val 0 i (o::ow)] (r:tb.T i) 0)=([(0,wrapS (cx.cd i) (ownS (o::ow) 0 0 ((cx.cd i).cs r)).1)],(ownS (o::ow) 0 0 ((cx.cd i).cs r)).2):=by
        simp [mkVs,mkV,vh]
       have e9:(⟨[(0,x)],[],L8.h,L8.nx,L8.gn⟩:SLS tb).av={ L8.av with e:=[(0,tupleOf (avL [x]))],s:=[] }:=by
        show (⟨[(0,(x.res L8.gn).av)],[],_,_⟩:LS)=_
        rw [hkx];rfl
       rw [e9] at ht2
       refine ⟨_,resSs_ok hxs,ht2,?_,?_,?_⟩
       ·show find 0 (avE (drops (drN L00 _)++[]) ((mkVs cx L00 [JV.val 0 i (o::ow)] (r:tb.T i) 0).1++_))=_
        rw [hdr,hmk]
        show find 0 ((0,((wrapS (cx.cd i) (ownS (o::ow) 0 0 ((cx.cd i).cs r)).1).res []).av)::_)=_
        rw [find_cons,if_pos rfl,res_keep (has_all (q:=keepQ []) (fun _=>rfl) _)];rfl
       ·show avH (drops (drN L00 _)++[]) ((mkVs cx L00 [JV.val 0 i (o::ow)] (r:tb.T i) 0).2++[])=_
        rw [hdr,hmk]
        have:=avH_append (g:=([]:Gn tb)) (a:=(ownS (o::ow) 0 0 ((cx.cd i).cs r)).2) (b:=[]) (fun p hp=>⟨rfl,(ownS_names p hp).2.2⟩)
        refine this.trans ?_
        show _++[]=_
        rw [List.append_nil];rfl
       ·intro d hd
        show 0+nOwns [JV.val 0 i (o::ow)]<=d
        have e1:nOwns [JV.val 0 i (o::ow)]=(o::ow).length:=by simp [nOwns,nOwn]
        rw [e1,Nat.zero_add,<- hl]
        rcases Nat.lt_or_ge d (ownS (o::ow) 0 0 ((cx.cd i).cs r)).2.length with hlt | hge
        ·exfalso
         have h3:=ownS_has (own:=o::ow) (l:=(cx.cd i).cs r) (j:=0) (k:=0) (d:=d) (Nat.zero_le _) (by omega)
         have hd:find d ((ownS (o::ow) 0 0 ((cx.cd i).cs r)).2.map fun p=>(p.1,p.2.av))=none:=hd
         rw [find_map (fun b:SC tb=>b.av)] at hd
         cases hq:find d (ownS (o::ow) 0 0 ((cx.cd i).cs r)).2 with
         | none=>exact h3 hq
         | some z=>rw [hq] at hd;cases hd
        ·exact hge
     | [],xs,r,hxs,h'=>cases h'
     | _::_::_,xs,r,hxs,h'=>cases h'
     | [_],[],r,hxs,h'=>cases h'
     | [_],_::_::_,r,hxs,h'=>cases h'
end
end
instance gl0:GlC:=⟨fun _=>True,fun _ h=>h⟩
theorem FnR.up (g:GlC) {P:Program} {f:FuncId} {args:List AV} {r:AV} {hr:Hp} (h:@FnR gl0 P f args r hr):@FnR g P f args r hr:=by
 intro w m vs hgl hi hrp
 refine (h w m vs trivial hi hrp).mono ?_
 rintro e w' ⟨v,m',bl',he,hb,hws,hz,hv⟩
 exact ⟨v,m',bl',he,hb,@WSim.mk g _ _ _ _ _ _ (@WSim.imm gl0 _ _ _ _ _ _ hws) (@WSim.le gl0 _ _ _ _ _ _ hws) (@WSim.grow gl0 _ _ _ _ _ _ hws) (@WSim.blk gl0 _ _ _ _ _ _ hws) (@WSim.it gl0 _ _ _ _ _ _ hws) (@WSim.own gl0 _ _ _ _ _ _ hws) (@WSim.inj gl0 _ _ _ _ _ _ hws) hgl,hz,hv⟩
section
open Go.RowKit
variable [GlC]
theorem FnR.ofCalls {P:Program} {f:FuncId} {args:List AV} {r:AV}
 (H:∀ (w:World) (m:Mem) (vs:List Value),Imm m w->Reps m noNames args vs->Calls P f vs.toArray w fun e w'=>∃ v,e=.returned v/\Below w.heap.size w w'/\Rep m noNames r v):FnR P f args r []:=by
 intro w m vs hgl hi hr
 refine (H w m vs hi hr).mono ?_
 rintro e w' ⟨v,he,hb,hv⟩
 refine ⟨v,m,noNames,he,hb,⟨hi.below hb,Mem.le.refl m,fun _ _ _ h=>.inl h,?_,?_,?_,?_,hgl⟩,fun _ _=>rfl,hv⟩
 ·intro id l h;simp [find] at h
 ·intro id s p h;simp [find] at h
 ·intro id b n h;simp [noNames] at h
 ·intro id id' b n n' h;simp [noNames] at h
theorem reps2 {m bl x y vs} (h:Reps m bl [x,y] vs):∃ a b,vs=[a,b]/\Rep m bl x a/\Rep m bl y b:=by
 cases h with
 | cons h1 t=>cases t with
   | cons h2 t=>cases t with
     | nil=>exact ⟨_,_,rfl,h1,h2⟩
def index1 (s sub:List UInt8):Option Int:=match sub with
 | [c]=>some (Lib.indexByte s c)
 | _=>none
theorem fnr_index1 {P:Program} {f:FuncId} (H:∀ (s:ByteArray) (c:UInt8) (w:World),Calls P f #[.string s,.string ⟨#[c]⟩] w fun e w'=>e=.returned (.int .i64 (Lib.indexByte s.data.toList c))/\w'=w)
 {s sub:List UInt8} {n:Int} (h:index1 s sub=some n):FnR P f [sAV s,sAV sub] (.v (.int .i64 n)) []:=by
 unfold index1 at h
 split at h
 ·rename_i c
  cases h
  refine FnR.ofCalls fun w m vs hi hr=>?_
  obtain ⟨a,b,rfl,h1,h2⟩:=reps2 hr
  have h1:=h1.eq_v;have h2:=h2.eq_v
  subst h1 h2
  refine (H ⟨s.toArray⟩ c w).mono ?_
  rintro e w' ⟨rfl,rfl⟩
  exact ⟨_,rfl,Below.refl _ _,.v⟩
 ·cases h
def count1 (s sub:List UInt8):Option Int:=match sub with
 | [c]=>some (s.count c:Int)
 | _=>none
theorem fnr_count1 {P:Program} {f:FuncId} (H:∀ (s:ByteArray) (c:UInt8) (w:World),Calls P f #[.string s,.string ⟨#[c]⟩] w fun e w'=>e=.returned (.int .i64 (Lib.countByte s.data.toList c))/\w'=w)
 {s sub:List UInt8} {n:Int} (h:count1 s sub=some n):FnR P f [sAV s,sAV sub] (.v (.int .i64 n)) []:=by
 unfold count1 at h
 split at h
 ·rename_i c
  cases h
  refine FnR.ofCalls fun w m vs hi hr=>?_
  obtain ⟨a,b,rfl,h1,h2⟩:=reps2 hr
  have h1:=h1.eq_v;have h2:=h2.eq_v
  subst h1 h2
  refine (H ⟨s.toArray⟩ c w).mono ?_
  rintro e w' ⟨rfl,rfl⟩
  exact ⟨_,rfl,Below.refl _ _,.v⟩
 ·cases h
def joinS (l:List (List UInt8)) (sep:List UInt8):Option (List UInt8):=Chk ((Lib.join l sep).length<=140737488355328/\l.length<=140737488355328) (some (Lib.join l sep))
theorem reps_str {m bl}:∀ {l:List (List UInt8)} {cs},Reps m bl (l.map sAV) cs->cs=l.map fun s=>Value.string ⟨s.toArray⟩
 | [],_,.nil=>rfl
 | s::l,_,.cons h t=>by rw [h.eq_v,reps_str t];rfl
theorem flat_str:∀ l:List (List UInt8),(l.map sAV).flatMap AV.cells=l.map sAV
 | []=>rfl
 | s::l=>by rw [List.map_cons,List.flatMap_cons,flat_str l];rfl
theorem fnr_join {P:Program} {f:FuncId}
 (H0:∀ (a:Option Addr) (c:Nat) (sep:ByteArray) (w:World),Calls P f #[.slice a 0 c,.string sep] w fun e w'=>e=.returned (.string ⟨#[]⟩)/\w'=w)
 (H:∀ (bk o c:Nat) (xs:List ByteArray) (sep:ByteArray) (w:World) (hcells:∀ (j:Nat) x,xs[j]? = some x->w.cell? ⟨bk,o+j,none⟩=some (.string x))
   (hbk:bk<w.heap.size) (hN:xs.length<=140737488355328) (hcap:xs.length<=c) (hlen:(Lib.join (xs.map (·.data.toList)) sep.data.toList).length<=140737488355328),
   Calls P f #[.slice (some ⟨bk,o,none⟩) xs.length c,.string sep] w fun e w'=>e=.returned (.string ⟨(Lib.join (xs.map (·.data.toList)) sep.data.toList).toArray⟩)/\Below w.heap.size w w')
 {l:List (List UInt8)} {sep s:List UInt8} (h:joinS l sep=some s):FnR P f [.sl false 1 (l.map sAV),sAV sep] (sAV s) []:=by
 obtain ⟨⟨hc,hN⟩,h⟩:=Chk_e h
 cases h
 refine FnR.ofCalls fun w m vs hi hr=>?_
 obtain ⟨a,b,rfl,h1,h2⟩:=reps2 hr
 have h2:=h2.eq_v
 subst h2
 have e0:∀ (ad:Option Addr) (c:Nat),Calls P f [Value.slice ad 0 c,.string ⟨sep.toArray⟩].toArray w fun e w'=>∃ v,e=.returned v/\Below w.heap.size w w'/\Rep m noNames (sAV (Lib.join [] sep)) v:=by
  intro ad c
  refine (H0 ad c ⟨sep.toArray⟩ w).mono ?_
  rintro e w' ⟨rfl,rfl⟩
  exact ⟨_,rfl,Below.refl _ _,.v⟩
 cases l with
 | nil=>
   cases h1 with
   | slnil=>exact e0 _ _
   | sl g1 g2 g3 g4 g5 g6 g7=>exact e0 _ _
 | cons x l=>
   cases h1 with
   | sl g1 g2 g3 g4 g5 g6 g7=>
     rename_i ad cap cs
     rw [flat_str] at g2
     have hcs:=reps_str g2
     subst hcs
     have hsp:=g4 (by simp)
     have hd:ad=⟨ad.block,ad.off,none⟩:=by rw [<- hsp]
     rw [hd]
     have key:=H ad.block ad.off cap ((x::l).map fun s=>(⟨s.toArray⟩:ByteArray)) ⟨sep.toArray⟩ w ?_ ?_ ?_ ?_ ?_
     ·rw [List.length_map] at key
      have e1:((x::l).map fun s=>(⟨s.toArray⟩:ByteArray)).map (·.data.toList)=x::l:=by
       rw [List.map_map]
       exact (List.map_congr_left fun s _=>rfl).trans (List.map_id _)
      rw [e1] at key
      rw [List.length_map]
      refine key.mono ?_
      rintro e w' ⟨rfl,hb⟩
      exact ⟨_,rfl,hb,.v⟩
     ·intro j y hj
      rw [List.getElem?_map] at hj
      obtain ⟨z,hz,rfl⟩:=Option.map_eq_some_iff.1 hj
      exact hi _ _ _ (g5 j _ (by rw [List.getElem?_map,hz];rfl))
     ·exact hi.lt (g5 0 _ rfl)
     ·rw [List.length_map];exact hN
     ·rw [List.length_map,<- List.length_map (f:=sAV) ];exact g6
     ·rw [List.map_map]
      refine Nat.le_trans (Nat.le_of_eq ?_) hc
      congr 2
      exact (List.map_congr_left fun s _=>rfl).trans (List.map_id _)
end
section
open Go.RowKit
variable [GlC]
section
variable {P:Program} {tb:Tb} {cx:Ctx P tb}
def hfin (P:Program) (vs:List ResultVar) (e:AExit) (L:SLS tb):Option (SV tb):=match e with
 | .exit _=>none
 | _=>got (resSs P L vs) fun xs=>match xs with
   | [x]=>tst (x.has fun _=>false) (some x)
   | _=>none
theorem hnd_ok {fid:Nat} {fn:Func} {code:Code} {xs:List (SV tb)} {y:SV tb} {im bar N an} (hf:P.funcs[fid]? = some fn) (hb:fn.body=some code) (hN:fn.ntmps=N) (hn:Nat.ble xs.length N=true)
 (hk:hasL (fun _=>false) xs=true) (ho:noOpts xs=true) (hyb:y.has (fun _=>false)=true) (H:exec cx (lvl cx 6) im bar N code an ⟨envS 0 xs,[],[],0,[]⟩ (hfin P fn.results.toList)=some y):
 FnR P fid (avL xs) y.av []/\allBare (avL xs)=true/\y.av.isBare=true:=by
 have hi:RI [] (envS 0 xs:SEnv tb):=by
  intro t G x hx
  have:=noOpts_e ho _ (envS_mem hx)
  cases this
 have key:=exec_ok (lvl_ok 6) (L:=⟨envS 0 xs,[],[],0,[]⟩) hi H
 have hres:resL ([]:Gn tb) xs=xs:=resL_keep (hasL_all (q:=keepQ []) (fun _=>rfl) _)
 have e0:(⟨envS 0 xs,[],[],0,[]⟩:SLS tb).av=⟨envFrom 0 (avL xs),[],[],fun d=>0<=d⟩:=by
  show (⟨avE [] (envS 0 xs),[],[],_⟩:LS)=_
  rw [envS_av hres]
 rw [e0] at key
 refine ⟨FnR.intro hf hb hN (by rw [avL_length];exact Nat.le_of_ble_eq_true hn) ?_,hasL_bare hk,has_bare hyb⟩
 ·refine Wp.tells (Tells.f (f':=fun d=>0<=d) fun _ _=>trivial) (key.post ?_)
  rintro e Lf ⟨L',h',hi',x',ht⟩
  have main:(got (resSs P L' fn.results.toList) fun xs=>match xs with
   | [x]=>tst (x.has fun _=>false) (some x)
   | _=>none)=some y->(e=.normal\/e=.ret)->∃ L2,Tells Lf L2/\(e=.normal\/e=.ret)/\∃ xs L3,RessOk P L2 fn.results.toList xs/\Tells { L2 with e:=[(0,tupleOf xs)],s:=[] } L3/\find 0 L3.e=some y.av/\L3.h=[]/\∀ d,find d ([]:Hp)=none->L3.f d:=by
   intro h' he
   obtain ⟨zs,hzs,h'⟩:=got_e h'
   split at h'
   ·rename_i x
    obtain ⟨hb1,h'⟩:=tst_e h'
    cases h'
    refine ⟨L'.av,ht,he,avL [y],⟨[(0,y.av)],[],[],fun _=>True⟩,resSs_ok hzs,?_,by rw [find_cons,if_pos rfl],rfl,fun _ _=>trivial⟩
    refine LS.ren.tells (q:=fun _=>none) (r:=fun _=>none) (nils:=fun _=>false) ⟨by simp,?_,trivial,?_,by simp,by simp⟩
    ·intro t z hf
     have hf:find t [(0,y.av)]=some z:=hf
     rw [find_cons] at hf
     split at hf
     ·rename_i h0
      subst h0
      cases hf
      refine .inr ⟨_,by show find 0 [(0,tupleOf (avL [y]))]=_;rw [find_cons,if_pos rfl],?_⟩
      show SubN _ (y.av.re _) _
      rw [bare_of (has_bare hb1)]
      exact (Sub.refl _).n
     ·simp [find] at hf
    ·intro id b hf;simp [find] at hf
   ·cases h'
  unfold hfin at h'
  cases e with
  | exit j=>cases h'
  | normal=>exact main h' (.inl rfl)
  | ret=>exact main h' (.inr rfl)
end
end
section
open Go.RowKit Go.ChangeShapes Go.WideShapes Go.ChangeAt Go.Deep
variable [GlC]
def memOf (W:World):Mem:=fun b o=>W.cell? ⟨b,o,none⟩
theorem imm_memOf (W:World):Imm (memOf W) W:=fun _ _ _ h=>h
def Opens (P:Program) (W:World) (t:TypeId) {α:Type} (F:α->List AV) (wf:α->Prop):Prop:=
 ∀ {H:Type} (enc:TypeId × Value->H) fuel cs x,DataW.trod enc P W 0 (fun _=>true) true fuel t cs=some x->
   ∃ a:α,Reps (memOf W) noNames (F a) cs/\(∀ c∈cs,oneCell c=true)/\wf a
section
variable {P:Program} {W:World} {t:TypeId}
theorem opens_bool (ht:P.underlying t=some .bool):Opens P W t (fun b=>[.v (.bool b)]) (fun _=>True):=by
 intro H enc fuel cs x h
 obtain ⟨b,rfl,-⟩:=DataW.trod_bool ht h
 exact ⟨b,.cons .v .nil,by simp [oneCell,Value.oneCell'],trivial⟩
theorem opens_int {k:IntKind} (ht:P.underlying t=some (.int k)):Opens P W t (fun n=>[.v (.int k n)]) (fun n=>k.min<=n/\n<=k.max):=by
 intro H enc fuel cs x h
 obtain ⟨n,rfl,-,hw⟩:=DataW.trod_int ht h
 refine ⟨n,.cons .v .nil,by simp [oneCell,Value.oneCell'],?_⟩
 simpa [Lit.wf] using hw
theorem reps_flat {m:Mem} {bl} {α:Type} {F:α->List AV}:∀ (l:List α) (V:Nat->List Value),(∀ i (h:i<l.length),Reps m bl (F (l[i]'h)) (V i))->Reps m bl (l.flatMap F) ((List.range l.length).flatMap V)
 | [],_,_=>.nil
 | a::l,V,h=>by
   rw [List.length_cons,List.range_succ_eq_map,List.flatMap_cons,List.flatMap_cons,List.flatMap_map]
   exact (h 0 (by simp)).append (reps_flat l (fun i=>V (i+1)) fun i hi=>h (i+1) (by simpa using hi))
theorem flat_get {V:Nat->List Value} {sz:Nat}:∀ (n:Nat),(∀ i,i<n->(V i).length=sz)->∀ (j:Nat) (v:Value),((List.range n).flatMap V)[j]? = some v->∃ i k,i<n/\k<sz/\j=i*sz+k/\(V i)[k]? = some v
 | 0,_,j,v,h=>by simp at h
 | n + 1,hV,j,v,h=>by
   have hlen:((List.range n).flatMap V).length=n*sz:=by
    clear h
    induction n with
    | zero=>simp
    | succ n ih=>
      rw [List.range_succ,List.flatMap_append,List.length_append,ih fun i hi=>hV i (by omega)]
      simp [hV n (by omega),Nat.add_mul]
   rw [List.range_succ,List.flatMap_append] at h
   by_cases hj:j<n*sz
   ·rw [List.getElem?_append_left (by omega)] at h
    obtain ⟨i,k,h1,h2,h3,h4⟩:=flat_get n (fun i hi=>hV i (by omega)) j v h
    exact ⟨i,k,by omega,h2,h3,h4⟩
   ·rw [List.getElem?_append_right (by omega),hlen] at h
    simp only [List.flatMap_cons,List.flatMap_nil,List.append_nil] at h
    have hk:j - n*sz<sz:=by
     rcases Nat.lt_or_ge (j - n*sz) sz with h' | h'
     ·exact h'
     ·rw [List.getElem?_eq_none (by rw [hV n (by omega)];exact h')] at h;cases h
    exact ⟨n,j - n*sz,by omega,hk,by omega,h⟩
theorem cell_spot {w:World} {a:Addr} {v:Value} (h:w.cell? a=some v):a.spot=none:=by
 unfold World.cell? at h
 split at h
 ·split at h
  ·cases h
  ·rename_i hs;simpa using hs
 ·cases h
theorem opens_slice {e:TypeId} {α:Type} {F:α->List AV} {E:α->AV} {wf:α->Prop} {sz:Nat} (ht:P.underlying t=some (.slice e)) (hs:P.cellsOf e=sz) (hpos:0<sz) (he:Opens P W e F wf)
 (hE:∀ a,(E a).cells=F a) (hl:∀ a,(F a).length=sz):Opens P W t (fun (l:List α)=>[.sl false sz (l.map E)]) (fun l=>(∀ a∈l,wf a)/\l.length<=9223372036854775807):=by
 intro H enc fuel cs x h
 rcases open_slice ht h with ⟨rfl,-⟩ | ⟨a,len,cap,m,n,D,Pl,rfl,hb,hlc,hcm,hm,-,hel⟩
 ·exact ⟨[],.cons .slnil .nil,by simp [oneCell,Value.oneCell'],by simp,by simp⟩
 rw [hs] at hel
 have hlm:len<=m:=by rw [hm];split <;> omega
 -- the elements
 have hch:∀ i,i<len->∃ p:α × List Value,Reps (memOf W) noNames (F p.1) p.2/\(∀ c∈p.2,oneCell c=true)/\wf p.1/\W.cells? 0 (a.add (i*sz)) sz=some p.2:=by
  intro i hi
  obtain ⟨cs',h1,h2⟩:=hel i (by omega)
  obtain ⟨y,g1,g2,g3⟩:=he enc n cs' _ h2
  exact ⟨(y,cs'),g1,g2,g3,h1⟩
 rcases Nat.eq_zero_or_pos len with h0 | h0
 ·subst h0
  refine ⟨[],.cons (.sl (cs:=[]) (by simp) (by simpa using Reps.nil) (by simp) (by simp) (by simp) (by simp) (by simp)) .nil,by simp [oneCell,Value.oneCell'],by simp,by simp⟩
 obtain ⟨p0,-⟩:=hch 0 h0
 haveI:Inhabited (α × List Value):=⟨p0⟩
 obtain ⟨f,hf⟩:=choose_lt hch
 have hall:∀ i,i<len->∀ k,k<sz->W.cell? ((a.add (i*sz)).add k)=(f i).2[k]? /\ (f i).2.length=sz:=by
  intro i hi k hk
  obtain ⟨-,-,-,h4⟩:=hf i hi
  obtain ⟨-,q1,q2⟩:=World.cells?_some h4
  exact ⟨q2 k hk,q1⟩
 have hsp:a.spot=none:=by
  have h1:=hall 0 h0 0 hpos
  have h2:(f 0).2[0]? = some ((f 0).2[0]'(by omega)):=by simp
  rw [h2] at h1
  have:=cell_spot h1.1
  simpa [Addr.add] using this
 let l:List α:=(List.range len).map fun i=>(f i).1
 have hll:l.length=len:=by simp [l]
 have hget:∀ i (h:i<l.length),l[i]'h=(f i).1:=by intro i h;simp [l]
 have hrep:Reps (memOf W) noNames (l.flatMap F) ((List.range len).flatMap fun i=>(f i).2):=by
  have:=reps_flat (m:=memOf W) (bl:=noNames) (F:=F) l (fun i=>(f i).2) fun i hi=>by rw [hget];exact (hf i (by omega)).1
  rwa [hll] at this
 have hfm:(l.map E).flatMap AV.cells=l.flatMap F:=by
  rw [List.flatMap_map]
  exact congrArg (fun g=>l.flatMap g) (funext fun x=>hE x)
 refine ⟨l,.cons (?_:Rep _ _ (.sl false sz (l.map E)) _) .nil,by simp [oneCell,Value.oneCell'],?_,?_⟩
 ·have:=Rep.sl (m:=memOf W) (bl:=noNames) (c:=false) (sz:=sz) (l:=l.map E) (a:=a) (cap:=cap) (cs:=(List.range len).flatMap fun i=>(f i).2)
   (by intro x hx;obtain ⟨y,-,rfl⟩:=List.mem_map.1 hx;rw [hE,hl]) (by rw [hfm];exact hrep)
   (by intro c hc;obtain ⟨i,hi,hc⟩:=List.mem_flatMap.1 hc;exact (hf i (by simpa using hi)).2.1 c hc) (fun _=>hsp)
   (by
     intro j v hj
     obtain ⟨i,k,h1,h2,rfl,h4⟩:=flat_get len (fun i hi=>(hall i hi 0 hpos).2) j v hj
     have:=(hall i h1 k h2).1
     rw [h4] at this
     obtain ⟨b,o,sp⟩:=a
     simp only at hsp;subst hsp
     rw [addr_add,addr_add,Nat.add_assoc] at this
     exact this) (by simp [hll];exact hlc) (by simp)
  rwa [List.length_map,hll] at this
 ·intro y hy
  obtain ⟨i,hi,rfl⟩:=List.mem_map.1 hy
  exact (hf i (by simpa using hi)).2.2.1
 ·rw [hll]
  have:cap<=9223372036854775807:=hcm
  omega
theorem opensF_last {fs:Array Field} {i off:Nat} {f:Field} {α:Type} {F:α->List AV} {wf:α->Prop} {n:Nat} (hf:fs[i]? = some f) (ho:f.offset=off) (hc:P.cellsOf f.type=n) (h:Opens P W f.type F wf):
 ∀ {H:Type} (enc:TypeId × Value->H) fuel (cs:List Value) (xs:List (DataW H × List MemPlace)),xs.length=fs.size->cs.length=off+n->
 (∀ (j:Nat) (f:Field),fs[j]? = some f->DataW.trod enc P W 0 (fun _=>true) true fuel f.type ((cs.drop f.offset).take (P.cellsOf f.type))=xs[j]?)->
 ∃ a:α,Reps (memOf W) noNames (F a) (cs.drop off)/\(∀ c∈cs.drop off,oneCell c=true)/\wf a:=by
 intro H enc fuel cs xs hx hl hall
 have hi:i<fs.size:=by
  rcases Nat.lt_or_ge i fs.size with h | h
  ·exact h
  ·simp [Array.getElem?_eq_none h] at hf
 have h1:=hall i f hf
 rw [List.getElem?_eq_getElem (by omega),ho,hc,List.take_of_length_le (by simp;omega)] at h1
 exact h enc fuel _ _ h1
theorem opensF_cons {fs:Array Field} {i off off' N:Nat} {f:Field} {α β:Type} {F:α->List AV} {G:β->List AV} {wf:α->Prop} {wg:β->Prop} {n:Nat} (hf:fs[i]? = some f) (ho:f.offset=off) (hc:P.cellsOf f.type=n) (ho':off+n=off') (h:Opens P W f.type F wf)
 (k:∀ {H:Type} (enc:TypeId × Value->H) fuel (cs:List Value) (xs:List (DataW H × List MemPlace)),xs.length=fs.size->cs.length=N->
   (∀ (j:Nat) (f:Field),fs[j]? = some f->DataW.trod enc P W 0 (fun _=>true) true fuel f.type ((cs.drop f.offset).take (P.cellsOf f.type))=xs[j]?)->
   ∃ a:β,Reps (memOf W) noNames (G a) (cs.drop off')/\(∀ c∈cs.drop off',oneCell c=true)/\wg a):
 ∀ {H:Type} (enc:TypeId × Value->H) fuel (cs:List Value) (xs:List (DataW H × List MemPlace)),xs.length=fs.size->cs.length=N->
 (∀ (j:Nat) (f:Field),fs[j]? = some f->DataW.trod enc P W 0 (fun _=>true) true fuel f.type ((cs.drop f.offset).take (P.cellsOf f.type))=xs[j]?)->
 ∃ a:α × β,Reps (memOf W) noNames (F a.1++G a.2) (cs.drop off)/\(∀ c∈cs.drop off,oneCell c=true)/\wf a.1/\wg a.2:=by
 intro H enc fuel cs xs hx hl hall
 have hi:i<fs.size:=by
  rcases Nat.lt_or_ge i fs.size with h | h
  ·exact h
  ·simp [Array.getElem?_eq_none h] at hf
 have h1:=hall i f hf
 rw [List.getElem?_eq_getElem (by omega),ho,hc] at h1
 obtain ⟨a,g1,g2,g3⟩:=h enc fuel _ _ h1
 obtain ⟨b,k1,k2,k3⟩:=k enc fuel cs xs hx hl hall
 have e:cs.drop off=(cs.drop off).take n++cs.drop off':=by
  rw [<- ho',<- List.drop_drop,List.take_append_drop]
 refine ⟨(a,b),?_,?_,g3,k3⟩
 ·rw [e];exact g1.append k1
 ·intro c hc
  rw [e] at hc
  rcases List.mem_append.1 hc with hc | hc
  ·exact g2 c hc
  ·exact k2 c hc
theorem opens_struct {fs:Array Field} {α β:Type} {F:β->List AV} {G:α->List AV} {wf:β->Prop} {wg:α->Prop} {N:Nat} (g:β->α) (ht:P.underlying t=some (.struct fs)) (hN:P.cellsOf t=N)
 (k:∀ {H:Type} (enc:TypeId × Value->H) fuel (cs:List Value) (xs:List (DataW H × List MemPlace)),xs.length=fs.size->cs.length=N->
   (∀ (j:Nat) (f:Field),fs[j]? = some f->DataW.trod enc P W 0 (fun _=>true) true fuel f.type ((cs.drop f.offset).take (P.cellsOf f.type))=xs[j]?)->
   ∃ a:β,Reps (memOf W) noNames (F a) (cs.drop 0)/\(∀ c∈cs.drop 0,oneCell c=true)/\wf a)
 (hG:∀ b,G (g b)=F b) (hw:∀ b,wf b->wg (g b)):Opens P W t G wg:=by
 intro H enc fuel cs x h
 obtain ⟨xs,n,-,-,hl,hx,hall⟩:=DataW.trod_struct ht h
 obtain ⟨b,h1,h2,h3⟩:=k enc n cs xs hx (by rw [hl,hN]) hall
 exact ⟨g b,by rw [hG];simpa using h1,by simpa using h2,hw b h3⟩
theorem trod_len {H:Type} {enc:TypeId × Value->H} {n:Nat} {e:TypeId} {fuel cs x} (ht:P.underlying t=some (.array n e)) (h:DataW.trod enc P W 0 (fun _=>true) true fuel t cs=some x):cs.length=P.cellsOf t:=by
 cases fuel with
 | zero=>simp [DataW.trod] at h
 | succ k=>
   unfold DataW.trod at h
   rw [ht] at h
   simp at h
   exact h.1
theorem opens_arr4 {e:TypeId} {α:Type} {F:α->List AV} {wf:α->Prop} (ht:P.underlying t=some (.array 4 e)) (hN:P.cellsOf t=4) (hc:P.cellsOf e=1) (he:Opens P W e F wf):
 Opens P W t (fun (x:α × α × α × α)=>F x.1++(F x.2.1++(F x.2.2.1++F x.2.2.2))) (fun x=>wf x.1/\wf x.2.1/\wf x.2.2.1/\wf x.2.2.2):=by
 intro H enc fuel cs x h
 have hl:=trod_len ht h
 rw [hN] at hl
 match cs,hl with
 | [c0,c1,c2,c3],_=>
   obtain ⟨y0,y1,y2,y3,n,-,g0,g1,g2,g3⟩:=trod_array4 ht hc h
   obtain ⟨a0,p0,q0,r0⟩:=he enc _ _ _ g0
   obtain ⟨a1,p1,q1,r1⟩:=he enc _ _ _ g1
   obtain ⟨a2,p2,q2,r2⟩:=he enc _ _ _ g2
   obtain ⟨a3,p3,q3,r3⟩:=he enc _ _ _ g3
   refine ⟨(a0,a1,a2,a3),?_,?_,r0,r1,r2,r3⟩
   ·exact p0.append (p1.append (p2.append p3))
   ·intro c hcm
    simp only [List.mem_cons,List.not_mem_nil,or_false] at hcm
    rcases hcm with rfl | rfl | rfl | rfl
    ·exact q0 _ (by simp)
    ·exact q1 _ (by simp)
    ·exact q2 _ (by simp)
    ·exact q3 _ (by simp)
/-! an argument -/
theorem arg_agg {H:Type} {enc:TypeId × Value->H} {base:Nat} {v:Value} {d:DataW H} {ps:List MemPlace} {fs:Array Field} (ht:P.underlying t=some (.struct fs)) (hok:Value.okWide P W .any base t v) {α:Type} {F:α->List AV} {wf:α->Prop} (ho:Opens P W t F wf)
 (h:DataW.Trod enc P W 0 (fun _=>true) true t v d ps):∃ a:α,Rep (memOf W) noNames (.agg (F a)) v/\wf a:=by
 obtain ⟨fuel,h⟩:=h
 obtain ⟨a,h1,h2,h3⟩:=ho enc fuel _ _ h
 unfold Value.okWide at hok
 rw [ht] at hok
 obtain ⟨cs,rfl,-,-⟩:=hok
 refine ⟨a,?_,h3⟩
 have:=Rep.agg h1 h2
 simpa [Value.cells] using this
theorem trodAll_stays {H:Type} {enc:TypeId × Value->H} (hl:laidOutB P=true) {W W':World} {sp:Nat->Bool} (hb:Below W.heap.size W W'):∀ (ts:List TypeId) (vs:List Value) (ds:List (DataW H)) (ps:List MemPlace),
 (∀ t∈ts,P.readableRec t=true/\t<P.types.size)->DataW.TrodAll enc P W 0 (fun _=>true) true ts vs ds ps->(∀ x∈ps,x.block<W.heap.size)->(∀ x∈ps,sp x.block=true)->DataW.TrodAll enc P W' 0 sp true ts vs ds ps
 | [],[],[],ps,_,h,_,_=>h
 | t::ts,v::vs,d::ds,ps,hr,h,hlt,hsp=>by
   obtain ⟨p,q,h1,h2,rfl⟩:=h
   refine ⟨p,q,?_,trodAll_stays hl hb ts vs ds q (fun t ht=>hr t (by simp [ht])) h2 (fun x hx=>hlt x (by simp [hx])) (fun x hx=>hsp x (by simp [hx])),rfl⟩
   exact WideElems.Trod_stays hl (hr t (by simp)).1 (hr t (by simp)).2 h1 (fun x hx=>hb.same (hlt x (by simp [hx]))) (fun x hx=>hsp x (by simp [hx]))
 | [],[],_::_,_,_,h,_,_=>by simp [DataW.TrodAll] at h
 | [],_::_,_,_,_,h,_,_=>by simp [DataW.TrodAll] at h
 | _::_,[],_,_,_,h,_,_=>by simp [DataW.TrodAll] at h
 | _::_,_::_,[],_,_,h,_,_=>by simp [DataW.TrodAll] at h
theorem post_of_below {H:Type} {enc:TypeId × Value->H} {f:Func} {s:ChangeSpec} {apart fresh handsOn again:Bool} {W W':World} {args:Array Value} {v:Value} {ds gs:List (DataW H)} {before pa pv:List MemPlace}
 (hW:DataW.Whole enc P f.params.toList s.vars apart W args.toList ds gs before)
 (hres:∀ (b:Nat) (sp:Nat->Bool) (hd:Bool),DataW.TrodAll enc P W' b sp hd f.resultTypes.toList (v.resultList f.resultTypes.size) (s.fn H (ds++gs)).results [])
 (hargs:∀ sp:Nat->Bool,(∀ p∈before,sp p.block=true)->DataW.TrodAll enc P W' 0 sp true f.params.toList args.toList (s.fn H (ds++gs)).args pa)
 (hvars:∀ sp:Nat->Bool,(∀ p∈before,sp p.block=true)->DataW.TrodVars enc P W' sp s.vars (s.fn H (ds++gs)).vars pv)
 (hps:before=pa++pv) (hb:Below W.heap.size W W')
 (hok:∀ (j:Nat) (t:TypeId) (r:Value),f.resultTypes[j]? = some t->(v.resultList f.resultTypes.size)[j]? = some r->Value.okWide P W' .any 0 t r):
 s.post enc P f apart fresh handsOn again W args v W':=by
 have hlt:∀ p∈before,p.block<W.heap.size:=fun p hp=>hW.lt p hp
 have hold:∀ p∈before,(fun b=>decide (b<W.heap.size)) p.block=true:=fun p hp=>by simpa using hlt p hp
 refine ⟨ds,gs,before,[],pa,pv,hW,hres _ _ _,hargs _ hold,hvars _ hold,World.keptBut_mono (fun p hp=>⟨hp,?_⟩) (hb.frame (·∈before)),fun _=>?_⟩
 ·rw [hps,List.mem_append] at hp
  exact Or.inr hp
 ·obtain ⟨_,_,_,_,_,hz,hn⟩:=hW
  refine ⟨hok,_,_,([]++pa)++pv,⟨[]++pa,pv,trodAll_append (hargs _ (fun _ _=>rfl)) (hres _ _ _),hvars _ (fun _ _=>rfl),rfl,?_,?_⟩,?_⟩
  ·intro b off hp
   have hin:MemPlace.cell b off∈before:=by rw [hps];simpa using hp
   rw [hb.frozen (hlt _ hin)]
   exact hz b off hin
  ·intro ha
   have:=hn ha
   rw [hps] at this
   simpa using this
  ·intro p hp _
   rw [hps]
   simpa using hp
theorem law_post {H:Type} {enc:TypeId × Value->H} {id:FuncId} {f:Func} {s:ChangeSpec} {apart fresh handsOn again:Bool} {args:Array Value} {ds:List (DataW H)} {before:List MemPlace} {avs:List AV} {tb:TypeId}
 (hl:laidOutB P=true) (hr0:(f.params.toList.all fun t=>P.readableRec t&&Nat.blt t P.types.size)=true) (hrt:f.resultTypes=#[tb]) (htb:P.underlying tb=some .bool) (hvs:s.vars=[])
 (hW:DataW.Whole enc P f.params.toList s.vars apart W args.toList ds [] before) (hfn:s.fn H (ds++[])={ results:=[.lit (.bool true)],args:=ds })
 (hrep:Reps (memOf W) noNames avs args.toList) (hc:FnR P id avs (.v (.bool true)) []) (hgl:GlC.G (memOf W):=by exact True.intro):
 Calls P id args W fun e W'=>∃ v,e=.returned v/\s.post enc P f apart fresh handsOn again W args v W':=by
 have hr:∀ t∈f.params.toList,P.readableRec t=true/\t<P.types.size:=by
  intro t ht
  have:=List.all_eq_true.1 hr0 t ht
  simp only [Bool.and_eq_true] at this
  exact ⟨this.1,Nat.le_of_ble_eq_true this.2⟩
 have:=hc W (memOf W) args.toList hgl (imm_memOf W) hrep
 rw [Array.toArray_toList] at this
 refine this.mono ?_
 rintro e W' ⟨v,m',bl',rfl,hb,-,-,hv⟩
 have hv':=hv.eq_v
 subst hv'
 have hW':=hW
 obtain ⟨p,q,hA,hV,rfl,-,-⟩:=hW
 rw [hvs] at hV
 obtain ⟨-,rfl⟩:=trodVars_none hV
 simp only [List.append_nil] at hW' hfn ⊢
 refine ⟨_,rfl,post_of_below (pa:=p) (pv:=[]) hW' ?_ ?_ ?_ (by simp) hb ?_⟩
 ·intro b sp hd
  rw [List.append_nil,hfn,hrt]
  exact trodAll_mk1 (shut_bool htb _)
 ·intro sp hsp
  rw [List.append_nil,hfn]
  exact trodAll_stays hl hb _ _ _ _ hr hA (fun x hx=>hW'.lt x hx) hsp
 ·intro sp hsp
  rw [List.append_nil,hfn,hvs]
  rfl
 ·exact ok_one hrt rfl (okWide_bool_mk htb _)
end
end
end Go.Rx
end

section
set_option linter.all false
namespace Go.Rx
theorem wrap_in (n:Int) (h1 : -9223372036854775808<=n) (h2:n<=9223372036854775807):IntKind.i64.wrap n=n:=by
 simp [IntKind.wrap,IntKind.bits,IntKind.signed];omega
theorem wrap_u64 (n:Int):IntKind.u64.wrap n=n % 18446744073709551616:=by simp [IntKind.wrap,IntKind.bits,IntKind.signed]
theorem LOOP_s {V X:Type} (step:(V->Option X)->V->Option X) (n:Nat) (v:V):LOOP step (n+1) v=step (LOOP step n) v:=rfl
@[simp] theorem Let_eq {β X:Type} (v:β) (k:β->X):Let v k=k v:=rfl
@[simp] theorem Bind_some {α β:Type} (x:α) (k:α->Option β):Bind (some x) k=k x:=rfl
@[simp] theorem Bind_none {α β:Type} (k:α->Option β):Bind none k=none:=rfl
theorem Bind_of {α β:Type} {m:Option α} {x:α} {k:α->Option β} (h:m=some x):Bind m k=k x:=by rw [h];rfl
theorem Chk_of {α:Type} {c:Prop} [Decidable c] {k:Option α} (h:c):Chk c k=k:=if_pos h
@[simp] theorem Chk_true {α:Type} {k:Option α}:Chk True k=k:=rfl
theorem w64_of (n:Int) (h : -9223372036854775808<=n/\n<=9223372036854775807):w64 n=n:=wrap_in n h.1 h.2
theorem w64_or (n:Int):(w64 n=n % 18446744073709551616/\n % 18446744073709551616<9223372036854775808)\/(w64 n=n % 18446744073709551616 - 18446744073709551616/\9223372036854775808<=n % 18446744073709551616):=by
 unfold w64
 simp only [IntKind.wrap,IntKind.bits,IntKind.signed]
 by_cases h:9223372036854775808<=n % 18446744073709551616
 ·right;refine ⟨?_,h⟩;simp;omega
 ·left;refine ⟨?_,by omega⟩;simp;omega
theorem u64_eq (n:Int):IntKind.u64.wrap n=n % 18446744073709551616:=wrap_u64 n
theorem i64_min:IntKind.i64.min = -9223372036854775808:=rfl
theorem i64_max:IntKind.i64.max=9223372036854775807:=rfl
theorem cond_or (a b:Bool):(bif a then true else b)=(a||b):=by cases a <;> rfl
theorem cond_and (a b:Bool):(bif a then b else false)=(a&&b):=by cases a <;> rfl
theorem fuel_lt (n:Nat) (h:n<2 ^ 70):n<fuel:=h
theorem ix_nat {α:Type} [Inhabited α] (l:List α) (i:Nat):ix l (i:Int)=l.getD i default:=rfl
theorem ix_lt {α:Type} [Inhabited α] (l:List α) (i:Nat) (h:i<l.length):ix l (i:Int)=l[i]:=by
 rw [ix_nat];simp [List.getD,List.getElem?_eq_getElem h]
theorem drop_ix {α:Type} [Inhabited α] (l:List α) (i:Nat) (h:i<l.length):l.drop i=ix l (i:Int)::l.drop (i+1):=by
 rw [ix_lt l i h,List.drop_eq_getElem_cons h]
end Go.Rx
namespace Go.Rx
def allR (p:Nat->Bool):Nat->Nat->Bool
 | _,0=>true
 | i,k+1=>p i&&allR p (i+1) k
def foldR {σ:Type} (f:Nat->σ->σ):Nat->Nat->σ->σ
 | _,0,s=>s
 | i,k+1,s=>foldR f (i+1) k (f i s)
theorem loop_gen {σ R:Type} (len:Nat) (p:Nat->Bool) (f:Nat->σ->σ) (Inv:Nat->σ->Prop) (F:Nat->σ->Int->R) (fin:σ->R) (bad:R)
 (hs:∀ (n i:Nat) (s:σ),i<len->Inv i s->F (n+1) s (i:Int)=(if p i=true then F n (f i s) ((i:Int)+1) else bad)/\(p i=true->Inv (i+1) (f i s)))
 (he:∀ (n:Nat) (s:σ),Inv len s->F (n+1) s (len:Int)=fin s):
 ∀ (n i:Nat) (s:σ),i<=len->len - i<n->Inv i s->F n s (i:Int)=if allR p i (len - i)=true then fin (foldR f i (len - i) s) else bad
 | 0,i,s,_,h,_=>by omega
 | n + 1,i,s,hi,hn,hI=>by
   by_cases h:i<len
   ·obtain ⟨h1,h2⟩:=hs n i s h hI
    have e:len - i=(len - (i+1))+1:=by omega
    rw [h1,e]
    unfold allR foldR
    by_cases hp:p i=true
    ·rw [if_pos hp,hp,Bool.true_and]
     exact loop_gen len p f Inv F fin bad hs he n (i+1) (f i s) (by omega) (by omega) (h2 hp)
    ·rw [if_neg hp]
     simp only [Bool.not_eq_true] at hp
     rw [hp,Bool.false_and];rfl
   ·have:i=len:=by omega
    subst this
    rw [he n s hI,Nat.sub_self];rfl
theorem allR_true (p:Nat->Bool):∀ (k i:Nat),allR p i k=true↔∀ j,i<=j->j<i+k->p j=true
 | 0,i=>by simp [allR];omega
 | k + 1,i=>by
   unfold allR
   rw [Bool.and_eq_true,allR_true p k (i+1)]
   constructor
   ·intro ⟨h1,h2⟩ j hj hj2
    by_cases e:j=i
    ·subst e;exact h1
    ·exact h2 j (by omega) (by omega)
   ·intro h
    exact ⟨h i (by omega) (by omega),fun j hj hj2=>h j (by omega) (by omega)⟩
theorem allR_tt:∀ (k i:Nat),allR (fun _=>true) i k=true
 | 0,_=>rfl
 | k+1,i=>by unfold allR;rw [Bool.true_and];exact allR_tt k (i+1)
theorem allR_list {α:Type} [Inhabited α] (p:α->Bool) (l:List α):∀ (k i:Nat),i+k=l.length->allR (fun j=>p (ix l (j:Int))) i k=(l.drop i).all p
 | 0,i,h=>by simp [allR,List.drop_of_length_le (show l.length<=i by omega)]
 | k+1,i,h=>by
   unfold allR
   rw [allR_list p l k (i+1) (by omega),drop_ix l i (by omega)];rfl
theorem allR_all {α:Type} [Inhabited α] (p:α->Bool) (l:List α):allR (fun j=>p (ix l (j:Int))) 0 l.length=l.all p:=allR_list p l l.length 0 (by omega)
theorem ix_mem {α:Type} [Inhabited α] (l:List α) (i:Int) (h:0<=i/\i<l.length):ix l i∈l:=by
 obtain ⟨n,rfl⟩:=Int.eq_ofNat_of_zero_le h.1
 rw [ix_lt l n (by omega)];exact List.getElem_mem _
theorem w64_congr {a b:Int} (h:a % 18446744073709551616=b % 18446744073709551616):w64 a=w64 b:=by
 have h1:=w64_or a;have h2:=w64_or b;omega
theorem w64_mod (a:Int):w64 a % 18446744073709551616=a % 18446744073709551616:=by have:=w64_or a;omega
theorem w64_sl (a b:Int):w64 (w64 a - b)=w64 (a - b):=w64_congr (by have:=w64_mod a;omega)
theorem w64_sr (a b:Int):w64 (a - w64 b)=w64 (a - b):=w64_congr (by have:=w64_mod b;omega)
theorem w64_ml (a b:Int):w64 (w64 a*b)=w64 (a*b):=w64_congr (by rw [Int.mul_emod,w64_mod,<- Int.mul_emod])
theorem w64_mr (a b:Int):w64 (a*w64 b)=w64 (a*b):=w64_congr (by rw [Int.mul_emod,w64_mod,<- Int.mul_emod])
theorem foldR_pair {σ τ:Type} (f:Nat->σ->σ) (g:Nat->τ->τ):∀ (k i:Nat) (s:σ) (t:τ),foldR (fun j (x:σ × τ)=>(f j x.1,g j x.2)) i k (s,t)=(foldR f i k s,foldR g i k t)
 | 0,_,_,_=>rfl
 | k+1,i,s,t=>by unfold foldR;exact foldR_pair f g k (i+1) _ _
theorem foldR_list {α:Type} (g:Nat->α):∀ (k i:Nat) (l:List α),foldR (fun j (l:List α)=>l++[g j]) i k l=l++(List.range' i k).map g
 | 0,i,l=>by simp [foldR]
 | k+1,i,l=>by
   unfold foldR
   rw [foldR_list g k (i+1) (l++[g i]),List.range'_succ]
   simp
theorem list_eq_ix {α:Type} [Inhabited α] (l1 l2:List α) (h:l1.length=l2.length):(∀ i,i<l1.length->ix l1 (i:Int)=ix l2 (i:Int))↔l1=l2:=by
 constructor
 ·intro h2
  refine List.ext_getElem h fun i h3 h4=>?_
  have:=h2 i h3
  rw [ix_lt l1 i h3,ix_lt l2 i h4] at this;exact this
 ·rintro rfl i _;rfl
theorem allR_eq {α:Type} [Inhabited α] [DecidableEq α] (l1 l2:List α) (h:l1.length=l2.length):allR (fun i=>decide (ix l1 (i:Int)=ix l2 (i:Int))) 0 l1.length=decide (l1=l2):=by
 rw [Bool.eq_iff_iff,allR_true,decide_eq_true_eq,<- list_eq_ix l1 l2 h]
 simp only [decide_eq_true_eq]
 exact ⟨fun h i hi=>h i (by omega) (by omega),fun h i _ hi=>h i (by omega)⟩
end Go.Rx
end

section
set_option linter.all false
namespace Go.Rx
theorem Join_nr {V ρ:Type} (K:V->Option ρ) (b:(V->Option ρ)->Option ρ):Join K b=b K:=Eq.trans (by rfl) (Eq.refl _)
theorem Let_nr {β X:Type} (v:β) (k:β->X):Let v k=k v:=Eq.trans (by rfl) (Eq.refl _)
theorem Bind_snr {α β:Type} (x:α) (k:α->Option β):Bind (some x) k=k x:=Eq.trans (by rfl) (Eq.refl _)
theorem Bind_if {α β:Type} {p:Prop} [Decidable p] (a d:α) (k:α->Option β):Bind (if p then some a else some d) k=k (if p then a else d):=by by_cases h:p <;> simp [h]
theorem gd1 (c a d:Bool):(bif c then (if (c==true)=true then a else d) else false)=(bif c then a else false):=by cases c <;> rfl
theorem gd2 (c a d:Bool):(bif c then true else (if (c==false)=true then a else d))=(bif c then true else a):=by cases c <;> rfl
theorem gd3 (c a d:Bool):(bif c then true else !(if (c==false)=true then a else d))=(bif c then true else !a):=by cases c <;> rfl
theorem gd4 (c a d:Bool):(bif c then !(if (c==true)=true then a else d) else false)=(bif c then !a else false):=by cases c <;> rfl
theorem gd5 (c:Bool) (a d k:Int):(bif c then ((if (c==true)=true then a else d) != k) else false)=(bif c then (a != k) else false):=by cases c <;> rfl
theorem gd6 (c:Bool) (a d k:Int):(bif c then decide ((if (c==true)=true then a else d)<k) else false)=(bif c then decide (a<k) else false):=by cases c <;> rfl
theorem ga1 (c a d:Bool):(c&&(if (c==true)=true then a else d))=(c&&a):=by cases c <;> rfl
theorem ga3 (c a d:Bool):(c || !(if (c==false)=true then a else d))=(c || !a):=by cases c <;> rfl
theorem ga5 (c:Bool) (a d:Int):(c||decide (0<=(if (c==false)=true then a else d)))=(c||decide (0<=a)):=by cases c <;> rfl
theorem ga8 (c e:Bool) (a d:Int):(c&&(e||decide (0<=(if (c==true&&e==false)=true then a else d))))=(c&&(e||decide (0<=a))):=by cases c <;> cases e <;> rfl
def Sm {α:Type} (l:List α):Prop:=l.length<2 ^ 62
theorem sm_of {α:Type} {l:List α} {n:Nat} (h:l.length<=n) (hn:n<2 ^ 62):Sm l:=Nat.lt_of_le_of_lt h hn
theorem w64_s (i:Nat) (h:i<2 ^ 62):IntKind.i64.wrap ((i:Int)+1)=(i:Int)+1:=wrap_in _ (by omega) (by omega)
theorem LOOP_l0n {α X:Type} [Inhabited α] (l:List α) (G:List α->Nat->Option X) (step:(Int->Option X)->Int->Option X) (hl:Sm l)
 (hs:∀ (r:Int->Option X) (i:Nat) (t:List α),IntKind.i64.wrap ((i:Int)+1)=(i:Int)+1->(0<=(i:Int)/\(i:Int)<(l.length:Int))->ix l (i:Int)∈l->r ((i:Int)+1)=G t (i+1)->step r (i:Int)=G (ix l (i:Int)::t) i)
 (he:∀ (r:Int->Option X),step r (l.length:Int)=G [] l.length):∀ (n i:Nat),i<=l.length->l.length - i<n->LOOP step n (i:Int)=G (l.drop i) i
 | 0,i,_,h=>by omega
 | n + 1,i,h1,h2=>by
   rw [LOOP_s]
   by_cases h:i<l.length
   ·rw [drop_ix l i h]
    exact hs _ i _ (w64_s i (by unfold Sm at hl;omega)) ⟨by omega,by omega⟩ (ix_mem l _ ⟨by omega,by omega⟩) (LOOP_l0n l G step hl hs he n (i+1) (by omega) (by omega))
   ·have e:i=l.length:=by omega
    subst e;rw [he,List.drop_length]
theorem LOOP_l0 {α X:Type} [Inhabited α] (l:List α) (G:List α->Nat->Option X) (step:(Int->Option X)->Int->Option X) (hl:Sm l)
 (hs:∀ (r:Int->Option X) (i:Nat) (t:List α),IntKind.i64.wrap ((i:Int)+1)=(i:Int)+1->(0<=(i:Int)/\(i:Int)<(l.length:Int))->ix l (i:Int)∈l->r ((i:Int)+1)=G t (i+1)->step r (i:Int)=G (ix l (i:Int)::t) i)
 (he:∀ (r:Int->Option X),step r (l.length:Int)=G [] l.length):LOOP step fuel (0:Int)=G l 0:=
 LOOP_l0n l G step hl hs he fuel 0 (Nat.zero_le _) (Nat.lt_trans (Nat.lt_of_le_of_lt (Nat.sub_le _ _) hl) (by unfold fuel;decide))
theorem LOOP_l1n {α σ X:Type} [Inhabited α] (l:List α) (G:List α->Nat->σ->Option X) (step:(σ × Int->Option X)->σ × Int->Option X) (hl:Sm l)
 (hs:∀ (r:σ × Int->Option X) (i:Nat) (t:List α) (s:σ),IntKind.i64.wrap ((i:Int)+1)=(i:Int)+1->(0<=(i:Int)/\(i:Int)<(l.length:Int))->ix l (i:Int)∈l->(∀ s,r (s,(i:Int)+1)=G t (i+1) s)->step r (s,(i:Int))=G (ix l (i:Int)::t) i s)
 (he:∀ (r:σ × Int->Option X) (s:σ),step r (s,(l.length:Int))=G [] l.length s):∀ (n i:Nat) (s:σ),i<=l.length->l.length - i<n->LOOP step n (s,(i:Int))=G (l.drop i) i s
 | 0,i,s,_,h=>by omega
 | n + 1,i,s,h1,h2=>by
   rw [LOOP_s]
   by_cases h:i<l.length
   ·rw [drop_ix l i h]
    exact hs _ i _ s (w64_s i (by unfold Sm at hl;omega)) ⟨by omega,by omega⟩ (ix_mem l _ ⟨by omega,by omega⟩) (fun s=>LOOP_l1n l G step hl hs he n (i+1) s (by omega) (by omega))
   ·have e:i=l.length:=by omega
    subst e;rw [he,List.drop_length]
theorem LOOP_l1 {α σ X:Type} [Inhabited α] (l:List α) (G:List α->Nat->σ->Option X) (step:(σ × Int->Option X)->σ × Int->Option X) (s0:σ) (hl:Sm l)
 (hs:∀ (r:σ × Int->Option X) (i:Nat) (t:List α) (s:σ),IntKind.i64.wrap ((i:Int)+1)=(i:Int)+1->(0<=(i:Int)/\(i:Int)<(l.length:Int))->ix l (i:Int)∈l->(∀ s,r (s,(i:Int)+1)=G t (i+1) s)->step r (s,(i:Int))=G (ix l (i:Int)::t) i s)
 (he:∀ (r:σ × Int->Option X) (s:σ),step r (s,(l.length:Int))=G [] l.length s):LOOP step fuel (s0,(0:Int))=G l 0 s0:=
 LOOP_l1n l G step hl hs he fuel 0 s0 (Nat.zero_le _) (Nat.lt_trans (Nat.lt_of_le_of_lt (Nat.sub_le _ _) hl) (by unfold fuel;decide))
theorem LOOP_l2n {α σ X:Type} [Inhabited α] (l:List α) (G:List α->Nat->σ->Option X) (step:(Int × σ->Option X)->Int × σ->Option X) (hl:Sm l)
 (hs:∀ (r:Int × σ->Option X) (i:Nat) (t:List α) (s:σ),IntKind.i64.wrap ((i:Int)+1)=(i:Int)+1->(0<=(i:Int)/\(i:Int)<(l.length:Int))->ix l (i:Int)∈l->(∀ s,r ((i:Int)+1,s)=G t (i+1) s)->step r ((i:Int),s)=G (ix l (i:Int)::t) i s)
 (he:∀ (r:Int × σ->Option X) (s:σ),step r ((l.length:Int),s)=G [] l.length s):∀ (n i:Nat) (s:σ),i<=l.length->l.length - i<n->LOOP step n ((i:Int),s)=G (l.drop i) i s
 | 0,i,s,_,h=>by omega
 | n + 1,i,s,h1,h2=>by
   rw [LOOP_s]
   by_cases h:i<l.length
   ·rw [drop_ix l i h]
    exact hs _ i _ s (w64_s i (by unfold Sm at hl;omega)) ⟨by omega,by omega⟩ (ix_mem l _ ⟨by omega,by omega⟩) (fun s=>LOOP_l2n l G step hl hs he n (i+1) s (by omega) (by omega))
   ·have e:i=l.length:=by omega
    subst e;rw [he,List.drop_length]
theorem LOOP_l2 {α σ X:Type} [Inhabited α] (l:List α) (G:List α->Nat->σ->Option X) (step:(Int × σ->Option X)->Int × σ->Option X) (s0:σ) (hl:Sm l)
 (hs:∀ (r:Int × σ->Option X) (i:Nat) (t:List α) (s:σ),IntKind.i64.wrap ((i:Int)+1)=(i:Int)+1->(0<=(i:Int)/\(i:Int)<(l.length:Int))->ix l (i:Int)∈l->(∀ s,r ((i:Int)+1,s)=G t (i+1) s)->step r ((i:Int),s)=G (ix l (i:Int)::t) i s)
 (he:∀ (r:Int × σ->Option X) (s:σ),step r ((l.length:Int),s)=G [] l.length s):LOOP step fuel ((0:Int),s0)=G l 0 s0:=
 LOOP_l2n l G step hl hs he fuel 0 s0 (Nat.zero_le _) (Nat.lt_trans (Nat.lt_of_le_of_lt (Nat.sub_le _ _) hl) (by unfold fuel;decide))
theorem LOOP_iN {α σ X:Type} [Inhabited α] (l:List α) (P:Nat->σ->Prop) (G:List α->Nat->σ->Option X) (step:(σ × Int->Option X)->σ × Int->Option X) (hl:Sm l)
 (hs:∀ (r:σ × Int->Option X) (i:Nat) (t:List α) (s:σ),P i s->IntKind.i64.wrap ((i:Int)+1)=(i:Int)+1->(0<=(i:Int)/\(i:Int)<(l.length:Int))->ix l (i:Int)∈l->(∀ s,P (i+1) s->r (s,(i:Int)+1)=G t (i+1) s)->step r (s,(i:Int))=G (ix l (i:Int)::t) i s)
 (he:∀ (r:σ × Int->Option X) (s:σ),P l.length s->step r (s,(l.length:Int))=G [] l.length s):∀ (n i:Nat) (s:σ),P i s->i<=l.length->l.length - i<n->LOOP step n (s,(i:Int))=G (l.drop i) i s
 | 0,i,s,_,_,h=>by omega
 | n + 1,i,s,hp,h1,h2=>by
   rw [LOOP_s]
   by_cases h:i<l.length
   ·rw [drop_ix l i h]
    exact hs _ i _ s hp (w64_s i (by unfold Sm at hl;omega)) ⟨by omega,by omega⟩ (ix_mem l _ ⟨by omega,by omega⟩) (fun s hp=>LOOP_iN l P G step hl hs he n (i+1) s hp (by omega) (by omega))
   ·have e:i=l.length:=by omega
    subst e;rw [he _ _ hp,List.drop_length]
theorem LOOP_i {α σ X:Type} [Inhabited α] (l:List α) (P:Nat->σ->Prop) (G:List α->Nat->σ->Option X) (step:(σ × Int->Option X)->σ × Int->Option X) (s0:σ) (hl:Sm l) (h0:P 0 s0)
 (hs:∀ (r:σ × Int->Option X) (i:Nat) (t:List α) (s:σ),P i s->IntKind.i64.wrap ((i:Int)+1)=(i:Int)+1->(0<=(i:Int)/\(i:Int)<(l.length:Int))->ix l (i:Int)∈l->(∀ s,P (i+1) s->r (s,(i:Int)+1)=G t (i+1) s)->step r (s,(i:Int))=G (ix l (i:Int)::t) i s)
 (he:∀ (r:σ × Int->Option X) (s:σ),P l.length s->step r (s,(l.length:Int))=G [] l.length s):LOOP step fuel (s0,(0:Int))=G l 0 s0:=
 LOOP_iN l P G step hl hs he fuel 0 s0 h0 (Nat.zero_le _) (Nat.lt_trans (Nat.lt_of_le_of_lt (Nat.sub_le _ _) hl) (by unfold fuel;decide))
def idx {α:Type} (f:α->Bool):List α->Nat->Int
 | [],_ => -1
 | a::l,i=>if f a=true then (i:Int) else idx f l (i+1)
theorem idx_bd {α:Type} (f:α->Bool):∀ (l:List α) (i:Nat),idx f l i = -1\/((i:Int)<=idx f l i/\idx f l i<(i:Int)+(l.length:Int))
 | [],i=>Or.inl rfl
 | a::l,i=>by
   unfold idx
   split
   ·right;simp;omega
   ·have:=idx_bd f l (i+1);simp only [List.length_cons];omega
theorem idx_any {α:Type} (f:α->Bool):∀ (l:List α) (i:Nat),decide (0<=idx f l i)=l.any f
 | [],i=>rfl
 | a::l,i=>by
   unfold idx
   by_cases h:f a=true
   ·rw [if_pos h];simp [h]
   ·rw [if_neg h,idx_any f l (i+1)];simp [h]
theorem dlt {i n:Int} (h:0<=i/\i<n):decide (i<n)=true:=decide_eq_true h.2
theorem dll (n:Int):decide (n<n)=false:=decide_eq_false (Int.lt_irrefl n)
theorem ff:(false=true)=False:=eq_false (fun h=>Bool.noConfusion h)
end Go.Rx
namespace Go.Rx
theorem LOOP_eq2 {α X:Type} [Inhabited α] [DecidableEq α] (l m:List α) (fin bad:Option X) (step:(Int->Option X)->Int->Option X) (hl:Sm l) (hlen:l.length=m.length)
 (hs:∀ (r:Int->Option X) (i:Nat),IntKind.i64.wrap ((i:Int)+1)=(i:Int)+1->(0<=(i:Int)/\(i:Int)<(l.length:Int))->(0<=(i:Int)/\(i:Int)<(m.length:Int))->ix l (i:Int)∈l->step r (i:Int)=if ix l (i:Int)=ix m (i:Int) then r ((i:Int)+1) else bad)
 (he:∀ (r:Int->Option X),step r (l.length:Int)=fin):LOOP step fuel (0:Int)=if l=m then fin else bad:=by
 have:=LOOP_l0 l (fun t i=>if t=m.drop i then fin else bad) step hl ?_ ?_
 ·simpa using this
 ·intro r i t hw hc hm hr
  have hc2:0<=(i:Int)/\(i:Int)<(m.length:Int):=by omega
  rw [hs r i hw hc hc2 hm,hr,drop_ix m i (by omega)]
  by_cases h:ix l (i:Int)=ix m (i:Int)
  ·simp [h]
  ·simp [h]
 ·intro r;rw [he,hlen,List.drop_length];simp
theorem ne_bne {a b:Int}:(a != b) = !decide (a=b):=by rw [Bool.eq_iff_iff];simp
end Go.Rx
namespace Go.Rx
theorem LOOP_gN {V α X:Type} [Inhabited α] (l:List α) (pos:V->Int) (P:Nat->V->Prop) (G:List α->V->Option X) (step:(V->Option X)->V->Option X) (hl:Sm l)
 (hs:∀ (r:V->Option X) (i:Nat) (t:List α) (v:V),pos v=(i:Int)->P i v->IntKind.i64.wrap ((i:Int)+1)=(i:Int)+1->(0<=(i:Int)/\(i:Int)<(l.length:Int))->ix l (i:Int)∈l->(∀ v',pos v'=(i:Int)+1->P (i+1) v'->r v'=G t v')->step r v=G (ix l (i:Int)::t) v)
 (he:∀ (r:V->Option X) (v:V),pos v=(l.length:Int)->P l.length v->step r v=G [] v):∀ (n i:Nat) (v:V),pos v=(i:Int)->P i v->i<=l.length->l.length - i<n->LOOP step n v=G (l.drop i) v
 | 0,i,v,_,_,_,h=>by omega
 | n + 1,i,v,hv,hp,h1,h2=>by
   rw [LOOP_s]
   by_cases h:i<l.length
   ·rw [drop_ix l i h]
    exact hs _ i _ v hv hp (w64_s i (by unfold Sm at hl;omega)) ⟨by omega,by omega⟩ (ix_mem l _ ⟨by omega,by omega⟩) (fun v' hv' hp'=>LOOP_gN l pos P G step hl hs he n (i+1) v' (by omega) hp' (by omega) (by omega))
   ·have e:i=l.length:=by omega
    subst e;rw [he _ _ hv hp,List.drop_length]
theorem LOOP_g {V α X:Type} [Inhabited α] (l:List α) (pos:V->Int) (P:Nat->V->Prop) (G:List α->V->Option X) (step:(V->Option X)->V->Option X) (v0:V) (hl:Sm l) (hv:pos v0=0) (hp:P 0 v0)
 (hs:∀ (r:V->Option X) (i:Nat) (t:List α) (v:V),pos v=(i:Int)->P i v->IntKind.i64.wrap ((i:Int)+1)=(i:Int)+1->(0<=(i:Int)/\(i:Int)<(l.length:Int))->ix l (i:Int)∈l->(∀ v',pos v'=(i:Int)+1->P (i+1) v'->r v'=G t v')->step r v=G (ix l (i:Int)::t) v)
 (he:∀ (r:V->Option X) (v:V),pos v=(l.length:Int)->P l.length v->step r v=G [] v):LOOP step fuel v0=G l v0:=
 LOOP_gN l pos P G step hl hs he fuel 0 v0 hv hp (Nat.zero_le _) (Nat.lt_trans (Nat.lt_of_le_of_lt (Nat.sub_le _ _) hl) (by unfold fuel;decide))
end Go.Rx
namespace Go.Rx
theorem LOOP_all {α X:Type} [Inhabited α] (l:List α) (q:α->Bool) (fin bad:Option X) (step:(Int->Option X)->Int->Option X) (hl:Sm l)
 (hs:∀ (r:Int->Option X) (i:Nat),IntKind.i64.wrap ((i:Int)+1)=(i:Int)+1->(0<=(i:Int)/\(i:Int)<(l.length:Int))->ix l (i:Int)∈l->step r (i:Int)=if q (ix l (i:Int))=true then r ((i:Int)+1) else bad)
 (he:∀ (r:Int->Option X),step r (l.length:Int)=fin):LOOP step fuel (0:Int)=if l.all q=true then fin else bad:=by
 refine LOOP_l0 l (fun t _=>if t.all q=true then fin else bad) step hl ?_ ?_
 ·intro r i t hw hc hm hr
  rw [hs r i hw hc hm,hr,List.all_cons]
  cases q (ix l (i:Int)) <;> simp
 ·intro r;rw [he];rfl
end Go.Rx
end
