/- Several texts in one. No conditions. -/
import Derived.Test.YtffgldbihpgjgaaGreatDoorGX
import Derived.Test.YtffgldbihpgjgaaGreatDoorGY
section
set_option linter.all false
set_option maxRecDepth 100000
open Go Go.Rx Go.Proofs Go.RowKit
namespace GoForm
structure TC (n ja js jc da k:Nat) (ds:Nat->Nat) (dep:Nat->Bool) (val:List Value->Nat->Value) (T:TypeId) (m:Mem) (av:AV) (w0:World) (a0:Act) (f:Nat->Bool) (a:Act) (w:World) (V:List Value) (M:Mem) (b:Nat):Prop where
 sz:a.tmps.size=a0.tmps.size
 df:a.defers=a0.defers
 bel:Below w0.heap.size w0 w
 Jp:∀ i,Pure n ja js i->f i=true->a.tmps[ds i]? = some (val V i)
 rest:∀ j,(∀ i,Pure n ja js i->ds i≠j)->j≠da->a.tmps[j]? = a0.tmps[j]?
 ord:f js=true->f ja=true/\f jc=true
 dj:∀ i,i<n->dep i=true->f i=true->f jc=true
 im:Imm M w
 le:Mem.le m M
 nw:JG m M w0.heap.size
 pre:f jc=false->M=m
 rep:f jc=true->Rep M je av (.agg V.toArray)/\V.length=k/\∀ c∈V,jA c=true
 box:f ja=true->a.tmps[da]? = some (.pointer (some ⟨b,0,none⟩))/\w0.heap.size<=b/\b<w.heap.size/\(∀ o,M b o=none)/\∃ cs,w.heap[b]? = some (.cells cs T (0,0))/\cs.size=k/\(f js=true->cs=V.toArray)
theorem zW {P : Program} {id:Nat} {Q:Exit->Act->World->Prop} {ops:Array Oper} {a0:Act} {w:World} (hm:P.follows .mixedOrders=true)
 (n ja js jv da jc k:Nat) (ds:Nat->Nat) (dep:Nat->Bool) (val:List Value->Nat->Value) (T ty:TypeId) (z:Value) (m:Mem) (av:AV) (hi:Imm m w) (hn:ops.size=n)
 (hback:∀ (i:Nat) (o:Oper),ops[i]? = some o->∀ e∈o.after,Region.binds .any e=true->e.on<i)
 (hp:∀ V i o,Pure n ja js i->i≠jc->ops[i]? = some o->o.guard=none/\o.dst=some (ds i)/\ds i<a0.tmps.size/\∀ a,(∀ e∈o.after,Region.binds .any e=true->e.on≠ja->e.on≠js->a.tmps[ds e.on]? = some (val V e.on))->
   (∀ j,(∀ i,Pure n ja js i->ds i≠j)->j≠da->a.tmps[j]? = a0.tmps[j]?)->∀ w',Below w.heap.size w w'->o.quietAt P a (fun w''=>w''=w') w' (val V i))
 (hc:∃ o,ops[jc]? = some o/\o.guard=none/\o.dst=some (ds jc)/\ds jc<a0.tmps.size/\∀ V (a:Act),(∀ e∈o.after,Region.binds .any e=true->e.on≠ja->e.on≠js->a.tmps[ds e.on]? = some (val V e.on))->
   (∀ j,(∀ i,Pure n ja js i->ds i≠j)->j≠da->a.tmps[j]? = a0.tmps[j]?)->∀ w',Below w.heap.size w w'->Imm m w'->∃ g args,(execOp a.eval o).run P w'=.ok (.enter g args) w'/\Calls P g args w' fun e w''=>∃ V' M',e=.returned (val V' jc)/\Rep M' je av (.agg V'.toArray)/\V'.length=k/\(∀ c∈V',jA c=true)/\Imm M' w''/\Mem.le m M'/\JG m M' w'.heap.size/\Below w'.heap.size w' w'')
 (hdep:∀ i V V',dep i=false->val V i=val V' i) (hdj:∀ i o,i<n->dep i=true->i≠jc->ops[i]? = some o->∃ e∈o.after,Region.binds .any e=true/\dep e.on=true)
 (hinj:∀ i i',Pure n ja js i->Pure n ja js i'->ds i=ds i'->i=i') (hda:∀ i,Pure n ja js i->ds i≠da) (hdl:da<a0.tmps.size)
 (ha:∃ o,ops[ja]? = some o/\o.guard=none/\o.op=.alloc T/\o.dst=some da) (hz:∀ w,Sem.run P (zeroValue T) w=.ok z w) (hzV:z.cells.size=k)
 (hs:∃ o,ops[js]? = some o/\o.guard=none/\o.op=.store ty (.tmp da) (.tmp (ds jv))/\o.dst=none/\∀ f:Nat->Bool,(∀ e∈o.after,Region.binds .any e=true->f e.on=true)->f ja=true/\f jv=true)
 (hjv:Pure n ja js jv) (hjc:Pure n ja js jc) (hjas:ja≠js) (hdv:dep jv=true/\dep jc=true/\dep ja=false/\dep js=false) (hv:∀ V,val V jv=.agg V.toArray) (hVs:tSz P ty=some k)
 (hq:∀ a w' b V M,Below w.heap.size w w'->w.heap.size<=b->b<w'.heap.size->w'.heap[b]? = some (.cells V.toArray T (0,0))->Rep M je av (.agg V.toArray)->V.length=k->(∀ c∈V,jA c=true)->Imm M w'->Mem.le m M->JG m M w.heap.size->a.defers=a0.defers->a.tmps.size=a0.tmps.size->(∀ i,Pure n ja js i->a.tmps[ds i]? = some (val V i))->a.tmps[da]? = some (.pointer (some ⟨b,0,none⟩))->
   (∀ j,(∀ i,Pure n ja js i->ds i≠j)->j≠da->a.tmps[j]? = a0.tmps[j]?)->Q .normal a w'):(Code.region id ops true).wp P Q a0 w:=by
 have hdr:Below w.heap.size w w.drew:=(Below.refl _ w).drew
 have hja0:ja≠jc:=fun e=>hjc.2.1 e.symm
 have hjs0:js≠jc:=fun e=>hjc.2.2 e.symm
 refine QU hm (fun f a w'=>∃ V M b,TC n ja js jc da k ds dep val T m av w a0 f a w' V M b) hback ⟨[],m,0,rfl,rfl,hdr,by simp,fun _ _ _=>rfl,by simp,by simp,hi.below hdr,fun _ _ _ e=>e,JG.refl _ _,fun _=>rfl,by simp,by simp⟩ ?_ ?_
 ·rintro f a w1 i o ⟨V,M,b,S⟩ ho hf hdp
  have hin:i<n:=by rw [<- hn];exact (Array.getElem?_eq_some_iff.1 ho).1
  by_cases ea:i=ja
  ·subst ea
   obtain ⟨o',q1,q2,q3,q4⟩:=ha
   rw [q1] at ho;cases ho
   have njs:f js=true->False:=fun h=>by have:=(S.ord h).1;rw [hf] at this;cases this
   refine ze q1 q2 (Pf q3 hz ?_)
   rw [q4]
   have hb:Below w1.heap.size w1 (w1.alloc (.cells z.cells T)):=(Below.refl _ _).alloc (Nat.le_refl _) _
   refine ⟨V,M,w1.heap.size,VD.trans S.sz,S.df,S.bel.trans (hb.mono S.bel.size),fun j hj h=>?_,fun j h1 h2=>(qG h2).trans (S.rest j h1 h2),fun h=>(njs (by rw [if_neg (fun e=>hjas e.symm)] at h;exact h)).elim,fun j hj h1 h2=>?_,S.im.below hb,S.le,S.nw,fun h=>?_,fun h=>?_,fun _=>⟨put_eq (by rw [S.sz];exact hdl),S.bel.size,by simp,yi S.im (Nat.le_refl _),z.cells,Jh _ _ _ rfl,hzV,fun h=>?_⟩⟩
   ·rw [qG (hda j hj)]
    rw [if_neg hj.2.1] at h
    exact S.Jp j hj h
   ·rw [if_neg (fun e=>hja0 e.symm)]
    by_cases ej:j=i
    ·subst ej;rw [hdv.2.2.1] at h1;cases h1
    ·rw [if_neg ej] at h2;exact S.dj j hj h1 h2
   ·rw [if_neg (fun e=>hja0 e.symm)] at h;exact S.pre h
   ·rw [if_neg (fun e=>hja0 e.symm)] at h;exact S.rep h
   ·rw [if_neg (fun e=>hjas e.symm)] at h;exact (njs h).elim
  ·by_cases es:i=js
   ·subst es
    obtain ⟨o',q1,q2,q3,q4,q5⟩:=hs
    rw [q1] at ho;cases ho
    obtain ⟨fa,fv⟩:=q5 f hdp
    have fc:f jc=true:=S.dj jv hjv.1 hdv.1 fv
    obtain ⟨r1,r2,r3⟩:=S.rep fc
    obtain ⟨g1,g2,g3,g6,cs,g4,g5,-⟩:=S.box fa
    refine ze q1 q2 (wo q3 (ev g1) ((ev (S.Jp jv hjv fv)).trans (hv V)) (by rw [r2];exact hVs) g4 (by rw [r2];exact g5) r3 fun w' hh hg=>?_)
    rw [q4]
    refine ⟨V,M,b,S.sz,S.df,S.bel.grown hg S.bel.size (fun j e=>by have:=Option.some.inj e;omega),fun j hj h=>?_,S.rest,fun _=>?_,fun j hj h1 h2=>?_,yG S.im hg g6,S.le,S.nw,fun h=>?_,fun h=>⟨r1,r2,r3⟩,fun _=>⟨g1,g2,Nat.lt_of_lt_of_le g3 hg.size,g6,_,hh,by simpa using r2,fun _=>rfl⟩⟩
    ·rw [if_neg hj.2.2] at h
     exact S.Jp j hj h
    ·rw [if_neg hjas,if_neg (fun e=>hjs0 e.symm)];exact ⟨fa,fc⟩
    ·rw [if_neg (fun e=>hjs0 e.symm)];exact fc
    ·rw [if_neg (fun e=>hjs0 e.symm),fc] at h;cases h
   ·by_cases ec:i=jc
    ·subst ec
     obtain ⟨o',q1,q2,q3,q4,q5⟩:=hc
     rw [q1] at ho;cases ho
     have hM:=S.pre hf
     subst hM
     obtain ⟨g,args,r1,r2⟩:=q5 V a (fun e he hb h1 h2=>by
      have hlt:=hback i o q1 e he hb
      exact S.Jp e.on ⟨by omega,h1,h2⟩ (hdp e he hb)) S.rest w1 S.bel S.im
     refine ze q1 q2 ?_
     unfold Oper.wp
     rw [r1]
     refine Calls.mono r2 ?_
     rintro _ w2 ⟨V',M',rfl,h1,h2,h3,h4,h5,h6,h7⟩
     show ∃ V1 M1 b,TC n ja js i da k ds dep val T M av w a0 (fun j=>if j=i then true else f j) (a.put o.dst (val V' i)) w2 V1 M1 b
     rw [q3]
     have ndj:∀ j,j<n->dep j=true->f j=true->False:=fun j hj h h'=>by have:=S.dj j hj h h';rw [hf] at this;cases this
     refine ⟨V',M',b,VD.trans S.sz,S.df,S.bel.trans (h7.mono S.bel.size),fun j hj h=>?_,fun j e1 e2=>(qG (fun e=>e1 i hjc e.symm)).trans (S.rest j e1 e2),fun h=>?_,fun j hj e1 e2=>if_pos rfl,h4,h5,fun b' o u e=>(h6 b' o u e).imp (fun h=>h) (fun h=>Nat.le_trans S.bel.size h),fun h=>?_,fun _=>⟨h1,h2,h3⟩,fun h=>?_⟩
     ·by_cases ej:j=i
      ·subst ej;exact put_eq (by rw [S.sz];exact q4)
      ·rw [if_neg ej] at h
       rw [qG (fun e=>ej (hinj j i hj hjc e)),S.Jp j hj h]
       cases hdj':dep j with
       | true=>exact (ndj j hj.1 hdj' h).elim
       | false=>rw [hdep j V V' hdj']
     ·rw [if_neg hjs0] at h
      have:=(S.ord h).2;rw [hf] at this;cases this
     ·rw [if_pos rfl] at h;cases h
     ·rw [if_neg hja0] at h
      obtain ⟨g1,g2,g3,g6,cs,g4,g5,g7⟩:=S.box h
      refine ⟨(qG (fun e=>hda i hjc e.symm)).trans g1,g2,Nat.lt_of_lt_of_le g3 h7.size,h6.none g3 g6,cs,(h7.block _ g3).trans g4,g5,fun h'=>?_⟩
      rw [if_neg hjs0] at h'
      have:=(S.ord h').2;rw [hf] at this;cases this
    ·have hpi:Pure n ja js i:=⟨hin,ea,es⟩
     obtain ⟨q2,q4,q5,q6⟩:=hp V i o hpi ec ho
     have hQ:=q6 a (fun e he hb h1 h2=>by
      have hlt:=hback i o ho e he hb
      exact S.Jp e.on ⟨by omega,h1,h2⟩ (hdp e he hb)) S.rest w1 S.bel
     refine ze ho q2 ?_
     have key:∃ V' M b,TC n ja js jc da k ds dep val T m av w a0 (fun j=>if j=i then true else f j) (a.put (some (ds i)) (val V i)) w1 V' M b:=by
      refine ⟨V,M,b,VD.trans S.sz,S.df,S.bel,fun j hj h=>?_,fun j h1 h2=>(qG (fun e=>h1 i hpi e.symm)).trans (S.rest j h1 h2),fun h=>?_,fun j hj h1 h2=>?_,S.im,S.le,S.nw,fun h=>?_,fun h=>?_,fun h=>?_⟩
      ·by_cases ej:j=i
       ·subst ej;exact put_eq (by rw [S.sz];exact q5)
       ·rw [if_neg ej] at h
        rw [qG (fun e=>ej (hinj j i hj hpi e))]
        exact S.Jp j hj h
      ·rw [if_neg (fun e=>es e.symm)] at h
       rw [if_neg (fun e=>ea e.symm),if_neg (fun e=>ec e.symm)];exact S.ord h
      ·rw [if_neg (fun e=>ec e.symm)]
       by_cases ej:j=i
       ·subst ej
        obtain ⟨e,he,hb,hd⟩:=hdj j o hin h1 ec ho
        exact S.dj e.on (by have:=hback j o ho e he hb;omega) hd (hdp e he hb)
       ·rw [if_neg ej] at h2;exact S.dj j hj h1 h2
      ·rw [if_neg (fun e=>ec e.symm)] at h;exact S.pre h
      ·rw [if_neg (fun e=>ec e.symm)] at h;exact S.rep h
      ·rw [if_neg (fun e=>ea e.symm)] at h
       rw [qG (fun e=>hda i hpi e.symm),if_neg (fun e=>es e.symm)]
       exact S.box h
     have key:∃ V' M b,TC n ja js jc da k ds dep val T m av w a0 (fun j=>if j=i then true else f j) (a.put o.dst (val V i)) w1 V' M b:=by rw [q4];exact key
     unfold Oper.quietAt at hQ
     unfold Oper.wp
     generalize (execOp a.eval o).run P w1=r at hQ ⊢
     cases r with
     | ok nx w'=>
       cases nx <;> simp only [Oper.quietUpon] at hQ <;> simp only [Oper.upon]
       case value u=>
        obtain ⟨e1,e2⟩:=hQ
        subst e1;subst e2
        exact key
       case skip=>
        obtain ⟨e1,e2⟩:=hQ
        subst e1
        rw [<- e2]
        exact key
       case enter g args=>
        obtain ⟨e1,hcl⟩:=hQ
        subst e1
        exact hcl.mono fun e w'' ⟨he,hw''⟩=>by subst he;rw [hw''];exact key
     | halt x w'=>simp only [Oper.quietUpon] at hQ
 ·rintro f a w1 ⟨V,M,b,S⟩ hall
  rw [hn] at hall
  have hja:ja<n:=by obtain ⟨o,q,-⟩:=ha;rw [<- hn];exact (Array.getElem?_eq_some_iff.1 q).1
  have hjs:js<n:=by obtain ⟨o,q,-⟩:=hs;rw [<- hn];exact (Array.getElem?_eq_some_iff.1 q).1
  obtain ⟨g1,g2,g3,-,cs,g4,-,g6⟩:=S.box (hall ja hja)
  obtain ⟨r1,r2,r3⟩:=S.rep (hall jc hjc.1)
  exact hq a w1 b V M S.bel g2 g3 (g6 (hall js hjs) ▸ g4) r1 r2 r3 S.im S.le S.nw S.df S.sz (fun i hi=>S.Jp i hi (hall i hi.1)) g1 S.rest
abbrev bxF (a:Option Addr) (n c:Nat) (o code:Int):Obj:=.cells #[.slice a n c,.int .i64 o,.int .i64 code] 87 (0,0)
theorem Xj {P:Program} {C:World->Prop} {o:Oper} {a:Act} {K:Act->Prop} {f:FuncId} {t:Nat} {xs:Array Operand} {tys:Array TypeId} {vs:Array Value} {v:Value}
 (e:o.op=.call { callee:=.value (.tmp t),args:=xs,argTypes:=tys }) (hf:a.eval (.tmp t)=.func (.func f) #[] #[]) (hc:∀ (args:Array Value) (w:World),Sem.run P (callFunc f args) w=.ok (.enter f args) w) (hv:xs.map a.eval=vs)
 (hC:∀ w,C w->Calls P f vs w fun e w'=>e=.returned v/\C w') (hk:K (a.put o.dst v)):o.quiet P a C K:=
 ⟨v,fun w hw=>by
   have hf:a.tmps[t]?.getD undef=.func (.func f) #[] #[]:=by simpa [Act.eval] using hf
   have r1:(execOp a.eval o).run P w=.ok (.enter f vs) w:=by subst hv;simp [execOp,e,resolve,invoke,hc,hf,go_sem]
   unfold Oper.quietAt
   rw [r1]
   exact ⟨rfl,hC w hw⟩,hk⟩
theorem Zh {W:World} {bd:Nat} {cs cs':Array Value} {T:TypeId} (h:W.heap[bd]? = some (.cells cs T (0,0))) (j:Nat) (v:Value) (e:cs.setIfInBounds j v=cs'):(W.setCell ⟨bd,j,none⟩ v).heap[bd]? = some (.cells cs' T (0,0))/\W.grownBy (W.setCell ⟨bd,j,none⟩ v) (some bd):=
 ⟨wv h j _ _ e,⟨rfl,rfl,rfl,by rw [size_set];exact Nat.le_refl _,fun k _ hk=>heap_set _ _ _ _ (fun e=>hk (by rw [e]))⟩⟩
theorem wx {α:Type} {z x:α} {rd:Int->Option (α × Int × Int)} {o cd o' c':Int} (h:Uk z rd o cd=some (x,o',c')):(cd≠0/\x=z/\o'=o/\c'=cd)\/(cd=0/\∃ y o1 e,rd o=some (y,o1,e)/\((e≠0/\x=z/\o'=o/\c'=e)\/(e=0/\x=y/\o'=o1/\c'=0))):=by
 unfold Uk at h
 rcases Decidable.em (cd≠0) with h0 | h0
 ·rw [if_pos h0] at h;cases h;exact .inl ⟨h0,rfl,rfl,rfl⟩
 ·rw [if_neg h0] at h
  refine .inr ⟨Decidable.of_not_not h0,?_⟩
  cases hr:rd o with
  | none=>rw [hr] at h;cases h
  | some q=>
    obtain ⟨y,o1,e⟩:=q
    rw [hr] at h
    refine ⟨y,o1,e,rfl,?_⟩
    rcases Decidable.em (e≠0) with h1 | h1
    ·simp only [if_pos h1] at h;cases h;exact .inl ⟨h1,rfl,rfl,rfl⟩
    ·simp only [if_neg h1] at h;cases h;exact .inr ⟨Decidable.of_not_not h1,rfl,rfl,rfl⟩
set_option maxHeartbeats 4000000 in
theorem PE {m:Mem} {buf:List UInt8} {a:Option Addr} {n c bd:Nat} {off cd x o' c':Int} {W:World} (F:BF m buf a n c bd W) (hb:W.heap[bd]? = some (bxF a n c off cd)) (h:Uk 0 (jd buf) off cd=some (x,o',c')):
 Calls Tryz.prog 113 #[.pointer (some ⟨bd,0,none⟩),.func (.func 114) #[] #[]] W fun e W'=>e=.returned (.int .i64 x)/\W'.heap[bd]? = some (bxF a n c o' c')/\W.grownBy W' (some bd):=by
 have hlt:=F.lt
 have hb:W.heap[bd]? = some (.cells #[.slice a n c,.int .i64 off,.int .i64 cd] 87 (0,0)):=hb
 have c2:W.cell? ⟨bd,2,none⟩=some (.int .i64 cd):=jD hb 2 rfl
 rcases wx h with ⟨hcd,rfl,rfl,rfl⟩ | ⟨rfl,y,o1,ec,hrd,hk⟩
 ·have hB:(c' != 0)=true:=by rw [bne_iff_ne];exact hcd
  have HB:Hid (_):=hb
  clear hb h
  go_enter Tryz.func113,Tryz.ntmps113
  go_wp2
  go_ret
  exact ⟨rfl,HB.out,ur⟩
 have f0:∀ w',Below W.heap.size W w'->w'.cell? ⟨bd,0,none⟩=some (.slice a n c):=fun w' hw=>jD ((hw.block _ hlt).trans hb) 0 rfl
 have f1:∀ w',Below W.heap.size W w'->w'.cell? ⟨bd,1,none⟩=some (.int .i64 off):=fun w' hw=>jD ((hw.block _ hlt).trans hb) 1 rfl
 have hc:FnR Tryz.prog 114 [jW buf,.v (.int .i64 off)] (.tup [.v (.int .i64 y),.v (.int .i64 o1),.v (.int .i64 ec)]) []:=jgx.ok (buf,off,()) [jW buf,.v (.int .i64 off)] ((y,o1,ec):Int × Int × Int) ⟨rfl,rfl,trivial⟩ hrd
 have kc:∀ w',Below W.heap.size W w'->Calls Tryz.prog 114 #[.slice a n c,.int .i64 off] w' fun en w''=>en=.returned (.tuple #[.int .i64 y,.int .i64 o1,.int .i64 ec])/\Below W.heap.size W w'':=fun w' hw=>by
  refine (QE hc w' [.slice a n c,.int .i64 off] (.cons (F.rep.mono (qU (F.imm.below hw))) (.cons .v .nil))).mono ?_
  rintro e1 w'' ⟨v,rfl,hb2,hrep⟩
  obtain ⟨vs,rfl,hvs⟩:=qe hrep
  have:vs=[.int .i64 y,.int .i64 o1,.int .i64 ec]:=Jz (l:=[.int .i64 y,.int .i64 o1,.int .i64 ec]) hvs
  subst this
  exact ⟨rfl,hw.trans (hb2.mono hw.size)⟩
 have e114:=Tryz.call114
 have HB:Hid (_/\_):=⟨hb,hlt⟩
 clear hb hc h hrd
 go_enter Tryz.func113,Tryz.ntmps113
 go_wp2
 refine qk qT (by kernel_rfl) ?_
 iterate 4 (go_big_quiet_want;go_big_quiet_op;first | go_big_quiet_on | (refine ⟨_,fun _ _=>rfl,?_⟩;go_big_quiet_on))
 go_big_quiet_want
 refine Yn (ad:=⟨bd,0,none⟩) (v:=.slice a n c) rfl rfl (by kernel_rfl) (fun w' hw=>f0 w' hw) ?_
 simp only [Act.put,List.setIfInBounds_toArray,List.set_cons_succ,List.set_cons_zero]
 go_big_quiet_on
 iterate 3 (go_big_quiet_want;go_big_quiet_op;first | go_big_quiet_on | (refine ⟨_,fun _ _=>rfl,?_⟩;go_big_quiet_on))
 go_big_quiet_want
 refine Yn (ad:=⟨bd,1,none⟩) (v:=.int .i64 off) rfl rfl (by kernel_rfl) (fun w' hw=>f1 w' hw) ?_
 simp only [Act.put,List.setIfInBounds_toArray,List.set_cons_succ,List.set_cons_zero]
 go_big_quiet_on
 go_big_quiet_want
 refine Xj (f:=114) (t:=16) (xs:=#[.tmp 20,.tmp 24]) (tys:=#[24,3]) (vs:=#[.slice a n c,.int .i64 off]) (v:=.tuple #[.int .i64 y,.int .i64 o1,.int .i64 ec]) rfl (by simp [Act.eval]) e114 (by simp [Act.eval]) (fun w' hw'=>kc w' hw') ?_
 simp only [Act.put,List.setIfInBounds_toArray,List.set_cons_succ,List.set_cons_zero]
 go_big_quiet_on
 iterate 7 (go_big_quiet_want;go_big_quiet_op;first | go_big_quiet_on | (refine ⟨_,fun _ _=>rfl,?_⟩;go_big_quiet_on))
 refine wpQuiet_nil ?_
 intro W1 hW1
 have D1:W1.heap[bd]? = some (.cells #[.slice a n c,.int .i64 off,.int .i64 0] 87 (0,0)):=(hW1.block _ HB.out.2).trans HB.out.1
 have d1:W1.cell? ⟨bd,1,none⟩=some (.int .i64 off):=jD D1 1 rfl
 have z1:=qp D1 1
 have d2:W1.cell? ⟨bd,2,none⟩=some (.int .i64 0):=jD D1 2 rfl
 have z2:=qp D1 2
 have G1:Hid (_/\_):=Zh D1 1 (.int .i64 o1) rfl
 have G2:Hid (_/\_):=Zh D1 2 (.int .i64 ec) rfl
 clear f0 f1 kc c2 D1
 rcases hk with ⟨he,rfl,rfl,rfl⟩ | ⟨rfl,rfl,rfl,rfl⟩
 ·have hB:(c' != 0)=true:=by rw [bne_iff_ne];exact he
  go_wp2
  go_ret
  exact ⟨rfl,G2.out.1,ZI hW1 G2.out.2⟩
 ·go_wp2
  go_ret
  exact ⟨rfl,G1.out.1,ZI hW1 G1.out.2⟩
def xY (f:FuncId) (av:AV) (m:Mem) (k:Nat) (a:Option Addr) (n c:Nat) (off o1 ec:Int) (W:World):Prop:=
 ∀ w',Below W.heap.size W w'->Imm m w'->Calls Tryz.prog f #[.slice a n c,.int .i64 off] w' fun e w''=>∃ V M,e=.returned (.tuple #[.agg (V:List Value).toArray,.int .i64 o1,.int .i64 ec])/\Rep M je av (.agg V.toArray)/\V.length=k/\(∀ c∈V,jA c=true)/\Imm M w''/\Mem.le m M/\JG m M w'.heap.size/\Below w'.heap.size w' w''
def depS (i:Nat):Bool:=decide (9<=i)&&i != 14&&i != 15
def dsS:Nat->Nat
 | 0=>16
 | 1=>17
 | 2=>18
 | 3=>19
 | 4=>20
 | 5=>21
 | 6=>22
 | 7=>23
 | 8=>24
 | 9=>25
 | 10=>15
 | 11=>26
 | 12=>27
 | 13=>28
 | 16=>7
 | 17=>8
 | _=>0
def zK (f:FuncId) (bd:Nat) (a:Option Addr) (n c:Nat) (off o1 ec:Int) (V:List Value):Nat->Value
 | 0=>(.func (.func f) #[] #[])
 | 1=>(.pointer (some ⟨bd,0,none⟩))
 | 2=>(.pointer (some ⟨bd,0,none⟩))
 | 3=>(.pointer (some ⟨bd,0,none⟩))
 | 4=>(.slice a n c)
 | 5=>(.pointer (some ⟨bd,0,none⟩))
 | 6=>(.pointer (some ⟨bd,0,none⟩))
 | 7=>(.pointer (some ⟨bd,1,none⟩))
 | 8=>(.int .i64 off)
 | 9=>(.tuple #[.agg V.toArray,.int .i64 o1,.int .i64 ec])
 | 10=>(.tuple #[.agg V.toArray,.int .i64 o1,.int .i64 ec])
 | 11=>(.agg V.toArray)
 | 12=>(.int .i64 o1)
 | 13=>(.int .i64 ec)
 | 16=>(.int .i64 o1)
 | 17=>(.int .i64 ec)
 | _=>undef
theorem Uq (f:FuncId) (bd:Nat) (a:Option Addr) (n c:Nat) (off o1 ec:Int):∀ i V V',depS i=false->zK f bd a n c off o1 ec V i=zK f bd a n c off o1 ec V' i:=by
 intro i V V' h
 match i,h with
 | 0,_ | 1,_ | 2,_ | 3,_ | 4,_ | 5,_ | 6,_ | 7,_ | 8,_ | 14,_ | 15,_=>rfl
 | 9,h | 10,h | 11,h | 12,h | 13,h | 16,h | 17,h=>exact absurd h (by decide)
 | j+18,h=>exact absurd h (by simp [depS])
theorem injS:∀ i i',Pure 18 14 15 i->Pure 18 14 15 i'->dsS i=dsS i'->i=i':=jet (by kernel_rfl)
theorem memS:∀ i,Pure 18 14 15 i->dsS i∈[16,17,18,19,20,21,22,23,24,25,15,26,27,28,7,8]:=fun i hi=>(by decide:∀ i,i<18->i≠14->i≠15->dsS i∈[16,17,18,19,20,21,22,23,24,25,15,26,27,28,7,8]) i hi.1 hi.2.1 hi.2.2
theorem Mz {j:Nat} (h:j∉[16,17,18,19,20,21,22,23,24,25,15,26,27,28,7,8]):∀ i,Pure 18 14 15 i->dsS i≠j:=fun i hi e=>h (e ▸ memS i hi)
theorem Wn {m:Mem}:Rep m je (QC (⟨0,0⟩:Vec)) (.agg ([.int .i64 0,.int .i64 0]).toArray):=.agg (l:=_) (Ke [_,_]) (qx rfl)
set_option maxHeartbeats 4000000 in
theorem fieldV {m:Mem} {buf:List UInt8} {a:Option Addr} {n c bd:Nat} {off cd o' c':Int} {x:Vec} {rd:Int->Option (Vec × Int × Int)} {W:World} (F:BF m buf a n c bd W) (hb:W.heap[bd]? = some (bxF a n c off cd)) (h:Uk (⟨0,0⟩:Vec) rd off cd=some (x,o',c'))
 (hR:∀ y o1 ec,rd off=some (y,o1,ec)->xY 116 (QC y) m 2 a n c off o1 ec W):
 Calls Tryz.prog 115 #[.pointer (some ⟨bd,0,none⟩),.func (.func 116) #[] #[]] W fun e W'=>∃ v M,e=.returned v/\Rep M je (QC x) v/\Okd m buf a n c bd W (bxF a n c o' c') M W':=by
 have hlt:=F.lt
 have hf:=Tryz.call116
 have hb:W.heap[bd]? = some (.cells #[.slice a n c,.int .i64 off,.int .i64 cd] 87 (0,0)):=hb
 have ra:tAg Tryz.prog 65=some true:=by kernel_rfl
 have rz:tSz Tryz.prog 65=some 2:=by kernel_rfl
 have HR:Hid (_/\_):=⟨ra,rz⟩
 clear ra rz
 obtain ⟨V,hV⟩:∃ V,V=(W.alloc (.cells ([.int .i64 0,.int .i64 0]).toArray 65)).alloc (.cells ([.int .i64 0,.int .i64 0]).toArray 65):=⟨_,rfl⟩
 have OV:Okd m buf a n c bd W (bxF a n c off cd) m V:=by rw [hV];exact ((Okd.start F hb).alloc hlt _).alloc hlt _
 have kV:V.heap[W.heap.size]? = some (.cells ([.int .i64 0,.int .i64 0]).toArray 65 (0,0)):=by rw [hV,jU _ _ _ (by simp)];exact Jh _ _ _ rfl
 have kV1:V.heap[W.heap.size+1]? = some (.cells ([.int .i64 0,.int .i64 0]).toArray 65 (0,0)):=by rw [hV];exact Jh _ _ _ (by simp)
 have sV:V.heap.size=W.heap.size+2:=by rw [hV];simp
 have bV:Below W.heap.size W V:=by rw [hV];exact ((Below.refl _ _).alloc (Nat.le_refl _) _).alloc (by simp) _
 have hbV:V.heap[bd]? = some (.cells #[.slice a n c,.int .i64 off,.int .i64 cd] 87 (0,0)):=OV.D
 have c2:V.cell? ⟨bd,2,none⟩=some (.int .i64 cd):=jD hbV 2 rfl
 have nV:∀ g,W.heap.size<=g->∀ o,m g o=none:=fun g hg=>yi F.imm hg
 have HV:Hid (V=(W.alloc (.cells ([.int .i64 0,.int .i64 0]).toArray 65)).alloc (.cells ([.int .i64 0,.int .i64 0]).toArray 65)):=hV
 have HO:Hid (_/\_/\_/\_/\_/\_):=⟨OV,kV,kV1,nV,sV,bV⟩
 rcases wx h with ⟨hcd,rfl,rfl,rfl⟩ | ⟨rfl,y,o1,ec,hrd,hk⟩
 ·have hB:(c' != 0)=true:=by rw [bne_iff_ne];exact hcd
  clear hb hbV hV h hR OV kV kV1 F
  go_enter Tryz.func115,Tryz.ntmps115
  go_upto_region 2 with fail
  have eV:((W.alloc (.cells ([.int .i64 0,.int .i64 0]).toArray 65)).alloc (.cells ([.int .i64 0,.int .i64 0]).toArray 65))=V:=HV.out.symm
  rw [eV]
  clear eV
  go_wp2_with (first
   | (refine Jo HO.out.2.2.1 rfl rfl rfl rfl HR.out.1 HR.out.2 rfl ?_)
   | (apply Jd [.int .i64 0,.int .i64 0] HO.out.2.1 rfl rfl rfl
      ·rfl
      ·rfl
      ·exact HR.out.2
      ·rfl
      ·rfl
      ·exact qx rfl
      intro w3 h3 g3
      have HK:Hid (_/\_):=⟨h3,HO.out.1.own hlt g3 (fun g e=>by have:=Option.some.inj e;omega) (fun g e=>HO.out.2.2.2.1 g (by have:=Option.some.inj e;omega))⟩
      clear h3 g3))
  have r0:Tryz.f115.results=#[.cell 4 65]:=rfl
  refine bodyPost_ret (yr HK.out.1 r0 rfl HR.out.1 HR.out.2 rfl) rfl ?_
  exact ⟨_,m,rfl,Wn,HK.out.2⟩
 have lV:bd<V.heap.size:=OV.F.lt
 have HB:Hid (_/\_/\_):=⟨fun w' (hw:Below V.heap.size V w')=>jD ((hw.block _ lV).trans hbV) 0 rfl,fun w' (hw:Below V.heap.size V w')=>jD ((hw.block _ lV).trans hbV) 1 rfl,
  fun w' (hw:Below V.heap.size V w')=>hR y o1 ec hrd w' (bV.trans (hw.mono (by omega)))⟩
 clear hb hV h hR kV kV1 F hrd
 go_enter Tryz.func115,Tryz.ntmps115
 go_upto_region 2 with fail
 have eV:((W.alloc (.cells ([.int .i64 0,.int .i64 0]).toArray 65)).alloc (.cells ([.int .i64 0,.int .i64 0]).toArray 65))=V:=HV.out.symm
 rw [eV]
 clear eV
 go_wp2
 refine zW qT 18 14 15 11 6 9 2 dsS depS (zK 116 bd a n c off o1 ec) 65 65 _ m (QC y) OV.F.imm rfl ?_ ?_ ?_ (Uq 116 bd a n c off o1 ec) ?_ injS ?_ (by simp) ⟨_,rfl,rfl,rfl,rfl⟩ Tryz.zeroValue65 rfl ⟨_,rfl,rfl,rfl,rfl,?_⟩ ⟨by decide,by decide,by decide⟩ ⟨by decide,by decide,by decide⟩ (by decide) (by decide) (fun _=>rfl) HR.out.2 ?_
 ·intro i o ho
  match i with
  | 0=>cases ho;simp [Region.binds]
  | 1=>cases ho;simp [Region.binds]
  | 2=>cases ho;simp [Region.binds]
  | 3=>cases ho;simp [Region.binds]
  | 4=>cases ho;simp [Region.binds]
  | 5=>cases ho;simp [Region.binds]
  | 6=>cases ho;simp [Region.binds]
  | 7=>cases ho;simp [Region.binds]
  | 8=>cases ho;simp [Region.binds]
  | 9=>cases ho;simp [Region.binds]
  | 10=>cases ho;simp [Region.binds]
  | 11=>cases ho;simp [Region.binds]
  | 12=>cases ho;simp [Region.binds]
  | 13=>cases ho;simp [Region.binds]
  | 14=>cases ho;simp [Region.binds]
  | 15=>cases ho;simp [Region.binds]
  | 16=>cases ho;simp [Region.binds]
  | 17=>cases ho;simp [Region.binds]
  | j+18=>simp at ho
 ·intro V i o hpu hi9 ho
  obtain ⟨h1,h2,h3⟩:=hpu
  match i,h1,h2,h3,hi9 with
  | 0,_,_,_,_=>
    cases ho
    refine ⟨rfl,rfl,by simp [dsS],fun ac hd hr w' hw=>?_⟩
    have r1:=(hr 1 (Mz (by decide)) (by decide)).trans rfl
    simp [Oper.quietAt,Oper.quietUpon,execOp,r1,go_sem,zK]
  | 1,_,_,_,_=>
    cases ho
    refine ⟨rfl,rfl,by simp [dsS],fun ac hd hr w' hw=>?_⟩
    have r0:=(hr 0 (Mz (by decide)) (by decide)).trans rfl
    simp [Oper.quietAt,Oper.quietUpon,execOp,r0,go_sem,zK]
  | 2,_,_,_,_=>
    cases ho
    refine ⟨rfl,rfl,by simp [dsS],fun ac hd hr w' hw=>?_⟩
    have r17:ac.tmps[17]? = some (.pointer (some ⟨bd,0,none⟩)):=hd ⟨1,.data⟩ (by simp) rfl (by decide) (by decide)
    simp [Oper.quietAt,Oper.quietUpon,execOp,r17,go_sem,zK]
  | 3,_,_,_,_=>
    cases ho
    refine ⟨rfl,rfl,by simp [dsS],fun ac hd hr w' hw=>?_⟩
    have r18:ac.tmps[18]? = some (.pointer (some ⟨bd,0,none⟩)):=hd ⟨2,.data⟩ (by simp) rfl (by decide) (by decide)
    simp [Oper.quietAt,Oper.quietUpon,execOp,r18,go_sem,zK]
  | 4,_,_,_,_=>
    cases ho
    refine ⟨rfl,rfl,by simp [dsS],fun ac hd hr w' hw=>?_⟩
    have r19:ac.tmps[19]? = some (.pointer (some ⟨bd,0,none⟩)):=hd ⟨3,.data⟩ (by simp) rfl (by decide) (by decide)
    exact qz rfl (ev r19) (by kernel_rfl) (HB.out.1 w' hw)
  | 5,_,_,_,_=>
    cases ho
    refine ⟨rfl,rfl,by simp [dsS],fun ac hd hr w' hw=>?_⟩
    have r0:=(hr 0 (Mz (by decide)) (by decide)).trans rfl
    simp [Oper.quietAt,Oper.quietUpon,execOp,r0,go_sem,zK]
  | 6,_,_,_,_=>
    cases ho
    refine ⟨rfl,rfl,by simp [dsS],fun ac hd hr w' hw=>?_⟩
    have r21:ac.tmps[21]? = some (.pointer (some ⟨bd,0,none⟩)):=hd ⟨5,.data⟩ (by simp) rfl (by decide) (by decide)
    simp [Oper.quietAt,Oper.quietUpon,execOp,r21,go_sem,zK]
  | 7,_,_,_,_=>
    cases ho
    refine ⟨rfl,rfl,by simp [dsS],fun ac hd hr w' hw=>?_⟩
    have r22:ac.tmps[22]? = some (.pointer (some ⟨bd,0,none⟩)):=hd ⟨6,.data⟩ (by simp) rfl (by decide) (by decide)
    simp [Oper.quietAt,Oper.quietUpon,execOp,r22,go_sem,zK]
  | 8,_,_,_,_=>
    cases ho
    refine ⟨rfl,rfl,by simp [dsS],fun ac hd hr w' hw=>?_⟩
    have r23:ac.tmps[23]? = some (.pointer (some ⟨bd,1,none⟩)):=hd ⟨7,.data⟩ (by simp) rfl (by decide) (by decide)
    exact qz rfl (ev r23) (by kernel_rfl) (HB.out.2.1 w' hw)
  | 10,_,_,_,_=>
    cases ho
    refine ⟨rfl,rfl,by simp [dsS],fun ac hd hr w' hw=>?_⟩
    have r25:ac.tmps[25]? = some (.tuple #[.agg V.toArray,.int .i64 o1,.int .i64 ec]):=hd ⟨9,.data⟩ (by simp) rfl (by decide) (by decide)
    simp [Oper.quietAt,Oper.quietUpon,execOp,r25,go_sem,zK]
  | 11,_,_,_,_=>
    cases ho
    refine ⟨rfl,rfl,by simp [dsS],fun ac hd hr w' hw=>?_⟩
    have r15:ac.tmps[15]? = some (.tuple #[.agg V.toArray,.int .i64 o1,.int .i64 ec]):=hd ⟨10,.data⟩ (by simp) rfl (by decide) (by decide)
    simp [Oper.quietAt,Oper.quietUpon,execOp,r15,go_sem,zK]
  | 12,_,_,_,_=>
    cases ho
    refine ⟨rfl,rfl,by simp [dsS],fun ac hd hr w' hw=>?_⟩
    have r15:ac.tmps[15]? = some (.tuple #[.agg V.toArray,.int .i64 o1,.int .i64 ec]):=hd ⟨10,.data⟩ (by simp) rfl (by decide) (by decide)
    simp [Oper.quietAt,Oper.quietUpon,execOp,r15,go_sem,zK]
  | 13,_,_,_,_=>
    cases ho
    refine ⟨rfl,rfl,by simp [dsS],fun ac hd hr w' hw=>?_⟩
    have r15:ac.tmps[15]? = some (.tuple #[.agg V.toArray,.int .i64 o1,.int .i64 ec]):=hd ⟨10,.data⟩ (by simp) rfl (by decide) (by decide)
    simp [Oper.quietAt,Oper.quietUpon,execOp,r15,go_sem,zK]
  | 16,_,_,_,_=>
    cases ho
    refine ⟨rfl,rfl,by simp [dsS],fun ac hd hr w' hw=>?_⟩
    have r27:ac.tmps[27]? = some (.int .i64 o1):=hd ⟨12,.data⟩ (by simp) rfl (by decide) (by decide)
    simp [Oper.quietAt,Oper.quietUpon,execOp,r27,go_sem,zK]
  | 17,_,_,_,_=>
    cases ho
    refine ⟨rfl,rfl,by simp [dsS],fun ac hd hr w' hw=>?_⟩
    have r28:ac.tmps[28]? = some (.int .i64 ec):=hd ⟨13,.data⟩ (by simp) rfl (by decide) (by decide)
    simp [Oper.quietAt,Oper.quietUpon,execOp,r28,go_sem,zK]
  | 9,_,_,_,h4=>exact absurd rfl h4
  | 14,_,h2,_,_=>exact absurd rfl h2
  | 15,_,_,h3,_=>exact absurd rfl h3
  | j+18,h1,_,_,_=>exact absurd h1 (by omega)
 ·refine ⟨_,rfl,rfl,rfl,by simp [dsS],fun V ac hd hr w' hw him=>?_⟩
  have r16:ac.tmps[16]? = some (.func (.func 116) #[] #[]):=hd ⟨0,.data⟩ (by simp) rfl (by decide) (by decide)
  have r20:ac.tmps[20]? = some (.slice a n c):=hd ⟨4,.data⟩ (by simp) rfl (by decide) (by decide)
  have r24:ac.tmps[24]? = some (.int .i64 off):=hd ⟨8,.data⟩ (by simp) rfl (by decide) (by decide)
  exact ⟨116,#[.slice a n c,.int .i64 off],by simp [execOp,resolve,invoke,hf,r16,r20,r24,go_sem],HB.out.2.2 w' hw him⟩
 ·intro i o hi hde hi9 ho
  match i,hi,hde,hi9 with
  | 10,_,_,_=>cases ho;exact ⟨⟨9,.data⟩,by simp,rfl,rfl⟩
  | 11,_,_,_=>cases ho;exact ⟨⟨10,.data⟩,by simp,rfl,rfl⟩
  | 12,_,_,_=>cases ho;exact ⟨⟨10,.data⟩,by simp,rfl,rfl⟩
  | 13,_,_,_=>cases ho;exact ⟨⟨10,.data⟩,by simp,rfl,rfl⟩
  | 16,_,_,_=>cases ho;exact ⟨⟨12,.data⟩,by simp,rfl,rfl⟩
  | 17,_,_,_=>cases ho;exact ⟨⟨13,.data⟩,by simp,rfl,rfl⟩
  | 9,_,_,h=>exact absurd rfl h
  | 0,_,h,_ | 1,_,h,_ | 2,_,h,_ | 3,_,h,_ | 4,_,h,_ | 5,_,h,_ | 6,_,h,_ | 7,_,h,_ | 8,_,h,_ | 14,_,h,_ | 15,_,h,_=>exact absurd h (by decide)
  | j+18,h,_,_=>exact absurd h (by omega)
 ·intro i hi
  exact (by decide:∀ i,i<18->i≠14->i≠15->dsS i≠6) i hi.1 hi.2.1 hi.2.2
 ·intro f hf
  simp [Region.binds] at hf
  simp [hf]
 intro ac W1 b Xs M hW1 hb1 hb2 hbox hXr hXl hXo him hle hnw hdf hsz hvals hda hrest
 obtain ⟨tm,dfr⟩:=ac
 have e1:dfr=[]:=hdf
 subst e1
 have e2:=zM [(16,(.func (.func 116) #[] #[])),(17,(.pointer (some ⟨bd,0,none⟩))),(18,(.pointer (some ⟨bd,0,none⟩))),(19,(.pointer (some ⟨bd,0,none⟩))),(20,(.slice a n c)),(21,(.pointer (some ⟨bd,0,none⟩))),(22,(.pointer (some ⟨bd,0,none⟩))),(23,(.pointer (some ⟨bd,1,none⟩))),(24,(.int .i64 off)),(25,(.tuple #[.agg Xs.toArray,.int .i64 o1,.int .i64 ec])),(15,(.tuple #[.agg Xs.toArray,.int .i64 o1,.int .i64 ec])),(26,(.agg Xs.toArray)),(27,(.int .i64 o1)),(28,(.int .i64 ec)),(7,(.int .i64 o1)),(8,(.int .i64 ec)),(6,.pointer (some ⟨b,0,none⟩))] _ tm hsz rfl rfl ⟨hvals 0 ⟨by decide,by decide,by decide⟩,hvals 1 ⟨by decide,by decide,by decide⟩,hvals 2 ⟨by decide,by decide,by decide⟩,hvals 3 ⟨by decide,by decide,by decide⟩,hvals 4 ⟨by decide,by decide,by decide⟩,hvals 5 ⟨by decide,by decide,by decide⟩,hvals 6 ⟨by decide,by decide,by decide⟩,hvals 7 ⟨by decide,by decide,by decide⟩,hvals 8 ⟨by decide,by decide,by decide⟩,hvals 9 ⟨by decide,by decide,by decide⟩,hvals 10 ⟨by decide,by decide,by decide⟩,hvals 11 ⟨by decide,by decide,by decide⟩,hvals 12 ⟨by decide,by decide,by decide⟩,hvals 13 ⟨by decide,by decide,by decide⟩,hvals 16 ⟨by decide,by decide,by decide⟩,hvals 17 ⟨by decide,by decide,by decide⟩,hda,trivial⟩ (fun j hj=>hrest j (Mz (fun h=>hj (by simp at h ⊢;omega))) (fun e=>hj (by subst e;simp)))
 simp only [List.foldl_cons,List.foldl_nil,List.setIfInBounds_toArray,List.set_cons_succ,List.set_cons_zero] at e2
 subst e2
 have D1:W1.heap[bd]? = some (.cells #[.slice a n c,.int .i64 off,.int .i64 0] 87 (0,0)):=(hW1.block _ lV).trans hbV
 have O1:Okd m buf a n c bd W (bxF a n c off 0) M W1:=OV.call ⟨⟨him,OV.F.rep.mono hle,hnw.none lV OV.F.off,Nat.lt_of_lt_of_le lV hW1.size⟩,D1,hle,hnw,yN hW1⟩
 have d1:W1.cell? ⟨bd,1,none⟩=some (.int .i64 off):=jD D1 1 rfl
 have z1:=qp D1 1
 have d2:W1.cell? ⟨bd,2,none⟩=some (.int .i64 0):=jD D1 2 rfl
 have z2:=qp D1 2
 have G1:Hid (_/\_):=Zh D1 1 (.int .i64 o1) rfl
 have G2:Hid (_/\_):=Zh D1 2 (.int .i64 ec) rfl
 have HW:Hid (Below V.heap.size V W1/\W1.heap[b]? = some (.cells Xs.toArray 65 (0,0))/\V.heap.size<=b/\b<W1.heap.size/\Okd m buf a n c bd W (bxF a n c off 0) M W1/\Rep M je (QC y) (.agg Xs.toArray)/\(∀ c∈Xs,jA c=true)/\(∀ o,M W.heap.size o=none)/\bd<W.heap.size):=
  ⟨hW1,hbox,hb1,hb2,O1,hXr,hXo,hnw.none (by omega) (nV _ (Nat.le_refl _)),hlt⟩
 clear hvals hda hrest hsz hW1 hbox hb1 hb2 D1 c2 O1 hXr hXo him hle hnw OV hbV bV nV
 rcases hk with ⟨he,rfl,rfl,rfl⟩ | ⟨rfl,rfl,rfl,rfl⟩
 ·have hB:(c' != 0)=true:=by rw [bne_iff_ne];exact he
  have HZ:Hid ((W1.setCell ⟨bd,2,none⟩ (.int .i64 c')).heap[W.heap.size]? = some (.cells ([.int .i64 0,.int .i64 0]).toArray 65 (0,0))/\(W1.setCell ⟨bd,2,none⟩ (.int .i64 c')).heap[W.heap.size+1]? = some (.cells ([.int .i64 0,.int .i64 0]).toArray 65 (0,0))/\Okd m buf a n c bd W (bxF a n c o' c') M (W1.setCell ⟨bd,2,none⟩ (.int .i64 c'))):=by
   obtain ⟨w1,w2,w3,w4,w5,w6,w7,w8,w9⟩:=HW.out
   refine ⟨((G2.out.2.block _ (by omega) (fun e=>by have:=Option.some.inj e;omega)).trans (w1.block _ (by omega))).trans HO.out.2.1,((G2.out.2.block _ (by omega) (fun e=>by have:=Option.some.inj e;omega)).trans (w1.block _ (by omega))).trans HO.out.2.2.1,w5.Qh G2.out.1 G2.out.2⟩
  go_wp2_with (first
   | (refine Jo HZ.out.2.1 rfl rfl rfl rfl HR.out.1 HR.out.2 rfl ?_)
   | (apply Jd [.int .i64 0,.int .i64 0] HZ.out.1 rfl rfl rfl
      ·rfl
      ·rfl
      ·exact HR.out.2
      ·rfl
      ·rfl
      ·exact qx rfl
      intro w3 h3 g3
      have HK:Hid (_/\_):=⟨h3,HZ.out.2.2.own HW.out.2.2.2.2.2.2.2.2 g3 (fun g e=>by have:=Option.some.inj e;omega) (fun g e=>Option.some.inj e ▸ HW.out.2.2.2.2.2.2.2.1)⟩
      clear h3 g3))
  have r0:Tryz.f115.results=#[.cell 4 65]:=rfl
  refine bodyPost_ret (yr HK.out.1 r0 rfl HR.out.1 HR.out.2 rfl) rfl ?_
  exact ⟨_,rfl,M,Wn,HK.out.2⟩
 ·have HZ:Hid ((W1.setCell ⟨bd,1,none⟩ (.int .i64 o')).heap[W.heap.size]? = some (.cells ([.int .i64 0,.int .i64 0]).toArray 65 (0,0))/\(W1.setCell ⟨bd,1,none⟩ (.int .i64 o')).heap[b]? = some (.cells Xs.toArray 65 (0,0))/\Okd m buf a n c bd W (bxF a n c o' 0) M (W1.setCell ⟨bd,1,none⟩ (.int .i64 o'))):=by
   obtain ⟨w1,w2,w3,w4,w5,w6,w7,w8,w9⟩:=HW.out
   refine ⟨((G1.out.2.block _ (by omega) (fun e=>by have:=Option.some.inj e;omega)).trans (w1.block _ (by omega))).trans HO.out.2.1,(G1.out.2.block _ (by omega) (fun e=>by have:=Option.some.inj e;omega)).trans w2,w5.Qh G1.out.1 G1.out.2⟩
  go_wp2_with (first
   | (refine Jo HZ.out.2.1 rfl rfl rfl rfl HR.out.1 HR.out.2 hXl ?_)
   | (apply Jd Xs HZ.out.1 rfl rfl rfl
      ·rfl
      ·rfl
      ·exact HR.out.2
      ·exact hXl
      ·rfl
      ·exact HW.out.2.2.2.2.2.2.1
      intro w3 h3 g3
      have HK:Hid (_/\_):=⟨h3,HZ.out.2.2.own HW.out.2.2.2.2.2.2.2.2 g3 (fun g e=>by have:=Option.some.inj e;omega) (fun g e=>Option.some.inj e ▸ HW.out.2.2.2.2.2.2.2.1)⟩
      clear h3 g3))
  have r0:Tryz.f115.results=#[.cell 4 65]:=rfl
  refine bodyPost_ret (yr HK.out.1 r0 rfl HR.out.1 HR.out.2 hXl) rfl ?_
  exact ⟨_,rfl,M,HW.out.2.2.2.2.2.1,HK.out.2⟩
theorem Wq {m:Mem}:Rep m je (Qk exB) (.agg ([.int .i64 0,.int .i64 0,.int .i64 0,.int .i64 0,.int .i64 0,.int .i64 0,.int .i64 0,.int .i64 0,.int .i64 0,.int .i64 0,.int .i64 0,.int .i64 0,.int .i64 0,.int .i64 0,.bool false,.bool false,.bool false,.bool false,.int .i64 0,.slice none 0 0]).toArray):=.agg (l:=_) ((Ke [_,_,_,_,_,_,_,_,_,_,_,_,_,_,_,_,_,_,_]).append (.cons .slnil .nil)) (qx rfl)
set_option maxHeartbeats 4000000 in
theorem fieldB {m:Mem} {buf:List UInt8} {a:Option Addr} {n c bd:Nat} {off cd o' c':Int} {x:Body} {rd:Int->Option (Body × Int × Int)} {W:World} (F:BF m buf a n c bd W) (hb:W.heap[bd]? = some (bxF a n c off cd)) (h:Uk exB rd off cd=some (x,o',c'))
 (hR:∀ y o1 ec,rd off=some (y,o1,ec)->xY 118 (Qk y) m 20 a n c off o1 ec W):
 Calls Tryz.prog 117 #[.pointer (some ⟨bd,0,none⟩),.func (.func 118) #[] #[]] W fun e W'=>∃ v M,e=.returned v/\Rep M je (Qk x) v/\Okd m buf a n c bd W (bxF a n c o' c') M W':=by
 have hlt:=F.lt
 have hf:=Tryz.call118
 have hb:W.heap[bd]? = some (.cells #[.slice a n c,.int .i64 off,.int .i64 cd] 87 (0,0)):=hb
 have ra:tAg Tryz.prog 71=some true:=by kernel_rfl
 have rz:tSz Tryz.prog 71=some 20:=by kernel_rfl
 have HR:Hid (_/\_):=⟨ra,rz⟩
 clear ra rz
 obtain ⟨V,hV⟩:∃ V,V=(W.alloc (.cells ([.int .i64 0,.int .i64 0,.int .i64 0,.int .i64 0,.int .i64 0,.int .i64 0,.int .i64 0,.int .i64 0,.int .i64 0,.int .i64 0,.int .i64 0,.int .i64 0,.int .i64 0,.int .i64 0,.bool false,.bool false,.bool false,.bool false,.int .i64 0,.slice none 0 0]).toArray 71)).alloc (.cells ([.int .i64 0,.int .i64 0,.int .i64 0,.int .i64 0,.int .i64 0,.int .i64 0,.int .i64 0,.int .i64 0,.int .i64 0,.int .i64 0,.int .i64 0,.int .i64 0,.int .i64 0,.int .i64 0,.bool false,.bool false,.bool false,.bool false,.int .i64 0,.slice none 0 0]).toArray 71):=⟨_,rfl⟩
 have OV:Okd m buf a n c bd W (bxF a n c off cd) m V:=by rw [hV];exact ((Okd.start F hb).alloc hlt _).alloc hlt _
 have kV:V.heap[W.heap.size]? = some (.cells ([.int .i64 0,.int .i64 0,.int .i64 0,.int .i64 0,.int .i64 0,.int .i64 0,.int .i64 0,.int .i64 0,.int .i64 0,.int .i64 0,.int .i64 0,.int .i64 0,.int .i64 0,.int .i64 0,.bool false,.bool false,.bool false,.bool false,.int .i64 0,.slice none 0 0]).toArray 71 (0,0)):=by rw [hV,jU _ _ _ (by simp)];exact Jh _ _ _ rfl
 have kV1:V.heap[W.heap.size+1]? = some (.cells ([.int .i64 0,.int .i64 0,.int .i64 0,.int .i64 0,.int .i64 0,.int .i64 0,.int .i64 0,.int .i64 0,.int .i64 0,.int .i64 0,.int .i64 0,.int .i64 0,.int .i64 0,.int .i64 0,.bool false,.bool false,.bool false,.bool false,.int .i64 0,.slice none 0 0]).toArray 71 (0,0)):=by rw [hV];exact Jh _ _ _ (by simp)
 have sV:V.heap.size=W.heap.size+2:=by rw [hV];simp
 have bV:Below W.heap.size W V:=by rw [hV];exact ((Below.refl _ _).alloc (Nat.le_refl _) _).alloc (by simp) _
 have hbV:V.heap[bd]? = some (.cells #[.slice a n c,.int .i64 off,.int .i64 cd] 87 (0,0)):=OV.D
 have c2:V.cell? ⟨bd,2,none⟩=some (.int .i64 cd):=jD hbV 2 rfl
 have nV:∀ g,W.heap.size<=g->∀ o,m g o=none:=fun g hg=>yi F.imm hg
 have HV:Hid (V=(W.alloc (.cells ([.int .i64 0,.int .i64 0,.int .i64 0,.int .i64 0,.int .i64 0,.int .i64 0,.int .i64 0,.int .i64 0,.int .i64 0,.int .i64 0,.int .i64 0,.int .i64 0,.int .i64 0,.int .i64 0,.bool false,.bool false,.bool false,.bool false,.int .i64 0,.slice none 0 0]).toArray 71)).alloc (.cells ([.int .i64 0,.int .i64 0,.int .i64 0,.int .i64 0,.int .i64 0,.int .i64 0,.int .i64 0,.int .i64 0,.int .i64 0,.int .i64 0,.int .i64 0,.int .i64 0,.int .i64 0,.int .i64 0,.bool false,.bool false,.bool false,.bool false,.int .i64 0,.slice none 0 0]).toArray 71)):=hV
 have HO:Hid (_/\_/\_/\_/\_/\_):=⟨OV,kV,kV1,nV,sV,bV⟩
 rcases wx h with ⟨hcd,rfl,rfl,rfl⟩ | ⟨rfl,y,o1,ec,hrd,hk⟩
 ·have hB:(c' != 0)=true:=by rw [bne_iff_ne];exact hcd
  clear hb hbV hV h hR OV kV kV1 F
  go_enter Tryz.func117,Tryz.ntmps117
  go_upto_region 2 with fail
  have eV:((W.alloc (.cells ([.int .i64 0,.int .i64 0,.int .i64 0,.int .i64 0,.int .i64 0,.int .i64 0,.int .i64 0,.int .i64 0,.int .i64 0,.int .i64 0,.int .i64 0,.int .i64 0,.int .i64 0,.int .i64 0,.bool false,.bool false,.bool false,.bool false,.int .i64 0,.slice none 0 0]).toArray 71)).alloc (.cells ([.int .i64 0,.int .i64 0,.int .i64 0,.int .i64 0,.int .i64 0,.int .i64 0,.int .i64 0,.int .i64 0,.int .i64 0,.int .i64 0,.int .i64 0,.int .i64 0,.int .i64 0,.int .i64 0,.bool false,.bool false,.bool false,.bool false,.int .i64 0,.slice none 0 0]).toArray 71))=V:=HV.out.symm
  rw [eV]
  clear eV
  go_wp2_with (first
   | (refine Jo HO.out.2.2.1 rfl rfl rfl rfl HR.out.1 HR.out.2 rfl ?_)
   | (apply Jd [.int .i64 0,.int .i64 0,.int .i64 0,.int .i64 0,.int .i64 0,.int .i64 0,.int .i64 0,.int .i64 0,.int .i64 0,.int .i64 0,.int .i64 0,.int .i64 0,.int .i64 0,.int .i64 0,.bool false,.bool false,.bool false,.bool false,.int .i64 0,.slice none 0 0] HO.out.2.1 rfl rfl rfl
      ·rfl
      ·rfl
      ·exact HR.out.2
      ·rfl
      ·rfl
      ·exact qx rfl
      intro w3 h3 g3
      have HK:Hid (_/\_):=⟨h3,HO.out.1.own hlt g3 (fun g e=>by have:=Option.some.inj e;omega) (fun g e=>HO.out.2.2.2.1 g (by have:=Option.some.inj e;omega))⟩
      clear h3 g3))
  have r0:Tryz.f117.results=#[.cell 4 71]:=rfl
  refine bodyPost_ret (yr HK.out.1 r0 rfl HR.out.1 HR.out.2 rfl) rfl ?_
  exact ⟨_,m,rfl,Wq,HK.out.2⟩
 have lV:bd<V.heap.size:=OV.F.lt
 have HB:Hid (_/\_/\_):=⟨fun w' (hw:Below V.heap.size V w')=>jD ((hw.block _ lV).trans hbV) 0 rfl,fun w' (hw:Below V.heap.size V w')=>jD ((hw.block _ lV).trans hbV) 1 rfl,
  fun w' (hw:Below V.heap.size V w')=>hR y o1 ec hrd w' (bV.trans (hw.mono (by omega)))⟩
 clear hb hV h hR kV kV1 F hrd
 go_enter Tryz.func117,Tryz.ntmps117
 go_upto_region 2 with fail
 have eV:((W.alloc (.cells ([.int .i64 0,.int .i64 0,.int .i64 0,.int .i64 0,.int .i64 0,.int .i64 0,.int .i64 0,.int .i64 0,.int .i64 0,.int .i64 0,.int .i64 0,.int .i64 0,.int .i64 0,.int .i64 0,.bool false,.bool false,.bool false,.bool false,.int .i64 0,.slice none 0 0]).toArray 71)).alloc (.cells ([.int .i64 0,.int .i64 0,.int .i64 0,.int .i64 0,.int .i64 0,.int .i64 0,.int .i64 0,.int .i64 0,.int .i64 0,.int .i64 0,.int .i64 0,.int .i64 0,.int .i64 0,.int .i64 0,.bool false,.bool false,.bool false,.bool false,.int .i64 0,.slice none 0 0]).toArray 71))=V:=HV.out.symm
 rw [eV]
 clear eV
 go_wp2
 refine zW qT 18 14 15 11 6 9 20 dsS depS (zK 118 bd a n c off o1 ec) 71 71 _ m (Qk y) OV.F.imm rfl ?_ ?_ ?_ (Uq 118 bd a n c off o1 ec) ?_ injS ?_ (by simp) ⟨_,rfl,rfl,rfl,rfl⟩ Tryz.zeroValue71 rfl ⟨_,rfl,rfl,rfl,rfl,?_⟩ ⟨by decide,by decide,by decide⟩ ⟨by decide,by decide,by decide⟩ (by decide) (by decide) (fun _=>rfl) HR.out.2 ?_
 ·intro i o ho
  match i with
  | 0=>cases ho;simp [Region.binds]
  | 1=>cases ho;simp [Region.binds]
  | 2=>cases ho;simp [Region.binds]
  | 3=>cases ho;simp [Region.binds]
  | 4=>cases ho;simp [Region.binds]
  | 5=>cases ho;simp [Region.binds]
  | 6=>cases ho;simp [Region.binds]
  | 7=>cases ho;simp [Region.binds]
  | 8=>cases ho;simp [Region.binds]
  | 9=>cases ho;simp [Region.binds]
  | 10=>cases ho;simp [Region.binds]
  | 11=>cases ho;simp [Region.binds]
  | 12=>cases ho;simp [Region.binds]
  | 13=>cases ho;simp [Region.binds]
  | 14=>cases ho;simp [Region.binds]
  | 15=>cases ho;simp [Region.binds]
  | 16=>cases ho;simp [Region.binds]
  | 17=>cases ho;simp [Region.binds]
  | j+18=>simp at ho
 ·intro V i o hpu hi9 ho
  obtain ⟨h1,h2,h3⟩:=hpu
  match i,h1,h2,h3,hi9 with
  | 0,_,_,_,_=>
    cases ho
    refine ⟨rfl,rfl,by simp [dsS],fun ac hd hr w' hw=>?_⟩
    have r1:=(hr 1 (Mz (by decide)) (by decide)).trans rfl
    simp [Oper.quietAt,Oper.quietUpon,execOp,r1,go_sem,zK]
  | 1,_,_,_,_=>
    cases ho
    refine ⟨rfl,rfl,by simp [dsS],fun ac hd hr w' hw=>?_⟩
    have r0:=(hr 0 (Mz (by decide)) (by decide)).trans rfl
    simp [Oper.quietAt,Oper.quietUpon,execOp,r0,go_sem,zK]
  | 2,_,_,_,_=>
    cases ho
    refine ⟨rfl,rfl,by simp [dsS],fun ac hd hr w' hw=>?_⟩
    have r17:ac.tmps[17]? = some (.pointer (some ⟨bd,0,none⟩)):=hd ⟨1,.data⟩ (by simp) rfl (by decide) (by decide)
    simp [Oper.quietAt,Oper.quietUpon,execOp,r17,go_sem,zK]
  | 3,_,_,_,_=>
    cases ho
    refine ⟨rfl,rfl,by simp [dsS],fun ac hd hr w' hw=>?_⟩
    have r18:ac.tmps[18]? = some (.pointer (some ⟨bd,0,none⟩)):=hd ⟨2,.data⟩ (by simp) rfl (by decide) (by decide)
    simp [Oper.quietAt,Oper.quietUpon,execOp,r18,go_sem,zK]
  | 4,_,_,_,_=>
    cases ho
    refine ⟨rfl,rfl,by simp [dsS],fun ac hd hr w' hw=>?_⟩
    have r19:ac.tmps[19]? = some (.pointer (some ⟨bd,0,none⟩)):=hd ⟨3,.data⟩ (by simp) rfl (by decide) (by decide)
    exact qz rfl (ev r19) (by kernel_rfl) (HB.out.1 w' hw)
  | 5,_,_,_,_=>
    cases ho
    refine ⟨rfl,rfl,by simp [dsS],fun ac hd hr w' hw=>?_⟩
    have r0:=(hr 0 (Mz (by decide)) (by decide)).trans rfl
    simp [Oper.quietAt,Oper.quietUpon,execOp,r0,go_sem,zK]
  | 6,_,_,_,_=>
    cases ho
    refine ⟨rfl,rfl,by simp [dsS],fun ac hd hr w' hw=>?_⟩
    have r21:ac.tmps[21]? = some (.pointer (some ⟨bd,0,none⟩)):=hd ⟨5,.data⟩ (by simp) rfl (by decide) (by decide)
    simp [Oper.quietAt,Oper.quietUpon,execOp,r21,go_sem,zK]
  | 7,_,_,_,_=>
    cases ho
    refine ⟨rfl,rfl,by simp [dsS],fun ac hd hr w' hw=>?_⟩
    have r22:ac.tmps[22]? = some (.pointer (some ⟨bd,0,none⟩)):=hd ⟨6,.data⟩ (by simp) rfl (by decide) (by decide)
    simp [Oper.quietAt,Oper.quietUpon,execOp,r22,go_sem,zK]
  | 8,_,_,_,_=>
    cases ho
    refine ⟨rfl,rfl,by simp [dsS],fun ac hd hr w' hw=>?_⟩
    have r23:ac.tmps[23]? = some (.pointer (some ⟨bd,1,none⟩)):=hd ⟨7,.data⟩ (by simp) rfl (by decide) (by decide)
    exact qz rfl (ev r23) (by kernel_rfl) (HB.out.2.1 w' hw)
  | 10,_,_,_,_=>
    cases ho
    refine ⟨rfl,rfl,by simp [dsS],fun ac hd hr w' hw=>?_⟩
    have r25:ac.tmps[25]? = some (.tuple #[.agg V.toArray,.int .i64 o1,.int .i64 ec]):=hd ⟨9,.data⟩ (by simp) rfl (by decide) (by decide)
    simp [Oper.quietAt,Oper.quietUpon,execOp,r25,go_sem,zK]
  | 11,_,_,_,_=>
    cases ho
    refine ⟨rfl,rfl,by simp [dsS],fun ac hd hr w' hw=>?_⟩
    have r15:ac.tmps[15]? = some (.tuple #[.agg V.toArray,.int .i64 o1,.int .i64 ec]):=hd ⟨10,.data⟩ (by simp) rfl (by decide) (by decide)
    simp [Oper.quietAt,Oper.quietUpon,execOp,r15,go_sem,zK]
  | 12,_,_,_,_=>
    cases ho
    refine ⟨rfl,rfl,by simp [dsS],fun ac hd hr w' hw=>?_⟩
    have r15:ac.tmps[15]? = some (.tuple #[.agg V.toArray,.int .i64 o1,.int .i64 ec]):=hd ⟨10,.data⟩ (by simp) rfl (by decide) (by decide)
    simp [Oper.quietAt,Oper.quietUpon,execOp,r15,go_sem,zK]
  | 13,_,_,_,_=>
    cases ho
    refine ⟨rfl,rfl,by simp [dsS],fun ac hd hr w' hw=>?_⟩
    have r15:ac.tmps[15]? = some (.tuple #[.agg V.toArray,.int .i64 o1,.int .i64 ec]):=hd ⟨10,.data⟩ (by simp) rfl (by decide) (by decide)
    simp [Oper.quietAt,Oper.quietUpon,execOp,r15,go_sem,zK]
  | 16,_,_,_,_=>
    cases ho
    refine ⟨rfl,rfl,by simp [dsS],fun ac hd hr w' hw=>?_⟩
    have r27:ac.tmps[27]? = some (.int .i64 o1):=hd ⟨12,.data⟩ (by simp) rfl (by decide) (by decide)
    simp [Oper.quietAt,Oper.quietUpon,execOp,r27,go_sem,zK]
  | 17,_,_,_,_=>
    cases ho
    refine ⟨rfl,rfl,by simp [dsS],fun ac hd hr w' hw=>?_⟩
    have r28:ac.tmps[28]? = some (.int .i64 ec):=hd ⟨13,.data⟩ (by simp) rfl (by decide) (by decide)
    simp [Oper.quietAt,Oper.quietUpon,execOp,r28,go_sem,zK]
  | 9,_,_,_,h4=>exact absurd rfl h4
  | 14,_,h2,_,_=>exact absurd rfl h2
  | 15,_,_,h3,_=>exact absurd rfl h3
  | j+18,h1,_,_,_=>exact absurd h1 (by omega)
 ·refine ⟨_,rfl,rfl,rfl,by simp [dsS],fun V ac hd hr w' hw him=>?_⟩
  have r16:ac.tmps[16]? = some (.func (.func 118) #[] #[]):=hd ⟨0,.data⟩ (by simp) rfl (by decide) (by decide)
  have r20:ac.tmps[20]? = some (.slice a n c):=hd ⟨4,.data⟩ (by simp) rfl (by decide) (by decide)
  have r24:ac.tmps[24]? = some (.int .i64 off):=hd ⟨8,.data⟩ (by simp) rfl (by decide) (by decide)
  exact ⟨118,#[.slice a n c,.int .i64 off],by simp [execOp,resolve,invoke,hf,r16,r20,r24,go_sem],HB.out.2.2 w' hw him⟩
 ·intro i o hi hde hi9 ho
  match i,hi,hde,hi9 with
  | 10,_,_,_=>cases ho;exact ⟨⟨9,.data⟩,by simp,rfl,rfl⟩
  | 11,_,_,_=>cases ho;exact ⟨⟨10,.data⟩,by simp,rfl,rfl⟩
  | 12,_,_,_=>cases ho;exact ⟨⟨10,.data⟩,by simp,rfl,rfl⟩
  | 13,_,_,_=>cases ho;exact ⟨⟨10,.data⟩,by simp,rfl,rfl⟩
  | 16,_,_,_=>cases ho;exact ⟨⟨12,.data⟩,by simp,rfl,rfl⟩
  | 17,_,_,_=>cases ho;exact ⟨⟨13,.data⟩,by simp,rfl,rfl⟩
  | 9,_,_,h=>exact absurd rfl h
  | 0,_,h,_ | 1,_,h,_ | 2,_,h,_ | 3,_,h,_ | 4,_,h,_ | 5,_,h,_ | 6,_,h,_ | 7,_,h,_ | 8,_,h,_ | 14,_,h,_ | 15,_,h,_=>exact absurd h (by decide)
  | j+18,h,_,_=>exact absurd h (by omega)
 ·intro i hi
  exact (by decide:∀ i,i<18->i≠14->i≠15->dsS i≠6) i hi.1 hi.2.1 hi.2.2
 ·intro f hf
  simp [Region.binds] at hf
  simp [hf]
 intro ac W1 b Xs M hW1 hb1 hb2 hbox hXr hXl hXo him hle hnw hdf hsz hvals hda hrest
 obtain ⟨tm,dfr⟩:=ac
 have e1:dfr=[]:=hdf
 subst e1
 have e2:=zM [(16,(.func (.func 118) #[] #[])),(17,(.pointer (some ⟨bd,0,none⟩))),(18,(.pointer (some ⟨bd,0,none⟩))),(19,(.pointer (some ⟨bd,0,none⟩))),(20,(.slice a n c)),(21,(.pointer (some ⟨bd,0,none⟩))),(22,(.pointer (some ⟨bd,0,none⟩))),(23,(.pointer (some ⟨bd,1,none⟩))),(24,(.int .i64 off)),(25,(.tuple #[.agg Xs.toArray,.int .i64 o1,.int .i64 ec])),(15,(.tuple #[.agg Xs.toArray,.int .i64 o1,.int .i64 ec])),(26,(.agg Xs.toArray)),(27,(.int .i64 o1)),(28,(.int .i64 ec)),(7,(.int .i64 o1)),(8,(.int .i64 ec)),(6,.pointer (some ⟨b,0,none⟩))] _ tm hsz rfl rfl ⟨hvals 0 ⟨by decide,by decide,by decide⟩,hvals 1 ⟨by decide,by decide,by decide⟩,hvals 2 ⟨by decide,by decide,by decide⟩,hvals 3 ⟨by decide,by decide,by decide⟩,hvals 4 ⟨by decide,by decide,by decide⟩,hvals 5 ⟨by decide,by decide,by decide⟩,hvals 6 ⟨by decide,by decide,by decide⟩,hvals 7 ⟨by decide,by decide,by decide⟩,hvals 8 ⟨by decide,by decide,by decide⟩,hvals 9 ⟨by decide,by decide,by decide⟩,hvals 10 ⟨by decide,by decide,by decide⟩,hvals 11 ⟨by decide,by decide,by decide⟩,hvals 12 ⟨by decide,by decide,by decide⟩,hvals 13 ⟨by decide,by decide,by decide⟩,hvals 16 ⟨by decide,by decide,by decide⟩,hvals 17 ⟨by decide,by decide,by decide⟩,hda,trivial⟩ (fun j hj=>hrest j (Mz (fun h=>hj (by simp at h ⊢;omega))) (fun e=>hj (by subst e;simp)))
 simp only [List.foldl_cons,List.foldl_nil,List.setIfInBounds_toArray,List.set_cons_succ,List.set_cons_zero] at e2
 subst e2
 have D1:W1.heap[bd]? = some (.cells #[.slice a n c,.int .i64 off,.int .i64 0] 87 (0,0)):=(hW1.block _ lV).trans hbV
 have O1:Okd m buf a n c bd W (bxF a n c off 0) M W1:=OV.call ⟨⟨him,OV.F.rep.mono hle,hnw.none lV OV.F.off,Nat.lt_of_lt_of_le lV hW1.size⟩,D1,hle,hnw,yN hW1⟩
 have d1:W1.cell? ⟨bd,1,none⟩=some (.int .i64 off):=jD D1 1 rfl
 have z1:=qp D1 1
 have d2:W1.cell? ⟨bd,2,none⟩=some (.int .i64 0):=jD D1 2 rfl
 have z2:=qp D1 2
 have G1:Hid (_/\_):=Zh D1 1 (.int .i64 o1) rfl
 have G2:Hid (_/\_):=Zh D1 2 (.int .i64 ec) rfl
 have HW:Hid (Below V.heap.size V W1/\W1.heap[b]? = some (.cells Xs.toArray 71 (0,0))/\V.heap.size<=b/\b<W1.heap.size/\Okd m buf a n c bd W (bxF a n c off 0) M W1/\Rep M je (Qk y) (.agg Xs.toArray)/\(∀ c∈Xs,jA c=true)/\(∀ o,M W.heap.size o=none)/\bd<W.heap.size):=
  ⟨hW1,hbox,hb1,hb2,O1,hXr,hXo,hnw.none (by omega) (nV _ (Nat.le_refl _)),hlt⟩
 clear hvals hda hrest hsz hW1 hbox hb1 hb2 D1 c2 O1 hXr hXo him hle hnw OV hbV bV nV
 rcases hk with ⟨he,rfl,rfl,rfl⟩ | ⟨rfl,rfl,rfl,rfl⟩
 ·have hB:(c' != 0)=true:=by rw [bne_iff_ne];exact he
  have HZ:Hid ((W1.setCell ⟨bd,2,none⟩ (.int .i64 c')).heap[W.heap.size]? = some (.cells ([.int .i64 0,.int .i64 0,.int .i64 0,.int .i64 0,.int .i64 0,.int .i64 0,.int .i64 0,.int .i64 0,.int .i64 0,.int .i64 0,.int .i64 0,.int .i64 0,.int .i64 0,.int .i64 0,.bool false,.bool false,.bool false,.bool false,.int .i64 0,.slice none 0 0]).toArray 71 (0,0))/\(W1.setCell ⟨bd,2,none⟩ (.int .i64 c')).heap[W.heap.size+1]? = some (.cells ([.int .i64 0,.int .i64 0,.int .i64 0,.int .i64 0,.int .i64 0,.int .i64 0,.int .i64 0,.int .i64 0,.int .i64 0,.int .i64 0,.int .i64 0,.int .i64 0,.int .i64 0,.int .i64 0,.bool false,.bool false,.bool false,.bool false,.int .i64 0,.slice none 0 0]).toArray 71 (0,0))/\Okd m buf a n c bd W (bxF a n c o' c') M (W1.setCell ⟨bd,2,none⟩ (.int .i64 c'))):=by
   obtain ⟨w1,w2,w3,w4,w5,w6,w7,w8,w9⟩:=HW.out
   refine ⟨((G2.out.2.block _ (by omega) (fun e=>by have:=Option.some.inj e;omega)).trans (w1.block _ (by omega))).trans HO.out.2.1,((G2.out.2.block _ (by omega) (fun e=>by have:=Option.some.inj e;omega)).trans (w1.block _ (by omega))).trans HO.out.2.2.1,w5.Qh G2.out.1 G2.out.2⟩
  go_wp2_with (first
   | (refine Jo HZ.out.2.1 rfl rfl rfl rfl HR.out.1 HR.out.2 rfl ?_)
   | (apply Jd [.int .i64 0,.int .i64 0,.int .i64 0,.int .i64 0,.int .i64 0,.int .i64 0,.int .i64 0,.int .i64 0,.int .i64 0,.int .i64 0,.int .i64 0,.int .i64 0,.int .i64 0,.int .i64 0,.bool false,.bool false,.bool false,.bool false,.int .i64 0,.slice none 0 0] HZ.out.1 rfl rfl rfl
      ·rfl
      ·rfl
      ·exact HR.out.2
      ·rfl
      ·rfl
      ·exact qx rfl
      intro w3 h3 g3
      have HK:Hid (_/\_):=⟨h3,HZ.out.2.2.own HW.out.2.2.2.2.2.2.2.2 g3 (fun g e=>by have:=Option.some.inj e;omega) (fun g e=>Option.some.inj e ▸ HW.out.2.2.2.2.2.2.2.1)⟩
      clear h3 g3))
  have r0:Tryz.f117.results=#[.cell 4 71]:=rfl
  refine bodyPost_ret (yr HK.out.1 r0 rfl HR.out.1 HR.out.2 rfl) rfl ?_
  exact ⟨_,rfl,M,Wq,HK.out.2⟩
 ·have HZ:Hid ((W1.setCell ⟨bd,1,none⟩ (.int .i64 o')).heap[W.heap.size]? = some (.cells ([.int .i64 0,.int .i64 0,.int .i64 0,.int .i64 0,.int .i64 0,.int .i64 0,.int .i64 0,.int .i64 0,.int .i64 0,.int .i64 0,.int .i64 0,.int .i64 0,.int .i64 0,.int .i64 0,.bool false,.bool false,.bool false,.bool false,.int .i64 0,.slice none 0 0]).toArray 71 (0,0))/\(W1.setCell ⟨bd,1,none⟩ (.int .i64 o')).heap[b]? = some (.cells Xs.toArray 71 (0,0))/\Okd m buf a n c bd W (bxF a n c o' 0) M (W1.setCell ⟨bd,1,none⟩ (.int .i64 o'))):=by
   obtain ⟨w1,w2,w3,w4,w5,w6,w7,w8,w9⟩:=HW.out
   refine ⟨((G1.out.2.block _ (by omega) (fun e=>by have:=Option.some.inj e;omega)).trans (w1.block _ (by omega))).trans HO.out.2.1,(G1.out.2.block _ (by omega) (fun e=>by have:=Option.some.inj e;omega)).trans w2,w5.Qh G1.out.1 G1.out.2⟩
  go_wp2_with (first
   | (refine Jo HZ.out.2.1 rfl rfl rfl rfl HR.out.1 HR.out.2 hXl ?_)
   | (apply Jd Xs HZ.out.1 rfl rfl rfl
      ·rfl
      ·rfl
      ·exact HR.out.2
      ·exact hXl
      ·rfl
      ·exact HW.out.2.2.2.2.2.2.1
      intro w3 h3 g3
      have HK:Hid (_/\_):=⟨h3,HZ.out.2.2.own HW.out.2.2.2.2.2.2.2.2 g3 (fun g e=>by have:=Option.some.inj e;omega) (fun g e=>Option.some.inj e ▸ HW.out.2.2.2.2.2.2.2.1)⟩
      clear h3 g3))
  have r0:Tryz.f117.results=#[.cell 4 71]:=rfl
  refine bodyPost_ret (yr HK.out.1 r0 rfl HR.out.1 HR.out.2 hXl) rfl ?_
  exact ⟨_,rfl,M,HW.out.2.2.2.2.2.1,HK.out.2⟩
theorem Wo {m:Mem}:Rep m je (YD exJ) (.agg ([.int .i64 0,.int .i64 0,.int .i64 0,.int .i64 0,.int .i64 0,.int .i64 0,.int .i64 0,.int .i64 0,.int .i64 0,.int .i64 0,.int .i64 0,.bool false,.int .i64 0,.int .i64 0,.bool false,.int .i64 0,.int .i64 0,.int .i64 0,.int .i64 0,.bool false,.int .i64 0,.int .i64 0,.int .i64 0,.int .i64 0]).toArray):=.agg (l:=_) (Ke [_,_,_,_,_,_,_,_,_,_,_,_,_,_,_,_,_,_,_,_,_,_,_,_]) (qx rfl)
set_option maxHeartbeats 4000000 in
theorem fieldJ {m:Mem} {buf:List UInt8} {a:Option Addr} {n c bd:Nat} {off cd o' c':Int} {x:jn} {rd:Int->Option (jn × Int × Int)} {W:World} (F:BF m buf a n c bd W) (hb:W.heap[bd]? = some (bxF a n c off cd)) (h:Uk exJ rd off cd=some (x,o',c'))
 (hR:∀ y o1 ec,rd off=some (y,o1,ec)->xY 120 (YD y) m 24 a n c off o1 ec W):
 Calls Tryz.prog 119 #[.pointer (some ⟨bd,0,none⟩),.func (.func 120) #[] #[]] W fun e W'=>∃ v M,e=.returned v/\Rep M je (YD x) v/\Okd m buf a n c bd W (bxF a n c o' c') M W':=by
 have hlt:=F.lt
 have hf:=Tryz.call120
 have hb:W.heap[bd]? = some (.cells #[.slice a n c,.int .i64 off,.int .i64 cd] 87 (0,0)):=hb
 have ra:tAg Tryz.prog 75=some true:=by kernel_rfl
 have rz:tSz Tryz.prog 75=some 24:=by kernel_rfl
 have HR:Hid (_/\_):=⟨ra,rz⟩
 clear ra rz
 obtain ⟨V,hV⟩:∃ V,V=(W.alloc (.cells ([.int .i64 0,.int .i64 0,.int .i64 0,.int .i64 0,.int .i64 0,.int .i64 0,.int .i64 0,.int .i64 0,.int .i64 0,.int .i64 0,.int .i64 0,.bool false,.int .i64 0,.int .i64 0,.bool false,.int .i64 0,.int .i64 0,.int .i64 0,.int .i64 0,.bool false,.int .i64 0,.int .i64 0,.int .i64 0,.int .i64 0]).toArray 75)).alloc (.cells ([.int .i64 0,.int .i64 0,.int .i64 0,.int .i64 0,.int .i64 0,.int .i64 0,.int .i64 0,.int .i64 0,.int .i64 0,.int .i64 0,.int .i64 0,.bool false,.int .i64 0,.int .i64 0,.bool false,.int .i64 0,.int .i64 0,.int .i64 0,.int .i64 0,.bool false,.int .i64 0,.int .i64 0,.int .i64 0,.int .i64 0]).toArray 75):=⟨_,rfl⟩
 have OV:Okd m buf a n c bd W (bxF a n c off cd) m V:=by rw [hV];exact ((Okd.start F hb).alloc hlt _).alloc hlt _
 have kV:V.heap[W.heap.size]? = some (.cells ([.int .i64 0,.int .i64 0,.int .i64 0,.int .i64 0,.int .i64 0,.int .i64 0,.int .i64 0,.int .i64 0,.int .i64 0,.int .i64 0,.int .i64 0,.bool false,.int .i64 0,.int .i64 0,.bool false,.int .i64 0,.int .i64 0,.int .i64 0,.int .i64 0,.bool false,.int .i64 0,.int .i64 0,.int .i64 0,.int .i64 0]).toArray 75 (0,0)):=by rw [hV,jU _ _ _ (by simp)];exact Jh _ _ _ rfl
 have kV1:V.heap[W.heap.size+1]? = some (.cells ([.int .i64 0,.int .i64 0,.int .i64 0,.int .i64 0,.int .i64 0,.int .i64 0,.int .i64 0,.int .i64 0,.int .i64 0,.int .i64 0,.int .i64 0,.bool false,.int .i64 0,.int .i64 0,.bool false,.int .i64 0,.int .i64 0,.int .i64 0,.int .i64 0,.bool false,.int .i64 0,.int .i64 0,.int .i64 0,.int .i64 0]).toArray 75 (0,0)):=by rw [hV];exact Jh _ _ _ (by simp)
 have sV:V.heap.size=W.heap.size+2:=by rw [hV];simp
 have bV:Below W.heap.size W V:=by rw [hV];exact ((Below.refl _ _).alloc (Nat.le_refl _) _).alloc (by simp) _
 have hbV:V.heap[bd]? = some (.cells #[.slice a n c,.int .i64 off,.int .i64 cd] 87 (0,0)):=OV.D
 have c2:V.cell? ⟨bd,2,none⟩=some (.int .i64 cd):=jD hbV 2 rfl
 have nV:∀ g,W.heap.size<=g->∀ o,m g o=none:=fun g hg=>yi F.imm hg
 have HV:Hid (V=(W.alloc (.cells ([.int .i64 0,.int .i64 0,.int .i64 0,.int .i64 0,.int .i64 0,.int .i64 0,.int .i64 0,.int .i64 0,.int .i64 0,.int .i64 0,.int .i64 0,.bool false,.int .i64 0,.int .i64 0,.bool false,.int .i64 0,.int .i64 0,.int .i64 0,.int .i64 0,.bool false,.int .i64 0,.int .i64 0,.int .i64 0,.int .i64 0]).toArray 75)).alloc (.cells ([.int .i64 0,.int .i64 0,.int .i64 0,.int .i64 0,.int .i64 0,.int .i64 0,.int .i64 0,.int .i64 0,.int .i64 0,.int .i64 0,.int .i64 0,.bool false,.int .i64 0,.int .i64 0,.bool false,.int .i64 0,.int .i64 0,.int .i64 0,.int .i64 0,.bool false,.int .i64 0,.int .i64 0,.int .i64 0,.int .i64 0]).toArray 75)):=hV
 have HO:Hid (_/\_/\_/\_/\_/\_):=⟨OV,kV,kV1,nV,sV,bV⟩
 rcases wx h with ⟨hcd,rfl,rfl,rfl⟩ | ⟨rfl,y,o1,ec,hrd,hk⟩
 ·have hB:(c' != 0)=true:=by rw [bne_iff_ne];exact hcd
  clear hb hbV hV h hR OV kV kV1 F
  go_enter Tryz.func119,Tryz.ntmps119
  go_upto_region 2 with fail
  have eV:((W.alloc (.cells ([.int .i64 0,.int .i64 0,.int .i64 0,.int .i64 0,.int .i64 0,.int .i64 0,.int .i64 0,.int .i64 0,.int .i64 0,.int .i64 0,.int .i64 0,.bool false,.int .i64 0,.int .i64 0,.bool false,.int .i64 0,.int .i64 0,.int .i64 0,.int .i64 0,.bool false,.int .i64 0,.int .i64 0,.int .i64 0,.int .i64 0]).toArray 75)).alloc (.cells ([.int .i64 0,.int .i64 0,.int .i64 0,.int .i64 0,.int .i64 0,.int .i64 0,.int .i64 0,.int .i64 0,.int .i64 0,.int .i64 0,.int .i64 0,.bool false,.int .i64 0,.int .i64 0,.bool false,.int .i64 0,.int .i64 0,.int .i64 0,.int .i64 0,.bool false,.int .i64 0,.int .i64 0,.int .i64 0,.int .i64 0]).toArray 75))=V:=HV.out.symm
  rw [eV]
  clear eV
  go_wp2_with (first
   | (refine Jo HO.out.2.2.1 rfl rfl rfl rfl HR.out.1 HR.out.2 rfl ?_)
   | (apply Jd [.int .i64 0,.int .i64 0,.int .i64 0,.int .i64 0,.int .i64 0,.int .i64 0,.int .i64 0,.int .i64 0,.int .i64 0,.int .i64 0,.int .i64 0,.bool false,.int .i64 0,.int .i64 0,.bool false,.int .i64 0,.int .i64 0,.int .i64 0,.int .i64 0,.bool false,.int .i64 0,.int .i64 0,.int .i64 0,.int .i64 0] HO.out.2.1 rfl rfl rfl
      ·rfl
      ·rfl
      ·exact HR.out.2
      ·rfl
      ·rfl
      ·exact qx rfl
      intro w3 h3 g3
      have HK:Hid (_/\_):=⟨h3,HO.out.1.own hlt g3 (fun g e=>by have:=Option.some.inj e;omega) (fun g e=>HO.out.2.2.2.1 g (by have:=Option.some.inj e;omega))⟩
      clear h3 g3))
  have r0:Tryz.f119.results=#[.cell 4 75]:=rfl
  refine bodyPost_ret (yr HK.out.1 r0 rfl HR.out.1 HR.out.2 rfl) rfl ?_
  exact ⟨_,m,rfl,Wo,HK.out.2⟩
 have lV:bd<V.heap.size:=OV.F.lt
 have HB:Hid (_/\_/\_):=⟨fun w' (hw:Below V.heap.size V w')=>jD ((hw.block _ lV).trans hbV) 0 rfl,fun w' (hw:Below V.heap.size V w')=>jD ((hw.block _ lV).trans hbV) 1 rfl,
  fun w' (hw:Below V.heap.size V w')=>hR y o1 ec hrd w' (bV.trans (hw.mono (by omega)))⟩
 clear hb hV h hR kV kV1 F hrd
 go_enter Tryz.func119,Tryz.ntmps119
 go_upto_region 2 with fail
 have eV:((W.alloc (.cells ([.int .i64 0,.int .i64 0,.int .i64 0,.int .i64 0,.int .i64 0,.int .i64 0,.int .i64 0,.int .i64 0,.int .i64 0,.int .i64 0,.int .i64 0,.bool false,.int .i64 0,.int .i64 0,.bool false,.int .i64 0,.int .i64 0,.int .i64 0,.int .i64 0,.bool false,.int .i64 0,.int .i64 0,.int .i64 0,.int .i64 0]).toArray 75)).alloc (.cells ([.int .i64 0,.int .i64 0,.int .i64 0,.int .i64 0,.int .i64 0,.int .i64 0,.int .i64 0,.int .i64 0,.int .i64 0,.int .i64 0,.int .i64 0,.bool false,.int .i64 0,.int .i64 0,.bool false,.int .i64 0,.int .i64 0,.int .i64 0,.int .i64 0,.bool false,.int .i64 0,.int .i64 0,.int .i64 0,.int .i64 0]).toArray 75))=V:=HV.out.symm
 rw [eV]
 clear eV
 go_wp2
 refine zW qT 18 14 15 11 6 9 24 dsS depS (zK 120 bd a n c off o1 ec) 75 75 _ m (YD y) OV.F.imm rfl ?_ ?_ ?_ (Uq 120 bd a n c off o1 ec) ?_ injS ?_ (by simp) ⟨_,rfl,rfl,rfl,rfl⟩ Tryz.zeroValue75 rfl ⟨_,rfl,rfl,rfl,rfl,?_⟩ ⟨by decide,by decide,by decide⟩ ⟨by decide,by decide,by decide⟩ (by decide) (by decide) (fun _=>rfl) HR.out.2 ?_
 ·intro i o ho
  match i with
  | 0=>cases ho;simp [Region.binds]
  | 1=>cases ho;simp [Region.binds]
  | 2=>cases ho;simp [Region.binds]
  | 3=>cases ho;simp [Region.binds]
  | 4=>cases ho;simp [Region.binds]
  | 5=>cases ho;simp [Region.binds]
  | 6=>cases ho;simp [Region.binds]
  | 7=>cases ho;simp [Region.binds]
  | 8=>cases ho;simp [Region.binds]
  | 9=>cases ho;simp [Region.binds]
  | 10=>cases ho;simp [Region.binds]
  | 11=>cases ho;simp [Region.binds]
  | 12=>cases ho;simp [Region.binds]
  | 13=>cases ho;simp [Region.binds]
  | 14=>cases ho;simp [Region.binds]
  | 15=>cases ho;simp [Region.binds]
  | 16=>cases ho;simp [Region.binds]
  | 17=>cases ho;simp [Region.binds]
  | j+18=>simp at ho
 ·intro V i o hpu hi9 ho
  obtain ⟨h1,h2,h3⟩:=hpu
  match i,h1,h2,h3,hi9 with
  | 0,_,_,_,_=>
    cases ho
    refine ⟨rfl,rfl,by simp [dsS],fun ac hd hr w' hw=>?_⟩
    have r1:=(hr 1 (Mz (by decide)) (by decide)).trans rfl
    simp [Oper.quietAt,Oper.quietUpon,execOp,r1,go_sem,zK]
  | 1,_,_,_,_=>
    cases ho
    refine ⟨rfl,rfl,by simp [dsS],fun ac hd hr w' hw=>?_⟩
    have r0:=(hr 0 (Mz (by decide)) (by decide)).trans rfl
    simp [Oper.quietAt,Oper.quietUpon,execOp,r0,go_sem,zK]
  | 2,_,_,_,_=>
    cases ho
    refine ⟨rfl,rfl,by simp [dsS],fun ac hd hr w' hw=>?_⟩
    have r17:ac.tmps[17]? = some (.pointer (some ⟨bd,0,none⟩)):=hd ⟨1,.data⟩ (by simp) rfl (by decide) (by decide)
    simp [Oper.quietAt,Oper.quietUpon,execOp,r17,go_sem,zK]
  | 3,_,_,_,_=>
    cases ho
    refine ⟨rfl,rfl,by simp [dsS],fun ac hd hr w' hw=>?_⟩
    have r18:ac.tmps[18]? = some (.pointer (some ⟨bd,0,none⟩)):=hd ⟨2,.data⟩ (by simp) rfl (by decide) (by decide)
    simp [Oper.quietAt,Oper.quietUpon,execOp,r18,go_sem,zK]
  | 4,_,_,_,_=>
    cases ho
    refine ⟨rfl,rfl,by simp [dsS],fun ac hd hr w' hw=>?_⟩
    have r19:ac.tmps[19]? = some (.pointer (some ⟨bd,0,none⟩)):=hd ⟨3,.data⟩ (by simp) rfl (by decide) (by decide)
    exact qz rfl (ev r19) (by kernel_rfl) (HB.out.1 w' hw)
  | 5,_,_,_,_=>
    cases ho
    refine ⟨rfl,rfl,by simp [dsS],fun ac hd hr w' hw=>?_⟩
    have r0:=(hr 0 (Mz (by decide)) (by decide)).trans rfl
    simp [Oper.quietAt,Oper.quietUpon,execOp,r0,go_sem,zK]
  | 6,_,_,_,_=>
    cases ho
    refine ⟨rfl,rfl,by simp [dsS],fun ac hd hr w' hw=>?_⟩
    have r21:ac.tmps[21]? = some (.pointer (some ⟨bd,0,none⟩)):=hd ⟨5,.data⟩ (by simp) rfl (by decide) (by decide)
    simp [Oper.quietAt,Oper.quietUpon,execOp,r21,go_sem,zK]
  | 7,_,_,_,_=>
    cases ho
    refine ⟨rfl,rfl,by simp [dsS],fun ac hd hr w' hw=>?_⟩
    have r22:ac.tmps[22]? = some (.pointer (some ⟨bd,0,none⟩)):=hd ⟨6,.data⟩ (by simp) rfl (by decide) (by decide)
    simp [Oper.quietAt,Oper.quietUpon,execOp,r22,go_sem,zK]
  | 8,_,_,_,_=>
    cases ho
    refine ⟨rfl,rfl,by simp [dsS],fun ac hd hr w' hw=>?_⟩
    have r23:ac.tmps[23]? = some (.pointer (some ⟨bd,1,none⟩)):=hd ⟨7,.data⟩ (by simp) rfl (by decide) (by decide)
    exact qz rfl (ev r23) (by kernel_rfl) (HB.out.2.1 w' hw)
  | 10,_,_,_,_=>
    cases ho
    refine ⟨rfl,rfl,by simp [dsS],fun ac hd hr w' hw=>?_⟩
    have r25:ac.tmps[25]? = some (.tuple #[.agg V.toArray,.int .i64 o1,.int .i64 ec]):=hd ⟨9,.data⟩ (by simp) rfl (by decide) (by decide)
    simp [Oper.quietAt,Oper.quietUpon,execOp,r25,go_sem,zK]
  | 11,_,_,_,_=>
    cases ho
    refine ⟨rfl,rfl,by simp [dsS],fun ac hd hr w' hw=>?_⟩
    have r15:ac.tmps[15]? = some (.tuple #[.agg V.toArray,.int .i64 o1,.int .i64 ec]):=hd ⟨10,.data⟩ (by simp) rfl (by decide) (by decide)
    simp [Oper.quietAt,Oper.quietUpon,execOp,r15,go_sem,zK]
  | 12,_,_,_,_=>
    cases ho
    refine ⟨rfl,rfl,by simp [dsS],fun ac hd hr w' hw=>?_⟩
    have r15:ac.tmps[15]? = some (.tuple #[.agg V.toArray,.int .i64 o1,.int .i64 ec]):=hd ⟨10,.data⟩ (by simp) rfl (by decide) (by decide)
    simp [Oper.quietAt,Oper.quietUpon,execOp,r15,go_sem,zK]
  | 13,_,_,_,_=>
    cases ho
    refine ⟨rfl,rfl,by simp [dsS],fun ac hd hr w' hw=>?_⟩
    have r15:ac.tmps[15]? = some (.tuple #[.agg V.toArray,.int .i64 o1,.int .i64 ec]):=hd ⟨10,.data⟩ (by simp) rfl (by decide) (by decide)
    simp [Oper.quietAt,Oper.quietUpon,execOp,r15,go_sem,zK]
  | 16,_,_,_,_=>
    cases ho
    refine ⟨rfl,rfl,by simp [dsS],fun ac hd hr w' hw=>?_⟩
    have r27:ac.tmps[27]? = some (.int .i64 o1):=hd ⟨12,.data⟩ (by simp) rfl (by decide) (by decide)
    simp [Oper.quietAt,Oper.quietUpon,execOp,r27,go_sem,zK]
  | 17,_,_,_,_=>
    cases ho
    refine ⟨rfl,rfl,by simp [dsS],fun ac hd hr w' hw=>?_⟩
    have r28:ac.tmps[28]? = some (.int .i64 ec):=hd ⟨13,.data⟩ (by simp) rfl (by decide) (by decide)
    simp [Oper.quietAt,Oper.quietUpon,execOp,r28,go_sem,zK]
  | 9,_,_,_,h4=>exact absurd rfl h4
  | 14,_,h2,_,_=>exact absurd rfl h2
  | 15,_,_,h3,_=>exact absurd rfl h3
  | j+18,h1,_,_,_=>exact absurd h1 (by omega)
 ·refine ⟨_,rfl,rfl,rfl,by simp [dsS],fun V ac hd hr w' hw him=>?_⟩
  have r16:ac.tmps[16]? = some (.func (.func 120) #[] #[]):=hd ⟨0,.data⟩ (by simp) rfl (by decide) (by decide)
  have r20:ac.tmps[20]? = some (.slice a n c):=hd ⟨4,.data⟩ (by simp) rfl (by decide) (by decide)
  have r24:ac.tmps[24]? = some (.int .i64 off):=hd ⟨8,.data⟩ (by simp) rfl (by decide) (by decide)
  exact ⟨120,#[.slice a n c,.int .i64 off],by simp [execOp,resolve,invoke,hf,r16,r20,r24,go_sem],HB.out.2.2 w' hw him⟩
 ·intro i o hi hde hi9 ho
  match i,hi,hde,hi9 with
  | 10,_,_,_=>cases ho;exact ⟨⟨9,.data⟩,by simp,rfl,rfl⟩
  | 11,_,_,_=>cases ho;exact ⟨⟨10,.data⟩,by simp,rfl,rfl⟩
  | 12,_,_,_=>cases ho;exact ⟨⟨10,.data⟩,by simp,rfl,rfl⟩
  | 13,_,_,_=>cases ho;exact ⟨⟨10,.data⟩,by simp,rfl,rfl⟩
  | 16,_,_,_=>cases ho;exact ⟨⟨12,.data⟩,by simp,rfl,rfl⟩
  | 17,_,_,_=>cases ho;exact ⟨⟨13,.data⟩,by simp,rfl,rfl⟩
  | 9,_,_,h=>exact absurd rfl h
  | 0,_,h,_ | 1,_,h,_ | 2,_,h,_ | 3,_,h,_ | 4,_,h,_ | 5,_,h,_ | 6,_,h,_ | 7,_,h,_ | 8,_,h,_ | 14,_,h,_ | 15,_,h,_=>exact absurd h (by decide)
  | j+18,h,_,_=>exact absurd h (by omega)
 ·intro i hi
  exact (by decide:∀ i,i<18->i≠14->i≠15->dsS i≠6) i hi.1 hi.2.1 hi.2.2
 ·intro f hf
  simp [Region.binds] at hf
  simp [hf]
 intro ac W1 b Xs M hW1 hb1 hb2 hbox hXr hXl hXo him hle hnw hdf hsz hvals hda hrest
 obtain ⟨tm,dfr⟩:=ac
 have e1:dfr=[]:=hdf
 subst e1
 have e2:=zM [(16,(.func (.func 120) #[] #[])),(17,(.pointer (some ⟨bd,0,none⟩))),(18,(.pointer (some ⟨bd,0,none⟩))),(19,(.pointer (some ⟨bd,0,none⟩))),(20,(.slice a n c)),(21,(.pointer (some ⟨bd,0,none⟩))),(22,(.pointer (some ⟨bd,0,none⟩))),(23,(.pointer (some ⟨bd,1,none⟩))),(24,(.int .i64 off)),(25,(.tuple #[.agg Xs.toArray,.int .i64 o1,.int .i64 ec])),(15,(.tuple #[.agg Xs.toArray,.int .i64 o1,.int .i64 ec])),(26,(.agg Xs.toArray)),(27,(.int .i64 o1)),(28,(.int .i64 ec)),(7,(.int .i64 o1)),(8,(.int .i64 ec)),(6,.pointer (some ⟨b,0,none⟩))] _ tm hsz rfl rfl ⟨hvals 0 ⟨by decide,by decide,by decide⟩,hvals 1 ⟨by decide,by decide,by decide⟩,hvals 2 ⟨by decide,by decide,by decide⟩,hvals 3 ⟨by decide,by decide,by decide⟩,hvals 4 ⟨by decide,by decide,by decide⟩,hvals 5 ⟨by decide,by decide,by decide⟩,hvals 6 ⟨by decide,by decide,by decide⟩,hvals 7 ⟨by decide,by decide,by decide⟩,hvals 8 ⟨by decide,by decide,by decide⟩,hvals 9 ⟨by decide,by decide,by decide⟩,hvals 10 ⟨by decide,by decide,by decide⟩,hvals 11 ⟨by decide,by decide,by decide⟩,hvals 12 ⟨by decide,by decide,by decide⟩,hvals 13 ⟨by decide,by decide,by decide⟩,hvals 16 ⟨by decide,by decide,by decide⟩,hvals 17 ⟨by decide,by decide,by decide⟩,hda,trivial⟩ (fun j hj=>hrest j (Mz (fun h=>hj (by simp at h ⊢;omega))) (fun e=>hj (by subst e;simp)))
 simp only [List.foldl_cons,List.foldl_nil,List.setIfInBounds_toArray,List.set_cons_succ,List.set_cons_zero] at e2
 subst e2
 have D1:W1.heap[bd]? = some (.cells #[.slice a n c,.int .i64 off,.int .i64 0] 87 (0,0)):=(hW1.block _ lV).trans hbV
 have O1:Okd m buf a n c bd W (bxF a n c off 0) M W1:=OV.call ⟨⟨him,OV.F.rep.mono hle,hnw.none lV OV.F.off,Nat.lt_of_lt_of_le lV hW1.size⟩,D1,hle,hnw,yN hW1⟩
 have d1:W1.cell? ⟨bd,1,none⟩=some (.int .i64 off):=jD D1 1 rfl
 have z1:=qp D1 1
 have d2:W1.cell? ⟨bd,2,none⟩=some (.int .i64 0):=jD D1 2 rfl
 have z2:=qp D1 2
 have G1:Hid (_/\_):=Zh D1 1 (.int .i64 o1) rfl
 have G2:Hid (_/\_):=Zh D1 2 (.int .i64 ec) rfl
 have HW:Hid (Below V.heap.size V W1/\W1.heap[b]? = some (.cells Xs.toArray 75 (0,0))/\V.heap.size<=b/\b<W1.heap.size/\Okd m buf a n c bd W (bxF a n c off 0) M W1/\Rep M je (YD y) (.agg Xs.toArray)/\(∀ c∈Xs,jA c=true)/\(∀ o,M W.heap.size o=none)/\bd<W.heap.size):=
  ⟨hW1,hbox,hb1,hb2,O1,hXr,hXo,hnw.none (by omega) (nV _ (Nat.le_refl _)),hlt⟩
 clear hvals hda hrest hsz hW1 hbox hb1 hb2 D1 c2 O1 hXr hXo him hle hnw OV hbV bV nV
 rcases hk with ⟨he,rfl,rfl,rfl⟩ | ⟨rfl,rfl,rfl,rfl⟩
 ·have hB:(c' != 0)=true:=by rw [bne_iff_ne];exact he
  have HZ:Hid ((W1.setCell ⟨bd,2,none⟩ (.int .i64 c')).heap[W.heap.size]? = some (.cells ([.int .i64 0,.int .i64 0,.int .i64 0,.int .i64 0,.int .i64 0,.int .i64 0,.int .i64 0,.int .i64 0,.int .i64 0,.int .i64 0,.int .i64 0,.bool false,.int .i64 0,.int .i64 0,.bool false,.int .i64 0,.int .i64 0,.int .i64 0,.int .i64 0,.bool false,.int .i64 0,.int .i64 0,.int .i64 0,.int .i64 0]).toArray 75 (0,0))/\(W1.setCell ⟨bd,2,none⟩ (.int .i64 c')).heap[W.heap.size+1]? = some (.cells ([.int .i64 0,.int .i64 0,.int .i64 0,.int .i64 0,.int .i64 0,.int .i64 0,.int .i64 0,.int .i64 0,.int .i64 0,.int .i64 0,.int .i64 0,.bool false,.int .i64 0,.int .i64 0,.bool false,.int .i64 0,.int .i64 0,.int .i64 0,.int .i64 0,.bool false,.int .i64 0,.int .i64 0,.int .i64 0,.int .i64 0]).toArray 75 (0,0))/\Okd m buf a n c bd W (bxF a n c o' c') M (W1.setCell ⟨bd,2,none⟩ (.int .i64 c'))):=by
   obtain ⟨w1,w2,w3,w4,w5,w6,w7,w8,w9⟩:=HW.out
   refine ⟨((G2.out.2.block _ (by omega) (fun e=>by have:=Option.some.inj e;omega)).trans (w1.block _ (by omega))).trans HO.out.2.1,((G2.out.2.block _ (by omega) (fun e=>by have:=Option.some.inj e;omega)).trans (w1.block _ (by omega))).trans HO.out.2.2.1,w5.Qh G2.out.1 G2.out.2⟩
  go_wp2_with (first
   | (refine Jo HZ.out.2.1 rfl rfl rfl rfl HR.out.1 HR.out.2 rfl ?_)
   | (apply Jd [.int .i64 0,.int .i64 0,.int .i64 0,.int .i64 0,.int .i64 0,.int .i64 0,.int .i64 0,.int .i64 0,.int .i64 0,.int .i64 0,.int .i64 0,.bool false,.int .i64 0,.int .i64 0,.bool false,.int .i64 0,.int .i64 0,.int .i64 0,.int .i64 0,.bool false,.int .i64 0,.int .i64 0,.int .i64 0,.int .i64 0] HZ.out.1 rfl rfl rfl
      ·rfl
      ·rfl
      ·exact HR.out.2
      ·rfl
      ·rfl
      ·exact qx rfl
      intro w3 h3 g3
      have HK:Hid (_/\_):=⟨h3,HZ.out.2.2.own HW.out.2.2.2.2.2.2.2.2 g3 (fun g e=>by have:=Option.some.inj e;omega) (fun g e=>Option.some.inj e ▸ HW.out.2.2.2.2.2.2.2.1)⟩
      clear h3 g3))
  have r0:Tryz.f119.results=#[.cell 4 75]:=rfl
  refine bodyPost_ret (yr HK.out.1 r0 rfl HR.out.1 HR.out.2 rfl) rfl ?_
  exact ⟨_,rfl,M,Wo,HK.out.2⟩
 ·have HZ:Hid ((W1.setCell ⟨bd,1,none⟩ (.int .i64 o')).heap[W.heap.size]? = some (.cells ([.int .i64 0,.int .i64 0,.int .i64 0,.int .i64 0,.int .i64 0,.int .i64 0,.int .i64 0,.int .i64 0,.int .i64 0,.int .i64 0,.int .i64 0,.bool false,.int .i64 0,.int .i64 0,.bool false,.int .i64 0,.int .i64 0,.int .i64 0,.int .i64 0,.bool false,.int .i64 0,.int .i64 0,.int .i64 0,.int .i64 0]).toArray 75 (0,0))/\(W1.setCell ⟨bd,1,none⟩ (.int .i64 o')).heap[b]? = some (.cells Xs.toArray 75 (0,0))/\Okd m buf a n c bd W (bxF a n c o' 0) M (W1.setCell ⟨bd,1,none⟩ (.int .i64 o'))):=by
   obtain ⟨w1,w2,w3,w4,w5,w6,w7,w8,w9⟩:=HW.out
   refine ⟨((G1.out.2.block _ (by omega) (fun e=>by have:=Option.some.inj e;omega)).trans (w1.block _ (by omega))).trans HO.out.2.1,(G1.out.2.block _ (by omega) (fun e=>by have:=Option.some.inj e;omega)).trans w2,w5.Qh G1.out.1 G1.out.2⟩
  go_wp2_with (first
   | (refine Jo HZ.out.2.1 rfl rfl rfl rfl HR.out.1 HR.out.2 hXl ?_)
   | (apply Jd Xs HZ.out.1 rfl rfl rfl
      ·rfl
      ·rfl
      ·exact HR.out.2
      ·exact hXl
      ·rfl
      ·exact HW.out.2.2.2.2.2.2.1
      intro w3 h3 g3
      have HK:Hid (_/\_):=⟨h3,HZ.out.2.2.own HW.out.2.2.2.2.2.2.2.2 g3 (fun g e=>by have:=Option.some.inj e;omega) (fun g e=>Option.some.inj e ▸ HW.out.2.2.2.2.2.2.2.1)⟩
      clear h3 g3))
  have r0:Tryz.f119.results=#[.cell 4 75]:=rfl
  refine bodyPost_ret (yr HK.out.1 r0 rfl HR.out.1 HR.out.2 hXl) rfl ?_
  exact ⟨_,rfl,M,HW.out.2.2.2.2.2.1,HK.out.2⟩
theorem JK {α β:Type} {r:Option (α × Int × Int)} {k:α->Int->Int->Option β} {y:β} (h:Zi r k=some y):∃ x o c,r=some (x,o,c)/\k x o c=some y:=by
 cases r with
 | none=>cases h
 | some q=>exact ⟨q.1,q.2.1,q.2.2,rfl,h⟩
set_option maxHeartbeats 2000000 in
theorem rlen {m:Mem} {buf:List UInt8} {a:Option Addr} {n c bd:Nat} {off cd x o' c':Int} {W:World} (F:BF m buf a n c bd W) (hb:W.heap[bd]? = some (bxF a n c off cd)) (h:kt (jd buf) off cd=some (x,o',c')):
 Calls Tryz.prog 71 #[.pointer (some ⟨bd,0,none⟩)] W fun e W'=>e=.returned (.int .i64 x)/\W'.heap[bd]? = some (bxF a n c o' c')/\W.grownBy W' (some bd):=by
 have e113:=Tryz.call113
 obtain ⟨y,o1,c1,h1,h2⟩:=JK h
 have k:=PE F hb h1
 clear h hb h1
 rcases Decidable.em (y<0) with t1 | t1
 ·rw [if_pos t1] at h2
  cases h2
  go_enter Tryz.func71,Tryz.ntmps71
  go_upto_region 2 with (first | (go_at_call 113;refine k.mono ?_;rintro e w2 ⟨rfl,hD,hg⟩;have D2:w2.heap[bd]? = some (.cells #[.slice a n c,.int .i64 o',.int .i64 c1] 87 (0,0)):=hD;have G2:Hid (_/\_):=Zh D2 2 (.int .i64 3) rfl;have HG:Hid (_):=hg;have d2:w2.cell? ⟨bd,2,none⟩=some (.int .i64 c1):=jD D2 2 rfl;have z2:=qp D2 2;clear hD hg D2 k))
  go_wp2
  go_ret
  exact ⟨rfl,G2.out.1,Jb HG.out G2.out.2⟩
 ·rw [if_neg t1] at h2
  rcases Decidable.em (8192<y) with t2 | t2
  ·rw [if_pos t2] at h2
   cases h2
   have t3:y>8192:=t2
   go_enter Tryz.func71,Tryz.ntmps71
   go_upto_region 2 with (first | (go_at_call 113;refine k.mono ?_;rintro e w2 ⟨rfl,hD,hg⟩;have D2:w2.heap[bd]? = some (.cells #[.slice a n c,.int .i64 o',.int .i64 c1] 87 (0,0)):=hD;have G2:Hid (_/\_):=Zh D2 2 (.int .i64 5) rfl;have HG:Hid (_):=hg;have d2:w2.cell? ⟨bd,2,none⟩=some (.int .i64 c1):=jD D2 2 rfl;have z2:=qp D2 2;clear hD hg D2 k))
   go_wp2
   go_ret
   exact ⟨rfl,G2.out.1,Jb HG.out G2.out.2⟩
  ·rw [if_neg t2] at h2
   have t3:¬ y>8192:=t2
   rcases Decidable.em (c1≠0) with t4 | t4
   ·rw [if_pos t4] at h2
    cases h2
    have hB:(c' != 0)=true:=by rw [bne_iff_ne];exact t4
    go_enter Tryz.func71,Tryz.ntmps71
    go_upto_region 2 with (first | (go_at_call 113;refine k.mono ?_;rintro e w2 ⟨rfl,hD,hg⟩;have D2:w2.heap[bd]? = some (.cells #[.slice a n c,.int .i64 o',.int .i64 c'] 87 (0,0)):=hD;have HG:Hid (_/\_):=⟨hD,hg⟩;have d2:w2.cell? ⟨bd,2,none⟩=some (.int .i64 c'):=jD D2 2 rfl;clear hD hg D2 k))
    go_wp2
    go_ret
    exact ⟨rfl,HG.out⟩
   ·rw [if_neg t4] at h2
    cases h2
    have t5:c'=0:=Decidable.of_not_not t4
    subst t5
    go_enter Tryz.func71,Tryz.ntmps71
    go_upto_region 2 with (first | (go_at_call 113;refine k.mono ?_;rintro e w2 ⟨rfl,hD,hg⟩;have D2:w2.heap[bd]? = some (.cells #[.slice a n c,.int .i64 o',.int .i64 0] 87 (0,0)):=hD;have HG:Hid (_/\_):=⟨hD,hg⟩;have d2:w2.cell? ⟨bd,2,none⟩=some (.int .i64 0):=jD D2 2 rfl;clear hD hg D2 k))
    go_wp2
    go_ret
    exact ⟨rfl,HG.out⟩
def inZ:List Value:=[.int .i64 0,.int .i64 0,.int .i64 0,.int .i64 0,.int .i64 0]++(zB++zJ)
def inX (k id vx vy val:Int):List Value:=[.int .i64 k,.int .i64 id,.int .i64 vx,.int .i64 vy,.int .i64 val]++(zB++zJ)
theorem Yv (k id vx vy val:Int):∀ c∈inX k id vx vy val,jA c=true:=qx rfl
def inY (k id vx vy val:Int) (B J:List Value):List Value:=[.int .i64 k,.int .i64 id,.int .i64 vx,.int .i64 vy,.int .i64 val]++(B++J)
theorem jbm {k id vx vy val:Int} {B J:List Value} (hB:∀ c∈B,jA c=true) (hJ:∀ c∈J,jA c=true):∀ c∈inY k id vx vy val B J,jA c=true:=by
 intro c hc
 rcases List.mem_append.1 hc with h | h
 ·exact qx rfl c h
 ·exact (List.mem_append.1 h).elim (hB c) (hJ c)
theorem jam {m:Mem} {buf:List UInt8} {a:Option Addr} {n c:Nat} {off o1 ec:Int} {y:Vec} {W:World} (hr:Rep m je (jW buf) (.slice a n c)) (h:jh buf off=some (y,o1,ec)):xY 116 (QC y) m 2 a n c off o1 ec W:=by
 have hc:FnR Tryz.prog 116 [jW buf,.v (.int .i64 off)] (.tup [QC y,.v (.int .i64 o1),.v (.int .i64 ec)]) []:=c_116.ok (buf,off,()) [jW buf,.v (.int .i64 off)] ((y,o1,ec):Vec × Int × Int) ⟨rfl,rfl,trivial⟩ h
 intro w' hw hi
 refine (QE hc w' [.slice a n c,.int .i64 off] (.cons (hr.mono (qU hi)) (.cons .v .nil))).mono ?_
 rintro e w'' ⟨v,rfl,hb2,hrep⟩
 obtain ⟨vs,rfl,hvs⟩:=qe hrep
 obtain ⟨v1,vs,rfl,h1,hvs⟩:=hvs.inv
 have:vs=[.int .i64 o1,.int .i64 ec]:=Jz (l:=[.int .i64 o1,.int .i64 ec]) hvs
 subst this
 obtain ⟨cs,rfl,hcs,hc1⟩:=Qn (l:=(QC y).cells) h1
 have:cs=[.int .i64 y.X,.int .i64 y.Y]:=Jz (l:=[.int .i64 y.X,.int .i64 y.Y]) hcs
 subst this
 exact ⟨_,m,rfl,.agg (l:=(QC y).cells) (pC y) hc1,rfl,hc1,hi.below hb2,fun _ _ _ e=>e,JG.refl _ _,hb2⟩
theorem pU {f:FuncId} {av:AV} {l:List AV} {k:Nat} {m:Mem} {a:Option Addr} {n c:Nat} {off o1 ec:Int} {W:World} (hav:av=.agg l) (hl:l.length=k)
 (h:∀ w',Imm m w'->Calls Tryz.prog f #[.slice a n c,.int .i64 off] w' fun e w''=>∃ v M,e=.returned (.tuple #[v,.int .i64 o1,.int .i64 ec])/\Rep M je av v/\Imm M w''/\Mem.le m M/\JG m M w'.heap.size/\Below w'.heap.size w' w''):xY f av m k a n c off o1 ec W:=by
 intro w' hw hi
 refine (h w' hi).mono ?_
 rintro e w'' ⟨v,M,rfl,hR,hq⟩
 rw [hav] at hR
 obtain ⟨cs,rfl,h1,h2⟩:=Qn hR
 exact ⟨cs,M,rfl,by rw [hav];exact hR,by rw [<- h1.length,hl],h2,hq⟩
theorem jf7 {k id vx vy val:Int} {B J:List Value} (hB:B.length=20):(inY k id vx vy val B zJ).take 25++J++(inY k id vx vy val B zJ).drop (25+24)=inY k id vx vy val B J:=by
 have h1:(inY k id vx vy val B zJ).take 25=[.int .i64 k,.int .i64 id,.int .i64 vx,.int .i64 vy,.int .i64 val]++B:=by
  unfold inY
  rw [<- List.append_assoc,List.take_left' (by simp [hB])]
 rw [h1,List.drop_eq_nil_of_le (by simp [inY,hB,zJ]),List.append_nil]
 simp [inY]
set_option maxHeartbeats 8000000 in
theorem rinput {m:Mem} {buf:List UInt8} {a:Option Addr} {n c bd:Nat} {off cd o' c':Int} {x:Input} {W:World} (F:BF m buf a n c bd W) (hb:W.heap[bd]? = some (bxF a n c off cd)) (h:rInR (jd buf) (jh buf) (jf buf) off cd=some (x,o',c')):
 Calls Tryz.prog 72 #[.pointer (some ⟨bd,0,none⟩)] W fun e W'=>∃ v M,e=.returned v/\Rep M je (yB x) v/\Okd m buf a n c bd W (bxF a n c o' c') M W':=by
 obtain ⟨kd,o1,c1,h1,h⟩:=JK h
 obtain ⟨id,o2,c2,h2,h⟩:=JK h
 obtain ⟨v,o3,c3,h3,h⟩:=JK h
 obtain ⟨val,o4,c4,h4,h⟩:=JK h
 obtain ⟨bo,o5,c5,h5,h⟩:=JK h
 obtain ⟨jo,o6,c6,h6,h⟩:=JK h
 cases h
 have e113:=Tryz.call113
 have e115:=Tryz.call115
 have e117:=Tryz.call117
 have e119:=Tryz.call119
 have ra:tAg Tryz.prog 77=some true:=by kernel_rfl
 have rz:tSz Tryz.prog 77=some 49:=by kernel_rfl
 have rB:tSz Tryz.prog 71=some 20:=by kernel_rfl
 have rJ:tSz Tryz.prog 75=some 24:=by kernel_rfl
 have HR:Hid (_/\_/\_/\_):=⟨ra,rz,rB,rJ⟩
 have HZ:Hid (_/\_/\_/\_/\_/\_):=⟨h1,h2,h3,h4,h5,h6⟩
 have S0:Hid (BS m m buf a n c bd W W.heap.size (W.heap.size+1) 77 inZ inZ (bxF a n c off cd) ((W.alloc (.cells inZ.toArray 77)).alloc (.cells inZ.toArray 77))):=BS.start F hb 77 inZ inZ
 clear ra rz rB rJ h1 h2 h3 h4 h5 h6 F hb
 go_enter Tryz.func72,Tryz.ntmps72
 go_upto_region 3 with (first
  | (go_at_call 113;refine (PE S0.out.O.F S0.out.O.D HZ.out.1).mono ?_;rintro e w1 ⟨rfl,hD,hg⟩;have R0:Hid (BS m m buf a n c bd W W.heap.size (W.heap.size+1) 77 inZ (inZ) (bxF a n c o1 c1) w1):=S0.out.Qh hD hg;clear hD hg S0)
  | (refine JE rfl rfl rfl rfl rfl rfl (by kernel_rfl) R0.out.X (Nat.le_of_ble_eq_true rfl) rfl ?_;intro w1a hX hg;have S1:Hid (BS m m buf a n c bd W W.heap.size (W.heap.size+1) 77 inZ (inX kd 0 0 0 0) (bxF a n c o1 c1) w1a):=R0.out.store (X':=(inX kd 0 0 0 0)) hX hg;clear hX hg R0))
 go_upto_region 4 with (first
  | (go_at_call 113;refine (PE S1.out.O.F S1.out.O.D HZ.out.2.1).mono ?_;rintro e w2 ⟨rfl,hD,hg⟩;have R1:Hid (BS m m buf a n c bd W W.heap.size (W.heap.size+1) 77 inZ (inX kd 0 0 0 0) (bxF a n c o2 c2) w2):=S1.out.Qh hD hg;clear hD hg S1)
  | (refine JE rfl rfl rfl rfl rfl rfl (by kernel_rfl) R1.out.X (Nat.le_of_ble_eq_true rfl) rfl ?_;intro w2a hX hg;have S2:Hid (BS m m buf a n c bd W W.heap.size (W.heap.size+1) 77 inZ (inX kd id 0 0 0) (bxF a n c o2 c2) w2a):=R1.out.store (X':=(inX kd id 0 0 0)) hX hg;clear hX hg R1))
 go_upto_region 5 with (first
  | (go_at_call 115;refine (fieldV S2.out.O.F S2.out.O.D HZ.out.2.2.1 (fun y o1 ec hr=>jam S2.out.O.F.rep hr)).mono ?_;rintro e w3 ⟨v0,M1,rfl,hR,hO⟩;obtain ⟨Vs,rfl,hV1,-⟩:=Qn (l:=(QC v).cells) hR;have hVe:Vs=[.int .i64 v.X,.int .i64 v.Y]:=Jz (l:=[.int .i64 v.X,.int .i64 v.Y]) hV1;subst hVe;have R2:Hid (BS m M1 buf a n c bd W W.heap.size (W.heap.size+1) 77 inZ (inX kd id 0 0 0) (bxF a n c o3 c3) w3):=S2.out.call hO;clear hV1 hR hO S2)
  | (refine qP rfl rfl rfl rfl rfl (by kernel_rfl) R2.out.X (Nat.le_of_ble_eq_true rfl) rfl rfl ?_;intro w3a hX hg;have S3:Hid (BS m M1 buf a n c bd W W.heap.size (W.heap.size+1) 77 inZ (inX kd id v.X v.Y 0) (bxF a n c o3 c3) w3a):=R2.out.store (X':=(inX kd id v.X v.Y 0)) hX hg;clear hX hg R2))
 go_upto_region 6 with (first
  | (go_at_call 113;refine (PE S3.out.O.F S3.out.O.D HZ.out.2.2.2.1).mono ?_;rintro e w4 ⟨rfl,hD,hg⟩;have R3:Hid (BS m M1 buf a n c bd W W.heap.size (W.heap.size+1) 77 inZ (inX kd id v.X v.Y 0) (bxF a n c o4 c4) w4):=S3.out.Qh hD hg;clear hD hg S3)
  | (refine JE rfl rfl rfl rfl rfl rfl (by kernel_rfl) R3.out.X (Nat.le_of_ble_eq_true rfl) rfl ?_;intro w4a hX hg;have S4:Hid (BS m M1 buf a n c bd W W.heap.size (W.heap.size+1) 77 inZ (inX kd id v.X v.Y val) (bxF a n c o4 c4) w4a):=R3.out.store (X':=(inX kd id v.X v.Y val)) hX hg;clear hX hg R3))
 go_upto_region 7 with (first
  | (go_at_call 117;refine (fieldB S4.out.O.F S4.out.O.D HZ.out.2.2.2.2.1 (fun y o1 ec hr=>pU (l:=(Qk y).cells) rfl rfl (fun w' hi=>readB hi S4.out.O.F.rep hr))).mono ?_;rintro e w5 ⟨v0,M2,rfl,hR,hO⟩;obtain ⟨Bs,rfl,hB1,hB2⟩:=Qn (l:=(Qk bo).cells) hR;have hBl:Bs.length=20:=hB1.length.symm;have HBs:Hid (_/\_/\_):=⟨hB1,hB2,hBl⟩;have R4:Hid (BS m M2 buf a n c bd W W.heap.size (W.heap.size+1) 77 inZ (inX kd id v.X v.Y val) (bxF a n c o5 c5) w5):=S4.out.call hO;clear hB1 hB2 hR hO S4)
  | (apply jL (cs:=Bs) (arr:=inX kd id v.X v.Y val)
     ·rfl
     ·rfl
     ·rfl
     ·rfl
     ·rfl
     ·rw [hBl];exact HR.out.2.2.1
     ·exact R4.out.X
     ·rw [hBl];exact Nat.le_of_ble_eq_true rfl
     ·exact HBs.out.2.1
     intro w5a hX hg;rw [hBl] at hX;have S5:Hid (BS m M2 buf a n c bd W W.heap.size (W.heap.size+1) 77 inZ (inY kd id v.X v.Y val Bs zJ) (bxF a n c o5 c5) w5a):=R4.out.store (X':=(inY kd id v.X v.Y val Bs zJ)) (by rw [hX];rfl) hg;clear hX hg R4))
 go_upto_region 8 with (first
  | (go_at_call 119;refine (fieldJ S5.out.O.F S5.out.O.D HZ.out.2.2.2.2.2 (fun y o1 ec hr=>pU (l:=(YD y).cells) rfl rfl (fun w' hi=>readJ hi S5.out.O.F.rep hr))).mono ?_;rintro e w6 ⟨v0,M3,rfl,hR,hO⟩;obtain ⟨Js,rfl,hJ1,hJ2⟩:=Qn (l:=(YD jo).cells) hR;have hJl:Js.length=24:=hJ1.length.symm;have HJs:Hid (_/\_/\_/\_):=⟨hJ1,hJ2,hJl,hO.le⟩;have R5:Hid (BS m M3 buf a n c bd W W.heap.size (W.heap.size+1) 77 inZ (inY kd id v.X v.Y val Bs zJ) (bxF a n c o' c') w6):=S5.out.call hO;clear hJ1 hJ2 hR hO S5)
  | (apply jL (cs:=Js) (arr:=inY kd id v.X v.Y val Bs zJ)
     ·rfl
     ·rfl
     ·rfl
     ·rfl
     ·rfl
     ·rw [hJl];exact HR.out.2.2.2
     ·exact R5.out.X
     ·rw [hJl];simp [inY,hBl,zJ]
     ·exact HJs.out.2.1
     intro w6a hX hg;rw [hJl] at hX;have S6:Hid (BS m M3 buf a n c bd W W.heap.size (W.heap.size+1) 77 inZ (inY kd id v.X v.Y val Bs Js) (bxF a n c o' c') w6a):=R5.out.store (X':=(inY kd id v.X v.Y val Bs Js)) (by rw [hX,jf7 hBl]) hg;clear hX hg R5))
 have hXl:(inY kd id v.X v.Y val Bs Js).length=49:=by simp [inY,hBl,hJl]
 go_wp2_with (first
  | (refine Jo S6.out.X rfl rfl rfl rfl HR.out.1 HR.out.2.1 hXl ?_)
  | (apply Jd (inY kd id v.X v.Y val Bs Js) S6.out.K rfl rfl rfl
     ·rfl
     ·rfl
     ·exact HR.out.2.1
     ·exact hXl
     ·rfl
     ·exact jbm HBs.out.2.1 HJs.out.2.1
     intro w9 hX hg;have HK:Hid (_/\_):=⟨hX,S6.out.fin hg⟩;clear hX hg))
 have r0:Tryz.f72.results=#[.cell 2 77]:=rfl
 refine bodyPost_ret (yr HK.out.1 r0 rfl HR.out.1 HR.out.2.1 hXl) rfl ?_
 refine ⟨_,M3,rfl,.agg (l:=(yB _).cells) ?_ (jbm HBs.out.2.1 HJs.out.2.1),HK.out.2⟩
 exact (Ke [_,_,_,_,_]).append ((HBs.out.1.mono HJs.out.2.2.2).append HJs.out.1)
theorem wO {rI:Int->Option (Int × Int × Int)} {o cd x o' c':Int} (h:kt rI o cd=some (x,o',c')):0<=x/\x<=8192:=by
 obtain ⟨y,o1,c1,h1,h2⟩:=JK h
 rcases Decidable.em (y<0) with t | t
 ·rw [if_pos t] at h2;cases h2;omega
 ·rw [if_neg t] at h2
  rcases Decidable.em (8192<y) with t2 | t2
  ·rw [if_pos t2] at h2;cases h2;omega
  ·rw [if_neg t2] at h2
   rcases Decidable.em (c1≠0) with t3 | t3
   ·rw [if_pos t3] at h2;cases h2;omega
   ·rw [if_neg t3] at h2;cases h2;omega
theorem Md {M:Mem} {y:Input} {v:Value} (h:Rep M je (yB y) v):∃ cs,v=.agg cs.toArray/\Jq M je (yB y).cells cs/\cs.length=49/\∀ c∈cs,jA c=true:=by
 obtain ⟨cs,rfl,h1,h2⟩:=Qn (l:=(yB y).cells) h
 exact ⟨cs,rfl,h1,h1.length.symm,h2⟩
theorem hdrI {M:Mem} {f:List Input} {u:Value} (h:Rep M je (jE f) u):∃ a n c,u=.slice a n c:=kn (sz:=49) (l:=f.map yB) h
set_option maxHeartbeats 16000000 in
theorem je9 {m : Mem} {buf:List UInt8} {a:Option Addr} {n c bd:Nat} {off cd o' c':Int} {r:List (List Input)} {W:World} (F:BF m buf a n c bd W) (hb:W.heap[bd]? = some (bxF a n c off cd))
 (h:(Zi (kt (jd buf) off cd) fun n o c=>uT (jd buf) (jh buf) (jf buf) n.toNat [] o c)=some (r,o',c')):
 Calls Tryz.prog 42 #[.pointer (some ⟨bd,0,none⟩)] W fun e W'=>∃ v M,e=.returned v/\Rep M je (jw r) v/\Okd m buf a n c bd W (bxF a n c o' c') M W':=by
 obtain ⟨N,o1,c1,h1,h⟩:=JK h
 have e71:=Tryz.call71
 have e72:=Tryz.call72
 obtain ⟨i51,a1,a2,a3,a4⟩:=info_parts (P:=Tryz.prog) (e:=51) (z:=.slice none 0 0) (size:=1) (bytes:=24) (by kernel_rfl)
 obtain ⟨i77,b1,b2,b3,b4⟩:=info_parts (P:=Tryz.prog) (e:=77) (z:=.agg inZ.toArray) (size:=49) (bytes:=384) (by kernel_rfl)
 have H51:Hid (_/\_/\_/\_):=⟨a1,a2,a3,a4⟩
 have H77:Hid (_/\_/\_/\_):=⟨b1,b2,b3,b4⟩
 have hN:=wO h1
 have k1:=rlen F hb h1
 have HF:Hid (BF m buf a n c bd W/\W.heap[bd]? = some (bxF a n c off cd)):=⟨F,hb⟩
 clear a1 a2 a3 a4 b1 b2 b3 b4 F hb h1
 obtain ⟨L0,hL0⟩:∃ L0,L0=LS m buf a n c bd W 51 1:=⟨_,rfl⟩
 obtain ⟨K,rfl⟩:∃ K:Nat,N=K:=⟨N.toNat,by omega⟩
 have hK0:((K:Int)).toNat=K:=by omega
 rw [hK0] at h
 have hK1:K<=8192:=by omega
 clear hN hK0
 go_enter Tryz.func42,Tryz.ntmps42
 go_wp2_with (go_at_call 71;refine k1.mono ?_;rintro e w1 ⟨rfl,hD,hg⟩;have S1:Hid (LS m buf a n c bd W 51 1 [] (.slice none 0 0) (bxF a n c o1 c1) m w1):=LS.start ((Okd.start HF.out.1 HF.out.2).Qh hD hg) HF.out.1.lt;clear hD hg k1)
 go_loopg [3,4] K (fun kx s3 s4 wr=>∃ (i:Nat) (l:List (List Input)) (M:Mem) (o cc:Int),s4=.int .i64 i/\i<=kx/\i<=K/\l.length=K - i/\uT (jd buf) (jh buf) (jf buf) i l o cc=some (r,o',c')/\Aside (L0 (l.map jE) s3 (bxF a n c o cc) M wr))
 case atStart=>
  subst hL0
  exact ⟨K,[],m,o1,c1,rfl,Nat.le_refl _,Nat.le_refl _,by simp,h,S1.out⟩
 case round=>
  obtain ⟨i,l,M,o,cc,rfl,hik,hiK,hl,hrec,S⟩:=hrel
  subst hL0
  have S0:Hid (LS m buf a n c bd W 51 1 (l.map jE) u3 (bxF a n c o cc) M wr):=S.out
  have d2:wr.cell? ⟨bd,2,none⟩=some (.int .i64 cc):=jD S0.out.O.D 2 rfl
  clear S h
  match i,hrec,hik,hiK,hl with
  | 0,hrec,hik,hiK,hl=>
    cases hrec
    go_wp2
    go_ret
    obtain ⟨M',hO,hR⟩:=S0.out.fin (by intro x hx;obtain ⟨y,-,rfl⟩:=List.mem_map.1 hx;rfl)
    exact ⟨_,M',rfl,hR,hO⟩
  | j + 1, hrec, hik,hiK,hl=>
    have t1:((j+1:Nat):Int)>0:=by omega
    rcases Decidable.em (cc≠0) with hcc | hcc
    ·unfold uT at hrec
     rw [if_pos hcc] at hrec
     cases hrec
     have hB:(c'==0)=false:=by rw [beq_eq_false_iff_ne];exact hcc
     go_wp2
     go_ret
     obtain ⟨M',hO,hR⟩:=S0.out.fin (by intro x hx;obtain ⟨y,-,rfl⟩:=List.mem_map.1 hx;rfl)
     exact ⟨_,M',rfl,hR,hO⟩
    ·have hc0 : cc=0:=Decidable.of_not_not hcc
     subst hc0
     unfold uT at hrec
     rw [if_neg hcc] at hrec
     obtain ⟨N2,o2,c2,h2,hr1⟩:=JK hrec
     have k2:=rlen S0.out.O.F S0.out.O.D h2
     have hN2:=wO h2
     obtain ⟨f,o3,c3,h3,hr2⟩:=JK hr1
     obtain ⟨K2,rfl⟩:∃ K:Nat,N2=K:=⟨N2.toNat,by omega⟩
     have hK0:((K2:Int)).toNat=K2:=by omega
     rw [hK0] at h3
     have HX:Hid (_/\_/\_):=⟨hr2,hN2,hl⟩
     have wi:IntKind.i64.wrap (((j+1:Nat):Int) - 1)=(j:Int):=by rw [IntKind.wrap_i64];omega
     clear hrec hr1 hr2 hN2 hK0 h2 hl
     go_wp2_with (go_at_call 71;refine k2.mono ?_;rintro e w2 ⟨rfl,hD,hg⟩;have S2:Hid (LS m buf a n c bd W 51 1 (l.map jE) u3 (bxF a n c o2 c2) M w2):=S0.out.Qh hD hg;clear hD hg k2 d2)
     obtain ⟨L1,hL1⟩:∃ L1,L1=LS M buf a n c bd w2 77 49:=⟨_,rfl⟩
     have hlt2:bd<w2.heap.size:=S2.out.O.F.lt
     go_loopg [5,6] K2 (fun ky s5 s6 wq=>∃ (i2:Nat) (f2:List Input) (M2:Mem) (o4 c4:Int),s6=.int .i64 i2/\i2<=ky/\i2<=K2/\f2.length=K2 - i2/\mF (jd buf) (jh buf) (jf buf) i2 f2 o4 c4=some (f,o3,c3)/\Aside (L1 (f2.map yB) s5 (bxF a n c o4 c4) M2 wq))
     case atStart=>
      subst hL1
      exact ⟨K2,[],M,o2,c2,rfl,Nat.le_refl _,Nat.le_refl _,by simp,h3,LS.start (Okd.start S2.out.O.F S2.out.O.D) hlt2⟩
     case round =>
      obtain ⟨i2,f2,M2,o4,c4,rfl,hik2,hiK2,hl2,hrec2,S3⟩:=hrel
      subst hL1
      have S4:Hid (LS M buf a n c bd w2 77 49 (f2.map yB) u5 (bxF a n c o4 c4) M2 wr):=S3.out
      have d4:wr.cell? ⟨bd,2,none⟩=some (.int .i64 c4):=jD S4.out.O.D 2 rfl
      clear S3 h3
      have hfin:∀ (fr:List Input) (oo cq:Int),fr=f->oo=o3->cq=c3->LS M buf a n c bd w2 77 49 (fr.map yB) u5 (bxF a n c oo cq) M2 wr->∃ M3,Hid (LS m buf a n c bd W 51 1 (l.map jE) u3 (bxF a n c o3 c3) M3 wr/\Rep M3 je (jE f) u5):=by
       rintro fr oo cq rfl rfl rfl hS
       obtain ⟨M3,hO,hR⟩:=hS.fin (by intro x hx;obtain ⟨y,-,rfl⟩:=List.mem_map.1 hx;rfl)
       exact ⟨M3,S2.out.call hO,hR⟩
      have HF2:Hid (_):=hfin
      clear hfin
      match i2,hrec2,hik2,hiK2,hl2 with
      | 0,hrec2,hik2,hiK2,hl2=>
        have hrec2:some (f2,o4,c4)=some (f,o3,c3):=hrec2
        have q1:f2=f:=by cases hrec2;rfl
        have q2:o4=o3:=by cases hrec2;rfl
        have q3:c4=c3:=by cases hrec2;rfl
        obtain ⟨M3,S5⟩:=HF2.out _ _ _ q1 q2 q3 S4.out
        clear hrec2 S4 d4 HF2 q1 q2 q3
        obtain ⟨fa,fn,fc,rfl⟩:=hdrI S5.out.2
        go_wp2_with (first
         | (at_builtin
            obtain ⟨xs,hxs,hRx,hx1⟩:=S5.out.1.R.xs
            have hml:(l.map jE).length=K - (j+1):=by rw [List.length_map];exact HX.out.2.2
            rw [hml] at hxs
            refine Jc rfl (.tmp 38) (.tmp 40) 23 rfl W.heap.size 51 i51 (.slice none 0 0) 1 24 Tryz.underlying23 H51.out.1 H51.out.2.1 H51.out.2.2.1 H51.out.2.2.2 rfl (by decide) u3 (K - (j+1)) xs rfl (World.ownsRow.kept hxs (yD ((Below.refl _ _).alloc (Nat.le_refl _) _)) (by cases u3.ownBlock <;> simp)) ⟨wr.heap.size,0,none⟩ 1 1 [.slice fa fn fc] rfl rfl (Yy wr [.slice fa fn fc] 51 _ rfl) (by intro u hu;simp at hu;subst hu;rfl) (by simp [maxLen];omega) (by omega) (by have:=S5.out.1.O.G.size;simp;omega) (by decide) ?_
            intro v7 w7 hown7 hgrow7 hblk7
            have S7:Aside (LS m buf a n c bd W 51 1 ((l++[f]).map jE) v7 (bxF a n c o3 c3) M3 w7):=by
             rw [List.map_append]
             exact S5.out.1.app (x:=jE f) hml hxs hRx hx1 (.cons S5.out.2 .nil) (by intro u hu;simp at hu;subst hu;rfl) hown7 hgrow7 hblk7
            clear hown7 hgrow7 hblk7 hxs hRx hx1 hml))
        go_roundg j
        case measure=>omega
        case rel=>exact ⟨j,l++[f],M3,o3,c3,by simp,Nat.le_refl _,by omega,by simp [HX.out.2.2];omega,HX.out.1,S7⟩
      | j2+1,hrec2,hik2,hiK2,hl2=>
        have t2:((j2+1:Nat):Int)>0:=by omega
        rcases Decidable.em (c4≠0) with hcc4 | hcc4
        ·unfold mF at hrec2
         rw [if_pos hcc4] at hrec2
         have q1:f2=f:=by cases hrec2;rfl
         have q2:o4=o3:=by cases hrec2;rfl
         have q3:c4=c3:=by cases hrec2;rfl
         obtain ⟨M3,S5⟩:=HF2.out _ _ _ q1 q2 q3 S4.out
         have hB:(c4==0)=false:=by rw [beq_eq_false_iff_ne];exact hcc4
         clear hrec2 S4 HF2 q1 q2 q3
         obtain ⟨fa,fn,fc,rfl⟩:=hdrI S5.out.2
         go_wp2_with (first
          | (at_builtin
             obtain ⟨xs,hxs,hRx,hx1⟩:=S5.out.1.R.xs
             have hml:(l.map jE).length=K - (j+1):=by rw [List.length_map];exact HX.out.2.2
             rw [hml] at hxs
             refine Jc rfl (.tmp 38) (.tmp 40) 23 rfl W.heap.size 51 i51 (.slice none 0 0) 1 24 Tryz.underlying23 H51.out.1 H51.out.2.1 H51.out.2.2.1 H51.out.2.2.2 rfl (by decide) u3 (K - (j+1)) xs rfl (World.ownsRow.kept hxs (yD ((Below.refl _ _).alloc (Nat.le_refl _) _)) (by cases u3.ownBlock <;> simp)) ⟨wr.heap.size,0,none⟩ 1 1 [.slice fa fn fc] rfl rfl (Yy wr [.slice fa fn fc] 51 _ rfl) (by intro u hu;simp at hu;subst hu;rfl) (by simp [maxLen];omega) (by omega) (by have:=S5.out.1.O.G.size;simp;omega) (by decide) ?_
             intro v7 w7 hown7 hgrow7 hblk7
             have S7:Aside (LS m buf a n c bd W 51 1 ((l++[f]).map jE) v7 (bxF a n c o3 c3) M3 w7):=by
              rw [List.map_append]
              exact S5.out.1.app (x:=jE f) hml hxs hRx hx1 (.cons S5.out.2 .nil) (by intro u hu;simp at hu;subst hu;rfl) hown7 hgrow7 hblk7
             clear hown7 hgrow7 hblk7 hxs hRx hx1 hml))
         go_roundg j
         case measure=>omega
         case rel=>exact ⟨j,l++[f],M3,o3,c3,by simp,Nat.le_refl _,by omega,by simp [HX.out.2.2];omega,HX.out.1,S7⟩
        ·have hc4:c4=0:=Decidable.of_not_not hcc4
         subst hc4
         unfold mF at hrec2
         rw [if_neg hcc4] at hrec2
         obtain ⟨y,o5,c5,h5,hrec2⟩:=JK hrec2
         have k5:=rinput S4.out.O.F S4.out.O.D h5
         have HR2:Hid (_):=hrec2
         have wi2:IntKind.i64.wrap (((j2+1:Nat):Int) - 1)=(j2:Int):=by have:=HX.out.2.1;rw [IntKind.wrap_i64];omega
         clear hrec2 h5
         go_wp2_with (first
          | (go_at_call 72;refine k5.mono ?_
             rintro e w5 ⟨v5,M5,rfl,hR5,hO5⟩
             obtain ⟨cs5,rfl,hA5,hl5,hA51⟩:=Md hR5
             have S5:Hid (LS M buf a n c bd w2 77 49 (f2.map yB) u5 (bxF a n c o5 c5) M5 w5/\Jq M5 je (yB y).cells cs5/\(∀ c∈cs5,jA c=true)):=⟨S4.out.call hO5,hA5,hA51⟩
             clear hR5 hO5 hA5 hA51 k5 d4)
          | (at_builtin
             obtain ⟨xs,hxs,hRx,hx1⟩:=S5.out.1.R.xs
             have hml:(f2.map yB).length=K2 - (j2+1):=by rw [List.length_map,hl2]
             rw [hml] at hxs
             rw [Uj cs5]
             rotate_left
             ·exact hl5.symm
             refine Jc rfl (.tmp 33) (.tmp 36) 51 rfl w2.heap.size 77 i77 (.agg inZ.toArray) 49 384 Tryz.underlying51 H77.out.1 H77.out.2.1 H77.out.2.2.1 H77.out.2.2.2 rfl (by decide) u5 (K2 - (j2+1)) xs rfl (World.ownsRow.kept hxs (yD ((Below.refl _ _).alloc (Nat.le_refl _) _)) (by cases u5.ownBlock <;> simp)) ⟨w5.heap.size,0,none⟩ 1 1 cs5 rfl (by rw [hl5]) (Yy w5 cs5 77 _ rfl) S5.out.2.2 (by have:=HX.out.2.1;simp [maxLen];omega) (by have:=HX.out.2.1;omega) (by have:=S5.out.1.O.G.size;simp;omega) (by decide) ?_
             intro v6 w6 hown6 hgrow6 hblk6
             have S6:Aside (LS M buf a n c bd w2 77 49 ((f2++[y]).map yB) v6 (bxF a n c o5 c5) M5 w6):=by
              rw [List.map_append]
              exact S5.out.1.app hml hxs hRx hx1 S5.out.2.1 S5.out.2.2 hown6 hgrow6 hblk6
             clear hown6 hgrow6 hblk6 hxs hRx hx1 hml S4))
         go_roundg j2
         case measure=>omega
         case rel=>exact ⟨j2,f2++[y],M5,o5,c5,by have q:=HX.out.2.1;simp;unfold wrap64;omega,Nat.le_refl _,by omega,(by simp [hl2];omega),HR2.out,S6⟩
end GoForm
end
