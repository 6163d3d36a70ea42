/- Several texts in one. No conditions. -/
import Derived.Test.YtffgldbihpgjgaaGreatDoorGY
import Derived.Test.YtffgldbihpgjgaaGreatDoorGX
import Derived.Test.YtffgldbihpgjgaaGreatDoorGV
import Derived.Deep.Upon
section
set_option linter.all false
set_option maxRecDepth 100000
open Go Go.Rx Go.Proofs Go.RowKit
namespace GoForm
structure TK (n:Nat) (st:Nat->Bool) (ds:Nat->Nat) (val:Nat->Value) (J:(Nat->Bool)->Act->World->Prop) (a0:Act) (f:Nat->Bool) (a:Act) (w:World):Prop where
 sz:a.tmps.size=a0.tmps.size
 df:a.defers=a0.defers
 Jp:∀ i,i<n->st i=false->f i=true->a.tmps[ds i]? = some (val i)
 rest:∀ j,(∀ i,i<n->ds i≠j)->a.tmps[j]? = a0.tmps[j]?
 j:J f a w
theorem KQ {P:Program} {id:Nat} {Q:Exit->Act->World->Prop} {ops:Array Oper} {a0:Act} {w:World} (hm:P.follows .mixedOrders=true)
 (n:Nat) (st:Nat->Bool) (ds:Nat->Nat) (val:Nat->Value) (J:(Nat->Bool)->Act->World->Prop) (hn:ops.size=n)
 (hback:∀ (i:Nat) (o:Oper),ops[i]? = some o->∀ e∈o.after,Region.binds .any e=true->e.on<i)
 (hJ:J (fun _=>false) a0 w.drew)
 (hJa:∀ f a a' w,(∀ i,i<n->st i=true->a.tmps[ds i]? = a'.tmps[ds i]?)->J f a w->J f a' w)
 (hp:∀ i o,i<n->st i=false->ops[i]? = some o->o.guard=none/\o.dst=some (ds i)/\ds i<a0.tmps.size/\∀ a f w',J f a w'->f i=false->(∀ e∈o.after,Region.binds .any e=true->f e.on=true)->(∀ e∈o.after,Region.binds .any e=true->st e.on=false->a.tmps[ds e.on]? = some (val e.on))->
   (∀ j,(∀ i,i<n->ds i≠j)->a.tmps[j]? = a0.tmps[j]?)->o.quietAt P a (fun w''=>w''=w') w' (val i)/\J (fun j=>if j=i then true else f j) a w')
 (hinj:∀ i i',i<n->i'<n->ds i=ds i'->i=i')
 (hs:∀ i o,i<n->st i=true->ops[i]? = some o->o.guard=none/\(o.dst=some (ds i)\/o.dst=none)/\∀ a f w',a.tmps.size=a0.tmps.size->J f a w'->f i=false->(∀ e∈o.after,Region.binds .any e=true->f e.on=true)->(∀ k,k<n->st k=false->f k=true->a.tmps[ds k]? = some (val k))->
   (∀ j,(∀ i,i<n->ds i≠j)->a.tmps[j]? = a0.tmps[j]?)->∀ (K:Act->World->Prop),(∀ u w'',J (fun j=>if j=i then true else f j) (a.put o.dst u) w''->K (a.put o.dst u) w'')->o.wp P a w' K Q)
 (hq:∀ f a w',J f a w'->(∀ i,i<n->f i=true)->a.defers=a0.defers->a.tmps.size=a0.tmps.size->(∀ i,i<n->st i=false->a.tmps[ds i]? = some (val i))->(∀ j,(∀ i,i<n->ds i≠j)->a.tmps[j]? = a0.tmps[j]?)->Q .normal a w'):(Code.region id ops true).wp P Q a0 w:=by
 refine QU hm (fun f a w'=>TK n st ds val J a0 f a w') hback ⟨rfl,rfl,by simp,fun _ _=>rfl,hJ⟩ ?_ ?_
 ·rintro f a w1 i o S ho hf hdep
  have hi:i<n:=by rw [<- hn];exact (Array.getElem?_eq_some_iff.1 ho).1
  have hdv:∀ e∈o.after,Region.binds .any e=true->st e.on=false->a.tmps[ds e.on]? = some (val e.on):=fun e he hb h=>by
   have hlt:=hback i o ho e he hb
   exact S.Jp e.on (by omega) h (hdep e he hb)
  cases hst:st i with
  | true=>
    obtain ⟨q2,q4,q6⟩:=hs i o hi hst ho
    refine ze ho q2 (q6 a f w1 S.sz S.j hf hdep S.Jp S.rest _ fun u w2 hj=>?_)
    rcases q4 with q4 | q4
    ·rw [q4] at hj ⊢
     refine ⟨VD.trans S.sz,S.df,fun k hk h1 h=>?_,fun j h1=>(qG (fun e=>h1 i hi e.symm)).trans (S.rest j h1),hj⟩
     have ek:k≠i:=fun e=>by subst e;rw [hst] at h1;cases h1
     rw [if_neg ek] at h
     rw [qG (fun e=>ek (hinj k i hk hi e))]
     exact S.Jp k hk h1 h
    ·rw [q4] at hj ⊢
     refine ⟨S.sz,S.df,fun k hk h1 h=>?_,S.rest,hj⟩
     have ek:k≠i:=fun e=>by subst e;rw [hst] at h1;cases h1
     rw [if_neg ek] at h
     exact S.Jp k hk h1 h
  | false =>
    obtain ⟨q2,q4,q5,q6⟩:=hp i o hi hst ho
    obtain ⟨hQ,hj⟩:=q6 a f w1 S.j hf hdep hdv S.rest
    refine ze ho q2 ?_
    have key:TK n st ds val J a0 (fun j=>if j=i then true else f j) (a.put (some (ds i)) (val i)) w1:=by
     refine ⟨VD.trans S.sz,S.df,fun k hk h1 h=>?_,fun j h1=>(qG (fun e=>h1 i hi e.symm)).trans (S.rest j h1),hJa _ a _ _ (fun k hk h1=>?_) hj⟩
     ·by_cases ek:k=i
      ·subst ek;exact put_eq (by rw [S.sz];exact q5)
      ·rw [if_neg ek] at h
       rw [qG (fun e=>ek (hinj k i hk hi e))]
       exact S.Jp k hk h1 h
     ·refine (qG (fun e=>?_)).symm
      have:=hinj k i hk hi e
      subst this
      rw [hst] at h1;cases h1
    rw [<- q4] at key
    unfold Oper.quietAt at hQ
    unfold Oper.wp
    generalize (execOp a.eval o).run P w1=r at hQ ⊢
    cases r with
    | ok nx w'=>
      cases nx <;> simp only [Oper.quietUpon] at hQ <;> simp only [Oper.upon]
      case value u=>
       obtain ⟨e1,e2⟩:=hQ
       subst e1;subst e2
       exact key
      case skip=>
       obtain ⟨e1,e2⟩:=hQ
       subst e1
       rw [<- e2]
       exact key
      case enter f args=>
       obtain ⟨e1,hc⟩:=hQ
       subst e1
       exact hc.mono fun e w'' ⟨he,hw''⟩=>by subst he;rw [hw''];exact key
    | halt x w'=>simp only [Oper.quietUpon] at hQ
 ·rintro f a w1 S hall
  rw [hn] at hall
  exact hq f a w1 S.j hall S.df S.sz (fun i hi h=>S.Jp i hi h (hall i hi)) S.rest
theorem PA {α β:Type} (F:α->List β) (n:Nat) (hF:∀ x,(F x).length=n):∀ (l:List α) (i:Nat) (x:α),l[i]? = some x->((l.flatMap F).drop (i*n)).take n=F x
 | [],i,x,h=>by simp at h
 | y::l,0,x,h=>by
   have:y=x:=by simpa using h
   subst this
   rw [Nat.zero_mul,List.drop_zero,List.flatMap_cons,List.take_append_of_le_length (by rw [hF];exact Nat.le_refl _),List.take_of_length_le (by rw [hF];exact Nat.le_refl _)]
 | y::l,i+1,x,h=>by
   have h:l[i]? = some x:=by simpa using h
   have e:(i+1)*n=(F y).length+i*n:=by rw [hF,Nat.add_mul,Nat.one_mul,Nat.add_comm]
   rw [List.flatMap_cons,e,List.drop_append,List.drop_eq_nil_of_le (Nat.le_add_right _ _),Nat.add_sub_cancel_left,List.nil_append]
   exact PA F n hF l i x h
def qC (x:Input):List AV:=(yB x).cells
theorem Wg (x:Input):(qC x).length=49:=rfl
theorem xq (l:List Input):(l.map yB).flatMap AV.cells=l.flatMap qC:=by
 rw [List.flatMap_map];rfl
theorem ui {m:Mem} {l:List Input} {v:Value} (h:Rep m je (jE l) v):∃ ad cap,v=.slice ad l.length cap/\(0<l.length->∃ blk off cs,ad=some ⟨blk,off,none⟩/\Jq m je (l.flatMap qC) cs/\(∀ c∈cs,jA c=true)/\∀ j x,cs[j]? = some x->m blk (off+j)=some x):=by
 have h:Rep m je (.sl false 49 (l.map yB)) v:=h
 generalize hl:l.map yB=l' at h
 cases h with
 | slnil=>
   have:l=[]:=by simpa using hl
   subst this
   exact ⟨none,0,rfl,fun h=>absurd h (by simp)⟩
 | @sl _ _ _ _ a cap cs h1 h2 h3 h4 h5 h6 h7=>
   have hn:l'.length=l.length:=by rw [<- hl];simp
   rw [hn]
   refine ⟨some a,cap,rfl,fun hp=>?_⟩
   rw [<- hl,xq] at h2
   refine ⟨a.block,a.off,cs,?_,h2,h3,fun j x e=>h5 j x e⟩
   have hc:=h2.length
   have:0<cs.length:=by
    rw [<- hc]
    cases l with
    | nil=>simp at hp
    | cons y l=>rw [List.flatMap_cons,List.length_append,Wg];omega
   have:=h4 this
   cases a
   simp at this
   rw [this]
structure IR (B:Nat) (M:Mem) (l:List Input) (v:Value) (w:World):Prop where
 xs:∃ xs,w.ownsRow B 77 49 v l.length xs/\Jq M je (l.flatMap qC) xs/\∀ c∈xs,jA c=true
 no:∀ g,v.ownBlock=some g->∀ o,M g o=none
theorem IR.lt {B M l v w} (h:IR B M l v w):∀ g,v.ownBlock=some g->B<=g/\g<w.heap.size:=by
 obtain ⟨xs,h1,-⟩:=h.xs
 exact fun g e=>World.ownsRow.lt h1 g e
theorem IR.grow {B M l v w} (h:IR B M l v w) {M':Mem} {w':World} {row:Option Nat} (hg:w.grownBy w' row) (hr:∀ g,row=some g->v.ownBlock≠some g) (hle:Mem.le M M') (hn:JG M M' w.heap.size):IR B M' l v w':=by
 obtain ⟨xs,h1,h2,h3⟩:=h.xs
 refine ⟨⟨xs,World.ownsRow.kept h1 hg ?_,h2.mono hle,h3⟩,fun g e=>hn.none (h.lt g e).2 (h.no g e)⟩
 cases row with
 | none=>exact (by cases v.ownBlock <;> simp)
 | some g=>exact .inr (hr g rfl)
theorem IR.mono {B B' M l v w} (h:IR B M l v w) (hb:B'<=B):IR B' M l v w:=by
 obtain ⟨xs,⟨h1,h2⟩,h3⟩:=h.xs
 refine ⟨⟨xs,⟨h1,?_⟩,h3⟩,h.no⟩
 rcases h2 with h2 | ⟨g,cap,cur,q1,q2,q3⟩
 ·exact .inl h2
 ·exact .inr ⟨g,cap,cur,q1,Nat.le_trans hb q2,q3⟩
theorem UI {P:Program} {ops:Array Oper} {rest:List Oper} {Q:Exit->Act->World->Prop} {o:Oper} {a:Act} {w:World} {ty:TypeId} {y:Operand} {d b off:Nat} {cs:List Value}
 (g:o.guard=none) (e:o.op=.load ty y) (hd:o.dst=some d) (hy:a.eval y=.pointer (some ⟨b,off,none⟩)) (ha:tAg P ty=some true) (hs:tSz P ty=some cs.length)
 (hc:∀ j v,cs[j]? = some v->w.cell? ⟨b,off+j,none⟩=some v) (h:wpList P ops Q rest (a.put (some d) (.agg cs.toArray)) w):wpList P ops Q (o::rest) a w:=by
 have hld:=Jw (P:=P) (ty:=ty) (w:=w) (b:=b) (o:=off) (cs:=cs) ha hs hc
 refine wpList_plain g fun K hK=>?_
 have r1:(execOp a.eval o).run P w=.ok (.value (.agg cs.toArray)) w:=by simp [execOp,e,hy,Instr.loadAt,Instr.sureAddr,hld]
 unfold Oper.wp
 rw [r1,Oper.upon_value,hd]
 exact hK _ _ h
structure LI (w:World) (M:Mem) (l:List Input) (v:Value) (wr:World) (M':Mem):Prop where
 bel:Below w.heap.size w wr
 imm:Imm M' wr
 le:Mem.le M M'
 new:JG M M' w.heap.size
 row:IR w.heap.size M' l v wr
theorem LI.go {w M l v wr M'} (h:LI w M l v wr M') {w2:World} {M2:Mem} (hb:Below wr.heap.size wr w2) (hi:Imm M2 w2) (hl:Mem.le M' M2) (hn:JG M' M2 wr.heap.size):LI w M l v w2 M2:=
 ⟨h.bel.trans (hb.mono h.bel.size),hi,fun b o u e=>hl b o u (h.le b o u e),h.new.trans hn h.bel.size,h.row.grow (yD hb) (by simp) hl hn⟩
theorem LI.Xa {w M l v wr M'} (h:LI w M l v wr M') {w2:World} (hb:Below wr.heap.size wr w2):LI w M l v w2 M':=h.go hb (h.imm.below hb) (fun _ _ _ e=>e) (JG.refl _ _)
def preI (x:Input):List Value:=[.int .i64 x.Kind,.int .i64 x.ID,.int .i64 x.Vec.X,.int .i64 x.Vec.Y,.int .i64 x.Value,.int .i64 x.Body.ID,.int .i64 x.Body.Kind,.int .i64 x.Body.Transform.Position.X,.int .i64 x.Body.Transform.Position.Y,.int .i64 x.Body.Transform.qy,.int .i64 x.Body.jZ.X,.int .i64 x.Body.jZ.Y,.int .i64 x.Body.jC,.int .i64 x.Body.YA.X,.int .i64 x.Body.YA.Y,.int .i64 x.Body.Yl,.int .i64 x.Body.jN,.int .i64 x.Body.jI,.int .i64 x.Body.jR,.bool x.Body.YO,.bool x.Body.jQ,.bool x.Body.yE,.bool x.Body.YP,.int .i64 x.Body.Jt]
def postI (x:Input):List Value:=[.int .i64 x.jn.ID,.int .i64 x.jn.Kind,.int .i64 x.jn.QS,.int .i64 x.jn.QR,.int .i64 x.jn.JS.X,.int .i64 x.jn.JS.Y,.int .i64 x.jn.JR.X,.int .i64 x.jn.JR.Y,.int .i64 x.jn.KO.X,.int .i64 x.jn.KO.Y,.int .i64 x.jn.jM,.bool x.jn.Jf,.int .i64 x.jn.QP,.int .i64 x.jn.QN,.bool x.jn.Je,.int .i64 x.jn.Jl,.int .i64 x.jn.JQ,.int .i64 x.jn.JP,.int .i64 x.jn.Jm,.bool x.jn.jH,.int .i64 x.jn.jx.1,.int .i64 x.jn.jx.2.1,.int .i64 x.jn.jx.2.2.1,.int .i64 x.jn.jx.2.2.2]
def inG (x:Input) (h:Value):List Value:=preI x++h::postI x
theorem Me (x:Input):qC x=(preI x).map AV.v++(zS x.Body.jk::(postI x).map AV.v):=rfl
theorem jbo (x:Input) (h:Value):(inG x h).length=49:=rfl
theorem in_inv {M:Mem} {x:Input} {B:List Value} (h:Jq M je (qC x) B):∃ a n k,B=inG x (.slice a n k):=by
 rw [Me] at h
 obtain ⟨v1,v2,rfl,h1,h2⟩:=h.split
 obtain rfl:=Jz h1
 obtain ⟨v,t,rfl,hv,ht⟩:=h2.inv
 obtain rfl:=Jz ht
 have hv:Rep M je (.sl false 10 (x.Body.jk.map yj)) v:=hv
 generalize x.Body.jk.map yj=fl at hv
 obtain ⟨a,n,k,rfl⟩:∃ a n k,v=.slice a n k:=by cases hv <;> exact ⟨_,_,_,rfl⟩
 exact ⟨a,n,k,rfl⟩
theorem jf4 {w:World} {M M':Mem} {l:List Input} {y:Input} {v v':Value} {wr w2:World} {xs:List Value} {A:List Value} (S:LI w M l v wr M') (hx:wr.ownsRow w.heap.size 77 49 v l.length xs) (hR:Jq M' je (l.flatMap qC) xs) (h1:∀ c∈xs,jA c=true)
 (hA:Jq M' je (qC y) A) (hA1:∀ c∈A,jA c=true)
 (hown:w2.ownsRow w.heap.size 77 49 v' (l.length+1) (xs++A)) (hg:(wr.alloc (.cells A.toArray 77)).grownBy w2 v.ownBlock) (hblk:v'.ownBlock=v.ownBlock\/v'.ownBlock=some (wr.alloc (.cells A.toArray 77)).heap.size):LI w M (l++[y]) v' w2 M':=by
 have hb:Below wr.heap.size wr (wr.alloc (.cells A.toArray 77)):=(Below.refl _ _).alloc (Nat.le_refl _) _
 have S1:=S.Xa hb
 have himm:Imm M' w2:=by
  cases e:v.ownBlock with
  | none=>rw [e] at hg;exact yG (b:=(wr.alloc (.cells A.toArray 77)).heap.size) S1.imm ⟨hg.os,hg.tape,hg.output,hg.size,fun k hk _=>hg.block k hk (by simp)⟩ (yi S1.imm (Nat.le_refl _))
  | some g=>rw [e] at hg;exact yG S1.imm hg (S1.row.no g e)
 refine ⟨S1.bel.grown hg S1.bel.size (fun g e=>(S1.row.lt g e).1),himm,S.le,S.new,⟨⟨xs++A,by simpa using hown,by rw [List.flatMap_append];simpa using hR.append hA,fun c hc=>(List.mem_append.1 hc).elim (h1 c) (hA1 c)⟩,fun g e=>?_⟩⟩
 rcases hblk with h | h
 ·exact S.row.no g (h.symm.trans e)
 ·rw [h] at e
  have:=Option.some.inj e
  subst this
  exact yi S1.imm (Nat.le_refl _)
set_option maxHeartbeats 8000000 in
theorem VM (l:List Input) (hc:∀ x∈l,yT x=some x) (hl:l.length<=4294967296) (M:Mem) (v:Value) (w:World) (hi:Imm M w) (hr:Rep M je (jE l) v):
 Calls Tryz.prog 63 #[v] w fun e w'=>∃ v' M',e=.returned v'/\LI w M l v' w' M':=by
 obtain ⟨ad,cap,rfl,hx2⟩:=ui hr
 obtain ⟨n,hn⟩:∃ n,l.length=n:=⟨_,rfl⟩
 have e106:=Tryz.call106
 rw [hn] at hx2 hl ⊢
 obtain ⟨i77,b1,b2,b3,b4⟩:=info_parts (P:=Tryz.prog) (e:=77) (z:=.agg inZ.toArray) (size:=49) (bytes:=384) (by kernel_rfl)
 have HI:Hid (_/\_/\_/\_):=⟨b1,b2,b3,b4⟩
 have ra:tAg Tryz.prog 77=some true:=by kernel_rfl
 have rz:tSz Tryz.prog 77=some 49:=by kernel_rfl
 have HR:Hid (_/\_):=⟨ra,rz⟩
 clear b1 b2 b3 b4 ra rz hr
 obtain ⟨L0,hL0⟩:∃ L0,L0=LI w M:=⟨_,rfl⟩
 go_enter Tryz.func63,Tryz.ntmps63
 go_wp2
 go_loopg [3,8] n (fun kx s3 s8 wr=>∃ (i:Nat) (M':Mem),s8=.int .i64 i/\i<=n/\n - i<=kx/\Aside (L0 (l.take i) s3 wr M'))
 case atStart=>
  subst hL0
  exact ⟨0,M,rfl,Nat.zero_le _,Nat.le_refl _,⟨Below.refl _ _,hi,fun _ _ _ e=>e,JG.refl _ _,⟨⟨[],World.ownsRow_nil _ _ _ _,.nil,by simp⟩,by simp [Value.ownBlock]⟩⟩⟩
 case round=>
  obtain ⟨i,M',rfl,hin,hkx,S⟩:=hrel
  by_cases hlt:(i:Int)<n
  ·obtain ⟨blk,off,cs,rfl,hcs,hc1,hcm⟩:=hx2 (by omega)
   have hi1:i<l.length:=by omega
   obtain ⟨x,hxi⟩:∃ x,l[i]? = some x:=⟨_,List.getElem?_eq_getElem hi1⟩
   obtain ⟨A,hA⟩:∃ A,A=(cs.drop (i*49)).take 49:=⟨_,rfl⟩
   have hRA:Jq M je (qC x) A:=by
    have:=(hcs.drop (i*49)).take 49
    rw [PA qC 49 Wg l i x hxi] at this
    rw [hA];exact this
   have hAl:A.length=49:=by rw [<- hRA.length];rfl
   have hA1:∀ c∈A,jA c=true:=fun c h=>hc1 c (List.mem_of_mem_drop (List.mem_of_mem_take (by rw [hA] at h;exact h)))
   subst hL0
   have hcc:∀ j u,A[j]? = some u->wr.cell? ⟨blk,off+i*49+j,none⟩=some u:=fun j u e=>by
    have hj:j<49:=by have:=(List.getElem?_eq_some_iff.1 e).1;omega
    have e2:cs[i*49+j]? = some u:=by
     rw [hA,List.getElem?_take_of_lt hj,List.getElem?_drop] at e;exact e
    rw [Nat.add_assoc]
    exact S.out.imm _ _ _ (S.out.le _ _ _ (hcm _ _ e2))
   have wi:IntKind.i64.wrap ((i:Int)+1)=((i+1:Nat):Int):=by rw [IntKind.wrap_i64];omega
   have ti:((i:Int)).toNat=i:=by omega
   have pi:(0:Int)<=(i:Int):=by omega
   have hfr:FnR Tryz.prog 106 [yB x] (yB x) []:=c_106.ok (x,()) [yB x] x ⟨rfl,trivial⟩ (hc x (List.mem_of_getElem? hxi))
   have HA:Hid (_/\_/\_/\_/\_):=⟨hcc,hAl,hA1,hRA,hxi⟩
   have HF:Hid (_):=hfr
   have S0:Hid (LI w M (l.take i) u3 wr M'):=S.out
   clear hcc hAl hA1 hRA hxi hA hfr S hcs hc1 hcm hx2
   go_wp2_with (first
    | (refine UI (cs:=A) rfl rfl rfl rfl HR.out.1 (by rw [HA.out.2.1];exact HR.out.2) HA.out.1 ?_)
    | (refine jL (cs:=A) (arr:=inZ) rfl rfl rfl rfl rfl (by rw [HA.out.2.1];exact HR.out.2) (Jh wr _ _ rfl) (by rw [HA.out.2.1];exact Nat.le_refl 49) HA.out.2.2.1 ?_
       intro w1 y1 g1
       have T1:Hid (w1.heap[wr.heap.size]? = some (.cells A.toArray 77 (0,0))/\LI w M (l.take i) u3 w1 M'):=⟨by rw [y1,List.drop_eq_nil_of_le (by rw [HA.out.2.1];exact Nat.le_refl 49)];simp,S0.out.Xa (((Below.refl _ _).alloc (Nat.le_refl _) _).grown g1 (by simp) (fun k e=>by have:=Option.some.inj e;omega))⟩
       clear y1 g1)
    | (refine YB (cs:=A) (arr:=A.toArray) rfl rfl rfl rfl HR.out.1 (by rw [HA.out.2.1];exact HR.out.2) T1.out.1 (fun j v e=>by rw [Nat.zero_add];simpa using e) ?_)
    | (go_at_call 106;refine (jb1 HF.out w1 M' [.agg A.toArray] T1.out.2.imm (.cons (.agg (HA.out.2.2.2.1.mono S0.out.le) HA.out.2.2.1) .nil)).mono ?_
       rintro e w2 ⟨v2,M2,rfl,hb2,hi2,hle2,hn2,hrep2⟩
       obtain ⟨B,rfl,hB,hB1⟩:=Qn (show Rep M2 je (.agg (qC x)) v2 from hrep2)
       obtain ⟨fa,fn,fc,rfl⟩:=in_inv hB
       have hgl:(inG x (.slice fa fn fc)).length=49:=jbo _ _
       have S2:Hid (LI w M (l.take i) u3 w2 M2/\Jq M2 je (qC x) (inG x (.slice fa fn fc))/\∀ c∈inG x (.slice fa fn fc),jA c=true):=⟨T1.out.2.go hb2 hi2 hle2 hn2,hB,hB1⟩
       clear hb2 hi2 hle2 hn2 hrep2 hB hB1)
    | (at_builtin
       obtain ⟨xs,hx,hRx,hx1⟩:=S2.out.1.row.xs
       have hti:(l.take i).length=i:=by rw [List.length_take];omega
       rw [hti] at hx
       rw [Uj (inG x (.slice fa fn fc))]
       rotate_left
       ·exact (jbo x _).symm
       refine Jc rfl (.tmp 12) (.tmp 15) 51 rfl w.heap.size 77 i77 (.agg inZ.toArray) 49 384 Tryz.underlying51 HI.out.1 HI.out.2.1 HI.out.2.2.1 HI.out.2.2.2 rfl (by decide) u3 i xs rfl (World.ownsRow.kept hx (yD ((Below.refl _ _).alloc (Nat.le_refl _) _)) (by cases u3.ownBlock <;> simp)) ⟨w2.heap.size,0,none⟩ 1 1 (inG x (.slice fa fn fc)) rfl rfl (Yy w2 (inG x (.slice fa fn fc)) 77 _ rfl) S2.out.2.2 (by simp [maxLen];omega) (by omega) (by have:=S2.out.1.bel.size;simp;omega) (by decide) ?_
       intro v3 w3 hown3 hgrow3 hblk3
       have S3:Aside (LI w M (l.take i++[x]) v3 w3 M2):=jf4 S2.out.1 (by rw [hti];exact hx) hRx hx1 S2.out.2.1 S2.out.2.2 (by rw [hti];exact hown3) hgrow3 hblk3
       clear hown3 hgrow3 hblk3 hx hRx hx1 hti))
   go_roundg (n - (i+1))
   case measure=>omega
   case rel=>
    refine ⟨i+1,M2,by simp,by omega,by omega,?_⟩
    have ht:l.take (i+1)=l.take i++[x]:=by rw [List.take_succ,HA.out.2.2.2.2];rfl
    rw [ht];exact S3
  ·have hin':i=n:=by omega
   subst hin'
   have ht:l.take i=l:=by rw [<- hn,List.take_length]
   rw [ht] at S
   subst hL0
   go_wp2
   go_ret
   exact ⟨u3,rfl,M',S⟩
theorem IR.slice {B M l v w} (h:IR B M l v w):∃ a n k,v=.slice a n k:=by
 obtain ⟨xs,⟨-,h⟩,-⟩:=h.xs
 rcases h with ⟨rfl,-⟩ | ⟨g,cap,cur,rfl,-⟩ <;> exact ⟨_,_,_,rfl⟩
theorem IR.nil (B:Nat) (M:Mem) (w:World):IR B M [] (.slice none 0 0) w:=⟨⟨[],World.ownsRow_nil _ _ _ _,.nil,by simp⟩,by simp [Value.ownBlock]⟩
structure KL (w0:World) (M0:Mem) (r:List (List Input)) (v:Value) (Jp:List Value) (w:World) (M:Mem):Prop where
 bel:Below w0.heap.size w0 w
 imm:Imm M w
 le:Mem.le M0 M
 new:JG M0 M w0.heap.size
 row:w.ownsRow w0.heap.size 51 1 v r.length Jp
 no:∀ g,v.ownBlock=some g->∀ o,M g o=none
 len:Jp.length=r.length
 fr:∀ (j:Nat) f x,r[j]? = some f->Jp[j]? = some x->IR w0.heap.size M f x w
 off:∀ (j:Nat) x g,Jp[j]? = some x->x.ownBlock=some g->v.ownBlock≠some g
 inj:∀ (j j':Nat) x x' g,Jp[j]? = some x->Jp[j']? = some x'->x.ownBlock=some g->x'.ownBlock=some g->j=j'
theorem KL.start (w0:World) (M0:Mem) (hi:Imm M0 w0):KL w0 M0 [] (.slice none 0 0) [] w0 M0:=
 ⟨Below.refl _ _,hi,fun _ _ _ e=>e,JG.refl _ _,World.ownsRow_nil _ _ _ _,by simp [Value.ownBlock],rfl,fun j f x h=>by simp at h,fun j x g h=>by simp at h,fun j j' x x' g h=>by simp at h⟩
theorem KL.get {w0 M0 r v Jp w M} (h:KL w0 M0 r v Jp w M) {j:Nat} {x:Value} (e:Jp[j]? = some x):∃ f,r[j]? = some f/\IR w0.heap.size M f x w:=by
 have hj:j<r.length:=by rw [<- h.len];exact (List.getElem?_eq_some_iff.1 e).1
 exact ⟨_,List.getElem?_eq_getElem hj,h.fr j _ x (List.getElem?_eq_getElem hj) e⟩
theorem vu {w w':World} {base e size n} {v:Value} {xs} (h:w.ownsRow base e size v n xs) (hb:Below w.heap.size w w'):w'.ownsRow base e size v n xs:=
 World.ownsRow.kept h (yD hb) (by cases v.ownBlock <;> simp)
theorem KL.go {w0 M0 r v Jp w M} (h:KL w0 M0 r v Jp w M) {w2:World} {M2:Mem} (hb:Below w.heap.size w w2) (hi:Imm M2 w2) (hl:Mem.le M M2) (hn:JG M M2 w.heap.size):KL w0 M0 r v Jp w2 M2:=
 ⟨h.bel.trans (hb.mono h.bel.size),hi,fun b o u e=>hl b o u (h.le b o u e),h.new.trans hn h.bel.size,vu h.row hb,
   fun g e=>hn.none (World.ownsRow.lt h.row g e).2 (h.no g e),h.len,fun j f x e1 e2=>(h.fr j f x e1 e2).grow (yD hb) (by simp) hl hn,h.off,h.inj⟩
theorem KL.Xa {w0 M0 r v Jp w M} (h:KL w0 M0 r v Jp w M) {w2:World} (hb:Below w.heap.size w w2):KL w0 M0 r v Jp w2 M:=h.go hb (h.imm.below hb) (fun _ _ _ e=>e) (JG.refl _ _)
theorem xu {M:Mem} {w w':World} {v:Value} (hi:Imm M w) (hg:w.grownBy w' v.ownBlock) (hno:∀ g,v.ownBlock=some g->∀ o,M g o=none):Imm M w':=by
 cases e:v.ownBlock with
 | none=>rw [e] at hg;exact yG (b:=w.heap.size) hi ⟨hg.os,hg.tape,hg.output,hg.size,fun k hk _=>hg.block k hk (by simp)⟩ (yi hi (Nat.le_refl _))
 | some g=>rw [e] at hg;exact yG hi hg (hno g e)
theorem KL.append {w0 M0 r v Jp w M} (S:KL w0 M0 r v Jp w M) {f:List Input} {x v':Value} {w2:World} (hx:IR w0.heap.size M f x w) (hof:∀ g,x.ownBlock=some g->v.ownBlock≠some g/\∀ (j:Nat) y,Jp[j]? = some y->y.ownBlock≠some g)
 (hown:w2.ownsRow w0.heap.size 51 1 v' (r.length+1) (Jp++[x])) (hg:(w.alloc (.cells #[x] 51)).grownBy w2 v.ownBlock) (hblk:v'.ownBlock=v.ownBlock\/v'.ownBlock=some (w.alloc (.cells #[x] 51)).heap.size):KL w0 M0 (r++[f]) v' (Jp++[x]) w2 M:=by
 have hb:Below w.heap.size w (w.alloc (.cells #[x] 51)):=(Below.refl _ _).alloc (Nat.le_refl _) _
 have S1:=S.Xa hb
 have hx1:IR w0.heap.size M f x (w.alloc (.cells #[x] 51)):=hx.grow (yD hb) (by simp) (fun _ _ _ e=>e) (JG.refl _ _)
 have hkeep:∀ {f y},IR w0.heap.size M f y (w.alloc (.cells #[x] 51))->(∀ g,y.ownBlock=some g->v.ownBlock≠some g)->IR w0.heap.size M f y w2:=fun hy ho=>
  hy.grow hg (fun g e e2=>ho g e2 e) (fun _ _ _ e=>e) (JG.refl _ _)
 have hget:∀ {j:Nat} {y},(Jp++[x])[j]? = some y->(Jp[j]? = some y/\j<Jp.length)\/(j=Jp.length/\y=x):=by
  intro j y e
  by_cases hj:j<Jp.length
  ·rw [List.getElem?_append_left hj] at e;exact .inl ⟨e,hj⟩
  ·rw [List.getElem?_append_right (by omega)] at e
   have h0:j - Jp.length=0:=by have:=(List.getElem?_eq_some_iff.1 e).1;simp at this;omega
   rw [h0] at e
   exact .inr ⟨by omega,(Option.some.inj e).symm⟩
 have hlt:∀ {y g},(∃ j:Nat,(Jp++[x])[j]? = some y)->y.ownBlock=some g->g<w.heap.size:=by
  rintro y g ⟨j,e⟩ e2
  rcases hget e with ⟨e,-⟩ | ⟨-,rfl⟩
  ·obtain ⟨f',-,h⟩:=S.get e
   exact (h.lt g e2).2
  ·exact (hx.lt g e2).2
 refine ⟨S1.bel.grown hg S1.bel.size (fun g e=>(World.ownsRow.lt S1.row g e).1),xu S1.imm hg S1.no,S.le,S.new,by simpa using hown,fun g e=>?_,by simp [S.len],fun j f' y e1 e2=>?_,fun j y g e1 e2=>?_,fun j j' y y' g e1 e2 e3 e4=>?_⟩
 ·rcases hblk with h | h
  ·exact S.no g (h.symm.trans e)
  ·rw [h] at e
   have:=Option.some.inj e
   subst this
   exact yi S1.imm (Nat.le_refl _)
 ·rcases hget e2 with ⟨e2,hj⟩ | ⟨hj,rfl⟩
  ·rw [List.getElem?_append_left (by rw [<- S.len];exact hj)] at e1
   exact hkeep (S1.fr j f' y e1 e2) (fun g e=>S.off j y g e2 e)
  ·rw [List.getElem?_append_right (by rw [hj,S.len];exact Nat.le_refl _),hj,S.len,Nat.sub_self] at e1
   have:f=f':=Option.some.inj e1
   subst this
   exact hkeep hx1 (fun g e=>(hof g e).1)
 ·rcases hblk with h | h
  ·rw [h]
   rcases hget e1 with ⟨e1,-⟩ | ⟨-,rfl⟩
   ·exact S.off j y g e1 e2
   ·exact (hof g e2).1
  ·rw [h]
   intro e
   have:=Option.some.inj e
   have:=hlt ⟨j,e1⟩ e2
   simp at*
   omega
 ·rcases hget e1 with ⟨d1,h1⟩ | ⟨h1,d1⟩ <;> rcases hget e2 with ⟨d2,h2⟩ | ⟨h2,d2⟩
  ·exact S.inj j j' y y' g d1 d2 e3 e4
  ·rw [d2] at e4;exact absurd e3 ((hof g e4).2 j y d1)
  ·rw [d1] at e3;exact absurd e4 ((hof g e3).2 j' y' d2)
  ·omega
theorem Pv (r:List (List Input)):(r.map jE).flatMap AV.cells=r.map jE:=by
 induction r with
 | nil=>rfl
 | cons f r ih=>rw [List.map_cons,List.flatMap_cons,ih];rfl
theorem jak {m:Mem} {r:List (List Input)} {v:Value} (h:Rep m je (jw r) v):∃ ad cap,v=.slice ad r.length cap/\(0<r.length->∃ blk off cs,ad=some ⟨blk,off,none⟩/\Jq m je (r.map jE) cs/\∀ (j:Nat) x,cs[j]? = some x->m blk (off+j)=some x):=by
 have h:Rep m je (.sl false 1 (r.map jE)) v:=h
 generalize hl:r.map jE=l' at h
 cases h with
 | slnil=>
   have:r=[]:=by simpa using hl
   subst this
   exact ⟨none,0,rfl,fun h=>absurd h (by simp)⟩
 | @sl _ _ _ _ a cap cs h1 h2 h3 h4 h5 h6 h7=>
   have hn:l'.length=r.length:=by rw [<- hl];simp
   rw [hn]
   refine ⟨some a,cap,rfl,fun hp=>?_⟩
   rw [<- hl,Pv] at h2
   refine ⟨a.block,a.off,cs,?_,by rw [<- hl];exact h2,fun j x e=>h5 j x e⟩
   have hc:=h2.length
   have:=h4 (by rw [<- hc,List.length_map];omega)
   cases a
   simp at this
   rw [this]
set_option maxHeartbeats 8000000 in
theorem jbY (r:List (List Input)) (hc:∀ f∈r,(∀ x∈f,yT x=some x)/\f.length<=4294967296) (hl:r.length<=4294967296) (M:Mem) (v:Value) (w:World) (hi:Imm M w) (hr:Rep M je (jw r) v):
 Calls Tryz.prog 62 #[v] w fun e w'=>∃ v',e=.returned v'/\∃ Jp M',KL w M r v' Jp w' M':=by
 obtain ⟨ad,cap,rfl,hx2⟩:=jak hr
 obtain ⟨n,hn⟩:∃ n,r.length=n:=⟨_,rfl⟩
 have e63:=Tryz.call63
 rw [hn] at hx2 hl ⊢
 obtain ⟨i51,a1,a2,a3,a4⟩:=info_parts (P:=Tryz.prog) (e:=51) (z:=.slice none 0 0) (size:=1) (bytes:=24) (by kernel_rfl)
 have HI:Hid (_/\_/\_/\_):=⟨a1,a2,a3,a4⟩
 clear a1 a2 a3 a4 hr
 obtain ⟨K0,hK0⟩:∃ K0,K0=KL w M:=⟨_,rfl⟩
 go_enter Tryz.func62,Tryz.ntmps62
 go_wp2
 go_loopg [3,8] n (fun kx s3 s8 wr=>∃ (i:Nat) (Jp:List Value) (M':Mem),s8=.int .i64 i/\i<=n/\n - i<=kx/\Aside (K0 (r.take i) s3 Jp wr M'))
 case atStart=>
  subst hK0
  exact ⟨0,[],M,rfl,Nat.zero_le _,Nat.le_refl _,KL.start w M hi⟩
 case round =>
  obtain ⟨i,Jp,M',rfl,hin,hkx,S⟩:=hrel
  by_cases hlt:(i:Int)<n
  ·obtain ⟨blk,off,cs,rfl,hcs,hcm⟩:=hx2 (by omega)
   have hi1:i<r.length:=by omega
   obtain ⟨f,hfi⟩:∃ f,r[i]? = some f:=⟨_,List.getElem?_eq_getElem hi1⟩
   obtain ⟨x,hxi,hrx⟩:=hcs.get i (jE f) (by rw [List.getElem?_map,hfi];rfl)
   obtain ⟨xa,xc,rfl,-⟩:=ui hrx
   subst hK0
   have S0:Hid (KL w M (r.take i) u3 Jp wr M'):=S
   have c0:wr.cell? ⟨blk,off+i,none⟩=some (.slice xa f.length xc):=S.out.imm _ _ _ (S.out.le _ _ _ (hcm _ _ hxi))
   have wi:IntKind.i64.wrap ((i:Int)+1)=((i+1:Nat):Int):=by rw [IntKind.wrap_i64];omega
   have ti:((i:Int)).toNat=i:=by omega
   have pi:(0:Int)<=(i:Int):=by omega
   have hcf:=hc f (List.mem_of_getElem? hfi)
   have k63:=VM f hcf.1 hcf.2 M' (.slice xa f.length xc) wr S.out.imm (hrx.mono S.out.le)
   have HA:Hid (_):=hfi
   clear hcs hcm hxi hrx hx2 hcf S hfi
   go_wp2_with (first
    | (go_at_call 63;refine k63.mono ?_
       rintro e w2 ⟨v2,M2,rfl,L2⟩
       obtain ⟨va,vn,vk,rfl⟩:=L2.row.slice
       have S2:Hid (KL w M (r.take i) u3 Jp w2 M2/\IR wr.heap.size M2 f (.slice va vn vk) w2):=⟨S0.out.go L2.bel L2.imm L2.le L2.new,L2.row⟩
       clear L2 k63 c0)
    | (at_builtin
       have hti:(r.take i).length=i:=by rw [List.length_take];omega
       have hx:=S2.out.1.row
       rw [hti] at hx
       refine Jc rfl (.tmp 12) (.tmp 15) 23 rfl w.heap.size 51 i51 (.slice none 0 0) 1 24 Tryz.underlying23 HI.out.1 HI.out.2.1 HI.out.2.2.1 HI.out.2.2.2 rfl (by decide) u3 i Jp rfl (vu hx ((Below.refl _ _).alloc (Nat.le_refl _) _)) ⟨w2.heap.size,0,none⟩ 1 1 [.slice va vn vk] rfl rfl (Yy w2 [.slice va vn vk] 51 _ rfl) (by intro u hu;simp at hu;subst hu;rfl) (by simp [maxLen];omega) (by omega) (by have:=S2.out.1.bel.size;simp;omega) (by decide) ?_
       intro v3 w3 hown3 hgrow3 hblk3
       have S3:Aside (KL w M (r.take i++[f]) v3 (Jp++[.slice va vn vk]) w3 M2):=S2.out.1.append (S2.out.2.mono (by have:=S0.out.bel.size;omega)) (fun g e=>by
        have h1:=(S2.out.2.lt g e).1
        refine ⟨fun e2=>by have:=(World.ownsRow.lt S0.out.row g e2).2;omega,fun j y e3 e4=>?_⟩
        obtain ⟨f',-,h⟩:=S0.out.get e3
        have:=(h.lt g e4).2;omega) (by rw [hti];exact hown3) hgrow3 hblk3
       clear hown3 hgrow3 hblk3 hx hti))
   go_roundg (n - (i+1))
   case measure=>omega
   case rel=>
    refine ⟨i+1,Jp++[.slice va vn vk],M2,by simp,by omega,by omega,?_⟩
    have ht:r.take (i+1)=r.take i++[f]:=by rw [List.take_succ,HA.out];rfl
    rw [ht];exact S3
  ·have hin':i=n:=by omega
   subst hin'
   have ht:r.take i=r:=by rw [<- hn,List.take_length]
   rw [ht] at S
   subst hK0
   go_wp2
   go_ret
   exact ⟨u3,rfl,Jp,M',S⟩
structure KF (w0:World) (M0:Mem) (r:List (List Input)) (v:Value) (Jp:List Value) (w:World) (M:Mem):Prop where
 bel:Below w0.heap.size w0 w
 imm:Imm M w
 le:Mem.le M0 M
 new:JG M0 M w0.heap.size
 no:∀ g,v.ownBlock=some g->∀ o,M g o=none
 len:Jp.length=r.length
 fr:∀ (j:Nat) f x,r[j]? = some f->Jp[j]? = some x->IR w0.heap.size M f x w
 off:∀ (j:Nat) x g,Jp[j]? = some x->x.ownBlock=some g->v.ownBlock≠some g
 inj:∀ (j j':Nat) x x' g,Jp[j]? = some x->Jp[j']? = some x'->x.ownBlock=some g->x'.ownBlock=some g->j=j'
theorem KF.kl {w0 M0 r v Jp w M} (h:KF w0 M0 r v Jp w M) (hr:w.ownsRow w0.heap.size 51 1 v r.length Jp):KL w0 M0 r v Jp w M:=⟨h.bel,h.imm,h.le,h.new,hr,h.no,h.len,h.fr,h.off,h.inj⟩
theorem KU {P:Program} (i:TypeInfo) (ht:P.underlying 51=some (.slice 77)) (hi:P.info? 77=some i) (hz:i.zero=some (.agg inZ.toArray)) (hs:i.size=49) (hby:i.bytes=384)
 {B B':Nat} {M:Mem} {f l:List Input} {x c:Value} {w:World} (hx:IR B M f x w) (hc:IR B' M l c w) (him:Imm M w) (hl:f.length+l.length<=4294967296) (hB:B<=w.heap.size):
 ∃ y w',(Builtin.append_ #[51,51] 51 #[x,c]).run P w=.ok y w'/\IR B M (f++l) y w'/\w.grownBy w' x.ownBlock/\(y.ownBlock=x.ownBlock\/y.ownBlock=some w.heap.size)/\Imm M w':=by
 obtain ⟨xs,hx1,hx2,hx3⟩:=hx.xs
 obtain ⟨ys,hc1,hc2,hc3⟩:=hc.xs
 rcases Nat.eq_zero_or_pos l.length with h0 | hp
 ·have:l=[]:=List.eq_nil_of_length_eq_zero h0
  subst this
  have hyn:ys=[]:=List.eq_nil_of_length_eq_zero (by rw [<- hc2.length];rfl)
  subst hyn
  have hS:∃ a k,c=.slice a 0 k:=by
   rcases hc1.2 with ⟨e,-⟩ | ⟨g,cap,cur,e,-⟩ <;> exact ⟨_,_,e⟩
  obtain ⟨a,k,rfl⟩:=hS
  have hX:∃ b n q,x=.slice b n q/\n<=q:=by
   rcases hx1.2 with ⟨e,e0⟩ | ⟨g,cap,cur,e,-,-,h,-⟩
   ·exact ⟨_,_,_,e,Nat.le_refl _⟩
   ·exact ⟨_,_,_,e,h⟩
  obtain ⟨b,n,q,rfl,hnq⟩:=hX
  have src:Src P i.size 51 (.slice a 0 k) 0 [] w:=by
   cases a with
   | none=>exact Src.ofNil w ht k
   | some a=>exact Src.ofSlice w ht a 0 k [] (by simp) (by simp) (by simp)
  exact ⟨_,w,run_append_nothing w 51 51 51 77 i ht hi b n q hnq _ src,by rw [List.append_nil];exact hx,⟨rfl,rfl,rfl,Nat.le_refl _,fun _ _ _=>rfl⟩,.inl rfl,him⟩
 ·rcases hc1.2 with ⟨-,e0⟩ | ⟨g,cap,cur,rfl,h1,h2,h3,h4,h5,h6⟩
  ·omega
  ·have hcell:∀ j u,ys[j]? = some u->w.cell? ((⟨g,0,none⟩:Addr).add j)=some u:=fun j u e=>by
    rw [yd,Nat.zero_add,Ji h2]
    have hj:j<ys.length:=(List.getElem?_eq_some_iff.1 e).1
    rw [<- h6,List.getElem?_take_of_lt (by rw [<- hc1.1];exact hj)] at e
    rw [<- Array.getElem?_toList];exact e
   obtain ⟨y,w',hr,ho,hg,-⟩:=run_append_own (P:=P) w B 51 51 77 i (.agg inZ.toArray) 49 384 ht hi hz hs hby rfl (by decide) x f.length xs hx1 ⟨g,0,none⟩ l.length cap ys hc1.1 hcell hc3 (by simp [maxLen];omega) (by omega) hB
   have hb:=VO (P:=P) (w:=w) B 51 51 77 i (.agg inZ.toArray) 49 384 ht hi hz hs hby x f.length xs hx1 ⟨g,0,none⟩ l.length cap ys hc1.1 hcell hc3 (by simp [maxLen];omega) (by omega) hp y w' hr
   have him':=xu him hg hx.no
   refine ⟨y,w',hr,⟨⟨xs++ys,by simpa using ho,by rw [List.flatMap_append];exact hx2.append hc2,fun u hu=>(List.mem_append.1 hu).elim (hx3 u) (hc3 u)⟩,fun g' e=>?_⟩,hg,hb,him'⟩
   rcases hb with h | h
   ·exact hx.no g' (h.symm.trans e)
   ·rw [h] at e
    have:=Option.some.inj e
    subst this
    exact yi him (Nat.le_refl _)
theorem KL.upd {w0 M0 r v Jp w M} (S:KL w0 M0 r v Jp w M) {k:Nat} {f:List Input} {x y:Value} {f':List Input} {w':World} (hf:r[k]? = some f) (hx:Jp[k]? = some x)
 (hy:IR w0.heap.size M f' y w') (hg:w.grownBy w' x.ownBlock) (hblk:y.ownBlock=x.ownBlock\/y.ownBlock=some w.heap.size) (him:Imm M w'):KF w0 M0 (r.set k f') v (Jp.set k y) w' M/\w'.ownsRow w0.heap.size 51 1 v r.length Jp:=by
 have hxl:=(S.fr k f x hf hx).lt
 have hk:k<Jp.length:=(List.getElem?_eq_some_iff.1 hx).1
 have hget:∀ {j:Nat} {z},(Jp.set k y)[j]? = some z->(j=k/\z=y)\/(j≠k/\Jp[j]? = some z):=by
  intro j z e
  rw [List.getElem?_set] at e
  by_cases h:k=j
  ·subst h;rw [if_pos rfl,if_pos hk] at e;exact .inl ⟨rfl,(Option.some.inj e).symm⟩
  ·rw [if_neg h] at e;exact .inr ⟨fun e=>h e.symm,e⟩
 have hne:∀ (j:Nat) z g,j≠k->Jp[j]? = some z->z.ownBlock=some g->y.ownBlock≠some g:=by
  intro j z g hj e1 e2 e3
  rcases hblk with h | h
  ·exact hj (S.inj j k z x g e1 hx e2 (h.symm.trans e3))
  ·rw [h] at e3
   have:=Option.some.inj e3
   obtain ⟨f2,-,h2⟩:=S.get e1
   have:=(h2.lt g e2).2
   omega
 refine ⟨⟨S.bel.grown hg S.bel.size (fun g e=>(hxl g e).1),him,S.le,S.new,S.no,by simp [S.len],fun j f2 z e1 e2=>?_,fun j z g e1 e2=>?_,fun j j' z z' g e1 e2 e3 e4=>?_⟩,World.ownsRow.kept S.row hg ?_⟩
 ·rcases hget e2 with ⟨rfl,rfl⟩ | ⟨hj,e2⟩
  ·rw [List.getElem?_set,if_pos rfl,if_pos (by rw [<- S.len];exact hk)] at e1
   have:=Option.some.inj e1
   subst this
   exact hy
  ·rw [List.getElem?_set,if_neg (fun e=>hj e.symm)] at e1
   exact (S.fr j f2 z e1 e2).grow hg (fun g e e3=>hj (S.inj j k z x g e2 hx e3 e)) (fun _ _ _ e=>e) (JG.refl _ _)
 ·rcases hget e1 with ⟨rfl,rfl⟩ | ⟨hj,e1⟩
  ·rcases hblk with h | h
   ·exact S.off j x g hx (h.symm.trans e2)
   ·rw [h] at e2
    have:=Option.some.inj e2
    intro e
    have:=(World.ownsRow.lt S.row g e).2
    omega
  ·exact S.off j z g e1 e2
 ·rcases hget e1 with ⟨h1,d1⟩ | ⟨h1,d1⟩ <;> rcases hget e2 with ⟨h2,d2⟩ | ⟨h2,d2⟩
  ·omega
  ·rw [d1] at e3;exact absurd e3 (hne j' z' g h2 d2 e4)
  ·rw [d2] at e4;exact absurd e4 (hne j z g h1 d1 e3)
  ·exact S.inj j j' z z' g d1 d2 e3 e4
 ·cases e:v.ownBlock with
  | none=>exact .inl rfl
  | some g=>exact .inr (fun e2=>S.off k x g hx e2.symm e)
theorem KF.store {w0 M0 r v Jp w M} (S:KF w0 M0 r v Jp w M) {g:Nat} {w':World} (hv:v.ownBlock=some g) (hg:w.grownBy w' (some g)) (hgl:w0.heap.size<=g):KF w0 M0 r v Jp w' M:=
 ⟨S.bel.grown hg S.bel.size (fun k e=>by have:=Option.some.inj e;omega),yG S.imm hg (S.no g hv),S.le,S.new,S.no,S.len,
   fun j f x e1 e2=>(S.fr j f x e1 e2).grow hg (fun k e e3=>S.off j x g e2 (by rw [e3];exact e.symm) hv) (fun _ _ _ e=>e) (JG.refl _ _),S.off,S.inj⟩
structure AppOk (r:List (List Input)) (k:Nat) (ins:List Input):Prop where
 lt:k<4096
 val:jy r=some 0
 all:Ju ins=some true
 at_:∃ x,yg r (k:Int)=some x/\x.length+ins.length<=32
 cr:∀ f∈r,(∀ x∈f,yT x=some x)/\f.length<=1048576
 ci:(∀ x∈ins,yT x=some x)/\ins.length<=1048576
 len:r.length<=4096
theorem wS {P:Program} {o:Oper} {Q:Exit->Act->World->Prop} {K:Act->World->Prop} {a:Act} {w:World} {ty:TypeId} {t z:Operand} {b off:Nat} {v:Value} {arr:List Value} {T:TypeId} (e:o.op=.store ty t z) (ht:a.eval t=.pointer (some ⟨b,off,none⟩)) (hz:a.eval z=v) (hv:v.cells=#[v]) (hs:tSz P ty=some 1)
 (hb:w.heap[b]? = some (.cells arr.toArray T (0,0))) (hfit:off<arr.length) (h1:v.oneCell'=true)
 (h:∀ w',w'.heap[b]? = some (.cells (arr.set off v).toArray T (0,0))->w.grownBy w' (some b)->K (a.put o.dst undef) w'):o.wp P a w K Q:=by
 have hst:=run_storeCells_at P b off T [v] 0 arr.toArray w hb (by simp;omega) (by simpa using h1)
 simp only [Nat.add_zero] at hst
 have he:(arr.take off++[v]++arr.drop (off+[v].length))=arr.set off v:=by
  rw [List.set_eq_take_append_cons_drop,if_pos hfit];simp
 have r2:(execOp a.eval o).run P w=.ok .skip (w.setRow b (arr.set off v).toArray):=by
  have hst:Sem.run P (storeCells ⟨b,off,none⟩ [v]) w=Result.ok () (w.setRow b (arr.set off v).toArray):=by rw [<- he];exact hst
  simp [execOp,e,ht,hz,Instr.storeAt,Instr.sureAddr,storeVar,jr hs,hv,hst]
 unfold Oper.wp
 rw [r2]
 exact h _ (setRow_heap w b _ _ T (0,0) hb) ⟨rfl,rfl,rfl,by simp,fun k _ hk=>setRow_other w b k _ (fun e=>hk (by rw [e]))⟩
theorem xh {P:Program} {o:Oper} {Q:Exit->Act->World->Prop} {K:Act->World->Prop} {a:Act} {w w':World} {s x:Operand} {t:TypeId} {vs vx y:Value}
 (e:o.op=.call { callee:=.builtin .append,args:=#[s,x],argTypes:=#[t,t] }) (hs:a.eval s=vs) (hx:a.eval x=vx) (hr:(Builtin.append_ #[t,t] o.type #[vs,vx]).run P w=.ok y w') (hk:K (a.put o.dst y) w'):o.wp P a w K Q:=by
 unfold Oper.wp execOp
 simp only [e,resolve,invoke,builtin,Sem.run_bind,Sem.run_pure,Result.andThen_ok,List.map_toArray,List.map_cons,List.map_nil,hs,hx,hr]
 exact hk
structure JJ (w3:World) (M:Mem) (R:List (List Input)) (V:Value) (Jp:List Value) (M':Mem) (k:Nat) (fr ins:List Input) (f:Nat->Bool) (a:Act) (w:World):Prop where
 o1:f 8=true->f 5=true
 o2:f 10=true->f 8=true
 A:f 7=false->f 8=false->KL w3 M R V Jp w M'
 B:f 7=true->f 8=false->∃ c B M2,a.tmps[49]? = some c/\KL w3 M R V Jp w M2/\IR B M2 ins c w
 C:f 8=true->f 10=false->∃ y M2,a.tmps[50]? = some y/\y.oneCell'=true/\y.cells=#[y]/\KF w3 M (R.set k (fr++ins)) V (Jp.set k y) w M2/\w.ownsRow w3.heap.size 51 1 V R.length Jp
 D:f 10=true->∃ y M2,KL w3 M (R.set k (fr++ins)) V (Jp.set k y) w M2
 o3:f 8=true->f 7=true
theorem JJ.act {w3 M R V Jp M' k fr ins f a w} (h:JJ w3 M R V Jp M' k fr ins f a w) {a':Act} (h1:a.tmps[49]? = a'.tmps[49]?) (h2:a.tmps[50]? = a'.tmps[50]?):JJ w3 M R V Jp M' k fr ins f a' w:=
 ⟨h.o1,h.o2,h.A,fun x y=>by rw [<- h1];exact h.B x y,fun x y=>by rw [<- h2];exact h.C x y,h.D,h.o3⟩
theorem JJ.pure {w3 M R V Jp M' k fr ins f a w} (h:JJ w3 M R V Jp M' k fr ins f a w) (i:Nat) (h7:i≠7) (h8:i≠8) (h10:i≠10):JJ w3 M R V Jp M' k fr ins (fun j=>if j=i then true else f j) a w:=by
 have e7:(if 7=i then true else f 7)=f 7:=if_neg (fun e=>h7 e.symm)
 have e8:(if 8=i then true else f 8)=f 8:=if_neg (fun e=>h8 e.symm)
 have e10:(if 10=i then true else f 10)=f 10:=if_neg (fun e=>h10 e.symm)
 refine ⟨fun x=>?_,fun x=>?_,fun x y=>?_,fun x y=>?_,fun x y=>?_,fun x=>?_,fun x=>?_⟩
 ·have:=h.o1 (e8.symm.trans x)
  show (if 5=i then true else f 5)=true
  rw [this];split <;> rfl
 ·exact e8.trans (h.o2 (e10.symm.trans x))
 ·exact h.A (e7.symm.trans x) (e8.symm.trans y)
 ·exact h.B (e7.symm.trans x) (e8.symm.trans y)
 ·exact h.C (e8.symm.trans x) (e10.symm.trans y)
 ·exact h.D (e10.symm.trans x)
 ·exact e7.trans (h.o3 (e8.symm.trans x))
theorem KL.jal {w w3:World} {M r v Jp w' M'} (h:KL w3 M r v Jp w' M') (hb:Below w.heap.size w w3):KL w M r v Jp w' M':=by
 refine ⟨hb.trans (h.bel.mono hb.size),h.imm,h.le,fun b o u e=>(h.new b o u e).imp id (fun e=>Nat.le_trans hb.size e),?_,h.no,h.len,fun j f x e1 e2=>(h.fr j f x e1 e2).mono hb.size,h.off,h.inj⟩
 obtain ⟨h1,h2⟩:=h.row
 refine ⟨h1,?_⟩
 rcases h2 with h2 | ⟨g,cap,cur,q1,q2,q3⟩
 ·exact .inl h2
 ·exact .inr ⟨g,cap,cur,q1,Nat.le_trans hb.size q2,q3⟩
theorem KL.slice {w0 M0 r v Jp w M} (h:KL w0 M0 r v Jp w M):∃ a c,v=.slice a r.length c:=by
 rcases h.row.2 with ⟨rfl,e⟩ | ⟨g,cap,cur,rfl,-⟩
 ·exact ⟨none,0,by rw [e]⟩
 ·exact ⟨_,_,rfl⟩
set_option maxHeartbeats 8000000 in
theorem pd (r : List (List Input)) (k:Nat) (ins:List Input) (H:AppOk r k ins) (M:Mem) (vr vi:Value) (w:World) (hi:Imm M w) (hr:Rep M je (jw r) vr) (hri:Rep M je (jE ins) vi):
 Calls Tryz.prog 26 #[vr,.int .i64 (k:Int),vi] w fun e w'=>∃ v,e=.returned (.tuple #[v,.int .i64 0])/\∃ Jp M',KL w M ((jcy r k).set k ((jcy r k).getD k []++ins)) v Jp w' M':=by
 obtain ⟨x28,hI,hlen⟩:=H.at_
 have hk:=H.lt
 have e18:=Tryz.call18
 have e48:=Tryz.call48
 have e28:=Tryz.call28
 have e62:=Tryz.call62
 have e63:=Tryz.call63
 have h18:FnR Tryz.prog 18 [jw r] (.v (.int .i64 0)) []:=jcC.ok (r,()) [jw r] (0:Int) ⟨rfl,trivial⟩ H.val
 have h48:FnR Tryz.prog 48 [jE ins] (.v (.bool true)) []:=c_48.ok (ins,()) [jE ins] true ⟨rfl,trivial⟩ H.all
 have h28:FnR Tryz.prog 28 [jw r,.v (.int .i64 (k:Int))] (jE x28) []:=c_28.ok (r,(k:Int),()) [jw r,.v (.int .i64 (k:Int))] x28 ⟨rfl,rfl,trivial⟩ hI
 obtain ⟨ia,ic,rfl,-⟩:=ui hri
 obtain ⟨ra,rc,rfl,-⟩:=jak hr
 have k18:=Zv h18 w [.slice ra r.length rc] (.cons (hr.mono (qU hi)) .nil)
 have p0:(0:Int)<=(k:Int):=by omega
 have p1:¬ ((k:Int)<0):=by omega
 have p2:¬ ((k:Int)>=4096):=by omega
 have HH:Hid (_/\_/\_/\_/\_/\_):=⟨hi,hr,hri,h48,h28,H⟩
 obtain ⟨i51,a1,a2,a3,a4⟩:=info_parts (P:=Tryz.prog) (e:=51) (z:=.slice none 0 0) (size:=1) (bytes:=24) (by kernel_rfl)
 obtain ⟨i77,b1,b2,b3,b4⟩:=info_parts (P:=Tryz.prog) (e:=77) (z:=.agg inZ.toArray) (size:=49) (bytes:=384) (by kernel_rfl)
 have H51:Hid (_/\_/\_/\_):=⟨a1,a2,a3,a4⟩
 have H77:Hid (_/\_/\_/\_):=⟨b1,b2,b3,b4⟩
 clear a1 a2 a3 a4 b1 b2 b3 b4 hi hr hri h18 h48 h28 hI H
 go_enter Tryz.func26,Tryz.ntmps26
 go_upto_region 9 with (first
  | (go_at_call 18;refine k18.mono ?_;rintro e w1 ⟨rfl,hb1⟩;have S1:Hid (Below w.heap.size w w1):=hb1
     have k48:=Zv HH.out.2.2.2.1 w1 [.slice ia ins.length ic] (.cons (HH.out.2.2.1.mono (qU (HH.out.1.below hb1))) .nil)
     clear hb1 k18)
  | (go_at_call 48;refine k48.mono ?_;rintro e w2 ⟨rfl,hb2⟩;have S2:Hid (Below w.heap.size w w2):=S1.out.trans (hb2.mono S1.out.size)
     have k28:=QE HH.out.2.2.2.2.1 w2 [.slice ra r.length rc,.int .i64 (k:Int)] (.cons (HH.out.2.1.mono (qU (HH.out.1.below S2.out))) (.cons .v .nil))
     clear hb2 k48)
  | (go_at_call 28;refine k28.mono ?_;rintro e w3 ⟨v3,rfl,hb3,hr3⟩
     obtain ⟨ya,yc,rfl,-⟩:=ui hr3
     have S3:Hid (Below w.heap.size w w3):=S2.out.trans (hb3.mono S2.out.size)
     have wl:IntKind.i64.wrap ((x28.length:Int)+(ins.length:Int))=((x28.length+ins.length:Nat):Int):=by rw [IntKind.wrap_i64];omega
     have wg:¬ (((x28.length+ins.length:Nat):Int)>32):=by omega
     clear hb3 hr3 k28))
 have k62:=jbY r (fun f hf=>⟨(HH.out.2.2.2.2.2.cr f hf).1,by have:=(HH.out.2.2.2.2.2.cr f hf).2;omega⟩) (by have:=HH.out.2.2.2.2.2.len;omega) M (.slice ra r.length rc) w3 (HH.out.1.below S3.out) HH.out.2.1
 go_wp2_with (first
  | (go_at_call 62;refine k62.mono ?_;rintro e w4 ⟨v4,rfl,vals4,M4,K4⟩
     have S4:Hid (KL w3 M r v4 vals4 w4 M4):=K4
     clear K4 k62))
 obtain ⟨K0,hK0⟩:∃ K0,K0=KL w3 M:=⟨_,rfl⟩
 go_loopg [8] (k+1) (fun kx s8 wr=>∃ (n:Nat) (Jp:List Value) (M':Mem) (a:Option Addr) (c:Nat),s8=.slice a n c/\r.length<=n/\(n=r.length\/n<=k+1)/\k+1 - n<=kx/\Aside (K0 (r++List.replicate (n - r.length) []) s8 Jp wr M'))
 case atStart=>
  subst hK0
  obtain ⟨a,c,rfl⟩:=S4.out.slice
  exact ⟨r.length,vals4,M4,a,c,rfl,Nat.le_refl _,.inl rfl,by omega,by rw [Nat.sub_self,List.replicate_zero,List.append_nil];exact S4.out⟩
 case round=>
  obtain ⟨n,Jp,M',a,c,rfl,hrn,hn,hkx,S⟩:=hrel
  subst hK0
  have S5:Hid (KL w3 M (r++List.replicate (n - r.length) []) (.slice a n c) Jp wr M'):=S
  have hrl:(r++List.replicate (n - r.length) ([]:List Input)).length=n:=by rw [List.length_append,List.length_replicate];omega
  have HL:Hid (_):=hrl
  clear S S4 hrl
  by_cases hlt:(n:Int)<=(k:Int)
  ·go_wp2_with (first
    | (at_builtin
       have hx:=S5.out.row
       rw [HL.out] at hx
       refine Jc rfl (.tmp 39) (.tmp 40) 23 rfl w3.heap.size 51 i51 (.slice none 0 0) 1 24 Tryz.underlying23 H51.out.1 H51.out.2.1 H51.out.2.2.1 H51.out.2.2.2 rfl (by decide) (.slice a n c) n Jp rfl (vu hx ((Below.refl _ _).alloc (Nat.le_refl _) _)) ⟨wr.heap.size,0,none⟩ 1 1 [.slice none 0 0] rfl rfl (Yy wr [.slice none 0 0] 51 _ rfl) (by intro u hu;simp at hu;subst hu;rfl) (by simp [maxLen];omega) (by omega) (by have:=S5.out.bel.size;simp;omega) (by decide) ?_
       intro v6 w6 hown6 hgrow6 hblk6
       have S6:Hid (KL w3 M (r++List.replicate (n - r.length) []++[[]]) v6 (Jp++[.slice none 0 0]) w6 M'):=S5.out.append (IR.nil _ _ _) (by simp [Value.ownBlock]) (by rw [HL.out];exact hown6) hgrow6 hblk6
       clear hown6 hgrow6 hblk6 hx))
   go_roundg (k+1 - (n+1))
   case measure=>omega
   case rel=>
    obtain ⟨a6,c6,h6⟩:=S6.out.slice
    have h7:(r++List.replicate (n - r.length) ([]:List Input)++[[]]).length=n+1:=by rw [List.length_append,HL.out];rfl
    rw [h7] at h6
    have h8:r++List.replicate (n+1 - r.length) ([]:List Input)=r++List.replicate (n - r.length) []++[[]]:=by
     rw [List.append_assoc,Nat.succ_sub hrn,List.replicate_succ']
    refine ⟨n+1,Jp++[.slice none 0 0],M',a6,c6,h6,by omega,by omega,by omega,?_⟩
    rw [h8];exact S6.out
  ·have hpad:r++List.replicate (n - r.length) []=jcy r k:=by
    unfold jcy
    have:n - r.length=k+1 - r.length:=by omega
    rw [this]
   have hkn:k<n:=by omega
   go_wp2
   have S6:Hid (KL w3 M (jcy r k) (.slice a n c) Jp wr M'):=by rw [<- hpad];exact S5.out
   have hRn:(jcy r k).length=n:=by rw [<- hpad];exact HL.out
   obtain ⟨R,hR⟩:∃ R,R=jcy r k:=⟨_,rfl⟩
   rw [<- hR] at S6 hRn
   have hlen2:=S6.out.len
   obtain ⟨fr,hfr⟩:∃ fr,R[k]? = some fr:=⟨_,List.getElem?_eq_getElem (by omega)⟩
   obtain ⟨xv,hxv⟩:∃ xv,Jp[k]? = some xv:=⟨_,List.getElem?_eq_getElem (by omega)⟩
   obtain ⟨g,rfl,hrow⟩:∃ g,a=some ⟨g,0,none⟩/\w3.heap.size<=g/\n<=c:=by
    rcases S6.out.row.2 with ⟨-,e0⟩ | ⟨g,cap,cur,e,h1,h2,h3,-⟩
    ·omega
    ·cases e;exact ⟨g,rfl,h1,by omega⟩
   have hlens:=HH.out.2.2.2.2.2.ci.2
   have hfrl:fr.length<=1048576:=by
    rw [hR] at hfr
    have hm:=List.mem_of_getElem? hfr
    rcases List.mem_append.1 hm with h | h
    ·exact (HH.out.2.2.2.2.2.cr fr h).2
    ·have:=List.eq_of_mem_replicate h;rw [this];simp
   have hset:(jcy r k).getD k []=fr:=by rw [<- hR,List.getD_eq_getElem?_getD,hfr];rfl
   have HS:Hid (_/\_):=⟨hR,hset⟩
   have HX:Hid (_/\_/\_/\_/\_/\_/\_):=⟨hfr,hxv,hRn,hlen2,hlens,hfrl,hrow⟩
   have u51:=Tryz.underlying51
   have u23:=Tryz.underlying23
   have z51:=Tryz.sizeOf51
   have H0:Hid (k<n):=hkn
   have iR:Rep M je (jE ins) (.slice ia ins.length ic):=HH.out.2.2.1
   have hci:∀ x∈ins,yT x=some x:=HH.out.2.2.2.2.2.ci.1
   have HC:Hid (_/\_):=⟨iR,hci⟩
   have hB3:Hid (Below w.heap.size w w3):=S3
   have HE:Hid (_/\_/\_):=⟨e63,H51.out,H77.out⟩
   clear hfr hxv hRn hlen2 hlens hfrl hrow hset iR hci hpad hR hn hrn hkx hlen e18 e48 e28 e62 e63 hlt
   refine KQ qT 11 (fun i=>i==7||i==8||i==10) (fun i=>42+i) (fun i=>match i with | 0=>.slice (some ⟨g,0,none⟩) n c | 1=>.int .i64 (k:Int) | 2=>.slice (some ⟨g,0,none⟩) n c | 3=>.int .i64 (k:Int) | 4=>.pointer (some ⟨g,k,none⟩) | 5=>xv | 6=>.slice ia ins.length ic | 9=>.pointer (some ⟨g,k,none⟩) | _=>undef) (JJ w3 M R (.slice (some ⟨g,0,none⟩) n c) Jp M' k fr ins) rfl ?_ ?_ ?_ ?_ ?_ ?_ ?_
   ·intro i o ho
    match i with
    | 0=>cases ho;simp [Region.binds]
    | 1=>cases ho;simp [Region.binds]
    | 2=>cases ho;simp [Region.binds]
    | 3=>cases ho;simp [Region.binds]
    | 4=>cases ho;simp [Region.binds]
    | 5=>cases ho;simp [Region.binds]
    | 6=>cases ho;simp [Region.binds]
    | 7=>cases ho;simp [Region.binds]
    | 8=>cases ho;simp [Region.binds]
    | 9=>cases ho;simp [Region.binds]
    | 10=>cases ho;simp [Region.binds]
    | j+11=>simp at ho
   ·exact ⟨by simp,by simp,fun _ _=>S6.out.Xa ((Below.refl _ _).drew),by simp,by simp,by simp,by simp⟩
   ·intro f a a' w' h hj
    exact hj.act (h 7 (by decide) rfl) (h 8 (by decide) rfl)
   ·intro i op hi hst ho
    match i,hi,hst with
    | 0,_,_=>
      cases ho
      refine ⟨rfl,rfl,by simp,fun ac f w' hj hf hdp hd hr=>?_⟩
      have r8:ac.tmps[8]? = some (.slice (some ⟨g,0,none⟩) n c):=(hr 8 (by intro i _;show 42+i≠8;omega)).trans rfl
      exact ⟨by simp [Oper.quietAt,Oper.quietUpon,execOp,r8,go_sem],hj.pure 0 (by decide) (by decide) (by decide)⟩
    | 1,_,_=>
      cases ho
      refine ⟨rfl,rfl,by simp,fun ac f w' hj hf hdp hd hr=>?_⟩
      have r8:ac.tmps[1]? = some (.int .i64 (k:Int)):=(hr 1 (by intro i _;show 42+i≠1;omega)).trans rfl
      exact ⟨by simp [Oper.quietAt,Oper.quietUpon,execOp,r8,go_sem],hj.pure 1 (by decide) (by decide) (by decide)⟩
    | 2,_,_=>
      cases ho
      refine ⟨rfl,rfl,by simp,fun ac f w' hj hf hdp hd hr=>?_⟩
      have r8:ac.tmps[8]? = some (.slice (some ⟨g,0,none⟩) n c):=(hr 8 (by intro i _;show 42+i≠8;omega)).trans rfl
      exact ⟨by simp [Oper.quietAt,Oper.quietUpon,execOp,r8,go_sem],hj.pure 2 (by decide) (by decide) (by decide)⟩
    | 3,_,_=>
      cases ho
      refine ⟨rfl,rfl,by simp,fun ac f w' hj hf hdp hd hr=>?_⟩
      have r8:ac.tmps[1]? = some (.int .i64 (k:Int)):=(hr 1 (by intro i _;show 42+i≠1;omega)).trans rfl
      exact ⟨by simp [Oper.quietAt,Oper.quietUpon,execOp,r8,go_sem],hj.pure 3 (by decide) (by decide) (by decide)⟩
    | 4,_,_=>
      cases ho
      refine ⟨rfl,rfl,by simp,fun ac f w' hj hf hdp hd hr=>?_⟩
      have r44:ac.tmps[44]? = some (.slice (some ⟨g,0,none⟩) n c):=hd ⟨2,.data⟩ (by simp) rfl rfl
      have r45:ac.tmps[45]? = some (.int .i64 (k:Int)):=hd ⟨3,.data⟩ (by simp) rfl rfl
      have hkn:k<n:=H0.out
      have hkn':(k:Int)<(n:Int):=by omega
      exact ⟨by simp [Oper.quietAt,Oper.quietUpon,execOp,r44,r45,go_sem,u23,z51,p0,hkn,hkn'],hj.pure 4 (by decide) (by decide) (by decide)⟩
    | 5,_,_=>
      cases ho
      refine ⟨rfl,rfl,by simp,fun ac f w' hj hf hdp hd hr=>?_⟩
      have r46:ac.tmps[46]? = some (.pointer (some ⟨g,k,none⟩)):=hd ⟨4,.data⟩ (by simp) rfl rfl
      have hrow:w'.ownsRow w3.heap.size 51 1 (.slice (some ⟨g,0,none⟩) n c) R.length Jp:=by
       have h8:f 8=false:=by
        cases e:f 8 with
        | false=>rfl
        | true=>have:=hj.o1 e;have hf:f 5=false:=hf;rw [hf] at this;cases this
       cases e7:f 7 with
       | false=>exact (hj.A e7 h8).row
       | true=>
         obtain ⟨c',B,M2,-,h,-⟩:=hj.B e7 h8
         exact h.row
      have hcl:w'.cell? ⟨g,k,none⟩=some xv:=by
       rcases hrow.2 with ⟨e,-⟩ | ⟨g',cap,cur,e,h1,h2,h3,h4,h5,h6⟩
       ·cases e
       ·cases e
        rw [Ji h2,<- Array.getElem?_toList]
        have:=HX.out.2.1
        rw [<- h6,List.getElem?_take_of_lt (by rw [HX.out.2.2.1];have:=H0.out;omega)] at this
        exact this
      exact ⟨qz rfl (ev r46) (by kernel_rfl) hcl,hj.pure 5 (by decide) (by decide) (by decide)⟩
    | 6,_,_=>
      cases ho
      refine ⟨rfl,rfl,by simp,fun ac f w' hj hf hdp hd hr=>?_⟩
      have r8:ac.tmps[2]? = some (.slice ia ins.length ic):=(hr 2 (by intro i _;show 42+i≠2;omega)).trans rfl
      exact ⟨by simp [Oper.quietAt,Oper.quietUpon,execOp,r8,go_sem],hj.pure 6 (by decide) (by decide) (by decide)⟩
    | 7,_,h=>exact absurd h (by decide)
    | 8,_,h=>exact absurd h (by decide)
    | 9,_,_=>
      cases ho
      refine ⟨rfl,rfl,by simp,fun ac f w' hj hf hdp hd hr=>?_⟩
      have r42:ac.tmps[42]? = some (.slice (some ⟨g,0,none⟩) n c):=hd ⟨0,.data⟩ (by simp) rfl rfl
      have r43:ac.tmps[43]? = some (.int .i64 (k:Int)):=hd ⟨1,.data⟩ (by simp) rfl rfl
      have hkn:k<n:=H0.out
      have hkn':(k:Int)<(n:Int):=by omega
      exact ⟨by simp [Oper.quietAt,Oper.quietUpon,execOp,r42,r43,go_sem,u23,z51,p0,hkn,hkn'],hj.pure 9 (by decide) (by decide) (by decide)⟩
    | 10,_,h=>exact absurd h (by decide)
    | j+11,h,_=>exact absurd h (by omega)
   ·intro i i' _ _ h
    have h:42+i=42+i':=h
    omega
   ·intro i op hi hst ho
    match i,hi,hst with
    | 7,_,_=>
      cases ho
      refine ⟨rfl,.inl rfl,fun ac f w' hsz hj hf hdp hd hr K hK=>?_⟩
      have r48:ac.tmps[48]? = some (.slice ia ins.length ic):=hd 6 (by decide) rfl (hdp ⟨6,.data⟩ (by simp) rfl)
      have h8:f 8=false:=by
       cases e:f 8 with
       | false=>rfl
       | true=>have:=hj.o3 e;have hf:f 7=false:=hf;rw [hf] at this;cases this
      have hA:=hj.A hf h8
      refine jfG (f:=63) (vs:=#[.slice ia ins.length ic]) rfl HE.out.1 (by simp [Act.eval,r48]) ((VM ins HC.out.2 (by have:=HX.out.2.2.2.2.1;omega) M' (.slice ia ins.length ic) w' hA.imm (HC.out.1.mono hA.le)).mono ?_)
      rintro e w2 ⟨v2,M2,rfl,L2⟩
      refine ⟨v2,rfl,hK v2 w2 ⟨?_,?_,?_,?_,?_,?_,?_⟩⟩
      ·intro h;have h:f 8=true:=h;rw [h8] at h;cases h
      ·intro h;have h:f 10=true:=h;have:=hj.o2 h;rw [h8] at this;cases this
      ·intro h;cases h
      ·intro _ _
       exact ⟨v2,_,M2,put_eq (by rw [hsz];simp),hA.go L2.bel L2.imm L2.le L2.new,L2.row⟩
      ·intro h;have h:f 8=true:=h;rw [h8] at h;cases h
      ·intro h;have h:f 10=true:=h;have:=hj.o2 h;rw [h8] at this;cases this
      ·intro h;have h:f 8=true:=h;rw [h8] at h;cases h
    | 8,_,_=>
      cases ho
      refine ⟨rfl,.inl rfl,fun ac f w' hsz hj hf hdp hd hr K hK=>?_⟩
      have f5:f 5=true:=hdp ⟨5,.data⟩ (by simp) rfl
      have f7:f 7=true:=hdp ⟨7,.data⟩ (by simp) rfl
      have r47:ac.tmps[47]? = some xv:=hd 5 (by decide) rfl f5
      obtain ⟨c',B,M2,r49,hB,hIR⟩:=hj.B f7 hf
      have h10:f 10=false:=by
       cases e:f 10 with
       | false=>rfl
       | true=>have:=hj.o2 e;have hf:f 8=false:=hf;rw [hf] at this;cases this
      obtain ⟨y,w2,hrun,hy,hg2,hblk,him⟩:=KU (P:=Tryz.prog) i77 u51 HE.out.2.2.1 HE.out.2.2.2.1 HE.out.2.2.2.2.1 HE.out.2.2.2.2.2 (hB.fr k fr xv HX.out.1 HX.out.2.1) hIR hB.imm (by have:=HX.out.2.2.2.2.1;have:=HX.out.2.2.2.2.2.1;omega) hB.bel.size
      obtain ⟨hk1,hk2⟩:=hB.upd HX.out.1 HX.out.2.1 hy hg2 hblk him
      obtain ⟨ya,yn,yc,rfl⟩:=hy.slice
      refine xh rfl (ev r47) (ev r49) hrun (hK _ w2 ⟨?_,?_,?_,?_,?_,?_,?_⟩)
      ·intro _;exact f5
      ·intro h;have h:f 10=true:=h;rw [h10] at h;cases h
      ·intro h;have h:f 7=false:=h;rw [f7] at h;cases h
      ·intro _ h;cases h
      ·intro _ _
       exact ⟨_,M2,put_eq (by rw [hsz];simp),rfl,rfl,hk1,hk2⟩
      ·intro h;have h:f 10=true:=h;rw [h10] at h;cases h
      ·intro _;exact f7
    | 10, _,_=>
      cases ho
      refine ⟨rfl,.inr rfl,fun ac f w' hsz hj hf hdp hd hr K hK=>?_⟩
      have f8:f 8=true:=hdp ⟨8,.data⟩ (by simp) rfl
      have r51:ac.tmps[51]? = some (.pointer (some ⟨g,k,none⟩)):=hd 9 (by decide) rfl (hdp ⟨9,.data⟩ (by simp) rfl)
      obtain ⟨y,M2,r50,y1,y2,hk1,hk2⟩:=hj.C f8 hf
      rcases hk2.2 with ⟨e,-⟩ | ⟨g',cap,cur,e,h1,h2,h3,h4,h5,h6⟩
      ·cases e
      ·cases e
       have hkn:=H0.out
       have hcl:k<cur.toList.length:=by rw [Array.length_toList,h5];omega
       refine wS (arr:=cur.toList) rfl (ev r51) (ev r50) y2 (by kernel_rfl) (by simpa using h2) hcl y1 fun w2 hw2 hg2=>hK _ w2 ?_
       have hkf:=hk1.store (g:=g) rfl hg2 h1
       have hown:w2.ownsRow w3.heap.size 51 1 (.slice (some ⟨g,0,none⟩) R.length c) (R.set k (fr++ins)).length (Jp.set k y):=by
        refine ⟨by rw [List.length_set,List.length_set];exact hk2.1,.inr ⟨g,c,(cur.toList.set k y).toArray,by rw [List.length_set],h1,hw2,by rw [List.length_set];exact h3,h4,by simpa using h5,?_⟩⟩
        rw [List.length_set]
        show (cur.toList.set k y).take _=_
        rw [List.take_set,h6]
       refine ⟨fun _=>hj.o1 f8,fun _=>f8,?_,?_,?_,fun _=>⟨y,M2,hkf.kl hown⟩,fun _=>hj.o3 f8⟩
       ·intro _ h;have h:f 8=false:=h;rw [f8] at h;cases h
       ·intro _ h;have h:f 8=false:=h;rw [f8] at h;cases h
       ·intro _ h;cases h
    | 0,_,h=>exact absurd h (by decide)
    | 1,_,h=>exact absurd h (by decide)
    | 2,_,h=>exact absurd h (by decide)
    | 3,_,h=>exact absurd h (by decide)
    | 4,_,h=>exact absurd h (by decide)
    | 5,_,h=>exact absurd h (by decide)
    | 6,_,h=>exact absurd h (by decide)
    | 9,_,h=>exact absurd h (by decide)
    | j+11,h,_=>exact absurd h (by omega)
   ·intro f ac w5 hj hall hdf hsz hvals hrest
    obtain ⟨tm,dfr⟩:=ac
    have e1:dfr=_:=hdf
    have hsz':tm.size=53:=hsz
    obtain ⟨u49,h49⟩:∃ u,tm[49]? = some u:=⟨_,Array.getElem?_eq_getElem (by omega)⟩
    obtain ⟨u50,h50⟩:∃ u,tm[50]? = some u:=⟨_,Array.getElem?_eq_getElem (by omega)⟩
    obtain ⟨u52,h52⟩:∃ u,tm[52]? = some u:=⟨_,Array.getElem?_eq_getElem (by omega)⟩
    have e2:=zM [(42,.slice (some ⟨g,0,none⟩) n c),(43,.int .i64 (k:Int)),(44,.slice (some ⟨g,0,none⟩) n c),(45,.int .i64 (k:Int)),(46,.pointer (some ⟨g,k,none⟩)),(47,xv),(48,.slice ia ins.length ic),(49,u49),(50,u50),(51,.pointer (some ⟨g,k,none⟩)),(52,u52)] _ tm hsz rfl rfl
     ⟨hvals 0 (by decide) rfl,hvals 1 (by decide) rfl,hvals 2 (by decide) rfl,hvals 3 (by decide) rfl,hvals 4 (by decide) rfl,hvals 5 (by decide) rfl,hvals 6 (by decide) rfl,h49,h50,hvals 9 (by decide) rfl,h52,trivial⟩ (fun j hj=>hrest j (fun i hi e=>hj (by
       have e:42+i=j:=e
       subst e
       simp
       omega)))
    simp only [List.foldl_cons,List.foldl_nil,List.setIfInBounds_toArray,List.set_cons_succ,List.set_cons_zero] at e1 e2
    subst e1
    subst e2
    obtain ⟨y,M2,hK⟩:=hj.D (hall 10 (by decide))
    have HK:Hid (KL w M (R.set k (fr++ins)) (.slice (some ⟨g,0,none⟩) n c) (Jp.set k y) w5 M2):=hK.jal hB3.out
    clear hj hall hvals hrest hsz hdf hsz' h49 h50 h52 hK
    go_wp2
    go_ret2
    refine ⟨_,rfl,Jp.set k y,M2,?_⟩
    rw [HS.out.2,<- HS.out.1]
    exact HK.out
def Uf (B:Nat) (M':Mem) (w':World):Mem:=fun b o=>if B<=b then w'.cell? ⟨b,o,none⟩ else M' b o
theorem Xx {B:Nat} {M':Mem} {w':World} (hi:Imm M' w'):Mem.le M' (Uf B M' w'):=fun b o u e=>by
 unfold Uf
 by_cases h:B<=b
 ·rw [if_pos h];exact hi b o u e
 ·rw [if_neg h];exact e
theorem FnR.ofMix [GlC] {P:Program} {f:FuncId} {args:List AV} {r:AV}
 (H:∀ (w:World) (m:Mem) (vs:List Value),Imm m w->Jq m je args vs->Calls P f vs.toArray w fun e w'=>∃ v,e=.returned v/\∃ M',Below w.heap.size w w'/\Imm M' w'/\Mem.le m M'/\JG m M' w.heap.size/\Rep (Uf w.heap.size M' w') je r v):FnR P f args r []:=by
 intro w m vs hgl hi hr
 refine (H w m vs hi hr).mono ?_
 rintro e w' ⟨v,he,M',hb,him,hle,hn,hv⟩
 refine ⟨v,Uf w.heap.size M' w',je,he,hb,⟨?_,?_,?_,?_,?_,?_,?_,hgl⟩,fun _ _=>rfl,hv⟩
 ·intro b o v e
  unfold Uf at e
  by_cases h:w.heap.size<=b
  ·rw [if_pos h] at e;exact e
  ·rw [if_neg h] at e;exact him b o v e
 ·exact fun b o v e=>Xx him b o v (hle b o v e)
 ·intro b o v e
  unfold Uf at e
  by_cases h:w.heap.size<=b
  ·exact .inr h
  ·rw [if_neg h] at e;exact hn b o v e
 ·intro id l h;simp [find] at h
 ·intro id s p h;simp [find] at h
 ·intro id b n h;simp [je] at h
 ·intro id id' b n n' h;simp [je] at h
theorem jaj {w:World} {base B:Nat} {M:Mem} {e:TypeId} {size:Nat} {v:Value} {n:Nat} {xs:List Value} (h:w.ownsRow base e size v n xs) (hB:B<=base) {l:List AV} (hl:l.length=n) (hsz:∀ x∈l,x.cells.length=size) (hr:Jq (Uf B M w) je (l.flatMap AV.cells) xs) (h1:∀ c∈xs,jA c=true):
 Rep (Uf B M w) je (.sl false size l) v:=by
 obtain ⟨hlen,⟨rfl,h0⟩ | ⟨g,cap,cur,rfl,q1,q2,q3,q4,q5,q6⟩⟩:=h
 ·have:l=[]:=List.eq_nil_of_length_eq_zero (by omega)
  subst this
  exact .slnil
 ·subst hl
  refine .sl (cs:=xs) hsz hr h1 (fun _=>rfl) ?_ q3 (by simp)
  intro j x e
  show Uf B M w g (0+j)=some x
  unfold Uf
  rw [if_pos (Nat.le_trans hB q1),Nat.zero_add,Ji q2]
  have hj:j<xs.length:=(List.getElem?_eq_some_iff.1 e).1
  rw [<- q6,List.getElem?_take_of_lt (by rw [<- hlen];exact hj)] at e
  rw [<- Array.getElem?_toList];exact e
theorem IR.rep {B B':Nat} {M:Mem} {l:List Input} {v:Value} {w:World} (h:IR B M l v w) (hi:Imm M w) (hB:B'<=B):Rep (Uf B' M w) je (jE l) v:=by
 obtain ⟨xs,h1,h2,h3⟩:=h.xs
 refine jaj h1 hB (l:=l.map yB) (by simp) ?_ (by rw [xq];exact h2.mono (Xx hi)) h3
 intro x hx
 obtain ⟨y,-,rfl⟩:=List.mem_map.1 hx
 rfl
theorem pS {m:Mem}:∀ (r:List (List Input)) (Jp:List Value),Jp.length=r.length->(∀ (j:Nat) f x,r[j]? = some f->Jp[j]? = some x->Rep m je (jE f) x)->Jq m je (r.map jE) Jp
 | [],[],_,_=>.nil
 | f::r,x::Jp,hl,h=>.cons (h 0 f x rfl rfl) (pS r Jp (by simpa using hl) (fun j f x e1 e2=>h (j+1) f x (by simpa using e1) (by simpa using e2)))
 | [],_::_,hl,_=>by simp at hl
 | _::_,[],hl,_=>by simp at hl
theorem KL.rep {w0 M0 r v Jp w M} (h:KL w0 M0 r v Jp w M):Rep (Uf w0.heap.size M w) je (jw r) v:=by
 have hfr:∀ (j:Nat) f x,r[j]? = some f->Jp[j]? = some x->Rep (Uf w0.heap.size M w) je (jE f) x:=fun j f x e1 e2=>(h.fr j f x e1 e2).rep h.imm (Nat.le_refl _)
 refine jaj h.row (Nat.le_refl _) (l:=r.map jE) (by simp) ?_ (by rw [Pv];exact pS r Jp h.len hfr) ?_
 ·intro x hx
  obtain ⟨y,-,rfl⟩:=List.mem_map.1 hx
  rfl
 ·intro c hc
  obtain ⟨j,hj⟩:=List.mem_iff_getElem?.1 hc
  obtain ⟨f,-,hIR⟩:=h.get hj
  obtain ⟨a,n,k,rfl⟩:=hIR.slice
  rfl
section
set_option maxHeartbeats 4000000
theorem xT (r:List (List Input)) (k:Int) (ins:List Input) (H:k<0\/4096<=k) (vr vi:Value) (w:World):
 Calls Tryz.prog 26 #[vr,.int .i64 k,vi] w fun e w'=>e=.returned (.tuple #[.slice none 0 0,.int .i64 21])/\Below w.heap.size w w':=by
 by_cases h1:k<0
 ·go_enter Tryz.func26,Tryz.ntmps26
  go_wp2
  go_ret2
  exact ⟨rfl,Below.refl _ _⟩
 ·have h2:k>=4096:=by omega
  clear H
  go_enter Tryz.func26,Tryz.ntmps26
  go_wp2
  go_ret2
  exact ⟨rfl,Below.refl _ _⟩
theorem WX (r:List (List Input)) (k:Int) (ins:List Input) (H:¬ (k<0\/4096<=k)) (c:Int) (hV:jy r=some c) (hc:c≠0) (M:Mem) (vr vi:Value) (w:World) (hi:Imm M w) (hr:Rep M je (jw r) vr):
 Calls Tryz.prog 26 #[vr,.int .i64 k,vi] w fun e w'=>e=.returned (.tuple #[.slice none 0 0,.int .i64 25])/\Below w.heap.size w w':=by
 have p1:¬ k<0:=by omega
 have p2:¬ k>=4096:=by omega
 have e18:=Tryz.call18
 have h18:FnR Tryz.prog 18 [jw r] (.v (.int .i64 c)) []:=jcC.ok (r,()) [jw r] c ⟨rfl,trivial⟩ hV
 have k18:=Zv h18 w [vr] (.cons (hr.mono (qU hi)) .nil)
 clear H hi hr h18 hV
 go_enter Tryz.func26,Tryz.ntmps26
 go_wp2_with (first
  | (go_at_call 18;refine k18.mono ?_;rintro e w1 ⟨rfl,hb1⟩;have S1:Hid (Below w.heap.size w w1):=hb1;clear hb1 k18))
 go_ret2
 exact ⟨rfl,S1.out⟩
theorem xU (r:List (List Input)) (k:Int) (ins:List Input) (H:¬ (k<0\/4096<=k)) (hV:jy r=some 0) (hA:Ju ins=some false) (M:Mem) (vr vi:Value) (w:World) (hi:Imm M w) (hr:Rep M je (jw r) vr) (hri:Rep M je (jE ins) vi):
 Calls Tryz.prog 26 #[vr,.int .i64 k,vi] w fun e w'=>e=.returned (.tuple #[.slice none 0 0,.int .i64 20])/\Below w.heap.size w w':=by
 have p1:¬ k<0:=by omega
 have p2:¬ k>=4096:=by omega
 have e18:=Tryz.call18
 have e48:=Tryz.call48
 have h18:FnR Tryz.prog 18 [jw r] (.v (.int .i64 0)) []:=jcC.ok (r,()) [jw r] (0:Int) ⟨rfl,trivial⟩ hV
 have h48:FnR Tryz.prog 48 [jE ins] (.v (.bool false)) []:=c_48.ok (ins,()) [jE ins] false ⟨rfl,trivial⟩ hA
 have k18:=Zv h18 w [vr] (.cons (hr.mono (qU hi)) .nil)
 have HH:Hid (_/\_/\_):=⟨hi,hri,h48⟩
 clear H hi hr hri h18 h48 hV hA
 go_enter Tryz.func26,Tryz.ntmps26
 go_wp2_with (first
  | (go_at_call 18;refine k18.mono ?_;rintro e w1 ⟨rfl,hb1⟩;have S1:Hid (Below w.heap.size w w1):=hb1
     have k48:=Zv HH.out.2.2 w1 [vi] (.cons (HH.out.2.1.mono (qU (HH.out.1.below hb1))) .nil)
     clear hb1 k18)
  | (go_at_call 48;refine k48.mono ?_;rintro e w2 ⟨rfl,hb2⟩;have S2:Hid (Below w.heap.size w w2):=S1.out.trans (hb2.mono S1.out.size);clear hb2 k48))
 go_ret2
 exact ⟨rfl,S2.out⟩
theorem pb (r:List (List Input)) (k:Int) (ins x28:List Input) (H:¬ (k<0\/4096<=k)) (hV:jy r=some 0) (hA:Ju ins=some true) (hI:yg r k=some x28) (hlen:32<x28.length+ins.length) (M:Mem) (vr vi:Value) (w:World) (hi:Imm M w) (hr:Rep M je (jw r) vr) (hri:Rep M je (jE ins) vi) (hsm:x28.length+ins.length<=4294967296):
 Calls Tryz.prog 26 #[vr,.int .i64 k,vi] w fun e w'=>e=.returned (.tuple #[.slice none 0 0,.int .i64 11])/\Below w.heap.size w w':=by
 have p1:¬ k<0:=by omega
 have p2:¬ k>=4096:=by omega
 have e18:=Tryz.call18
 have e48:=Tryz.call48
 have e28:=Tryz.call28
 have h18:FnR Tryz.prog 18 [jw r] (.v (.int .i64 0)) []:=jcC.ok (r,()) [jw r] (0:Int) ⟨rfl,trivial⟩ hV
 have h48:FnR Tryz.prog 48 [jE ins] (.v (.bool true)) []:=c_48.ok (ins,()) [jE ins] true ⟨rfl,trivial⟩ hA
 have h28:FnR Tryz.prog 28 [jw r,.v (.int .i64 k)] (jE x28) []:=c_28.ok (r,k,()) [jw r,.v (.int .i64 k)] x28 ⟨rfl,rfl,trivial⟩ hI
 obtain ⟨ia,ic,rfl,-⟩:=ui hri
 obtain ⟨ra,rc,rfl,-⟩:=jak hr
 have k18:=Zv h18 w [.slice ra r.length rc] (.cons (hr.mono (qU hi)) .nil)
 have HH:Hid (_/\_/\_/\_/\_):=⟨hi,hr,hri,h48,h28⟩
 clear H hi hr hri h18 h48 h28 hV hA hI
 go_enter Tryz.func26,Tryz.ntmps26
 go_wp2_with (first
  | (go_at_call 18;refine k18.mono ?_;rintro e w1 ⟨rfl,hb1⟩;have S1:Hid (Below w.heap.size w w1):=hb1
     have k48:=Zv HH.out.2.2.2.1 w1 [.slice ia ins.length ic] (.cons (HH.out.2.2.1.mono (qU (HH.out.1.below hb1))) .nil)
     clear hb1 k18)
  | (go_at_call 48;refine k48.mono ?_;rintro e w2 ⟨rfl,hb2⟩;have S2:Hid (Below w.heap.size w w2):=S1.out.trans (hb2.mono S1.out.size)
     have k28:=QE HH.out.2.2.2.2 w2 [.slice ra r.length rc,.int .i64 k] (.cons (HH.out.2.1.mono (qU (HH.out.1.below S2.out))) (.cons .v .nil))
     clear hb2 k48)
  | (go_at_call 28;refine k28.mono ?_;rintro e w3 ⟨v3,rfl,hb3,hr3⟩
     obtain ⟨ya,yc,rfl,-⟩:=ui hr3
     have S3:Hid (Below w.heap.size w w3):=S2.out.trans (hb3.mono S2.out.size)
     have wl:IntKind.i64.wrap ((x28.length:Int)+(ins.length:Int))=((x28.length+ins.length:Nat):Int):=by rw [IntKind.wrap_i64];omega
     have wg:((x28.length+ins.length:Nat):Int)>32:=by omega
     clear hb3 hr3 k28))
 go_ret2
 exact ⟨rfl,S3.out⟩
end
theorem vj {w w':World} {m:Mem} {c:Int} (hi:Imm m w) (hb:Below w.heap.size w w'):∃ v,Ending.returned (Value.tuple #[.slice none 0 0,.int .i64 c])=.returned v/\∃ M',Below w.heap.size w w'/\Imm M' w'/\Mem.le m M'/\JG m M' w.heap.size/\Rep (Uf w.heap.size M' w') je (.tup [jw [],.v (.int .i64 c)]) v:=
 ⟨_,rfl,m,hb,hi.below hb,fun _ _ _ e=>e,JG.refl _ _,.tup (.cons .slnil (.cons .v .nil))⟩
theorem uQ [GlC] {r:List (List Input)} {frame:Int} {ins:List Input} {res:List (List Input) × Int} (h:QJ r frame ins=some res):FnR Tryz.prog 26 [jw r,.v (.int .i64 frame),jE ins] (.tup [jw res.1,.v (.int .i64 res.2)]) []:=by
 refine FnR.ofMix fun w m vs hi hr=>?_
 obtain ⟨vr,v2,rfl,hr1,q2⟩:=hr.inv
 obtain ⟨v3,rfl,q3⟩:=q2.invV
 obtain ⟨vi,v4,rfl,hr2,q4⟩:=q3.inv
 obtain rfl:=q4.inv0
 have h:vX jy Ju yg yT r frame ins=some res:=h
 unfold vX at h
 by_cases h1:frame<0\/4096<=frame
 ·rw [if_pos h1] at h
  cases h
  refine (xT r frame ins h1 vr vi w).mono ?_
  rintro e w' ⟨rfl,hb⟩
  exact vj hi hb
 ·rw [if_neg h1] at h
  cases hV:jy r with
  | none=>rw [hV] at h;cases h
  | some c=>
    rw [hV] at h
    by_cases h2:c=0
    ·subst h2
     have h:=(if_neg (by simp)).symm.trans h
     cases hA:Ju ins with
     | none=>rw [hA] at h;cases h
     | some b=>
       rw [hA] at h
       cases b with
       | false=>
         have h:=(if_pos rfl).symm.trans h
         cases h
         refine (xU r frame ins h1 hV hA m vr vi w hi hr1 hr2).mono ?_
         rintro e w' ⟨rfl,hb⟩
         exact vj hi hb
       | true=>
         have h:=(if_neg (by simp)).symm.trans h
         cases hI:yg r frame with
         | none=>rw [hI] at h;cases h
         | some x=>
           rw [hI] at h
           by_cases h3:32<x.length+ins.length
           ·have h:=(if_pos h3).symm.trans h
            by_cases h4:x.length+ins.length<=4294967296
            ·have h:=(if_pos h4).symm.trans h
             cases h
             refine (pb r frame ins x h1 hV hA hI h3 m vr vi w hi hr1 hr2 h4).mono ?_
             rintro e w' ⟨rfl,hb⟩
             exact vj hi hb
            ·have h:=(if_neg h4).symm.trans h
             cases h
           ·have h:=(if_neg h3).symm.trans h
            by_cases h4:r.length<=4096/\(∀ f∈r,(∀ x∈f,yT x=some x)/\f.length<=1048576)/\(∀ x∈ins,yT x=some x)/\ins.length<=1048576
            ·have h:=(if_pos h4).symm.trans h
             cases h
             obtain ⟨k,rfl⟩:∃ k:Nat,frame=(k:Int):=⟨frame.toNat,by omega⟩
             refine (pd r k ins ⟨by omega,hV,hA,⟨x,hI,by omega⟩,h4.2.1,h4.2.2,h4.1⟩ m vr vi w hi hr1 hr2).mono ?_
             rintro e w' ⟨v,rfl,Jp,M',hK⟩
             exact ⟨_,rfl,M',hK.bel,hK.imm,hK.le,hK.new,.tup (.cons hK.rep (.cons .v .nil))⟩
            ·have h:=(if_neg h4).symm.trans h
             cases h
    ·have h:=(if_pos h2).symm.trans h
     cases h
     refine (WX r frame ins h1 c hV h2 m vr vi w hi hr1).mono ?_
     rintro e w' ⟨rfl,hb⟩
     exact vj hi hb
end GoForm
end
