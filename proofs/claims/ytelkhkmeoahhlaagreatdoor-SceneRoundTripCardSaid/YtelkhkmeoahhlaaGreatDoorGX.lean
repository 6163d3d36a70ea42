/- Several texts in one. No conditions. -/
import Derived.Test.YtelkhkmeoahhlaaGreatDoorQE
import Derived.Handy
import Derived.BigQuiet
import Derived.Defers
import Derived.Deep.Cut
import Derived.Shelf.RegionOpenPlain
import Derived.Orders
import Derived.Test.YtelkhkmeoahhlaaGreatDoorF52C1
import Derived.Laws.IdiomCopy
section
set_option linter.all false
set_option maxRecDepth 100000
open Go Go.Rx Go.Proofs Go.RowKit
namespace GoForm
theorem rep_agg {m bl l v} (h:Rep m bl (.agg l) v):∃ cs,v=.agg cs.toArray/\Reps m bl l cs/\∀ c∈cs,oneCell c=true:=by
 cases h with
 | agg a b=>exact ⟨_,rfl,a,b⟩
theorem repsV {m:Mem} {bl:Names}:∀ l:List Value,Reps m bl (l.map AV.v) l
 | []=>.nil
 | a::l=>.cons .v (repsV l)
theorem repsV_eq {m:Mem} {bl:Names}:∀ {l vs:List Value},Reps m bl (l.map AV.v) vs->vs=l
 | [],_,.nil=>rfl
 | a::l,_,.cons h t=>by rw [Rep.eq_v h,repsV_eq t]
theorem heap_at (w:World) (o:Obj) (b:Nat) (h:b=w.heap.size):(w.alloc o).heap[b]? = some o:=by subst h;show (w.heap.push o)[w.heap.size]? = _;simp
theorem box_cell {w:World} {b:Nat} {cs:Array Value} {T:TypeId} (h:w.heap[b]? = some (.cells cs T (0,0))) (j:Nat) {v:Value} (e:cs[j]? = some v):w.cell? ⟨b,j,none⟩=some v:=by rw [cell_of_blk h];exact e
theorem box_free {w:World} {b:Nat} {cs:Array Value} {T:TypeId} (h:w.heap[b]? = some (.cells cs T (0,0))) (j:Nat):w.frozen? ⟨b,j,none⟩=false:=by unfold World.frozen?;rw [h];simp
theorem heap_set (w:World) (a:Addr) (x:Value) (b:Nat) (h:b≠a.block):(w.setCell a x).heap[b]? = w.heap[b]? := Go.RowKit.Below.heap_setCell _ _ _ _ h
theorem size_set (w:World) (a:Addr) (x:Value):(w.setCell a x).heap.size=w.heap.size:=by simp [World.setCell]
theorem heap_own {w:World} {b:Nat} {cs:Array Value} {T:TypeId} {fr} (h:w.heap[b]? = some (.cells cs T fr)) (j:Nat) (v:Value) (cs':Array Value) (e:cs.setIfInBounds j v=cs'):(w.setCell ⟨b,j,none⟩ v).heap[b]? = some (.cells cs' T fr):=by
 subst e
 unfold World.setCell
 simp [Array.getElem?_modify,h]
theorem _root_.Go.Rx.Reps.inv {m bl x l vs} (h:Reps m bl (x::l) vs):∃ v t,vs=v::t/\Rep m bl x v/\Reps m bl l t:=by
 cases h with
 | cons a b=>exact ⟨_,_,rfl,a,b⟩
theorem _root_.Go.Rx.Reps.inv0 {m bl vs} (h:Reps m bl [] vs):vs=[]:=by cases h;rfl
theorem _root_.Go.Rx.Reps.invV {m bl x l vs} (h:Reps m bl (.v x::l) vs):∃ t,vs=x::t/\Reps m bl l t:=by
 obtain ⟨v,t,rfl,a,b⟩:=h.inv
 exact ⟨t,by rw [Rep.eq_v a],b⟩
theorem below_grown {w w':World} (h:Below w.heap.size w w'):w.grownBy w' none:=⟨h.os,h.tape,h.output,h.size,fun k hk _=>h.block k hk⟩
theorem cells_new (w:World) (cs:List Value) (T:TypeId) (b:Nat) (hb:b=w.heap.size) (j:Nat) (u:Value) (e:cs[j]? = some u):(w.alloc (.cells cs.toArray T)).cell? ((⟨b,0,none⟩:Addr).add j)=some u:=by
 rw [addr_add,Nat.zero_add]
 exact box_cell (heap_at w _ b hb) j (by simpa using e)
section
variable {P:Program} {w:World}
theorem append_block (base:Nat) (t ty e:TypeId) (i:TypeInfo) (z:Value) (size bytes:Nat) (ht:P.underlying t=some (.slice e)) (hi:P.info? e=some i) (hz:i.zero=some z)
 (hsize:i.size=size) (hby:i.bytes=bytes)
 (v:Value) (n:Nat) (xs:List Value) (hown:w.ownsRow base e size v n xs)
 (a:Addr) (m c:Nat) (news:List Value) (hl:news.length=m*size) (hnews:∀ j u,news[j]? = some u->w.cell? (a.add j)=some u) (h1:∀ u∈news,u.oneCell'=true)
 (h63:n+m<=maxLen) (hbytes:(n+m)*bytes<=140737488355328) (hm:0<m) (v':Value) (w':World)
 (hr:(Builtin.append_ #[t,t] ty #[v,.slice (some a) m c]).run P w=.ok v' w'):v'.ownBlock=v.ownBlock\/v'.ownBlock=some w.heap.size:=by
 subst hsize
 subst hby
 simp only [maxLen] at h63
 rcases hown.2 with ⟨rfl,rfl⟩ | ⟨g,cap,cur,rfl,hbg,hg,hnc,hcm,hcs,htake⟩
 ·have h:=run_append_nil (P:=P) w t ty e i z ht hi hz a m c news hl hnews hm (by omega) (by have hb:=hbytes;simp only [Nat.zero_add] at hb;omega)
  rw [hr] at h
  cases h
  exact .inr rfl
 ·by_cases hroom:n+m<=cap
  ·have hfit:n*i.size+news.length<=cur.size:=by rw [hl,hcs,<- Nat.add_mul];exact Nat.mul_le_mul_right _ hroom
   have h:=run_append_room (P:=P) w t ty e i ht hi g n cap cur hg a m c news hl hnews h1 hroom hfit
   rw [hr] at h
   cases h
   exact .inl rfl
  ·have holds:∀ j u,xs[j]? = some u->w.cell? ((⟨g,0,none⟩:Addr).add j)=some u:=hown.cells (g:=g) rfl
   have h:=run_append_grow (P:=P) w t ty e i z ht hi hz ⟨g,0,none⟩ n cap xs hown.1 holds a m c news hl hnews (by omega) (by omega) (growslice_fits (by omega) hbytes)
   rw [hr] at h
   cases h
   exact .inr rfl
end
theorem wpList_loadat {P:Program} {ops:Array Oper} {rest:List Oper} {Q:Exit->Act->World->Prop} {o:Oper} {a:Act} {w:World} {ty:TypeId} {y:Operand} {d b off:Nat} {cs:List Value} {arr:Array Value} {T:TypeId} {fr:Nat × Nat}
 (g:o.guard=none) (e:o.op=.load ty y) (hd:o.dst=some d) (hy:a.eval y=.pointer (some ⟨b,off,none⟩)) (ha:tAg P ty=some true) (hs:tSz P ty=some cs.length)
 (hb:w.heap[b]? = some (.cells arr T fr)) (hc:∀ j v,cs[j]? = some v->arr[off+j]? = some v) (h:wpList P ops Q rest (a.put (some d) (.agg cs.toArray)) w):wpList P ops Q (o::rest) a w:=by
 have hld:=run_loadVar_agg (P:=P) (ty:=ty) (w:=w) (b:=b) (o:=off) (cs:=cs) ha hs (fun j v e=>by rw [cell_of_blk hb];exact hc j v e)
 refine wpList_plain g fun K hK=>?_
 have r1:(execOp a.eval o).run P w=.ok (.value (.agg cs.toArray)) w:=by simp [execOp,e,hy,Instr.loadAt,Instr.sureAddr,hld]
 unfold Oper.wp
 rw [r1,Oper.upon_value,hd]
 exact hK _ _ h
theorem wpList_storeat {P:Program} {ops:Array Oper} {rest:List Oper} {Q:Exit->Act->World->Prop} {o:Oper} {a:Act} {w:World} {ty:TypeId} {t z:Operand} {b off:Nat} {cs arr:List Value} {T:TypeId}
 (g:o.guard=none) (e:o.op=.store ty t z) (hd:o.dst=none) (ht:a.eval t=.pointer (some ⟨b,off,none⟩)) (hz:a.eval z=.agg cs.toArray) (hs:tSz P ty=some cs.length)
 (hb:w.heap[b]? = some (.cells arr.toArray T (0,0))) (hfit:off+cs.length<=arr.length) (h1:∀ c∈cs,c.oneCell'=true)
 (h:∀ w',w'.heap[b]? = some (.cells (arr.take off++cs++arr.drop (off+cs.length)).toArray T (0,0))->w.grownBy w' (some b)->wpList P ops Q rest a w'):wpList P ops Q (o::rest) a w:=by
 have hst:=run_storeCells_at P b off T cs 0 arr.toArray w hb (by simpa using hfit) h1
 simp only [Nat.add_zero] at hst
 refine wpList_plain g fun K hK=>?_
 have r2:(execOp a.eval o).run P w=.ok .skip (w.setRow b (arr.take off++cs++arr.drop (off+cs.length)).toArray):=by
  have hst:Sem.run P (storeCells ⟨b,off,none⟩ cs) w=Result.ok () (w.setRow b (arr.take off++cs++arr.drop (off+cs.length)).toArray):=hst
  simp [execOp,e,ht,hz,Instr.storeAt,Instr.sureAddr,storeVar,run_sizeOf_of hs,Value.cells,hst]
 unfold Oper.wp
 rw [r2,Oper.upon_skip,hd]
 exact hK _ _ (h _ (setRow_heap w b _ _ T (0,0) hb) ⟨rfl,rfl,rfl,by simp,fun k _ hk=>setRow_other w b k _ (fun e=>hk (by rw [e]))⟩)
theorem imm_grown {m:Mem} {W W':World} {b:Nat} (h:Imm m W) (g:W.grownBy W' (some b)) (hm:∀ o,m b o=none):Imm m W':=by
 intro b' o v e
 have h1:=h b' o v e
 have hne:b'≠b:=fun e2=>by subst e2;rw [hm] at e;cases e
 have hlt:b'<W.heap.size:=by
  rcases Nat.lt_or_ge b' W.heap.size with h | h
  ·exact h
  ·simp [World.cell?,Array.getElem?_eq_none h] at h1
 rw [<- h1]
 unfold World.cell?
 rw [g.block b' hlt (fun e=>hne (Option.some.inj e))]
section
variable {P:Program}
theorem cover_step {l:List Nat} {i:Nat} (h:i∈l):(l.filter (fun j=>j != i)).length<l.length:=by
 rw [List.length_filter_lt_length_iff_exists]
 exact ⟨i,h,by simp⟩
theorem wp_any_inv {Q:Exit->Act->World->Prop} {ops:Array Oper} (I:(Nat->Bool)->Act->World->Prop)
 (hd:∀ (i:Nat) (o:Oper),ops[i]? = some o->∀ e∈o.after,Region.binds .any e=true->e.on<i)
 (hs:∀ f a w i o,I f a w->ops[i]? = some o->f i=false->(∀ e∈o.after,Region.binds .any e=true->f e.on=true)->wpOp P ops Q i (I (fun j=>if j=i then true else f j)) a w)
 (he:∀ f a w,I f a w->(∀ i,i<ops.size->f i=true)->Q .normal a w):∀ (fuel:Nat) (listed:Array Bool) (a:Act) (w:World),listed.size=ops.size->I (fun j=>listed.getD j false) a w->
   (∃ l:List Nat,l.length<=fuel/\∀ j,j<ops.size->listed.getD j false=false->j∈l)->wpAny P .any ops Q fuel listed a w:=by
 have inb:∀ (listed:Array Bool) (j:Nat) (x y:Bool),j<listed.size->listed.getD j x=listed.getD j y:=fun listed j x y h=>by
  simp only [Array.getD_eq_getD_getElem?,Array.getElem?_eq_getElem h,Option.getD_some]
 have all:∀ listed:Array Bool,listed.size=ops.size->Region.ready .any ops listed=[]->∀ i,i<ops.size->listed.getD i false=true:=by
  intro listed hz h i
  induction i using Nat.strongRecOn with
  | ind i ih=>
    intro hi
    cases hl:listed.getD i false with
    | true=>rfl
    | false=>
      have:i∈Region.ready .any ops listed:=by
       unfold Region.ready
       rw [List.mem_filter]
       refine ⟨List.mem_range.2 hi,?_⟩
       rw [inb listed i true false (by omega),hl]
       obtain ⟨o,ho⟩:∃ o,ops[i]? = some o:=⟨_,Array.getElem?_eq_getElem hi⟩
       rw [ho]
       simp only [Bool.not_false,Option.map_some,Option.getD_some,Bool.true_and,Array.all_eq_true_iff_forall_mem,Bool.or_eq_true]
       intro e hm
       cases hbd:Region.binds .any e with
       | false=>exact .inl (by simp)
       | true=>exact .inr (ih e.on (hd i o ho e hm hbd) (Nat.lt_trans (hd i o ho e hm hbd) hi))
      rw [h] at this
      cases this
 intro fuel
 induction fuel with
 | zero=>
   intro listed a w hz hI ⟨l,hl,hc⟩
   have hall:∀ j,j<ops.size->listed.getD j false=true:=fun j hj=>by
    cases e:listed.getD j false with
    | true=>rfl
    | false=>
      have:=hc j hj e
      have h0:l=[]:=List.length_eq_zero_iff.1 (by omega)
      rw [h0] at this
      cases this
   refine ⟨?_,he _ a w hI hall⟩
   unfold Region.ready
   rw [List.filter_eq_nil_iff]
   intro i hi
   have hi:=List.mem_range.1 hi
   rw [inb listed i true false (by omega),hall i hi]
   simp
 | succ fuel ih=>
   intro listed a w hz hI ⟨l,hl,hc⟩
   refine ⟨fun h=>he _ a w hI (all listed hz h),fun i hi=>?_⟩
   unfold Region.ready at hi
   rw [List.mem_filter] at hi
   obtain ⟨h1,h2⟩:=hi
   have h1:=List.mem_range.1 h1
   obtain ⟨o,ho⟩:∃ o,ops[i]? = some o:=⟨_,Array.getElem?_eq_getElem h1⟩
   rw [ho,inb listed i true false (by omega)] at h2
   simp only [Option.map_some,Option.getD_some,Bool.and_eq_true,Bool.not_eq_true',Array.all_eq_true_iff_forall_mem,Bool.or_eq_true] at h2
   have hf:(fun j=>(listed.setIfInBounds i true).getD j false)=fun j=>if j=i then true else listed.getD j false:=by
    funext j
    simp only [Array.getD_eq_getD_getElem?]
    by_cases e:j=i
    ·subst e
     rw [Array.getElem?_setIfInBounds_self_of_lt (by omega)];simp
    ·rw [Array.getElem?_setIfInBounds_ne (fun h=>e h.symm)];simp [e]
   refine wpOp_mono ?_ (hs _ a w i o hI ho h2.1 fun e he' hb=>?_)
   ·intro a' w' hI'
    refine ih _ a' w' (by simpa using hz) (by rw [hf];exact hI') ⟨l.filter (fun j=>j != i),?_,fun j hj hju=>?_⟩
    ·have:=cover_step (hc i h1 h2.1);omega
    ·rw [congrFun hf j] at hju
     by_cases e:j=i
     ·rw [if_pos e] at hju;cases hju
     ·rw [if_neg e] at hju
      rw [List.mem_filter]
      exact ⟨hc j hj hju,by simpa using e⟩
   ·rcases h2.2 e he' with h | h
    ·rw [hb] at h;simp at h
    ·exact h
theorem wp_region_inv {id:Nat} {Q:Exit->Act->World->Prop} {ops:Array Oper} {a:Act} {w:World} (hm:P.follows .mixedOrders=true) (I:(Nat->Bool)->Act->World->Prop)
 (hd:∀ (i:Nat) (o:Oper),ops[i]? = some o->∀ e∈o.after,Region.binds .any e=true->e.on<i)
 (h0:I (fun _=>false) a w.drew)
 (hs:∀ f a w i o,I f a w->ops[i]? = some o->f i=false->(∀ e∈o.after,Region.binds .any e=true->f e.on=true)->wpOp P ops Q i (I (fun j=>if j=i then true else f j)) a w)
 (he:∀ f a w,I f a w->(∀ i,i<ops.size->f i=true)->Q .normal a w):(Code.region id ops true).wp P Q a w:=by
 refine wp_region_any hm (wp_any_inv I hd hs he _ _ a _ (by simp) ?_ ⟨List.range ops.size,by simp,fun j hj _=>List.mem_range.2 hj⟩)
 have:(fun j=>(Array.replicate ops.size false).getD j false)=fun _=>false:=by
  funext j
  simp only [Array.getD_eq_getD_getElem?,Array.getElem?_replicate]
  split <;> rfl
 rw [this]
 exact h0
variable {ops:Array Oper} {i:Nat} {o:Oper} {Q:Exit->Act->World->Prop} {K:Act->World->Prop} {a:Act} {w:World}
theorem wpOp_of (hi:ops[i]? = some o) (g:o.guard=none) (h:o.wp P a w K Q):wpOp P ops Q i K a w:=by
 unfold wpOp
 rw [hi]
 simp only [Region.wanted,g,if_true]
 exact .inl h
end
theorem ev {a:Act} {t:Nat} {v:Value} (h:a.tmps[t]? = some v):a.eval (.tmp t)=v:=by
 simp [Act.eval,h]
theorem put_ne {a:Act} {d j:Nat} {v:Value} (h:j≠d):(a.put (some d) v).tmps[j]? = a.tmps[j]? := Array.getElem?_setIfInBounds_ne (fun e=>h e.symm)
theorem put_eq {a:Act} {d:Nat} {v:Value} (h:d<a.tmps.size):(a.put (some d) v).tmps[d]? = some v:=Array.getElem?_setIfInBounds_self_of_lt h
theorem put_sz {a:Act} {d:Nat} {v:Value}:(a.put (some d) v).tmps.size=a.tmps.size:=by simp [Act.put]
def Pure (n ja js i:Nat):Prop:=i<n/\i≠ja/\i≠js
structure TI (n ja js da:Nat) (ds:Nat->Nat) (val:Nat->Value) (T:TypeId) (V:List Value) (w0:World) (a0:Act) (f:Nat->Bool) (a:Act) (w:World) (b:Nat):Prop where
 sz:a.tmps.size=a0.tmps.size
 df:a.defers=a0.defers
 bel:Below w0.heap.size w0 w
 vals:∀ i,Pure n ja js i->f i=true->a.tmps[ds i]? = some (val i)
 rest:∀ j,(∀ i,Pure n ja js i->ds i≠j)->j≠da->a.tmps[j]? = a0.tmps[j]?
 ord:f js=true->f ja=true
 box:f ja=true->a.tmps[da]? = some (.pointer (some ⟨b,0,none⟩))/\w0.heap.size<=b/\b<w.heap.size/\∃ cs,w.heap[b]? = some (.cells cs T (0,0))/\cs.size=V.length/\(f js=true->cs=V.toArray)
theorem TI.world {n ja js da ds val T V w0 a0 f a w b} (h:TI n ja js da ds val T V w0 a0 f a w b) {w':World} (hb:Below w.heap.size w w'):TI n ja js da ds val T V w0 a0 f a w' b:=
 ⟨h.sz,h.df,h.bel.trans (hb.mono h.bel.size),h.vals,h.rest,h.ord,fun e=>by
   obtain ⟨h1,h2,h3,cs,h4,h5⟩:=h.box e
   exact ⟨h1,h2,Nat.lt_of_lt_of_le h3 hb.size,cs,(hb.block _ h3).trans h4,h5⟩⟩
def AllV (tm:Array Value):List (Nat × Value)->Prop
 | []=>True
 | p::wr=>tm[p.1]? = some p.2/\AllV tm wr
theorem AllV.mem {tm:Array Value}:∀ {wr:List (Nat × Value)},AllV tm wr->∀ q∈wr,tm[q.1]? = some q.2
 | p::wr,h,q,hq=>by
   rcases List.mem_cons.1 hq with e | e
   ·subst e;exact h.1
   ·exact AllV.mem h.2 q e
def nxF (f:Nat->Bool) (i:Nat):Nat->Bool:=fun j=>if j=i then true else f j
structure TG {β:Type} (ops:Array Oper) (n:Nat) (ds:Nat->Nat) (val:β->Nat->Value) (Inv:(Nat->Bool)->β->World->Prop) (a0:Act) (f:Nat->Bool) (a:Act) (w:World) (V:β):Prop where
 sz:a.tmps.size=a0.tmps.size
 df:a.defers=a0.defers
 vals:∀ i,i<n->f i=true->a.tmps[ds i]? = some (val V i)
 rest:∀ j,(∀ i,i<n->ds i≠j)->a.tmps[j]? = a0.tmps[j]?
 inv:Inv f V w
 cl:∀ i o,ops[i]? = some o->f i=true->∀ e∈o.after,Region.binds .any e=true->f e.on=true
theorem wp_region_gen {β:Type} {P:Program} {id:Nat} {Q:Exit->Act->World->Prop} {ops:Array Oper} {a0:Act} {w:World} (hm:P.follows .mixedOrders=true)
 (n:Nat) (ds:Nat->Nat) (eff:Nat->Bool) (val:β->Nat->Value) (V0:β) (Inv:(Nat->Bool)->β->World->Prop) (hn:ops.size=n+1)
 (hback:∀ (i:Nat) (o:Oper),ops[i]? = some o->∀ e∈o.after,Region.binds .any e=true->e.on<i)
 (h0:Inv (fun _=>false) V0 w.drew)
 (hp:∀ i o,i<n->eff i=false->ops[i]? = some o->o.guard=none/\o.dst=some (ds i)/\ds i<a0.tmps.size/\∀ f V w' (a:Act),Inv f V w'->(∀ e∈o.after,Region.binds .any e=true->f e.on=true/\a.tmps[ds e.on]? = some (val V e.on))->
   (∀ j,(∀ i,i<n->ds i≠j)->a.tmps[j]? = a0.tmps[j]?)->o.quietAt P a (fun w''=>w''=w') w' (val V i)/\Inv (nxF f i) V w')
 (he:∀ i o,i<n->eff i=true->ops[i]? = some o->o.guard=none/\ds i<a0.tmps.size/\∀ f V w' (a:Act),Inv f V w'->f i=false->(∀ e∈o.after,Region.binds .any e=true->f e.on=true/\a.tmps[ds e.on]? = some (val V e.on))->
   (∀ j,(∀ i,i<n->ds i≠j)->a.tmps[j]? = a0.tmps[j]?)->o.wp P a w' (fun a' w''=>∃ V',a'=a.put (some (ds i)) (val V' i)/\Inv (nxF f i) V' w''/\∀ j,j<n->f j=true->val V' j=val V j) Q)
 (hinj:∀ i i',i<n->i'<n->ds i=ds i'->i=i')
 (hl:∃ o,ops[n]? = some o/\o.guard=none/\(∀ f:Nat->Bool,(∀ e∈o.after,Region.binds .any e=true->f e.on=true)->(∀ i o,ops[i]? = some o->f i=true->∀ e∈o.after,Region.binds .any e=true->f e.on=true)->∀ i,i<n->f i=true)/\∀ f V (a:Act) w',(∀ i,i<n->f i=true)->a.tmps.size=a0.tmps.size->a.defers=a0.defers->(∀ i,i<n->a.tmps[ds i]? = some (val V i))->
   (∀ j,(∀ i,i<n->ds i≠j)->a.tmps[j]? = a0.tmps[j]?)->Inv f V w'->o.wp P a w' (fun a' w''=>Q .normal a' w'') Q):(Code.region id ops true).wp P Q a0 w:=by
 refine wp_region_inv hm (fun f a w'=>(f n=true/\(∀ i,i<n->f i=true)/\Q .normal a w')\/(f n=false/\∃ V,TG ops n ds val Inv a0 f a w' V)) hback (.inr ⟨rfl,V0,rfl,rfl,by simp,fun _ _=>rfl,h0,by simp⟩) ?_ ?_
 ·rintro f a w1 i o hI ho hf hdp
  have hin:i<n+1:=by rw [<- hn];exact (Array.getElem?_eq_some_iff.1 ho).1
  rcases hI with ⟨h1,h2,-⟩ | ⟨hfn,V,S⟩
  ·exfalso
   by_cases e:i=n
   ·rw [e,h1] at hf;cases hf
   ·rw [h2 i (by omega)] at hf;cases hf
  have clx:∀ j oj,ops[j]? = some oj->(if j=i then true else f j)=true->∀ e∈oj.after,Region.binds .any e=true->(if e.on=i then true else f e.on)=true:=fun j oj hj hfj e he hb=>by
   by_cases ej:e.on=i
   ·exact if_pos ej
   ·rw [if_neg ej]
    by_cases ei:j=i
    ·rw [ei,ho] at hj;cases hj;exact hdp e he hb
    ·rw [if_neg ei] at hfj
     exact S.cl j oj hj hfj e he hb
  by_cases en:i=n
  ·obtain ⟨o',q1,q2,q3,q4⟩:=hl
   rw [en] at ho
   rw [q1] at ho;cases ho
   have hall:=q3 f hdp S.cl
   refine wpOp_of (i:=i) (by rw [en];exact q1) q2 ?_
   have:=q4 f V a w1 hall S.sz S.df (fun j hj=>S.vals j hj (hall j hj)) S.rest S.inv
   exact Oper.wp_mono (fun a' w'' hq=>.inl ⟨if_pos en.symm,fun j hj=>(by show (if j=i then true else f j)=true;rw [if_neg (by omega)];exact hall j hj),hq⟩) this
  ·have hi:i<n:=by omega
   have hdv:∀ e∈o.after,Region.binds .any e=true->f e.on=true/\a.tmps[ds e.on]? = some (val V e.on):=fun e he hb=>⟨hdp e he hb,S.vals e.on (by have:=hback i o ho e he hb;omega) (hdp e he hb)⟩
   have put:∀ (V':β) w',Inv (nxF f i) V' w'->ds i<a0.tmps.size->(∀ j,j<n->f j=true->val V' j=val V j)->TG ops n ds val Inv a0 (fun j=>if j=i then true else f j) (a.put (some (ds i)) (val V' i)) w' V':=by
    intro V' w' hI q5 hst
    refine ⟨put_sz.trans S.sz,S.df,fun j hj h=>?_,fun j h1=>(put_ne (fun e=>h1 i hi e.symm)).trans (S.rest j h1),hI,clx⟩
    by_cases ej:j=i
    ·subst ej;exact put_eq (by rw [S.sz];exact q5)
    ·rw [if_neg ej] at h
     rw [put_ne (fun e=>ej (hinj j i hj hi e)),S.vals j hj h,hst j hj h]
   cases ee:eff i with
   | true=>
     obtain ⟨q2,q5,q6⟩:=he i o hi ee ho
     refine wpOp_of ho q2 (Oper.wp_mono ?_ (q6 f V w1 a S.inv hf hdv S.rest))
     rintro a' w'' ⟨V',rfl,h1,h2⟩
     exact .inr ⟨(if_neg (fun e=>en e.symm)).trans hfn,V',put V' w'' h1 q5 h2⟩
   | false=>
     obtain ⟨q2,q4,q5,q6⟩:=hp i o hi ee ho
     obtain ⟨hQ,hI⟩:=q6 f V w1 a S.inv hdv S.rest
     have key:∀ u,u=val V i->(f n=true/\False)\/((fun j=>if j=i then true else f j) n=false/\∃ V,TG ops n ds val Inv a0 (fun j=>if j=i then true else f j) (a.put o.dst u) w1 V):=by
      rintro u rfl
      rw [q4]
      exact .inr ⟨(if_neg (fun e=>en e.symm)).trans hfn,V,put V w1 hI q5 (fun _ _ _=>rfl)⟩
     have key:∀ u,u=val V i->((fun j=>if j=i then true else f j) n=true/\(∀ k,k<n->(fun j=>if j=i then true else f j) k=true)/\Q .normal (a.put o.dst u) w1)\/((fun j=>if j=i then true else f j) n=false/\∃ V,TG ops n ds val Inv a0 (fun j=>if j=i then true else f j) (a.put o.dst u) w1 V):=fun u hu=>(key u hu).elim (fun h=>h.2.elim) .inr
     refine wpOp_of ho q2 ?_
     unfold Oper.quietAt at hQ
     unfold Oper.wp
     generalize (execOp a.eval o).run P w1=r at hQ ⊢
     cases r with
     | ok nx w'=>
       cases nx <;> simp only [Oper.quietUpon] at hQ <;> simp only [Oper.upon]
       case value u=>
        obtain ⟨e1,e2⟩:=hQ
        subst e1
        exact key _ e2
       case skip=>
        obtain ⟨e1,e2⟩:=hQ
        subst e1
        exact key _ e2.symm
       case enter g args=>
        obtain ⟨e1,hcl⟩:=hQ
        subst e1
        exact hcl.mono fun e w'' ⟨he,hw''⟩=>by subst he;rw [hw''];exact key _ rfl
     | halt x w'=>simp only [Oper.quietUpon] at hQ
 ·rintro f a w1 hI hall
  rw [hn] at hall
  rcases hI with ⟨_,_,h⟩ | ⟨h,_⟩
  ·exact h
  ·rw [hall n (by omega)] at h;cases h
theorem elC_cons (E:Ix) (x:tb.T E) (l:List (tb.T E)):elC tb E (x::l)=(tb.el E x).cells++elC tb E l:=by
 simp [elC]
theorem elC_snoc (E:Ix) (l:List (tb.T E)) (x:tb.T E):elC tb E (l++[x])=elC tb E l++(tb.el E x).cells:=by
 simp [elC]
theorem elC_len (E:Ix) (k:Nat) (l:List (tb.T E)) (h:∀ x,(tb.el E x).cells.length=k):(elC tb E l).length=l.length*k:=by
 induction l with
 | nil=>simp [elC]
 | cons x l ih=>rw [elC_cons,List.length_append,ih,h,List.length_cons,Nat.add_mul];omega
def joinM (M M1:Mem):Mem:=fun b o=>match M1 b o with | some u=>some u | none=>M b o
theorem joinM_r (M M1:Mem):Mem.le M1 (joinM M M1):=fun b o u e=>by unfold joinM;rw [e]
theorem joinM_l {M M1:Mem} {w:World} (h:Imm M w) (h1:Imm M1 w):Mem.le M (joinM M M1):=fun b o u e=>by
 unfold joinM
 cases e1:M1 b o with
 | none=>exact e
 | some u1=>
   have a:=h b o u e
   have b':=h1 b o u1 e1
   rw [a] at b';cases b';rfl
theorem joinM_of {M M1:Mem} {b o u} (h:joinM M M1 b o=some u):M b o=some u\/M1 b o=some u:=by
 unfold joinM at h
 cases e1:M1 b o with
 | none=>rw [e1] at h;exact .inl h
 | some u1=>rw [e1] at h;exact .inr h
def Apart:List (Option Nat)->Prop
 | []=>True
 | o::l=>(∀ g,o=some g->some g∉l)/\Apart l
theorem Apart.set:∀ {l:List (Option Nat)} {i:Nat} {o o':Option Nat},Apart l->l[i]? = some o->(∀ g,o'=some g->o=some g\/some g∉l)->Apart (l.set i o')
 | [],i,o,o',_,h,_=>by simp at h
 | a::l,0,o,o',⟨h1,h2⟩,h,hn=>by
   have h:a=o:=by simpa using h
   subst h
   refine ⟨fun g e hm=>?_,h2⟩
   rcases hn g e with h | h
   ·exact h1 g h hm
   ·exact h (List.mem_cons_of_mem _ hm)
 | a :: l,i+1,o,o',⟨h1,h2⟩,h,hn=>by
   have h:l[i]? = some o:=by simpa using h
   refine ⟨fun g e hm=>?_,h2.set h fun g e=>(hn g e).imp (fun h=>h) (fun h hm=>h (List.mem_cons_of_mem _ hm))⟩
   rcases List.mem_or_eq_of_mem_set hm with hm | hm
   ·exact h1 g e hm
   ·rcases hn g hm.symm with h' | h'
    ·exact h1 g e (h' ▸ List.mem_of_getElem? h)
    ·exact h' (by rw [e];exact List.mem_cons_self)
theorem Apart.inj:∀ {l:List (Option Nat)},Apart l->∀ {i j:Nat} {g:Nat},l[i]? = some (some g)->l[j]? = some (some g)->i=j
 | [],_,i,j,g,h,_=>by simp at h
 | o::l,⟨h1,h2⟩,0,0,g,_,_=>rfl
 | o::l,⟨h1,h2⟩,0,j+1,g,a,b=>by
   have a:o=some g:=by simpa using a
   exact absurd (List.mem_of_getElem? (by simpa using b)) (h1 g a)
 | o::l,⟨h1,h2⟩,i+1,0,g,a,b=>by
   have b:o=some g:=by simpa using b
   exact absurd (List.mem_of_getElem? (by simpa using a)) (h1 g b)
 | o::l,⟨h1,h2⟩,i+1,j+1,g,a,b=>by
   exact congrArg (·+1) (Apart.inj h2 (g:=g) (by simpa using a) (by simpa using b))
theorem imm_none {m:Mem} {W:World} (h:Imm m W) {b:Nat} (hb:W.heap.size<=b):∀ o,m b o=none:=fun o=>by
 cases e:m b o with
 | none=>rfl
 | some v=>
   have:=h b o v e
   simp [World.cell?,Array.getElem?_eq_none hb] at this
structure Row where
 e:TypeId
 size:Nat
 n:Nat
 v:Value
 xs:List Value
structure OR (W0:World) (M:Mem) (bp:Nat) (T:TypeId) (K:List Value) (rs:List Row) (w:World):Prop where
 bel:Below W0.heap.size W0 w
 iM:Imm M w
 new:∀ b o u,M b o=some u->W0.heap.size<=b
 box:w.heap[bp]? = some (.cells K.toArray T (0,0))
 hp:W0.heap.size<=bp/\∀ o,M bp o=none
 rows:∀ r∈rs,w.ownsRow W0.heap.size r.e r.size r.v r.n r.xs
 nr:∀ r∈rs,∀ g,r.v.ownBlock=some g->∀ o,M g o=none
 ap:Apart (some bp::rs.map (·.v.ownBlock))
theorem heap_lt {w:World} {g:Nat} {o:Obj} (h:w.heap[g]? = some o):g<w.heap.size:=(Array.getElem?_eq_some_iff.1 h).1
theorem kept_none {w w':World} {base:Nat} {e:TypeId} {size:Nat} {v:Value} {n:Nat} {xs:List Value} {row:Option Nat} (h:w.ownsRow base e size v n xs) (hg:w.grownBy w' row) (hn:∀ g,v.ownBlock=some g->row≠some g):w'.ownsRow base e size v n xs:=
 h.kept hg (by
  cases e1:v.ownBlock with
  | none=>exact .inl rfl
  | some g=>
    refine .inr fun e2=>hn g e1 ?_
    exact e2.symm ▸ rfl)
theorem OR.below {W0 M bp T K rs w w'} (h:OR W0 M bp T K rs w) (hb:Below w.heap.size w w'):OR W0 M bp T K rs w':=
 ⟨h.bel.trans (hb.mono h.bel.size),h.iM.below hb,h.new,(hb.block _ (heap_lt h.box)).trans h.box,h.hp,fun r hr=>kept_none (h.rows r hr) (below_grown hb) (by simp),h.nr,h.ap⟩
theorem OR.more {W0 M M1 bp T K rs w} (h:OR W0 M bp T K rs w) (h1:Imm M1 w) (hn:∀ b o u,M1 b o=some u->W0.heap.size<=b) (hp:∀ o,M1 bp o=none) (hr:∀ r∈rs,∀ g,r.v.ownBlock=some g->∀ o,M1 g o=none):OR W0 (joinM M M1) bp T K rs w:=
 ⟨h.bel,fun b o u e=>(joinM_of e).elim (h.iM b o u) (h1 b o u),fun b o u e=>(joinM_of e).elim (h.new b o u) (hn b o u),h.box,⟨h.hp.1,fun o=>by unfold joinM;rw [hp o];exact h.hp.2 o⟩,h.rows,fun r hr' g hg o=>by unfold joinM;rw [hr r hr' g hg o];exact h.nr r hr' g hg o,h.ap⟩
theorem OR.put {W0 M bp T K rs w w'} {K':List Value} (h:OR W0 M bp T K rs w) (hb:w'.heap[bp]? = some (.cells K'.toArray T (0,0))) (hg:w.grownBy w' (some bp)):OR W0 M bp T K' rs w':=
 ⟨h.bel.grown hg h.bel.size (fun k e=>by cases e;exact h.hp.1),imm_grown h.iM hg h.hp.2,h.new,hb,h.hp,fun r hr=>kept_none (h.rows r hr) hg (fun g e e2=>h.ap.1 bp rfl (by rw [e2,<- e];exact List.mem_map.2 ⟨r,hr,rfl⟩)),h.nr,h.ap⟩
theorem OR.row {W0 M bp T K rs w w'} (h:OR W0 M bp T K rs w) {i:Nat} {r r':Row} (hi:rs[i]? = some r) (hg:w.grownBy w' r.v.ownBlock) (ho:w'.ownsRow W0.heap.size r'.e r'.size r'.v r'.n r'.xs) (hk:r'.v.ownBlock=r.v.ownBlock\/r'.v.ownBlock=some w.heap.size\/r'.v.ownBlock=none):OR W0 M bp T K (rs.set i r') w':=by
 have hr:=List.mem_of_getElem? hi
 have lt:=(h.rows r hr).lt
 have nm:∀ o,M w.heap.size o=none:=imm_none h.iM (Nat.le_refl _)
 have blt:bp<w.heap.size:=heap_lt h.box
 have hnb:∀ g,r.v.ownBlock=some g->g≠bp:=fun g e e2=>h.ap.1 bp rfl (by rw [<- e2,<- e];exact List.mem_map.2 ⟨r,hr,rfl⟩)
 refine ⟨h.bel.grown hg h.bel.size (fun k e=>(lt k e).1),?_,h.new,(hg.block bp blt (fun e=>hnb bp e.symm rfl)).trans h.box,h.hp,fun q hq=>?_,fun q hq g e=>?_,?_⟩
 ·cases e:r.v.ownBlock with
  | none=>exact h.iM.below (⟨hg.os,hg.tape,hg.output,hg.size,fun k hk=>hg.block k hk (by rw [e];simp)⟩)
  | some g=>exact imm_grown h.iM (e ▸ hg) (h.nr r hr g e)
 ·rcases List.mem_iff_getElem?.1 hq with ⟨j,hj⟩
  by_cases ej:i=j
  ·subst ej
   rw [List.getElem?_set_self (List.getElem?_eq_some_iff.1 hi).1] at hj
   cases hj;exact ho
  ·rw [List.getElem?_set_ne ej] at hj
   refine kept_none (h.rows q (List.mem_of_getElem? hj)) hg (fun g e e2=>ej ?_)
   exact Apart.inj h.ap.2 (g:=g) (by rw [List.getElem?_map,hi];exact congrArg some e2) (by rw [List.getElem?_map,hj];exact congrArg some e)
 ·rcases List.mem_or_eq_of_mem_set hq with hq | rfl
  ·exact h.nr q hq g e
  ·rcases hk with hk | hk | hk
   ·exact h.nr r hr g (hk ▸ e)
   ·rw [hk] at e;cases e;exact nm
   ·rw [hk] at e;cases e
 ·rw [List.map_set]
  have:=Apart.set (i:=i+1) (o:=r.v.ownBlock) (o':=r'.v.ownBlock) h.ap (by simpa using ⟨r,hi,rfl⟩) (fun g e=>?_)
  ·simpa using this
  ·rcases hk with hk | hk | hk
   ·exact .inl (hk ▸ e)
   ·refine .inr fun hm=>?_
    rw [hk] at e;cases e
    rcases List.mem_cons.1 hm with hm | hm
    ·cases hm;omega
    ·obtain ⟨q,hq,e2⟩:=List.mem_map.1 hm
     have:=((h.rows q hq).lt _ e2).2
     omega
   ·rw [hk] at e;cases e
def bodC (b:Body) (h:Value):List Value:=[.int .i64 b.ID,.int .i64 b.Kind,.int .i64 b.Transform.Position.X,.int .i64 b.Transform.Position.Y,.int .i64 b.Transform.Angle,.int .i64 b.Velocity.X,.int .i64 b.Velocity.Y,.int .i64 b.AngularVelocity,.int .i64 b.Force.X,.int .i64 b.Force.Y,.int .i64 b.Torque,.int .i64 b.LinearDamping,.int .i64 b.AngularDamping,.int .i64 b.GravityScale,.bool b.Bullet,.bool b.FixedRotation,.bool b.NoSleep,.bool b.Asleep,.int .i64 b.IdleSteps,h]
def bodA (b:Body):List AV:=[.v (.int .i64 b.ID),.v (.int .i64 b.Kind),.v (.int .i64 b.Transform.Position.X),.v (.int .i64 b.Transform.Position.Y),.v (.int .i64 b.Transform.Angle),.v (.int .i64 b.Velocity.X),.v (.int .i64 b.Velocity.Y),.v (.int .i64 b.AngularVelocity),.v (.int .i64 b.Force.X),.v (.int .i64 b.Force.Y),.v (.int .i64 b.Torque),.v (.int .i64 b.LinearDamping),.v (.int .i64 b.AngularDamping),.v (.int .i64 b.GravityScale),.v (.bool b.Bullet),.v (.bool b.FixedRotation),.v (.bool b.NoSleep),.v (.bool b.Asleep),.v (.int .i64 b.IdleSteps),e_sl_Fixture b.Fixtures]
theorem bodA_mk {m bl b x} (h:Rep m bl (e_sl_Fixture b.Fixtures) x):Reps m bl (bodA b) (bodC b x):=
 .cons .v (.cons .v (.cons .v (.cons .v (.cons .v (.cons .v (.cons .v (.cons .v (.cons .v (.cons .v (.cons .v (.cons .v (.cons .v (.cons .v (.cons .v (.cons .v (.cons .v (.cons .v (.cons .v (.cons h .nil)))))))))))))))))))
def worC (x:World_) (h0 h1 h2 h3:Value):List Value:=[.int .i64 x.Settings.TimeStep,.int .i64 x.Settings.Gravity.X,.int .i64 x.Settings.Gravity.Y,.int .i64 x.Settings.Iterations,.int .i64 x.Settings.SleepSteps,h0,h1,h2,h3,.int .i64 x.NextID,.int .i64 x.Frame]
def conC (c:Contact) (h:Value):List Value:=[.int .i64 c.Key.BodyA,.int .i64 c.Key.FixtureA,.int .i64 c.Key.BodyB,.int .i64 c.Key.FixtureB,.int .i64 c.Manifold.Normal.X,.int .i64 c.Manifold.Normal.Y,h]
def conA (c:Contact):List AV:=[.v (.int .i64 c.Key.BodyA),.v (.int .i64 c.Key.FixtureA),.v (.int .i64 c.Key.BodyB),.v (.int .i64 c.Key.FixtureB),.v (.int .i64 c.Manifold.Normal.X),.v (.int .i64 c.Manifold.Normal.Y),e_sl_ContactPoint c.Manifold.Points]
theorem conA_mk {m bl c h} (r:Rep m bl (e_sl_ContactPoint c.Manifold.Points) h):Reps m bl (conA c) (conC c h):=.cons .v (.cons .v (.cons .v (.cons .v (.cons .v (.cons .v (.cons r .nil))))))
def rowM (v:Value) (w:World):Mem:=fun b o=>if v.ownBlock=some b then w.cell? ⟨b,o,none⟩ else none
theorem rowM_of {v w b o u} (h:rowM v w b o=some u):v.ownBlock=some b/\w.cell? ⟨b,o,none⟩=some u:=by
 unfold rowM at h
 by_cases hb:v.ownBlock=some b
 ·rw [if_pos hb] at h;exact ⟨hb,h⟩
 ·rw [if_neg hb] at h;cases h
theorem rowM_imm {v w}:Imm (rowM v w) w:=fun _ _ _ h=>(rowM_of h).2
theorem frz {E:Ix} {w:World} {B:Nat} {e:TypeId} {sz:Nat} {v:Value} {n:Nat} {xs:List Value} {M M':Mem} {l:List (tb.T E)} (h:w.ownsRow B e sz v n xs) (hz:∀ x,(tb.el E x).cells.length=sz) (hl:l.length=n) (hr:Reps M noNames (elC tb E l) xs) (h1:∀ c∈xs,oneCell c=true)
 (m1:Mem.le M M') (m2:Mem.le (rowM v w) M'):Rep M' noNames (.sl false sz (l.map (tb.el E))) v:=by
 subst hl
 obtain ⟨hlen,⟨rfl,h0⟩ | ⟨g,cap,cur,rfl,q1,q2,q3,q4,q5,q6⟩⟩:=h
 ·have:l=[]:=List.length_eq_zero_iff.1 h0
  subst this
  exact .slnil
 ·have hl2:l.length=(l.map (tb.el E)).length:=by simp
  rw [hl2]
  refine .sl (cs:=xs) ?_ (hr.mono m1) h1 (fun _=>rfl) ?_ (by rw [<- hl2];exact q3) (by simp)
  ·intro a ha
   obtain ⟨x,-,rfl⟩:=List.mem_map.1 ha
   exact hz x
  ·intro j x e
   refine m2 _ _ _ ?_
   show rowM _ w g (0+j)=some x
   unfold rowM
   rw [if_pos (show (Value.slice (some ⟨g,0,none⟩) l.length cap).ownBlock=some g from rfl),Nat.zero_add,cell_of_blk q2]
   have hj:j<xs.length:=(List.getElem?_eq_some_iff.1 e).1
   rw [<- q6,List.getElem?_take_of_lt (by rw [<- hlen];exact hj)] at e
   rw [<- Array.getElem?_toList];exact e
def LastB (M:Mem) (bs:List Body) (hF:Value) (nF:Nat) (xb xf:List Value):Prop:=
 (bs=[]/\hF=.slice none 0 0/\nF=0/\xb=[]/\xf=[])\/∃ (init:List Body) (last:Body) (xi:List Value),bs=init++[last]/\xb=xi++bodC last hF/\Reps M noNames (elC tb Ix.tBody init) xi/\nF=last.Fixtures.length/\Reps M noNames (elC tb Ix.tFixture last.Fixtures) xf
def LastC (M:Mem) (cs:List Contact) (hP:Value) (nP:Nat) (xc xp:List Value):Prop:=
 (cs=[]/\hP=.slice none 0 0/\nP=0/\xc=[]/\xp=[])\/∃ (init:List Contact) (last:Contact) (xi:List Value),cs=init++[last]/\xc=xi++conC last hP/\Reps M noNames (elC tb Ix.tContact init) xi/\nP=last.Manifold.Points.length/\Reps M noNames (elC tb Ix.tContactPoint last.Manifold.Points) xp
theorem LastB.mono {M M' bs hF nF xb xf} (h:LastB M bs hF nF xb xf) (hm:Mem.le M M'):LastB M' bs hF nF xb xf:=h.imp (fun h=>h) fun ⟨i,l,xi,h1,h2,h3,h4,h5⟩=>⟨i,l,xi,h1,h2,h3.mono hm,h4,h5.mono hm⟩
theorem LastC.mono {M M' bs hF nF xb xf} (h:LastC M bs hF nF xb xf) (hm:Mem.le M M'):LastC M' bs hF nF xb xf:=h.imp (fun h=>h) fun ⟨i,l,xi,h1,h2,h3,h4,h5⟩=>⟨i,l,xi,h1,h2,h3.mono hm,h4,h5.mono hm⟩
def psRows (x:World_) (h0 h1 h2 h3 hF hP:Value) (nF nP:Nat) (xb xj xc xo xf xp:List Value):List Row:=[⟨56,20,x.Bodies.length,h0,xb⟩,⟨75,24,x.Joints.length,h1,xj⟩,⟨88,7,x.Contacts.length,h2,xc⟩,⟨86,4,x.Overlaps.length,h3,xo⟩,⟨67,10,nF,hF,xf⟩,⟨131,6,nP,hP,xp⟩]
structure PS (W0:World) (x:World_) (sec:Int) (M:Mem) (bp:Nat) (h0 h1 h2 h3 hF hP:Value) (nF nP:Nat) (xb xj xc xo xf xp:List Value) (w:World):Prop where
 o:OR W0 M bp 147 (worC x h0 h1 h2 h3++[.int .i64 sec]) (psRows x h0 h1 h2 h3 hF hP nF nP xb xj xc xo xf xp) w
 cB:LastB M x.Bodies hF nF xb xf
 cJ:Reps M noNames (elC tb Ix.tJoint x.Joints) xj
 cC:LastC M x.Contacts hP nP xc xp
 cO:Reps M noNames (elC tb Ix.tPairKey x.Overlaps) xo
 f1:∀ c∈xf,oneCell c=true
 p1:∀ c∈xp,oneCell c=true
section
variable {W0:World} {x:World_} {sec:Int} {M:Mem} {bp:Nat} {h0 h1 h2 h3 hF hP:Value} {nF nP:Nat} {xb xj xc xo xf xp:List Value} {w w1 w2:World}
theorem PS.below (h:PS W0 x sec M bp h0 h1 h2 h3 hF hP nF nP xb xj xc xo xf xp w) (hb:Below w.heap.size w w1):PS W0 x sec M bp h0 h1 h2 h3 hF hP nF nP xb xj xc xo xf xp w1:=⟨h.o.below hb,h.cB,h.cJ,h.cC,h.cO,h.f1,h.p1⟩
theorem PS.more {M1:Mem} (h:PS W0 x sec M bp h0 h1 h2 h3 hF hP nF nP xb xj xc xo xf xp w) (hi:Imm M1 w) (hn:∀ b o u,M1 b o=some u->W0.heap.size<=b) (hp:∀ o,M1 bp o=none) (hr:∀ r∈psRows x h0 h1 h2 h3 hF hP nF nP xb xj xc xo xf xp,∀ g,r.v.ownBlock=some g->∀ o,M1 g o=none):PS W0 x sec (joinM M M1) bp h0 h1 h2 h3 hF hP nF nP xb xj xc xo xf xp w:=
 have hm:=joinM_l h.o.iM hi
 ⟨h.o.more hi hn hp hr,h.cB.mono hm,h.cJ.mono hm,h.cC.mono hm,h.cO.mono hm,h.f1,h.p1⟩
theorem PS.enter {sec':Int} (h:PS W0 x sec M bp h0 h1 h2 h3 hF hP nF nP xb xj xc xo xf xp w):PS W0 x sec' M bp h0 h1 h2 h3 hF hP nF nP xb xj xc xo xf xp (w.setCell ⟨bp,11,none⟩ (.int .i64 sec')):=by
 refine ⟨h.o.put ?_ ⟨rfl,rfl,rfl,by rw [size_set];exact Nat.le_refl _,fun k _ hk=>heap_set _ _ _ _ (fun e=>hk (by rw [e]))⟩,h.cB,h.cJ,h.cC,h.cO,h.f1,h.p1⟩
 exact heap_own h.o.box 11 _ _ rfl
theorem PS.joint {j:Joint} {A:List Value} {h1':Value} (h:PS W0 x sec M bp h0 h1 h2 h3 hF hP nF nP xb xj xc xo xf xp w) (hA:Reps M noNames (tb.el Ix.tJoint j).cells A) (ho:w1.ownsRow W0.heap.size 75 24 h1' (x.Joints.length+1) (xj++A)) (hg:w.grownBy w1 h1.ownBlock) (hk:h1'.ownBlock=h1.ownBlock\/h1'.ownBlock=some w.heap.size):
 PS W0 { x with Joints:=x.Joints++[j] } sec M bp h0 h1' h2 h3 hF hP nF nP xb (xj++A) xc xo xf xp (w1.setCell ⟨bp,6,none⟩ h1'):=by
 have R:=h.o.row (i:=1) (r:=⟨75,24,x.Joints.length,h1,xj⟩) (r':=⟨75,24,x.Joints.length+1,h1',xj++A⟩) rfl hg ho (hk.imp (fun h=>h) .inl)
 have hl:(x.Joints++[j]).length=x.Joints.length+1:=by simp
 refine ⟨?_,h.cB,?_,h.cC,h.cO,h.f1,h.p1⟩
 ·have:=R.put (K':=worC { x with Joints:=x.Joints++[j] } h0 h1' h2 h3++[.int .i64 sec]) (w':=w1.setCell ⟨bp,6,none⟩ h1') (heap_own R.box 6 _ _ rfl) ⟨rfl,rfl,rfl,by rw [size_set];exact Nat.le_refl _,fun k _ hk=>heap_set _ _ _ _ (fun e=>hk (by rw [e]))⟩
  unfold psRows at this ⊢
  simp only [hl]
  exact this
 ·have:=h.cJ.append hA
  rw [<- elC_snoc Ix.tJoint x.Joints j] at this
  exact this
theorem PS.key {j:PairKey} {A:List Value} {h3':Value} (h:PS W0 x sec M bp h0 h1 h2 h3 hF hP nF nP xb xj xc xo xf xp w) (hA:Reps M noNames (tb.el Ix.tPairKey j).cells A) (ho:w1.ownsRow W0.heap.size 86 4 h3' (x.Overlaps.length+1) (xo++A)) (hg:w.grownBy w1 h3.ownBlock) (hk:h3'.ownBlock=h3.ownBlock\/h3'.ownBlock=some w.heap.size):
 PS W0 { x with Overlaps:=x.Overlaps++[j] } sec M bp h0 h1 h2 h3' hF hP nF nP xb xj xc (xo++A) xf xp (w1.setCell ⟨bp,8,none⟩ h3'):=by
 have R:=h.o.row (i:=3) (r:=⟨86,4,x.Overlaps.length,h3,xo⟩) (r':=⟨86,4,x.Overlaps.length+1,h3',xo++A⟩) rfl hg ho (hk.imp (fun h=>h) .inl)
 have hl:(x.Overlaps++[j]).length=x.Overlaps.length+1:=by simp
 refine ⟨?_,h.cB,h.cJ,h.cC,?_,h.f1,h.p1⟩
 ·have:=R.put (K':=worC { x with Overlaps:=x.Overlaps++[j] } h0 h1 h2 h3'++[.int .i64 sec]) (w':=w1.setCell ⟨bp,8,none⟩ h3') (heap_own R.box 8 _ _ rfl) ⟨rfl,rfl,rfl,by rw [size_set];exact Nat.le_refl _,fun k _ hk=>heap_set _ _ _ _ (fun e=>hk (by rw [e]))⟩
  unfold psRows at this ⊢
  simp only [hl]
  exact this
 ·have:=h.cO.append hA
  rw [<- elC_snoc Ix.tPairKey x.Overlaps j] at this
  exact this
end
theorem set_app {α:Type} (xi l:List α) (k:Nat) (u:α):(xi++l).set (xi.length+k) u=xi++l.set k u:=by
 rw [List.set_append_right _ _ (Nat.le_add_right _ _),Nat.add_sub_cancel_left]
theorem grown_self {w:World} {r:Option Nat}:w.grownBy w r:=⟨rfl,rfl,rfl,Nat.le_refl _,fun _ _ _=>rfl⟩
theorem grown_set (w:World) (a:Addr) (x:Value):w.grownBy (w.setCell a x) (some a.block):=⟨rfl,rfl,rfl,by rw [size_set];exact Nat.le_refl _,fun k _ hk=>heap_set _ _ _ _ (fun e=>hk (by rw [e]))⟩
theorem row_set {w:World} {base:Nat} {e:TypeId} {size:Nat} {g cap n:Nat} {xs:List Value} (h:w.ownsRow base e size (.slice (some ⟨g,0,none⟩) n cap) n xs) {j:Nat} (hj:j<xs.length) (hc:0<n) (u:Value) (hu:u.oneCell'=true):
 (w.setCell ⟨g,j,none⟩ u).ownsRow base e size (.slice (some ⟨g,0,none⟩) n cap) n (xs.set j u):=by
 obtain ⟨h1,⟨h2,h3⟩ | ⟨g',cap',cur,e1,q1,q2,q3,q4,q5,q6⟩⟩:=h
 ·omega
 ·cases e1
  refine ⟨by rw [List.length_set];exact h1,.inr ⟨g,cap,cur.setIfInBounds j u,rfl,q1,heap_own q2 j u _ rfl,q3,q4,by simpa using q5,?_⟩⟩
  rw [Array.toList_setIfInBounds,List.take_set,q6]
theorem OR.drop {W0 M bp T K rs w} (h:OR W0 M bp T K rs w) {i:Nat} {r:Row} (hi:rs[i]? = some r) (z:Row) (hz:z.v=.slice none 0 0/\z.n=0/\z.xs=[]):OR W0 (joinM M (rowM r.v w)) bp T K (rs.set i z) w:=by
 have hr:=List.mem_of_getElem? hi
 have R0:=h.row (r':=z) hi grown_self (by rw [hz.1,hz.2.1,hz.2.2];exact World.ownsRow_nil _ _ _ _) (.inr (.inr (by rw [hz.1];rfl)))
 refine R0.more rowM_imm (fun b o u e=>((h.rows r hr).lt b (rowM_of e).1).1) (fun o=>?_) (fun q hq g hg o=>?_)
 ·cases e:rowM r.v w bp o with
  | none=>rfl
  | some u=>exact absurd (List.mem_map.2 ⟨r,hr,(rowM_of e).1⟩) (h.ap.1 bp rfl)
 ·cases e:rowM r.v w g o with
  | none=>rfl
  | some u=>
    have e1:=(rowM_of e).1
    rcases List.mem_iff_getElem?.1 hq with ⟨j,hj⟩
    by_cases ej:i=j
    ·subst ej
     rw [List.getElem?_set_self (List.getElem?_eq_some_iff.1 hi).1] at hj
     cases hj
     rw [hz.1] at hg
     cases hg
    ·rw [List.getElem?_set_ne ej] at hj
     exact absurd (Apart.inj h.ap.2 (g:=g) (by rw [List.getElem?_map,hi];exact congrArg some e1) (by rw [List.getElem?_map,hj];exact congrArg some hg)) ej
section
variable {W0:World} {x:World_} {sec:Int} {M:Mem} {bp:Nat} {h0 h1 h2 h3 hF hP:Value} {nF nP:Nat} {xb xj xc xo xf xp:List Value} {w w1 w2:World}
theorem PS.body {b:Body} (hb:b.Fixtures=[]) {h0':Value} (h:PS W0 x sec M bp h0 h1 h2 h3 hF hP nF nP xb xj xc xo xf xp w) (ho:w1.ownsRow W0.heap.size 56 20 h0' (x.Bodies.length+1) (xb++bodC b (.slice none 0 0))) (hg:w.grownBy w1 h0.ownBlock) (hk:h0'.ownBlock=h0.ownBlock\/h0'.ownBlock=some w.heap.size):
 PS W0 { x with Bodies:=x.Bodies++[b] } sec (joinM M (rowM hF w)) bp h0' h1 h2 h3 (.slice none 0 0) hP 0 nP (xb++bodC b (.slice none 0 0)) xj xc xo [] xp (w1.setCell ⟨bp,5,none⟩ h0'):=by
 have R1:=h.o.drop (i:=4) (r:=⟨67,10,nF,hF,xf⟩) rfl ⟨67,10,0,.slice none 0 0,[]⟩ ⟨rfl,rfl,rfl⟩
 have hm:Mem.le M (joinM M (rowM hF w)):=joinM_l h.o.iM rowM_imm
 have R2:=R1.row (i:=0) (r:=⟨56,20,x.Bodies.length,h0,xb⟩) (r':=⟨56,20,x.Bodies.length+1,h0',xb++bodC b (.slice none 0 0)⟩) rfl hg ho (hk.imp (fun h=>h) .inl)
 have R3:=R2.put (K':=worC { x with Bodies:=x.Bodies++[b] } h0' h1 h2 h3++[.int .i64 sec]) (w':=w1.setCell ⟨bp,5,none⟩ h0') (heap_own R2.box 5 _ _ rfl) (grown_set _ _ _)
 have hl:(x.Bodies++[b]).length=x.Bodies.length+1:=by simp
 refine ⟨?_,.inr ⟨x.Bodies,b,xb,rfl,rfl,?_,by rw [hb];rfl,by rw [hb];exact .nil⟩,h.cJ.mono hm,h.cC.mono hm,h.cO.mono hm,by simp,h.p1⟩
 ·unfold psRows at R3 ⊢
  simp only [hl]
  exact R3
 ·rcases h.cB with ⟨e1,-,-,e4,-⟩ | ⟨init,last,xi,e1,e2,e3,e4,e5⟩
  ·rw [e1,e4];exact .nil
  ·rw [e1,e2]
   have hf:=frz (E:=Ix.tFixture) (h.o.rows ⟨67,10,nF,hF,xf⟩ (by simp [psRows])) (fun _=>rfl) e4.symm e5 h.f1 hm (joinM_r _ _)
   have:=(e3.mono hm).append (bodA_mk (b:=last) hf)
   have e:=elC_snoc Ix.tBody init last
   have ec:(tb.el Ix.tBody last).cells=bodA last:=rfl
   rw [ec] at e
   rw [<- e] at this
   exact this
theorem PS.contact {b:Contact} (hb:b.Manifold.Points=[]) {h2':Value} (h:PS W0 x sec M bp h0 h1 h2 h3 hF hP nF nP xb xj xc xo xf xp w) (ho:w1.ownsRow W0.heap.size 88 7 h2' (x.Contacts.length+1) (xc++conC b (.slice none 0 0))) (hg:w.grownBy w1 h2.ownBlock) (hk:h2'.ownBlock=h2.ownBlock\/h2'.ownBlock=some w.heap.size):
 PS W0 { x with Contacts:=x.Contacts++[b] } sec (joinM M (rowM hP w)) bp h0 h1 h2' h3 hF (.slice none 0 0) nF 0 xb xj (xc++conC b (.slice none 0 0)) xo xf [] (w1.setCell ⟨bp,7,none⟩ h2'):=by
 have R1:=h.o.drop (i:=5) (r:=⟨131,6,nP,hP,xp⟩) rfl ⟨131,6,0,.slice none 0 0,[]⟩ ⟨rfl,rfl,rfl⟩
 have hm:Mem.le M (joinM M (rowM hP w)):=joinM_l h.o.iM rowM_imm
 have R2:=R1.row (i:=2) (r:=⟨88,7,x.Contacts.length,h2,xc⟩) (r':=⟨88,7,x.Contacts.length+1,h2',xc++conC b (.slice none 0 0)⟩) rfl hg ho (hk.imp (fun h=>h) .inl)
 have R3:=R2.put (K':=worC { x with Contacts:=x.Contacts++[b] } h0 h1 h2' h3++[.int .i64 sec]) (w':=w1.setCell ⟨bp,7,none⟩ h2') (heap_own R2.box 7 _ _ rfl) (grown_set _ _ _)
 have hl:(x.Contacts++[b]).length=x.Contacts.length+1:=by simp
 refine ⟨?_,h.cB.mono hm,h.cJ.mono hm,.inr ⟨x.Contacts,b,xc,rfl,rfl,?_,by rw [hb];rfl,by rw [hb];exact .nil⟩,h.cO.mono hm,h.f1,by simp⟩
 ·unfold psRows at R3 ⊢
  simp only [hl]
  exact R3
 ·rcases h.cC with ⟨e1,-,-,e4,-⟩ | ⟨init,last,xi,e1,e2,e3,e4,e5⟩
  ·rw [e1,e4];exact .nil
  ·rw [e1,e2]
   have hf:=frz (E:=Ix.tContactPoint) (h.o.rows ⟨131,6,nP,hP,xp⟩ (by simp [psRows])) (fun _=>rfl) e4.symm e5 h.p1 hm (joinM_r _ _)
   have:=(e3.mono hm).append (conA_mk (c:=last) hf)
   have e:=elC_snoc Ix.tContact init last
   have ec:(tb.el Ix.tContact last).cells=conA last:=rfl
   rw [ec] at e
   rw [<- e] at this
   exact this
theorem PS.fixture {init:List Body} {last:Body} {f:Fixture} {A:List Value} {hF':Value} {gB cap:Nat} (hx:x.Bodies=init++[last]) (h:PS W0 x sec M bp h0 h1 h2 h3 hF hP nF nP xb xj xc xo xf xp w) (hh:h0=.slice (some ⟨gB,0,none⟩) x.Bodies.length cap) (hA:Reps M noNames (tb.el Ix.tFixture f).cells A) (hA1:∀ c∈A,oneCell c=true)
 (ho:w1.ownsRow W0.heap.size 67 10 hF' (nF+1) (xf++A)) (hg:w.grownBy w1 hF.ownBlock) (hk:hF'.ownBlock=hF.ownBlock\/hF'.ownBlock=some w.heap.size) (h1':oneCell hF'=true):
 ∃ xb',PS W0 { x with Bodies:=init++[{ last with Fixtures:=last.Fixtures++[f] }] } sec M bp h0 h1 h2 h3 hF' hP (nF+1) nP xb' xj xc xo (xf++A) xp (w1.setCell ⟨gB,init.length*20+19,none⟩ hF'):=by
 rcases h.cB with ⟨e1,-⟩ | ⟨init',last',xi,e1,e2,e3,e4,e5⟩
 ·rw [hx] at e1;simp at e1
 obtain ⟨rfl,rfl⟩:init=init'/\last=last':=by
  rw [hx] at e1
  have:=List.append_inj' e1 rfl
  exact ⟨this.1,by simpa using this.2⟩
 have R1:=h.o.row (i:=4) (r:=⟨67,10,nF,hF,xf⟩) (r':=⟨67,10,nF+1,hF',xf++A⟩) rfl hg ho (hk.imp (fun h=>h) .inl)
 have hxi:xi.length=init.length*20:=e3.length.symm.trans (elC_len Ix.tBody 20 init (fun _=>rfl))
 have hn:x.Bodies.length=init.length+1:=by rw [hx];simp
 have rB:=R1.rows ⟨56,20,x.Bodies.length,h0,xb⟩ (by simp [psRows])
 have hxb:xb.length=x.Bodies.length*20:=rB.1
 have rB':=row_set (hh ▸ rB) (j:=init.length*20+19) (by rw [hxb,hn];omega) (by omega) hF' h1'
 have hset:xb.set (init.length*20+19) hF'=xi++bodC { last with Fixtures:=last.Fixtures++[f] } hF':=by
  rw [e2,<- hxi,set_app]
  rfl
 have R2:=R1.row (i:=0) (r:=⟨56,20,x.Bodies.length,h0,xb⟩) (r':=⟨56,20,x.Bodies.length,h0,xi++bodC { last with Fixtures:=last.Fixtures++[f] } hF'⟩) (w':=w1.setCell ⟨gB,init.length*20+19,none⟩ hF') rfl (by
  have:=grown_set w1 ⟨gB,init.length*20+19,none⟩ hF'
  rw [hh];exact this) (by rw [<- hset];rw [hh];exact rB') (.inl rfl)
 have hl:(init++[{ last with Fixtures:=last.Fixtures++[f] }]).length=x.Bodies.length:=by rw [hn];simp
 refine ⟨_,⟨?_,.inr ⟨init,{ last with Fixtures:=last.Fixtures++[f] },xi,rfl,rfl,e3,by rw [e4];simp,?_⟩,h.cJ,h.cC,h.cO,fun c hc=>(List.mem_append.1 hc).elim (h.f1 c) (hA1 c),h.p1⟩⟩
 ·unfold psRows at R2 ⊢
  simp only [hl]
  exact R2
 ·have:=e5.append hA
  rw [<- elC_snoc Ix.tFixture last.Fixtures f] at this
  exact this
theorem PS.point {init:List Contact} {last:Contact} {f:ContactPoint} {A:List Value} {hP':Value} {gC cap:Nat} (hx:x.Contacts=init++[last]) (h:PS W0 x sec M bp h0 h1 h2 h3 hF hP nF nP xb xj xc xo xf xp w) (hh:h2=.slice (some ⟨gC,0,none⟩) x.Contacts.length cap) (hA:Reps M noNames (tb.el Ix.tContactPoint f).cells A) (hA1:∀ c∈A,oneCell c=true)
 (ho:w1.ownsRow W0.heap.size 131 6 hP' (nP+1) (xp++A)) (hg:w.grownBy w1 hP.ownBlock) (hk:hP'.ownBlock=hP.ownBlock\/hP'.ownBlock=some w.heap.size) (h1':oneCell hP'=true):
 ∃ xc',PS W0 { x with Contacts:=init++[{ last with Manifold:={ last.Manifold with Points:=last.Manifold.Points++[f] } }] } sec M bp h0 h1 h2 h3 hF hP' nF (nP+1) xb xj xc' xo xf (xp++A) (w1.setCell ⟨gC,init.length*7+6,none⟩ hP'):=by
 rcases h.cC with ⟨e1,-⟩ | ⟨init',last',xi,e1,e2,e3,e4,e5⟩
 ·rw [hx] at e1;simp at e1
 obtain ⟨rfl,rfl⟩:init=init'/\last=last':=by
  rw [hx] at e1
  have:=List.append_inj' e1 rfl
  exact ⟨this.1,by simpa using this.2⟩
 have R1:=h.o.row (i:=5) (r:=⟨131,6,nP,hP,xp⟩) (r':=⟨131,6,nP+1,hP',xp++A⟩) rfl hg ho (hk.imp (fun h=>h) .inl)
 have hxi:xi.length=init.length*7:=e3.length.symm.trans (elC_len Ix.tContact 7 init (fun _=>rfl))
 have hn:x.Contacts.length=init.length+1:=by rw [hx];simp
 have rB:=R1.rows ⟨88,7,x.Contacts.length,h2,xc⟩ (by simp [psRows])
 have hxb:xc.length=x.Contacts.length*7:=rB.1
 have rB':=row_set (hh ▸ rB) (j:=init.length*7+6) (by rw [hxb,hn];omega) (by omega) hP' h1'
 have hset:xc.set (init.length*7+6) hP'=xi++conC { last with Manifold:={ last.Manifold with Points:=last.Manifold.Points++[f] } } hP':=by
  rw [e2,<- hxi,set_app]
  rfl
 have R2:=R1.row (i:=2) (r:=⟨88,7,x.Contacts.length,h2,xc⟩) (r':=⟨88,7,x.Contacts.length,h2,xi++conC { last with Manifold:={ last.Manifold with Points:=last.Manifold.Points++[f] } } hP'⟩) (w':=w1.setCell ⟨gC,init.length*7+6,none⟩ hP') rfl (by
  have:=grown_set w1 ⟨gC,init.length*7+6,none⟩ hP'
  rw [hh];exact this) (by rw [<- hset];rw [hh];exact rB') (.inl rfl)
 have hl:(init++[{ last with Manifold:={ last.Manifold with Points:=last.Manifold.Points++[f] } }]).length=x.Contacts.length:=by rw [hn];simp
 refine ⟨_,⟨?_,h.cB,h.cJ,.inr ⟨init,{ last with Manifold:={ last.Manifold with Points:=last.Manifold.Points++[f] } },xi,rfl,rfl,e3,by rw [e4];simp,?_⟩,h.cO,h.f1,fun c hc=>(List.mem_append.1 hc).elim (h.p1 c) (hA1 c)⟩⟩
 ·unfold psRows at R2 ⊢
  simp only [hl]
  exact R2
 ·have:=e5.append hA
  rw [<- elC_snoc Ix.tContactPoint last.Manifold.Points f] at this
  exact this
end
section
variable {P:Program} {o:Oper} {a:Act} {w:World} {C:World->Prop}
theorem quiet_eq {v:Value} (h:(execOp a.eval o).run P w=.ok (.value v) w):o.quietAt P a (fun w''=>w''=w) w v:=by
 unfold Oper.quietAt
 rw [h]
 exact ⟨rfl,rfl⟩
def fldO (P:Program) (t f:Nat):Option Nat:=match P.underlying t with
 | some (.struct fs)=>match fs[f]? with
   | some fd=>match tSz P fd.type with
     | some (n+1)=>some fd.offset
     | _=>none
   | none=>none
 | _=>none
theorem quiet_fld {s:TypeId} {x:Operand} {f b off fo:Nat} (e:o.op=.fieldAddr s x f) (hx:a.eval x=.pointer (some ⟨b,off,none⟩)) (hf:fldO P s f=some fo):o.quietAt P a (fun w''=>w''=w) w (.pointer (some ⟨b,off+fo,none⟩)):=by
 unfold fldO at hf
 split at hf
 ·rename_i fs hT
  split at hf
  ·rename_i fd hd
   split at hf
   ·rename_i n hs
    cases hf
    refine quiet_eq ?_
    simp [execOp,e,hx,Instr.fieldAt,run_underlying_of hT,hd,Instr.sureAddr,fieldPlace,run_sizeOf_of hs,addr_add]
   ·cases hf
  ·cases hf
 ·cases hf
def idxO (P:Program) (t:Nat):Option Nat:=match P.underlying t with
 | some (.slice e)=>tSz P e
 | _=>none
theorem quiet_idx {s:TypeId} {x y:Operand} {b off sz n c:Nat} {i:Int} (e:o.op=.indexAddr s x y) (hx:a.eval x=.slice (some ⟨b,off,none⟩) n c) (hy:a.eval y=.int .i64 i) (hf:idxO P s=some sz) (h0:0<=i) (h1:i<n):
 o.quietAt P a (fun w''=>w''=w) w (.pointer (some ⟨b,off+i.toNat*sz,none⟩)):=by
 unfold idxO at hf
 split at hf
 ·rename_i e' hT
  refine quiet_eq ?_
  simp [execOp,e,hx,hy,Instr.indexAt,asIntOf,run_underlying_of hT,h0,h1,run_sizeOf_of hf,addr_add]
 ·cases hf
theorem quiet_move {x:Operand} {v:Value} (e:o.op=.move x) (hx:a.eval x=v):o.quietAt P a (fun w''=>w''=w) w v:=quiet_eq (by simp [execOp,e,hx])
theorem quiet_nil {x:Operand} {ad:Addr} (e:o.op=.nilCheck x) (hx:a.eval x=.pointer (some ad)):o.quietAt P a (fun w''=>w''=w) w (.pointer (some ad)):=quiet_eq (by simp [execOp,e,hx])
theorem quiet_ld1 {ty:TypeId} {y:Operand} {b off:Nat} {v:Value} (e:o.op=.load ty y) (hy:a.eval y=.pointer (some ⟨b,off,none⟩)) (ha:tAg P ty=some false) (hc:w.cell? ⟨b,off,none⟩=some v):o.quietAt P a (fun w''=>w''=w) w v:=by
 refine quiet_eq ?_
 have:=run_loadVar_one (P:=P) ha hc
 simp [execOp,e,hy,Instr.loadAt,Instr.sureAddr,this]
theorem quiet_ldb {ty:TypeId} {y:Operand} {b:Nat} {cs:List Value} {T:TypeId} {fr:Nat × Nat}
 (e:o.op=.load ty y) (hy:a.eval y=.pointer (some ⟨b,0,none⟩)) (ha:tAg P ty=some true) (hs:tSz P ty=some cs.length)
 (hC:w.heap[b]? = some (.cells cs.toArray T fr)):o.quietAt P a (fun w''=>w''=w) w (.agg cs.toArray):=by
 refine quiet_eq ?_
 have hld:=run_loadVar_agg (P:=P) (ty:=ty) (w:=w) (b:=b) (o:=0) (cs:=cs) ha hs (fun j v e=>by rw [Nat.zero_add,cell_of_blk hC];simpa using e)
 simp [execOp,e,hy,Instr.loadAt,Instr.sureAddr,hld]
def bld (P:Program) (t:Nat) (parts:List (Nat × Value)):Option (Array Value):=match P.underlying t with
 | some (.struct fs)=>match tZero P t with
   | some zs=>if fs.toList.all (fun f=>(tSz P f.type).isSome)=true then Instr.fill (fieldPl P fs) zs.toArray parts else none
   | none=>none
 | _=>none
theorem quiet_bld {t:TypeId} {ps:Array (Nat × Operand)} {parts:List (Nat × Value)} {cs:Array Value} (e:o.op=.build t ps) (hp:ps.toList.map (fun p=>(p.1,a.eval p.2))=parts) (hb:bld P t parts=some cs):o.quietAt P a (fun w''=>w''=w) w (.agg cs):=by
 unfold bld at hb
 split at hb
 ·rename_i fs hT
  split at hb
  ·rename_i zs hz
   split at hb
   ·rename_i hf
    obtain ⟨z,hz1,hz2⟩:=run_zero_of hz w
    refine quiet_eq ?_
    have hm:(fs.mapM fun f=>(do Pure.pure (f.offset,<- sizeOf f.type):Sem (Nat × Nat))).run P w=.ok (fs.map fun f=>(f.offset,(tSz P f.type).getD 0)) w:=by
     rw [Array.mapM_eq_mapM_toList,Sem.run_map,run_fields w fs.toList (fun f hf'=>List.all_eq_true.1 hf f hf')]
     simp only [Result.andThen_ok]
     congr 1
     exact Array.ext' (by rw [Array.toList_map])
    have hpl:(fun i=>(fs.map fun f=>(f.offset,(tSz P f.type).getD 0))[i]?)=fieldPl P fs:=by
     funext i;simp [fieldPl]
    have k1':Instr.fill (fun i=>(fs.map fun f=>(f.offset,(tSz P f.type).getD 0))[i]?) z.cells (ps.map fun (i,x)=>(i,a.eval x)).toList=some cs:=by
     rw [hpl,<- hb,<- hp,<- hz2];simp
    simp only [execOp,e,Instr.build,Sem.run_bind,hz1,Result.andThen_ok,run_underlying_of hT,hm,k1',Sem.run_pure]
   ·cases hb
  ·cases hb
 ·cases hb
theorem op_cell {Q:Exit->Act->World->Prop} {K:Act->World->Prop} {ty:TypeId} {t z:Operand} {b off:Nat} {v u:Value} (e:o.op=.store ty t z) (hd:o.dst=none) (ht:a.eval t=.pointer (some ⟨b,off,none⟩)) (hz:a.eval z=v) (hv:v.cells=#[v]) (hs:tSz P ty=some 1)
 (hc:w.cell? ⟨b,off,none⟩=some u) (hf:w.frozen? ⟨b,off,none⟩=false) (h1:v.oneCell'=true)
 (h:K a (w.setCell ⟨b,off,none⟩ v)):o.wp P a w K Q:=by
 have hst:=run_storeCells_cells (P:=P) b off [v] 0 w (by intro j hj;simp at hj;subst hj;simp [hc]) (by intro j hj;simp at hj;subst hj;simpa using hf) (by simpa using h1)
 have r2:(execOp a.eval o).run P w=.ok .skip (w.setCell ⟨b,off,none⟩ v):=by
  have hst:Sem.run P (storeCells ⟨b,off,none⟩ [v]) w=Result.ok () (w.setCell ⟨b,off,none⟩ v):=hst
  simp [execOp,e,ht,hz,Instr.storeAt,Instr.sureAddr,storeVar,run_sizeOf_of hs,hv,hst]
 unfold Oper.wp
 rw [r2,Oper.upon_skip,hd]
 exact h
end
theorem fold_set:∀ (cs:List Value) (k:Nat) (z:Array Value),z.size=k+cs.length->(cs.zipIdx k).foldl (fun (c:Array Value) (x:Value × Nat)=>c.setIfInBounds x.2 x.1) z=(z.toList.take k++cs).toArray
 | [],k,z,h=>by
   have h:z.size=k:=h
   rw [List.append_nil,List.take_of_length_le (by simp [h])];rfl
 | c :: t,k,z,h=>by
   have h:z.size=k+(t.length+1):=h
   rw [List.zipIdx_cons,List.foldl_cons,fold_set t (k+1) _ (by simp [h];omega)]
   have:(z.setIfInBounds k c).toList.take (k+1)=z.toList.take k++[c]:=by
    rw [Array.toList_setIfInBounds,List.set_eq_take_append_cons_drop,if_pos (by simp [h])]
    rw [List.take_append,List.length_take,Array.length_toList]
    have h1:min k z.size=k:=by omega
    rw [h1,List.take_of_length_le (by simp;omega),Nat.add_sub_cancel_left];rfl
   show ((z.setIfInBounds k c).toList.take (k+1)++t).toArray=_
   rw [this,List.append_assoc];rfl
theorem op_build1 {P:Program} {o:Oper} {Q:Exit->Act->World->Prop} {K:Act->World->Prop} {a:Act} {w:World} {t e:TypeId} {x:Operand} {i:TypeInfo} {z:Value} {cs:List Value}
 (ho:o.op=.buildSlice t 1 #[(0,x)]) (hx:a.eval x=.agg cs.toArray) (ht:P.underlying t=some (.slice e)) (hi:P.info? e=some i) (hz:i.zero=some z) (hs:i.size=cs.length) (h1:z.cells.size=cs.length)
 (hp:0<cs.length) (hlim:cs.length<=16777216)
 (h:K (a.put o.dst (.slice (some ⟨w.heap.size,0,none⟩) 1 1)) (w.alloc (.cells cs.toArray e))):o.wp P a w K Q:=by
 have hsz:tSz P e=some cs.length:=by simp [tSz,hi,hs]
 have hrun:(execOp a.eval o).run P w=.ok (.value (.slice (some ⟨w.heap.size,0,none⟩) 1 1)) (w.alloc (.cells cs.toArray e)):=by
  have hlim':¬ (16777216<cs.length):=by omega
  have h0:¬ (1*cs.length=0):=by omega
  have hne:¬ cs=[]:=fun h=>by rw [h] at hp;simp at hp
  have hc:(Value.agg cs.toArray).cells=cs.toArray:=rfl
  have hcs:cs.toArray.size=cs.length:=by simp
  simp only [execOp,ho,Instr.buildSlice,Sem.run_bind,run_underlying_of ht,Result.andThen_ok,run_sizeOf_of hsz]
  simp only [List.map_toArray,List.map_cons,List.map_nil,hx]
  simp [hlim',hne,zeroValue,typeInfo,hi,hz,Instr.fill,newRow,hc]
  rw [show cs.zipIdx=cs.zipIdx 0 from rfl,fold_set cs 0 _ (by simp)]
  simp
 unfold Oper.wp
 rw [hrun,Oper.upon_value]
 exact h
theorem op_append {P:Program} {o:Oper} {Q:Exit->Act->World->Prop} {K:Act->World->Prop} {a:Act} {w w':World} {s x:Operand} {t:TypeId} {vs vx y:Value}
 (e:o.op=.call { callee:=.builtin .append,args:=#[s,x],argTypes:=#[t,t] }) (hs:a.eval s=vs) (hx:a.eval x=vx) (hr:(Builtin.append_ #[t,t] o.type #[vs,vx]).run P w=.ok y w') (hk:K (a.put o.dst y) w'):o.wp P a w K Q:=by
 unfold Oper.wp execOp
 simp only [e,resolve,invoke,builtin,Sem.run_bind,Sem.run_pure,Result.andThen_ok,List.map_toArray,List.map_cons,List.map_nil,hs,hx,hr]
 exact hk
theorem wp_region_app {P:Program} {id:Nat} {Q:Exit->Act->World->Prop} {ops:Array Oper} {a0:Act} {w:World} (hm:P.follows .mixedOrders=true)
 (n iB iA:Nat) (ds:Nat->Nat) (val:Nat->Value) (Base:World->Prop)
 (B:Nat) (t e:TypeId) (i0:TypeInfo) (z:Value) (size bytes:Nat) (ht:P.underlying t=some (.slice e)) (hi:P.info? e=some i0) (hz:i0.zero=some z)
 (hsize:i0.size=size) (hby:i0.bytes=bytes) (hzs:z.cells.size=size) (hsz:0<size/\size<=16777216)
 (v:Value) (nn:Nat) (xs A:List Value) (hown:w.ownsRow B e size v nn xs) (hA:A.length=size) (hA1:∀ u∈A,u.oneCell'=true) (h63:nn+1<=maxLen) (hbytes:(nn+1)*bytes<=140737488355328) (hB:B<=w.heap.size)
 (hn:ops.size=n+1)
 (hback:∀ (i:Nat) (o:Oper),ops[i]? = some o->∀ e∈o.after,Region.binds .any e=true->e.on<i)
 (hinj:∀ i i',i<n->i'<n->ds i=ds i'->i=i') (hlt:iB<n/\iA<n/\iB≠iA)
 (hbase:∀ w1 w2,Below w.heap.size w w1->w1.grownBy w2 v.ownBlock->Base w2)
 (hp:∀ i o,i<n->i≠iB->i≠iA->ops[i]? = some o->o.guard=none/\o.dst=some (ds i)/\ds i<a0.tmps.size/\∀ (a:Act) w',Base w'->(∀ e∈o.after,Region.binds .any e=true->e.on≠iB->e.on≠iA->a.tmps[ds e.on]? = some (val e.on))->
   (∀ j,(∀ i,i<n->ds i≠j)->a.tmps[j]? = a0.tmps[j]?)->o.quietAt P a (fun w''=>w''=w') w' (val i))
 (hBo:∃ o x,ops[iB]? = some o/\o.guard=none/\o.dst=some (ds iB)/\ds iB<a0.tmps.size/\o.op=.buildSlice t 1 #[(0,x)]/\∀ a:Act,(∀ e∈o.after,Region.binds .any e=true->e.on≠iB->e.on≠iA->a.tmps[ds e.on]? = some (val e.on))->
   a.eval x=.agg A.toArray)
 (hAo:∃ o s,ops[iA]? = some o/\o.guard=none/\o.dst=some (ds iA)/\ds iA<a0.tmps.size/\o.op=.call { callee:=.builtin .append,args:=#[s,.tmp (ds iB)],argTypes:=#[t,t] }/\(∃ e∈o.after,Region.binds .any e=true/\e.on=iB)/\∀ a:Act,(∀ e∈o.after,Region.binds .any e=true->e.on≠iB->e.on≠iA->a.tmps[ds e.on]? = some (val e.on))->
   a.eval s=v)
 (hl : ∃ o,ops[n]? = some o/\o.guard=none/\(∀ f:Nat->Bool,(∀ e∈o.after,Region.binds .any e=true->f e.on=true)->(∀ i o,ops[i]? = some o->f i=true->∀ e∈o.after,Region.binds .any e=true->f e.on=true)->∀ i,i<n->f i=true)/\
   ∀ v' w1 w2 (a:Act),Below w.heap.size w w1->w1.grownBy w2 v.ownBlock->w2.ownsRow B e size v' (nn+1) (xs++A)->(v'.ownBlock=v.ownBlock\/v'.ownBlock=some w1.heap.size)->a.tmps.size=a0.tmps.size->a.defers=a0.defers->
     (∀ i,i<n->i≠iB->i≠iA->a.tmps[ds i]? = some (val i))->a.tmps[ds iA]? = some v'->(∀ j,(∀ i,i<n->ds i≠j)->a.tmps[j]? = a0.tmps[j]?)->o.wp P a w2 (fun a' w''=>Q .normal a' w'') Q):(Code.region id ops true).wp P Q a0 w:=by
 obtain ⟨b1,b2,b3⟩:=hlt
 have hlt0:=hown.lt
 refine wp_region_gen (β:=Value × Value) hm n ds (fun i=>i==iB||i==iA) (fun V i=>if i=iA then V.2 else if i=iB then V.1 else val i) (undef,undef)
  (fun f V w'=>(f iA=false->Below w.heap.size w w')/\(f iA=false->f iB=true->∃ g,V.1=.slice (some ⟨g,0,none⟩) 1 1/\g<w'.heap.size/\∀ (j:Nat) (u:Value),A[j]? = some u->w'.cell? ⟨g,j,none⟩=some u)/\
    (f iA=true->∃ w1,Below w.heap.size w w1/\w1.grownBy w' v.ownBlock/\w'.ownsRow B e size V.2 (nn+1) (xs++A)/\(V.2.ownBlock=v.ownBlock\/V.2.ownBlock=some w1.heap.size))/\(f iA=true->f iB=true)) hn hback ⟨fun _=>(Below.refl _ w).drew,fun _ h=>(by cases h),fun h=>(by cases h),fun h=>(by cases h)⟩ ?_ ?_ hinj ?_
 ·intro i o hin he ho
  have hne:i≠iB/\i≠iA:=by simpa using he
  obtain ⟨q1,q2,q3,q4⟩:=hp i o hin hne.1 hne.2 ho
  refine ⟨q1,q2,q3,fun f V w' a hI hd hr=>⟨?_,?_⟩⟩
  ·rw [if_neg hne.2,if_neg hne.1]
   refine q4 a w' ?_ (fun e he hb h1 h2=>?_) hr
   ·cases hf:f iA with
    | false=>exact hbase w' w' (hI.1 hf) grown_self
    | true=>
      obtain ⟨w1,g1,g2,-⟩:=hI.2.2.1 hf
      exact hbase w1 w' g1 g2
   ·have:=(hd e he hb).2
    rw [if_neg h2,if_neg h1] at this
    exact this
  ·have e1:nxF f i iA=f iA:=if_neg (fun e=>hne.2 e.symm)
   have e2:nxF f i iB=f iB:=if_neg (fun e=>hne.1 e.symm)
   rw [e1,e2]
   exact hI
 ·intro i o hin he ho
  by_cases eA:i=iA
  ·rw [eA] at ho ⊢
   obtain ⟨o',s,r1,r2,r3,r4,r5,⟨e0,r6,r7,r8⟩,r9⟩:=hAo
   rw [r1] at ho;cases ho
   refine ⟨r2,r4,fun f V w' a hI hf hd hr=>?_⟩
   have hb:=hI.1 hf
   obtain ⟨fB,vB⟩:=hd e0 r6 r7
   rw [r8] at fB vB
   rw [if_neg b3,if_pos rfl] at vB
   obtain ⟨g,g1,g2,g3⟩:=hI.2.1 hf fB
   rw [g1] at vB
   have ho1:w'.ownsRow B e size v nn xs:=kept_none hown (below_grown hb) (by simp)
   have hnews:∀ (j:Nat) (u:Value),A[j]? = some u->w'.cell? ((⟨g,0,none⟩:Addr).add j)=some u:=fun j u h=>by rw [addr_add,Nat.zero_add];exact g3 j u h
   obtain ⟨v',w2,hrun,h2,h3,-⟩:=run_append_own (P:=P) w' B t o.type e i0 z size bytes ht hi hz hsize hby hzs hsz.1 v nn xs ho1 ⟨g,0,none⟩ 1 1 A (by rw [hA,Nat.one_mul]) hnews hA1 h63 hbytes (Nat.le_trans hB hb.size)
   have h4:=append_block (P:=P) (w:=w') B t o.type e i0 z size bytes ht hi hz hsize hby v nn xs ho1 ⟨g,0,none⟩ 1 1 A (by rw [hA,Nat.one_mul]) hnews hA1 h63 hbytes (by omega) v' w2 hrun
   refine op_append r5 (r9 a fun e he hb h1 h2=>?_) (ev vB) hrun ?_
   ·have:=(hd e he hb).2
    rw [if_neg h2,if_neg h1] at this
    exact this
   ·rw [r3]
    have e1:nxF f iA iA=true:=if_pos rfl
    refine ⟨(V.1,v'),by rw [if_pos rfl],⟨fun h=>(by rw [e1] at h;cases h),fun h=>(by rw [e1] at h;cases h),fun _=>⟨w',hb,h3,h2,h4⟩,fun _=>(by rw [show nxF f iA iB=f iB from if_neg b3];exact fB)⟩,fun j hj hfj=>?_⟩
    by_cases ej:j=iA
    ·rw [ej,hf] at hfj;cases hfj
    ·rw [if_neg ej,if_neg ej]
  ·have eB:i=iB:=by simpa [eA] using he
   rw [eB] at ho ⊢
   obtain ⟨o',x,r1,r2,r3,r4,r5,r9⟩:=hBo
   rw [r1] at ho;cases ho
   refine ⟨r2,r4,fun f V w' a hI hf hd hr=>?_⟩
   have fA:f iA=false:=by
    cases h:f iA with
    | false=>rfl
    | true=>have:=hI.2.2.2 h;rw [hf] at this;cases this
   have hb:=hI.1 fA
   have hx:a.eval x=.agg A.toArray:=r9 a fun e he hb h1 h2=>by
    have:=(hd e he hb).2
    rw [if_neg h2,if_neg h1] at this
    exact this
   refine op_build1 r5 hx ht hi hz (by rw [hsize,hA]) (by rw [hzs,hA]) (by rw [hA];exact hsz.1) (by rw [hA];exact hsz.2) ?_
   rw [r3]
   have e1:nxF f iB iA=false:=(if_neg (fun e=>b3 e.symm)).trans fA
   have hb2:Below w'.heap.size w' (w'.alloc (.cells A.toArray e)):=(Below.refl _ _).alloc (Nat.le_refl _) _
   refine ⟨(.slice (some ⟨w'.heap.size,0,none⟩) 1 1,V.2),by rw [if_neg b3,if_pos rfl],⟨fun _=>hb.trans (hb2.mono hb.size),fun _ _=>⟨w'.heap.size,rfl,by simp,fun j u hu=>?_⟩,fun h=>(by rw [e1] at h;cases h),fun h=>(by rw [e1] at h;cases h)⟩,fun j hj hfj=>?_⟩
   ·have:=cells_new w' A e w'.heap.size rfl j u hu
    rw [addr_add,Nat.zero_add] at this
    exact this
   ·by_cases ej:j=iB
    ·rw [ej,hf] at hfj;cases hfj
    ·by_cases ea:j=iA
     ·rw [if_pos ea,if_pos ea]
     ·rw [if_neg ea,if_neg ej,if_neg ea,if_neg ej]
 ·obtain ⟨o,q1,q2,q3,q4⟩:=hl
  refine ⟨o,q1,q2,q3,fun f V a w' hall hsz hdf hv hr hI=>?_⟩
  obtain ⟨w1,g1,g2,g3,g4⟩:=hI.2.2.1 (hall iA b2)
  refine q4 V.2 w1 w' a g1 g2 g3 g4 hsz hdf (fun i hi h1 h2=>?_) ?_ hr
  ·have:=hv i hi
   rw [if_neg h2,if_neg h1] at this
   exact this
  ·have:=hv iA b2
   rw [if_pos rfl] at this
   exact this
theorem wp_region_last {P:Program} {id:Nat} {Q:Exit->Act->World->Prop} {ops:Array Oper} {a0:Act} {w:World} (hm:P.follows .mixedOrders=true)
 (n:Nat) (ds:Nat->Nat) (val:Nat->Value) (hn:ops.size=n+1)
 (hback:∀ (i:Nat) (o:Oper),ops[i]? = some o->∀ e∈o.after,Region.binds .any e=true->e.on<i)
 (hinj:∀ i i',i<n->i'<n->ds i=ds i'->i=i')
 (hp:∀ i o,i<n->ops[i]? = some o->o.guard=none/\o.dst=some (ds i)/\ds i<a0.tmps.size/\∀ (a:Act) w',Below w.heap.size w w'->(∀ e∈o.after,Region.binds .any e=true->a.tmps[ds e.on]? = some (val e.on))->
   (∀ j,(∀ i,i<n->ds i≠j)->a.tmps[j]? = a0.tmps[j]?)->o.quietAt P a (fun w''=>w''=w') w' (val i))
 (hl : ∃ o,ops[n]? = some o/\o.guard=none/\(∀ f:Nat->Bool,(∀ e∈o.after,Region.binds .any e=true->f e.on=true)->(∀ i o,ops[i]? = some o->f i=true->∀ e∈o.after,Region.binds .any e=true->f e.on=true)->∀ i,i<n->f i=true)/\
   ∀ w' (a:Act),Below w.heap.size w w'->a.tmps.size=a0.tmps.size->a.defers=a0.defers->
     (∀ i,i<n->a.tmps[ds i]? = some (val i))->(∀ j,(∀ i,i<n->ds i≠j)->a.tmps[j]? = a0.tmps[j]?)->o.wp P a w' (fun a' w''=>Q .normal a' w'') Q):(Code.region id ops true).wp P Q a0 w:=by
 refine wp_region_gen (β:=Unit) hm n ds (fun _=>false) (fun _=>val) () (fun _ _ w'=>Below w.heap.size w w') hn hback (Below.refl _ w).drew ?_ (fun _ _ _ h=>by cases h) hinj ?_
 ·intro i o hin _ ho
  obtain ⟨q1,q2,q3,q4⟩:=hp i o hin ho
  exact ⟨q1,q2,q3,fun f V w' a hI hd hr=>⟨q4 a w' hI (fun e he hb=>(hd e he hb).2) hr,hI⟩⟩
 ·obtain ⟨o,q1,q2,q3,q4⟩:=hl
  exact ⟨o,q1,q2,q3,fun f V a w' hall hsz hdf hv hr hI=>q4 w' a hI hsz hdf hv hr⟩
theorem call_new [GlC] {P:Program} {f:FuncId} {avs:List AV} {r:AV} (h:FnR P f avs r []) (hg:∀ m,GlC.G m) {M:Mem} {w:World} {vs:List Value} (hi:Imm M w) (hr:Reps M noNames avs vs):
 Calls P f vs.toArray w fun e w'=>∃ v M',e=.returned v/\Below w.heap.size w w'/\Imm M' w'/\Mem.le M M'/\(∀ b o u,M' b o=some u->M b o=some u\/w.heap.size<=b)/\Rep M' noNames r v:=by
 refine (h w M vs (hg M) hi hr).mono ?_
 rintro e w' ⟨v,m',bl',he,hb,hs,hbl,hrep⟩
 have:bl'=noNames:=funext fun id=>hbl id rfl
 subst this
 exact ⟨v,m',he,hb,hs.imm,hs.le,hs.grow,hrep⟩
noncomputable def code20:Code:=Tryz.f20.body.getD .skip
noncomputable abbrev cx20:Ctx Tryz.prog tb:=cx [c_99,c_51] []
def bodAz (b:Body):List AV:=(bodC b (.slice none 0 0)).map AV.v
def seenB (b:Body) (c:Int):List AV:=[.agg (bodAz b),.v (.int .i64 c)]
noncomputable def run20 (f:List (List UInt8)):Option (List AV):=
 exec cx20 (lvl cx20 6) (fun _=>false) (barF [(4,65)]) 83 code20 .n ⟨argSVs (cx [] []) [.d Ix.tsl_str] (f,()) 0,[],[],0,[]⟩ fun e L=>match e with
  | .exit _=>none
  | _=>got (resSs Tryz.prog L Tryz.f20.results.toList) fun xs=>some (avL xs)
theorem run20_eq (fields0:List (List UInt8)):run20 fields0=
 Rx.Bind
 (scene_parseValues fields0 #[(98:UInt8),(111:UInt8),(100:UInt8),(121:UInt8)].toList
 (fun (a:Tup tb [Ix.tint])=>scene_exactly_1 a (19:Int)) [(14:Int),(15:Int),(16:Int),(17:Int)])
 fun (r905:List Int × Int)=>
 Let (r905.snd != (0:Int)) fun (x906:Bool)=>
 if x906=true then
 some (seenB { ID:=(0:Int),Kind:=(0:Int),Transform:={ Position:={ X:=(0:Int),Y:=(0:Int):Vec },Angle:=(0:Int):Transform },Velocity:={ X:=(0:Int),Y:=(0:Int):Vec },AngularVelocity:=(0:Int),Force:={ X:=(0:Int),Y:=(0:Int):Vec },Torque:=(0:Int),LinearDamping:=(0:Int),AngularDamping:=(0:Int),GravityScale:=(0:Int),Bullet:=false,FixedRotation:=false,NoSleep:=false,Asleep:=false,IdleSteps:=(0:Int),Fixtures:=[]:Body } r905.snd)
 else
 Chk ((0:Int)<=(0:Int)/\(0:Int)<(↑(List.length r905.fst):Int))
 (Let (ix r905.fst (0:Int)) fun (x907:Int)=>
 Chk ((0:Int)<=(1:Int)/\(1:Int)<(↑(List.length r905.fst):Int))
 (Let (ix r905.fst (1:Int)) fun (x908:Int)=>
 Chk ((0:Int)<=(2:Int)/\(2:Int)<(↑(List.length r905.fst):Int))
 (Let (ix r905.fst (2:Int)) fun (x909:Int)=>
 Chk ((0:Int)<=(3:Int)/\(3:Int)<(↑(List.length r905.fst):Int))
 (Let (ix r905.fst (3:Int)) fun (x910:Int)=>
 Chk ((0:Int)<=(4:Int)/\(4:Int)<(↑(List.length r905.fst):Int))
 (Let (ix r905.fst (4:Int)) fun (x911:Int)=>
 Chk ((0:Int)<=(5:Int)/\(5:Int)<(↑(List.length r905.fst):Int))
 (Let (ix r905.fst (5:Int)) fun (x912:Int)=>
 Chk ((0:Int)<=(6:Int)/\(6:Int)<(↑(List.length r905.fst):Int))
 (Let (ix r905.fst (6:Int)) fun (x913:Int)=>
 Chk ((0:Int)<=(7:Int)/\(7:Int)<(↑(List.length r905.fst):Int))
 (Let (ix r905.fst (7:Int)) fun (x914:Int)=>
 Chk ((0:Int)<=(8:Int)/\(8:Int)<(↑(List.length r905.fst):Int))
 (Let (ix r905.fst (8:Int)) fun (x915:Int)=>
 Chk ((0:Int)<=(9:Int)/\(9:Int)<(↑(List.length r905.fst):Int))
 (Let (ix r905.fst (9:Int)) fun (x916:Int)=>
 Chk ((0:Int)<=(10:Int)/\(10:Int)<(↑(List.length r905.fst):Int))
 (Let (ix r905.fst (10:Int)) fun (x917:Int)=>
 Chk ((0:Int)<=(11:Int)/\(11:Int)<(↑(List.length r905.fst):Int))
 (Let (ix r905.fst (11:Int)) fun (x918:Int)=>
 Chk ((0:Int)<=(12:Int)/\(12:Int)<(↑(List.length r905.fst):Int))
 (Let (ix r905.fst (12:Int)) fun (x919:Int)=>
 Chk ((0:Int)<=(13:Int)/\(13:Int)<(↑(List.length r905.fst):Int))
 (Let (ix r905.fst (13:Int)) fun (x920:Int)=>
 Chk ((0:Int)<=(14:Int)/\(14:Int)<(↑(List.length r905.fst):Int))
 (Let (ix r905.fst (14:Int)) fun (x921:Int)=>
 Let (x921==(1:Int)) fun (x922:Bool)=>
 Chk ((0:Int)<=(15:Int)/\(15:Int)<(↑(List.length r905.fst):Int))
 (Let (ix r905.fst (15:Int)) fun (x923:Int)=>
 Let (x923==(1:Int)) fun (x924:Bool)=>
 Chk ((0:Int)<=(16:Int)/\(16:Int)<(↑(List.length r905.fst):Int))
 (Let (ix r905.fst (16:Int)) fun (x925:Int)=>
 Let (x925==(1:Int)) fun (x926:Bool)=>
 Chk ((0:Int)<=(17:Int)/\(17:Int)<(↑(List.length r905.fst):Int))
 (Let (ix r905.fst (17:Int)) fun (x927:Int)=>
 Let (x927==(1:Int)) fun (x928:Bool)=>
 Chk ((0:Int)<=(18:Int)/\(18:Int)<(↑(List.length r905.fst):Int))
 (Let (ix r905.fst (18:Int)) fun (x929:Int)=>
 some (seenB { ID:=x907,Kind:=x908,Transform:={ Position:={ X:=x909,Y:=x910:Vec },Angle:=x911:Transform },Velocity:={ X:=x912,Y:=x913:Vec },AngularVelocity:=x914,Force:={ X:=x915,Y:=x916:Vec },Torque:=x917,LinearDamping:=x918,AngularDamping:=x919,GravityScale:=x920,Bullet:=x922,FixedRotation:=x924,NoSleep:=x926,Asleep:=x928,IdleSteps:=x929,Fixtures:=[]:Body } (0:Int)))))))))))))))))))))
 := by kernel_rfl
theorem rep_tup {m:Mem} {bl:Names} {l:List AV} {v:Value} (h:Rep m bl (.tup l) v):∃ vs,v=.tuple vs.toArray/\Reps m bl l vs:=by
 cases h with
 | tup h=>exact ⟨_,rfl,h⟩
theorem map_Chk {α β:Type} {c:Prop} [Decidable c] {m:Option α} {g:α->β}:(Chk c m).map g=Chk c (m.map g):=by unfold Chk;split <;> rfl
theorem map_Let {α β γ:Type} {x:γ} {k:γ->Option α} {g:α->β}:(Let x k).map g=Let x fun y=>(k y).map g:=rfl
theorem map_Bind {α β γ:Type} {x:Option γ} {k:γ->Option α} {g:α->β}:(Rx.Bind x k).map g=Rx.Bind x fun y=>(k y).map g:=by cases x <;> rfl
theorem map_ite {α β:Type} {c:Prop} [Decidable c] {x y:Option α} {g:α->β}:(if c then x else y).map g=if c then x.map g else y.map g:=by split <;> rfl
theorem run20_map (f:List (List UInt8)):run20 f=(scene_ParseBody f).map fun r=>seenB r.1 r.2:=by
 rw [run20_eq]
 unfold scene_ParseBody
 simp only [map_Bind,map_Let,map_ite,map_Chk,Option.map_some]
theorem sim0 {N:Nat} {m:Mem} {w:World} {vs:List Value} {E:SEnv tb} {avs:List AV} (hn:vs.length<=N) (hi:Imm m w) (hE:avE [] E=envFrom 0 avs) (hr:Reps m noNames avs vs):
 Sim N w m (⟨E,[],[],0,[]⟩:SLS tb).av [] { tmps:=vs.toArray++Array.replicate (N - vs.toArray.size) undef,defers:=[] } w m noNames:=
 ⟨rfl,by simp;omega,Below.refl _ _,⟨hi,Mem.le.refl m,fun _ _ _ h=>.inl h,(by intro id l h;cases h),(by intro id l p h;cases h),(by simp [noNames]),(by simp [noNames]),trivial⟩,(by
   show EnvRep m noNames (avE [] E) _
   rw [hE];exact EnvRep.args hr _),trivial,fun d _=>rfl⟩
theorem pbody_calls {f:List (List UInt8)} {b:Body} {c:Int} (h:scene_ParseBody f=some (b,c)) {M:Mem} {w:World} {v:Value} (hi:Imm M w) (hr:Rep M noNames (e_sl_str f) v):
 Calls Tryz.prog 20 #[v] w fun e w'=>e=.returned (.tuple #[.agg (bodC b (.slice none 0 0)).toArray,.int .i64 c])/\Below w.heap.size w w':=by
 have hrun:run20 f=some (seenB b c):=by rw [run20_map,h];rfl
 have hav:avE [] (argSVs (cx [] []) [.d Ix.tsl_str] (f,()) 0)=envFrom 0 [e_sl_str f]:=by kernel_rfl
 have hi0:RI [] (argSVs (cx [] []) [.d Ix.tsl_str] (f,()) 0:SEnv tb):=by
  intro t G z hz
  have hk:keepE (tb:=tb) [] (argSVs (cx [] []) [.d Ix.tsl_str] (f,()) 0)=true:=rfl
  have:=(keepE_e hk _ (find_mem hz)).2
  cases this
 have key:=exec_ok (lvl_ok 6) (L:=(⟨argSVs (cx [] []) [.d Ix.tsl_str] (f,()) 0,[],[],0,[]⟩:SLS tb)) hi0 hrun
 refine calls_of_wp (fn:=Tryz.f20) (c:=code20) Tryz.func20 (by kernel_rfl) ?_
 have hN:Tryz.f20.ntmps=83:=by kernel_rfl
 rw [hN]
 refine key _ _ _ _ _ _ _ (sim0 (vs:=[v]) (by simp) hi hav (.cons hr .nil)) _ ?_
 rintro e L' a1 w1 m1 bl1 ⟨Lz,h',hi1,x1,t1⟩ s1
 obtain ⟨m2,bl2,s2⟩:=t1 _ _ _ _ _ _ _ _ s1
 have key2:∀ xs,resSs Tryz.prog Lz Tryz.f20.results.toList=some xs->avL xs=seenB b c->bodyPost Tryz.prog Tryz.f20 (fun e w'=>e=.returned (.tuple #[.agg (bodC b (.slice none 0 0)).toArray,.int .i64 c])/\Below w.heap.size w w') .ret a1 w1:=by
  intro xs hxs hx
  obtain ⟨u,hv1,hv2⟩:=RessOk.results s2 (resSs_ok hxs)
  rw [hx] at hv2
  have hv2:Rep m2 bl2 (.tup [.agg (bodAz b),.v (.int .i64 c)]) u:=hv2
  obtain ⟨vs,rfl,hvs⟩:=rep_tup hv2
  obtain ⟨u1,vs,rfl,h1,hvs⟩:=hvs.inv
  have:vs=[.int .i64 c]:=repsV_eq (l:=[.int .i64 c]) hvs
  subst this
  obtain ⟨cs,rfl,h3,-⟩:=rep_agg h1
  have:=repsV_eq h3
  subst this
  exact ⟨s2.defers,_,hv1,rfl,s2.below⟩
 cases e with
 | exit j=>cases h'
 | normal=>
   obtain ⟨xs,hxs,h'⟩:=got_e h'
   exact key2 xs hxs (Option.some.inj h')
 | ret=>
   obtain ⟨xs,hxs,h'⟩:=got_e h'
   exact key2 xs hxs (Option.some.inj h')
theorem enter_calls {w:World} {bp:Nat} {K:List Value} {sec s:Int} (hK:K.length=11) (hb:w.heap[bp]? = some (.cells (K++[Value.int .i64 sec]).toArray 147 (0,0))):
 Calls Tryz.prog 158 #[.pointer (some ⟨bp,0,none⟩),.int .i64 s] w fun e w'=>e=.returned (.bool (enterT sec s))/\(enterT sec s=false->w'=w)/\(enterT sec s=true->w'=w.setCell ⟨bp,11,none⟩ (.int .i64 s)):=by
 have c11:w.cell? ⟨bp,11,none⟩=some (.int .i64 sec):=box_cell hb 11 (by simp [hK])
 have f11:w.frozen? ⟨bp,11,none⟩=false:=box_free hb 11
 have u147:=Tryz.underlying147
 clear hb hK
 unfold enterT
 by_cases h0:sec=0
 ·subst h0
  have t1:((0:Int)==0)=true:=rfl
  by_cases h1:s=1
  ·subst h1
   go_enter Tryz.func158,Tryz.ntmps158
   go_wp2
   go_ret
   exact ⟨rfl,by simp,fun _=>rfl⟩
  ·have t2:(s==1)=false:=by rw [beq_eq_false_iff_ne];exact h1
   go_enter Tryz.func158,Tryz.ntmps158
   go_wp2
   go_ret
   simp [h1]
 ·have t1:(sec==0)=false:=by rw [beq_eq_false_iff_ne];exact h0
  by_cases h1:s=1
  ·subst h1
   go_enter Tryz.func158,Tryz.ntmps158
   go_wp2
   go_ret
   simp [h0]
  ·have t2:(s==1)=false:=by rw [beq_eq_false_iff_ne];exact h1
   by_cases h2:s<sec
   ·go_enter Tryz.func158,Tryz.ntmps158
    go_wp2
    go_ret
    simp [h2]
   ·go_enter Tryz.func158,Tryz.ntmps158
    go_wp2
    go_ret
    simp [h0,h1,h2]
    exact fun h=>absurd h (Int.not_lt.2 h2)
theorem cells_strs (l:List (List UInt8)):(l.map e_str).flatMap AV.cells=(l.map fun x:List UInt8=>Value.string ⟨x.toArray⟩).map AV.v:=by
 induction l with
 | nil=>rfl
 | cons x l ih=>rw [List.map_cons,List.flatMap_cons,ih];rfl
theorem cells_ints (l:List (Int)):(l.map e_int).flatMap AV.cells=(l.map fun x:Int=>Value.int .i64 x).map AV.v:=by
 induction l with
 | nil=>rfl
 | cons x l ih=>rw [List.map_cons,List.flatMap_cons,ih];rfl
theorem repStrs {m:Mem} {l:List (List UInt8)} {v:Value} (h:Rep m noNames (e_sl_str l) v):∃ ad cap,v=.slice ad l.length cap/\(0<l.length->∃ blk off,ad=some ⟨blk,off,none⟩/\∀ (j:Nat) (x:List UInt8),l[j]? = some x->m blk (off+j)=some (.string ⟨x.toArray⟩)):=by
 have h:Rep m noNames (.sl false 1 (l.map e_str)) v:=h
 generalize hl:l.map e_str=l' at h
 cases h with
 | slnil=>
   have:l=[]:=List.map_eq_nil_iff.1 hl
   subst this
   exact ⟨none,0,rfl,fun h=>by simp at h⟩
 | sl h1 h2 h3 h4 h5 h6 h7=>
   rename_i a cap cs
   subst hl
   obtain ⟨b,off,sp⟩:=a
   rw [cells_strs] at h2
   have h2:=repsV_eq h2
   subst h2
   refine ⟨some ⟨b,off,sp⟩,cap,by simp,fun h=>?_⟩
   have hsp:sp=none:=h4 (by simpa using h)
   subst hsp
   exact ⟨b,off,rfl,fun j x e=>h5 j _ (by simp [e])⟩
theorem repInts {m:Mem} {l:List Int} {v:Value} (h:Rep m noNames (e_sl_int l) v):∃ ad cap,v=.slice ad l.length cap/\(0<l.length->∃ blk off,ad=some ⟨blk,off,none⟩/\∀ (j:Nat) (x:Int),l[j]? = some x->m blk (off+j)=some (.int .i64 x)):=by
 have h:Rep m noNames (.sl false 1 (l.map e_int)) v:=h
 generalize hl:l.map e_int=l' at h
 cases h with
 | slnil=>
   have:l=[]:=List.map_eq_nil_iff.1 hl
   subst this
   exact ⟨none,0,rfl,fun h=>by simp at h⟩
 | sl h1 h2 h3 h4 h5 h6 h7=>
   rename_i a cap cs
   subst hl
   obtain ⟨b,off,sp⟩:=a
   rw [cells_ints] at h2
   have h2:=repsV_eq h2
   subst h2
   refine ⟨some ⟨b,off,sp⟩,cap,by simp,fun h=>?_⟩
   have hsp:sp=none:=h4 (by simpa using h)
   subst hsp
   exact ⟨b,off,rfl,fun j x e=>h5 j _ (by simp [e])⟩
def NewM (M:Mem) (w:World) (M':Mem) (w':World):Prop:=Below w.heap.size w w'/\Imm M' w'/\Mem.le M M'/\∀ b o u,M' b o=some u->M b o=some u\/w.heap.size<=b
theorem integers_calls {f:List (List UInt8)} {n:Int} {l:List Int} {ok:Bool} (h:scene_integers f n=some (l,ok)) {M:Mem} {w:World} {v:Value} (hi:Imm M w) (hr:Rep M noNames (e_sl_str f) v):
 Calls Tryz.prog 157 #[v,.int .i64 n] w fun e w'=>∃ u M',e=.returned (.tuple #[u,.bool ok])/\NewM M w M' w'/\Rep M' noNames (e_sl_int l) u:=by
 have hc:FnR Tryz.prog 157 [e_sl_str f,.v (.int .i64 n)] (.tup [e_sl_int l,.v (.bool ok)]) []:=c_157.ok (f,n,()) [e_sl_str f,.v (.int .i64 n)] ((l,ok):List Int × Bool) ⟨rfl,rfl,trivial⟩ h
 refine (call_new hc (fun _=>trivial) hi (vs:=[v,.int .i64 n]) (.cons hr (.cons .v .nil))).mono ?_
 rintro e w' ⟨u,M',rfl,h1,h2,h3,h4,h5⟩
 obtain ⟨vs,rfl,hvs⟩:=rep_tup h5
 obtain ⟨u,vs,rfl,h6,hvs⟩:=hvs.inv
 have:vs=[.bool ok]:=repsV_eq (l:=[.bool ok]) hvs
 subst this
 exact ⟨u,M',rfl,⟨h1,h2,h3,h4⟩,h6⟩
theorem pfix_calls {f:List (List UInt8)} {x:Fixture} {c:Int} (h:scene_ParseFixture f=some (x,c)) {M:Mem} {w:World} {v:Value} (hi:Imm M w) (hr:Rep M noNames (e_sl_str f) v):
 Calls Tryz.prog 23 #[v] w fun e w'=>∃ A M',e=.returned (.tuple #[.agg (List.toArray A),.int .i64 c])/\NewM M w M' w'/\Reps M' noNames (tb.el Ix.tFixture x).cells A/\∀ u∈A,oneCell u=true:=by
 have hc:FnR Tryz.prog 23 [e_sl_str f] (.tup [e_Fixture x,.v (.int .i64 c)]) []:=c_23.ok (f,()) [e_sl_str f] ((x,c):Fixture × Int) ⟨rfl,trivial⟩ h
 refine (call_new hc (fun _=>trivial) hi (vs:=[v]) (.cons hr .nil)).mono ?_
 rintro e w' ⟨u,M',rfl,h1,h2,h3,h4,h5⟩
 obtain ⟨vs,rfl,hvs⟩:=rep_tup h5
 obtain ⟨u,vs,rfl,h6,hvs⟩:=hvs.inv
 have:vs=[.int .i64 c]:=repsV_eq (l:=[.int .i64 c]) hvs
 subst this
 obtain ⟨A,rfl,h7,h8⟩:=rep_agg (l:=(tb.el Ix.tFixture x).cells) h6
 exact ⟨A,M',rfl,⟨h1,h2,h3,h4⟩,h7,h8⟩
theorem pjoint_calls {f:List (List UInt8)} {x:Joint} {c:Int} (h:scene_ParseJoint f=some (x,c)) {M:Mem} {w:World} {v:Value} (hi:Imm M w) (hr:Rep M noNames (e_sl_str f) v):
 Calls Tryz.prog 25 #[v] w fun e w'=>∃ A M',e=.returned (.tuple #[.agg (List.toArray A),.int .i64 c])/\NewM M w M' w'/\Reps M' noNames (tb.el Ix.tJoint x).cells A/\∀ u∈A,oneCell u=true:=by
 have hc:FnR Tryz.prog 25 [e_sl_str f] (.tup [e_Joint x,.v (.int .i64 c)]) []:=c_25.ok (f,()) [e_sl_str f] ((x,c):Joint × Int) ⟨rfl,trivial⟩ h
 refine (call_new hc (fun _=>trivial) hi (vs:=[v]) (.cons hr .nil)).mono ?_
 rintro e w' ⟨u,M',rfl,h1,h2,h3,h4,h5⟩
 obtain ⟨vs,rfl,hvs⟩:=rep_tup h5
 obtain ⟨u,vs,rfl,h6,hvs⟩:=hvs.inv
 have:vs=[.int .i64 c]:=repsV_eq (l:=[.int .i64 c]) hvs
 subst this
 obtain ⟨A,rfl,h7,h8⟩:=rep_agg (l:=(tb.el Ix.tJoint x).cells) h6
 exact ⟨A,M',rfl,⟨h1,h2,h3,h4⟩,h7,h8⟩
section
variable {W0:World} {x:World_} {sec:Int} {M M':Mem} {bp:Nat} {h0 h1 h2 h3 hF hP:Value} {nF nP:Nat} {xb xj xc xo xf xp:List Value} {w w1 w2:World}
theorem PS.call (h:PS W0 x sec M bp h0 h1 h2 h3 hF hP nF nP xb xj xc xo xf xp w) (hn:NewM M w M' w1):PS W0 x sec (joinM M M') bp h0 h1 h2 h3 hF hP nF nP xb xj xc xo xf xp w1:=by
 obtain ⟨n1,n2,n3,n4⟩:=hn
 refine (h.below n1).more n2 (fun b o u e=>?_) (fun o=>?_) (fun r hr g hg o=>?_)
 ·rcases n4 b o u e with e | e
  ·exact h.o.new b o u e
  ·exact Nat.le_trans h.o.bel.size e
 ·cases e:M' bp o with
  | none=>rfl
  | some u=>
    rcases n4 bp o u e with e | e
    ·rw [h.o.hp.2 o] at e;cases e
    ·have:=heap_lt h.o.box;omega
 ·cases e:M' g o with
  | none=>rfl
  | some u=>
    rcases n4 g o u e with e | e
    ·rw [h.o.nr r hr g hg o] at e;cases e
    ·have:=((h.o.rows r hr).lt g hg).2;omega
def SideB (bp:Nat) (rs:List Row) (b:Nat) (L:List Value) (T:TypeId) (w:World):Prop:=w.heap[b]? = some (.cells L.toArray T (0,0))/\b≠bp/\∀ r∈rs,r.v.ownBlock≠some b
theorem PS.side (h:PS W0 x sec M bp h0 h1 h2 h3 hF hP nF nP xb xj xc xo xf xp w) {b:Nat} {L:List Value} {T:TypeId} (hb:w1.heap[b]? = some (.cells L.toArray T (0,0))) (hw:w.heap.size<=b):SideB bp (psRows x h0 h1 h2 h3 hF hP nF nP xb xj xc xo xf xp) b L T w1:=
 ⟨hb,by have:=heap_lt h.o.box;omega,fun r hr e=>by have:=((h.o.rows r hr).lt b e).2;omega⟩
end
theorem mixed52:Tryz.prog.follows .mixedOrders=true:=by kernel_rfl
def PX (W0:World) (x:World_) (sec:Int) (bp:Nat) (w:World):Prop:=∃ M h0 h1 h2 h3 hF hP nF nP xb xj xc xo xf xp,PS W0 x sec M bp h0 h1 h2 h3 hF hP nF nP xb xj xc xo xf xp w
def joiZ:List Value:=[.int .i64 0,.int .i64 0,.int .i64 0,.int .i64 0,.int .i64 0,.int .i64 0,.int .i64 0,.int .i64 0,.int .i64 0,.int .i64 0,.int .i64 0,.bool false,.int .i64 0,.int .i64 0,.bool false,.int .i64 0,.int .i64 0,.int .i64 0,.int .i64 0,.bool false,.int .i64 0,.int .i64 0,.int .i64 0,.int .i64 0]
def fixZ:List Value:=[.int .i64 0,.int .i64 0,.slice none 0 0,.int .i64 0,.int .i64 0,.int .i64 0,.bool false,.int .i64 0,.int .i64 0,.int .i64 0]
def bodZ:List Value:=[.int .i64 0,.int .i64 0,.int .i64 0,.int .i64 0,.int .i64 0,.int .i64 0,.int .i64 0,.int .i64 0,.int .i64 0,.int .i64 0,.int .i64 0,.int .i64 0,.int .i64 0,.int .i64 0,.bool false,.bool false,.bool false,.bool false,.int .i64 0,.slice none 0 0]
def conZ:List Value:=[.int .i64 0,.int .i64 0,.int .i64 0,.int .i64 0,.int .i64 0,.int .i64 0,.slice none 0 0]
def i4Z:List Value:=[.int .i64 0,.int .i64 0,.int .i64 0,.int .i64 0]
def i6Z:List Value:=[.int .i64 0,.int .i64 0,.int .i64 0,.int .i64 0,.int .i64 0,.int .i64 0]
theorem tail_ret {P:Program} {Q:Exit->Act->World->Prop} {a:Act} {w:World} {id d:Nat} {o:Oper} {x:Operand} {v:Value} (g:o.guard=none) (e:o.op=.assign x) (hd:o.dst=some d) (hx:a.eval x=v) (h:Q .ret (a.put (some d) v) w):(Code.seq (.region id #[o] false) .ret).wp P Q a w:=by
 refine wp_seq (wp_region_list ?_)
 refine wpList_plain g fun K hK=>?_
 have r:(execOp a.eval o).run P w=.ok (.value v) w:=by simp [execOp,e,hx]
 unfold Oper.wp
 rw [r,Oper.upon_value,hd]
 exact hK _ _ (wpList_nil (wp_ret h))
theorem res4 {fn:Func} {P:Program} {a:Act} {w:World} {v:Value} (h:fn.results=#[.tmp 4]) (hs:4<a.tmps.size):(results fn (a.put (some 4) v).tmps).run P w=.ok v w:=by
 have:(a.put (some 4) v).tmps[4]? = some v:=put_eq hs
 simp [results,h,this]
theorem own_val {w:World} {B e sz v n xs} (h:w.ownsRow B e sz v n xs):v.cells=#[v]/\v.oneCell'=true:=by
 obtain ⟨-,⟨rfl,-⟩ | ⟨g,cap,cur,rfl,-⟩⟩:=h <;> exact ⟨rfl,rfl⟩
theorem OR.base {W0 M bp T K rs w w1 w2} (h:OR W0 M bp T K rs w) {r:Row} (hr:r∈rs) (hb:Below w.heap.size w w1) (hg:w1.grownBy w2 r.v.ownBlock):w2.heap[bp]? = some (.cells K.toArray T (0,0))/\Imm M w2:=by
 have h1:=h.below hb
 have hnb:∀ g,r.v.ownBlock=some g->g≠bp:=fun g e e2=>h.ap.1 bp rfl (by rw [<- e2,<- e];exact List.mem_map.2 ⟨r,hr,rfl⟩)
 refine ⟨(hg.block bp (heap_lt h1.box) (fun e=>hnb bp e.symm rfl)).trans h1.box,?_⟩
 cases e:r.v.ownBlock with
 | none=>exact h1.iM.below (⟨hg.os,hg.tape,hg.output,hg.size,fun k hk=>hg.block k hk (by rw [e];simp)⟩)
 | some g=>exact imm_grown h1.iM (e ▸ hg) (h.nr r hr g e)
theorem SideB.base {bp rs b L T w w1 w2} (h:SideB bp rs b L T w) {r:Row} (hr:r∈rs) (hb:Below w.heap.size w w1) (hg:w1.grownBy w2 r.v.ownBlock):w2.heap[b]? = some (.cells (List.toArray L) T (0,0)):=
 (hg.block b (Nat.lt_of_lt_of_le (heap_lt h.1) hb.size) (fun e=>h.2.2 r hr e.symm)).trans ((hb.block b (heap_lt h.1)).trans h.1)
def backB (ops:Array Oper):Bool:=(List.range ops.size).all fun i=>match ops[i]? with
 | some o=>o.after.toList.all fun e => !Region.binds .any e||Nat.blt e.on i
 | none=>true
theorem back_of {ops:Array Oper} (h:backB ops=true):∀ (i:Nat) (o:Oper),ops[i]? = some o->∀ e∈o.after,Region.binds .any e=true->e.on<i:=by
 intro i o ho e he hb
 have hi:=(Array.getElem?_eq_some_iff.1 ho).1
 have:=List.all_eq_true.1 h i (List.mem_range.2 hi)
 rw [ho] at this
 have:=List.all_eq_true.1 this e (Array.mem_toList_iff.2 he)
 rw [hb] at this
 simpa using this
section
variable {W0:World} {x:World_} {sec:Int} {M M':Mem} {bp:Nat} {h0 h1 h2 h3 hF hP:Value} {nF nP:Nat} {xb xj xc xo xf xp:List Value} {w w1 w2:World}
theorem PS.px (h:PS W0 x sec M bp h0 h1 h2 h3 hF hP nF nP xb xj xc xo xf xp w):PX W0 x sec bp w:=⟨M,h0,h1,h2,h3,hF,hP,nF,nP,xb,xj,xc,xo,xf,xp,h⟩
theorem PS.made (h:PS W0 x sec M bp h0 h1 h2 h3 hF hP nF nP xb xj xc xo xf xp w) {w':World} {A Z:List Value} {T:TypeId} {k:Nat} (hA:A.length=k) (hZ:Z.length=k)
 (hz:w'.heap[w.heap.size]? = some (.cells (Z.take 0++A++Z.drop (0+A.length)).toArray T (0,0))) (hg:(w.alloc (.cells Z.toArray T)).grownBy w' (some w.heap.size)):
 PS W0 x sec M bp h0 h1 h2 h3 hF hP nF nP xb xj xc xo xf xp w'/\SideB bp (psRows x h0 h1 h2 h3 hF hP nF nP xb xj xc xo xf xp) w.heap.size A T w':=by
 have hbl:Below w.heap.size w w':=((Below.refl _ _).alloc (Nat.le_refl _) _).grown hg (by simp) (fun g e=>by have:=Option.some.inj e;omega)
 refine ⟨h.below hbl,h.side ?_ (Nat.le_refl _)⟩
 rw [hz,List.take_zero,Nat.zero_add,List.nil_append,List.drop_eq_nil_of_le (by omega),List.append_nil]
theorem PS.enterS {s:Int} {b:Nat} {L:List Value} {T:TypeId} (h:PS W0 x sec M bp h0 h1 h2 h3 hF hP nF nP xb xj xc xo xf xp w/\SideB bp (psRows x h0 h1 h2 h3 hF hP nF nP xb xj xc xo xf xp) b L T w) {w':World} (e:w'=w.setCell ⟨bp,11,none⟩ (.int .i64 s)):
 PS W0 x s M bp h0 h1 h2 h3 hF hP nF nP xb xj xc xo xf xp w'/\SideB bp (psRows x h0 h1 h2 h3 hF hP nF nP xb xj xc xo xf xp) b L T w':=by
 subst e
 exact ⟨h.1.enter,(heap_set _ _ _ _ (fun e=>h.2.2.1 e)).trans h.2.1,h.2.2⟩
theorem PS.world {y:World_} (hy:y.Bodies=[]/\y.Joints=[]/\y.Contacts=[]/\y.Overlaps=[]) (h:PS W0 x sec M bp h0 h1 h2 h3 hF hP nF nP xb xj xc xo xf xp w) {w':World}
 (hb:w'.heap[bp]? = some (.cells (worC y (.slice none 0 0) (.slice none 0 0) (.slice none 0 0) (.slice none 0 0)++[Value.int .i64 sec]).toArray 147 (0,0))) (hg:w.grownBy w' (some bp)):
 PS W0 y sec M bp (.slice none 0 0) (.slice none 0 0) (.slice none 0 0) (.slice none 0 0) (.slice none 0 0) (.slice none 0 0) 0 0 [] [] [] [] [] [] w':=by
 obtain ⟨y1,y2,y3,y4⟩:=hy
 refine ⟨⟨h.o.bel.grown hg h.o.bel.size (fun k e=>by cases e;exact h.o.hp.1),imm_grown h.o.iM hg h.o.hp.2,h.o.new,hb,h.o.hp,?_,?_,?_⟩,.inl ⟨y1,rfl,rfl,rfl,rfl⟩,by rw [y2];exact .nil,.inl ⟨y3,rfl,rfl,rfl,rfl⟩,by rw [y4];exact .nil,by simp,by simp⟩
 ·intro r hr
  simp only [psRows,y1,y2,y3,y4,List.length_nil,List.mem_cons,List.not_mem_nil,or_false] at hr
  rcases hr with rfl | rfl | rfl | rfl | rfl | rfl <;> exact World.ownsRow_nil _ _ _ _
 ·intro r hr g hg
  simp only [psRows,List.mem_cons,List.not_mem_nil,or_false] at hr
  rcases hr with rfl | rfl | rfl | rfl | rfl | rfl <;> cases hg
 ·simp [psRows,Apart,Value.ownBlock]
theorem row_cell {g cap n j:Nat} {base e size:Nat} {xs:List Value} {u:Value} (h:w.ownsRow base e size (.slice (some ⟨g,0,none⟩) n cap) n xs) (hj:xs[j]? = some u) (hn:0<n):w.cell? ⟨g,j,none⟩=some u/\w.frozen? ⟨g,j,none⟩=false:=by
 obtain ⟨h1,⟨h2,h3⟩ | ⟨g',cap',cur,e1,q1,q2,q3,q4,q5,q6⟩⟩:=h
 ·omega
 ·cases e1
  refine ⟨?_,box_free q2 j⟩
  have hlt:=(List.getElem?_eq_some_iff.1 hj).1
  rw [cell_of_blk q2,<- Array.getElem?_toList]
  rw [<- q6,List.getElem?_take_of_lt (by rw [<- h1];exact hlt)] at hj
  exact hj
theorem row_hdr {base e size n:Nat} {v:Value} {xs:List Value} (h:w.ownsRow base e size v n xs) (hn:0<n):∃ g cap,v=.slice (some ⟨g,0,none⟩) n cap:=by
 obtain ⟨-,⟨-,h3⟩ | ⟨g,cap,cur,rfl,-⟩⟩:=h
 ·omega
 ·exact ⟨g,cap,rfl⟩
theorem OR.other {T K rs} (h:OR W0 M bp T K rs w) {i j:Nat} {r q:Row} (hi:rs[i]? = some r) (hj:rs[j]? = some q) (hij:i≠j) (hb:Below w.heap.size w w1) (hg:w1.grownBy w2 r.v.ownBlock):w2.ownsRow W0.heap.size q.e q.size q.v q.n q.xs:=by
 have h1:=h.below hb
 refine kept_none (h1.rows q (List.mem_of_getElem? hj)) hg (fun g e e2=>hij ?_)
 exact Apart.inj h1.ap.2 (g:=g) (by rw [List.getElem?_map,hi];exact congrArg some e2) (by rw [List.getElem?_map,hj];exact congrArg some e)
theorem op_storeat {P:Program} {Q:Exit->Act->World->Prop} {K:Act->World->Prop} {o:Oper} {a:Act} {w:World} {ty:TypeId} {t z:Operand} {b off:Nat} {cs arr:List Value} {T:TypeId}
 (e:o.op=.store ty t z) (hd:o.dst=none) (ht:a.eval t=.pointer (some ⟨b,off,none⟩)) (hz:a.eval z=.agg cs.toArray) (hs:tSz P ty=some cs.length)
 (hb:w.heap[b]? = some (.cells arr.toArray T (0,0))) (hfit:off+cs.length<=arr.length) (h1:∀ c∈cs,c.oneCell'=true)
 (h:∀ w',w'.heap[b]? = some (.cells (arr.take off++cs++arr.drop (off+cs.length)).toArray T (0,0))->w.grownBy w' (some b)->K a w'):o.wp P a w K Q:=by
 have hst:=run_storeCells_at P b off T cs 0 arr.toArray w hb (by simpa using hfit) h1
 simp only [Nat.add_zero] at hst
 have r2:(execOp a.eval o).run P w=.ok .skip (w.setRow b (arr.take off++cs++arr.drop (off+cs.length)).toArray):=by
  have hst:Sem.run P (storeCells ⟨b,off,none⟩ cs) w=Result.ok () (w.setRow b (arr.take off++cs++arr.drop (off+cs.length)).toArray):=hst
  simp [execOp,e,ht,hz,Instr.storeAt,Instr.sureAddr,storeVar,run_sizeOf_of hs,Value.cells,hst]
 unfold Oper.wp
 rw [r2,Oper.upon_skip,hd]
 exact h _ (setRow_heap w b _ _ T (0,0) hb) ⟨rfl,rfl,rfl,by simp,fun k _ hk=>setRow_other w b k _ (fun e=>hk (by rw [e]))⟩
theorem PS.fcell (h:PS W0 x sec M bp h0 h1 h2 h3 hF hP nF nP xb xj xc xo xf xp w) {init:List Body} {last:Body} (hx:x.Bodies=init++[last]):xb[init.length*20+19]? = some hF/\nF=last.Fixtures.length:=by
 rcases h.cB with ⟨e1,-⟩ | ⟨init',last',xi,e1,e2,e3,e4,e5⟩
 ·rw [hx] at e1;simp at e1
 obtain ⟨rfl,rfl⟩:init=init'/\last=last':=by
  rw [hx] at e1
  have:=List.append_inj' e1 rfl
  exact ⟨this.1,by simpa using this.2⟩
 have hxi:xi.length=init.length*20:=e3.length.symm.trans (elC_len Ix.tBody 20 init (fun _=>rfl))
 refine ⟨?_,e4⟩
 rw [e2,<- hxi,List.getElem?_append_right (by omega),Nat.add_sub_cancel_left]
 rfl
theorem PS.pcell (h:PS W0 x sec M bp h0 h1 h2 h3 hF hP nF nP xb xj xc xo xf xp w) {init:List Contact} {last:Contact} (hx:x.Contacts=init++[last]):xc[init.length*7+6]? = some hP/\nP=last.Manifold.Points.length:=by
 rcases h.cC with ⟨e1,-⟩ | ⟨init',last',xi,e1,e2,e3,e4,e5⟩
 ·rw [hx] at e1;simp at e1
 obtain ⟨rfl,rfl⟩:init=init'/\last=last':=by
  rw [hx] at e1
  have:=List.append_inj' e1 rfl
  exact ⟨this.1,by simpa using this.2⟩
 have hxi:xi.length=init.length*7:=e3.length.symm.trans (elC_len Ix.tContact 7 init (fun _=>rfl))
 refine ⟨?_,e4⟩
 rw [e2,<- hxi,List.getElem?_append_right (by omega),Nat.add_sub_cancel_left]
 rfl
end
section
variable {P:Program} {o:Oper} {a:Act} {w:World}
theorem quiet_len {t E:TypeId} {y:Operand} {ad:Option Addr} {n c:Nat} (e:o.op=.call { callee:=.builtin .len,args:=#[y],argTypes:=#[t] }) (hE:P.underlying t=some (.slice E)) (hy:a.eval y=.slice ad n c):o.quietAt P a (fun w''=>w''=w) w (.int .i64 (n:Int)):=by
 refine quiet_eq ?_
 simp [execOp,e,hy,resolve,invoke,builtin,Builtin.len_,underlying,hE,goInt]
theorem quiet_sub {t u:TypeId} {x y:Operand} {i j k:Int} (e:o.op=.binOp .sub t x y u) (hx:a.eval x=.int .i64 i) (hy:a.eval y=.int .i64 j) (hw:IntKind.i64.wrap (i - j)=k):o.quietAt P a (fun w''=>w''=w) w (.int .i64 k):=by
 refine quiet_eq ?_
 unfold execOp
 simp only [e,hx,hy]
 simp [go_sem,hw]
theorem op_assign {Q:Exit->Act->World->Prop} {K:Act->World->Prop} {x:Operand} {v:Value} {d:Nat} (e:o.op=.assign x) (hd:o.dst=some d) (hx:a.eval x=v) (h:K (a.put (some d) v) w):o.wp P a w K Q:=by
 have r:(execOp a.eval o).run P w=.ok (.value v) w:=by simp [execOp,e,hx]
 unfold Oper.wp
 rw [r,Oper.upon_value,hd]
 exact h
end
theorem bodC_one (b:Body) {h:Value} (h1:oneCell h=true):∀ u∈bodC b h,oneCell u=true:=by
 intro u hu
 simp only [bodC,List.mem_cons,List.not_mem_nil,or_false] at hu
 rcases hu with rfl | rfl | rfl | rfl | rfl | rfl | rfl | rfl | rfl | rfl | rfl | rfl | rfl | rfl | rfl | rfl | rfl | rfl | rfl | rfl <;> first | rfl | exact h1
theorem conC_one (b:Contact) {h:Value} (h1:oneCell h=true):∀ u∈conC b h,oneCell u=true:=by
 intro u hu
 simp only [conC,List.mem_cons,List.not_mem_nil,or_false] at hu
 rcases hu with rfl | rfl | rfl | rfl | rfl | rfl | rfl <;> first | rfl | exact h1
theorem ints_one (l:List Int):∀ u∈l.map (fun x:Int=>Value.int .i64 x),oneCell u=true:=by
 intro u hu
 obtain ⟨x,-,rfl⟩:=List.mem_map.1 hu
 rfl
theorem ints_calls {f:List (List UInt8)} {n:Int} {l:List Int} (h:scene_integers f n=some (l,true)) {k:Nat} (hk:l.length=k) (hk0:0<k) {M:Mem} {w:World} {v:Value} (hi:Imm M w) (hr:Rep M noNames (e_sl_str f) v):
 Calls Tryz.prog 157 #[v,.int .i64 n] w fun e w'=>∃ ib io ic M',e=.returned (.tuple #[.slice (some ⟨ib,io,none⟩) k ic,.bool true])/\NewM M w M' w'/\∀ (j:Nat) (x:Int),l[j]? = some x->joinM M M' ib (io+j)=some (.int .i64 x):=by
 refine (integers_calls h hi hr).mono ?_
 rintro e w' ⟨u,M',rfl,hn,hu⟩
 obtain ⟨ad,cap,rfl,hm⟩:=repInts hu
 obtain ⟨blk,off,rfl,hm2⟩:=hm (by omega)
 rw [hk]
 exact ⟨blk,off,cap,M',rfl,hn,fun j x e=>joinM_r _ _ _ _ _ (hm2 j x e)⟩
theorem worC_one {x:World_} {h0 h1 h2 h3:Value} (a0:oneCell h0=true) (a1:oneCell h1=true) (a2:oneCell h2=true) (a3:oneCell h3=true):∀ u∈worC x h0 h1 h2 h3,oneCell u=true:=by
 intro u hu
 simp only [worC,List.mem_cons,List.not_mem_nil,or_false] at hu
 rcases hu with rfl | rfl | rfl | rfl | rfl | rfl | rfl | rfl | rfl | rfl | rfl <;> first | rfl | assumption
theorem PS.enterQ {W0:World} {x:World_} {sec s:Int} {M:Mem} {bp:Nat} {h0 h1 h2 h3 hF hP:Value} {nF nP:Nat} {xb xj xc xo xf xp:List Value} {w w':World} (h:PS W0 x sec M bp h0 h1 h2 h3 hF hP nF nP xb xj xc xo xf xp w) (e:w'=w.setCell ⟨bp,11,none⟩ (.int .i64 s)):PS W0 x s M bp h0 h1 h2 h3 hF hP nF nP xb xj xc xo xf xp w':=by
 subst e;exact h.enter
theorem quiet_idx0 {P:Program} {o:Oper} {a:Act} {w:World} {s:TypeId} {x y:Operand} {b sz n c i:Nat} (e:o.op=.indexAddr s x y) (hx:a.eval x=.slice (some ⟨b,0,none⟩) n c) (hy:a.eval y=.int .i64 (i:Int)) (hf:idxO P s=some sz) (h1:i<n):
 o.quietAt P a (fun w''=>w''=w) w (.pointer (some ⟨b,i*sz,none⟩)):=by
 have:=quiet_idx (P:=P) (w:=w) e hx hy hf (by omega) (by omega)
 simpa using this
theorem SideB.below {bp rs b L T} {w w1:World} (h:SideB bp rs b L T w) (hb:Below w.heap.size w w1):SideB bp rs b L T w1:=⟨(hb.block b (heap_lt h.1)).trans h.1,h.2⟩
theorem len4 {l:List Int} (h:l.length=4):∃ a0 a1 a2 a3:Int,l=[a0,a1,a2,a3]:=by
 match l,h with
 | [a0,a1,a2,a3],_=>exact ⟨a0,a1,a2,a3,rfl⟩
theorem len6 {l:List Int} (h:l.length=6):∃ a0 a1 a2 a3 a4 a5:Int,l=[a0,a1,a2,a3,a4,a5]:=by
 match l,h with
 | [a0,a1,a2,a3,a4,a5],_=>exact ⟨a0,a1,a2,a3,a4,a5,rfl⟩
theorem len7 {l:List Int} (h:l.length=7):∃ a0 a1 a2 a3 a4 a5 a6:Int,l=[a0,a1,a2,a3,a4,a5,a6]:=by
 match l,h with
 | [a0,a1,a2,a3,a4,a5,a6],_=>exact ⟨a0,a1,a2,a3,a4,a5,a6,rfl⟩
end GoForm
end
