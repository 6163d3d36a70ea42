/- Several texts in one. No conditions. -/
import Derived.Test.YtelkhkmeoahhlaaGreatDoorQD
import Derived.Test.YtelkhkmeoahhlaaGreatDoorQE
import Derived.Handy
import Derived.BigQuiet
import Derived.Defers
import Derived.Deep.Cut
import Derived.Shelf.RegionOpenPlain
import Derived.Orders
import Derived.Test.YtelkhkmeoahhlaaGreatDoorF52C1
import Derived.Laws.IdiomCopy
section
set_option linter.all false
set_option maxRecDepth 100000
open Go Go.Rx Go.Proofs Go.RowKit
namespace GoForm
theorem uM {m bl l v}(h:Rep m bl (.agg l) v):∃cs,v=.agg cs.toArray/\JK m bl l cs/\∀c∈cs,jL c=true:=by
 cases h with
 |agg a b=>exact⟨_,rfl,a,b⟩
theorem jfE {m:Mem}{bl:Names}:∀l:List Value,JK m bl (l.map AV.v) l
 | []=>.nil
 |a::l=>.cons .v (jfE l)
theorem qZ {m:Mem}{bl:Names}:∀{l vs:List Value},JK m bl (l.map AV.v) vs->vs=l
 | [],_,.nil=>rfl
 |a::l,_,.cons h t=>by rw[Rep.zj h,qZ t]
theorem yy (w:World)(o:Obj)(b:Nat)(h:b=w.heap.size):(w.alloc o).heap[b]? = some o:=by subst h;show(w.heap.push o)[w.heap.size]? = _;simp
theorem UB (w:World)(o:Obj)(b:Nat)(h:b<w.heap.size):(w.alloc o).heap[b]? = w.heap[b]? := by show(w.heap.push o)[b]? = _;rw[Array.getElem?_push_lt h];simp[h]
theorem Jq {w:World}{b:Nat}{cs:Array Value}{T:TypeId}(h:w.heap[b]? = some (.cells cs T (0,0)))(j:Nat){v:Value}(e:cs[j]? = some v):w.cell? ⟨b,j,none⟩=some v:=by rw[yC h];exact e
theorem kM {w:World}{b:Nat}{cs:Array Value}{T:TypeId}(h:w.heap[b]? = some (.cells cs T (0,0)))(j:Nat):w.frozen? ⟨b,j,none⟩=false:=by unfold World.frozen?;rw[h];simp
theorem heap_set (w:World)(a:Addr)(x:Value)(b:Nat)(h:b≠a.block):(w.setCell a x).heap[b]? = w.heap[b]? := Go.RowKit.Below.heap_setCell _ _ _ _ h
theorem size_set (w:World)(a:Addr)(x:Value):(w.setCell a x).heap.size=w.heap.size:=by simp[World.setCell]
theorem vW {w:World}{b:Nat}{cs:Array Value}{T:TypeId}{fr}(h:w.heap[b]? = some (.cells cs T fr))(j:Nat)(v:Value)(cs':Array Value)(e:cs.setIfInBounds j v=cs'):(w.setCell ⟨b,j,none⟩ v).heap[b]? = some (.cells cs' T fr):=by
 subst e
 unfold World.setCell
 simp[Array.getElem?_modify,h]
theorem _root_.Go.Rx.JK.inv {m bl x l vs}(h:JK m bl (x::l) vs):∃v t,vs=v::t/\Rep m bl x v/\JK m bl l t:=by
 cases h with
 |cons a b=>exact⟨_,_,rfl,a,b⟩
theorem _root_.Go.Rx.JK.inv0 {m bl vs}(h:JK m bl [] vs):vs=[]:=by cases h;rfl
theorem _root_.Go.Rx.JK.invV {m bl x l vs}(h:JK m bl (.v x::l) vs):∃t,vs=x::t/\JK m bl l t:=by
 obtain⟨v,t,rfl,a,b⟩:=h.inv
 exact⟨t,by rw[Rep.zj a],b⟩
theorem Ug {w w':World}(h:Below w.heap.size w w'):w.grownBy w' none:=⟨h.os,h.tape,h.output,h.size,fun k hk _=>h.block k hk⟩
theorem jg5 (w:World)(cs:List Value)(T:TypeId)(b:Nat)(hb:b=w.heap.size)(j:Nat)(u:Value)(e:cs[j]? = some u):(w.alloc (.cells cs.toArray T)).cell? ((⟨b,0,none⟩:Addr).add j)=some u:=by
 rw[Yc,Nat.zero_add]
 exact Jq (yy w _ b hb) j (by simpa using e)
section
variable {P:Program} {w:World}
theorem jbP (base:Nat)(t ty e:TypeId)(i:TypeInfo)(z:Value)(size bytes:Nat)(ht:P.underlying t=some (.slice e))(hi:P.info? e=some i)(hz:i.zero=some z)
 (hsize:i.size=size) (hby:i.bytes=bytes)
 (v:Value) (n:Nat) (xs:List Value) (hown:w.ownsRow base e size v n xs)
 (a:Addr) (m c:Nat) (news:List Value) (hl:news.length=m*size) (hnews:∀j u,news[j]? = some u->w.cell? (a.add j)=some u) (h1:∀u∈news,u.oneCell'=true)
 (h63:n+m<=maxLen) (hbytes:(n+m)*bytes<=140737488355328) (hm:0<m) (v':Value) (w':World)
 (hr:(Builtin.append_ #[t,t] ty #[v,.slice (some a) m c]).run P w=.ok v' w'):v'.ownBlock=v.ownBlock\/v'.ownBlock=some w.heap.size:=by
 subst hsize
 subst hby
 simp only[maxLen]at h63
 rcases hown.2 with ⟨rfl,rfl⟩|⟨g,cap,cur,rfl,hbg,hg,hnc,hcm,hcs,htake⟩
 ·have h:=run_append_nil (P:=P) w t ty e i z ht hi hz a m c news hl hnews hm (by omega) (by have hb:=hbytes;simp only[Nat.zero_add]at hb;omega)
  rw[hr]at h
  cases h
  exact .inr rfl
 ·by_cases hroom:n+m<=cap
  ·have hfit:n*i.size+news.length<=cur.size:=by rw[hl,hcs,<-Nat.add_mul];exact Nat.mul_le_mul_right _ hroom
   have h:=run_append_room (P:=P) w t ty e i ht hi g n cap cur hg a m c news hl hnews h1 hroom hfit
   rw[hr]at h
   cases h
   exact .inl rfl
  ·have holds:∀j u,xs[j]? = some u->w.cell? ((⟨g,0,none⟩:Addr).add j)=some u:=hown.cells (g:=g) rfl
   have h:=run_append_grow (P:=P) w t ty e i z ht hi hz ⟨g,0,none⟩ n cap xs hown.1 holds a m c news hl hnews (by omega) (by omega) (growslice_fits (by omega) hbytes)
   rw[hr]at h
   cases h
   exact .inr rfl
end
theorem yv {P:Program}{ops:Array Oper}{rest:List Oper}{Q:Exit->Act->World->Prop}{o:Oper}{a:Act}{w:World}{ty:TypeId}{y:Operand}{d b off:Nat}{cs:List Value}{arr:Array Value}{T:TypeId}{fr:Nat × Nat}
 (g:o.guard=none) (e:o.op=.load ty y) (hd:o.dst=some d) (hy:a.eval y=.pointer (some ⟨b,off,none⟩)) (ha:tAg P ty=some true) (hs:tSz P ty=some cs.length)
 (hb:w.heap[b]? = some (.cells arr T fr)) (hc:∀j v,cs[j]? = some v->arr[off+j]? = some v) (h:wpList P ops Q rest (a.put (some d) (.agg cs.toArray)) w):wpList P ops Q (o::rest) a w:=by
 have hld:=qS (P:=P) (ty:=ty) (w:=w) (b:=b) (o:=off) (cs:=cs) ha hs (fun j v e=>by rw[yC hb];exact hc j v e)
 refine wpList_plain g fun K hK=>?_
 have r1:(execOp a.eval o).run P w=.ok (.value (.agg cs.toArray)) w:=by simp[execOp,e,hy,Instr.loadAt,Instr.sureAddr,hld]
 unfold Oper.wp
 rw[r1,Oper.upon_value,hd]
 exact hK _ _ h
theorem jA {P:Program}{ops:Array Oper}{rest:List Oper}{Q:Exit->Act->World->Prop}{o:Oper}{a:Act}{w:World}{ty:TypeId}{t z:Operand}{b off:Nat}{cs arr:List Value}{T:TypeId}
 (g:o.guard=none) (e:o.op=.store ty t z) (hd:o.dst=none) (ht:a.eval t=.pointer (some ⟨b,off,none⟩)) (hz:a.eval z=.agg cs.toArray) (hs:tSz P ty=some cs.length)
 (hb:w.heap[b]? = some (.cells arr.toArray T (0,0))) (hfit:off+cs.length<=arr.length) (h1:∀c∈cs,c.oneCell'=true)
 (h:∀w',w'.heap[b]? = some (.cells (arr.take off++cs++arr.drop (off+cs.length)).toArray T (0,0))->w.grownBy w' (some b)->wpList P ops Q rest a w'):wpList P ops Q (o::rest) a w:=by
 have hst:=run_storeCells_at P b off T cs 0 arr.toArray w hb (by simpa using hfit) h1
 simp only[Nat.add_zero]at hst
 refine wpList_plain g fun K hK=>?_
 have r2:(execOp a.eval o).run P w=.ok .skip (w.setRow b (arr.take off++cs++arr.drop (off+cs.length)).toArray):=by
  have hst:Sem.run P (storeCells ⟨b,off,none⟩ cs) w=Result.ok () (w.setRow b (arr.take off++cs++arr.drop (off+cs.length)).toArray):=hst
  simp[execOp,e,ht,hz,Instr.storeAt,Instr.sureAddr,storeVar,jx hs,Value.cells,hst]
 unfold Oper.wp
 rw[r2,Oper.upon_skip,hd]
 exact hK _ _ (h _ (setRow_heap w b _ _ T (0,0) hb) ⟨rfl,rfl,rfl,by simp,fun k _ hk=>setRow_other w b k _ (fun e=>hk (by rw[e]))⟩)
theorem Kz {m:Mem}{W W':World}{b:Nat}(h:Imm m W)(g:W.grownBy W' (some b))(hm:∀o,m b o=none):Imm m W':=by
 intro b' o v e
 have h1:=h b' o v e
 have hne:b'≠b:=fun e2=>by subst e2;rw[hm]at e;cases e
 have hlt:b'<W.heap.size:=by
  rcases Nat.lt_or_ge b' W.heap.size with h|h
  ·exact h
  ·simp[World.cell?,Array.getElem?_eq_none h]at h1
 rw[<-h1]
 unfold World.cell?
 rw[g.block b' hlt (fun e=>hne (Option.some.inj e))]
section
variable {P:Program}
theorem jeK {l:List Nat}{i:Nat}(h:i∈l):(l.filter (fun j=>j != i)).length<l.length:=by
 rw[List.length_filter_lt_length_iff_exists]
 exact⟨i,h,by simp⟩
theorem jd3 {Q:Exit->Act->World->Prop}{ops:Array Oper}(I:(Nat->Bool)->Act->World->Prop)
 (hd:∀(i:Nat) (o:Oper),ops[i]? = some o->∀e∈o.after,Region.binds .any e=true->e.on<i)
 (hs:∀f a w i o,I f a w->ops[i]? = some o->f i=false->(∀e∈o.after,Region.binds .any e=true->f e.on=true)->wpOp P ops Q i (I (fun j=>if j=i then true else f j)) a w)
 (he:∀f a w,I f a w->(∀i,i<ops.size->f i=true)->Q .normal a w):∀(fuel:Nat) (listed:Array Bool) (a:Act) (w:World),listed.size=ops.size->I (fun j=>listed.getD j false) a w->
   (∃l:List Nat,l.length<=fuel/\∀j,j<ops.size->listed.getD j false=false->j∈l)->wpAny P .any ops Q fuel listed a w:=by
 have inb:∀(listed:Array Bool) (j:Nat) (x y:Bool),j<listed.size->listed.getD j x=listed.getD j y:=fun listed j x y h=>by
  simp only[Array.getD_eq_getD_getElem?,Array.getElem?_eq_getElem h,Option.getD_some]
 have all:∀listed:Array Bool,listed.size=ops.size->Region.ready .any ops listed=[]->∀i,i<ops.size->listed.getD i false=true:=by
  intro listed hz h i
  induction i using Nat.strongRecOn with
  |ind i ih=>
   intro hi
   cases hl:listed.getD i false with
   |true=>rfl
   |false=>
    have:i∈Region.ready .any ops listed:=by
     unfold Region.ready
     rw[List.mem_filter]
     refine⟨List.mem_range.2 hi,?_⟩
     rw[inb listed i true false (by omega),hl]
     obtain⟨o,ho⟩:∃o,ops[i]? = some o:=⟨_,Array.getElem?_eq_getElem hi⟩
     rw[ho]
     simp only[Bool.not_false,Option.map_some,Option.getD_some,Bool.true_and,Array.all_eq_true_iff_forall_mem,Bool.or_eq_true]
     intro e hm
     cases hbd:Region.binds .any e with
     |false=>exact .inl (by simp)
     |true=>exact .inr (ih e.on (hd i o ho e hm hbd) (Nat.lt_trans (hd i o ho e hm hbd) hi))
    rw[h]at this
    cases this
 intro fuel
 induction fuel with
 |zero=>
  intro listed a w hz hI ⟨l,hl,hc⟩
  have hall:∀j,j<ops.size->listed.getD j false=true:=fun j hj=>by
   cases e:listed.getD j false with
   |true=>rfl
   |false=>
    have:=hc j hj e
    have h0:l=[]:=List.length_eq_zero_iff.1 (by omega)
    rw[h0]at this
    cases this
  refine⟨?_,he _ a w hI hall⟩
  unfold Region.ready
  rw[List.filter_eq_nil_iff]
  intro i hi
  have hi:=List.mem_range.1 hi
  rw[inb listed i true false (by omega),hall i hi]
  simp
 |succ fuel ih=>
  intro listed a w hz hI ⟨l,hl,hc⟩
  refine⟨fun h=>he _ a w hI (all listed hz h),fun i hi=>?_⟩
  unfold Region.ready at hi
  rw[List.mem_filter]at hi
  obtain⟨h1,h2⟩:=hi
  have h1:=List.mem_range.1 h1
  obtain⟨o,ho⟩:∃o,ops[i]? = some o:=⟨_,Array.getElem?_eq_getElem h1⟩
  rw[ho,inb listed i true false (by omega)]at h2
  simp only[Option.map_some,Option.getD_some,Bool.and_eq_true,Bool.not_eq_true',Array.all_eq_true_iff_forall_mem,Bool.or_eq_true]at h2
  have hf:(fun j=>(listed.setIfInBounds i true).getD j false)=fun j=>if j=i then true else listed.getD j false:=by
   funext j
   simp only[Array.getD_eq_getD_getElem?]
   by_cases e:j=i
   ·subst e
    rw[Array.getElem?_setIfInBounds_self_of_lt (by omega)];simp
   ·rw[Array.getElem?_setIfInBounds_ne (fun h=>e h.symm)];simp[e]
  refine wpOp_mono ?_ (hs _ a w i o hI ho h2.1 fun e he' hb=>?_)
  ·intro a' w' hI'
   refine ih _ a' w' (by simpa using hz) (by rw[hf];exact hI') ⟨l.filter (fun j=>j != i),?_,fun j hj hju=>?_⟩
   ·have:=jeK (hc i h1 h2.1);omega
   ·rw[congrFun hf j]at hju
    by_cases e:j=i
    ·rw[if_pos e]at hju;cases hju
    ·rw[if_neg e]at hju
     rw[List.mem_filter]
     exact⟨hc j hj hju,by simpa using e⟩
  ·rcases h2.2 e he' with h|h
   ·rw[hb]at h;simp at h
   ·exact h
theorem VQ {id:Nat}{Q:Exit->Act->World->Prop}{ops:Array Oper}{a:Act}{w:World}(hm:P.follows .mixedOrders=true)(I:(Nat->Bool)->Act->World->Prop)
 (hd:∀(i:Nat) (o:Oper),ops[i]? = some o->∀e∈o.after,Region.binds .any e=true->e.on<i)
 (h0:I (fun _=>false) a w.drew)
 (hs:∀f a w i o,I f a w->ops[i]? = some o->f i=false->(∀e∈o.after,Region.binds .any e=true->f e.on=true)->wpOp P ops Q i (I (fun j=>if j=i then true else f j)) a w)
 (he:∀f a w,I f a w->(∀i,i<ops.size->f i=true)->Q .normal a w):(Code.region id ops true).wp P Q a w:=by
 refine wp_region_any hm (jd3 I hd hs he _ _ a _ (by simp) ?_ ⟨List.range ops.size,by simp,fun j hj _=>List.mem_range.2 hj⟩)
 have:(fun j=>(Array.replicate ops.size false).getD j false)=fun _=>false:=by
  funext j
  simp only[Array.getD_eq_getD_getElem?,Array.getElem?_replicate]
  split <;> rfl
 rw[this]
 exact h0
variable {ops:Array Oper} {i:Nat} {o:Oper} {Q:Exit->Act->World->Prop} {K:Act->World->Prop} {a:Act} {w:World}
theorem uB (hi:ops[i]? = some o)(g:o.guard=none)(h:o.wp P a w K Q):wpOp P ops Q i K a w:=by
 unfold wpOp
 rw[hi]
 simp only[Region.wanted,g,if_true]
 exact .inl h
theorem jic {T:TypeId}{z:Value}(e:o.op=.alloc T)(hz:∀w,Sem.run P (zeroValue T) w=.ok z w)(hk:K (a.put o.dst (.pointer (some ⟨w.heap.size,0,none⟩))) (w.alloc (.cells z.cells T))):o.wp P a w K Q:=by
 have r1:(execOp a.eval o).run P w=.ok (.value (.pointer (some ⟨w.heap.size,0,none⟩))) (w.alloc (.cells z.cells T)):=by simp[execOp,e,Instr.alloc,hz,newVar,newRow]
 unfold Oper.wp
 rw[r1]
 exact hk
theorem jib {ty:TypeId}{t z:Operand}{b:Nat}{cs:List Value}{arr:Array Value}{T:TypeId}(e:o.op=.store ty t z)(ht:a.eval t=.pointer (some ⟨b,0,none⟩))(hz:a.eval z=.agg cs.toArray)(hs:tSz P ty=some cs.length)
 (hb:w.heap[b]? = some (.cells arr T (0,0))) (hl:arr.size=cs.length) (h1:∀c∈cs,c.oneCell'=true)
 (hk:∀w',w'.heap[b]? = some (.cells cs.toArray T (0,0))->w.grownBy w' (some b)->K (a.put o.dst undef) w'):o.wp P a w K Q:=by
 have hst:=run_storeCells_at P b 0 T cs 0 arr w hb (by omega) h1
 have hnil:arr.toList.drop cs.length=[]:=List.drop_eq_nil_of_le (by simp[hl])
 simp only[Nat.add_zero,Nat.zero_add,List.take_zero,List.nil_append,hnil,List.append_nil]at hst
 have r2:(execOp a.eval o).run P w=.ok .skip (w.setRow b cs.toArray):=by
  have hst:Sem.run P (storeCells ⟨b,0,none⟩ cs) w=Result.ok () (w.setRow b cs.toArray):=hst
  simp[execOp,e,ht,hz,Instr.storeAt,Instr.sureAddr,storeVar,jx hs,Value.cells,hst]
 unfold Oper.wp
 rw[r2]
 exact hk _ (setRow_heap w b arr cs.toArray T (0,0) hb) ⟨rfl,rfl,rfl,by simp,fun k _ hk=>setRow_other w b k _ (fun e=>hk (by rw[e]))⟩
end
theorem ev {a:Act}{t:Nat}{v:Value}(h:a.tmps[t]? = some v):a.eval (.tmp t)=v:=by
 simp[Act.eval,h]
theorem qh {a:Act}{d j:Nat}{v:Value}(h:j≠d):(a.put (some d) v).tmps[j]? = a.tmps[j]? := Array.getElem?_setIfInBounds_ne (fun e=>h e.symm)
theorem put_eq {a:Act}{d:Nat}{v:Value}(h:d<a.tmps.size):(a.put (some d) v).tmps[d]? = some v:=Array.getElem?_setIfInBounds_self_of_lt h
theorem Zc {a:Act}{d:Nat}{v:Value}:(a.put (some d) v).tmps.size=a.tmps.size:=by simp[Act.put]
def Pure (n ja js i:Nat):Prop:=i<n/\i≠ja/\i≠js
structure TI (n ja js da:Nat)(ds:Nat->Nat)(val:Nat->Value)(T:TypeId)(V:List Value)(w0:World)(a0:Act)(f:Nat->Bool)(a:Act)(w:World)(b:Nat):Prop where
 sz:a.tmps.size=a0.tmps.size
 df:a.defers=a0.defers
 bel:Below w0.heap.size w0 w
 Zy:∀i,Pure n ja js i->f i=true->a.tmps[ds i]? = some (val i)
 rest:∀j,(∀i,Pure n ja js i->ds i≠j)->j≠da->a.tmps[j]? = a0.tmps[j]?
 ord:f js=true->f ja=true
 box:f ja=true->a.tmps[da]? = some (.pointer (some ⟨b,0,none⟩))/\w0.heap.size<=b/\b<w.heap.size/\∃cs,w.heap[b]? = some (.cells cs T (0,0))/\cs.size=V.length/\(f js=true->cs=V.toArray)
theorem TI.world {n ja js da ds val T V w0 a0 f a w b}(h:TI n ja js da ds val T V w0 a0 f a w b){w':World}(hb:Below w.heap.size w w'):TI n ja js da ds val T V w0 a0 f a w' b:=
 ⟨h.sz,h.df,h.bel.trans (hb.mono h.bel.size),h.Zy,h.rest,h.ord,fun e=>by
   obtain⟨h1,h2,h3,cs,h4,h5⟩:=h.box e
   exact⟨h1,h2,Nat.lt_of_lt_of_le h3 hb.size,cs,(hb.block _ h3).trans h4,h5⟩⟩
theorem pk {P : Program}{id:Nat}{Q:Exit->Act->World->Prop}{ops:Array Oper}{a0:Act}{w:World}(hm:P.follows .mixedOrders=true)
 (n ja js jv da:Nat) (ds:Nat->Nat) (val:Nat->Value) (T ty:TypeId) (z:Value) (V:List Value) (hn:ops.size=n)
 (hback:∀(i:Nat) (o:Oper),ops[i]? = some o->∀e∈o.after,Region.binds .any e=true->e.on<i)
 (hp:∀i o,Pure n ja js i->ops[i]? = some o->o.guard=none/\o.dst=some (ds i)/\ds i<a0.tmps.size/\∀a,(∀e∈o.after,Region.binds .any e=true->e.on≠ja->e.on≠js->a.tmps[ds e.on]? = some (val e.on))->
   (∀j,(∀i,Pure n ja js i->ds i≠j)->j≠da->a.tmps[j]? = a0.tmps[j]?)->∀w',Below w.heap.size w w'->o.quietAt P a (fun w''=>Below w'.heap.size w' w'') w' (val i))
 (hinj:∀i i',Pure n ja js i->Pure n ja js i'->ds i=ds i'->i=i') (hda:∀i,Pure n ja js i->ds i≠da) (hdl:da<a0.tmps.size)
 (ha:∃o,ops[ja]? = some o/\o.guard=none/\o.op=.alloc T/\o.dst=some da) (hz:∀w,Sem.run P (zeroValue T) w=.ok z w) (hzV:z.cells.size=V.length)
 (hs:∃o,ops[js]? = some o/\o.guard=none/\o.op=.store ty (.tmp da) (.tmp (ds jv))/\o.dst=none/\∀f:Nat->Bool,(∀e∈o.after,Region.binds .any e=true->f e.on=true)->f ja=true/\f jv=true)
 (hjv:Pure n ja js jv) (hjas:ja≠js) (hv:val jv=.agg V.toArray) (hVs:tSz P ty=some V.length) (h1:∀c∈V,c.oneCell'=true)
 (hq:∀a w' b,Below w.heap.size w w'->w.heap.size<=b->b<w'.heap.size->w'.heap[b]? = some (.cells V.toArray T (0,0))->a.defers=a0.defers->a.tmps.size=a0.tmps.size->(∀i,Pure n ja js i->a.tmps[ds i]? = some (val i))->a.tmps[da]? = some (.pointer (some ⟨b,0,none⟩))->
   (∀j,(∀i,Pure n ja js i->ds i≠j)->j≠da->a.tmps[j]? = a0.tmps[j]?)->Q .normal a w'):(Code.region id ops true).wp P Q a0 w:=by
 have hdr:Below w.heap.size w w.drew:=(Below.refl _ w).drew
 refine VQ hm (fun f a w'=>∃b,TI n ja js da ds val T V w a0 f a w' b) hback ⟨0,rfl,rfl,hdr,by simp,fun _ _ _=>rfl,by simp,by simp⟩ ?_ ?_
 ·rintro f a w1 i o ⟨b,S⟩ ho hf hdep
  have hi:i<n:=by rw[<-hn];exact(Array.getElem?_eq_some_iff.1 ho).1
  by_cases ea:i=ja
  ·subst ea
   obtain⟨o',q1,q2,q3,q4⟩:=ha
   rw[q1]at ho;cases ho
   have njs:f js=true->False:=fun h=>by have:=S.ord h;rw[hf]at this;cases this
   refine uB q1 q2 (jic q3 hz ?_)
   rw[q4]
   have hb:Below w1.heap.size w1 (w1.alloc (.cells z.cells T)):=(Below.refl _ _).alloc (Nat.le_refl _) _
   have S1:=S.world hb
   refine⟨w1.heap.size,Zc.trans S1.sz,S1.df,S1.bel,fun k hk h=>?_,fun j h1 h2=>(qh h2).trans (S1.rest j h1 h2),fun h=>?_,fun _=>⟨put_eq (by rw[S.sz];exact hdl),S.bel.size,by simp,z.cells,yy _ _ _ rfl,hzV,fun h=>?_⟩⟩
   ·rw[qh (hda k hk)]
    rw[if_neg hk.2.1]at h
    exact S1.Zy k hk h
   ·exact if_pos rfl
   ·rw[if_neg (fun e=>hjas e.symm)]at h;exact(njs h).elim
  ·by_cases es:i=js
   ·subst es
    obtain⟨o',q1,q2,q3,q4,q5⟩:=hs
    rw[q1]at ho;cases ho
    obtain⟨fa,fv⟩:=q5 f hdep
    obtain⟨g1,g2,g3,cs,g4,g5,-⟩:=S.box fa
    refine uB q1 q2 (jib q3 (ev g1) ((ev (S.Zy jv hjv fv)).trans hv) hVs g4 g5 h1 fun w' hh hg=>?_)
    rw[q4]
    refine⟨b,S.sz,S.df,S.bel.grown hg S.bel.size (fun k e=>by have:=Option.some.inj e;omega),fun k hk h=>?_,S.rest,fun _=>?_,fun _=>⟨g1,g2,Nat.lt_of_lt_of_le g3 hg.size,_,hh,by simp,fun _=>rfl⟩⟩
    ·rw[if_neg hk.2.2]at h
     exact S.Zy k hk h
    ·rw[if_neg hjas];exact fa
   ·have hpi:Pure n ja js i:=⟨hi,ea,es⟩
    obtain⟨q2,q4,q5,q6⟩:=hp i o hpi ho
    have hQ:=q6 a (fun e he hb h1 h2=>by
     have hlt:=hback i o ho e he hb
     exact S.Zy e.on ⟨by omega,h1,h2⟩ (hdep e he hb)) S.rest w1 S.bel
    refine uB ho q2 ?_
    have key:∀w2,Below w1.heap.size w1 w2->∃b,TI n ja js da ds val T V w a0 (fun j=>if j=i then true else f j) (a.put (some (ds i)) (val i)) w2 b:=fun w2 hb=>by
     have S1:=S.world hb
     refine⟨b,Zc.trans S1.sz,S1.df,S1.bel,fun k hk h=>?_,fun j h1 h2=>(qh (fun e=>h1 i hpi e.symm)).trans (S1.rest j h1 h2),fun h=>?_,fun h=>?_⟩
     ·by_cases ek:k=i
      ·subst ek;exact put_eq (by rw[S.sz];exact q5)
      ·rw[if_neg ek]at h
       rw[qh (fun e=>ek (hinj k i hk hpi e))]
       exact S1.Zy k hk h
     ·rw[if_neg (fun e=>es e.symm)]at h
      rw[if_neg (fun e=>ea e.symm)];exact S1.ord h
     ·rw[if_neg (fun e=>ea e.symm)]at h
      rw[qh (fun e=>hda i hpi e.symm),if_neg (fun e=>es e.symm)]
      exact S1.box h
    rw[<-q4]at key
    unfold Oper.quietAt at hQ
    unfold Oper.wp
    generalize (execOp a.eval o).run P w1=r at hQ⊢
    cases r with
    |ok nx w'=>
     cases nx <;> simp only[Oper.quietUpon]at hQ <;> simp only[Oper.upon]
     case value u=>
      obtain⟨e1,e2⟩:=hQ
      subst e1;subst e2
      exact key _ (Below.refl _ _)
     case skip=>
      obtain⟨e1,e2⟩:=hQ
      subst e1
      rw[<-e2]
      exact key _ (Below.refl _ _)
     case enter f args=>
      obtain⟨e1,hc⟩:=hQ
      subst e1
      exact hc.mono fun e w'' ⟨he,hw''⟩=>by subst he;exact key _ hw''
    |halt x w'=>simp only[Oper.quietUpon]at hQ
 ·rintro f a w1 ⟨b,S⟩ hall
  rw[hn]at hall
  have hja:ja<n:=by obtain⟨o,q,-⟩:=ha;rw[<-hn];exact(Array.getElem?_eq_some_iff.1 q).1
  have hjs:js<n:=by obtain⟨o,q,-⟩:=hs;rw[<-hn];exact(Array.getElem?_eq_some_iff.1 q).1
  obtain⟨g1,g2,g3,cs,g4,-,g6⟩:=S.box (hall ja hja)
  exact hq a w1 b S.bel g2 g3 (g6 (hall js hjs) ▸ g4) S.df S.sz (fun i hi=>S.Zy i hi (hall i hi.1)) g1 S.rest
theorem jfL {P:Program}{o:Oper}{a:Act}{C:World->Prop}{w:World}{v:Value}(h:(execOp a.eval o).run P w=.ok (.value v) w):o.quietAt P a C w v:=by
 unfold Oper.quietAt
 rw[h]
 exact⟨rfl,rfl⟩
theorem jh1 {P:Program}{C:World->Prop}{o:Oper}{a:Act}{w:World}{f:FuncId}{xs:Array Operand}{tys:Array TypeId}{vs:Array Value}{v:Value}
 (e:o.op=.call {callee:=.value (.func f),args:=xs,argTypes:=tys}) (hc:∀(args:Array Value) (w:World),Sem.run P (callFunc f args) w=.ok (.enter f args) w) (hv:xs.map a.eval=vs)
 (h:Calls P f vs w fun e w'=>e=.returned v/\C w'):o.quietAt P a C w v:=by
 have r1:(execOp a.eval o).run P w=.ok (.enter f vs) w:=by subst hv;simp[execOp,e,resolve,invoke,hc,go_sem]
 unfold Oper.quietAt
 rw[r1]
 exact⟨rfl,h⟩
def AllV (tm:Array Value):List (Nat × Value)->Prop
 | []=>True
 |p::wr=>tm[p.1]? = some p.2/\AllV tm wr
theorem AllV.mem {tm:Array Value}:∀{wr:List (Nat × Value)},AllV tm wr->∀q∈wr,tm[q.1]? = some q.2
 |p::wr,h,q,hq=>by
  rcases List.mem_cons.1 hq with e|e
  ·subst e;exact h.1
  ·exact AllV.mem h.2 q e
def nxF (f:Nat->Bool)(i:Nat):Nat->Bool:=fun j=>if j=i then true else f j
structure TG {β:Type}(ops:Array Oper)(n:Nat)(ds:Nat->Nat)(val:β->Nat->Value)(Inv:(Nat->Bool)->β->World->Prop)(a0:Act)(f:Nat->Bool)(a:Act)(w:World)(V:β):Prop where
 sz:a.tmps.size=a0.tmps.size
 df:a.defers=a0.defers
 Zy:∀i,i<n->f i=true->a.tmps[ds i]? = some (val V i)
 rest:∀j,(∀i,i<n->ds i≠j)->a.tmps[j]? = a0.tmps[j]?
 inv:Inv f V w
 cl:∀i o,ops[i]? = some o->f i=true->∀e∈o.after,Region.binds .any e=true->f e.on=true
theorem Mf {P:Program}{id:Nat}{Q:Exit->Act->World->Prop}{ops:Array Oper}{a:Act}{w:World}(I:(Nat->Bool)->Act->World->Prop)
 (hd:∀(i:Nat) (o:Oper),ops[i]? = some o->∀e∈o.after,Region.binds .any e=true->e.on<i) (h0:I (fun _=>false) a w)
 (hs:∀f a w i o,I f a w->ops[i]? = some o->f i=false->(∀e∈o.after,Region.binds .any e=true->f e.on=true)->o.guard=none/\o.wp P a w (I (fun j=>if j=i then true else f j)) Q)
 (he:∀f a w,I f a w->(∀i,i<ops.size->f i=true)->Q .normal a w):(Code.region id ops false).wp P Q a w:=by
 refine wp_region_list ?_
 have key:∀(n k:Nat) (a:Act) (w:World),n=ops.size - k->k<=ops.size->I (fun j=>decide (j<k)) a w->wpList P ops Q (ops.toList.drop k) a w:=by
  intro n
  induction n with
  |zero=>
   intro k a w hn hk hI
   rw[List.drop_eq_nil_of_le (by simp;omega)]
   exact wpList_nil (he _ _ _ hI fun i hi=>decide_eq_true (by omega))
  |succ n ih=>
   intro k a w hn hk hI
   have hlt:k<ops.toList.length:=by simp;omega
   rw[List.drop_eq_getElem_cons hlt]
   have ho:ops[k]? = some ops.toList[k]:=by rw[Array.getElem?_eq_getElem (by simpa using hlt)];simp
   obtain⟨g,hw⟩:=hs _ a w k _ hI ho (decide_eq_false (by omega)) (fun e he' hb=>decide_eq_true (hd k _ ho e he' hb))
   refine wpList_plain g fun K hK=>Oper.wp_mono (fun a' w' h=>hK a' w' (ih (k+1) a' w' (by omega) (by simp at hlt;omega) ?_)) hw
   have e:(fun j=>if j=k then true else decide (j<k))=fun j=>decide (j<k+1):=by
    funext j
    by_cases ej:j=k
    ·subst ej;simp
    ·rw[if_neg ej];congr 1;rw[eq_iff_iff];omega
   rw[<-e];exact h
 have:=key ops.size 0 a w rfl (Nat.zero_le _) (by
  have e:(fun j=>decide (j<0))=fun _:Nat=>false:=by funext j;simp
  rw[e];exact h0)
 simpa using this
theorem Um {β:Type}{P:Program}{id:Nat}{Q:Exit->Act->World->Prop}{ops:Array Oper}{a0:Act}{w:World}(hm:P.follows .mixedOrders=true)
 (md:Bool) (n:Nat) (ds:Nat->Nat) (eff:Nat->Bool) (val:β->Nat->Value) (V0:β) (Inv:(Nat->Bool)->β->World->Prop) (hn:ops.size=n+1)
 (hback:∀(i:Nat) (o:Oper),ops[i]? = some o->∀e∈o.after,Region.binds .any e=true->e.on<i)
 (h0:Inv (fun _=>false) V0 w/\Inv (fun _=>false) V0 w.drew)
 (hp:∀i o,i<n->eff i=false->ops[i]? = some o->o.guard=none/\o.dst=some (ds i)/\ds i<a0.tmps.size/\∀f V w' (a:Act),Inv f V w'->(∀e∈o.after,Region.binds .any e=true->f e.on=true/\a.tmps[ds e.on]? = some (val V e.on))->
   (∀j,(∀i,i<n->ds i≠j)->a.tmps[j]? = a0.tmps[j]?)->∃C:World->Prop,o.quietAt P a C w' (val V i)/\Inv (nxF f i) V w'/\∀w'',C w''->Inv (nxF f i) V w'')
 (he:∀i o,i<n->eff i=true->ops[i]? = some o->o.guard=none/\ds i<a0.tmps.size/\∀f V w' (a:Act),Inv f V w'->f i=false->(∀e∈o.after,Region.binds .any e=true->f e.on=true/\a.tmps[ds e.on]? = some (val V e.on))->
   (∀j,(∀i,i<n->ds i≠j)->a.tmps[j]? = a0.tmps[j]?)->o.wp P a w' (fun a' w''=>∃V',a'=a.put (some (ds i)) (val V' i)/\Inv (nxF f i) V' w''/\∀j,j<n->f j=true->val V' j=val V j) Q)
 (hinj:∀i i',i<n->i'<n->ds i=ds i'->i=i')
 (hl:∃o,ops[n]? = some o/\o.guard=none/\(∀f:Nat->Bool,(∀e∈o.after,Region.binds .any e=true->f e.on=true)->(∀i o,ops[i]? = some o->f i=true->∀e∈o.after,Region.binds .any e=true->f e.on=true)->∀i,i<n->f i=true)/\∀f V (a:Act) w',(∀i,i<n->f i=true)->a.tmps.size=a0.tmps.size->a.defers=a0.defers->(∀i,i<n->a.tmps[ds i]? = some (val V i))->
   (∀j,(∀i,i<n->ds i≠j)->a.tmps[j]? = a0.tmps[j]?)->Inv f V w'->o.wp P a w' (fun a' w''=>Q .normal a' w'') Q):(Code.region id ops md).wp P Q a0 w:=by
 have start:∀w1,Inv (fun _=>false) V0 w1->(fun f a w'=>(f n=true/\(∀i,i<n->f i=true)/\Q .normal a w')\/(f n=false/\∃V,TG ops n ds val Inv a0 f a w' V)) (fun _=>false) a0 w1:=fun w1 h=>.inr ⟨rfl,V0,rfl,rfl,by simp,fun _ _=>rfl,h,by simp⟩
 have hs':∀f a w i o,(fun f a w'=>(f n=true/\(∀i,i<n->f i=true)/\Q .normal a w')\/(f n=false/\∃V,TG ops n ds val Inv a0 f a w' V)) f a w->ops[i]? = some o->f i=false->(∀e∈o.after,Region.binds .any e=true->f e.on=true)->o.guard=none/\o.wp P a w ((fun f a w'=>(f n=true/\(∀i,i<n->f i=true)/\Q .normal a w')\/(f n=false/\∃V,TG ops n ds val Inv a0 f a w' V)) (fun j=>if j=i then true else f j)) Q:=by
  rintro f a w1 i o hI ho hf hdp
  have hin:i<n+1:=by rw[<-hn];exact(Array.getElem?_eq_some_iff.1 ho).1
  rcases hI with ⟨h1,h2,-⟩|⟨hfn,V,S⟩
  ·exfalso
   by_cases e:i=n
   ·rw[e,h1]at hf;cases hf
   ·rw[h2 i (by omega)]at hf;cases hf
  have clx:∀j oj,ops[j]? = some oj->(if j=i then true else f j)=true->∀e∈oj.after,Region.binds .any e=true->(if e.on=i then true else f e.on)=true:=fun j oj hj hfj e he hb=>by
   by_cases ej:e.on=i
   ·exact if_pos ej
   ·rw[if_neg ej]
    by_cases ei:j=i
    ·rw[ei,ho]at hj;cases hj;exact hdp e he hb
    ·rw[if_neg ei]at hfj
     exact S.cl j oj hj hfj e he hb
  by_cases en:i=n
  ·obtain⟨o',q1,q2,q3,q4⟩:=hl
   rw[en]at ho
   rw[q1]at ho;cases ho
   have hall:=q3 f hdp S.cl
   refine⟨q2,?_⟩
   have:=q4 f V a w1 hall S.sz S.df (fun j hj=>S.Zy j hj (hall j hj)) S.rest S.inv
   exact Oper.wp_mono (fun a' w'' hq=>.inl ⟨if_pos en.symm,fun j hj=>(by show(if j=i then true else f j)=true;rw[if_neg (by omega)];exact hall j hj),hq⟩) this
  ·have hi:i<n:=by omega
   have hdv:∀e∈o.after,Region.binds .any e=true->f e.on=true/\a.tmps[ds e.on]? = some (val V e.on):=fun e he hb=>⟨hdp e he hb,S.Zy e.on (by have:=hback i o ho e he hb;omega) (hdp e he hb)⟩
   have put:∀(V':β) w',Inv (nxF f i) V' w'->ds i<a0.tmps.size->(∀j,j<n->f j=true->val V' j=val V j)->TG ops n ds val Inv a0 (fun j=>if j=i then true else f j) (a.put (some (ds i)) (val V' i)) w' V':=by
    intro V' w' hI q5 hst
    refine⟨Zc.trans S.sz,S.df,fun j hj h=>?_,fun j h1=>(qh (fun e=>h1 i hi e.symm)).trans (S.rest j h1),hI,clx⟩
    by_cases ej:j=i
    ·subst ej;exact put_eq (by rw[S.sz];exact q5)
    ·rw[if_neg ej]at h
     rw[qh (fun e=>ej (hinj j i hj hi e)),S.Zy j hj h,hst j hj h]
   cases ee:eff i with
   |true=>
    obtain⟨q2,q5,q6⟩:=he i o hi ee ho
    refine⟨q2,Oper.wp_mono ?_ (q6 f V w1 a S.inv hf hdv S.rest)⟩
    rintro a' w'' ⟨V',rfl,h1,h2⟩
    exact .inr ⟨(if_neg (fun e=>en e.symm)).trans hfn,V',put V' w'' h1 q5 h2⟩
   |false=>
    obtain⟨q2,q4,q5,q6⟩:=hp i o hi ee ho
    obtain⟨C,hQ,hI,hI2⟩:=q6 f V w1 a S.inv hdv S.rest
    have key:∀w2,Inv (nxF f i) V w2->∀u,u=val V i->(f n=true/\False)\/((fun j=>if j=i then true else f j) n=false/\∃V,TG ops n ds val Inv a0 (fun j=>if j=i then true else f j) (a.put o.dst u) w2 V):=by
     rintro w2 hI u rfl
     rw[q4]
     exact .inr ⟨(if_neg (fun e=>en e.symm)).trans hfn,V,put V w2 hI q5 (fun _ _ _=>rfl)⟩
    have key:∀w2,Inv (nxF f i) V w2->∀u,u=val V i->((fun j=>if j=i then true else f j) n=true/\(∀k,k<n->(fun j=>if j=i then true else f j) k=true)/\Q .normal (a.put o.dst u) w2)\/((fun j=>if j=i then true else f j) n=false/\∃V,TG ops n ds val Inv a0 (fun j=>if j=i then true else f j) (a.put o.dst u) w2 V):=fun w2 hI u hu=>(key w2 hI u hu).elim (fun h=>h.2.elim) .inr
    refine⟨q2,?_⟩
    unfold Oper.quietAt at hQ
    unfold Oper.wp
    generalize (execOp a.eval o).run P w1=r at hQ⊢
    cases r with
    |ok nx w'=>
     cases nx <;> simp only[Oper.quietUpon]at hQ <;> simp only[Oper.upon]
     case value u=>
      obtain⟨e1,e2⟩:=hQ
      subst e1
      exact key _ hI _ e2
     case skip=>
      obtain⟨e1,e2⟩:=hQ
      subst e1
      exact key _ hI _ e2.symm
     case enter g args=>
      obtain⟨e1,hcl⟩:=hQ
      subst e1
      exact hcl.mono fun e w'' ⟨he,hw''⟩=>by subst he;exact key _ (hI2 _ hw'') _ rfl
    |halt x w'=>simp only[Oper.quietUpon]at hQ
 have he':∀f a w,(fun f a w'=>(f n=true/\(∀i,i<n->f i=true)/\Q .normal a w')\/(f n=false/\∃V,TG ops n ds val Inv a0 f a w' V)) f a w->(∀i,i<ops.size->f i=true)->Q .normal a w:=by
  rintro f a w1 hI hall
  rw[hn]at hall
  rcases hI with ⟨_,_,h⟩|⟨h,_⟩
  ·exact h
  ·rw[hall n (by omega)]at h;cases h
 cases md with
 |true=>exact VQ hm _ hback (start _ h0.2) (fun f a w i o h1 h2 h3 h4=>uB h2 (hs' f a w i o h1 h2 h3 h4).1 (hs' f a w i o h1 h2 h3 h4).2) he'
 |false=>exact Mf _ hback (start _ h0.1) hs' he'
theorem jdJ (E:Ix)(x:tb.T E)(l:List (tb.T E)):elC tb E (x::l)=(tb.el E x).cells++elC tb E l:=by
 simp[elC]
theorem vZ (E:Ix)(l:List (tb.T E))(x:tb.T E):elC tb E (l++[x])=elC tb E l++(tb.el E x).cells:=by
 simp[elC]
theorem qc (E:Ix)(k:Nat)(l:List (tb.T E))(h:∀x,(tb.el E x).cells.length=k):(elC tb E l).length=l.length*k:=by
 induction l with
 |nil=>simp[elC]
 |cons x l ih=>rw[jdJ,List.length_append,ih,h,List.length_cons,Nat.add_mul];omega
def zr (M M1:Mem):Mem:=fun b o=>match M1 b o with|some u=>some u|none=>M b o
theorem zc (M M1:Mem):Mem.le M1 (zr M M1):=fun b o u e=>by unfold zr;rw[e]
theorem Wu {M M1:Mem}{w:World}(h:Imm M w)(h1:Imm M1 w):Mem.le M (zr M M1):=fun b o u e=>by
 unfold zr
 cases e1:M1 b o with
 |none=>exact e
 |some u1=>
  have a:=h b o u e
  have b':=h1 b o u1 e1
  rw[a]at b';cases b';rfl
theorem Kq {M M1:Mem}{b o u}(h:zr M M1 b o=some u):M b o=some u\/M1 b o=some u:=by
 unfold zr at h
 cases e1:M1 b o with
 |none=>rw[e1]at h;exact .inl h
 |some u1=>rw[e1]at h;exact .inr h
def Ul:List (Option Nat)->Prop
 | []=>True
 |o::l=>(∀g,o=some g->some g∉l)/\Ul l
theorem Ul.set:∀{l:List (Option Nat)} {i:Nat} {o o':Option Nat},Ul l->l[i]? = some o->(∀g,o'=some g->o=some g\/some g∉l)->Ul (l.set i o')
 | [],i,o,o',_,h,_=>by simp at h
 |a::l,0,o,o',⟨h1,h2⟩,h,hn=>by
  have h:a=o:=by simpa using h
  subst h
  refine⟨fun g e hm=>?_,h2⟩
  rcases hn g e with h|h
  ·exact h1 g h hm
  ·exact h (List.mem_cons_of_mem _ hm)
 |a :: l,i+1,o,o',⟨h1,h2⟩,h,hn=>by
  have h:l[i]? = some o:=by simpa using h
  refine⟨fun g e hm=>?_,h2.set h fun g e=>(hn g e).imp (fun h=>h) (fun h hm=>h (List.mem_cons_of_mem _ hm))⟩
  rcases List.mem_or_eq_of_mem_set hm with hm|hm
  ·exact h1 g e hm
  ·rcases hn g hm.symm with h' |h'
   ·exact h1 g e (h' ▸ List.mem_of_getElem? h)
   ·exact h' (by rw[e];exact List.mem_cons_self)
theorem Ul.inj:∀{l:List (Option Nat)},Ul l->∀{i j:Nat} {g:Nat},l[i]? = some (some g)->l[j]? = some (some g)->i=j
 | [],_,i,j,g,h,_=>by simp at h
 |o::l,⟨h1,h2⟩,0,0,g,_,_=>rfl
 |o::l,⟨h1,h2⟩,0,j+1,g,a,b=>by
  have a:o=some g:=by simpa using a
  exact absurd (List.mem_of_getElem? (by simpa using b)) (h1 g a)
 |o::l,⟨h1,h2⟩,i+1,0,g,a,b=>by
  have b:o=some g:=by simpa using b
  exact absurd (List.mem_of_getElem? (by simpa using a)) (h1 g b)
 |o::l,⟨h1,h2⟩,i+1,j+1,g,a,b=>by
  exact congrArg (·+1) (Ul.inj h2 (g:=g) (by simpa using a) (by simpa using b))
theorem MV {m:Mem}{W:World}(h:Imm m W){b:Nat}(hb:W.heap.size<=b):∀o,m b o=none:=fun o=>by
 cases e:m b o with
 |none=>rfl
 |some v=>
  have:=h b o v e
  simp[World.cell?,Array.getElem?_eq_none hb]at this
structure Row where
 e:TypeId
 size:Nat
 n:Nat
 v:Value
 xs:List Value
structure OR (W0:World)(M:Mem)(bp:Nat)(T:TypeId)(K:List Value)(rs:List Row)(w:World):Prop where
 bel:Below W0.heap.size W0 w
 iM:Imm M w
 new:∀b o u,M b o=some u->W0.heap.size<=b
 box:w.heap[bp]? = some (.cells K.toArray T (0,0))
 hp:W0.heap.size<=bp/\∀o,M bp o=none
 rows:∀r∈rs,w.ownsRow W0.heap.size r.e r.size r.v r.n r.xs
 nr:∀r∈rs,∀g,r.v.ownBlock=some g->∀o,M g o=none
 ap:Ul (some bp::rs.map (·.v.ownBlock))
theorem Jr {w:World}{g:Nat}{o:Obj}(h:w.heap[g]? = some o):g<w.heap.size:=(Array.getElem?_eq_some_iff.1 h).1
theorem vz {w w':World}{base:Nat}{e:TypeId}{size:Nat}{v:Value}{n:Nat}{xs:List Value}{row:Option Nat}(h:w.ownsRow base e size v n xs)(hg:w.grownBy w' row)(hn:∀g,v.ownBlock=some g->row≠some g):w'.ownsRow base e size v n xs:=
 h.kept hg (by
  cases e1:v.ownBlock with
  |none=>exact .inl rfl
  |some g=>
   refine .inr fun e2=>hn g e1 ?_
   exact e2.symm ▸ rfl)
theorem OR.below {W0 M bp T K rs w w'}(h:OR W0 M bp T K rs w)(hb:Below w.heap.size w w'):OR W0 M bp T K rs w':=
 ⟨h.bel.trans (hb.mono h.bel.size),h.iM.below hb,h.new,(hb.block _ (Jr h.box)).trans h.box,h.hp,fun r hr=>vz (h.rows r hr) (Ug hb) (by simp),h.nr,h.ap⟩
theorem OR.more {W0 M M1 bp T K rs w}(h:OR W0 M bp T K rs w)(h1:Imm M1 w)(hn:∀b o u,M1 b o=some u->W0.heap.size<=b)(hp:∀o,M1 bp o=none)(hr:∀r∈rs,∀g,r.v.ownBlock=some g->∀o,M1 g o=none):OR W0 (zr M M1) bp T K rs w:=
 ⟨h.bel,fun b o u e=>(Kq e).elim (h.iM b o u) (h1 b o u),fun b o u e=>(Kq e).elim (h.new b o u) (hn b o u),h.box,⟨h.hp.1,fun o=>by unfold zr;rw[hp o];exact h.hp.2 o⟩,h.rows,fun r hr' g hg o=>by unfold zr;rw[hr r hr' g hg o];exact h.nr r hr' g hg o,h.ap⟩
theorem OR.put {W0 M bp T K rs w w'}{K':List Value}(h:OR W0 M bp T K rs w)(hb:w'.heap[bp]? = some (.cells K'.toArray T (0,0)))(hg:w.grownBy w' (some bp)):OR W0 M bp T K' rs w':=
 ⟨h.bel.grown hg h.bel.size (fun k e=>by cases e;exact h.hp.1),Kz h.iM hg h.hp.2,h.new,hb,h.hp,fun r hr=>vz (h.rows r hr) hg (fun g e e2=>h.ap.1 bp rfl (by rw[e2,<-e];exact List.mem_map.2 ⟨r,hr,rfl⟩)),h.nr,h.ap⟩
theorem OR.row {W0 M bp T K rs w w'}(h:OR W0 M bp T K rs w){i:Nat}{r r':Row}(hi:rs[i]? = some r)(hg:w.grownBy w' r.v.ownBlock)(ho:w'.ownsRow W0.heap.size r'.e r'.size r'.v r'.n r'.xs)(hk:r'.v.ownBlock=r.v.ownBlock\/r'.v.ownBlock=some w.heap.size\/r'.v.ownBlock=none):OR W0 M bp T K (rs.set i r') w':=by
 have hr:=List.mem_of_getElem? hi
 have lt:=(h.rows r hr).lt
 have nm:∀o,M w.heap.size o=none:=MV h.iM (Nat.le_refl _)
 have blt:bp<w.heap.size:=Jr h.box
 have hnb:∀g,r.v.ownBlock=some g->g≠bp:=fun g e e2=>h.ap.1 bp rfl (by rw[<-e2,<-e];exact List.mem_map.2 ⟨r,hr,rfl⟩)
 refine⟨h.bel.grown hg h.bel.size (fun k e=>(lt k e).1),?_,h.new,(hg.block bp blt (fun e=>hnb bp e.symm rfl)).trans h.box,h.hp,fun q hq=>?_,fun q hq g e=>?_,?_⟩
 ·cases e:r.v.ownBlock with
  |none=>exact h.iM.below (⟨hg.os,hg.tape,hg.output,hg.size,fun k hk=>hg.block k hk (by rw[e];simp)⟩)
  |some g=>exact Kz h.iM (e ▸ hg) (h.nr r hr g e)
 ·rcases List.mem_iff_getElem?.1 hq with ⟨j,hj⟩
  by_cases ej:i=j
  ·subst ej
   rw[List.getElem?_set_self (List.getElem?_eq_some_iff.1 hi).1]at hj
   cases hj;exact ho
  ·rw[List.getElem?_set_ne ej]at hj
   refine vz (h.rows q (List.mem_of_getElem? hj)) hg (fun g e e2=>ej ?_)
   exact Ul.inj h.ap.2 (g:=g) (by rw[List.getElem?_map,hi];exact congrArg some e2) (by rw[List.getElem?_map,hj];exact congrArg some e)
 ·rcases List.mem_or_eq_of_mem_set hq with hq|rfl
  ·exact h.nr q hq g e
  ·rcases hk with hk|hk|hk
   ·exact h.nr r hr g (hk ▸ e)
   ·rw[hk]at e;cases e;exact nm
   ·rw[hk]at e;cases e
 ·rw[List.map_set]
  have:=Ul.set (i:=i+1) (o:=r.v.ownBlock) (o':=r'.v.ownBlock) h.ap (by simpa using ⟨r,hi,rfl⟩) (fun g e=>?_)
  ·simpa using this
  ·rcases hk with hk|hk|hk
   ·exact .inl (hk ▸ e)
   ·refine .inr fun hm=>?_
    rw[hk]at e;cases e
    rcases List.mem_cons.1 hm with hm|hm
    ·cases hm;omega
    ·obtain⟨q,hq,e2⟩:=List.mem_map.1 hm
     have:=((h.rows q hq).lt _ e2).2
     omega
   ·rw[hk]at e;cases e
def UK (b:Body)(h:Value):List Value:=[.int .i64 b.ID,.int .i64 b.Kind,.int .i64 b.Transform.Position.X,.int .i64 b.Transform.Position.Y,.int .i64 b.Transform.Zg,.int .i64 b.jX.X,.int .i64 b.jX.Y,.int .i64 b.jm,.int .i64 b.qu.X,.int .i64 b.qu.Y,.int .i64 b.Yq,.int .i64 b.jR,.int .i64 b.jJ,.int .i64 b.jW,.bool b.QH,.bool b.Jf,.bool b.QG,.bool b.qe,.int .i64 b.JC,h]
def bodA (b:Body):List AV:=[.v (.int .i64 b.ID),.v (.int .i64 b.Kind),.v (.int .i64 b.Transform.Position.X),.v (.int .i64 b.Transform.Position.Y),.v (.int .i64 b.Transform.Zg),.v (.int .i64 b.jX.X),.v (.int .i64 b.jX.Y),.v (.int .i64 b.jm),.v (.int .i64 b.qu.X),.v (.int .i64 b.qu.Y),.v (.int .i64 b.Yq),.v (.int .i64 b.jR),.v (.int .i64 b.jJ),.v (.int .i64 b.jW),.v (.bool b.QH),.v (.bool b.Jf),.v (.bool b.QG),.v (.bool b.qe),.v (.int .i64 b.JC),WA b.jf]
theorem jha {m bl b x}(h:Rep m bl (WA b.jf) x):JK m bl (bodA b) (UK b x):=
 .cons .v (.cons .v (.cons .v (.cons .v (.cons .v (.cons .v (.cons .v (.cons .v (.cons .v (.cons .v (.cons .v (.cons .v (.cons .v (.cons .v (.cons .v (.cons .v (.cons .v (.cons .v (.cons .v (.cons h .nil)))))))))))))))))))
def YB (x:jo)(h0 h1 h2 h3:Value):List Value:=[.int .i64 x.jH.YA,.int .i64 x.jH.yF.X,.int .i64 x.jH.yF.Y,.int .i64 x.jH.JP,.int .i64 x.jH.JO,h0,h1,h2,h3,.int .i64 x.yM,.int .i64 x.Frame]
def je5 (c:JL)(h:Value):List Value:=[.int .i64 c.Key.JE,.int .i64 c.Key.Jd,.int .i64 c.Key.JH,.int .i64 c.Key.Jj,.int .i64 c.jt.zT.X,.int .i64 c.jt.zT.Y,h]
def conA (c:JL):List AV:=[.v (.int .i64 c.Key.JE),.v (.int .i64 c.Key.Jd),.v (.int .i64 c.Key.JH),.v (.int .i64 c.Key.Jj),.v (.int .i64 c.jt.zT.X),.v (.int .i64 c.jt.zT.Y),Kd c.jt.jY]
theorem jg4 {m bl c h}(r:Rep m bl (Kd c.jt.jY) h):JK m bl (conA c) (je5 c h):=.cons .v (.cons .v (.cons .v (.cons .v (.cons .v (.cons .v (.cons r .nil))))))
def Mw (v:Value)(w:World):Mem:=fun b o=>if v.ownBlock=some b then w.cell? ⟨b,o,none⟩else none
theorem pF {v w b o u}(h:Mw v w b o=some u):v.ownBlock=some b/\w.cell? ⟨b,o,none⟩=some u:=by
 unfold Mw at h
 by_cases hb:v.ownBlock=some b
 ·rw[if_pos hb]at h;exact⟨hb,h⟩
 ·rw[if_neg hb]at h;cases h
theorem KT {v w}:Imm (Mw v w) w:=fun _ _ _ h=>(pF h).2
theorem frz {E:Ix}{w:World}{B:Nat}{e:TypeId}{sz:Nat}{v:Value}{n:Nat}{xs:List Value}{M M':Mem}{l:List (tb.T E)}(h:w.ownsRow B e sz v n xs)(hz:∀x,(tb.el E x).cells.length=sz)(hl:l.length=n)(hr:JK M jh (elC tb E l) xs)(h1:∀c∈xs,jL c=true)
 (m1:Mem.le M M') (m2:Mem.le (Mw v w) M'):Rep M' jh (.sl false sz (l.map (tb.el E))) v:=by
 subst hl
 obtain⟨hlen,⟨rfl,h0⟩|⟨g,cap,cur,rfl,q1,q2,q3,q4,q5,q6⟩⟩:=h
 ·have:l=[]:=List.length_eq_zero_iff.1 h0
  subst this
  exact .slnil
 ·have hl2:l.length=(l.map (tb.el E)).length:=by simp
  rw[hl2]
  refine .sl (cs:=xs) ?_ (hr.mono m1) h1 (fun _=>rfl) ?_ (by rw[<-hl2];exact q3) (by simp)
  ·intro a ha
   obtain⟨x,-,rfl⟩:=List.mem_map.1 ha
   exact hz x
  ·intro j x e
   refine m2 _ _ _ ?_
   show Mw _ w g (0+j)=some x
   unfold Mw
   rw[if_pos (show(Value.slice (some ⟨g,0,none⟩) l.length cap).ownBlock=some g from rfl),Nat.zero_add,yC q2]
   have hj:j<xs.length:=(List.getElem?_eq_some_iff.1 e).1
   rw[<-q6,List.getElem?_take_of_lt (by rw[<-hlen];exact hj)]at e
   rw[<-Array.getElem?_toList];exact e
def ji7 (M:Mem)(bs:List Body)(hF:Value)(nF:Nat)(xb xf:List Value):Prop:=
 (bs=[]/\hF=.slice none 0 0/\nF=0/\xb=[]/\xf=[])\/∃(init:List Body) (last:Body) (xi:List Value),bs=init++[last]/\xb=xi++UK last hF/\JK M jh (elC tb Ix.tBody init) xi/\nF=last.jf.length/\JK M jh (elC tb Ix.tFixture last.jf) xf
def ji6 (M:Mem)(cs:List JL)(hP:Value)(nP:Nat)(xc xp:List Value):Prop:=
 (cs=[]/\hP=.slice none 0 0/\nP=0/\xc=[]/\xp=[])\/∃(init:List JL) (last:JL) (xi:List Value),cs=init++[last]/\xc=xi++je5 last hP/\JK M jh (elC tb Ix.tContact init) xi/\nP=last.jt.jY.length/\JK M jh (elC tb Ix.tContactPoint last.jt.jY) xp
theorem ji7.mono {M M' bs hF nF xb xf}(h:ji7 M bs hF nF xb xf)(hm:Mem.le M M'):ji7 M' bs hF nF xb xf:=h.imp (fun h=>h) fun⟨i,l,xi,h1,h2,h3,h4,h5⟩=>⟨i,l,xi,h1,h2,h3.mono hm,h4,h5.mono hm⟩
theorem ji6.mono {M M' bs hF nF xb xf}(h:ji6 M bs hF nF xb xf)(hm:Mem.le M M'):ji6 M' bs hF nF xb xf:=h.imp (fun h=>h) fun⟨i,l,xi,h1,h2,h3,h4,h5⟩=>⟨i,l,xi,h1,h2,h3.mono hm,h4,h5.mono hm⟩
def jG (x:jo)(h0 h1 h2 h3 hF hP:Value)(nF nP:Nat)(xb xj xc xo xf xp:List Value):List Row:=[⟨56,20,x.ji.length,h0,xb⟩,⟨75,24,x.jP.length,h1,xj⟩,⟨88,7,x.jc.length,h2,xc⟩,⟨86,4,x.Overlaps.length,h3,xo⟩,⟨67,10,nF,hF,xf⟩,⟨131,6,nP,hP,xp⟩]
structure PG (W0:World)(x:jo)(T:TypeId)(tl:List Value)(M:Mem)(bp:Nat)(h0 h1 h2 h3 hF hP:Value)(nF nP:Nat)(xb xj xc xo xf xp:List Value)(w:World):Prop where
 o:OR W0 M bp T (YB x h0 h1 h2 h3++tl) (jG x h0 h1 h2 h3 hF hP nF nP xb xj xc xo xf xp) w
 cB:ji7 M x.ji hF nF xb xf
 cJ:JK M jh (elC tb Ix.tJoint x.jP) xj
 cC:ji6 M x.jc hP nP xc xp
 cO:JK M jh (elC tb Ix.tPairKey x.Overlaps) xo
 f1:∀c∈xf,jL c=true
 p1:∀c∈xp,jL c=true
abbrev PS (W0:World)(x:jo)(sec:Int)(M:Mem)(bp:Nat)(h0 h1 h2 h3 hF hP:Value)(nF nP:Nat)(xb xj xc xo xf xp:List Value)(w:World):Prop:=PG W0 x 147 [.int .i64 sec] M bp h0 h1 h2 h3 hF hP nF nP xb xj xc xo xf xp w
section
variable {W0:World} {x:jo} {sec:Int} {T:TypeId} {tl:List Value} {M:Mem} {bp:Nat} {h0 h1 h2 h3 hF hP:Value} {nF nP:Nat} {xb xj xc xo xf xp:List Value} {w w1 w2:World}
theorem PG.below (h:PG W0 x T tl M bp h0 h1 h2 h3 hF hP nF nP xb xj xc xo xf xp w)(hb:Below w.heap.size w w1):PG W0 x T tl M bp h0 h1 h2 h3 hF hP nF nP xb xj xc xo xf xp w1:=⟨h.o.below hb,h.cB,h.cJ,h.cC,h.cO,h.f1,h.p1⟩
theorem PG.more {M1:Mem}(h:PG W0 x T tl M bp h0 h1 h2 h3 hF hP nF nP xb xj xc xo xf xp w)(hi:Imm M1 w)(hn:∀b o u,M1 b o=some u->W0.heap.size<=b)(hp:∀o,M1 bp o=none)(hr:∀r∈jG x h0 h1 h2 h3 hF hP nF nP xb xj xc xo xf xp,∀g,r.v.ownBlock=some g->∀o,M1 g o=none):PG W0 x T tl (zr M M1) bp h0 h1 h2 h3 hF hP nF nP xb xj xc xo xf xp w:=
 have hm:=Wu h.o.iM hi
 ⟨h.o.more hi hn hp hr,h.cB.mono hm,h.cJ.mono hm,h.cC.mono hm,h.cO.mono hm,h.f1,h.p1⟩
theorem PS.enter {sec':Int}(h:PS W0 x sec M bp h0 h1 h2 h3 hF hP nF nP xb xj xc xo xf xp w):PS W0 x sec' M bp h0 h1 h2 h3 hF hP nF nP xb xj xc xo xf xp (w.setCell ⟨bp,11,none⟩ (.int .i64 sec')):=by
 refine⟨h.o.put ?_ ⟨rfl,rfl,rfl,by rw[size_set];exact Nat.le_refl _,fun k _ hk=>heap_set _ _ _ _ (fun e=>hk (by rw[e]))⟩,h.cB,h.cJ,h.cC,h.cO,h.f1,h.p1⟩
 exact vW h.o.box 11 _ _ rfl
theorem PG.jis {j:yP}{A:List Value}{h1':Value}(h:PG W0 x T tl M bp h0 h1 h2 h3 hF hP nF nP xb xj xc xo xf xp w)(hA:JK M jh (tb.el Ix.tJoint j).cells A)(ho:w1.ownsRow W0.heap.size 75 24 h1' (x.jP.length+1) (xj++A))(hg:w.grownBy w1 h1.ownBlock)(hk:h1'.ownBlock=h1.ownBlock\/h1'.ownBlock=some w.heap.size):
 PG W0 {x with jP:=x.jP++[j]} T tl M bp h0 h1' h2 h3 hF hP nF nP xb (xj++A) xc xo xf xp (w1.setCell ⟨bp,6,none⟩ h1'):=by
 have R:=h.o.row (i:=1) (r:=⟨75,24,x.jP.length,h1,xj⟩) (r':=⟨75,24,x.jP.length+1,h1',xj++A⟩) rfl hg ho (hk.imp (fun h=>h) .inl)
 have hl:(x.jP++[j]).length=x.jP.length+1:=by simp
 refine⟨?_,h.cB,?_,h.cC,h.cO,h.f1,h.p1⟩
 ·have:=R.put (K':=YB {x with jP:=x.jP++[j]} h0 h1' h2 h3++tl) (w':=w1.setCell ⟨bp,6,none⟩ h1') (vW R.box 6 _ _ rfl) ⟨rfl,rfl,rfl,by rw[size_set];exact Nat.le_refl _,fun k _ hk=>heap_set _ _ _ _ (fun e=>hk (by rw[e]))⟩
  unfold jG at this⊢
  simp only[hl]
  exact this
 ·have:=h.cJ.append hA
  rw[<-vZ Ix.tJoint x.jP j]at this
  exact this
theorem PG.key {j:jC}{A:List Value}{h3':Value}(h:PG W0 x T tl M bp h0 h1 h2 h3 hF hP nF nP xb xj xc xo xf xp w)(hA:JK M jh (tb.el Ix.tPairKey j).cells A)(ho:w1.ownsRow W0.heap.size 86 4 h3' (x.Overlaps.length+1) (xo++A))(hg:w.grownBy w1 h3.ownBlock)(hk:h3'.ownBlock=h3.ownBlock\/h3'.ownBlock=some w.heap.size):
 PG W0 {x with Overlaps:=x.Overlaps++[j]} T tl M bp h0 h1 h2 h3' hF hP nF nP xb xj xc (xo++A) xf xp (w1.setCell ⟨bp,8,none⟩ h3'):=by
 have R:=h.o.row (i:=3) (r:=⟨86,4,x.Overlaps.length,h3,xo⟩) (r':=⟨86,4,x.Overlaps.length+1,h3',xo++A⟩) rfl hg ho (hk.imp (fun h=>h) .inl)
 have hl:(x.Overlaps++[j]).length=x.Overlaps.length+1:=by simp
 refine⟨?_,h.cB,h.cJ,h.cC,?_,h.f1,h.p1⟩
 ·have:=R.put (K':=YB {x with Overlaps:=x.Overlaps++[j]} h0 h1 h2 h3'++tl) (w':=w1.setCell ⟨bp,8,none⟩ h3') (vW R.box 8 _ _ rfl) ⟨rfl,rfl,rfl,by rw[size_set];exact Nat.le_refl _,fun k _ hk=>heap_set _ _ _ _ (fun e=>hk (by rw[e]))⟩
  unfold jG at this⊢
  simp only[hl]
  exact this
 ·have:=h.cO.append hA
  rw[<-vZ Ix.tPairKey x.Overlaps j]at this
  exact this
end
theorem jfv {α:Type}(xi l:List α)(k:Nat)(u:α):(xi++l).set (xi.length+k) u=xi++l.set k u:=by
 rw[List.set_append_right _ _ (Nat.le_add_right _ _),Nat.add_sub_cancel_left]
theorem mO {w:World}{r:Option Nat}:w.grownBy w r:=⟨rfl,rfl,rfl,Nat.le_refl _,fun _ _ _=>rfl⟩
theorem VF (w:World)(a:Addr)(x:Value):w.grownBy (w.setCell a x) (some a.block):=⟨rfl,rfl,rfl,by rw[size_set];exact Nat.le_refl _,fun k _ hk=>heap_set _ _ _ _ (fun e=>hk (by rw[e]))⟩
theorem jfD {w:World}{base:Nat}{e:TypeId}{size:Nat}{g cap n:Nat}{xs:List Value}(h:w.ownsRow base e size (.slice (some ⟨g,0,none⟩) n cap) n xs){j:Nat}(hj:j<xs.length)(hc:0<n)(u:Value)(hu:u.oneCell'=true):
 (w.setCell ⟨g,j,none⟩ u).ownsRow base e size (.slice (some ⟨g,0,none⟩) n cap) n (xs.set j u):=by
 obtain⟨h1,⟨h2,h3⟩|⟨g',cap',cur,e1,q1,q2,q3,q4,q5,q6⟩⟩:=h
 ·omega
 ·cases e1
  refine⟨by rw[List.length_set];exact h1,.inr ⟨g,cap,cur.setIfInBounds j u,rfl,q1,vW q2 j u _ rfl,q3,q4,by simpa using q5,?_⟩⟩
  rw[Array.toList_setIfInBounds,List.take_set,q6]
theorem OR.drop {W0 M bp T K rs w}(h:OR W0 M bp T K rs w){i:Nat}{r:Row}(hi:rs[i]? = some r)(z:Row)(hz:z.v=.slice none 0 0/\z.n=0/\z.xs=[]):OR W0 (zr M (Mw r.v w)) bp T K (rs.set i z) w:=by
 have hr:=List.mem_of_getElem? hi
 have R0:=h.row (r':=z) hi mO (by rw[hz.1,hz.2.1,hz.2.2];exact World.ownsRow_nil _ _ _ _) (.inr (.inr (by rw[hz.1];rfl)))
 refine R0.more KT (fun b o u e=>((h.rows r hr).lt b (pF e).1).1) (fun o=>?_) (fun q hq g hg o=>?_)
 ·cases e:Mw r.v w bp o with
  |none=>rfl
  |some u=>exact absurd (List.mem_map.2 ⟨r,hr,(pF e).1⟩) (h.ap.1 bp rfl)
 ·cases e:Mw r.v w g o with
  |none=>rfl
  |some u=>
   have e1:=(pF e).1
   rcases List.mem_iff_getElem?.1 hq with ⟨j,hj⟩
   by_cases ej:i=j
   ·subst ej
    rw[List.getElem?_set_self (List.getElem?_eq_some_iff.1 hi).1]at hj
    cases hj
    rw[hz.1]at hg
    cases hg
   ·rw[List.getElem?_set_ne ej]at hj
    exact absurd (Ul.inj h.ap.2 (g:=g) (by rw[List.getElem?_map,hi];exact congrArg some e1) (by rw[List.getElem?_map,hj];exact congrArg some hg)) ej
section
variable {W0:World} {x:jo} {sec:Int} {T:TypeId} {tl:List Value} {M:Mem} {bp:Nat} {h0 h1 h2 h3 hF hP:Value} {nF nP:Nat} {xb xj xc xo xf xp:List Value} {w w1 w2:World}
theorem PG.body {b:Body}(hb:b.jf=[]){h0':Value}(h:PG W0 x T tl M bp h0 h1 h2 h3 hF hP nF nP xb xj xc xo xf xp w)(ho:w1.ownsRow W0.heap.size 56 20 h0' (x.ji.length+1) (xb++UK b (.slice none 0 0)))(hg:w.grownBy w1 h0.ownBlock)(hk:h0'.ownBlock=h0.ownBlock\/h0'.ownBlock=some w.heap.size):
 PG W0 {x with ji:=x.ji++[b]} T tl (zr M (Mw hF w)) bp h0' h1 h2 h3 (.slice none 0 0) hP 0 nP (xb++UK b (.slice none 0 0)) xj xc xo [] xp (w1.setCell ⟨bp,5,none⟩ h0'):=by
 have R1:=h.o.drop (i:=4) (r:=⟨67,10,nF,hF,xf⟩) rfl ⟨67,10,0,.slice none 0 0,[]⟩ ⟨rfl,rfl,rfl⟩
 have hm:Mem.le M (zr M (Mw hF w)):=Wu h.o.iM KT
 have R2:=R1.row (i:=0) (r:=⟨56,20,x.ji.length,h0,xb⟩) (r':=⟨56,20,x.ji.length+1,h0',xb++UK b (.slice none 0 0)⟩) rfl hg ho (hk.imp (fun h=>h) .inl)
 have R3:=R2.put (K':=YB {x with ji:=x.ji++[b]} h0' h1 h2 h3++tl) (w':=w1.setCell ⟨bp,5,none⟩ h0') (vW R2.box 5 _ _ rfl) (VF _ _ _)
 have hl:(x.ji++[b]).length=x.ji.length+1:=by simp
 refine⟨?_,.inr ⟨x.ji,b,xb,rfl,rfl,?_,by rw[hb];rfl,by rw[hb];exact .nil⟩,h.cJ.mono hm,h.cC.mono hm,h.cO.mono hm,by simp,h.p1⟩
 ·unfold jG at R3⊢
  simp only[hl]
  exact R3
 ·rcases h.cB with ⟨e1,-,-,e4,-⟩|⟨init,last,xi,e1,e2,e3,e4,e5⟩
  ·rw[e1,e4];exact .nil
  ·rw[e1,e2]
   have hf:=frz (E:=Ix.tFixture) (h.o.rows ⟨67,10,nF,hF,xf⟩ (by simp[jG])) (fun _=>rfl) e4.symm e5 h.f1 hm (zc _ _)
   have:=(e3.mono hm).append (jha (b:=last) hf)
   have e:=vZ Ix.tBody init last
   have ec:(tb.el Ix.tBody last).cells=bodA last:=rfl
   rw[ec]at e
   rw[<-e]at this
   exact this
theorem PG.jag {b:JL}(hb:b.jt.jY=[]){h2':Value}(h:PG W0 x T tl M bp h0 h1 h2 h3 hF hP nF nP xb xj xc xo xf xp w)(ho:w1.ownsRow W0.heap.size 88 7 h2' (x.jc.length+1) (xc++je5 b (.slice none 0 0)))(hg:w.grownBy w1 h2.ownBlock)(hk:h2'.ownBlock=h2.ownBlock\/h2'.ownBlock=some w.heap.size):
 PG W0 {x with jc:=x.jc++[b]} T tl (zr M (Mw hP w)) bp h0 h1 h2' h3 hF (.slice none 0 0) nF 0 xb xj (xc++je5 b (.slice none 0 0)) xo xf [] (w1.setCell ⟨bp,7,none⟩ h2'):=by
 have R1:=h.o.drop (i:=5) (r:=⟨131,6,nP,hP,xp⟩) rfl ⟨131,6,0,.slice none 0 0,[]⟩ ⟨rfl,rfl,rfl⟩
 have hm:Mem.le M (zr M (Mw hP w)):=Wu h.o.iM KT
 have R2:=R1.row (i:=2) (r:=⟨88,7,x.jc.length,h2,xc⟩) (r':=⟨88,7,x.jc.length+1,h2',xc++je5 b (.slice none 0 0)⟩) rfl hg ho (hk.imp (fun h=>h) .inl)
 have R3:=R2.put (K':=YB {x with jc:=x.jc++[b]} h0 h1 h2' h3++tl) (w':=w1.setCell ⟨bp,7,none⟩ h2') (vW R2.box 7 _ _ rfl) (VF _ _ _)
 have hl:(x.jc++[b]).length=x.jc.length+1:=by simp
 refine⟨?_,h.cB.mono hm,h.cJ.mono hm,.inr ⟨x.jc,b,xc,rfl,rfl,?_,by rw[hb];rfl,by rw[hb];exact .nil⟩,h.cO.mono hm,h.f1,by simp⟩
 ·unfold jG at R3⊢
  simp only[hl]
  exact R3
 ·rcases h.cC with ⟨e1,-,-,e4,-⟩|⟨init,last,xi,e1,e2,e3,e4,e5⟩
  ·rw[e1,e4];exact .nil
  ·rw[e1,e2]
   have hf:=frz (E:=Ix.tContactPoint) (h.o.rows ⟨131,6,nP,hP,xp⟩ (by simp[jG])) (fun _=>rfl) e4.symm e5 h.p1 hm (zc _ _)
   have:=(e3.mono hm).append (jg4 (c:=last) hf)
   have e:=vZ Ix.tContact init last
   have ec:(tb.el Ix.tContact last).cells=conA last:=rfl
   rw[ec]at e
   rw[<-e]at this
   exact this
theorem PG.Pj {init:List Body}{last:Body}{f:jT}{A:List Value}{hF':Value}{gB cap:Nat}(hx:x.ji=init++[last])(h:PG W0 x T tl M bp h0 h1 h2 h3 hF hP nF nP xb xj xc xo xf xp w)(hh:h0=.slice (some ⟨gB,0,none⟩) x.ji.length cap)(hA:JK M jh (tb.el Ix.tFixture f).cells A)(hA1:∀c∈A,jL c=true)
 (ho:w1.ownsRow W0.heap.size 67 10 hF' (nF+1) (xf++A)) (hg:w.grownBy w1 hF.ownBlock) (hk:hF'.ownBlock=hF.ownBlock\/hF'.ownBlock=some w.heap.size) (h1':jL hF'=true):
 ∃xb',PG W0 {x with ji:=init++[{last with jf:=last.jf++[f]}]} T tl M bp h0 h1 h2 h3 hF' hP (nF+1) nP xb' xj xc xo (xf++A) xp (w1.setCell ⟨gB,init.length*20+19,none⟩ hF'):=by
 rcases h.cB with ⟨e1,-⟩|⟨init',last',xi,e1,e2,e3,e4,e5⟩
 ·rw[hx]at e1;simp at e1
 obtain⟨rfl,rfl⟩:init=init'/\last=last':=by
  rw[hx]at e1
  have:=List.append_inj' e1 rfl
  exact⟨this.1,by simpa using this.2⟩
 have R1:=h.o.row (i:=4) (r:=⟨67,10,nF,hF,xf⟩) (r':=⟨67,10,nF+1,hF',xf++A⟩) rfl hg ho (hk.imp (fun h=>h) .inl)
 have hxi:xi.length=init.length*20:=e3.length.symm.trans (qc Ix.tBody 20 init (fun _=>rfl))
 have hn:x.ji.length=init.length+1:=by rw[hx];simp
 have rB:=R1.rows ⟨56,20,x.ji.length,h0,xb⟩ (by simp[jG])
 have hxb:xb.length=x.ji.length*20:=rB.1
 have rB':=jfD (hh ▸ rB) (j:=init.length*20+19) (by rw[hxb,hn];omega) (by omega) hF' h1'
 have hset:xb.set (init.length*20+19) hF'=xi++UK {last with jf:=last.jf++[f]} hF':=by
  rw[e2,<-hxi,jfv]
  rfl
 have R2:=R1.row (i:=0) (r:=⟨56,20,x.ji.length,h0,xb⟩) (r':=⟨56,20,x.ji.length,h0,xi++UK {last with jf:=last.jf++[f]} hF'⟩) (w':=w1.setCell ⟨gB,init.length*20+19,none⟩ hF') rfl (by
  have:=VF w1 ⟨gB,init.length*20+19,none⟩ hF'
  rw[hh];exact this) (by rw[<-hset];rw[hh];exact rB') (.inl rfl)
 have hl:(init++[{last with jf:=last.jf++[f]}]).length=x.ji.length:=by rw[hn];simp
 refine⟨_,⟨?_,.inr ⟨init,{last with jf:=last.jf++[f]},xi,rfl,rfl,e3,by rw[e4];simp,?_⟩,h.cJ,h.cC,h.cO,fun c hc=>(List.mem_append.1 hc).elim (h.f1 c) (hA1 c),h.p1⟩⟩
 ·unfold jG at R2⊢
  simp only[hl]
  exact R2
 ·have:=e5.append hA
  rw[<-vZ Ix.tFixture last.jf f]at this
  exact this
theorem PG.jfY {init:List JL}{last:JL}{f:jS}{A:List Value}{hP':Value}{gC cap:Nat}(hx:x.jc=init++[last])(h:PG W0 x T tl M bp h0 h1 h2 h3 hF hP nF nP xb xj xc xo xf xp w)(hh:h2=.slice (some ⟨gC,0,none⟩) x.jc.length cap)(hA:JK M jh (tb.el Ix.tContactPoint f).cells A)(hA1:∀c∈A,jL c=true)
 (ho:w1.ownsRow W0.heap.size 131 6 hP' (nP+1) (xp++A)) (hg:w.grownBy w1 hP.ownBlock) (hk:hP'.ownBlock=hP.ownBlock\/hP'.ownBlock=some w.heap.size) (h1':jL hP'=true):
 ∃xc',PG W0 {x with jc:=init++[{last with jt:={last.jt with jY:=last.jt.jY++[f]}}]} T tl M bp h0 h1 h2 h3 hF hP' nF (nP+1) xb xj xc' xo xf (xp++A) (w1.setCell ⟨gC,init.length*7+6,none⟩ hP'):=by
 rcases h.cC with ⟨e1,-⟩|⟨init',last',xi,e1,e2,e3,e4,e5⟩
 ·rw[hx]at e1;simp at e1
 obtain⟨rfl,rfl⟩:init=init'/\last=last':=by
  rw[hx]at e1
  have:=List.append_inj' e1 rfl
  exact⟨this.1,by simpa using this.2⟩
 have R1:=h.o.row (i:=5) (r:=⟨131,6,nP,hP,xp⟩) (r':=⟨131,6,nP+1,hP',xp++A⟩) rfl hg ho (hk.imp (fun h=>h) .inl)
 have hxi:xi.length=init.length*7:=e3.length.symm.trans (qc Ix.tContact 7 init (fun _=>rfl))
 have hn:x.jc.length=init.length+1:=by rw[hx];simp
 have rB:=R1.rows ⟨88,7,x.jc.length,h2,xc⟩ (by simp[jG])
 have hxb:xc.length=x.jc.length*7:=rB.1
 have rB':=jfD (hh ▸ rB) (j:=init.length*7+6) (by rw[hxb,hn];omega) (by omega) hP' h1'
 have hset:xc.set (init.length*7+6) hP'=xi++je5 {last with jt:={last.jt with jY:=last.jt.jY++[f]}} hP':=by
  rw[e2,<-hxi,jfv]
  rfl
 have R2:=R1.row (i:=2) (r:=⟨88,7,x.jc.length,h2,xc⟩) (r':=⟨88,7,x.jc.length,h2,xi++je5 {last with jt:={last.jt with jY:=last.jt.jY++[f]}} hP'⟩) (w':=w1.setCell ⟨gC,init.length*7+6,none⟩ hP') rfl (by
  have:=VF w1 ⟨gC,init.length*7+6,none⟩ hP'
  rw[hh];exact this) (by rw[<-hset];rw[hh];exact rB') (.inl rfl)
 have hl:(init++[{last with jt:={last.jt with jY:=last.jt.jY++[f]}}]).length=x.jc.length:=by rw[hn];simp
 refine⟨_,⟨?_,h.cB,h.cJ,.inr ⟨init,{last with jt:={last.jt with jY:=last.jt.jY++[f]}},xi,rfl,rfl,e3,by rw[e4];simp,?_⟩,h.cO,h.f1,fun c hc=>(List.mem_append.1 hc).elim (h.p1 c) (hA1 c)⟩⟩
 ·unfold jG at R2⊢
  simp only[hl]
  exact R2
 ·have:=e5.append hA
  rw[<-vZ Ix.tContactPoint last.jt.jY f]at this
  exact this
end
section
variable {P:Program} {o:Oper} {a:Act} {w:World} {C:World->Prop}
theorem Kn {v:Value}(h:(execOp a.eval o).run P w=.ok (.value v) w):o.quietAt P a C w v:=by
 exact jfL h
def fldO (P:Program)(t f:Nat):Option Nat:=match P.underlying t with
 |some (.struct fs)=>match fs[f]? with
  |some fd=>match tSz P fd.type with
   |some (n+1)=>some fd.offset
   |_=>none
  |none=>none
 |_=>none
theorem jN {s:TypeId}{x:Operand}{f b off fo:Nat}(e:o.op=.fieldAddr s x f)(hx:a.eval x=.pointer (some ⟨b,off,none⟩))(hf:fldO P s f=some fo):o.quietAt P a C w (.pointer (some ⟨b,off+fo,none⟩)):=by
 unfold fldO at hf
 split at hf
 ·rename_i fs hT
  split at hf
  ·rename_i fd hd
   split at hf
   ·rename_i n hs
    cases hf
    refine Kn ?_
    simp[execOp,e,hx,Instr.fieldAt,je hT,hd,Instr.sureAddr,fieldPlace,jx hs,Yc]
   ·cases hf
  ·cases hf
 ·cases hf
def idxO (P:Program)(t:Nat):Option Nat:=match P.underlying t with
 |some (.slice e)=>tSz P e
 |_=>none
theorem Jb {s:TypeId}{x y:Operand}{b off sz n c:Nat}{i:Int}(e:o.op=.indexAddr s x y)(hx:a.eval x=.slice (some ⟨b,off,none⟩) n c)(hy:a.eval y=.int .i64 i)(hf:idxO P s=some sz)(h0:0<=i)(h1:i<n):
 o.quietAt P a C w (.pointer (some ⟨b,off+i.toNat*sz,none⟩)):=by
 unfold idxO at hf
 split at hf
 ·rename_i e' hT
  refine Kn ?_
  simp[execOp,e,hx,hy,Instr.indexAt,asIntOf,je hT,h0,h1,jx hf,Yc]
 ·cases hf
theorem quiet_move {x:Operand}{v:Value}(e:o.op=.move x)(hx:a.eval x=v):o.quietAt P a C w v:=Kn (by simp[execOp,e,hx])
theorem qa {x:Operand}{ad:Addr}(e:o.op=.nilCheck x)(hx:a.eval x=.pointer (some ad)):o.quietAt P a C w (.pointer (some ad)):=Kn (by simp[execOp,e,hx])
theorem jF {ty:TypeId}{y:Operand}{b off:Nat}{v:Value}(e:o.op=.load ty y)(hy:a.eval y=.pointer (some ⟨b,off,none⟩))(ha:tAg P ty=some false)(hc:w.cell? ⟨b,off,none⟩=some v):o.quietAt P a C w v:=by
 refine Kn ?_
 have:=ko (P:=P) ha hc
 simp[execOp,e,hy,Instr.loadAt,Instr.sureAddr,this]
theorem vw {ty:TypeId}{y:Operand}{b:Nat}{cs:List Value}{T:TypeId}{fr:Nat × Nat}
 (e:o.op=.load ty y) (hy:a.eval y=.pointer (some ⟨b,0,none⟩)) (ha:tAg P ty=some true) (hs:tSz P ty=some cs.length)
 (hC:w.heap[b]? = some (.cells cs.toArray T fr)):o.quietAt P a C w (.agg cs.toArray):=by
 refine Kn ?_
 have hld:=qS (P:=P) (ty:=ty) (w:=w) (b:=b) (o:=0) (cs:=cs) ha hs (fun j v e=>by rw[Nat.zero_add,yC hC];simpa using e)
 simp[execOp,e,hy,Instr.loadAt,Instr.sureAddr,hld]
def bld (P:Program)(t:Nat)(parts:List (Nat × Value)):Option (Array Value):=match P.underlying t with
 |some (.struct fs)=>match jb4 P t with
  |some zs=>if fs.toList.all (fun f=>(tSz P f.type).isSome)=true then Instr.fill (uT P fs) zs.toArray parts else none
  |none=>none
 |_=>none
theorem qb {t:TypeId}{ps:Array (Nat × Operand)}{parts:List (Nat × Value)}{cs:Array Value}(e:o.op=.build t ps)(hp:ps.toList.map (fun p=>(p.1,a.eval p.2))=parts)(hb:bld P t parts=some cs):o.quietAt P a C w (.agg cs):=by
 unfold bld at hb
 split at hb
 ·rename_i fs hT
  split at hb
  ·rename_i zs hz
   split at hb
   ·rename_i hf
    obtain⟨z,hz1,hz2⟩:=vm hz w
    refine Kn ?_
    have hm:(fs.mapM fun f=>(do Pure.pure (f.offset,<-sizeOf f.type):Sem (Nat × Nat))).run P w=.ok (fs.map fun f=>(f.offset,(tSz P f.type).getD 0)) w:=by
     rw[Array.mapM_eq_mapM_toList,Sem.run_map,UZ w fs.toList (fun f hf'=>List.all_eq_true.1 hf f hf')]
     simp only[Result.andThen_ok]
     congr 1
     exact Array.ext' (by rw[Array.toList_map])
    have hpl:(fun i=>(fs.map fun f=>(f.offset,(tSz P f.type).getD 0))[i]?)=uT P fs:=by
     funext i;simp[uT]
    have k1':Instr.fill (fun i=>(fs.map fun f=>(f.offset,(tSz P f.type).getD 0))[i]?) z.cells (ps.map fun(i,x)=>(i,a.eval x)).toList=some cs:=by
     rw[hpl,<-hb,<-hp,<-hz2];simp
    simp only[execOp,e,Instr.build,Sem.run_bind,hz1,Result.andThen_ok,je hT,hm,k1',Sem.run_pure]
   ·cases hb
  ·cases hb
 ·cases hb
theorem Kb {Q:Exit->Act->World->Prop}{K:Act->World->Prop}{ty:TypeId}{t z:Operand}{b off:Nat}{v u:Value}(e:o.op=.store ty t z)(hd:o.dst=none)(ht:a.eval t=.pointer (some ⟨b,off,none⟩))(hz:a.eval z=v)(hv:v.cells=#[v])(hs:tSz P ty=some 1)
 (hc:w.cell? ⟨b,off,none⟩=some u) (hf:w.frozen? ⟨b,off,none⟩=false) (h1:v.oneCell'=true)
 (h:K a (w.setCell ⟨b,off,none⟩ v)):o.wp P a w K Q:=by
 have hst:=run_storeCells_cells (P:=P) b off [v] 0 w (by intro j hj;simp at hj;subst hj;simp[hc]) (by intro j hj;simp at hj;subst hj;simpa using hf) (by simpa using h1)
 have r2:(execOp a.eval o).run P w=.ok .skip (w.setCell ⟨b,off,none⟩ v):=by
  have hst:Sem.run P (storeCells ⟨b,off,none⟩ [v]) w=Result.ok () (w.setCell ⟨b,off,none⟩ v):=hst
  simp[execOp,e,ht,hz,Instr.storeAt,Instr.sureAddr,storeVar,jx hs,hv,hst]
 unfold Oper.wp
 rw[r2,Oper.upon_skip,hd]
 exact h
end
theorem jdC:∀(cs:List Value) (k:Nat) (z:Array Value),z.size=k+cs.length->(cs.zipIdx k).foldl (fun(c:Array Value) (x:Value × Nat)=>c.setIfInBounds x.2 x.1) z=(z.toList.take k++cs).toArray
 | [],k,z,h=>by
   have h:z.size=k:=h
   rw[List.append_nil,List.take_of_length_le (by simp[h])];rfl
 |c :: t,k,z,h=>by
  have h:z.size=k+(t.length+1):=h
  rw[List.zipIdx_cons,List.foldl_cons,jdC t (k+1) _ (by simp[h];omega)]
  have:(z.setIfInBounds k c).toList.take (k+1)=z.toList.take k++[c]:=by
   rw[Array.toList_setIfInBounds,List.set_eq_take_append_cons_drop,if_pos (by simp[h])]
   rw[List.take_append,List.length_take,Array.length_toList]
   have h1:min k z.size=k:=by omega
   rw[h1,List.take_of_length_le (by simp;omega),Nat.add_sub_cancel_left];rfl
  show((z.setIfInBounds k c).toList.take (k+1)++t).toArray=_
  rw[this,List.append_assoc];rfl
theorem jf3 {P:Program}{o:Oper}{Q:Exit->Act->World->Prop}{K:Act->World->Prop}{a:Act}{w:World}{t e:TypeId}{x:Operand}{i:TypeInfo}{z:Value}{cs:List Value}
 (ho:o.op=.buildSlice t 1 #[(0,x)]) (hx:a.eval x=.agg cs.toArray) (ht:P.underlying t=some (.slice e)) (hi:P.info? e=some i) (hz:i.zero=some z) (hs:i.size=cs.length) (h1:z.cells.size=cs.length)
 (hp:0<cs.length) (hlim:cs.length<=16777216)
 (h:K (a.put o.dst (.slice (some ⟨w.heap.size,0,none⟩) 1 1)) (w.alloc (.cells cs.toArray e))):o.wp P a w K Q:=by
 have hsz:tSz P e=some cs.length:=by simp[tSz,hi,hs]
 have hrun:(execOp a.eval o).run P w=.ok (.value (.slice (some ⟨w.heap.size,0,none⟩) 1 1)) (w.alloc (.cells cs.toArray e)):=by
  have hlim':¬ (16777216<cs.length):=by omega
  have h0:¬ (1*cs.length=0):=by omega
  have hne:¬ cs=[]:=fun h=>by rw[h]at hp;simp at hp
  have hc:(Value.agg cs.toArray).cells=cs.toArray:=rfl
  have hcs:cs.toArray.size=cs.length:=by simp
  simp only[execOp,ho,Instr.buildSlice,Sem.run_bind,je ht,Result.andThen_ok,jx hsz]
  simp only[List.map_toArray,List.map_cons,List.map_nil,hx]
  simp[hlim',hne,zeroValue,typeInfo,hi,hz,Instr.fill,newRow,hc]
  rw[show cs.zipIdx=cs.zipIdx 0 from rfl,jdC cs 0 _ (by simp)]
  simp
 unfold Oper.wp
 rw[hrun,Oper.upon_value]
 exact h
theorem jf4 {P:Program}{o:Oper}{Q:Exit->Act->World->Prop}{K:Act->World->Prop}{a:Act}{w w':World}{s x:Operand}{t:TypeId}{vs vx y:Value}
 (e:o.op=.call {callee:=.builtin .append,args:=#[s,x],argTypes:=#[t,t]}) (hs:a.eval s=vs) (hx:a.eval x=vx) (hr:(Builtin.append_ #[t,t] o.type #[vs,vx]).run P w=.ok y w') (hk:K (a.put o.dst y) w'):o.wp P a w K Q:=by
 unfold Oper.wp execOp
 simp only[e,resolve,invoke,builtin,Sem.run_bind,Sem.run_pure,Result.andThen_ok,List.map_toArray,List.map_cons,List.map_nil,hs,hx,hr]
 exact hk
theorem jcD {w w' w'':World}{r:Option Nat}(h:w.grownBy w' r)(hb:Below w'.heap.size w' w''):w.grownBy w'' r:=⟨hb.os.trans h.os,hb.tape.trans h.tape,hb.output.trans h.output,Nat.le_trans h.size hb.size,fun k hk hr=>(hb.block k (Nat.lt_of_lt_of_le hk h.size)).trans (h.block k hk hr)⟩
theorem jeR {w w':World}{b o:Nat}{u:Value}(hb:Below w.heap.size w w')(hlt:b<w.heap.size)(h:w.cell? ⟨b,o,none⟩=some u):w'.cell? ⟨b,o,none⟩=some u:=by
 unfold World.cell? at h⊢
 rw[hb.block b hlt];exact h
theorem yO {P:Program}{id:Nat}{Q:Exit->Act->World->Prop}{ops:Array Oper}{a0:Act}{w:World}(hm:P.follows .mixedOrders=true){md:Bool}
 (n iB iA:Nat) (ds:Nat->Nat) (val:Nat->Value) (Base:World->Prop)
 (B:Nat) (t e:TypeId) (i0:TypeInfo) (z:Value) (size bytes:Nat) (ht:P.underlying t=some (.slice e)) (hi:P.info? e=some i0) (hz:i0.zero=some z)
 (hsize:i0.size=size) (hby:i0.bytes=bytes) (hzs:z.cells.size=size) (hsz:0<size/\size<=16777216)
 (v:Value) (nn:Nat) (xs A:List Value) (hown:w.ownsRow B e size v nn xs) (hA:A.length=size) (hA1:∀u∈A,u.oneCell'=true) (h63:nn+1<=maxLen) (hbytes:(nn+1)*bytes<=140737488355328) (hB:B<=w.heap.size)
 (hn:ops.size=n+1)
 (hback:∀(i:Nat) (o:Oper),ops[i]? = some o->∀e∈o.after,Region.binds .any e=true->e.on<i)
 (hinj:∀i i',i<n->i'<n->ds i=ds i'->i=i') (hlt:iB<n/\iA<n/\iB≠iA)
 (hbase:∀w1 w2,Below w.heap.size w w1->w1.grownBy w2 v.ownBlock->Base w2)
 (hp:∀i o,i<n->i≠iB->i≠iA->ops[i]? = some o->o.guard=none/\o.dst=some (ds i)/\ds i<a0.tmps.size/\∀(a:Act) w',Base w'->(∀e∈o.after,Region.binds .any e=true->e.on≠iB->e.on≠iA->a.tmps[ds e.on]? = some (val e.on))->
   (∀j,(∀i,i<n->ds i≠j)->a.tmps[j]? = a0.tmps[j]?)->o.quietAt P a (fun w''=>Below w'.heap.size w' w'') w' (val i))
 (hBo:∃o x,ops[iB]? = some o/\o.guard=none/\o.dst=some (ds iB)/\ds iB<a0.tmps.size/\o.op=.buildSlice t 1 #[(0,x)]/\∀a:Act,(∀e∈o.after,Region.binds .any e=true->e.on≠iB->e.on≠iA->a.tmps[ds e.on]? = some (val e.on))->
   a.eval x=.agg A.toArray)
 (hAo:∃o s,ops[iA]? = some o/\o.guard=none/\o.dst=some (ds iA)/\ds iA<a0.tmps.size/\o.op=.call {callee:=.builtin .append,args:=#[s,.tmp (ds iB)],argTypes:=#[t,t]}/\(∃e∈o.after,Region.binds .any e=true/\e.on=iB)/\∀a:Act,(∀e∈o.after,Region.binds .any e=true->e.on≠iB->e.on≠iA->a.tmps[ds e.on]? = some (val e.on))->
   a.eval s=v)
 (hl : ∃o,ops[n]? = some o/\o.guard=none/\(∀f:Nat->Bool,(∀e∈o.after,Region.binds .any e=true->f e.on=true)->(∀i o,ops[i]? = some o->f i=true->∀e∈o.after,Region.binds .any e=true->f e.on=true)->∀i,i<n->f i=true)/\
   ∀v' w1 w2 (a:Act),Below w.heap.size w w1->w1.grownBy w2 v.ownBlock->w2.ownsRow B e size v' (nn+1) (xs++A)->(v'.ownBlock=v.ownBlock\/v'.ownBlock=some w1.heap.size)->a.tmps.size=a0.tmps.size->a.defers=a0.defers->
    (∀i,i<n->i≠iB->i≠iA->a.tmps[ds i]? = some (val i))->a.tmps[ds iA]? = some v'->(∀j,(∀i,i<n->ds i≠j)->a.tmps[j]? = a0.tmps[j]?)->o.wp P a w2 (fun a' w''=>Q .normal a' w'') Q):(Code.region id ops md).wp P Q a0 w:=by
 obtain⟨b1,b2,b3⟩:=hlt
 have hlt0:=hown.lt
 refine Um (β:=Value × Value) hm md n ds (fun i=>i==iB||i==iA) (fun V i=>if i=iA then V.2 else if i=iB then V.1 else val i) (undef,undef)
  (fun f V w'=>(f iA=false->Below w.heap.size w w')/\(f iA=false->f iB=true->∃g,V.1=.slice (some ⟨g,0,none⟩) 1 1/\g<w'.heap.size/\∀(j:Nat) (u:Value),A[j]? = some u->w'.cell? ⟨g,j,none⟩=some u)/\
    (f iA=true->∃w1,Below w.heap.size w w1/\w1.grownBy w' v.ownBlock/\w'.ownsRow B e size V.2 (nn+1) (xs++A)/\(V.2.ownBlock=v.ownBlock\/V.2.ownBlock=some w1.heap.size))/\(f iA=true->f iB=true)) hn hback ⟨⟨fun _=>Below.refl _ w,fun _ h=>(by cases h),fun h=>(by cases h),fun h=>(by cases h)⟩,⟨fun _=>(Below.refl _ w).drew,fun _ h=>(by cases h),fun h=>(by cases h),fun h=>(by cases h)⟩⟩ ?_ ?_ hinj ?_
 ·intro i o hin he ho
  have hne:i≠iB/\i≠iA:=by simpa using he
  obtain⟨q1,q2,q3,q4⟩:=hp i o hin hne.1 hne.2 ho
  refine⟨q1,q2,q3,fun f V w' a hI hd hr=>⟨fun w''=>Below w'.heap.size w' w'',?_,?_⟩⟩
  ·rw[if_neg hne.2,if_neg hne.1]
   refine q4 a w' ?_ (fun e he hb h1 h2=>?_) hr
   ·cases hf:f iA with
    |false=>exact hbase w' w' (hI.1 hf) mO
    |true=>
     obtain⟨w1,g1,g2,-⟩:=hI.2.2.1 hf
     exact hbase w1 w' g1 g2
   ·have:=(hd e he hb).2
    rw[if_neg h2,if_neg h1]at this
    exact this
  ·have e1:nxF f i iA=f iA:=if_neg (fun e=>hne.2 e.symm)
   have e2:nxF f i iB=f iB:=if_neg (fun e=>hne.1 e.symm)
   rw[e1,e2]
   refine⟨hI,fun w'' hb=>⟨fun h=>(hI.1 h).trans (hb.mono (hI.1 h).size),fun h h'=>?_,fun h=>?_,hI.2.2.2⟩⟩
   ·obtain⟨g,g1,g2,g3⟩:=hI.2.1 h h'
    exact⟨g,g1,Nat.lt_of_lt_of_le g2 hb.size,fun j u hu=>jeR hb g2 (g3 j u hu)⟩
   ·obtain⟨w1,g1,g2,g3,g4⟩:=hI.2.2.1 h
    exact⟨w1,g1,jcD g2 hb,vz g3 (Ug hb) (by simp),g4⟩
 ·intro i o hin he ho
  by_cases eA:i=iA
  ·rw[eA]at ho⊢
   obtain⟨o',s,r1,r2,r3,r4,r5,⟨e0,r6,r7,r8⟩,r9⟩:=hAo
   rw[r1]at ho;cases ho
   refine⟨r2,r4,fun f V w' a hI hf hd hr=>?_⟩
   have hb:=hI.1 hf
   obtain⟨fB,vB⟩:=hd e0 r6 r7
   rw[r8]at fB vB
   rw[if_neg b3,if_pos rfl]at vB
   obtain⟨g,g1,g2,g3⟩:=hI.2.1 hf fB
   rw[g1]at vB
   have ho1:w'.ownsRow B e size v nn xs:=vz hown (Ug hb) (by simp)
   have hnews:∀(j:Nat) (u:Value),A[j]? = some u->w'.cell? ((⟨g,0,none⟩:Addr).add j)=some u:=fun j u h=>by rw[Yc,Nat.zero_add];exact g3 j u h
   obtain⟨v',w2,hrun,h2,h3,-⟩:=run_append_own (P:=P) w' B t o.type e i0 z size bytes ht hi hz hsize hby hzs hsz.1 v nn xs ho1 ⟨g,0,none⟩ 1 1 A (by rw[hA,Nat.one_mul]) hnews hA1 h63 hbytes (Nat.le_trans hB hb.size)
   have h4:=jbP (P:=P) (w:=w') B t o.type e i0 z size bytes ht hi hz hsize hby v nn xs ho1 ⟨g,0,none⟩ 1 1 A (by rw[hA,Nat.one_mul]) hnews hA1 h63 hbytes (by omega) v' w2 hrun
   refine jf4 r5 (r9 a fun e he hb h1 h2=>?_) (ev vB) hrun ?_
   ·have:=(hd e he hb).2
    rw[if_neg h2,if_neg h1]at this
    exact this
   ·rw[r3]
    have e1:nxF f iA iA=true:=if_pos rfl
    refine⟨(V.1,v'),by rw[if_pos rfl],⟨fun h=>(by rw[e1]at h;cases h),fun h=>(by rw[e1]at h;cases h),fun _=>⟨w',hb,h3,h2,h4⟩,fun _=>(by rw[show nxF f iA iB=f iB from if_neg b3];exact fB)⟩,fun j hj hfj=>?_⟩
    by_cases ej:j=iA
    ·rw[ej,hf]at hfj;cases hfj
    ·rw[if_neg ej,if_neg ej]
  ·have eB:i=iB:=by simpa [eA]using he
   rw[eB]at ho⊢
   obtain⟨o',x,r1,r2,r3,r4,r5,r9⟩:=hBo
   rw[r1]at ho;cases ho
   refine⟨r2,r4,fun f V w' a hI hf hd hr=>?_⟩
   have fA:f iA=false:=by
    cases h:f iA with
    |false=>rfl
    |true=>have:=hI.2.2.2 h;rw[hf]at this;cases this
   have hb:=hI.1 fA
   have hx:a.eval x=.agg A.toArray:=r9 a fun e he hb h1 h2=>by
    have:=(hd e he hb).2
    rw[if_neg h2,if_neg h1]at this
    exact this
   refine jf3 r5 hx ht hi hz (by rw[hsize,hA]) (by rw[hzs,hA]) (by rw[hA];exact hsz.1) (by rw[hA];exact hsz.2) ?_
   rw[r3]
   have e1:nxF f iB iA=false:=(if_neg (fun e=>b3 e.symm)).trans fA
   have hb2:Below w'.heap.size w' (w'.alloc (.cells A.toArray e)):=(Below.refl _ _).alloc (Nat.le_refl _) _
   refine⟨(.slice (some ⟨w'.heap.size,0,none⟩) 1 1,V.2),by rw[if_neg b3,if_pos rfl],⟨fun _=>hb.trans (hb2.mono hb.size),fun _ _=>⟨w'.heap.size,rfl,by simp,fun j u hu=>?_⟩,fun h=>(by rw[e1]at h;cases h),fun h=>(by rw[e1]at h;cases h)⟩,fun j hj hfj=>?_⟩
   ·have:=jg5 w' A e w'.heap.size rfl j u hu
    rw[Yc,Nat.zero_add]at this
    exact this
   ·by_cases ej:j=iB
    ·rw[ej,hf]at hfj;cases hfj
    ·by_cases ea:j=iA
     ·rw[if_pos ea,if_pos ea]
     ·rw[if_neg ea,if_neg ej,if_neg ea,if_neg ej]
 ·obtain⟨o,q1,q2,q3,q4⟩:=hl
  refine⟨o,q1,q2,q3,fun f V a w' hall hsz hdf hv hr hI=>?_⟩
  obtain⟨w1,g1,g2,g3,g4⟩:=hI.2.2.1 (hall iA b2)
  refine q4 V.2 w1 w' a g1 g2 g3 g4 hsz hdf (fun i hi h1 h2=>?_) ?_ hr
  ·have:=hv i hi
   rw[if_neg h2,if_neg h1]at this
   exact this
  ·have:=hv iA b2
   rw[if_pos rfl]at this
   exact this
theorem Kk {P:Program}{id:Nat}{Q:Exit->Act->World->Prop}{ops:Array Oper}{a0:Act}{w:World}(hm:P.follows .mixedOrders=true){md:Bool}
 (n:Nat) (ds:Nat->Nat) (val:Nat->Value) (hn:ops.size=n+1)
 (hback:∀(i:Nat) (o:Oper),ops[i]? = some o->∀e∈o.after,Region.binds .any e=true->e.on<i)
 (hinj:∀i i',i<n->i'<n->ds i=ds i'->i=i')
 (hp:∀i o,i<n->ops[i]? = some o->o.guard=none/\o.dst=some (ds i)/\ds i<a0.tmps.size/\∀(a:Act) w',Below w.heap.size w w'->(∀e∈o.after,Region.binds .any e=true->a.tmps[ds e.on]? = some (val e.on))->
   (∀j,(∀i,i<n->ds i≠j)->a.tmps[j]? = a0.tmps[j]?)->o.quietAt P a (fun w''=>Below w'.heap.size w' w'') w' (val i))
 (hl : ∃o,ops[n]? = some o/\o.guard=none/\(∀f:Nat->Bool,(∀e∈o.after,Region.binds .any e=true->f e.on=true)->(∀i o,ops[i]? = some o->f i=true->∀e∈o.after,Region.binds .any e=true->f e.on=true)->∀i,i<n->f i=true)/\
   ∀w' (a:Act),Below w.heap.size w w'->a.tmps.size=a0.tmps.size->a.defers=a0.defers->
    (∀i,i<n->a.tmps[ds i]? = some (val i))->(∀j,(∀i,i<n->ds i≠j)->a.tmps[j]? = a0.tmps[j]?)->o.wp P a w' (fun a' w''=>Q .normal a' w'') Q):(Code.region id ops md).wp P Q a0 w:=by
 refine Um (β:=Unit) hm md n ds (fun _=>false) (fun _=>val) () (fun _ _ w'=>Below w.heap.size w w') hn hback ⟨Below.refl _ w,(Below.refl _ w).drew⟩ ?_ (fun _ _ _ h=>by cases h) hinj ?_
 ·intro i o hin _ ho
  obtain⟨q1,q2,q3,q4⟩:=hp i o hin ho
  exact⟨q1,q2,q3,fun f V w' a hI hd hr=>⟨fun w''=>Below w'.heap.size w' w'',q4 a w' hI (fun e he hb=>(hd e he hb).2) hr,hI,fun w'' hb=>hI.trans (hb.mono hI.size)⟩⟩
 ·obtain⟨o,q1,q2,q3,q4⟩:=hl
  exact⟨o,q1,q2,q3,fun f V a w' hall hsz hdf hv hr hI=>q4 w' a hI hsz hdf hv hr⟩
theorem zS [GlC]{P:Program}{f:FuncId}{avs:List AV}{r:AV}(h:FnR P f avs r [])(hg:∀m,GlC.G m){M:Mem}{w:World}{vs:List Value}(hi:Imm M w)(hr:JK M jh avs vs):
 Calls P f vs.toArray w fun e w'=>∃v M',e=.returned v/\Below w.heap.size w w'/\Imm M' w'/\Mem.le M M'/\(∀b o u,M' b o=some u->M b o=some u\/w.heap.size<=b)/\Rep M' jh r v:=by
 refine(h w M vs (hg M) hi hr).mono ?_
 rintro e w' ⟨v,m',bl',he,hb,hs,hbl,hrep⟩
 have:bl'=jh:=funext fun id=>hbl id rfl
 subst this
 exact⟨v,m',he,hb,hs.imm,hs.le,hs.grow,hrep⟩
noncomputable def jjP:Code:=Tryz.f20.body.getD .skip
noncomputable abbrev cx20:Ctx Tryz.prog tb:=cx [c_99,c_51] []
def jlx (b:Body):List AV:=(UK b (.slice none 0 0)).map AV.v
def PN (b:Body)(c:Int):List AV:=[.agg (jlx b),.v (.int .i64 c)]
noncomputable def jka (f:List (List UInt8)):Option (List AV):=
 exec cx20 (lvl cx20 6) (fun _=>false) (JJ [(4,65)]) 83 jjP .n ⟨ZK (cx [] []) [.d Ix.tsl_str] (f,()) 0,[],[],0,[]⟩ fun e L=>match e with
  | .exit _=>none
  |_=>got (Ur Tryz.prog L Tryz.f20.results.toList) fun xs=>some (avL xs)
theorem jhW (fields0:List (List UInt8)):jka fields0=
 Rx.Bind
 (JX fields0 #[(98:UInt8),(111:UInt8),(100:UInt8),(121:UInt8)].toList
 (fun(a:Tup tb [Ix.tint])=>YV a (19:Int)) [(14:Int),(15:Int),(16:Int),(17:Int)])
 fun(r905:List Int × Int)=>
 Let (r905.snd != (0:Int)) fun(x906:Bool)=>
 if x906=true then
 some (PN {ID:=(0:Int),Kind:=(0:Int),Transform:={Position:={X:=(0:Int),Y:=(0:Int):Vec},Zg:=(0:Int):Transform},jX:={X:=(0:Int),Y:=(0:Int):Vec},jm:=(0:Int),qu:={X:=(0:Int),Y:=(0:Int):Vec},Yq:=(0:Int),jR:=(0:Int),jJ:=(0:Int),jW:=(0:Int),QH:=false,Jf:=false,QG:=false,qe:=false,JC:=(0:Int),jf:=[]:Body} r905.snd)
 else
 Chk ((0:Int)<=(0:Int)/\(0:Int)<(↑(List.length r905.fst):Int))
 (Let (ix r905.fst (0:Int)) fun(x907:Int)=>
 Chk ((0:Int)<=(1:Int)/\(1:Int)<(↑(List.length r905.fst):Int))
 (Let (ix r905.fst (1:Int)) fun(x908:Int)=>
 Chk ((0:Int)<=(2:Int)/\(2:Int)<(↑(List.length r905.fst):Int))
 (Let (ix r905.fst (2:Int)) fun(x909:Int)=>
 Chk ((0:Int)<=(3:Int)/\(3:Int)<(↑(List.length r905.fst):Int))
 (Let (ix r905.fst (3:Int)) fun(x910:Int)=>
 Chk ((0:Int)<=(4:Int)/\(4:Int)<(↑(List.length r905.fst):Int))
 (Let (ix r905.fst (4:Int)) fun(x911:Int)=>
 Chk ((0:Int)<=(5:Int)/\(5:Int)<(↑(List.length r905.fst):Int))
 (Let (ix r905.fst (5:Int)) fun(x912:Int)=>
 Chk ((0:Int)<=(6:Int)/\(6:Int)<(↑(List.length r905.fst):Int))
 (Let (ix r905.fst (6:Int)) fun(x913:Int)=>
 Chk ((0:Int)<=(7:Int)/\(7:Int)<(↑(List.length r905.fst):Int))
 (Let (ix r905.fst (7:Int)) fun(x914:Int)=>
 Chk ((0:Int)<=(8:Int)/\(8:Int)<(↑(List.length r905.fst):Int))
 (Let (ix r905.fst (8:Int)) fun(x915:Int)=>
 Chk ((0:Int)<=(9:Int)/\(9:Int)<(↑(List.length r905.fst):Int))
 (Let (ix r905.fst (9:Int)) fun(x916:Int)=>
 Chk ((0:Int)<=(10:Int)/\(10:Int)<(↑(List.length r905.fst):Int))
 (Let (ix r905.fst (10:Int)) fun(x917:Int)=>
 Chk ((0:Int)<=(11:Int)/\(11:Int)<(↑(List.length r905.fst):Int))
 (Let (ix r905.fst (11:Int)) fun(x918:Int)=>
 Chk ((0:Int)<=(12:Int)/\(12:Int)<(↑(List.length r905.fst):Int))
 (Let (ix r905.fst (12:Int)) fun(x919:Int)=>
 Chk ((0:Int)<=(13:Int)/\(13:Int)<(↑(List.length r905.fst):Int))
 (Let (ix r905.fst (13:Int)) fun(x920:Int)=>
 Chk ((0:Int)<=(14:Int)/\(14:Int)<(↑(List.length r905.fst):Int))
 (Let (ix r905.fst (14:Int)) fun(x921:Int)=>
 Let (x921==(1:Int)) fun(x922:Bool)=>
 Chk ((0:Int)<=(15:Int)/\(15:Int)<(↑(List.length r905.fst):Int))
 (Let (ix r905.fst (15:Int)) fun(x923:Int)=>
 Let (x923==(1:Int)) fun(x924:Bool)=>
 Chk ((0:Int)<=(16:Int)/\(16:Int)<(↑(List.length r905.fst):Int))
 (Let (ix r905.fst (16:Int)) fun(x925:Int)=>
 Let (x925==(1:Int)) fun(x926:Bool)=>
 Chk ((0:Int)<=(17:Int)/\(17:Int)<(↑(List.length r905.fst):Int))
 (Let (ix r905.fst (17:Int)) fun(x927:Int)=>
 Let (x927==(1:Int)) fun(x928:Bool)=>
 Chk ((0:Int)<=(18:Int)/\(18:Int)<(↑(List.length r905.fst):Int))
 (Let (ix r905.fst (18:Int)) fun(x929:Int)=>
 some (PN {ID:=x907,Kind:=x908,Transform:={Position:={X:=x909,Y:=x910:Vec},Zg:=x911:Transform},jX:={X:=x912,Y:=x913:Vec},jm:=x914,qu:={X:=x915,Y:=x916:Vec},Yq:=x917,jR:=x918,jJ:=x919,jW:=x920,QH:=x922,Jf:=x924,QG:=x926,qe:=x928,JC:=x929,jf:=[]:Body} (0:Int)))))))))))))))))))))
 := by kernel_rfl
theorem KJ {m:Mem}{bl:Names}{l:List AV}{v:Value}(h:Rep m bl (.tup l) v):∃vs,v=.tuple vs.toArray/\JK m bl l vs:=by
 cases h with
 |tup h=>exact⟨_,rfl,h⟩
theorem jge {α β:Type}{c:Prop}[Decidable c]{m:Option α}{g:α->β}:(Chk c m).map g=Chk c (m.map g):=by unfold Chk;split <;> rfl
theorem jgd {α β γ:Type}{x:γ}{k:γ->Option α}{g:α->β}:(Let x k).map g=Let x fun y=>(k y).map g:=rfl
theorem jdt {α β γ:Type}{x:Option γ}{k:γ->Option α}{g:α->β}:(Rx.Bind x k).map g=Rx.Bind x fun y=>(k y).map g:=by cases x <;> rfl
theorem jgc {α β:Type}{c:Prop}[Decidable c]{x y:Option α}{g:α->β}:(if c then x else y).map g=if c then x.map g else y.map g:=by split <;> rfl
theorem jfB (f:List (List UInt8)):jka f=(Ym f).map fun r=>PN r.1 r.2:=by
 rw[jhW]
 unfold Ym
 simp only[jdt,jgd,jgc,jge,Option.map_some]
theorem sim0 {N:Nat}{m:Mem}{w:World}{vs:List Value}{E:VP tb}{avs:List AV}(hn:vs.length<=N)(hi:Imm m w)(hE:avE [] E=QE 0 avs)(hr:JK m jh avs vs):
 Sim N w m (⟨E,[],[],0,[]⟩:SLS tb).av [] {tmps:=vs.toArray++Array.replicate (N - vs.toArray.size) undef,defers:=[]} w m jh:=
 ⟨rfl,by simp;omega,Below.refl _ _,⟨hi,Mem.le.refl m,fun _ _ _ h=>.inl h,(by intro id l h;cases h),(by intro id l p h;cases h),(by simp[jh]),(by simp[jh]),trivial⟩,(by
   show qv m jh (avE [] E) _
   rw[hE];exact qv.args hr _),trivial,fun d _=>rfl⟩
theorem jci {f:List (List UInt8)}{b:Body}{c:Int}(h:Ym f=some (b,c)){M:Mem}{w:World}{v:Value}(hi:Imm M w)(hr:Rep M jh (jQ f) v):
 Calls Tryz.prog 20 #[v] w fun e w'=>e=.returned (.tuple #[.agg (UK b (.slice none 0 0)).toArray,.int .i64 c])/\Below w.heap.size w w':=by
 have hrun:jka f=some (PN b c):=by rw[jfB,h];rfl
 have hav:avE [] (ZK (cx [] []) [.d Ix.tsl_str] (f,()) 0)=QE 0 [jQ f]:=by kernel_rfl
 have hi0:RI [] (ZK (cx [] []) [.d Ix.tsl_str] (f,()) 0:VP tb):=by
  intro t G z hz
  have hk:jcx (tb:=tb) [] (ZK (cx [] []) [.d Ix.tsl_str] (f,()) 0)=true:=rfl
  have:=(Pa hk _ (ZO hz)).2
  cases this
 have key:=Zv (jbf 6) (L:=(⟨ZK (cx [] []) [.d Ix.tsl_str] (f,()) 0,[],[],0,[]⟩:SLS tb)) hi0 hrun
 refine calls_of_wp (fn:=Tryz.f20) (c:=jjP) Tryz.func20 (by kernel_rfl) ?_
 have hN:Tryz.f20.ntmps=83:=by kernel_rfl
 rw[hN]
 refine key _ _ _ _ _ _ _ (sim0 (vs:=[v]) (by simp) hi hav (.cons hr .nil)) _ ?_
 rintro e L' a1 w1 m1 bl1 ⟨Lz,h',hi1,x1,t1⟩ s1
 obtain⟨m2,bl2,s2⟩:=t1 _ _ _ _ _ _ _ _ s1
 have key2:∀xs,Ur Tryz.prog Lz Tryz.f20.results.toList=some xs->avL xs=PN b c->bodyPost Tryz.prog Tryz.f20 (fun e w'=>e=.returned (.tuple #[.agg (UK b (.slice none 0 0)).toArray,.int .i64 c])/\Below w.heap.size w w') .ret a1 w1:=by
  intro xs hxs hx
  obtain⟨u,hv1,hv2⟩:=kX.results s2 (VX hxs)
  rw[hx]at hv2
  have hv2:Rep m2 bl2 (.tup [.agg (jlx b),.v (.int .i64 c)]) u:=hv2
  obtain⟨vs,rfl,hvs⟩:=KJ hv2
  obtain⟨u1,vs,rfl,h1,hvs⟩:=hvs.inv
  have:vs=[.int .i64 c]:=qZ (l:=[.int .i64 c]) hvs
  subst this
  obtain⟨cs,rfl,h3,-⟩:=uM h1
  have:=qZ h3
  subst this
  exact⟨s2.defers,_,hv1,rfl,s2.below⟩
 cases e with
 |exit j=>cases h'
 |normal=>
  obtain⟨xs,hxs,h'⟩:=jd h'
  exact key2 xs hxs (Option.some.inj h')
 |ret=>
  obtain⟨xs,hxs,h'⟩:=jd h'
  exact key2 xs hxs (Option.some.inj h')
theorem QF {w:World}{bp:Nat}{K:List Value}{sec s:Int}(hK:K.length=11)(hb:w.heap[bp]? = some (.cells (K++[Value.int .i64 sec]).toArray 147 (0,0))):
 Calls Tryz.prog 158 #[.pointer (some ⟨bp,0,none⟩),.int .i64 s] w fun e w'=>e=.returned (.bool (Yw sec s))/\(Yw sec s=false->w'=w)/\(Yw sec s=true->w'=w.setCell ⟨bp,11,none⟩ (.int .i64 s)):=by
 have c11:w.cell? ⟨bp,11,none⟩=some (.int .i64 sec):=Jq hb 11 (by simp[hK])
 have f11:w.frozen? ⟨bp,11,none⟩=false:=kM hb 11
 have u147:=Tryz.underlying147
 clear hb hK
 unfold Yw
 by_cases h0:sec=0
 ·subst h0
  have t1:((0:Int)==0)=true:=rfl
  by_cases h1:s=1
  ·subst h1
   go_enter Tryz.func158,Tryz.ntmps158
   go_wp2
   go_ret
   exact⟨rfl,by simp,fun _=>rfl⟩
  ·have t2:(s==1)=false:=by rw[beq_eq_false_iff_ne];exact h1
   go_enter Tryz.func158,Tryz.ntmps158
   go_wp2
   go_ret
   simp[h1]
 ·have t1:(sec==0)=false:=by rw[beq_eq_false_iff_ne];exact h0
  by_cases h1:s=1
  ·subst h1
   go_enter Tryz.func158,Tryz.ntmps158
   go_wp2
   go_ret
   simp[h0]
  ·have t2:(s==1)=false:=by rw[beq_eq_false_iff_ne];exact h1
   by_cases h2:s<sec
   ·go_enter Tryz.func158,Tryz.ntmps158
    go_wp2
    go_ret
    simp[h2]
   ·go_enter Tryz.func158,Tryz.ntmps158
    go_wp2
    go_ret
    simp[h0,h1,h2]
    exact fun h=>absurd h (Int.not_lt.2 h2)
theorem jeL (l:List (List UInt8)):(l.map KY).flatMap AV.cells=(l.map fun x:List UInt8=>Value.string ⟨x.toArray⟩).map AV.v:=by
 induction l with
 |nil=>rfl
 |cons x l ih=>rw[List.map_cons,List.flatMap_cons,ih];rfl
theorem jeM (l:List (Int)):(l.map jeH).flatMap AV.cells=(l.map fun x:Int=>Value.int .i64 x).map AV.v:=by
 induction l with
 |nil=>rfl
 |cons x l ih=>rw[List.map_cons,List.flatMap_cons,ih];rfl
theorem YW {m:Mem}{l:List (List UInt8)}{v:Value}(h:Rep m jh (jQ l) v):∃ad cap,v=.slice ad l.length cap/\(0<l.length->∃blk off,ad=some ⟨blk,off,none⟩/\∀(j:Nat) (x:List UInt8),l[j]? = some x->m blk (off+j)=some (.string ⟨x.toArray⟩)):=by
 have h:Rep m jh (.sl false 1 (l.map KY)) v:=h
 generalize hl:l.map KY=l' at h
 cases h with
 |slnil=>
  have:l=[]:=List.map_eq_nil_iff.1 hl
  subst this
  exact⟨none,0,rfl,fun h=>by simp at h⟩
 |sl h1 h2 h3 h4 h5 h6 h7=>
  rename_i a cap cs
  subst hl
  obtain⟨b,off,sp⟩:=a
  rw[jeL]at h2
  have h2:=qZ h2
  subst h2
  refine⟨some ⟨b,off,sp⟩,cap,by simp,fun h=>?_⟩
  have hsp:sp=none:=h4 (by simpa using h)
  subst hsp
  exact⟨b,off,rfl,fun j x e=>h5 j _ (by simp[e])⟩
theorem jfF {m:Mem}{l:List Int}{v:Value}(h:Rep m jh (Zr l) v):∃ad cap,v=.slice ad l.length cap/\(0<l.length->∃blk off,ad=some ⟨blk,off,none⟩/\∀(j:Nat) (x:Int),l[j]? = some x->m blk (off+j)=some (.int .i64 x)):=by
 have h:Rep m jh (.sl false 1 (l.map jeH)) v:=h
 generalize hl:l.map jeH=l' at h
 cases h with
 |slnil=>
  have:l=[]:=List.map_eq_nil_iff.1 hl
  subst this
  exact⟨none,0,rfl,fun h=>by simp at h⟩
 |sl h1 h2 h3 h4 h5 h6 h7=>
  rename_i a cap cs
  subst hl
  obtain⟨b,off,sp⟩:=a
  rw[jeM]at h2
  have h2:=qZ h2
  subst h2
  refine⟨some ⟨b,off,sp⟩,cap,by simp,fun h=>?_⟩
  have hsp:sp=none:=h4 (by simpa using h)
  subst hsp
  exact⟨b,off,rfl,fun j x e=>h5 j _ (by simp[e])⟩
def jbZ (M:Mem)(w:World)(M':Mem)(w':World):Prop:=Below w.heap.size w w'/\Imm M' w'/\Mem.le M M'/\∀b o u,M' b o=some u->M b o=some u\/w.heap.size<=b
theorem ZE {f:List (List UInt8)}{n:Int}{l:List Int}{ok:Bool}(h:jZ f n=some (l,ok)){M:Mem}{w:World}{v:Value}(hi:Imm M w)(hr:Rep M jh (jQ f) v):
 Calls Tryz.prog 157 #[v,.int .i64 n] w fun e w'=>∃u M',e=.returned (.tuple #[u,.bool ok])/\jbZ M w M' w'/\Rep M' jh (Zr l) u:=by
 have hc:FnR Tryz.prog 157 [jQ f,.v (.int .i64 n)] (.tup [Zr l,.v (.bool ok)]) []:=c_157.ok (f,n,()) [jQ f,.v (.int .i64 n)] ((l,ok):List Int × Bool) ⟨rfl,rfl,trivial⟩ h
 refine(zS hc (fun _=>trivial) hi (vs:=[v,.int .i64 n]) (.cons hr (.cons .v .nil))).mono ?_
 rintro e w' ⟨u,M',rfl,h1,h2,h3,h4,h5⟩
 obtain⟨vs,rfl,hvs⟩:=KJ h5
 obtain⟨u,vs,rfl,h6,hvs⟩:=hvs.inv
 have:vs=[.bool ok]:=qZ (l:=[.bool ok]) hvs
 subst this
 exact⟨u,M',rfl,⟨h1,h2,h3,h4⟩,h6⟩
theorem jen {f:List (List UInt8)}{x:jT}{c:Int}(h:ye f=some (x,c)){M:Mem}{w:World}{v:Value}(hi:Imm M w)(hr:Rep M jh (jQ f) v):
 Calls Tryz.prog 23 #[v] w fun e w'=>∃A M',e=.returned (.tuple #[.agg (List.toArray A),.int .i64 c])/\jbZ M w M' w'/\JK M' jh (tb.el Ix.tFixture x).cells A/\∀u∈A,jL u=true:=by
 have hc:FnR Tryz.prog 23 [jQ f] (.tup [VJ x,.v (.int .i64 c)]) []:=c_23.ok (f,()) [jQ f] ((x,c):jT × Int) ⟨rfl,trivial⟩ h
 refine(zS hc (fun _=>trivial) hi (vs:=[v]) (.cons hr .nil)).mono ?_
 rintro e w' ⟨u,M',rfl,h1,h2,h3,h4,h5⟩
 obtain⟨vs,rfl,hvs⟩:=KJ h5
 obtain⟨u,vs,rfl,h6,hvs⟩:=hvs.inv
 have:vs=[.int .i64 c]:=qZ (l:=[.int .i64 c]) hvs
 subst this
 obtain⟨A,rfl,h7,h8⟩:=uM (l:=(tb.el Ix.tFixture x).cells) h6
 exact⟨A,M',rfl,⟨h1,h2,h3,h4⟩,h7,h8⟩
theorem ja6 {f:List (List UInt8)}{x:yP}{c:Int}(h:Yt f=some (x,c)){M:Mem}{w:World}{v:Value}(hi:Imm M w)(hr:Rep M jh (jQ f) v):
 Calls Tryz.prog 25 #[v] w fun e w'=>∃A M',e=.returned (.tuple #[.agg (List.toArray A),.int .i64 c])/\jbZ M w M' w'/\JK M' jh (tb.el Ix.tJoint x).cells A/\∀u∈A,jL u=true:=by
 have hc:FnR Tryz.prog 25 [jQ f] (.tup [uV x,.v (.int .i64 c)]) []:=c_25.ok (f,()) [jQ f] ((x,c):yP × Int) ⟨rfl,trivial⟩ h
 refine(zS hc (fun _=>trivial) hi (vs:=[v]) (.cons hr .nil)).mono ?_
 rintro e w' ⟨u,M',rfl,h1,h2,h3,h4,h5⟩
 obtain⟨vs,rfl,hvs⟩:=KJ h5
 obtain⟨u,vs,rfl,h6,hvs⟩:=hvs.inv
 have:vs=[.int .i64 c]:=qZ (l:=[.int .i64 c]) hvs
 subst this
 obtain⟨A,rfl,h7,h8⟩:=uM (l:=(tb.el Ix.tJoint x).cells) h6
 exact⟨A,M',rfl,⟨h1,h2,h3,h4⟩,h7,h8⟩
section
variable {W0:World} {x:jo} {sec:Int} {T:TypeId} {tl:List Value} {M M':Mem} {bp:Nat} {h0 h1 h2 h3 hF hP:Value} {nF nP:Nat} {xb xj xc xo xf xp:List Value} {w w1 w2:World}
theorem PG.call (h:PG W0 x T tl M bp h0 h1 h2 h3 hF hP nF nP xb xj xc xo xf xp w)(hn:jbZ M w M' w1):PG W0 x T tl (zr M M') bp h0 h1 h2 h3 hF hP nF nP xb xj xc xo xf xp w1:=by
 obtain⟨n1,n2,n3,n4⟩:=hn
 refine(h.below n1).more n2 (fun b o u e=>?_) (fun o=>?_) (fun r hr g hg o=>?_)
 ·rcases n4 b o u e with e|e
  ·exact h.o.new b o u e
  ·exact Nat.le_trans h.o.bel.size e
 ·cases e:M' bp o with
  |none=>rfl
  |some u=>
   rcases n4 bp o u e with e|e
   ·rw[h.o.hp.2 o]at e;cases e
   ·have:=Jr h.o.box;omega
 ·cases e:M' g o with
  |none=>rfl
  |some u=>
   rcases n4 g o u e with e|e
   ·rw[h.o.nr r hr g hg o]at e;cases e
   ·have:=((h.o.rows r hr).lt g hg).2;omega
def jao (bp:Nat)(rs:List Row)(b:Nat)(L:List Value)(T:TypeId)(w:World):Prop:=w.heap[b]? = some (.cells L.toArray T (0,0))/\b≠bp/\∀r∈rs,r.v.ownBlock≠some b
theorem PG.side (h:PG W0 x T tl M bp h0 h1 h2 h3 hF hP nF nP xb xj xc xo xf xp w){b:Nat}{L:List Value}{T:TypeId}(hb:w1.heap[b]? = some (.cells L.toArray T (0,0)))(hw:w.heap.size<=b):jao bp (jG x h0 h1 h2 h3 hF hP nF nP xb xj xc xo xf xp) b L T w1:=
 ⟨hb,by have:=Jr h.o.box;omega,fun r hr e=>by have:=((h.o.rows r hr).lt b e).2;omega⟩
end
theorem zJ:Tryz.prog.follows .mixedOrders=true:=by kernel_rfl
def PX (W0:World)(x:jo)(sec:Int)(bp:Nat)(w:World):Prop:=∃M h0 h1 h2 h3 hF hP nF nP xb xj xc xo xf xp,PS W0 x sec M bp h0 h1 h2 h3 hF hP nF nP xb xj xc xo xf xp w
def je2:List Value:=[.int .i64 0,.int .i64 0,.int .i64 0,.int .i64 0,.int .i64 0,.int .i64 0,.int .i64 0,.int .i64 0,.int .i64 0,.int .i64 0,.int .i64 0,.bool false,.int .i64 0,.int .i64 0,.bool false,.int .i64 0,.int .i64 0,.int .i64 0,.int .i64 0,.bool false,.int .i64 0,.int .i64 0,.int .i64 0,.int .i64 0]
def je4:List Value:=[.int .i64 0,.int .i64 0,.slice none 0 0,.int .i64 0,.int .i64 0,.int .i64 0,.bool false,.int .i64 0,.int .i64 0,.int .i64 0]
def je6:List Value:=[.int .i64 0,.int .i64 0,.int .i64 0,.int .i64 0,.int .i64 0,.int .i64 0,.int .i64 0,.int .i64 0,.int .i64 0,.int .i64 0,.int .i64 0,.int .i64 0,.int .i64 0,.int .i64 0,.bool false,.bool false,.bool false,.bool false,.int .i64 0,.slice none 0 0]
def conZ:List Value:=[.int .i64 0,.int .i64 0,.int .i64 0,.int .i64 0,.int .i64 0,.int .i64 0,.slice none 0 0]
def i4Z:List Value:=[.int .i64 0,.int .i64 0,.int .i64 0,.int .i64 0]
def i6Z:List Value:=[.int .i64 0,.int .i64 0,.int .i64 0,.int .i64 0,.int .i64 0,.int .i64 0]
theorem VU {P:Program}{Q:Exit->Act->World->Prop}{a:Act}{w:World}{id d:Nat}{o:Oper}{x:Operand}{v:Value}(g:o.guard=none)(e:o.op=.assign x)(hd:o.dst=some d)(hx:a.eval x=v)(h:Q .ret (a.put (some d) v) w):(Code.seq (.region id #[o] false) .ret).wp P Q a w:=by
 refine wp_seq (wp_region_list ?_)
 refine wpList_plain g fun K hK=>?_
 have r:(execOp a.eval o).run P w=.ok (.value v) w:=by simp[execOp,e,hx]
 unfold Oper.wp
 rw[r,Oper.upon_value,hd]
 exact hK _ _ (wpList_nil (wp_ret h))
theorem jkc {fn:Func}{P:Program}{a:Act}{w:World}{v:Value}(h:fn.results=#[.tmp 4])(hs:4<a.tmps.size):(results fn (a.put (some 4) v).tmps).run P w=.ok v w:=by
 have:(a.put (some 4) v).tmps[4]? = some v:=put_eq hs
 simp[results,h,this]
theorem Yd {w:World}{B e sz v n xs}(h:w.ownsRow B e sz v n xs):v.cells=#[v]/\v.oneCell'=true:=by
 obtain⟨-,⟨rfl,-⟩|⟨g,cap,cur,rfl,-⟩⟩:=h <;> exact⟨rfl,rfl⟩
theorem OR.base {W0 M bp T K rs w w1 w2}(h:OR W0 M bp T K rs w){r:Row}(hr:r∈rs)(hb:Below w.heap.size w w1)(hg:w1.grownBy w2 r.v.ownBlock):w2.heap[bp]? = some (.cells K.toArray T (0,0))/\Imm M w2:=by
 have h1:=h.below hb
 have hnb:∀g,r.v.ownBlock=some g->g≠bp:=fun g e e2=>h.ap.1 bp rfl (by rw[<-e2,<-e];exact List.mem_map.2 ⟨r,hr,rfl⟩)
 refine⟨(hg.block bp (Jr h1.box) (fun e=>hnb bp e.symm rfl)).trans h1.box,?_⟩
 cases e:r.v.ownBlock with
 |none=>exact h1.iM.below (⟨hg.os,hg.tape,hg.output,hg.size,fun k hk=>hg.block k hk (by rw[e];simp)⟩)
 |some g=>exact Kz h1.iM (e ▸ hg) (h.nr r hr g e)
theorem jao.base {bp rs b L T w w1 w2}(h:jao bp rs b L T w){r:Row}(hr:r∈rs)(hb:Below w.heap.size w w1)(hg:w1.grownBy w2 r.v.ownBlock):w2.heap[b]? = some (.cells (List.toArray L) T (0,0)):=
 (hg.block b (Nat.lt_of_lt_of_le (Jr h.1) hb.size) (fun e=>h.2.2 r hr e.symm)).trans ((hb.block b (Jr h.1)).trans h.1)
def backB (ops:Array Oper):Bool:=(List.range ops.size).all fun i=>match ops[i]? with
 |some o=>o.after.toList.all fun e => !Region.binds .any e||Nat.blt e.on i
 |none=>true
theorem zL {ops:Array Oper}(h:backB ops=true):∀(i:Nat) (o:Oper),ops[i]? = some o->∀e∈o.after,Region.binds .any e=true->e.on<i:=by
 intro i o ho e he hb
 have hi:=(Array.getElem?_eq_some_iff.1 ho).1
 have:=List.all_eq_true.1 h i (List.mem_range.2 hi)
 rw[ho]at this
 have:=List.all_eq_true.1 this e (Array.mem_toList_iff.2 he)
 rw[hb]at this
 simpa using this
section
variable {W0:World} {x:jo} {sec:Int} {T:TypeId} {tl:List Value} {M M':Mem} {bp:Nat} {h0 h1 h2 h3 hF hP:Value} {nF nP:Nat} {xb xj xc xo xf xp:List Value} {w w1 w2:World}
theorem PG.px (h:PG W0 x 147 [.int .i64 sec] M bp h0 h1 h2 h3 hF hP nF nP xb xj xc xo xf xp w):PX W0 x sec bp w:=⟨M,h0,h1,h2,h3,hF,hP,nF,nP,xb,xj,xc,xo,xf,xp,h⟩
theorem PG.made (h:PG W0 x T tl M bp h0 h1 h2 h3 hF hP nF nP xb xj xc xo xf xp w){w':World}{A Z:List Value}{TB:TypeId}{k:Nat}(hA:A.length=k)(hZ:Z.length=k)
 (hz:w'.heap[w.heap.size]? = some (.cells (Z.take 0++A++Z.drop (0+A.length)).toArray TB (0,0))) (hg:(w.alloc (.cells Z.toArray TB)).grownBy w' (some w.heap.size)):
 PG W0 x T tl M bp h0 h1 h2 h3 hF hP nF nP xb xj xc xo xf xp w'/\jao bp (jG x h0 h1 h2 h3 hF hP nF nP xb xj xc xo xf xp) w.heap.size A TB w':=by
 have hbl:Below w.heap.size w w':=((Below.refl _ _).alloc (Nat.le_refl _) _).grown hg (by simp) (fun g e=>by have:=Option.some.inj e;omega)
 refine⟨h.below hbl,h.side ?_ (Nat.le_refl _)⟩
 rw[hz,List.take_zero,Nat.zero_add,List.nil_append,List.drop_eq_nil_of_le (by omega),List.append_nil]
theorem PS.jjI {s:Int}{b:Nat}{L:List Value}{T:TypeId}(h:PS W0 x sec M bp h0 h1 h2 h3 hF hP nF nP xb xj xc xo xf xp w/\jao bp (jG x h0 h1 h2 h3 hF hP nF nP xb xj xc xo xf xp) b L T w){w':World}(e:w'=w.setCell ⟨bp,11,none⟩ (.int .i64 s)):
 PS W0 x s M bp h0 h1 h2 h3 hF hP nF nP xb xj xc xo xf xp w'/\jao bp (jG x h0 h1 h2 h3 hF hP nF nP xb xj xc xo xf xp) b L T w':=by
 subst e
 exact⟨h.1.enter,(heap_set _ _ _ _ (fun e=>h.2.2.1 e)).trans h.2.1,h.2.2⟩
theorem PG.world {y:jo}(hy:y.ji=[]/\y.jP=[]/\y.jc=[]/\y.Overlaps=[])(h:PG W0 x 147 [.int .i64 sec] M bp h0 h1 h2 h3 hF hP nF nP xb xj xc xo xf xp w){w':World}
 (hb:w'.heap[bp]? = some (.cells (YB y (.slice none 0 0) (.slice none 0 0) (.slice none 0 0) (.slice none 0 0)++[Value.int .i64 sec]).toArray 147 (0,0))) (hg:w.grownBy w' (some bp)):
 PS W0 y sec M bp (.slice none 0 0) (.slice none 0 0) (.slice none 0 0) (.slice none 0 0) (.slice none 0 0) (.slice none 0 0) 0 0 [] [] [] [] [] [] w':=by
 obtain⟨y1,y2,y3,y4⟩:=hy
 refine⟨⟨h.o.bel.grown hg h.o.bel.size (fun k e=>by cases e;exact h.o.hp.1),Kz h.o.iM hg h.o.hp.2,h.o.new,hb,h.o.hp,?_,?_,?_⟩,.inl ⟨y1,rfl,rfl,rfl,rfl⟩,by rw[y2];exact .nil,.inl ⟨y3,rfl,rfl,rfl,rfl⟩,by rw[y4];exact .nil,by simp,by simp⟩
 ·intro r hr
  simp only[jG,y1,y2,y3,y4,List.length_nil,List.mem_cons,List.not_mem_nil,or_false]at hr
  rcases hr with rfl|rfl|rfl|rfl|rfl|rfl <;> exact World.ownsRow_nil _ _ _ _
 ·intro r hr g hg
  simp only[jG,List.mem_cons,List.not_mem_nil,or_false]at hr
  rcases hr with rfl|rfl|rfl|rfl|rfl|rfl <;> cases hg
 ·simp[jG,Ul,Value.ownBlock]
theorem ZM {g cap n j:Nat}{base e size:Nat}{xs:List Value}{u:Value}(h:w.ownsRow base e size (.slice (some ⟨g,0,none⟩) n cap) n xs)(hj:xs[j]? = some u)(hn:0<n):w.cell? ⟨g,j,none⟩=some u/\w.frozen? ⟨g,j,none⟩=false:=by
 obtain⟨h1,⟨h2,h3⟩|⟨g',cap',cur,e1,q1,q2,q3,q4,q5,q6⟩⟩:=h
 ·omega
 ·cases e1
  refine⟨?_,kM q2 j⟩
  have hlt:=(List.getElem?_eq_some_iff.1 hj).1
  rw[yC q2,<-Array.getElem?_toList]
  rw[<-q6,List.getElem?_take_of_lt (by rw[<-h1];exact hlt)]at hj
  exact hj
theorem Mv {base e size n:Nat}{v:Value}{xs:List Value}(h:w.ownsRow base e size v n xs)(hn:0<n):∃g cap,v=.slice (some ⟨g,0,none⟩) n cap:=by
 obtain⟨-,⟨-,h3⟩|⟨g,cap,cur,rfl,-⟩⟩:=h
 ·omega
 ·exact⟨g,cap,rfl⟩
theorem OR.other {T K rs}(h:OR W0 M bp T K rs w){i j:Nat}{r q:Row}(hi:rs[i]? = some r)(hj:rs[j]? = some q)(hij:i≠j)(hb:Below w.heap.size w w1)(hg:w1.grownBy w2 r.v.ownBlock):w2.ownsRow W0.heap.size q.e q.size q.v q.n q.xs:=by
 have h1:=h.below hb
 refine vz (h1.rows q (List.mem_of_getElem? hj)) hg (fun g e e2=>hij ?_)
 exact Ul.inj h1.ap.2 (g:=g) (by rw[List.getElem?_map,hi];exact congrArg some e2) (by rw[List.getElem?_map,hj];exact congrArg some e)
theorem xx {P:Program}{Q:Exit->Act->World->Prop}{K:Act->World->Prop}{o:Oper}{a:Act}{w:World}{ty:TypeId}{t z:Operand}{b off:Nat}{cs arr:List Value}{T:TypeId}
 (e:o.op=.store ty t z) (hd:o.dst=none) (ht:a.eval t=.pointer (some ⟨b,off,none⟩)) (hz:a.eval z=.agg cs.toArray) (hs:tSz P ty=some cs.length)
 (hb:w.heap[b]? = some (.cells arr.toArray T (0,0))) (hfit:off+cs.length<=arr.length) (h1:∀c∈cs,c.oneCell'=true)
 (h:∀w',w'.heap[b]? = some (.cells (arr.take off++cs++arr.drop (off+cs.length)).toArray T (0,0))->w.grownBy w' (some b)->K a w'):o.wp P a w K Q:=by
 have hst:=run_storeCells_at P b off T cs 0 arr.toArray w hb (by simpa using hfit) h1
 simp only[Nat.add_zero]at hst
 have r2:(execOp a.eval o).run P w=.ok .skip (w.setRow b (arr.take off++cs++arr.drop (off+cs.length)).toArray):=by
  have hst:Sem.run P (storeCells ⟨b,off,none⟩ cs) w=Result.ok () (w.setRow b (arr.take off++cs++arr.drop (off+cs.length)).toArray):=hst
  simp[execOp,e,ht,hz,Instr.storeAt,Instr.sureAddr,storeVar,jx hs,Value.cells,hst]
 unfold Oper.wp
 rw[r2,Oper.upon_skip,hd]
 exact h _ (setRow_heap w b _ _ T (0,0) hb) ⟨rfl,rfl,rfl,by simp,fun k _ hk=>setRow_other w b k _ (fun e=>hk (by rw[e]))⟩
theorem PG.fcell (h:PG W0 x T tl M bp h0 h1 h2 h3 hF hP nF nP xb xj xc xo xf xp w){init:List Body}{last:Body}(hx:x.ji=init++[last]):xb[init.length*20+19]? = some hF/\nF=last.jf.length:=by
 rcases h.cB with ⟨e1,-⟩|⟨init',last',xi,e1,e2,e3,e4,e5⟩
 ·rw[hx]at e1;simp at e1
 obtain⟨rfl,rfl⟩:init=init'/\last=last':=by
  rw[hx]at e1
  have:=List.append_inj' e1 rfl
  exact⟨this.1,by simpa using this.2⟩
 have hxi:xi.length=init.length*20:=e3.length.symm.trans (qc Ix.tBody 20 init (fun _=>rfl))
 refine⟨?_,e4⟩
 rw[e2,<-hxi,List.getElem?_append_right (by omega),Nat.add_sub_cancel_left]
 rfl
theorem PG.pcell (h:PG W0 x T tl M bp h0 h1 h2 h3 hF hP nF nP xb xj xc xo xf xp w){init:List JL}{last:JL}(hx:x.jc=init++[last]):xc[init.length*7+6]? = some hP/\nP=last.jt.jY.length:=by
 rcases h.cC with ⟨e1,-⟩|⟨init',last',xi,e1,e2,e3,e4,e5⟩
 ·rw[hx]at e1;simp at e1
 obtain⟨rfl,rfl⟩:init=init'/\last=last':=by
  rw[hx]at e1
  have:=List.append_inj' e1 rfl
  exact⟨this.1,by simpa using this.2⟩
 have hxi:xi.length=init.length*7:=e3.length.symm.trans (qc Ix.tContact 7 init (fun _=>rfl))
 refine⟨?_,e4⟩
 rw[e2,<-hxi,List.getElem?_append_right (by omega),Nat.add_sub_cancel_left]
 rfl
end
section
variable {P:Program} {o:Oper} {a:Act} {w:World} {C:World->Prop}
theorem ja4 {t E:TypeId}{y:Operand}{ad:Option Addr}{n c:Nat}(e:o.op=.call {callee:=.builtin .len,args:=#[y],argTypes:=#[t]})(hE:P.underlying t=some (.slice E))(hy:a.eval y=.slice ad n c):o.quietAt P a C w (.int .i64 (n:Int)):=by
 refine Kn ?_
 simp[execOp,e,hy,resolve,invoke,builtin,Builtin.len_,underlying,hE,goInt]
theorem ja3 {t u:TypeId}{x y:Operand}{i j k:Int}(e:o.op=.binOp .sub t x y u)(hx:a.eval x=.int .i64 i)(hy:a.eval y=.int .i64 j)(hw:IntKind.i64.wrap (i - j)=k):o.quietAt P a C w (.int .i64 k):=by
 refine Kn ?_
 unfold execOp
 simp only[e,hx,hy]
 simp[go_sem,hw]
theorem Ws {Q:Exit->Act->World->Prop}{K:Act->World->Prop}{x:Operand}{v:Value}{d:Nat}(e:o.op=.assign x)(hd:o.dst=some d)(hx:a.eval x=v)(h:K (a.put (some d) v) w):o.wp P a w K Q:=by
 have r:(execOp a.eval o).run P w=.ok (.value v) w:=by simp[execOp,e,hx]
 unfold Oper.wp
 rw[r,Oper.upon_value,hd]
 exact h
end
theorem ua (b:Body){h:Value}(h1:jL h=true):∀u∈UK b h,jL u=true:=by
 intro u hu
 simp only[UK,List.mem_cons,List.not_mem_nil,or_false]at hu
 rcases hu with rfl|rfl|rfl|rfl|rfl|rfl|rfl|rfl|rfl|rfl|rfl|rfl|rfl|rfl|rfl|rfl|rfl|rfl|rfl|rfl <;> first|rfl|exact h1
theorem jdN (b:JL){h:Value}(h1:jL h=true):∀u∈je5 b h,jL u=true:=by
 intro u hu
 simp only[je5,List.mem_cons,List.not_mem_nil,or_false]at hu
 rcases hu with rfl|rfl|rfl|rfl|rfl|rfl|rfl <;> first|rfl|exact h1
theorem vV (l:List Int):∀u∈l.map (fun x:Int=>Value.int .i64 x),jL u=true:=by
 intro u hu
 obtain⟨x,-,rfl⟩:=List.mem_map.1 hu
 rfl
theorem WU {f:List (List UInt8)}{n:Int}{l:List Int}(h:jZ f n=some (l,true)){k:Nat}(hk:l.length=k)(hk0:0<k){M:Mem}{w:World}{v:Value}(hi:Imm M w)(hr:Rep M jh (jQ f) v):
 Calls Tryz.prog 157 #[v,.int .i64 n] w fun e w'=>∃ib io ic M',e=.returned (.tuple #[.slice (some ⟨ib,io,none⟩) k ic,.bool true])/\jbZ M w M' w'/\∀(j:Nat) (x:Int),l[j]? = some x->zr M M' ib (io+j)=some (.int .i64 x):=by
 refine(ZE h hi hr).mono ?_
 rintro e w' ⟨u,M',rfl,hn,hu⟩
 obtain⟨ad,cap,rfl,hm⟩:=jfF hu
 obtain⟨blk,off,rfl,hm2⟩:=hm (by omega)
 rw[hk]
 exact⟨blk,off,cap,M',rfl,hn,fun j x e=>zc _ _ _ _ _ (hm2 j x e)⟩
theorem XS {x:jo}{h0 h1 h2 h3:Value}(a0:jL h0=true)(a1:jL h1=true)(a2:jL h2=true)(a3:jL h3=true):∀u∈YB x h0 h1 h2 h3,jL u=true:=by
 intro u hu
 simp only[YB,List.mem_cons,List.not_mem_nil,or_false]at hu
 rcases hu with rfl|rfl|rfl|rfl|rfl|rfl|rfl|rfl|rfl|rfl|rfl <;> first|rfl|assumption
theorem PS.jgU {W0:World}{x:jo}{sec s:Int}{M:Mem}{bp:Nat}{h0 h1 h2 h3 hF hP:Value}{nF nP:Nat}{xb xj xc xo xf xp:List Value}{w w':World}(h:PS W0 x sec M bp h0 h1 h2 h3 hF hP nF nP xb xj xc xo xf xp w)(e:w'=w.setCell ⟨bp,11,none⟩ (.int .i64 s)):PS W0 x s M bp h0 h1 h2 h3 hF hP nF nP xb xj xc xo xf xp w':=by
 subst e;exact h.enter
theorem vg {P:Program}{o:Oper}{a:Act}{w:World}{C:World->Prop}{s:TypeId}{x y:Operand}{b sz n c i:Nat}(e:o.op=.indexAddr s x y)(hx:a.eval x=.slice (some ⟨b,0,none⟩) n c)(hy:a.eval y=.int .i64 (i:Int))(hf:idxO P s=some sz)(h1:i<n):
 o.quietAt P a C w (.pointer (some ⟨b,i*sz,none⟩)):=by
 have:=Jb (P:=P) (w:=w) (C:=C) e hx hy hf (by omega) (by omega)
 simpa using this
theorem jao.below {bp rs b L T}{w w1:World}(h:jao bp rs b L T w)(hb:Below w.heap.size w w1):jao bp rs b L T w1:=⟨(hb.block b (Jr h.1)).trans h.1,h.2⟩
theorem len4 {l:List Int}(h:l.length=4):∃a0 a1 a2 a3:Int,l=[a0,a1,a2,a3]:=by
 match l,h with
 | [a0,a1,a2,a3],_=>exact⟨a0,a1,a2,a3,rfl⟩
theorem len6 {l:List Int}(h:l.length=6):∃a0 a1 a2 a3 a4 a5:Int,l=[a0,a1,a2,a3,a4,a5]:=by
 match l,h with
 | [a0,a1,a2,a3,a4,a5],_=>exact⟨a0,a1,a2,a3,a4,a5,rfl⟩
theorem len7 {l:List Int}(h:l.length=7):∃a0 a1 a2 a3 a4 a5 a6:Int,l=[a0,a1,a2,a3,a4,a5,a6]:=by
 match l,h with
 | [a0,a1,a2,a3,a4,a5,a6],_=>exact⟨a0,a1,a2,a3,a4,a5,a6,rfl⟩
end GoForm
end
