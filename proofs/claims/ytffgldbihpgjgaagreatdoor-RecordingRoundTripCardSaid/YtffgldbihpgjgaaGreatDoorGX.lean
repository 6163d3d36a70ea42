/- Several texts in one. No conditions. -/
import Derived.Test.YtffgldbihpgjgaaGreatDoorF47D
import Derived.Test.YtffgldbihpgjgaaGreatDoorQE
import Derived.Handy
import Derived.BigQuiet
import Derived.Defers
import Derived.Deep.Cut
import Derived.Shelf.RegionOpenPlain
import Derived.Orders
import Derived.Test.YtffgldbihpgjgaaGreatDoorF47CA
section
set_option linter.all false
set_option maxRecDepth 100000
open Go Go.Rx
namespace GoForm
theorem xF:Yk=some true:=by kernel_rfl
end GoForm
end

section
set_option linter.all false
set_option maxRecDepth 100000
open Go Go.Rx Go.Proofs Go.RowKit
namespace GoForm
theorem Qn {m bl l v} (h:Rep m bl (.agg l) v):∃ cs,v=.agg cs.toArray/\Jq m bl l cs/\∀ c∈cs,jA c=true:=by
 cases h with
 | agg a b=>exact ⟨_,rfl,a,b⟩
theorem Ke {m:Mem} {bl:Names}:∀ l:List Value,Jq m bl (l.map AV.v) l
 | []=>.nil
 | a::l=>.cons .v (Ke l)
theorem Jz {m:Mem} {bl:Names}:∀ {l vs:List Value},Jq m bl (l.map AV.v) vs->vs=l
 | [],_,.nil=>rfl
 | a::l,_,.cons h t=>by rw [Rep.YG h,Jz t]
theorem Jh (w:World) (o:Obj) (b:Nat) (h:b=w.heap.size):(w.alloc o).heap[b]? = some o:=by subst h;show (w.heap.push o)[w.heap.size]? = _;simp
theorem jU (w:World) (o:Obj) (b:Nat) (h:b<w.heap.size):(w.alloc o).heap[b]? = w.heap[b]? := by show (w.heap.push o)[b]? = _;rw [Array.getElem?_push_lt h];simp [h]
theorem jD {w:World} {b:Nat} {cs:Array Value} {T:TypeId} (h:w.heap[b]? = some (.cells cs T (0,0))) (j:Nat) {v:Value} (e:cs[j]? = some v):w.cell? ⟨b,j,none⟩=some v:=by rw [Ji h];exact e
theorem qp {w:World} {b:Nat} {cs:Array Value} {T:TypeId} (h:w.heap[b]? = some (.cells cs T (0,0))) (j:Nat):w.frozen? ⟨b,j,none⟩=false:=by unfold World.frozen?;rw [h];simp
theorem heap_set (w:World) (a:Addr) (x:Value) (b:Nat) (h:b≠a.block):(w.setCell a x).heap[b]? = w.heap[b]? := Go.RowKit.Below.heap_setCell _ _ _ _ h
theorem size_set (w:World) (a:Addr) (x:Value):(w.setCell a x).heap.size=w.heap.size:=by simp [World.setCell]
theorem wv {w:World} {b:Nat} {cs:Array Value} {T:TypeId} {fr} (h:w.heap[b]? = some (.cells cs T fr)) (j:Nat) (v:Value) (cs':Array Value) (e:cs.setIfInBounds j v=cs'):(w.setCell ⟨b,j,none⟩ v).heap[b]? = some (.cells cs' T fr):=by
 subst e
 unfold World.setCell
 simp [Array.getElem?_modify,h]
theorem wJ {P:Program} {fn:Func} {t:Tmp} {ty:TypeId} {b:Nat} {cs:List Value} {T:TypeId} {w:World} {tmps:Array Value} (h:fn.results=#[.cell t ty]) (ht:tmps.getD t undef=.pointer (some ⟨b,0,none⟩)) (ha:tAg P ty=some true) (hs:tSz P ty=some cs.length) (hb:w.heap[b]? = some (.cells cs.toArray T (0,0))):
 (results fn tmps).run P w=.ok (.agg cs.toArray) w:=by
 have:=Jw (P:=P) (ty:=ty) (w:=w) (b:=b) (o:=0) (cs:=cs) ha hs (fun j v e=>by rw [Nat.zero_add];exact jD hb j (by simpa using e))
 have ht:tmps[t]?.getD undef=.pointer (some ⟨b,0,none⟩):=by simpa using ht
 simp [results,h,ht,this,asAddr]
theorem _root_.Go.Rx.Jq.inv {m bl x l vs} (h:Jq m bl (x::l) vs):∃ v t,vs=v::t/\Rep m bl x v/\Jq m bl l t:=by
 cases h with
 | cons a b=>exact ⟨_,_,rfl,a,b⟩
theorem _root_.Go.Rx.Jq.inv0 {m bl vs} (h:Jq m bl [] vs):vs=[]:=by cases h;rfl
theorem _root_.Go.Rx.Jq.invV {m bl x l vs} (h:Jq m bl (.v x::l) vs):∃ t,vs=x::t/\Jq m bl l t:=by
 obtain ⟨v,t,rfl,a,b⟩:=h.inv
 exact ⟨t,by rw [Rep.YG a],b⟩
theorem yD {w w':World} (h:Below w.heap.size w w'):w.grownBy w' none:=⟨h.os,h.tape,h.output,h.size,fun k hk _=>h.block k hk⟩
theorem Yy (w:World) (cs:List Value) (T:TypeId) (b:Nat) (hb:b=w.heap.size) (j:Nat) (u:Value) (e:cs[j]? = some u):(w.alloc (.cells cs.toArray T)).cell? ((⟨b,0,none⟩:Addr).add j)=some u:=by
 rw [yd,Nat.zero_add]
 exact jD (Jh w _ b hb) j (by simpa using e)
section
variable {P:Program} {w:World}
theorem VO (base:Nat) (t ty e:TypeId) (i:TypeInfo) (z:Value) (size bytes:Nat) (ht:P.underlying t=some (.slice e)) (hi:P.info? e=some i) (hz:i.zero=some z)
 (hsize:i.size=size) (hby:i.bytes=bytes)
 (v:Value) (n:Nat) (xs:List Value) (hown:w.ownsRow base e size v n xs)
 (a:Addr) (m c:Nat) (news:List Value) (hl:news.length=m*size) (hnews:∀ j u,news[j]? = some u->w.cell? (a.add j)=some u) (h1:∀ u∈news,u.oneCell'=true)
 (h63:n+m<=maxLen) (hbytes:(n+m)*bytes<=140737488355328) (hm:0<m) (v':Value) (w':World)
 (hr:(Builtin.append_ #[t,t] ty #[v,.slice (some a) m c]).run P w=.ok v' w'):v'.ownBlock=v.ownBlock\/v'.ownBlock=some w.heap.size:=by
 subst hsize
 subst hby
 simp only [maxLen] at h63
 rcases hown.2 with ⟨rfl,rfl⟩ | ⟨g,cap,cur,rfl,hbg,hg,hnc,hcm,hcs,htake⟩
 ·have h:=run_append_nil (P:=P) w t ty e i z ht hi hz a m c news hl hnews hm (by omega) (by have hb:=hbytes;simp only [Nat.zero_add] at hb;omega)
  rw [hr] at h
  cases h
  exact .inr rfl
 ·by_cases hroom:n+m<=cap
  ·have hfit:n*i.size+news.length<=cur.size:=by rw [hl,hcs,<- Nat.add_mul];exact Nat.mul_le_mul_right _ hroom
   have h:=run_append_room (P:=P) w t ty e i ht hi g n cap cur hg a m c news hl hnews h1 hroom hfit
   rw [hr] at h
   cases h
   exact .inl rfl
  ·have holds:∀ j u,xs[j]? = some u->w.cell? ((⟨g,0,none⟩:Addr).add j)=some u:=hown.cells (g:=g) rfl
   have h:=run_append_grow (P:=P) w t ty e i z ht hi hz ⟨g,0,none⟩ n cap xs hown.1 holds a m c news hl hnews (by omega) (by omega) (growslice_fits (by omega) hbytes)
   rw [hr] at h
   cases h
   exact .inr rfl
theorem Jc {ops:Array Oper} {rest:List Oper} {o:Oper} {a:Act} {Q:Exit->Act->World->Prop} (hgd:o.guard=none) (s x:Operand) (t:TypeId)
 (ho:o.op=.call { callee:=.builtin .append,args:=#[s,x],argTypes:=#[t,t] })
 (base:Nat) (e:TypeId) (i:TypeInfo) (z:Value) (size bytes:Nat) (ht:P.underlying t=some (.slice e)) (hi:P.info? e=some i) (hz:i.zero=some z)
 (hsize:i.size=size) (hby:i.bytes=bytes) (hzs:z.cells.size=size) (hsz:0<size)
 (v:Value) (n:Nat) (xs:List Value) (hs:a.eval s=v) (hown:w.ownsRow base e size v n xs)
 (ad:Addr) (m c:Nat) (news:List Value) (hx:a.eval x=.slice (some ad) m c) (hl:news.length=m*size) (hnews:∀ j u,news[j]? = some u->w.cell? (ad.add j)=some u) (h1:∀ u∈news,u.oneCell'=true)
 (h63:n+m<=maxLen) (hbytes:(n+m)*bytes<=140737488355328) (hbase:base<=w.heap.size) (hm:0<m)
 (h:∀ v' w',w'.ownsRow base e size v' (n+m) (xs++news)->w.grownBy w' v.ownBlock->(v'.ownBlock=v.ownBlock\/v'.ownBlock=some w.heap.size)->wpList P ops Q rest (a.put o.dst v') w'):wpList P ops Q (o::rest) a w:=
 wpList_plain hgd fun K hK=>by
  obtain ⟨v',w',hr,h2,h3,-⟩:=run_append_own (P:=P) w base t o.type e i z size bytes ht hi hz hsize hby hzs hsz v n xs hown ad m c news hl hnews h1 h63 hbytes hbase
  have hb:=VO (P:=P) (w:=w) base t o.type e i z size bytes ht hi hz hsize hby v n xs hown ad m c news hl hnews h1 h63 hbytes hm v' w' hr
  unfold Oper.wp execOp
  simp only [ho,resolve,invoke,builtin,Sem.run_bind,Sem.run_pure,Result.andThen_ok,List.map_toArray,List.map_cons,List.map_nil,hs,hx,hr]
  exact hK _ _ (h v' w' h2 h3 hb)
end
theorem YB {P:Program} {ops:Array Oper} {rest:List Oper} {Q:Exit->Act->World->Prop} {o:Oper} {a:Act} {w:World} {ty:TypeId} {y:Operand} {d b off:Nat} {cs:List Value} {arr:Array Value} {T:TypeId} {fr:Nat × Nat}
 (g:o.guard=none) (e:o.op=.load ty y) (hd:o.dst=some d) (hy:a.eval y=.pointer (some ⟨b,off,none⟩)) (ha:tAg P ty=some true) (hs:tSz P ty=some cs.length)
 (hb:w.heap[b]? = some (.cells arr T fr)) (hc:∀ j v,cs[j]? = some v->arr[off+j]? = some v) (h:wpList P ops Q rest (a.put (some d) (.agg cs.toArray)) w):wpList P ops Q (o::rest) a w:=by
 have hld:=Jw (P:=P) (ty:=ty) (w:=w) (b:=b) (o:=off) (cs:=cs) ha hs (fun j v e=>by rw [Ji hb];exact hc j v e)
 refine wpList_plain g fun K hK=>?_
 have r1:(execOp a.eval o).run P w=.ok (.value (.agg cs.toArray)) w:=by simp [execOp,e,hy,Instr.loadAt,Instr.sureAddr,hld]
 unfold Oper.wp
 rw [r1,Oper.upon_value,hd]
 exact hK _ _ h
theorem jL {P:Program} {ops:Array Oper} {rest:List Oper} {Q:Exit->Act->World->Prop} {o:Oper} {a:Act} {w:World} {ty:TypeId} {t z:Operand} {b off:Nat} {cs arr:List Value} {T:TypeId}
 (g:o.guard=none) (e:o.op=.store ty t z) (hd:o.dst=none) (ht:a.eval t=.pointer (some ⟨b,off,none⟩)) (hz:a.eval z=.agg cs.toArray) (hs:tSz P ty=some cs.length)
 (hb:w.heap[b]? = some (.cells arr.toArray T (0,0))) (hfit:off+cs.length<=arr.length) (h1:∀ c∈cs,c.oneCell'=true)
 (h:∀ w',w'.heap[b]? = some (.cells (arr.take off++cs++arr.drop (off+cs.length)).toArray T (0,0))->w.grownBy w' (some b)->wpList P ops Q rest a w'):wpList P ops Q (o::rest) a w:=by
 have hst:=run_storeCells_at P b off T cs 0 arr.toArray w hb (by simpa using hfit) h1
 simp only [Nat.add_zero] at hst
 refine wpList_plain g fun K hK=>?_
 have r2:(execOp a.eval o).run P w=.ok .skip (w.setRow b (arr.take off++cs++arr.drop (off+cs.length)).toArray):=by
  have hst:Sem.run P (storeCells ⟨b,off,none⟩ cs) w=Result.ok () (w.setRow b (arr.take off++cs++arr.drop (off+cs.length)).toArray):=hst
  simp [execOp,e,ht,hz,Instr.storeAt,Instr.sureAddr,storeVar,jr hs,Value.cells,hst]
 unfold Oper.wp
 rw [r2,Oper.upon_skip,hd]
 exact hK _ _ (h _ (setRow_heap w b _ _ T (0,0) hb) ⟨rfl,rfl,rfl,by simp,fun k _ hk=>setRow_other w b k _ (fun e=>hk (by rw [e]))⟩)
def allM (w:World):Mem:=fun b o=>w.cell? ⟨b,o,none⟩
theorem Zd (w:World):Imm (allM w) w:=fun _ _ _ h=>h
theorem qU {m:Mem} {w:World} (h:Imm m w):Mem.le m (allM w):=fun b o v e=>h b o v e
theorem Zv {P:Program} {f:FuncId} {avs:List AV} {r:Value} (h:FnR P f avs (.v r) []) (w:World) (vs:List Value) (hr:Jq (allM w) je avs vs):
 Calls P f vs.toArray w fun e w'=>e=.returned r/\Below w.heap.size w w':=by
 refine (h w (allM w) vs trivial (Zd w) hr).mono ?_
 rintro e w' ⟨v,m',bl',rfl,hb,-,-,hr⟩
 exact ⟨by rw [Rep.YG hr],hb⟩
theorem QE {P:Program} {f:FuncId} {avs:List AV} {r:AV} (h:FnR P f avs r []) (w:World) (vs:List Value) (hr:Jq (allM w) je avs vs):
 Calls P f vs.toArray w fun e w'=>∃ v,e=.returned v/\Below w.heap.size w w'/\Rep (allM w') je r v:=by
 refine (h w (allM w) vs trivial (Zd w) hr).mono ?_
 rintro e w' ⟨v,m',bl',rfl,hb,hws,hn,hr⟩
 have:bl'=je:=by funext id;exact hn id rfl
 subst this
 exact ⟨v,rfl,hb,hr.mono (qU hws.imm)⟩
theorem Ku {P:Program} {C:World->Prop} {o:Oper} {a:Act} {K:Act->Prop} {f:FuncId} {xs:Array Operand} {tys:Array TypeId} {vs:Array Value} {v:Value}
 (e:o.op=.call { callee:=.value (.func f),args:=xs,argTypes:=tys }) (hc:∀ (args:Array Value) (w:World),Sem.run P (callFunc f args) w=.ok (.enter f args) w) (hv:xs.map a.eval=vs)
 (hC:∀ w,C w->Calls P f vs w fun e w'=>e=.returned v/\C w') (hk:K (a.put o.dst v)):o.quiet P a C K:=
 ⟨v,fun w hw=>by
   have r1:(execOp a.eval o).run P w=.ok (.enter f vs) w:=by subst hv;simp [execOp,e,resolve,invoke,hc,go_sem]
   unfold Oper.quietAt
   rw [r1]
   exact ⟨rfl,hC w hw⟩,hk⟩
theorem qk {P:Program} {id:Nat} {Q:Exit->Act->World->Prop} {a:Act} {w:World} {l:List Oper} (hm:P.follows .mixedOrders=true) (hB:Region.lexB .any l.toArray=true)
 (h:wpQuiet P l.toArray (fun w'=>Below w.heap.size w w') (fun a'=>∀ w',Below w.heap.size w w'->Q .normal a' w') l a):(Code.region id l.toArray true).wp P Q a w:=
 wp_region_quiet (C:=fun w'=>Below w.heap.size w w') hm hB ((Below.refl _ w).drew) (by simpa using h)
theorem yG {m:Mem} {W W':World} {b:Nat} (h:Imm m W) (g:W.grownBy W' (some b)) (hm:∀ o,m b o=none):Imm m W':=by
 intro b' o v e
 have h1:=h b' o v e
 have hne:b'≠b:=fun e2=>by subst e2;rw [hm] at e;cases e
 have hlt:b'<W.heap.size:=by
  rcases Nat.lt_or_ge b' W.heap.size with h | h
  ·exact h
  ·simp [World.cell?,Array.getElem?_eq_none h] at h1
 rw [<- h1]
 unfold World.cell?
 rw [g.block b' hlt (fun e=>hne (Option.some.inj e))]
theorem Yn {P:Program} {C:World->Prop} {o:Oper} {a:Act} {K:Act->Prop} {ty:TypeId} {y:Operand} {ad:Addr} {v:Value}
 (e:o.op=.load ty y) (hy:a.eval y=.pointer (some ad)) (ha:tAg P ty=some false) (hC:∀ w,C w->w.cell? ad=some v) (hk:K (a.put o.dst v)):o.quiet P a C K:=
 ⟨v,fun w hw=>by
   have hld:=yS (P:=P) (ty:=ty) (w:=w) (a:=ad) (v:=v) ha (hC w hw)
   have r1:(execOp a.eval o).run P w=.ok (.value v) w:=by simp [execOp,e,hy,Instr.loadAt,Instr.sureAddr,hld]
   unfold Oper.quietAt
   rw [r1]
   exact ⟨rfl,rfl⟩,hk⟩
section
variable {P:Program}
theorem Mn {l:List Nat} {i:Nat} (h:i∈l):(l.filter (fun j=>j != i)).length<l.length:=by
 rw [List.length_filter_lt_length_iff_exists]
 exact ⟨i,h,by simp⟩
theorem mu {Q:Exit->Act->World->Prop} {ops:Array Oper} (I:(Nat->Bool)->Act->World->Prop)
 (hd:∀ (i:Nat) (o:Oper),ops[i]? = some o->∀ e∈o.after,Region.binds .any e=true->e.on<i)
 (hs:∀ f a w i o,I f a w->ops[i]? = some o->f i=false->(∀ e∈o.after,Region.binds .any e=true->f e.on=true)->wpOp P ops Q i (I (fun j=>if j=i then true else f j)) a w)
 (he:∀ f a w,I f a w->(∀ i,i<ops.size->f i=true)->Q .normal a w):∀ (fuel:Nat) (listed:Array Bool) (a:Act) (w:World),listed.size=ops.size->I (fun j=>listed.getD j false) a w->
   (∃ l:List Nat,l.length<=fuel/\∀ j,j<ops.size->listed.getD j false=false->j∈l)->wpAny P .any ops Q fuel listed a w:=by
 have inb:∀ (listed:Array Bool) (j:Nat) (x y:Bool),j<listed.size->listed.getD j x=listed.getD j y:=fun listed j x y h=>by
  simp only [Array.getD_eq_getD_getElem?,Array.getElem?_eq_getElem h,Option.getD_some]
 have all:∀ listed:Array Bool,listed.size=ops.size->Region.ready .any ops listed=[]->∀ i,i<ops.size->listed.getD i false=true:=by
  intro listed hz h i
  induction i using Nat.strongRecOn with
  | ind i ih=>
    intro hi
    cases hl:listed.getD i false with
    | true=>rfl
    | false=>
      have:i∈Region.ready .any ops listed:=by
       unfold Region.ready
       rw [List.mem_filter]
       refine ⟨List.mem_range.2 hi,?_⟩
       rw [inb listed i true false (by omega),hl]
       obtain ⟨o,ho⟩:∃ o,ops[i]? = some o:=⟨_,Array.getElem?_eq_getElem hi⟩
       rw [ho]
       simp only [Bool.not_false,Option.map_some,Option.getD_some,Bool.true_and,Array.all_eq_true_iff_forall_mem,Bool.or_eq_true]
       intro e hm
       cases hbd:Region.binds .any e with
       | false=>exact .inl (by simp)
       | true=>exact .inr (ih e.on (hd i o ho e hm hbd) (Nat.lt_trans (hd i o ho e hm hbd) hi))
      rw [h] at this
      cases this
 intro fuel
 induction fuel with
 | zero=>
   intro listed a w hz hI ⟨l,hl,hc⟩
   have hall:∀ j,j<ops.size->listed.getD j false=true:=fun j hj=>by
    cases e:listed.getD j false with
    | true=>rfl
    | false=>
      have:=hc j hj e
      have h0:l=[]:=List.length_eq_zero_iff.1 (by omega)
      rw [h0] at this
      cases this
   refine ⟨?_,he _ a w hI hall⟩
   unfold Region.ready
   rw [List.filter_eq_nil_iff]
   intro i hi
   have hi:=List.mem_range.1 hi
   rw [inb listed i true false (by omega),hall i hi]
   simp
 | succ fuel ih=>
   intro listed a w hz hI ⟨l,hl,hc⟩
   refine ⟨fun h=>he _ a w hI (all listed hz h),fun i hi=>?_⟩
   unfold Region.ready at hi
   rw [List.mem_filter] at hi
   obtain ⟨h1,h2⟩:=hi
   have h1:=List.mem_range.1 h1
   obtain ⟨o,ho⟩:∃ o,ops[i]? = some o:=⟨_,Array.getElem?_eq_getElem h1⟩
   rw [ho,inb listed i true false (by omega)] at h2
   simp only [Option.map_some,Option.getD_some,Bool.and_eq_true,Bool.not_eq_true',Array.all_eq_true_iff_forall_mem,Bool.or_eq_true] at h2
   have hf:(fun j=>(listed.setIfInBounds i true).getD j false)=fun j=>if j=i then true else listed.getD j false:=by
    funext j
    simp only [Array.getD_eq_getD_getElem?]
    by_cases e:j=i
    ·subst e
     rw [Array.getElem?_setIfInBounds_self_of_lt (by omega)];simp
    ·rw [Array.getElem?_setIfInBounds_ne (fun h=>e h.symm)];simp [e]
   refine wpOp_mono ?_ (hs _ a w i o hI ho h2.1 fun e he' hb=>?_)
   ·intro a' w' hI'
    refine ih _ a' w' (by simpa using hz) (by rw [hf];exact hI') ⟨l.filter (fun j=>j != i),?_,fun j hj hju=>?_⟩
    ·have:=Mn (hc i h1 h2.1);omega
    ·rw [congrFun hf j] at hju
     by_cases e:j=i
     ·rw [if_pos e] at hju;cases hju
     ·rw [if_neg e] at hju
      rw [List.mem_filter]
      exact ⟨hc j hj hju,by simpa using e⟩
   ·rcases h2.2 e he' with h | h
    ·rw [hb] at h;simp at h
    ·exact h
theorem QU {id:Nat} {Q:Exit->Act->World->Prop} {ops:Array Oper} {a:Act} {w:World} (hm:P.follows .mixedOrders=true) (I:(Nat->Bool)->Act->World->Prop)
 (hd:∀ (i:Nat) (o:Oper),ops[i]? = some o->∀ e∈o.after,Region.binds .any e=true->e.on<i)
 (h0:I (fun _=>false) a w.drew)
 (hs:∀ f a w i o,I f a w->ops[i]? = some o->f i=false->(∀ e∈o.after,Region.binds .any e=true->f e.on=true)->wpOp P ops Q i (I (fun j=>if j=i then true else f j)) a w)
 (he:∀ f a w,I f a w->(∀ i,i<ops.size->f i=true)->Q .normal a w):(Code.region id ops true).wp P Q a w:=by
 refine wp_region_any hm (mu I hd hs he _ _ a _ (by simp) ?_ ⟨List.range ops.size,by simp,fun j hj _=>List.mem_range.2 hj⟩)
 have:(fun j=>(Array.replicate ops.size false).getD j false)=fun _=>false:=by
  funext j
  simp only [Array.getD_eq_getD_getElem?,Array.getElem?_replicate]
  split <;> rfl
 rw [this]
 exact h0
variable {ops:Array Oper} {i:Nat} {o:Oper} {Q:Exit->Act->World->Prop} {K:Act->World->Prop} {a:Act} {w:World}
theorem ze (hi:ops[i]? = some o) (g:o.guard=none) (h:o.wp P a w K Q):wpOp P ops Q i K a w:=by
 unfold wpOp
 rw [hi]
 simp only [Region.wanted,g,if_true]
 exact .inl h
theorem jfG {f:FuncId} {xs:Array Operand} {tys:Array TypeId} {vs:Array Value} (e:o.op=.call { callee:=.value (.func f),args:=xs,argTypes:=tys }) (hc:∀ (args:Array Value) (w:World),Sem.run P (callFunc f args) w=.ok (.enter f args) w)
 (hv:xs.map a.eval=vs) (h:Calls P f vs w fun e w'=>∃ v,e=.returned v/\K (a.put o.dst v) w'):o.wp P a w K Q:=by
 have r1:(execOp a.eval o).run P w=.ok (.enter f vs) w:=by subst hv;simp [execOp,e,resolve,invoke,hc,go_sem]
 unfold Oper.wp
 rw [r1]
 refine Calls.mono h ?_
 rintro _ w' ⟨v,rfl,hk⟩
 exact hk
theorem Pf {T:TypeId} {z:Value} (e:o.op=.alloc T) (hz:∀ w,Sem.run P (zeroValue T) w=.ok z w) (hk:K (a.put o.dst (.pointer (some ⟨w.heap.size,0,none⟩))) (w.alloc (.cells z.cells T))):o.wp P a w K Q:=by
 have r1:(execOp a.eval o).run P w=.ok (.value (.pointer (some ⟨w.heap.size,0,none⟩))) (w.alloc (.cells z.cells T)):=by simp [execOp,e,Instr.alloc,hz,newVar,newRow]
 unfold Oper.wp
 rw [r1]
 exact hk
theorem wo {ty:TypeId} {t z:Operand} {b:Nat} {cs:List Value} {arr:Array Value} {T:TypeId} (e:o.op=.store ty t z) (ht:a.eval t=.pointer (some ⟨b,0,none⟩)) (hz:a.eval z=.agg cs.toArray) (hs:tSz P ty=some cs.length)
 (hb:w.heap[b]? = some (.cells arr T (0,0))) (hl:arr.size=cs.length) (h1:∀ c∈cs,c.oneCell'=true)
 (hk:∀ w',w'.heap[b]? = some (.cells cs.toArray T (0,0))->w.grownBy w' (some b)->K (a.put o.dst undef) w'):o.wp P a w K Q:=by
 have hst:=run_storeCells_at P b 0 T cs 0 arr w hb (by omega) h1
 have hnil:arr.toList.drop cs.length=[]:=List.drop_eq_nil_of_le (by simp [hl])
 simp only [Nat.add_zero,Nat.zero_add,List.take_zero,List.nil_append,hnil,List.append_nil] at hst
 have r2:(execOp a.eval o).run P w=.ok .skip (w.setRow b cs.toArray):=by
  have hst:Sem.run P (storeCells ⟨b,0,none⟩ cs) w=Result.ok () (w.setRow b cs.toArray):=hst
  simp [execOp,e,ht,hz,Instr.storeAt,Instr.sureAddr,storeVar,jr hs,Value.cells,hst]
 unfold Oper.wp
 rw [r2]
 exact hk _ (setRow_heap w b arr cs.toArray T (0,0) hb) ⟨rfl,rfl,rfl,by simp,fun k _ hk=>setRow_other w b k _ (fun e=>hk (by rw [e]))⟩
end
theorem ev {a:Act} {t:Nat} {v:Value} (h:a.tmps[t]? = some v):a.eval (.tmp t)=v:=by
 simp [Act.eval,h]
theorem qG {a:Act} {d j:Nat} {v:Value} (h:j≠d):(a.put (some d) v).tmps[j]? = a.tmps[j]? := Array.getElem?_setIfInBounds_ne (fun e=>h e.symm)
theorem put_eq {a:Act} {d:Nat} {v:Value} (h:d<a.tmps.size):(a.put (some d) v).tmps[d]? = some v:=Array.getElem?_setIfInBounds_self_of_lt h
theorem VD {a:Act} {d:Nat} {v:Value}:(a.put (some d) v).tmps.size=a.tmps.size:=by simp [Act.put]
def Pure (n ja js i:Nat):Prop:=i<n/\i≠ja/\i≠js
structure TI (n ja js da:Nat) (ds:Nat->Nat) (val:Nat->Value) (T:TypeId) (V:List Value) (w0:World) (a0:Act) (f:Nat->Bool) (a:Act) (w:World) (b:Nat):Prop where
 sz:a.tmps.size=a0.tmps.size
 df:a.defers=a0.defers
 bel:Below w0.heap.size w0 w
 Jp:∀ i,Pure n ja js i->f i=true->a.tmps[ds i]? = some (val i)
 rest:∀ j,(∀ i,Pure n ja js i->ds i≠j)->j≠da->a.tmps[j]? = a0.tmps[j]?
 ord:f js=true->f ja=true
 box:f ja=true->a.tmps[da]? = some (.pointer (some ⟨b,0,none⟩))/\w0.heap.size<=b/\b<w.heap.size/\∃ cs,w.heap[b]? = some (.cells cs T (0,0))/\cs.size=V.length/\(f js=true->cs=V.toArray)
theorem TI.world {n ja js da ds val T V w0 a0 f a w b} (h:TI n ja js da ds val T V w0 a0 f a w b) {w':World} (hb:Below w.heap.size w w'):TI n ja js da ds val T V w0 a0 f a w' b:=
 ⟨h.sz,h.df,h.bel.trans (hb.mono h.bel.size),h.Jp,h.rest,h.ord,fun e=>by
   obtain ⟨h1,h2,h3,cs,h4,h5⟩:=h.box e
   exact ⟨h1,h2,Nat.lt_of_lt_of_le h3 hb.size,cs,(hb.block _ h3).trans h4,h5⟩⟩
theorem wD {P : Program} {id:Nat} {Q:Exit->Act->World->Prop} {ops:Array Oper} {a0:Act} {w:World} (hm:P.follows .mixedOrders=true)
 (n ja js jv da:Nat) (ds:Nat->Nat) (val:Nat->Value) (T ty:TypeId) (z:Value) (V:List Value) (hn:ops.size=n)
 (hback:∀ (i:Nat) (o:Oper),ops[i]? = some o->∀ e∈o.after,Region.binds .any e=true->e.on<i)
 (hp:∀ i o,Pure n ja js i->ops[i]? = some o->o.guard=none/\o.dst=some (ds i)/\ds i<a0.tmps.size/\∀ a,(∀ e∈o.after,Region.binds .any e=true->e.on≠ja->e.on≠js->a.tmps[ds e.on]? = some (val e.on))->
   (∀ j,(∀ i,Pure n ja js i->ds i≠j)->j≠da->a.tmps[j]? = a0.tmps[j]?)->∀ w',Below w.heap.size w w'->o.quietAt P a (fun w''=>Below w'.heap.size w' w'') w' (val i))
 (hinj:∀ i i',Pure n ja js i->Pure n ja js i'->ds i=ds i'->i=i') (hda:∀ i,Pure n ja js i->ds i≠da) (hdl:da<a0.tmps.size)
 (ha:∃ o,ops[ja]? = some o/\o.guard=none/\o.op=.alloc T/\o.dst=some da) (hz:∀ w,Sem.run P (zeroValue T) w=.ok z w) (hzV:z.cells.size=V.length)
 (hs:∃ o,ops[js]? = some o/\o.guard=none/\o.op=.store ty (.tmp da) (.tmp (ds jv))/\o.dst=none/\∀ f:Nat->Bool,(∀ e∈o.after,Region.binds .any e=true->f e.on=true)->f ja=true/\f jv=true)
 (hjv:Pure n ja js jv) (hjas:ja≠js) (hv:val jv=.agg V.toArray) (hVs:tSz P ty=some V.length) (h1:∀ c∈V,c.oneCell'=true)
 (hq:∀ a w' b,Below w.heap.size w w'->w.heap.size<=b->b<w'.heap.size->w'.heap[b]? = some (.cells V.toArray T (0,0))->a.defers=a0.defers->a.tmps.size=a0.tmps.size->(∀ i,Pure n ja js i->a.tmps[ds i]? = some (val i))->a.tmps[da]? = some (.pointer (some ⟨b,0,none⟩))->
   (∀ j,(∀ i,Pure n ja js i->ds i≠j)->j≠da->a.tmps[j]? = a0.tmps[j]?)->Q .normal a w'):(Code.region id ops true).wp P Q a0 w:=by
 have hdr:Below w.heap.size w w.drew:=(Below.refl _ w).drew
 refine QU hm (fun f a w'=>∃ b,TI n ja js da ds val T V w a0 f a w' b) hback ⟨0,rfl,rfl,hdr,by simp,fun _ _ _=>rfl,by simp,by simp⟩ ?_ ?_
 ·rintro f a w1 i o ⟨b,S⟩ ho hf hdep
  have hi:i<n:=by rw [<- hn];exact (Array.getElem?_eq_some_iff.1 ho).1
  by_cases ea:i=ja
  ·subst ea
   obtain ⟨o',q1,q2,q3,q4⟩:=ha
   rw [q1] at ho;cases ho
   have njs:f js=true->False:=fun h=>by have:=S.ord h;rw [hf] at this;cases this
   refine ze q1 q2 (Pf q3 hz ?_)
   rw [q4]
   have hb:Below w1.heap.size w1 (w1.alloc (.cells z.cells T)):=(Below.refl _ _).alloc (Nat.le_refl _) _
   have S1:=S.world hb
   refine ⟨w1.heap.size,VD.trans S1.sz,S1.df,S1.bel,fun k hk h=>?_,fun j h1 h2=>(qG h2).trans (S1.rest j h1 h2),fun h=>?_,fun _=>⟨put_eq (by rw [S.sz];exact hdl),S.bel.size,by simp,z.cells,Jh _ _ _ rfl,hzV,fun h=>?_⟩⟩
   ·rw [qG (hda k hk)]
    rw [if_neg hk.2.1] at h
    exact S1.Jp k hk h
   ·exact if_pos rfl
   ·rw [if_neg (fun e=>hjas e.symm)] at h;exact (njs h).elim
  ·by_cases es:i=js
   ·subst es
    obtain ⟨o',q1,q2,q3,q4,q5⟩:=hs
    rw [q1] at ho;cases ho
    obtain ⟨fa,fv⟩:=q5 f hdep
    obtain ⟨g1,g2,g3,cs,g4,g5,-⟩:=S.box fa
    refine ze q1 q2 (wo q3 (ev g1) ((ev (S.Jp jv hjv fv)).trans hv) hVs g4 g5 h1 fun w' hh hg=>?_)
    rw [q4]
    refine ⟨b,S.sz,S.df,S.bel.grown hg S.bel.size (fun k e=>by have:=Option.some.inj e;omega),fun k hk h=>?_,S.rest,fun _=>?_,fun _=>⟨g1,g2,Nat.lt_of_lt_of_le g3 hg.size,_,hh,by simp,fun _=>rfl⟩⟩
    ·rw [if_neg hk.2.2] at h
     exact S.Jp k hk h
    ·rw [if_neg hjas];exact fa
   ·have hpi:Pure n ja js i:=⟨hi,ea,es⟩
    obtain ⟨q2,q4,q5,q6⟩:=hp i o hpi ho
    have hQ:=q6 a (fun e he hb h1 h2=>by
     have hlt:=hback i o ho e he hb
     exact S.Jp e.on ⟨by omega,h1,h2⟩ (hdep e he hb)) S.rest w1 S.bel
    refine ze ho q2 ?_
    have key:∀ w2,Below w1.heap.size w1 w2->∃ b,TI n ja js da ds val T V w a0 (fun j=>if j=i then true else f j) (a.put (some (ds i)) (val i)) w2 b:=fun w2 hb=>by
     have S1:=S.world hb
     refine ⟨b,VD.trans S1.sz,S1.df,S1.bel,fun k hk h=>?_,fun j h1 h2=>(qG (fun e=>h1 i hpi e.symm)).trans (S1.rest j h1 h2),fun h=>?_,fun h=>?_⟩
     ·by_cases ek:k=i
      ·subst ek;exact put_eq (by rw [S.sz];exact q5)
      ·rw [if_neg ek] at h
       rw [qG (fun e=>ek (hinj k i hk hpi e))]
       exact S1.Jp k hk h
     ·rw [if_neg (fun e=>es e.symm)] at h
      rw [if_neg (fun e=>ea e.symm)];exact S1.ord h
     ·rw [if_neg (fun e=>ea e.symm)] at h
      rw [qG (fun e=>hda i hpi e.symm),if_neg (fun e=>es e.symm)]
      exact S1.box h
    rw [<- q4] at key
    unfold Oper.quietAt at hQ
    unfold Oper.wp
    generalize (execOp a.eval o).run P w1=r at hQ ⊢
    cases r with
    | ok nx w'=>
      cases nx <;> simp only [Oper.quietUpon] at hQ <;> simp only [Oper.upon]
      case value u=>
       obtain ⟨e1,e2⟩:=hQ
       subst e1;subst e2
       exact key _ (Below.refl _ _)
      case skip=>
       obtain ⟨e1,e2⟩:=hQ
       subst e1
       rw [<- e2]
       exact key _ (Below.refl _ _)
      case enter f args=>
       obtain ⟨e1,hc⟩:=hQ
       subst e1
       exact hc.mono fun e w'' ⟨he,hw''⟩=>by subst he;exact key _ hw''
    | halt x w'=>simp only [Oper.quietUpon] at hQ
 ·rintro f a w1 ⟨b,S⟩ hall
  rw [hn] at hall
  have hja:ja<n:=by obtain ⟨o,q,-⟩:=ha;rw [<- hn];exact (Array.getElem?_eq_some_iff.1 q).1
  have hjs:js<n:=by obtain ⟨o,q,-⟩:=hs;rw [<- hn];exact (Array.getElem?_eq_some_iff.1 q).1
  obtain ⟨g1,g2,g3,cs,g4,-,g6⟩:=S.box (hall ja hja)
  exact hq a w1 b S.bel g2 g3 (g6 (hall js hjs) ▸ g4) S.df S.sz (fun i hi=>S.Jp i hi (hall i hi.1)) g1 S.rest
theorem MS:∀ (wr:List (Nat × Value)) (t0 tm:Array Value),tm.size=t0.size->(wr.map Prod.fst).Nodup->(∀ q∈wr,tm[q.1]? = some q.2)->(∀ q∈wr,q.1<t0.size)->(∀ j,j∉wr.map Prod.fst->tm[j]? = t0[j]?)->tm=wr.foldl (fun t p=>t.setIfInBounds p.1 p.2) t0
 | [],t0,tm,_,_,_,_,hr=>Array.ext_getElem? fun j=>hr j (by simp)
 | p :: wr,t0,tm,hs,hn,h,hl,hr=>by
   rw [List.map_cons,List.nodup_cons] at hn
   refine MS wr (t0.setIfInBounds p.1 p.2) tm (by simpa using hs) hn.2 (fun q hq=>h q (by simp [hq])) (fun q hq=>by simpa using hl q (by simp [hq])) fun j hj=>?_
   by_cases e:j=p.1
   ·subst e
    rw [h p (by simp),Array.getElem?_setIfInBounds_self_of_lt (hl p (by simp))]
   ·rw [Array.getElem?_setIfInBounds_ne (fun e2=>e e2.symm)]
    exact hr j (by rw [List.map_cons,List.mem_cons];rintro (h | h);exact e h;exact hj h)
theorem KX {P:Program} {o:Oper} {a:Act} {C:World->Prop} {w:World} {v:Value} (h:(execOp a.eval o).run P w=.ok (.value v) w):o.quietAt P a C w v:=by
 unfold Oper.quietAt
 rw [h]
 exact ⟨rfl,rfl⟩
theorem qz {P:Program} {C:World->Prop} {o:Oper} {a:Act} {ty:TypeId} {y:Operand} {ad:Addr} {v:Value} {w:World}
 (e:o.op=.load ty y) (hy:a.eval y=.pointer (some ad)) (ha:tAg P ty=some false) (hC:w.cell? ad=some v):o.quietAt P a C w v:=
 KX (by
  have hld:=yS (P:=P) (ty:=ty) (w:=w) (a:=ad) (v:=v) ha hC
  simp [execOp,e,hy,Instr.loadAt,Instr.sureAddr,hld])
theorem jcR {P:Program} {C:World->Prop} {o:Oper} {a:Act} {w:World} {f:FuncId} {xs:Array Operand} {tys:Array TypeId} {vs:Array Value} {v:Value}
 (e:o.op=.call { callee:=.value (.func f),args:=xs,argTypes:=tys }) (hc:∀ (args:Array Value) (w:World),Sem.run P (callFunc f args) w=.ok (.enter f args) w) (hv:xs.map a.eval=vs)
 (h:Calls P f vs w fun e w'=>e=.returned v/\C w'):o.quietAt P a C w v:=by
 have r1:(execOp a.eval o).run P w=.ok (.enter f vs) w:=by subst hv;simp [execOp,e,resolve,invoke,hc,go_sem]
 unfold Oper.quietAt
 rw [r1]
 exact ⟨rfl,h⟩
def injB (n ja js:Nat) (ds:Nat->Nat):Bool:=(List.range n).all fun i=>(List.range n).all fun j=>i==ja||i==js||j==ja||j==js||ds i != ds j||i==j
theorem jet {n ja js:Nat} {ds:Nat->Nat} (h:injB n ja js ds=true):∀ i i',Pure n ja js i->Pure n ja js i'->ds i=ds i'->i=i':=by
 intro i j hi hj e
 have h1:=List.all_eq_true.1 h i (List.mem_range.2 hi.1)
 have h2:=List.all_eq_true.1 h1 j (List.mem_range.2 hj.1)
 simp only [Bool.or_eq_true,beq_iff_eq,bne_iff_ne,ne_eq] at h2
 rcases h2 with ((((h2 | h2) | h2) | h2) | h2) | h2
 ·exact absurd h2 hi.2.1
 ·exact absurd h2 hi.2.2
 ·exact absurd h2 hj.2.1
 ·exact absurd h2 hj.2.2
 ·exact absurd e h2
 ·exact h2
def AllV (tm:Array Value):List (Nat × Value)->Prop
 | []=>True
 | p::wr=>tm[p.1]? = some p.2/\AllV tm wr
theorem AllV.mem {tm:Array Value}:∀ {wr:List (Nat × Value)},AllV tm wr->∀ q∈wr,tm[q.1]? = some q.2
 | p::wr,h,q,hq=>by
   rcases List.mem_cons.1 hq with e | e
   ·subst e;exact h.1
   ·exact AllV.mem h.2 q e
theorem Pg:∀ {l:List Nat},kC l=true->l.Nodup
 | [],_=>List.nodup_nil
 | x::l,h=>by
   simp only [kC,Bool.and_eq_true,Bool.not_eq_true'] at h
   rw [List.nodup_cons]
   refine ⟨fun hm=>?_,Pg h.2⟩
   have:=List.contains_iff_mem.2 hm
   rw [h.1] at this
   cases this
theorem zM (wr:List (Nat × Value)) (t0 tm:Array Value) (hs:tm.size=t0.size) (hn:kC (wr.map Prod.fst)=true) (hl:(wr.map Prod.fst).all (fun j=>Nat.blt j t0.size)=true) (h:AllV tm wr)
 (hr:∀ j,j∉wr.map Prod.fst->tm[j]? = t0[j]?):tm=wr.foldl (fun t p=>t.setIfInBounds p.1 p.2) t0:=
 MS wr t0 tm hs (Pg hn) h.mem (fun q hq=>by
  have:=List.all_eq_true.1 hl q.1 (List.mem_map.2 ⟨q,hq,rfl⟩)
  exact Nat.le_of_ble_eq_true this) hr
theorem qT:Tryz.prog.follows .mixedOrders=true:=by kernel_rfl
def DB (bd:Nat) (hdr:Value) (off:Int) (W:World):Prop:=W.heap[bd]? = some (.cells #[hdr,.int .i64 off] 258 (0,0))
theorem adv (hdr:Value) (off off':Int) (bd:Nat) (W:World) (hb:DB bd hdr off W):
 Calls Tryz.prog 187 #[.pointer (some ⟨bd,0,none⟩),.int .i64 off',.int .i64 0] W fun e W'=>e=.returned (.tuple #[])/\DB bd hdr off' W'/\W.grownBy W' (some bd):=by
 have hb:W.heap[bd]? = some (.cells #[hdr,.int .i64 off] 258 (0,0)):=hb
 have c1:W.cell? ⟨bd,1,none⟩=some (.int .i64 off):=jD hb 1 rfl
 have z1:=qp hb 1
 have S:Hid (DB bd hdr off' (W.setCell ⟨bd,1,none⟩ (.int .i64 off'))/\W.grownBy (W.setCell ⟨bd,1,none⟩ (.int .i64 off')) (some bd)):=
  ⟨wv hb 1 _ _ rfl,⟨rfl,rfl,rfl,by rw [size_set];exact Nat.le_refl _,fun k _ hk=>heap_set _ _ _ _ (fun e=>hk (by rw [e]))⟩⟩
 clear hb
 go_enter Tryz.func187,Tryz.ntmps187
 go_wp2
 go_end0
 exact ⟨rfl,S.out⟩
def deP (e:Int):List PanicEntry:=[{ v:=.iface 275 (.agg #[.int .i64 e]),recovered:=false }]
theorem WB (off' e:Int) (p:Addr) (W:World) (he:e≠0):
 Calls Tryz.prog 187 #[.pointer (some p),.int .i64 off',.int .i64 e] W fun en W'=>en=.panicked (deP e)/\W'=W:=by
 have hB:(e != 0)=true:=by rw [bne_iff_ne];exact he
 go_enter Tryz.func187,Tryz.ntmps187
 go_wp2
 exact ⟨rfl,rfl,rfl⟩
theorem ZI {W W1 W2:World} {b:Nat} (h1:Below W.heap.size W W1) (h2:W1.grownBy W2 (some b)):W.grownBy W2 (some b):=
 ⟨h2.os.trans h1.os,h2.tape.trans h1.tape,h2.output.trans h1.output,Nat.le_trans h1.size h2.size,fun k hk hn=>(h2.block k (Nat.lt_of_lt_of_le hk h1.size) hn).trans (h1.block k hk)⟩
theorem Jb {W W1 W2:World} {b:Option Nat} (h1:W.grownBy W1 b) (h2:W1.grownBy W2 b):W.grownBy W2 b:=
 ⟨h2.os.trans h1.os,h2.tape.trans h1.tape,h2.output.trans h1.output,Nat.le_trans h1.size h2.size,fun k hk hn=>(h2.block k (Nat.lt_of_lt_of_le hk h1.size) hn).trans (h1.block k hk hn)⟩
structure BF (m:Mem) (buf:List UInt8) (a:Option Addr) (n c:Nat) (bd:Nat) (W:World):Prop where
 imm:Imm m W
 rep:Rep m je (jW buf) (.slice a n c)
 off:∀ o,m bd o=none
 lt:bd<W.heap.size
theorem BF.grown {m buf a n c bd W W'} (h:BF m buf a n c bd W) (g:W.grownBy W' (some bd)):BF m buf a n c bd W':=⟨yG h.imm g h.off,h.rep,h.off,Nat.lt_of_lt_of_le h.lt g.size⟩
theorem qe {m:Mem} {bl:Names} {l:List AV} {v:Value} (h:Rep m bl (.tup l) v):∃ vs,v=.tuple vs.toArray/\Jq m bl l vs:=by
 cases h with
 | tup h=>exact ⟨_,rfl,h⟩
theorem yN {w w':World} {r:Option Nat} (h:Below w.heap.size w w'):w.grownBy w' r:=⟨h.os,h.tape,h.output,h.size,fun k hk _=>h.block k hk⟩
def PS {α β:Type} (val:α->Value) (hdr:Value) (bd:Nat) (W:World) (k:α->Int->Option (Int ⊕ β)) (res:Int ⊕ β) (e:Ending) (W':World):Prop:=
 (∃ cc,res=.inl cc/\e=.panicked (deP cc)/\cc≠0/\W.grownBy W' (some bd))\/(∃ x o',k x o'=some res/\e=.returned (val x)/\DB bd hdr o' W'/\W.grownBy W' (some bd))
theorem Uw {α β:Type} {r:Option (α × Int × Int)} {k:α->Int->Option (Int ⊕ β)} {res:Int ⊕ β} (h:JH (rdR r) k=some res):∃ x o e,r=some (x,o,e)/\((e=0/\k x o=some res)\/(e≠0/\res=.inl e)):=by
 match r,h with
 | some (x,o,e),h=>
   refine ⟨x,o,e,rfl,?_⟩
   rcases Decidable.em (e=0) with h0 | h0
   ·simp only [rdR,JH,h0,if_true] at h
    exact .inl ⟨h0,h⟩
   ·simp only [rdR,JH,h0,if_false] at h
    exact .inr ⟨h0,(Option.some.inj h).symm⟩
set_option maxHeartbeats 2000000 in
theorem dint {m:Mem} {buf:List UInt8} {a:Option Addr} {n c:Nat} {bd:Nat} {off:Int} {W:World} {β:Type} {k:Int->Int->Option (Int ⊕ β)} {res:Int ⊕ β} (F:BF m buf a n c bd W) (hb:DB bd (.slice a n c) off W) (h:JH (rdR (jd buf off)) k=some res):
 Calls Tryz.prog 169 #[.pointer (some ⟨bd,0,none⟩)] W (PS (fun x:Int=>.int .i64 x) (.slice a n c) bd W k res):=by
 obtain ⟨x,off',e,h,hk⟩:=Uw h
 have hb:W.heap[bd]? = some (.cells #[.slice a n c,.int .i64 off] 258 (0,0)):=hb
 have f0:∀ w',Below W.heap.size W w'->w'.cell? ⟨bd,0,none⟩=some (.slice a n c):=fun w' hw=>jD ((hw.block _ F.lt).trans hb) 0 rfl
 have f1:∀ w',Below W.heap.size W w'->w'.cell? ⟨bd,1,none⟩=some (.int .i64 off):=fun w' hw=>jD ((hw.block _ F.lt).trans hb) 1 rfl
 have e114:=Tryz.call114
 have e187:=Tryz.call187
 have hc:FnR Tryz.prog 114 [jW buf,.v (.int .i64 off)] (.tup [.v (.int .i64 x),.v (.int .i64 off'),.v (.int .i64 e)]) []:=jgx.ok (buf,off,()) [jW buf,.v (.int .i64 off)] ((x,off',e):Int × Int × Int) ⟨rfl,rfl,trivial⟩ h
 have kc:∀ w',Below W.heap.size W w'->Calls Tryz.prog 114 #[.slice a n c,.int .i64 off] w' fun en w''=>en=.returned (.tuple #[.int .i64 x,.int .i64 off',.int .i64 e])/\Below W.heap.size W w'':=fun w' hw=>by
  refine (QE hc w' [.slice a n c,.int .i64 off] (.cons (F.rep.mono (qU (F.imm.below hw))) (.cons .v .nil))).mono ?_
  rintro e1 w'' ⟨v,rfl,hb2,hrep⟩
  obtain ⟨vs,rfl,hvs⟩:=qe hrep
  have:vs=[.int .i64 x,.int .i64 off',.int .i64 e]:=Jz (l:=[.int .i64 x,.int .i64 off',.int .i64 e]) hvs
  subst this
  exact ⟨rfl,hw.trans (hb2.mono hw.size)⟩
 have HB:Hid (_/\_):=⟨hb,F.lt⟩
 clear hb hc
 go_enter Tryz.func169,Tryz.ntmps169
 go_wp2
 refine qk qT (by kernel_rfl) ?_
 iterate 3 (go_big_quiet_want;go_big_quiet_op;first | go_big_quiet_on | (refine ⟨_,fun _ _=>rfl,?_⟩;go_big_quiet_on))
 go_big_quiet_want
 refine Yn (ad:=⟨bd,0,none⟩) (v:=.slice a n c) rfl rfl (by kernel_rfl) (fun w' hw=>f0 w' hw) ?_
 simp only [Act.put,List.setIfInBounds_toArray,List.set_cons_succ,List.set_cons_zero]
 go_big_quiet_on
 iterate 3 (go_big_quiet_want;go_big_quiet_op;first | go_big_quiet_on | (refine ⟨_,fun _ _=>rfl,?_⟩;go_big_quiet_on))
 go_big_quiet_want
 refine Yn (ad:=⟨bd,1,none⟩) (v:=.int .i64 off) rfl rfl (by kernel_rfl) (fun w' hw=>f1 w' hw) ?_
 simp only [Act.put,List.setIfInBounds_toArray,List.set_cons_succ,List.set_cons_zero]
 go_big_quiet_on
 go_big_quiet_want
 refine Ku (f:=114) (xs:=#[.tmp 10,.tmp 14]) (tys:=#[24,3]) (vs:=#[.slice a n c,.int .i64 off]) (v:=.tuple #[.int .i64 x,.int .i64 off',.int .i64 e]) rfl e114 (by simp [Act.eval]) (fun w' hw'=>kc w' hw') ?_
 simp only [Act.put,List.setIfInBounds_toArray,List.set_cons_succ,List.set_cons_zero]
 go_big_quiet_on
 iterate 7 (go_big_quiet_want;go_big_quiet_op;first | go_big_quiet_on | (refine ⟨_,fun _ _=>rfl,?_⟩;go_big_quiet_on))
 refine wpQuiet_nil ?_
 intro W1 hW1
 have D1:DB bd (.slice a n c) off W1:=(hW1.block _ HB.out.2).trans HB.out.1
 clear f0 f1 kc
 rcases hk with ⟨rfl,hk⟩ | ⟨he,hk⟩
 ·go_wp2_with (go_at_call 187;refine (adv (.slice a n c) off off' bd W1 D1).mono ?_;rintro e w2 ⟨rfl,hD,hg⟩;have HG:Hid (_/\_):=⟨hD,hg⟩;clear hD hg)
  go_ret
  exact .inr ⟨x,off',hk,rfl,HG.out.1,ZI hW1 HG.out.2⟩
 ·go_wp2_with (go_at_call 187;refine (WB off' e _ W1 he).mono ?_;rintro _ w2 ⟨rfl,rfl⟩;exact ⟨rfl,Or.inl ⟨e,hk,rfl,he,yN hW1⟩⟩)
theorem Ut {w w':World} {r:Option Nat} (h:Below w.heap.size w w'):w.grownBy w' r:=yN h
def qI:Nat->Nat
 | 0=>7
 | 1=>8
 | 2=>9
 | 3=>10
 | 4=>11
 | 5=>12
 | 6=>13
 | 7=>14
 | 8=>15
 | 9=>6
 | 10=>16
 | 11=>17
 | 12=>18
 | 15=>4
 | 16=>5
 | _=>0
def Qm (bd:Nat) (a:Option Addr) (n c:Nat) (off off' ec:Int) (x:Vec):Nat->Value
 | 0=>(.pointer (some ⟨bd,0,none⟩))
 | 1=>(.pointer (some ⟨bd,0,none⟩))
 | 2=>(.pointer (some ⟨bd,0,none⟩))
 | 3=>(.slice a n c)
 | 4=>(.pointer (some ⟨bd,0,none⟩))
 | 5=>(.pointer (some ⟨bd,0,none⟩))
 | 6=>(.pointer (some ⟨bd,1,none⟩))
 | 7=>(.int .i64 off)
 | 8=>(.tuple #[.agg #[.int .i64 x.X,.int .i64 x.Y],.int .i64 off',.int .i64 ec])
 | 9=>(.tuple #[.agg #[.int .i64 x.X,.int .i64 x.Y],.int .i64 off',.int .i64 ec])
 | 10=>(.agg #[.int .i64 x.X,.int .i64 x.Y])
 | 11=>(.int .i64 off')
 | 12=>(.int .i64 ec)
 | 15=>(.int .i64 off')
 | 16=>(.int .i64 ec)
 | _=>undef
set_option maxHeartbeats 2000000 in
theorem dvec {m:Mem} {buf:List UInt8} {a:Option Addr} {n c:Nat} {bd:Nat} {off:Int} {W:World} {β:Type} {k:Vec->Int->Option (Int ⊕ β)} {res:Int ⊕ β} (F:BF m buf a n c bd W) (hb:DB bd (.slice a n c) off W) (h:JH (rdR (jh buf off)) k=some res):
 Calls Tryz.prog 170 #[.pointer (some ⟨bd,0,none⟩)] W (PS (fun x:Vec=>.agg #[.int .i64 x.X,.int .i64 x.Y]) (.slice a n c) bd W k res):=by
 obtain ⟨x,off',ec,h,hk⟩:=Uw h
 have hb:W.heap[bd]? = some (.cells #[.slice a n c,.int .i64 off] 258 (0,0)):=hb
 have e116:=Tryz.call116
 have e187:=Tryz.call187
 have hc:FnR Tryz.prog 116 [jW buf,.v (.int .i64 off)] (.tup [.agg [.v (.int .i64 x.X),.v (.int .i64 x.Y)],.v (.int .i64 off'),.v (.int .i64 ec)]) []:=c_116.ok (buf,off,()) [jW buf,.v (.int .i64 off)] ((x,off',ec):Vec × Int × Int) ⟨rfl,rfl,trivial⟩ h
 have kc:∀ w',Below W.heap.size W w'->Calls Tryz.prog 116 #[.slice a n c,.int .i64 off] w' fun e w''=>e=.returned (.tuple #[.agg #[.int .i64 x.X,.int .i64 x.Y],.int .i64 off',.int .i64 ec])/\Below w'.heap.size w' w'':=fun w' hw=>by
  refine (QE hc w' [.slice a n c,.int .i64 off] (.cons (F.rep.mono (qU (F.imm.below hw))) (.cons .v .nil))).mono ?_
  rintro e w'' ⟨v,rfl,hb2,hrep⟩
  obtain ⟨vs,rfl,hvs⟩:=qe hrep
  obtain ⟨v1,vs,rfl,h1,hvs⟩:=hvs.inv
  have:vs=[.int .i64 off',.int .i64 ec]:=Jz (l:=[.int .i64 off',.int .i64 ec]) hvs
  subst this
  obtain ⟨cs,rfl,hcs,-⟩:=Qn h1
  have:cs=[.int .i64 x.X,.int .i64 x.Y]:=Jz (l:=[.int .i64 x.X,.int .i64 x.Y]) hcs
  subst this
  exact ⟨rfl,hb2⟩
 have HB:Hid (_/\_):=⟨hb,F.lt⟩
 clear hc
 go_enter Tryz.func170,Tryz.ntmps170
 go_wp2
 obtain ⟨V,hV⟩:∃ V,V=W.alloc (.cells #[.int .i64 0,.int .i64 0] 65):=⟨_,rfl⟩
 rw [<- hV]
 have bV:Below W.heap.size W V:=by rw [hV];exact (Below.refl _ _).alloc (Nat.le_refl _) _
 have kV:V.heap[W.heap.size]? = some (.cells #[.int .i64 0,.int .i64 0] 65 (0,0)):=by rw [hV];exact Jh _ _ _ rfl
 have sV:V.heap.size=W.heap.size+1:=by rw [hV];simp
 have hbV:V.heap[bd]? = some (.cells #[.slice a n c,.int .i64 off] 258 (0,0)):=(bV.block _ F.lt).trans hb
 have lV:bd<V.heap.size:=by have:=F.lt;omega
 have HB:Hid (_/\_/\_/\_/\_/\_/\_):=⟨fun w' (hw:Below V.heap.size V w')=>jD ((hw.block _ lV).trans hbV) 0 rfl,fun w' (hw:Below V.heap.size V w')=>jD ((hw.block _ lV).trans hbV) 1 rfl,
  fun w' (hw:Below V.heap.size V w')=>kc w' (bV.trans (hw.mono (by omega))),bV,kV,sV,hbV⟩
 clear hb hbV kc hV bV kV
 refine wD qT 17 13 14 10 3 qI (Qm bd a n c off off' ec x) 65 65 _ [.int .i64 x.X,.int .i64 x.Y] rfl ?_ ?_ ?_ ?_ (by simp) ⟨_,rfl,rfl,rfl,rfl⟩ Tryz.zeroValue65 rfl ⟨_,rfl,rfl,rfl,rfl,?_⟩ ⟨by decide,by decide,by decide⟩ (by decide) rfl (by kernel_rfl) (by intro c hc;simp at hc;rcases hc with rfl | rfl <;> rfl) ?_
 ·intro i o ho
  match i with
  | 0=>cases ho;simp [Region.binds]
  | 1=>cases ho;simp [Region.binds]
  | 2=>cases ho;simp [Region.binds]
  | 3=>cases ho;simp [Region.binds]
  | 4=>cases ho;simp [Region.binds]
  | 5=>cases ho;simp [Region.binds]
  | 6=>cases ho;simp [Region.binds]
  | 7=>cases ho;simp [Region.binds]
  | 8=>cases ho;simp [Region.binds]
  | 9=>cases ho;simp [Region.binds]
  | 10=>cases ho;simp [Region.binds]
  | 11=>cases ho;simp [Region.binds]
  | 12=>cases ho;simp [Region.binds]
  | 13=>cases ho;simp [Region.binds]
  | 14=>cases ho;simp [Region.binds]
  | 15=>cases ho;simp [Region.binds]
  | 16=>cases ho;simp [Region.binds]
  | j+17=>simp at ho
 ·intro i o hpu ho
  obtain ⟨h1,h2,h3⟩:=hpu
  match i,h1,h2,h3 with
  | 0,_,_,_=>
    cases ho
    refine ⟨rfl,rfl,by simp [qI],fun ac hd hr w' hw=>?_⟩
    have r0:=((hr 0 (fun i hp=>(by decide:∀ i,i<17->i≠13->i≠14->qI i≠0) i hp.1 hp.2.1 hp.2.2) (by decide)).trans rfl)
    have x0:=ev r0
    simp [Oper.quietAt,Oper.quietUpon,execOp,r0,go_sem,Qm]
  | 1,_,_,_=>
    cases ho
    refine ⟨rfl,rfl,by simp [qI],fun ac hd hr w' hw=>?_⟩
    have r7:ac.tmps[7]? = some (.pointer (some ⟨bd,0,none⟩)):=hd ⟨0,.data⟩ (by simp) rfl (by decide) (by decide)
    have x7:=ev r7
    simp [Oper.quietAt,Oper.quietUpon,execOp,r7,go_sem,Qm]
  | 2,_,_,_=>
    cases ho
    refine ⟨rfl,rfl,by simp [qI],fun ac hd hr w' hw=>?_⟩
    have r8:ac.tmps[8]? = some (.pointer (some ⟨bd,0,none⟩)):=hd ⟨1,.data⟩ (by simp) rfl (by decide) (by decide)
    have x8:=ev r8
    simp [Oper.quietAt,Oper.quietUpon,execOp,r8,go_sem,Qm]
  | 3,_,_,_=>
    cases ho
    refine ⟨rfl,rfl,by simp [qI],fun ac hd hr w' hw=>?_⟩
    have r9:ac.tmps[9]? = some (.pointer (some ⟨bd,0,none⟩)):=hd ⟨2,.data⟩ (by simp) rfl (by decide) (by decide)
    have x9:=ev r9
    exact qz rfl x9 (by kernel_rfl) (HB.out.1 w' hw)
  | 4,_,_,_=>
    cases ho
    refine ⟨rfl,rfl,by simp [qI],fun ac hd hr w' hw=>?_⟩
    have r0:=((hr 0 (fun i hp=>(by decide:∀ i,i<17->i≠13->i≠14->qI i≠0) i hp.1 hp.2.1 hp.2.2) (by decide)).trans rfl)
    have x0:=ev r0
    simp [Oper.quietAt,Oper.quietUpon,execOp,r0,go_sem,Qm]
  | 5,_,_,_=>
    cases ho
    refine ⟨rfl,rfl,by simp [qI],fun ac hd hr w' hw=>?_⟩
    have r11:ac.tmps[11]? = some (.pointer (some ⟨bd,0,none⟩)):=hd ⟨4,.data⟩ (by simp) rfl (by decide) (by decide)
    have x11:=ev r11
    simp [Oper.quietAt,Oper.quietUpon,execOp,r11,go_sem,Qm]
  | 6,_,_,_=>
    cases ho
    refine ⟨rfl,rfl,by simp [qI],fun ac hd hr w' hw=>?_⟩
    have r12:ac.tmps[12]? = some (.pointer (some ⟨bd,0,none⟩)):=hd ⟨5,.data⟩ (by simp) rfl (by decide) (by decide)
    have x12:=ev r12
    simp [Oper.quietAt,Oper.quietUpon,execOp,r12,go_sem,Qm]
  | 7,_,_,_=>
    cases ho
    refine ⟨rfl,rfl,by simp [qI],fun ac hd hr w' hw=>?_⟩
    have r13:ac.tmps[13]? = some (.pointer (some ⟨bd,1,none⟩)):=hd ⟨6,.data⟩ (by simp) rfl (by decide) (by decide)
    have x13:=ev r13
    exact qz rfl x13 (by kernel_rfl) (HB.out.2.1 w' hw)
  | 8,_,_,_=>
    cases ho
    refine ⟨rfl,rfl,by simp [qI],fun ac hd hr w' hw=>?_⟩
    have r10:ac.tmps[10]? = some (.slice a n c):=hd ⟨3,.data⟩ (by simp) rfl (by decide) (by decide)
    have x10:=ev r10
    have r14:ac.tmps[14]? = some (.int .i64 off):=hd ⟨7,.data⟩ (by simp) rfl (by decide) (by decide)
    have x14:=ev r14
    exact jcR (f:=116) (vs:=#[.slice a n c,.int .i64 off]) rfl e116 (by simp [x10,x14]) (HB.out.2.2.1 w' hw)
  | 9,_,_,_=>
    cases ho
    refine ⟨rfl,rfl,by simp [qI],fun ac hd hr w' hw=>?_⟩
    have r15:ac.tmps[15]? = some (.tuple #[.agg #[.int .i64 x.X,.int .i64 x.Y],.int .i64 off',.int .i64 ec]):=hd ⟨8,.data⟩ (by simp) rfl (by decide) (by decide)
    have x15:=ev r15
    simp [Oper.quietAt,Oper.quietUpon,execOp,r15,go_sem,Qm]
  | 10,_,_,_=>
    cases ho
    refine ⟨rfl,rfl,by simp [qI],fun ac hd hr w' hw=>?_⟩
    have r6:ac.tmps[6]? = some (.tuple #[.agg #[.int .i64 x.X,.int .i64 x.Y],.int .i64 off',.int .i64 ec]):=hd ⟨9,.data⟩ (by simp) rfl (by decide) (by decide)
    have x6:=ev r6
    simp [Oper.quietAt,Oper.quietUpon,execOp,r6,go_sem,Qm]
  | 11,_,_,_=>
    cases ho
    refine ⟨rfl,rfl,by simp [qI],fun ac hd hr w' hw=>?_⟩
    have r6:ac.tmps[6]? = some (.tuple #[.agg #[.int .i64 x.X,.int .i64 x.Y],.int .i64 off',.int .i64 ec]):=hd ⟨9,.data⟩ (by simp) rfl (by decide) (by decide)
    have x6:=ev r6
    simp [Oper.quietAt,Oper.quietUpon,execOp,r6,go_sem,Qm]
  | 12,_,_,_=>
    cases ho
    refine ⟨rfl,rfl,by simp [qI],fun ac hd hr w' hw=>?_⟩
    have r6:ac.tmps[6]? = some (.tuple #[.agg #[.int .i64 x.X,.int .i64 x.Y],.int .i64 off',.int .i64 ec]):=hd ⟨9,.data⟩ (by simp) rfl (by decide) (by decide)
    have x6:=ev r6
    simp [Oper.quietAt,Oper.quietUpon,execOp,r6,go_sem,Qm]
  | 13,_,h2,_=>exact absurd rfl h2
  | 14,_,_,h3=>exact absurd rfl h3
  | 15,_,_,_=>
    cases ho
    refine ⟨rfl,rfl,by simp [qI],fun ac hd hr w' hw=>?_⟩
    have r17:ac.tmps[17]? = some (.int .i64 off'):=hd ⟨11,.data⟩ (by simp) rfl (by decide) (by decide)
    have x17:=ev r17
    simp [Oper.quietAt,Oper.quietUpon,execOp,r17,go_sem,Qm]
  | 16,_,_,_=>
    cases ho
    refine ⟨rfl,rfl,by simp [qI],fun ac hd hr w' hw=>?_⟩
    have r18:ac.tmps[18]? = some (.int .i64 ec):=hd ⟨12,.data⟩ (by simp) rfl (by decide) (by decide)
    have x18:=ev r18
    simp [Oper.quietAt,Oper.quietUpon,execOp,r18,go_sem,Qm]
  | j+17,h1,_,_=>exact absurd h1 (by omega)
 ·exact jet (by kernel_rfl)
 ·intro i hi
  exact (by decide:∀ i,i<17->i≠13->i≠14->qI i≠3) i hi.1 hi.2.1 hi.2.2
 ·intro f hf
  simp [Region.binds] at hf
  simp [hf]
 intro ac W1 b hW1 hb1 hb2 hbox hdf hsz hvals hda hrest
 obtain ⟨tm,dfr⟩:=ac
 have e1:dfr=[]:=hdf
 subst e1
 have e2:=zM [(7,(.pointer (some ⟨bd,0,none⟩))),(8,(.pointer (some ⟨bd,0,none⟩))),(9,(.pointer (some ⟨bd,0,none⟩))),(10,(.slice a n c)),(11,(.pointer (some ⟨bd,0,none⟩))),(12,(.pointer (some ⟨bd,0,none⟩))),(13,(.pointer (some ⟨bd,1,none⟩))),(14,(.int .i64 off)),(15,(.tuple #[.agg #[.int .i64 x.X,.int .i64 x.Y],.int .i64 off',.int .i64 ec])),(6,(.tuple #[.agg #[.int .i64 x.X,.int .i64 x.Y],.int .i64 off',.int .i64 ec])),(16,(.agg #[.int .i64 x.X,.int .i64 x.Y])),(17,(.int .i64 off')),(18,(.int .i64 ec)),(4,(.int .i64 off')),(5,(.int .i64 ec)),(3,.pointer (some ⟨b,0,none⟩))] _ tm hsz rfl rfl ⟨hvals 0 ⟨by decide,by decide,by decide⟩,hvals 1 ⟨by decide,by decide,by decide⟩,hvals 2 ⟨by decide,by decide,by decide⟩,hvals 3 ⟨by decide,by decide,by decide⟩,hvals 4 ⟨by decide,by decide,by decide⟩,hvals 5 ⟨by decide,by decide,by decide⟩,hvals 6 ⟨by decide,by decide,by decide⟩,hvals 7 ⟨by decide,by decide,by decide⟩,hvals 8 ⟨by decide,by decide,by decide⟩,hvals 9 ⟨by decide,by decide,by decide⟩,hvals 10 ⟨by decide,by decide,by decide⟩,hvals 11 ⟨by decide,by decide,by decide⟩,hvals 12 ⟨by decide,by decide,by decide⟩,hvals 15 ⟨by decide,by decide,by decide⟩,hvals 16 ⟨by decide,by decide,by decide⟩,hda,trivial⟩ (fun j hj=>hrest j (fun i hi e=>hj (e ▸ (by decide:∀ i,i<17->i≠13->i≠14->qI i∈[7,8,9,10,11,12,13,14,15,6,16,17,18,4,5,3]) i hi.1 hi.2.1 hi.2.2)) (fun e=>hj (by subst e;simp)))
 simp only [List.foldl_cons,List.foldl_nil,List.setIfInBounds_toArray,List.set_cons_succ,List.set_cons_zero] at e2
 subst e2
 have lb:bd<W.heap.size:=F.lt
 have D1:DB bd (.slice a n c) off W1:=(hW1.block _ lV).trans HB.out.2.2.2.2.2.2
 have HW:Hid (_/\_/\_/\_):=⟨hW1,hbox,hb1,hb2⟩
 clear hvals hda hrest hsz hW1 hbox hb1 hb2
 rcases hk with ⟨rfl,hk⟩ | ⟨he,hk⟩
 ·go_wp2_with (first
   | (go_at_call 187;refine (adv (.slice a n c) off off' bd W1 D1).mono ?_;rintro e w2 ⟨rfl,hD,hg⟩;have HG:Hid (_/\_):=⟨hD,hg⟩;clear hD hg)
   | (refine YB (cs:=[.int .i64 x.X,.int .i64 x.Y]) rfl rfl rfl rfl (by kernel_rfl) (by kernel_rfl) ((HG.out.2.block _ HW.out.2.2.2 (fun e=>by have:=Option.some.inj e;have:=HW.out.2.2.1;omega)).trans HW.out.2.1) (fun j v e=>by rw [Nat.zero_add];simpa using e) ?_)
   | (refine jL (cs:=[.int .i64 x.X,.int .i64 x.Y]) (arr:=[.int .i64 0,.int .i64 0]) rfl rfl rfl rfl rfl (by kernel_rfl) ((HG.out.2.block W.heap.size (by have:=HW.out.1.size;omega) (fun e=>by have:=Option.some.inj e;omega)).trans ((HW.out.1.block W.heap.size (by omega)).trans HB.out.2.2.2.2.1)) (by exact Nat.le_refl 2) (by intro c hc;simp at hc;rcases hc with rfl | rfl <;> rfl) ?_;intro w3 h3 g3;have HK:Hid (_/\_):=⟨h3,g3⟩;clear h3 g3))
  have r0:Tryz.f170.results=#[.cell 2 65]:=rfl
  refine bodyPost_ret (wJ (cs:=[.int .i64 x.X,.int .i64 x.Y]) r0 rfl (by kernel_rfl) (by kernel_rfl) HK.out.1) rfl ?_
  have g1:W.grownBy W1 (some bd):=Ut (HB.out.2.2.2.1.trans (HW.out.1.mono (by omega)))
  have g2:=HG.out.2
  have g3:=HK.out.2
  have s1:=g1.size
  have s2:=g2.size
  refine .inr ⟨x,off',hk,rfl,(g3.block bd (by omega) (fun e=>by have:=Option.some.inj e;omega)).trans HG.out.1,?_⟩
  have g12:=Jb g1 g2
  exact ⟨g3.os.trans g12.os,g3.tape.trans g12.tape,g3.output.trans g12.output,Nat.le_trans g12.size g3.size,fun k hk hn=>(g3.block k (by omega) (fun e=>by have:=Option.some.inj e;omega)).trans (g12.block k hk hn)⟩
 ·go_wp2_with (go_at_call 187;refine (WB off' ec _ W1 he).mono ?_;rintro _ w2 ⟨rfl,rfl⟩;exact ⟨rfl,Or.inl ⟨ec,hk,rfl,he,yN (HB.out.2.2.2.1.trans (HW.out.1.mono (by omega)))⟩⟩)
theorem JE {P:Program} {ops:Array Oper} {rest:List Oper} {Q:Exit->Act->World->Prop} {o:Oper} {a:Act} {w:World} {ty:TypeId} {t z:Operand} {b off:Nat} {v:Value} {arr:List Value} {T:TypeId}
 (g:o.guard=none) (e:o.op=.store ty t z) (hd:o.dst=none) (ht:a.eval t=.pointer (some ⟨b,off,none⟩)) (hz:a.eval z=v) (hv:v.cells=#[v]) (hs:tSz P ty=some 1)
 (hb:w.heap[b]? = some (.cells arr.toArray T (0,0))) (hfit:off<arr.length) (h1:v.oneCell'=true)
 (h:∀ w',w'.heap[b]? = some (.cells (arr.set off v).toArray T (0,0))->w.grownBy w' (some b)->wpList P ops Q rest a w'):wpList P ops Q (o::rest) a w:=by
 have hst:=run_storeCells_at P b off T [v] 0 arr.toArray w hb (by simp;omega) (by simpa using h1)
 simp only [Nat.add_zero] at hst
 have he:(arr.take off++[v]++arr.drop (off+[v].length))=arr.set off v:=by
  rw [List.set_eq_take_append_cons_drop,if_pos hfit];simp
 refine wpList_plain g fun K hK=>?_
 have r2:(execOp a.eval o).run P w=.ok .skip (w.setRow b (arr.set off v).toArray):=by
  have hst:Sem.run P (storeCells ⟨b,off,none⟩ [v]) w=Result.ok () (w.setRow b (arr.set off v).toArray):=by rw [<- he];exact hst
  simp [execOp,e,ht,hz,Instr.storeAt,Instr.sureAddr,storeVar,jr hs,hv,hst]
 unfold Oper.wp
 rw [r2,Oper.upon_skip,hd]
 exact hK _ _ (h _ (setRow_heap w b _ _ T (0,0) hb) ⟨rfl,rfl,rfl,by simp,fun k _ hk=>setRow_other w b k _ (fun e=>hk (by rw [e]))⟩)
theorem qP {P:Program} {ops:Array Oper} {rest:List Oper} {Q:Exit->Act->World->Prop} {o:Oper} {a:Act} {w:World} {ty:TypeId} {t z:Operand} {b off:Nat} {v1 v2:Value} {arr:List Value} {T:TypeId}
 (g:o.guard=none) (e:o.op=.store ty t z) (hd:o.dst=none) (ht:a.eval t=.pointer (some ⟨b,off,none⟩)) (hz:a.eval z=.agg #[v1,v2]) (hs:tSz P ty=some 2)
 (hb:w.heap[b]? = some (.cells arr.toArray T (0,0))) (hfit:off+1<arr.length) (h1:v1.oneCell'=true) (h2:v2.oneCell'=true)
 (h:∀ w',w'.heap[b]? = some (.cells ((arr.set off v1).set (off+1) v2).toArray T (0,0))->w.grownBy w' (some b)->wpList P ops Q rest a w'):wpList P ops Q (o::rest) a w:=by
 have he:arr.take off++[v1,v2]++arr.drop (off+2)=(arr.set off v1).set (off+1) v2:=by
  refine List.ext_getElem? fun j=>?_
  rw [List.getElem?_set,List.getElem?_set,List.append_assoc]
  simp only [List.length_set]
  rcases Nat.lt_trichotomy j off with hj | hj | hj
  ·rw [List.getElem?_append_left (by simp;omega),List.getElem?_take_of_lt hj,if_neg (by omega),if_neg (by omega)]
  ·subst hj
   rw [List.getElem?_append_right (by simp;omega),if_neg (by omega),if_pos rfl,if_pos (by omega)]
   have:j - (arr.take j).length=0:=by simp;omega
   rw [this];rfl
  ·by_cases hj1:j=off+1
   ·subst hj1
    rw [List.getElem?_append_right (by simp;omega),if_pos rfl,if_pos (by omega)]
    have:off+1 - (arr.take off).length=1:=by simp;omega
    rw [this];rfl
   ·have hl:(arr.take off).length=off:=by simp;omega
    rw [List.getElem?_append_right (by omega),hl,if_neg (by omega),if_neg (by omega)]
    have:j - off=(j - (off+2))+2:=by omega
    rw [this]
    show (arr.drop (off+2))[j - (off+2)]? = _
    rw [List.getElem?_drop]
    congr 1
    omega
 refine jL (cs:=[v1,v2]) g e hd ht hz (by simpa using hs) hb (by show off+2<=arr.length;omega) (by intro c hc;simp at hc;rcases hc with rfl | rfl <;> assumption) fun w' hw hg=>?_
 exact h w' (by rw [<- he];exact hw) hg
theorem yi {m:Mem} {W:World} (h:Imm m W) {b:Nat} (hb:W.heap.size<=b):∀ o,m b o=none:=fun o=>by
 cases e:m b o with
 | none=>rfl
 | some v=>
   have:=h b o v e
   simp [World.cell?,Array.getElem?_eq_none hb] at this
theorem BF.below {m buf a n c bd W W'} (h:BF m buf a n c bd W) (g:Below W.heap.size W W'):BF m buf a n c bd W':=⟨h.imm.below g,h.rep,h.off,Nat.lt_of_lt_of_le h.lt g.size⟩
def JG (M M':Mem) (B:Nat):Prop:=∀ b o u,M' b o=some u->M b o=some u\/B<=b
theorem JG.refl (M:Mem) (B:Nat):JG M M B:=fun _ _ _ h=>.inl h
theorem JG.trans {M M' M'':Mem} {B B':Nat} (h:JG M M' B) (h':JG M' M'' B') (hb:B<=B'):JG M M'' B:=fun b o u e=>(h' b o u e).elim (fun e=>h b o u e) (fun e=>.inr (Nat.le_trans hb e))
theorem JG.none {M M':Mem} {B g:Nat} (h:JG M M' B) (hg:g<B) (hM:∀ o,M g o=none):∀ o,M' g o=none:=fun o=>by
 cases e:M' g o with
 | none=>rfl
 | some u=>
   rcases h g o u e with h | h
   ·rw [hM] at h;cases h
   ·omega
theorem ur {W:World} {b:Option Nat}:W.grownBy W b:=⟨rfl,rfl,rfl,Nat.le_refl _,fun _ _ _=>rfl⟩
theorem jbt {W W1 W2:World} {b row:Option Nat} (h1:W.grownBy W1 b) (h2:W1.grownBy W2 row) (hr:∀ g,row=some g->W.heap.size<=g):W.grownBy W2 b:=
 ⟨h2.os.trans h1.os,h2.tape.trans h1.tape,h2.output.trans h1.output,Nat.le_trans h1.size h2.size,fun k hk hn=>(h2.block k (Nat.lt_of_lt_of_le hk h1.size) (fun e=>by have:=hr k e.symm;omega)).trans (h1.block k hk hn)⟩
theorem Mf {m:Mem} {W W':World} {row:Option Nat} (h:Imm m W) (hg:W.grownBy W' row) (hm:∀ g,row=some g->∀ o,m g o=none):Imm m W':=by
 cases row with
 | none=>exact yG (b:=W.heap.size) h ⟨hg.os,hg.tape,hg.output,hg.size,fun k hk _=>hg.block k hk (by simp)⟩ (yi h (Nat.le_refl _))
 | some g=>exact yG h hg (hm g rfl)
structure Okd (m:Mem) (buf:List UInt8) (a:Option Addr) (n c bd:Nat) (W:World) (box:Obj) (M:Mem) (W':World):Prop where
 F:BF M buf a n c bd W'
 D:W'.heap[bd]? = some box
 le:Mem.le m M
 nw:JG m M W.heap.size
 G:W.grownBy W' (some bd)
theorem Okd.start {m buf a n c bd W box} (F:BF m buf a n c bd W) (D:W.heap[bd]? = some box):Okd m buf a n c bd W box m W:=⟨F,D,fun _ _ _ e=>e,JG.refl _ _,ur⟩
theorem Okd.call {m buf a n c bd W box M W1 box' M' W2} (h:Okd m buf a n c bd W box M W1) (h2:Okd M buf a n c bd W1 box' M' W2):Okd m buf a n c bd W box' M' W2:=
 ⟨h2.F,h2.D,fun b o u e=>h2.le b o u (h.le b o u e),h.nw.trans h2.nw h.G.size,Jb h.G h2.G⟩
theorem Okd.Qh {m buf a n c bd W box M W1 box' W2} (h:Okd m buf a n c bd W box M W1) (hD:W2.heap[bd]? = some box') (hg:W1.grownBy W2 (some bd)):Okd m buf a n c bd W box' M W2:=
 h.call ⟨h.F.grown hg,hD,fun _ _ _ e=>e,JG.refl _ _,hg⟩
theorem Okd.own {m buf a n c bd W box M W1} (h:Okd m buf a n c bd W box M W1) (hl:bd<W.heap.size) {W2:World} {row:Option Nat} (hg:W1.grownBy W2 row) (hr:∀ g,row=some g->W.heap.size<=g) (hm:∀ g,row=some g->∀ o,M g o=none):Okd m buf a n c bd W box M W2:=
 ⟨⟨Mf h.F.imm hg hm,h.F.rep,h.F.off,Nat.lt_of_lt_of_le h.F.lt hg.size⟩,(hg.block bd h.F.lt (fun e=>by have:=hr bd e.symm;omega)).trans h.D,h.le,h.nw,jbt h.G hg hr⟩
theorem Okd.alloc {m buf a n c bd W box M W1} (h:Okd m buf a n c bd W box M W1) (hl:bd<W.heap.size) (o:Obj):Okd m buf a n c bd W box M (W1.alloc o):=
 h.own (row:=none) hl (yN ((Below.refl _ _).alloc (Nat.le_refl _) _)) (by simp) (by simp)
theorem Okd.more {m buf a n c bd W box M W1} (h:Okd m buf a n c bd W box M W1) (hl:bd<W.heap.size) {M':Mem} (hi:Imm M' W1) (hle:Mem.le M M') (hn:JG M M' W.heap.size):Okd m buf a n c bd W box M' W1:=
 ⟨⟨hi,h.F.rep.mono hle,hn.none hl h.F.off,h.F.lt⟩,h.D,fun b o u e=>hle b o u (h.le b o u e),h.nw.trans hn (Nat.le_refl _),h.G⟩
abbrev bxS (a:Option Addr) (n c:Nat) (o:Int):Obj:=.cells #[.slice a n c,.int .i64 o] 258 (0,0)
def PR {α:Type} (enc:α->AV) (m:Mem) (buf:List UInt8) (a:Option Addr) (n c bd:Nat) (W:World) (res:Int ⊕ (α × Int)) (e:Ending) (W':World):Prop:=
 (∃ cc,res=.inl cc/\e=.panicked (deP cc)/\cc≠0/\W.grownBy W' (some bd))\/(∃ x o' v M',res=.inr (x,o')/\e=.returned v/\Rep M' je (enc x) v/\Okd m buf a n c bd W (bxS a n c o') M' W')
def PK {α β:Type} (enc:α->AV) (m:Mem) (buf:List UInt8) (a:Option Addr) (n c bd:Nat) (W:World) (k:α->Int->Option (Int ⊕ β)) (res:Int ⊕ β) (e:Ending) (W':World):Prop:=
 (∃ cc,res=.inl cc/\e=.panicked (deP cc)/\cc≠0/\W.grownBy W' (some bd))\/(∃ x o' v M',k x o'=some res/\e=.returned v/\Rep M' je (enc x) v/\Okd m buf a n c bd W (bxS a n c o') M' W')
theorem PR.k {α β:Type} {enc:α->AV} {m:Mem} {buf:List UInt8} {a:Option Addr} {n c bd:Nat} {W:World} {f:FuncId} {args:Array Value} {r:Option (Int ⊕ (α × Int))} {k:α->Int->Option (Int ⊕ β)} {res:Int ⊕ β}
 (h:∀ x,r=some x->Calls Tryz.prog f args W (PR enc m buf a n c bd W x)) (H:JH r k=some res):Calls Tryz.prog f args W (PK enc m buf a n c bd W k res):=by
 match r,h,H with
 | some (.inl e0),h,H=>
   have H:res=.inl e0:=(Option.some.inj H).symm
   refine (h _ rfl).mono ?_
   rintro e W' (⟨cc,h1,h2⟩ | ⟨x,o',v,M',h1,-⟩)
   ·cases h1
    exact .inl ⟨_,H,h2⟩
   ·cases h1
 | some (.inr (x0,o0)),h,H=>
   have H:k x0 o0=some res:=H
   refine (h _ rfl).mono ?_
   rintro e W' (⟨cc,h1,h2⟩ | ⟨x,o',v,M',h1,h2⟩)
   ·cases h1
   ·cases h1
    exact .inr ⟨_,_,v,M',H,h2⟩
structure OwR (B:Nat) (e:TypeId) (sz:Nat) (M:Mem) (l:List AV) (v:Value) (w:World):Prop where
 xs:∃ xs,w.ownsRow B e sz v l.length xs/\Jq M je (l.flatMap AV.cells) xs/\∀ c∈xs,jA c=true
 no:∀ g,v.ownBlock=some g->∀ o,M g o=none
theorem OwR.nil {B e sz M w}:OwR B e sz M [] (.slice none 0 0) w:=⟨⟨[],World.ownsRow_nil _ _ _ _,.nil,by simp⟩,by simp [Value.ownBlock]⟩
theorem OwR.lt {B e sz M l v w} (h:OwR B e sz M l v w):∀ g,v.ownBlock=some g->B<=g/\g<w.heap.size:=by
 obtain ⟨xs,h1,-⟩:=h.xs
 exact fun g e=>World.ownsRow.lt h1 g e
theorem OwR.grow {B e sz M l v w} (h:OwR B e sz M l v w) {M':Mem} {w':World} {row:Option Nat} (hg:w.grownBy w' row) (hr:∀ g,row=some g->v.ownBlock≠some g) (hle:Mem.le M M') (hn:JG M M' w.heap.size):OwR B e sz M' l v w':=by
 obtain ⟨xs,h1,h2,h3⟩:=h.xs
 refine ⟨⟨xs,World.ownsRow.kept h1 hg ?_,h2.mono hle,h3⟩,fun g e=>hn.none (h.lt g e).2 (h.no g e)⟩
 cases row with
 | none=>exact (by cases v.ownBlock <;> simp)
 | some g=>exact .inr (hr g rfl)
def mv (M:Mem) (g:Nat) (w:World):Mem:=fun b o=>if b=g then w.cell? ⟨g,o,none⟩ else M b o
theorem ua {M:Mem} {g:Nat} {w:World} {o:Nat}:mv M g w g o=w.cell? ⟨g,o,none⟩:=if_pos rfl
theorem uF {M:Mem} {g:Nat} {w:World} {b o:Nat} (h:b≠g):mv M g w b o=M b o:=if_neg h
theorem pB {M:Mem} {g:Nat} {w:World} (h:∀ o,M g o=none):Mem.le M (mv M g w):=fun b o u e=>by
 by_cases hb:b=g
 ·subst hb;rw [h] at e;cases e
 ·rw [uF hb];exact e
theorem MH {M:Mem} {g:Nat} {w:World} (h:Imm M w):Imm (mv M g w) w:=fun b o u e=>by
 by_cases hb:b=g
 ·subst hb;rw [ua] at e;exact e
 ·rw [uF hb] at e;exact h b o u e
theorem OwR.freeze {B e sz M l v w} (h:OwR B e sz M l v w) (hi:Imm M w) (hz:∀ x∈l,x.cells.length=sz):∃ M',Imm M' w/\Mem.le M M'/\JG M M' B/\Rep M' je (.sl false sz l) v:=by
 obtain ⟨xs,⟨h1,h2⟩,h3,h4⟩:=h.xs
 rcases h2 with ⟨rfl,h0⟩ | ⟨g,cap,cur,rfl,q1,q2,q3,q4,q5,q6⟩
 ·have:l=[]:=List.eq_nil_of_length_eq_zero h0
  subst this
  exact ⟨M,hi,fun _ _ _ e=>e,JG.refl _ _,.slnil⟩
 ·have hno:=h.no g rfl
  refine ⟨mv M g w,MH hi,pB hno,fun b o u e=>?_,.sl (cs:=xs) hz (h3.mono (pB hno)) h4 (fun _=>rfl) (fun j u e=>?_) q3 (by simp)⟩
  ·by_cases hb:b=g
   ·exact .inr (by rw [hb];exact q1)
   ·rw [uF hb] at e;exact .inl e
  ·show mv M g w g (0+j)=some u
   rw [ua,Nat.zero_add,Ji q2,<- Array.getElem?_toList]
   rw [<- q6] at e
   rcases Nat.lt_or_ge j (l.length*sz) with hj | hj
   ·rw [List.getElem?_take_of_lt hj] at e;exact e
   ·rw [List.getElem?_eq_none (by rw [List.length_take];omega)] at e;cases e
structure LS (m:Mem) (buf:List UInt8) (a:Option Addr) (n c bd:Nat) (W:World) (e:TypeId) (sz:Nat) (l:List AV) (v:Value) (box:Obj) (M:Mem) (wr:World):Prop where
 O:Okd m buf a n c bd W box M wr
 R:OwR W.heap.size e sz M l v wr
 lt:bd<W.heap.size
theorem LS.start {m buf a n c bd W e sz box M wr} (h:Okd m buf a n c bd W box M wr) (hl:bd<W.heap.size):LS m buf a n c bd W e sz [] (.slice none 0 0) box M wr:=⟨h,.nil,hl⟩
theorem LS.call {m buf a n c bd W e sz l v box M wr} (h:LS m buf a n c bd W e sz l v box M wr) {box':Obj} {M':Mem} {w2:World} (h2:Okd M buf a n c bd wr box' M' w2):LS m buf a n c bd W e sz l v box' M' w2:=
 ⟨h.O.call h2,h.R.grow h2.G (fun g e1 e2=>by have:=(h.R.lt g e2).1;have:=h.lt;have:=Option.some.inj e1;omega) h2.le h2.nw,h.lt⟩
theorem LS.Qh {m buf a n c bd W e sz l v box M wr} (h:LS m buf a n c bd W e sz l v box M wr) {box':Obj} {w2:World} (hD:w2.heap[bd]? = some box') (hg:wr.grownBy w2 (some bd)):LS m buf a n c bd W e sz l v box' M w2:=
 h.call ⟨h.O.F.grown hg,hD,fun _ _ _ e=>e,JG.refl _ _,hg⟩
theorem LS.app {m buf a n c bd W e sz l v box M wr} (h:LS m buf a n c bd W e sz l v box M wr) {x:AV} {xs A:List Value} {v':Value} {w2:World} {k:Nat} (hk:l.length=k) (hx:wr.ownsRow W.heap.size e sz v k xs) (hR:Jq M je (l.flatMap AV.cells) xs) (h1:∀ c∈xs,jA c=true)
 (hA:Jq M je x.cells A) (hA1:∀ c∈A,jA c=true) (hown:w2.ownsRow W.heap.size e sz v' (k+1) (xs++A)) (hg:(wr.alloc (.cells A.toArray e)).grownBy w2 v.ownBlock) (hblk:v'.ownBlock=v.ownBlock\/v'.ownBlock=some (wr.alloc (.cells A.toArray e)).heap.size):
 LS m buf a n c bd W e sz (l++[x]) v' box M w2:=by
 have hb:Below wr.heap.size wr (wr.alloc (.cells A.toArray e)):=(Below.refl _ _).alloc (Nat.le_refl _) _
 have R1:=h.R.grow (yN (r:=none) hb) (by simp) (fun _ _ _ e=>e) (JG.refl _ _)
 subst hk
 refine ⟨(h.O.alloc h.lt _).own h.lt hg (fun g e=>(h.R.lt g e).1) h.R.no,⟨⟨xs++A,by simpa using hown,by rw [List.flatMap_append];simpa using hR.append hA,fun c hc=>(List.mem_append.1 hc).elim (h1 c) (hA1 c)⟩,fun g e=>?_⟩,h.lt⟩
 rcases hblk with h2 | h2
 ·exact h.R.no g (h2.symm.trans e)
 ·rw [h2] at e
  have:=Option.some.inj e
  subst this
  exact yi (h.O.F.imm.below hb) (Nat.le_refl _)
theorem LS.fin {m buf a n c bd W e sz l v box M wr} (h:LS m buf a n c bd W e sz l v box M wr) (hz:∀ x∈l,x.cells.length=sz):∃ M',Okd m buf a n c bd W box M' wr/\Rep M' je (.sl false sz l) v:=
 let ⟨M',h1,h2,h3,h4⟩:=h.R.freeze h.O.F.imm hz
 ⟨M',h.O.more h.lt h1 h2 h3,h4⟩
theorem qK {α β γ:Type} (r:Option (Int ⊕ (α × Int))) (f:α->Int->Option (Int ⊕ (β × Int))) (k:β->Int->Option (Int ⊕ γ)):JH (JH r f) k=JH r (fun x o=>JH (f x o) k):=by
 match r with
 | none=>rfl
 | some (.inl _)=>rfl
 | some (.inr (_,_))=>rfl
structure BS (m M:Mem) (buf:List UInt8) (a:Option Addr) (n c bd:Nat) (W0:World) (b2 bx:Nat) (T:TypeId) (K X:List Value) (box:Obj) (W:World):Prop where
 O:Okd m buf a n c bd W0 box M W
 X:W.heap[bx]? = some (.cells X.toArray T (0,0))
 K:W.heap[b2]? = some (.cells K.toArray T (0,0))
 ne:bx≠bd/\b2≠bd/\b2≠bx/\bd<W0.heap.size
 new:W0.heap.size<=bx/\W0.heap.size<=b2
 lt:bx<W.heap.size/\b2<W.heap.size
 no:(∀ o,M bx o=none)/\∀ o,M b2 o=none
theorem BS.start {m buf a n c bd W box} (F:BF m buf a n c bd W) (D:W.heap[bd]? = some box) (T:TypeId) (K X:List Value):
 BS m m buf a n c bd W W.heap.size (W.heap.size+1) T K X box ((W.alloc (.cells K.toArray T)).alloc (.cells X.toArray T)):=by
 have hl:=F.lt
 exact ⟨((Okd.start F D).alloc hl _).alloc hl _,Jh _ _ _ (by simp),(jU _ _ _ (by simp)).trans (Jh _ _ _ rfl),⟨by omega,by omega,by omega,hl⟩,⟨by omega,Nat.le_refl _⟩,⟨by simp,by simp;omega⟩,⟨yi F.imm (by omega),yi F.imm (by omega)⟩⟩
theorem BS.call {m M buf a n c bd W0 b2 bx T K X box W} (h:BS m M buf a n c bd W0 b2 bx T K X box W) {box':Obj} {M':Mem} {W':World} (h2:Okd M buf a n c bd W box' M' W'):BS m M' buf a n c bd W0 b2 bx T K X box' W':=
 ⟨h.O.call h2,(h2.G.block _ h.lt.1 (fun e=>h.ne.1 (Option.some.inj e))).trans h.X,(h2.G.block _ h.lt.2 (fun e=>h.ne.2.1 (Option.some.inj e))).trans h.K,h.ne,h.new,⟨Nat.lt_of_lt_of_le h.lt.1 h2.G.size,Nat.lt_of_lt_of_le h.lt.2 h2.G.size⟩,⟨h2.nw.none h.lt.1 h.no.1,h2.nw.none h.lt.2 h.no.2⟩⟩
theorem BS.Qh {m M buf a n c bd W0 b2 bx T K X box W} (h:BS m M buf a n c bd W0 b2 bx T K X box W) {box':Obj} {W':World} (hD:W'.heap[bd]? = some box') (hg:W.grownBy W' (some bd)):BS m M buf a n c bd W0 b2 bx T K X box' W':=
 h.call ⟨h.O.F.grown hg,hD,fun _ _ _ e=>e,JG.refl _ _,hg⟩
theorem BS.store {m M buf a n c bd W0 b2 bx T K X box W} (h:BS m M buf a n c bd W0 b2 bx T K X box W) {X':List Value} {W':World} (hX:W'.heap[bx]? = some (.cells X'.toArray T (0,0))) (hg:W.grownBy W' (some bx)):BS m M buf a n c bd W0 b2 bx T K X' box W':=
 ⟨h.O.own h.ne.2.2.2 hg (fun g e=>Option.some.inj e ▸ h.new.1) (fun g e=>Option.some.inj e ▸ h.no.1),hX,(hg.block _ h.lt.2 (fun e=>h.ne.2.2.1 (Option.some.inj e))).trans h.K,h.ne,h.new,⟨Nat.lt_of_lt_of_le h.lt.1 hg.size,Nat.lt_of_lt_of_le h.lt.2 hg.size⟩,h.no⟩
theorem BS.fin {m M buf a n c bd W0 b2 bx T K X box W} (h:BS m M buf a n c bd W0 b2 bx T K X box W) {W':World} (hg:W.grownBy W' (some b2)):Okd m buf a n c bd W0 box M W':=
 h.O.own h.ne.2.2.2 hg (fun g e=>Option.some.inj e ▸ h.new.2) (fun g e=>Option.some.inj e ▸ h.no.2)
def zB:List Value:=[.int .i64 0,.int .i64 0,.int .i64 0,.int .i64 0,.int .i64 0,.int .i64 0,.int .i64 0,.int .i64 0,.int .i64 0,.int .i64 0,.int .i64 0,.int .i64 0,.int .i64 0,.int .i64 0,.bool false,.bool false,.bool false,.bool false,.int .i64 0,.slice none 0 0]
def zJ:List Value:=[.int .i64 0,.int .i64 0,.int .i64 0,.int .i64 0,.int .i64 0,.int .i64 0,.int .i64 0,.int .i64 0,.int .i64 0,.int .i64 0,.int .i64 0,.bool false,.int .i64 0,.int .i64 0,.bool false,.int .i64 0,.int .i64 0,.int .i64 0,.int .i64 0,.bool false,.int .i64 0,.int .i64 0,.int .i64 0,.int .i64 0]
set_option maxHeartbeats 2000000 in
theorem jdR {m:Mem} {buf:List UInt8} {a:Option Addr} {n c:Nat} {bd:Nat} {off:Int} {W:World} {β:Type} {k:Bool->Int->Option (Int ⊕ β)} {res:Int ⊕ β} (F:BF m buf a n c bd W) (hb:DB bd (.slice a n c) off W) (h:JH (rdR (jf buf off)) k=some res):
 Calls Tryz.prog 171 #[.pointer (some ⟨bd,0,none⟩)] W (PS (fun x:Bool=>.bool x) (.slice a n c) bd W k res):=by
 obtain ⟨x,off',e,h,hk⟩:=Uw h
 have hb:W.heap[bd]? = some (.cells #[.slice a n c,.int .i64 off] 258 (0,0)):=hb
 have f0:∀ w',Below W.heap.size W w'->w'.cell? ⟨bd,0,none⟩=some (.slice a n c):=fun w' hw=>jD ((hw.block _ F.lt).trans hb) 0 rfl
 have f1:∀ w',Below W.heap.size W w'->w'.cell? ⟨bd,1,none⟩=some (.int .i64 off):=fun w' hw=>jD ((hw.block _ F.lt).trans hb) 1 rfl
 have e188:=Tryz.call188
 have e187:=Tryz.call187
 have hc:FnR Tryz.prog 188 [jW buf,.v (.int .i64 off)] (.tup [.v (.bool x),.v (.int .i64 off'),.v (.int .i64 e)]) []:=c_188.ok (buf,off,()) [jW buf,.v (.int .i64 off)] ((x,off',e):Bool × Int × Int) ⟨rfl,rfl,trivial⟩ h
 have kc:∀ w',Below W.heap.size W w'->Calls Tryz.prog 188 #[.slice a n c,.int .i64 off] w' fun en w''=>en=.returned (.tuple #[.bool x,.int .i64 off',.int .i64 e])/\Below W.heap.size W w'':=fun w' hw=>by
  refine (QE hc w' [.slice a n c,.int .i64 off] (.cons (F.rep.mono (qU (F.imm.below hw))) (.cons .v .nil))).mono ?_
  rintro e1 w'' ⟨v,rfl,hb2,hrep⟩
  obtain ⟨vs,rfl,hvs⟩:=qe hrep
  have:vs=[.bool x,.int .i64 off',.int .i64 e]:=Jz (l:=[.bool x,.int .i64 off',.int .i64 e]) hvs
  subst this
  exact ⟨rfl,hw.trans (hb2.mono hw.size)⟩
 have HB:Hid (_/\_):=⟨hb,F.lt⟩
 clear hb hc
 go_enter Tryz.func171,Tryz.ntmps171
 go_wp2
 refine qk qT (by kernel_rfl) ?_
 iterate 3 (go_big_quiet_want;go_big_quiet_op;first | go_big_quiet_on | (refine ⟨_,fun _ _=>rfl,?_⟩;go_big_quiet_on))
 go_big_quiet_want
 refine Yn (ad:=⟨bd,0,none⟩) (v:=.slice a n c) rfl rfl (by kernel_rfl) (fun w' hw=>f0 w' hw) ?_
 simp only [Act.put,List.setIfInBounds_toArray,List.set_cons_succ,List.set_cons_zero]
 go_big_quiet_on
 iterate 3 (go_big_quiet_want;go_big_quiet_op;first | go_big_quiet_on | (refine ⟨_,fun _ _=>rfl,?_⟩;go_big_quiet_on))
 go_big_quiet_want
 refine Yn (ad:=⟨bd,1,none⟩) (v:=.int .i64 off) rfl rfl (by kernel_rfl) (fun w' hw=>f1 w' hw) ?_
 simp only [Act.put,List.setIfInBounds_toArray,List.set_cons_succ,List.set_cons_zero]
 go_big_quiet_on
 go_big_quiet_want
 refine Ku (f:=188) (xs:=#[.tmp 10,.tmp 14]) (tys:=#[24,3]) (vs:=#[.slice a n c,.int .i64 off]) (v:=.tuple #[.bool x,.int .i64 off',.int .i64 e]) rfl e188 (by simp [Act.eval]) (fun w' hw'=>kc w' hw') ?_
 simp only [Act.put,List.setIfInBounds_toArray,List.set_cons_succ,List.set_cons_zero]
 go_big_quiet_on
 iterate 7 (go_big_quiet_want;go_big_quiet_op;first | go_big_quiet_on | (refine ⟨_,fun _ _=>rfl,?_⟩;go_big_quiet_on))
 refine wpQuiet_nil ?_
 intro W1 hW1
 have D1:DB bd (.slice a n c) off W1:=(hW1.block _ HB.out.2).trans HB.out.1
 clear f0 f1 kc
 rcases hk with ⟨rfl,hk⟩ | ⟨he,hk⟩
 ·go_wp2_with (go_at_call 187;refine (adv (.slice a n c) off off' bd W1 D1).mono ?_;rintro e w2 ⟨rfl,hD,hg⟩;have HG:Hid (_/\_):=⟨hD,hg⟩;clear hD hg)
  go_ret
  exact .inr ⟨x,off',hk,rfl,HG.out.1,ZI hW1 HG.out.2⟩
 ·go_wp2_with (go_at_call 187;refine (WB off' e _ W1 he).mono ?_;rintro _ w2 ⟨rfl,rfl⟩;exact ⟨rfl,Or.inl ⟨e,hk,rfl,he,yN hW1⟩⟩)
set_option maxHeartbeats 2000000 in
theorem dlen {m:Mem} {buf:List UInt8} {a:Option Addr} {n c:Nat} {bd:Nat} {off:Int} {W:World} {β:Type} {k:Int->Int->Option (Int ⊕ β)} {res:Int ⊕ β} (F:BF m buf a n c bd W) (hb:DB bd (.slice a n c) off W) (h:JH (KI (jd buf) off) k=some res):
 Calls Tryz.prog 189 #[.pointer (some ⟨bd,0,none⟩)] W (PS (fun x:Int=>.int .i64 x) (.slice a n c) bd W (fun x o=>if 0<=x/\x<=8192 then k x o else none) res):=by
 rw [KI,qK] at h
 have e169:=Tryz.call169
 obtain ⟨x,o1,ec,h1,h2⟩:=Uw h
 have k169:=dint F hb h
 have k2 : Calls Tryz.prog 169 #[.pointer (some ⟨bd,0,none⟩)] W fun e w2=>(ec≠0/\res=.inl ec/\e=.panicked (deP ec)/\W.grownBy w2 (some bd))\/(ec=0/\e=.returned (.int .i64 x)/\DB bd (.slice a n c) o1 w2/\W.grownBy w2 (some bd)):=by
  refine (dint (k:=fun y o=>if ec=0/\y=x/\o=o1 then some (.inr ()) else none) (res:=if ec=0 then .inr () else .inl ec) F hb ?_).mono ?_
  ·rw [h1];simp only [rdR,JH]
   rcases Decidable.em (ec=0) with e | e
   ·simp [e]
   ·simp [e]
  ·rintro e w2 (⟨cc,q1,q2,q3,q4⟩ | ⟨y,o',q1,q2,q3,q4⟩)
   ·rcases Decidable.em (ec=0) with e | e
    ·rw [if_pos e] at q1;cases q1
    ·rw [if_neg e] at q1;cases q1
     exact .inl ⟨q3,(h2.resolve_left (fun h=>e h.1)).2,q2,q4⟩
   ·have q1:(if ec=0/\y=x/\o'=o1 then some (Sum.inr ()) else none)=some (if ec=0 then Sum.inr () else Sum.inl ec):=q1
    by_cases hq:ec=0/\y=x/\o'=o1
    ·obtain ⟨h0,rfl,rfl⟩:=hq
     exact .inr ⟨h0,q2,q3,q4⟩
    ·rw [if_neg hq] at q1;cases q1
 clear h k169
 rcases Decidable.em (ec=0) with e0 | e0
 ·have hk:=(h2.resolve_right (fun h=>h.1 e0)).2
  have k3:Calls Tryz.prog 169 #[.pointer (some ⟨bd,0,none⟩)] W fun e w2=>e=.returned (.int .i64 x)/\DB bd (.slice a n c) o1 w2/\W.grownBy w2 (some bd):=k2.mono (by
   rintro e w2 (⟨h,-⟩ | ⟨-,h⟩)
   ·exact absurd e0 h
   ·exact h)
  clear k2 h2 h1
  rcases Decidable.em (x<0) with t1 | t1
  ·rw [if_pos t1] at hk
   have hk:res=.inl 3:=(Option.some.inj hk).symm
   go_enter Tryz.func189,Tryz.ntmps189
   go_wp2_with (go_at_call 169;refine k3.mono ?_;rintro e w2 ⟨rfl,hD,hg⟩;have HD:Hid (_/\_):=⟨hD,hg⟩;clear hD hg k3)
   exact ⟨rfl,Or.inl ⟨3,hk,rfl,by decide,HD.out.2⟩⟩
  ·rcases Decidable.em (8192<x) with t2 | t2
   ·rw [if_neg t1,if_pos t2] at hk
    have hk:res=.inl 5:=(Option.some.inj hk).symm
    have t3:x>8192:=t2
    go_enter Tryz.func189,Tryz.ntmps189
    go_wp2_with (go_at_call 169;refine k3.mono ?_;rintro e w2 ⟨rfl,hD,hg⟩;have HD:Hid (_/\_):=⟨hD,hg⟩;clear hD hg k3)
    exact ⟨rfl,Or.inl ⟨5,hk,rfl,by decide,HD.out.2⟩⟩
   ·rw [if_neg t1,if_neg t2] at hk
    have hk:k x o1=some res:=hk
    have HK:Hid (_):=hk
    have t3:¬ x>8192:=t2
    clear hk
    go_enter Tryz.func189,Tryz.ntmps189
    go_wp2_with (go_at_call 169;refine k3.mono ?_;rintro e w2 ⟨rfl,hD,hg⟩;have HD:Hid (_/\_):=⟨hD,hg⟩;clear hD hg k3)
    go_ret
    exact .inr ⟨x,o1,(if_pos ⟨by omega,by omega⟩).trans HK.out,rfl,HD.out⟩
 ·have hk:=(h2.resolve_left (fun h=>e0 h.1)).2
  have k3:Calls Tryz.prog 169 #[.pointer (some ⟨bd,0,none⟩)] W fun e w2=>e=.panicked (deP ec)/\W.grownBy w2 (some bd):=k2.mono (by
   rintro e w2 (⟨-,-,h⟩ | ⟨h,-⟩)
   ·exact h
   ·exact absurd h e0)
  clear k2 h2 h1
  go_enter Tryz.func189,Tryz.ntmps189
  go_wp2_with (go_at_call 169;refine k3.mono ?_;rintro e w2 ⟨rfl,hg⟩;exact ⟨rfl,Or.inl ⟨ec,hk,rfl,e0,hg⟩⟩)
def jeh (B:Nat) (w:World):Mem:=fun b o=>if B<=b then w.cell? ⟨b,o,none⟩ else none
theorem FnR.jfH [GlC] {P:Program} {f:FuncId} {args:List AV} {r:AV}
 (H:∀ (w:World) (m:Mem) (vs:List Value),Imm m w->Jq m je args vs->Calls P f vs.toArray w fun e w'=>∃ v,e=.returned v/\Below w.heap.size w w'/\Rep (jeh w.heap.size w') je r v):FnR P f args r []:=by
 intro w m vs hgl hi hr
 refine (H w m vs hi hr).mono ?_
 rintro e w' ⟨v,he,hb,hv⟩
 have hlt:∀ b o v,m b o=some v->b<w.heap.size:=fun b o v e=>by
  have:=hi b o v e
  rcases Nat.lt_or_ge b w.heap.size with h | h
  ·exact h
  ·simp [World.cell?,Array.getElem?_eq_none h] at this
 refine ⟨v,fun b o=>if w.heap.size<=b then w'.cell? ⟨b,o,none⟩ else m b o,je,he,hb,⟨?_,?_,?_,?_,?_,?_,?_,hgl⟩,fun _ _=>rfl,hv.mono ?_⟩
 ·intro b o v e
  have e:(if w.heap.size<=b then w'.cell? ⟨b,o,none⟩ else m b o)=some v:=e
  by_cases h:w.heap.size<=b
  ·rw [if_pos h] at e;exact e
  ·rw [if_neg h] at e;exact (hi.below hb) b o v e
 ·intro b o v e
  show (if w.heap.size<=b then w'.cell? ⟨b,o,none⟩ else m b o)=some v
  rw [if_neg (by have:=hlt b o v e;omega)];exact e
 ·intro b o v e
  have e:(if w.heap.size<=b then w'.cell? ⟨b,o,none⟩ else m b o)=some v:=e
  by_cases h:w.heap.size<=b
  ·exact .inr h
  ·rw [if_neg h] at e;exact .inl e
 ·intro id l h;simp [find] at h
 ·intro id s p h;simp [find] at h
 ·intro id b n h;simp [je] at h
 ·intro id id' b n n' h;simp [je] at h
 ·intro b o v e
  unfold jeh at e
  show (if w.heap.size<=b then w'.cell? ⟨b,o,none⟩ else m b o)=some v
  by_cases h:w.heap.size<=b
  ·rw [if_pos h] at e ⊢;exact e
  ·rw [if_neg h] at e;cases e
theorem jfb {w:World} {base:Nat} {e:TypeId} {size:Nat} {v:Value} {n:Nat} {xs:List Value} (h:w.ownsRow base e size v n xs) (hn:0<n) {l:List AV} (hl:l.length=n) (hsz:∀ x∈l,x.cells.length=size) (hr:Jq (jeh base w) je (l.flatMap AV.cells) xs) (h1:∀ c∈xs,jA c=true):
 Rep (jeh base w) je (.sl false size l) v:=by
 obtain ⟨hlen,⟨rfl,h0⟩ | ⟨g,cap,cur,rfl,q1,q2,q3,q4,q5,q6⟩⟩:=h
 ·omega
 ·subst hl
  refine .sl (cs:=xs) hsz hr h1 (fun _=>rfl) ?_ q3 (by simp)
  intro j x e
  show jeh base w g (0+j)=some x
  unfold jeh
  rw [if_pos q1,Nat.zero_add,Ji q2]
  have hj:j<xs.length:=(List.getElem?_eq_some_iff.1 e).1
  rw [<- q6,List.getElem?_take_of_lt (by rw [<- hlen];exact hj)] at e
  rw [<- Array.getElem?_toList];exact e
theorem pC {M:Mem} (y:Vec):Jq M je (QC y).cells [Value.int .i64 y.X,Value.int .i64 y.Y]:=Ke [Value.int .i64 y.X,Value.int .i64 y.Y]
set_option maxHeartbeats 4000000 in
theorem dvecs {m:Mem} {buf:List UInt8} {a:Option Addr} {n c:Nat} {bd:Nat} {off:Int} {W:World} {β:Type} {k:List Vec->Int->Option (Int ⊕ β)} {res:Int ⊕ β} (F:BF m buf a n c bd W) (hb:DB bd (.slice a n c) off W) (h:JH (kI (jd buf) (fun o=>rdR (jh buf o)) off) k=some res):
 Calls Tryz.prog 190 #[.pointer (some ⟨bd,0,none⟩),.func (.func 170) #[.pointer (some ⟨bd,0,none⟩)] #[]] W (PK wy m buf a n c bd W k res):=by
 rw [kI,qK] at h
 have e189:=Tryz.call189
 have e170:=Tryz.call170
 have k189:=dlen F hb h
 obtain ⟨i1,b1,b2,b3,b4⟩:=info_parts (P:=Tryz.prog) (e:=65) (z:=(.agg #[.int .i64 0,.int .i64 0])) (size:=2) (bytes:=16) (by kernel_rfl)
 have HI:Hid (_/\_/\_/\_):=⟨b1,b2,b3,b4⟩
 have HF:Hid (BF m buf a n c bd W/\W.heap[bd]? = some (bxS a n c off)):=⟨F,hb⟩
 clear b1 b2 b3 b4 h F hb
 obtain ⟨L0,hL0⟩:∃ L0,L0=LS m buf a n c bd W 65 2:=⟨_,rfl⟩
 go_enter Tryz.func190,Tryz.ntmps190
 go_upto_region 2 with (go_at_call 189;refine k189.mono ?_;rintro e w2 (⟨cc,hr,rfl,hc,hg⟩ | ⟨x,o1,hk,rfl,hD,hg⟩);exact ⟨rfl,Or.inl ⟨cc,hr,rfl,hc,hg⟩⟩)
 replace hk:(if 0<=x/\x<=8192 then JH (Qa (fun o=>rdR (jh buf o)) x.toNat [] o1) k else none)=some res:=hk
 have hx:0<=x/\x<=8192:=Decidable.byContradiction fun h=>by rw [if_neg h] at hk;cases hk
 rw [if_pos hx] at hk
 obtain ⟨N,hN⟩:∃ N:Nat,x=N:=⟨x.toNat,by omega⟩
 subst hN
 have hN0:((N:Int)).toNat=N:=by omega
 rw [hN0] at hk
 have hN1:N<=8192:=by omega
 have S1:Hid (LS m buf a n c bd W 65 2 [] (.slice none 0 0) (bxS a n c o1) m w2):=LS.start ((Okd.start HF.out.1 HF.out.2).Qh hD hg) HF.out.1.lt
 clear hD hg k189 hN0 hx
 go_wp2
 go_loopg [6,10] N (fun kx s6 s10 wr=>∃ (i:Nat) (l:List Vec) (M:Mem) (o:Int),s10=.int .i64 i/\i<=N/\N - i<=kx/\l.length=i/\JH (Qa (fun o=>rdR (jh buf o)) (N - i) l o) k=some res/\Aside (L0 (l.map QC) s6 (bxS a n c o) M wr))
 case atStart=>
  subst hL0
  exact ⟨0,[],m,o1,rfl,Nat.zero_le _,Nat.le_refl _,rfl,hk,S1.out⟩
 case round =>
  obtain ⟨i,l,M,o,rfl,hin,hkx,hl,hrec,S⟩:=hrel
  subst hL0
  by_cases hlt:(i:Int)<N
  ·have hlt':i<N:=by omega
   have hs:N - i=(N - (i+1))+1:=by omega
   rw [hs,Qa,qK] at hrec
   have wi:IntKind.i64.wrap ((i:Int)+1)=((i+1:Nat):Int):=by rw [IntKind.wrap_i64];omega
   have S0:Hid (LS m buf a n c bd W 65 2 (l.map QC) u6 (bxS a n c o) M wr):=S.out
   have ke:=dvec S0.out.O.F S0.out.O.D hrec
   clear S hk hrec hs
   go_wp2_with (first
    | (go_at_call 170;refine ke.mono ?_
       rintro e w3 (⟨cc,hr,rfl,hc,hg⟩ | ⟨y,o2,hy,rfl,hD,hg⟩)
       exact ⟨rfl,Or.inl ⟨cc,hr,rfl,hc,Jb S0.out.O.G hg⟩⟩
       obtain ⟨M2,hM2⟩:∃ M2,M2=M:=⟨_,rfl⟩
       have HY:Hid (_):=hy
       have S2:Hid (LS m buf a n c bd W 65 2 (l.map QC) u6 (bxS a n c o2) M2 w3/\Jq M2 je (QC y).cells [Value.int .i64 y.X,Value.int .i64 y.Y]/\∀ c∈[Value.int .i64 y.X,Value.int .i64 y.Y],jA c=true):=⟨hM2 ▸ S0.out.Qh hD hg,pC y,by intro c hc;simp at hc;rcases hc with rfl | rfl <;> rfl⟩
       clear hD hg hy ke)
    | (at_builtin
       obtain ⟨xs,hxs,hRx,hx1⟩:=S2.out.1.R.xs
       have hml:(l.map QC).length=i:=by rw [List.length_map,hl]
       rw [hml] at hxs
       refine Jc rfl (.tmp 12) (.tmp 15) 115 rfl W.heap.size 65 i1 (.agg #[.int .i64 0,.int .i64 0]) 2 16 Tryz.underlying115 HI.out.1 HI.out.2.1 HI.out.2.2.1 HI.out.2.2.2 rfl (by decide) u6 i xs rfl (World.ownsRow.kept hxs (yD ((Below.refl _ _).alloc (Nat.le_refl _) _)) (by cases u6.ownBlock <;> simp)) ⟨w3.heap.size,0,none⟩ 1 1 [Value.int .i64 y.X,Value.int .i64 y.Y] rfl rfl (Yy w3 [Value.int .i64 y.X,Value.int .i64 y.Y] 65 _ rfl) S2.out.2.2 (by simp [maxLen];omega) (by omega) (by have:=S2.out.1.O.G.size;simp;omega) (by decide) ?_
       intro v4 w4 hown4 hgrow4 hblk4
       have S4:Aside (LS m buf a n c bd W 65 2 ((l++[y]).map QC) v4 (bxS a n c o2) M2 w4):=by
        rw [List.map_append]
        exact S2.out.1.app hml hxs hRx hx1 S2.out.2.1 S2.out.2.2 hown4 hgrow4 hblk4
       clear hown4 hgrow4 hblk4 hxs hRx hx1 hml S0))
   go_roundg (N - (i+1))
   case measure=>omega
   case rel=>exact ⟨i+1,l++[y],M2,o2,by simp,by omega,by omega,by simp [hl],HY.out,S4⟩
  ·have hin':i=N:=by omega
   subst hin'
   have S0:Hid (LS m buf a n c bd W 65 2 (l.map QC) u6 (bxS a n c o) M wr):=S.out
   have hrec:JH (Qa (fun o=>rdR (jh buf o)) (i - i) l o) k=some res:=hrec
   rw [Nat.sub_self] at hrec
   have HK:Hid (k l o=some res):=hrec
   clear S hk hrec
   go_wp2
   go_ret
   obtain ⟨M',hO,hR⟩:=S0.out.fin (by intro x hx;obtain ⟨y,-,rfl⟩:=List.mem_map.1 hx;rfl)
   exact Or.inr ⟨l,o,u6,M',HK.out,rfl,hR,hO⟩
theorem Jo {P:Program} {ops:Array Oper} {rest:List Oper} {Q:Exit->Act->World->Prop} {o:Oper} {a:Act} {w:World} {ty:TypeId} {y:Operand} {d b k:Nat} {cs:List Value} {T:TypeId} (hb:w.heap[b]? = some (.cells cs.toArray T (0,0)))
 (g:o.guard=none) (e:o.op=.load ty y) (hd:o.dst=some d) (hy:a.eval y=.pointer (some ⟨b,0,none⟩)) (ha:tAg P ty=some true) (hs:tSz P ty=some k) (hk:cs.length=k)
 (h:wpList P ops Q rest (a.put (some d) (.agg cs.toArray)) w):wpList P ops Q (o::rest) a w:=
 YB g e hd hy ha (hs.trans (by rw [hk])) hb (fun j v e=>by rw [Nat.zero_add];simpa using e) h
theorem YY {P:Program} {ops:Array Oper} {rest:List Oper} {Q:Exit->Act->World->Prop} {o:Oper} {a:Act} {w:World} {ty:TypeId} {t z:Operand} {b bx k:Nat} {cs arr:List Value} {T T2:TypeId} (hx:w.heap[bx]? = some (.cells cs.toArray T2 (0,0))) (hb:w.heap[b]? = some (.cells arr.toArray T (0,0)))
 (g:o.guard=none) (e:o.op=.store ty t z) (hd:o.dst=none) (ht:a.eval t=.pointer (some ⟨b,0,none⟩)) (hz:a.eval z=.agg cs.toArray) (hs:tSz P ty=some k) (hk:cs.length=k) (hk2:arr.length=k) (h1:∀ c∈cs,c.oneCell'=true)
 (h:∀ w',w'.heap[b]? = some (.cells cs.toArray T (0,0))->w.grownBy w' (some b)->wpList P ops Q rest a w'):wpList P ops Q (o::rest) a w:=
 jL g e hd ht hz (hs.trans (by rw [hk])) hb (by omega) h1 fun w' hw hg=>h w' (by rw [hw,List.drop_eq_nil_of_le (by omega)];simp) hg
theorem qx {l:List Value} (h:l.all jA=true):∀ c∈l,jA c=true:=List.all_eq_true.1 h
theorem kn {m:Mem} {sz:Nat} {l:List AV} {v:Value} (h:Rep m je (.sl false sz l) v):∃ a n c,v=.slice a n c:=by
 cases h <;> exact ⟨_,_,_,rfl⟩
theorem yr {P:Program} {fn:Func} {t:Tmp} {ty:TypeId} {b k:Nat} {cs:List Value} {T:TypeId} {w:World} {tmps:Array Value} (hb:w.heap[b]? = some (.cells cs.toArray T (0,0))) (h:fn.results=#[.cell t ty]) (ht:tmps.getD t undef=.pointer (some ⟨b,0,none⟩)) (ha:tAg P ty=some true) (hs:tSz P ty=some k) (hk:cs.length=k):
 (results fn tmps).run P w=.ok (.agg cs.toArray) w:=wJ h ht ha (hs.trans (by rw [hk])) hb
set_option maxHeartbeats 16000000 in
theorem dfix {m:Mem} {buf:List UInt8} {a:Option Addr} {n c:Nat} {bd:Nat} {off:Int} {W:World} {res:Int ⊕ (Jy × Int)} (F:BF m buf a n c bd W) (hb:DB bd (.slice a n c) off W) (h:vG (jd buf) (jh buf) (jf buf) off=some res):
 Calls Tryz.prog 173 #[.pointer (some ⟨bd,0,none⟩)] W (PR yj m buf a n c bd W res):=by
 have e169:=Tryz.call169
 have e170:=Tryz.call170
 have e171:=Tryz.call171
 have e190:=Tryz.call190
 have hmf:∀ (fn:Fn) (first cap:Array Value) (w:World),(Instr.makeFunc fn first cap).run Tryz.prog w=.ok (.func fn first cap) w:=fun _ _ _ _=>rfl
 have HS:Hid (BS m m buf a n c bd W W.heap.size (W.heap.size+1) 119 [.int .i64 0,.int .i64 0,.slice none 0 0,.int .i64 0,.int .i64 0,.int .i64 0,.bool false,.int .i64 0,.int .i64 0,.int .i64 0] [.int .i64 0,.int .i64 0,.slice none 0 0,.int .i64 0,.int .i64 0,.int .i64 0,.bool false,.int .i64 0,.int .i64 0,.int .i64 0] (bxS a n c off) ((W.alloc (.cells ([.int .i64 0,.int .i64 0,.slice none 0 0,.int .i64 0,.int .i64 0,.int .i64 0,.bool false,.int .i64 0,.int .i64 0,.int .i64 0]).toArray 119)).alloc (.cells ([.int .i64 0,.int .i64 0,.slice none 0 0,.int .i64 0,.int .i64 0,.int .i64 0,.bool false,.int .i64 0,.int .i64 0,.int .i64 0]).toArray 119))):=BS.start F hb 119 [.int .i64 0,.int .i64 0,.slice none 0 0,.int .i64 0,.int .i64 0,.int .i64 0,.bool false,.int .i64 0,.int .i64 0,.int .i64 0] [.int .i64 0,.int .i64 0,.slice none 0 0,.int .i64 0,.int .i64 0,.int .i64 0,.bool false,.int .i64 0,.int .i64 0,.int .i64 0]
 unfold vG at h
 have HK:Hid (_=some res):=h
 have ra:tAg Tryz.prog 119=some true:=by kernel_rfl
 have rz:tSz Tryz.prog 119=some 10:=by kernel_rfl
 have HR:Hid (_/\_):=⟨ra,rz⟩
 clear ra rz F hb h
 go_enter Tryz.func173,Tryz.ntmps173
 go_wp2_with (first
  | (go_at_call 169;refine (dint HS.out.O.F HS.out.O.D HK.out).mono ?_;rintro e w2 (⟨cc,hr,rfl,hc,hg⟩ | ⟨x,o',hk,rfl,hD,hg⟩);exact ⟨rfl,Or.inl ⟨cc,hr,rfl,hc,Jb HS.out.O.G hg⟩⟩;have HT:Hid (BS m _ buf a n c bd W W.heap.size (W.heap.size+1) 119 [.int .i64 0,.int .i64 0,.slice none 0 0,.int .i64 0,.int .i64 0,.int .i64 0,.bool false,.int .i64 0,.int .i64 0,.int .i64 0] _ (bxS a n c o') w2):=HS.out.Qh hD hg;have HL:Hid _:=hk;clear HS HK hD hg hk;have HS:=HT;have HK:=HL;clear HT HL)
  | (go_at_call 170;refine (dvec HS.out.O.F HS.out.O.D HK.out).mono ?_;rintro e w2 (⟨cc,hr,rfl,hc,hg⟩ | ⟨x,o',hk,rfl,hD,hg⟩);exact ⟨rfl,Or.inl ⟨cc,hr,rfl,hc,Jb HS.out.O.G hg⟩⟩;have HT:Hid (BS m _ buf a n c bd W W.heap.size (W.heap.size+1) 119 [.int .i64 0,.int .i64 0,.slice none 0 0,.int .i64 0,.int .i64 0,.int .i64 0,.bool false,.int .i64 0,.int .i64 0,.int .i64 0] _ (bxS a n c o') w2):=HS.out.Qh hD hg;have HL:Hid _:=hk;clear HS HK hD hg hk;have HS:=HT;have HK:=HL;clear HT HL)
  | (go_at_call 171;refine (jdR HS.out.O.F HS.out.O.D HK.out).mono ?_;rintro e w2 (⟨cc,hr,rfl,hc,hg⟩ | ⟨x,o',hk,rfl,hD,hg⟩);exact ⟨rfl,Or.inl ⟨cc,hr,rfl,hc,Jb HS.out.O.G hg⟩⟩;have HT:Hid (BS m _ buf a n c bd W W.heap.size (W.heap.size+1) 119 [.int .i64 0,.int .i64 0,.slice none 0 0,.int .i64 0,.int .i64 0,.int .i64 0,.bool false,.int .i64 0,.int .i64 0,.int .i64 0] _ (bxS a n c o') w2):=HS.out.Qh hD hg;have HL:Hid _:=hk;clear HS HK hD hg hk;have HS:=HT;have HK:=HL;clear HT HL)
  | (go_at_call 190;refine (dvecs HS.out.O.F HS.out.O.D HK.out).mono ?_;rintro e w2 (⟨cc,hr,rfl,hc,hg⟩ | ⟨x,o',v,M2,hk,rfl,hR,hO⟩);exact ⟨rfl,Or.inl ⟨cc,hr,rfl,hc,Jb HS.out.O.G hg⟩⟩;obtain ⟨va,vn,vc,rfl⟩:=kn (sz:=2) (l:=x.map QC) hR;have HT:Hid (BS m _ buf a n c bd W W.heap.size (W.heap.size+1) 119 [.int .i64 0,.int .i64 0,.slice none 0 0,.int .i64 0,.int .i64 0,.int .i64 0,.bool false,.int .i64 0,.int .i64 0,.int .i64 0] _ (bxS a n c o') w2):=HS.out.call hO;have HV:Hid _:=hR;have HL:Hid _:=hk;clear HS HK hO hR hk;have HS:=HT;have HK:=HL;clear HT HL)
  | (refine JE rfl rfl rfl rfl rfl rfl (by kernel_rfl) HS.out.X (Nat.le_of_ble_eq_true rfl) rfl ?_;intro w2 hX hg;simp only [List.set_cons_succ,List.set_cons_zero] at hX;have HT:Hid (BS m _ buf a n c bd W W.heap.size (W.heap.size+1) 119 [.int .i64 0,.int .i64 0,.slice none 0 0,.int .i64 0,.int .i64 0,.int .i64 0,.bool false,.int .i64 0,.int .i64 0,.int .i64 0] _ _ w2):=HS.out.store hX hg;clear HS hX hg;have HS:=HT;clear HT)
  | (refine qP rfl rfl rfl rfl rfl (by kernel_rfl) HS.out.X (Nat.le_of_ble_eq_true rfl) rfl rfl ?_;intro w2 hX hg;simp only [List.set_cons_succ,List.set_cons_zero] at hX;have HT:Hid (BS m _ buf a n c bd W W.heap.size (W.heap.size+1) 119 [.int .i64 0,.int .i64 0,.slice none 0 0,.int .i64 0,.int .i64 0,.int .i64 0,.bool false,.int .i64 0,.int .i64 0,.int .i64 0] _ _ w2):=HS.out.store hX hg;clear HS hX hg;have HS:=HT;clear HT)
  | (refine Jo HS.out.X rfl rfl rfl rfl HR.out.1 HR.out.2 rfl ?_)
  | (refine YY HS.out.X HS.out.K rfl rfl rfl rfl rfl HR.out.2 rfl rfl (qx rfl) ?_;intro w2 hX hg;have HF:Hid (_/\_):=⟨hX,HS.out.fin hg⟩;clear hX hg))
 have r0:Tryz.f173.results=#[.cell 2 119]:=rfl
 have hk:=HK.out
 cases hk
 refine bodyPost_ret (yr HF.out.1 r0 rfl HR.out.1 HR.out.2 rfl) rfl ?_
 refine Or.inr ⟨_,_,_,_,rfl,rfl,?_,HF.out.2⟩
 exact .agg (l:=_) ((Ke [_,_]).append (.cons HV.out (Ke [_,_,_,_,_,_,_]))) (qx rfl)
theorem Px:∀ (l:List Value) (k:Nat) (a:Array Value) (j:Nat),k+l.length<=a.size->(List.foldl (fun (cs:Array Value) (x:Value × Nat)=>cs.setIfInBounds x.snd x.fst) a (l.zipIdx k))[j]? = if k<=j/\j<k+l.length then l[j - k]? else a[j]?
 | [],k,a,j,h=>by
   rw [if_neg (by simp)];rfl
 | x :: l,k,a,j,h=>by
   rw [List.length_cons] at h
   rw [List.zipIdx_cons,List.foldl_cons,Px l (k+1) _ j (by simp;omega),List.length_cons]
   by_cases hj:k=j
   ·subst hj
    rw [if_neg (by omega),if_pos (by omega),Nat.sub_self]
    show (a.setIfInBounds k x)[k]? = some x
    exact Array.getElem?_setIfInBounds_self_of_lt (by omega)
   ·have e1:(a.setIfInBounds (x,k).snd (x,k).fst)[j]? = a[j]? := Array.getElem?_setIfInBounds_ne hj
    rw [e1]
    by_cases h1:k+1<=j/\j<k+1+l.length
    ·rw [if_pos h1,if_pos (by omega)]
     have:j - k=(j - (k+1))+1:=by omega
     rw [this,List.getElem?_cons_succ]
    ·rw [if_neg h1,if_neg (by omega)]
theorem Uj (l:List Value) (a:Array Value) (h:a.size=l.length):List.foldl (fun (cs:Array Value) (x:Value × Nat)=>cs.setIfInBounds x.snd x.fst) a l.zipIdx=l.toArray:=by
 refine Array.ext_getElem? fun j=>?_
 rw [Px l 0 a j (by omega)]
 by_cases hj:j<l.length
 ·rw [if_pos (by omega)];simp
 ·rw [if_neg (by omega),Array.getElem?_eq_none (by omega)]
  simp;omega
def jdD (y:Jy) (h:Value):List Value:=[.int .i64 y.Shape.Kind,.int .i64 y.Shape.qM,h,.int .i64 y.yy,.int .i64 y.JL,.int .i64 y.jX,.bool y.YX,.int .i64 y.Category,.int .i64 y.Mask,.int .i64 y.QH]
theorem jge {M:Mem} {y:Jy} {v:Value} (h:Rep M je (yj y) v):∃ a n c,v=.agg (jdD y (.slice a n c)).toArray/\Jq M je (yj y).cells (jdD y (.slice a n c))/\∀ x∈jdD y (.slice a n c),jA x=true:=by
 obtain ⟨cs,rfl,h1,h2⟩:=Qn (l:=(yj y).cells) h
 have h3:Jq M je (([.int .i64 y.Shape.Kind,.int .i64 y.Shape.qM]:List Value).map AV.v++(wy y.Shape.jS::([.int .i64 y.yy,.int .i64 y.JL,.int .i64 y.jX,.bool y.YX,.int .i64 y.Category,.int .i64 y.Mask,.int .i64 y.QH]:List Value).map AV.v)) cs:=h1
 obtain ⟨v1,v2,rfl,q1,q2⟩:=h3.split
 obtain rfl:=Jz q1
 obtain ⟨v,t,rfl,hv,ht⟩:=q2.inv
 obtain rfl:=Jz ht
 obtain ⟨a,n,c,rfl⟩:=kn (sz:=2) (l:=y.Shape.jS.map QC) hv
 exact ⟨a,n,c,rfl,h1,h2⟩
set_option maxHeartbeats 4000000 in
theorem dfixs {m:Mem} {buf:List UInt8} {a:Option Addr} {n c:Nat} {bd:Nat} {off:Int} {W:World} {β:Type} {k:List Jy->Int->Option (Int ⊕ β)} {res:Int ⊕ β} (F:BF m buf a n c bd W) (hb:DB bd (.slice a n c) off W) (h:JH (kI (jd buf) (vG (jd buf) (jh buf) (jf buf)) off) k=some res):
 Calls Tryz.prog 172 #[.pointer (some ⟨bd,0,none⟩),.func (.func 173) #[.pointer (some ⟨bd,0,none⟩)] #[]] W (PK zS m buf a n c bd W k res):=by
 rw [kI,qK] at h
 have e189:=Tryz.call189
 have e173:=Tryz.call173
 have k189:=dlen F hb h
 obtain ⟨i1,b1,b2,b3,b4⟩:=info_parts (P:=Tryz.prog) (e:=119) (z:=(.agg #[.int .i64 0,.int .i64 0,.slice none 0 0,.int .i64 0,.int .i64 0,.int .i64 0,.bool false,.int .i64 0,.int .i64 0,.int .i64 0])) (size:=10) (bytes:=96) (by kernel_rfl)
 have HI:Hid (_/\_/\_/\_):=⟨b1,b2,b3,b4⟩
 have HF:Hid (BF m buf a n c bd W/\W.heap[bd]? = some (bxS a n c off)):=⟨F,hb⟩
 clear b1 b2 b3 b4 h F hb
 obtain ⟨L0,hL0⟩:∃ L0,L0=LS m buf a n c bd W 119 10:=⟨_,rfl⟩
 go_enter Tryz.func172,Tryz.ntmps172
 go_upto_region 2 with (go_at_call 189;refine k189.mono ?_;rintro e w2 (⟨cc,hr,rfl,hc,hg⟩ | ⟨x,o1,hk,rfl,hD,hg⟩);exact ⟨rfl,Or.inl ⟨cc,hr,rfl,hc,hg⟩⟩)
 replace hk:(if 0<=x/\x<=8192 then JH (Qa (vG (jd buf) (jh buf) (jf buf)) x.toNat [] o1) k else none)=some res:=hk
 have hx:0<=x/\x<=8192:=Decidable.byContradiction fun h=>by rw [if_neg h] at hk;cases hk
 rw [if_pos hx] at hk
 obtain ⟨N,hN⟩:∃ N:Nat,x=N:=⟨x.toNat,by omega⟩
 subst hN
 have hN0:((N:Int)).toNat=N:=by omega
 rw [hN0] at hk
 have hN1:N<=8192:=by omega
 have S1:Hid (LS m buf a n c bd W 119 10 [] (.slice none 0 0) (bxS a n c o1) m w2):=LS.start ((Okd.start HF.out.1 HF.out.2).Qh hD hg) HF.out.1.lt
 clear hD hg k189 hN0 hx
 go_wp2
 go_loopg [6,10] N (fun kx s6 s10 wr=>∃ (i:Nat) (l:List Jy) (M:Mem) (o:Int),s10=.int .i64 i/\i<=N/\N - i<=kx/\l.length=i/\JH (Qa (vG (jd buf) (jh buf) (jf buf)) (N - i) l o) k=some res/\Aside (L0 (l.map yj) s6 (bxS a n c o) M wr))
 case atStart=>
  subst hL0
  exact ⟨0,[],m,o1,rfl,Nat.zero_le _,Nat.le_refl _,rfl,hk,S1.out⟩
 case round =>
  obtain ⟨i,l,M,o,rfl,hin,hkx,hl,hrec,S⟩:=hrel
  subst hL0
  by_cases hlt:(i:Int)<N
  ·have hlt':i<N:=by omega
   have hs:N - i=(N - (i+1))+1:=by omega
   rw [hs,Qa,qK] at hrec
   have wi:IntKind.i64.wrap ((i:Int)+1)=((i+1:Nat):Int):=by rw [IntKind.wrap_i64];omega
   have S0:Hid (LS m buf a n c bd W 119 10 (l.map yj) u6 (bxS a n c o) M wr):=S.out
   have ke:=PR.k (fun r hr=>dfix S0.out.O.F S0.out.O.D hr) hrec
   clear S hk hrec hs
   go_wp2_with (first
    | (go_at_call 173;refine ke.mono ?_
       rintro e w3 (⟨cc,hr,rfl,hc,hg⟩ | ⟨y,o2,v0,M2,hy,rfl,hR,hO⟩)
       exact ⟨rfl,Or.inl ⟨cc,hr,rfl,hc,Jb S0.out.O.G hg⟩⟩
       obtain ⟨fa,fn,fc,rfl,hR1,hR2⟩:=jge hR
       have hgl:(jdD y (.slice fa fn fc)).length=10:=rfl
       have HY:Hid (_):=hy
       have S2:Hid (LS m buf a n c bd W 119 10 (l.map yj) u6 (bxS a n c o2) M2 w3/\Jq M2 je (yj y).cells (jdD y (.slice fa fn fc))/\∀ c∈jdD y (.slice fa fn fc),jA c=true):=⟨S0.out.call hO,hR1,hR2⟩
       clear hR hR1 hR2 hO hy ke)
    | (at_builtin
       obtain ⟨xs,hxs,hRx,hx1⟩:=S2.out.1.R.xs
       have hml:(l.map yj).length=i:=by rw [List.length_map,hl]
       rw [hml] at hxs
       rw [Uj (jdD y (.slice fa fn fc))]
       rotate_left
       ·rfl
       refine Jc rfl (.tmp 12) (.tmp 15) 69 rfl W.heap.size 119 i1 (.agg #[.int .i64 0,.int .i64 0,.slice none 0 0,.int .i64 0,.int .i64 0,.int .i64 0,.bool false,.int .i64 0,.int .i64 0,.int .i64 0]) 10 96 Tryz.underlying69 HI.out.1 HI.out.2.1 HI.out.2.2.1 HI.out.2.2.2 rfl (by decide) u6 i xs rfl (World.ownsRow.kept hxs (yD ((Below.refl _ _).alloc (Nat.le_refl _) _)) (by cases u6.ownBlock <;> simp)) ⟨w3.heap.size,0,none⟩ 1 1 (jdD y (.slice fa fn fc)) rfl rfl (Yy w3 (jdD y (.slice fa fn fc)) 119 _ rfl) S2.out.2.2 (by simp [maxLen];omega) (by omega) (by have:=S2.out.1.O.G.size;simp;omega) (by decide) ?_
       intro v4 w4 hown4 hgrow4 hblk4
       have S4:Aside (LS m buf a n c bd W 119 10 ((l++[y]).map yj) v4 (bxS a n c o2) M2 w4):=by
        rw [List.map_append]
        exact S2.out.1.app hml hxs hRx hx1 S2.out.2.1 S2.out.2.2 hown4 hgrow4 hblk4
       clear hown4 hgrow4 hblk4 hxs hRx hx1 hml S0))
   go_roundg (N - (i+1))
   case measure=>omega
   case rel=>exact ⟨i+1,l++[y],M2,o2,by simp,by omega,by omega,by simp [hl],HY.out,S4⟩
  ·have hin':i=N:=by omega
   subst hin'
   have S0:Hid (LS m buf a n c bd W 119 10 (l.map yj) u6 (bxS a n c o) M wr):=S.out
   have hrec:JH (Qa (vG (jd buf) (jh buf) (jf buf)) (i - i) l o) k=some res:=hrec
   rw [Nat.sub_self] at hrec
   have HK:Hid (k l o=some res):=hrec
   clear S hk hrec
   go_wp2
   go_ret
   obtain ⟨M',hO,hR⟩:=S0.out.fin (by intro x hx;obtain ⟨y,-,rfl⟩:=List.mem_map.1 hx;rfl)
   exact Or.inr ⟨l,o,u6,M',HK.out,rfl,hR,hO⟩
set_option maxHeartbeats 16000000 in
theorem dbody {m:Mem} {buf:List UInt8} {a:Option Addr} {n c:Nat} {bd:Nat} {off:Int} {W:World} {res:Int ⊕ (Body × Int)} (F:BF m buf a n c bd W) (hb:DB bd (.slice a n c) off W) (h:QD (jd buf) (jh buf) (jf buf) off=some res):
 Calls Tryz.prog 146 #[.pointer (some ⟨bd,0,none⟩)] W (PR Qk m buf a n c bd W res):=by
 have e169:=Tryz.call169
 have e170:=Tryz.call170
 have e171:=Tryz.call171
 have e172:=Tryz.call172
 have hmf:∀ (fn:Fn) (first cap:Array Value) (w:World),(Instr.makeFunc fn first cap).run Tryz.prog w=.ok (.func fn first cap) w:=fun _ _ _ _=>rfl
 have HS:Hid (BS m m buf a n c bd W W.heap.size (W.heap.size+1) 71 [.int .i64 0,.int .i64 0,.int .i64 0,.int .i64 0,.int .i64 0,.int .i64 0,.int .i64 0,.int .i64 0,.int .i64 0,.int .i64 0,.int .i64 0,.int .i64 0,.int .i64 0,.int .i64 0,.bool false,.bool false,.bool false,.bool false,.int .i64 0,.slice none 0 0] [.int .i64 0,.int .i64 0,.int .i64 0,.int .i64 0,.int .i64 0,.int .i64 0,.int .i64 0,.int .i64 0,.int .i64 0,.int .i64 0,.int .i64 0,.int .i64 0,.int .i64 0,.int .i64 0,.bool false,.bool false,.bool false,.bool false,.int .i64 0,.slice none 0 0] (bxS a n c off) ((W.alloc (.cells ([.int .i64 0,.int .i64 0,.int .i64 0,.int .i64 0,.int .i64 0,.int .i64 0,.int .i64 0,.int .i64 0,.int .i64 0,.int .i64 0,.int .i64 0,.int .i64 0,.int .i64 0,.int .i64 0,.bool false,.bool false,.bool false,.bool false,.int .i64 0,.slice none 0 0]).toArray 71)).alloc (.cells ([.int .i64 0,.int .i64 0,.int .i64 0,.int .i64 0,.int .i64 0,.int .i64 0,.int .i64 0,.int .i64 0,.int .i64 0,.int .i64 0,.int .i64 0,.int .i64 0,.int .i64 0,.int .i64 0,.bool false,.bool false,.bool false,.bool false,.int .i64 0,.slice none 0 0]).toArray 71))):=BS.start F hb 71 [.int .i64 0,.int .i64 0,.int .i64 0,.int .i64 0,.int .i64 0,.int .i64 0,.int .i64 0,.int .i64 0,.int .i64 0,.int .i64 0,.int .i64 0,.int .i64 0,.int .i64 0,.int .i64 0,.bool false,.bool false,.bool false,.bool false,.int .i64 0,.slice none 0 0] [.int .i64 0,.int .i64 0,.int .i64 0,.int .i64 0,.int .i64 0,.int .i64 0,.int .i64 0,.int .i64 0,.int .i64 0,.int .i64 0,.int .i64 0,.int .i64 0,.int .i64 0,.int .i64 0,.bool false,.bool false,.bool false,.bool false,.int .i64 0,.slice none 0 0]
 unfold QD at h
 have HK:Hid (_=some res):=h
 have ra:tAg Tryz.prog 71=some true:=by kernel_rfl
 have rz:tSz Tryz.prog 71=some 20:=by kernel_rfl
 have HR:Hid (_/\_):=⟨ra,rz⟩
 clear ra rz F hb h
 go_enter Tryz.func146,Tryz.ntmps146
 go_wp2_with (first
  | (go_at_call 169;refine (dint HS.out.O.F HS.out.O.D HK.out).mono ?_;rintro e w2 (⟨cc,hr,rfl,hc,hg⟩ | ⟨x,o',hk,rfl,hD,hg⟩);exact ⟨rfl,Or.inl ⟨cc,hr,rfl,hc,Jb HS.out.O.G hg⟩⟩;have HT:Hid (BS m _ buf a n c bd W W.heap.size (W.heap.size+1) 71 [.int .i64 0,.int .i64 0,.int .i64 0,.int .i64 0,.int .i64 0,.int .i64 0,.int .i64 0,.int .i64 0,.int .i64 0,.int .i64 0,.int .i64 0,.int .i64 0,.int .i64 0,.int .i64 0,.bool false,.bool false,.bool false,.bool false,.int .i64 0,.slice none 0 0] _ (bxS a n c o') w2):=HS.out.Qh hD hg;have HL:Hid _:=hk;clear HS HK hD hg hk;have HS:=HT;have HK:=HL;clear HT HL)
  | (go_at_call 170;refine (dvec HS.out.O.F HS.out.O.D HK.out).mono ?_;rintro e w2 (⟨cc,hr,rfl,hc,hg⟩ | ⟨x,o',hk,rfl,hD,hg⟩);exact ⟨rfl,Or.inl ⟨cc,hr,rfl,hc,Jb HS.out.O.G hg⟩⟩;have HT:Hid (BS m _ buf a n c bd W W.heap.size (W.heap.size+1) 71 [.int .i64 0,.int .i64 0,.int .i64 0,.int .i64 0,.int .i64 0,.int .i64 0,.int .i64 0,.int .i64 0,.int .i64 0,.int .i64 0,.int .i64 0,.int .i64 0,.int .i64 0,.int .i64 0,.bool false,.bool false,.bool false,.bool false,.int .i64 0,.slice none 0 0] _ (bxS a n c o') w2):=HS.out.Qh hD hg;have HL:Hid _:=hk;clear HS HK hD hg hk;have HS:=HT;have HK:=HL;clear HT HL)
  | (go_at_call 171;refine (jdR HS.out.O.F HS.out.O.D HK.out).mono ?_;rintro e w2 (⟨cc,hr,rfl,hc,hg⟩ | ⟨x,o',hk,rfl,hD,hg⟩);exact ⟨rfl,Or.inl ⟨cc,hr,rfl,hc,Jb HS.out.O.G hg⟩⟩;have HT:Hid (BS m _ buf a n c bd W W.heap.size (W.heap.size+1) 71 [.int .i64 0,.int .i64 0,.int .i64 0,.int .i64 0,.int .i64 0,.int .i64 0,.int .i64 0,.int .i64 0,.int .i64 0,.int .i64 0,.int .i64 0,.int .i64 0,.int .i64 0,.int .i64 0,.bool false,.bool false,.bool false,.bool false,.int .i64 0,.slice none 0 0] _ (bxS a n c o') w2):=HS.out.Qh hD hg;have HL:Hid _:=hk;clear HS HK hD hg hk;have HS:=HT;have HK:=HL;clear HT HL)
  | (go_at_call 172;refine (dfixs HS.out.O.F HS.out.O.D HK.out).mono ?_;rintro e w2 (⟨cc,hr,rfl,hc,hg⟩ | ⟨x,o',v,M2,hk,rfl,hR,hO⟩);exact ⟨rfl,Or.inl ⟨cc,hr,rfl,hc,Jb HS.out.O.G hg⟩⟩;obtain ⟨va,vn,vc,rfl⟩:=kn (sz:=10) (l:=x.map yj) hR;have HT:Hid (BS m _ buf a n c bd W W.heap.size (W.heap.size+1) 71 [.int .i64 0,.int .i64 0,.int .i64 0,.int .i64 0,.int .i64 0,.int .i64 0,.int .i64 0,.int .i64 0,.int .i64 0,.int .i64 0,.int .i64 0,.int .i64 0,.int .i64 0,.int .i64 0,.bool false,.bool false,.bool false,.bool false,.int .i64 0,.slice none 0 0] _ (bxS a n c o') w2):=HS.out.call hO;have HV:Hid _:=hR;have HL:Hid _:=hk;clear HS HK hO hR hk;have HS:=HT;have HK:=HL;clear HT HL)
  | (refine JE rfl rfl rfl rfl rfl rfl (by kernel_rfl) HS.out.X (Nat.le_of_ble_eq_true rfl) rfl ?_;intro w2 hX hg;simp only [List.set_cons_succ,List.set_cons_zero] at hX;have HT:Hid (BS m _ buf a n c bd W W.heap.size (W.heap.size+1) 71 [.int .i64 0,.int .i64 0,.int .i64 0,.int .i64 0,.int .i64 0,.int .i64 0,.int .i64 0,.int .i64 0,.int .i64 0,.int .i64 0,.int .i64 0,.int .i64 0,.int .i64 0,.int .i64 0,.bool false,.bool false,.bool false,.bool false,.int .i64 0,.slice none 0 0] _ _ w2):=HS.out.store hX hg;clear HS hX hg;have HS:=HT;clear HT)
  | (refine qP rfl rfl rfl rfl rfl (by kernel_rfl) HS.out.X (Nat.le_of_ble_eq_true rfl) rfl rfl ?_;intro w2 hX hg;simp only [List.set_cons_succ,List.set_cons_zero] at hX;have HT:Hid (BS m _ buf a n c bd W W.heap.size (W.heap.size+1) 71 [.int .i64 0,.int .i64 0,.int .i64 0,.int .i64 0,.int .i64 0,.int .i64 0,.int .i64 0,.int .i64 0,.int .i64 0,.int .i64 0,.int .i64 0,.int .i64 0,.int .i64 0,.int .i64 0,.bool false,.bool false,.bool false,.bool false,.int .i64 0,.slice none 0 0] _ _ w2):=HS.out.store hX hg;clear HS hX hg;have HS:=HT;clear HT)
  | (refine Jo HS.out.X rfl rfl rfl rfl HR.out.1 HR.out.2 rfl ?_)
  | (refine YY HS.out.X HS.out.K rfl rfl rfl rfl rfl HR.out.2 rfl rfl (qx rfl) ?_;intro w2 hX hg;have HF:Hid (_/\_):=⟨hX,HS.out.fin hg⟩;clear hX hg))
 have r0:Tryz.f146.results=#[.cell 2 71]:=rfl
 have hk:=HK.out
 cases hk
 refine bodyPost_ret (yr HF.out.1 r0 rfl HR.out.1 HR.out.2 rfl) rfl ?_
 refine Or.inr ⟨_,_,_,_,rfl,rfl,?_,HF.out.2⟩
 exact .agg (l:=_) ((Ke [_,_,_,_,_,_,_,_,_,_,_,_,_,_,_,_,_,_,_]).append (.cons HV.out .nil)) (qx rfl)
end GoForm
end
