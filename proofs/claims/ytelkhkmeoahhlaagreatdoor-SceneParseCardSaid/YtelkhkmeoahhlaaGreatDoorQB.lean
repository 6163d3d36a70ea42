/- Several texts in one. No conditions. -/
import Derived.Test.YtelkhkmeoahhlaaGreatDoorQA
import Derived.Orders
section
set_option linter.all false
namespace Go.Rx
section
open Go.RowKit
variable [GlC]
def vL (id:Nat):Nat->Option Nat:=fun i=>if i=id then none else some i
def reE (q:Nat->Option Nat)(e:Env):Env:=e.map fun p=>(p.1,p.2.re q)
theorem WX {α β:Type}(g:α->β)(t:Nat):∀(l:List (Nat × α)),find t (l.map fun p=>(p.1,g p.2))=(find t l).map g
 | []=>rfl
 |(k,x)::r=>by
  rw[List.map_cons,jk,jk]
  split
  ·rfl
  ·exact WX g t r
theorem wy {α:Type}(q:Nat->Bool)(t:Nat):∀(l:List (Nat × α)),find t (l.filter fun p=>q p.1)=if q t then find t l else none
 | []=>by simp[find]
 |(k, x)::r=>by
  rw[List.filter_cons]
  by_cases hk:k=t
  ·subst hk
   by_cases hq:q k=true
   ·simp[hq,jk]
   ·have:=wy q k r
    simp only[hq]at this⊢
    simpa using this
  ·have ih:=wy q t r
   split
   ·rw[jk,jk,if_neg hk,if_neg hk];exact ih
   ·rw[jk,if_neg hk];exact ih
theorem jdF {q e t}:find t (reE q e)=(find t e).map (·.re q):=WX (fun x=>AV.re q x) t e
def reB (q:Nat->Option Nat):Mc->Mc
 | .cells l=>.cells (reL q l)
 | .iter s p=>.iter s p
def jiL (id:Nat)(h:Hp):Hp:=(h.filter fun p=>p.1 != id).map fun p=>(p.1,reB (vL id) p.2)
theorem xG {id h t}:find t (jiL id h)=if t=id then none else(find t h).map (reB (vL id)):=by
 unfold jiL
 rw[WX (fun x=>reB (vL id) x),wy (fun k=>k != id)]
 by_cases ht:t=id
 ·simp[ht]
 ·simp[ht]
section
variable {P:Program} {o:Oper} {e:Env}
theorem AEx.appRow {L:LS}{t tz y z E sz by_ d id need}{l2 xs:List AV}(hd:o.dst=some d)(ho:o.op=.call {callee:=.builtin .append,args:=#[y,z],argTypes:=#[t,tz]})(ht:Vu P t E sz by_)
 (hy:jK L.e y (.rw id sz)) (hl:find id L.h=some (.cells (xs.flatMap AV.cells))) (hxs:∀x∈xs,x.cells.length=sz) (hbare:JS (xs.flatMap AV.cells)=true) (hz:KQ P o L.e need sz tz z l2) (hneed:∀p∈need,find p.1 L.h=some (.cells p.2)) (hlen:(xs.length+l2.length)*by_<=140737488355328) (h63:xs.length+l2.length<=9223372036854775807):
 AEx P o L (·=⟨(d,.rw id sz)::reE (vL id) L.e,L.s.map (reE (vL id)),(id,.cells (xs.flatMap AV.cells++l2.flatMap AV.cells))::jiL id L.h,fun i=>L.f i/\i≠id⟩):=by
 intro N W0 m0 sa m bl a w S hdN next Q k
 have hR:Reads o L.e m bl a:=fun t _ y hy=>S.env t y hy
 have r1:=hy.rep hR (by simp[ho,Op.operands,Call.operands])
 obtain⟨cs2,src,uf,el2⟩:=hz _ _ _ m bl a w S.ws hneed hR
 obtain⟨i,zv,hi1,hi2,hi3,hi4,hi5,hi6⟩:=ht.info
 have hq:∀x i',vL id x=some i'->x=i'/\x≠id:=by
  intro x i' h
  unfold vL at h
  split at h
  ·cases h
  ·cases h;exact⟨rfl,‹_›⟩
 -- how it goes on: the name stands for nothing or for block nb
 have fin:∀(v:Value) (w':World) (X:Bnd),(execOp a.eval o).run P w=.ok (.value v) w'->Below W0.heap.size W0 w'->Imm m w'->
  (∀i b n,i≠id->bl i=some (.blk b n)->w'.heap[b]? = w.heap[b]?)->w.heap.size<=w'.heap.size->
  (∀b n,X=.blk b n->W0.heap.size<=b/\b<w'.heap.size/\(∀o,m b o=none)/\(∀i,i≠id->∀n',bl i≠some (.blk b n')))->
  ((X=.nil/\xs.flatMap AV.cells++l2.flatMap AV.cells=[])\/∃b n arr T pre rest,X=.blk b n/\w'.heap[b]? = some (.cells arr T (0,0))/\(arr.size,pre.length)=n/\arr.toList=pre++rest/\
    JK m (fun i=>if i=id then some X else bl i) (xs.flatMap AV.cells++l2.flatMap AV.cells) pre/\∀c∈pre,jL c=true)->
  (∀bl',bl' id=some X->Rep m bl' (.rw id sz) v)->o.wp P a w next Q:=by
  intro v w' X hrun hbel himm hold hsz hX hblk hrep
  unfold Oper.wp
  rw[hrun,Oper.upon_value]
  have hre:∀{x v},Rep m bl x v->Rep m (fun i=>if i=id then some X else bl i) (x.re (vL id)) v:=by
   intro x v h
   refine h.re ?_
   intro j j' hj b hb
   obtain⟨rfl,h2⟩:=hq _ _ hj
   show(if _ then _ else _)=_
   rw[if_neg h2];exact hb
  have hreL:∀{x v},JK m bl x v->JK m (fun i=>if i=id then some X else bl i) (reL (vL id) x) v:=by
   intro x v h
   refine h.re ?_
   intro j j' hj b hb
   obtain⟨rfl,h2⟩:=hq _ _ hj
   show(if _ then _ else _)=_
   rw[if_neg h2];exact hb
  have hE:∀{e ts},qv m bl e ts->qv m (fun i=>if i=id then some X else bl i) (reE (vL id) e) ts:=by
   intro e ts h t x hx
   rw[jdF]at hx
   obtain⟨y,h1,rfl⟩:=Option.map_eq_some_iff.1 hx
   exact hre (h t y h1)
  refine k _ _ w' m (fun i=>if i=id then some X else bl i) rfl ⟨?_,?_,hbel,⟨himm,S.ws.le,S.ws.grow,?_,?_,?_,?_,S.ws.gl⟩,?_,?_,?_⟩
  ·simp[Act.put,hd,S.defers]
  ·simp[Act.put,hd,S.size]
  ·intro id' l' hf
   rw[jk]at hf
   split at hf
   ·rename_i hk;subst hk;cases hf
    rcases hblk with ⟨h1,h2⟩|⟨b,n,arr,T,pre,rest,h1,h2,h3,h4,h5,h6⟩
    ·exact .inl ⟨by simp[h1],h2⟩
    ·exact .inr ⟨b,n,arr,T,pre,rest,by simp[h1],h2,h3,h4,h5,h6⟩
   ·rename_i hk
    rw[xG,if_neg (Ne.symm hk)]at hf
    obtain⟨b0,h1,h2⟩:=Option.map_eq_some_iff.1 hf
    cases b0 with
    |iter=>simp[reB]at h2
    |cells l0=>
     simp only[reB,Mc.cells.injEq]at h2;subst h2
     rcases S.ws.blk id' l0 h1 with ⟨g1,rfl⟩|⟨b,n,arr,T,pre,rest,g1,g2,g3,g4,g5,g6⟩
     ·exact .inl ⟨by show(if _ then _ else _)=_;rw[if_neg (Ne.symm hk)];exact g1,rfl⟩
     ·exact .inr ⟨b,n,arr,T,pre,rest,by show(if _ then _ else _)=_;rw[if_neg (Ne.symm hk)];exact g1,by rw[hold id' b n (Ne.symm hk) g1];exact g2,g3,g4,hreL g5,g6⟩
  ·intro id' x p hf
   rw[jk]at hf
   split at hf
   ·cases hf
   ·rename_i hk
    rw[xG,if_neg (Ne.symm hk)]at hf
    obtain⟨b0,h1,h2⟩:=Option.map_eq_some_iff.1 hf
    cases b0 with
    |cells=>simp[reB]at h2
    |iter x' p'=>
     simp only[reB,Mc.iter.injEq]at h2
     obtain⟨rfl,rfl⟩:=h2
     obtain⟨b,n,g1,g2⟩:=S.ws.it id' _ _ h1
     exact⟨b,n,by show(if _ then _ else _)=_;rw[if_neg (Ne.symm hk)];exact g1,by rw[hold id' b n (Ne.symm hk) g1];exact g2⟩
  ·intro id' b n g
   change (if _ then _ else _)=_ at g
   split at g
   ·obtain⟨g1,g2,g3,-⟩:=hX b n (Option.some.inj g);exact⟨g1,g2,g3⟩
   ·obtain⟨g1,g2,g3⟩:=S.ws.own id' b n g
    exact⟨g1,Nat.lt_of_lt_of_le g2 hsz,g3⟩
  ·intro i1 i2 b n n' g g'
   change (if _ then _ else _)=_ at g
   change (if _ then _ else _)=_ at g'
   split at g
   ·split at g'
    ·omega
    ·exact absurd g' ((hX b n (Option.some.inj g)).2.2.2 i2 ‹_› n')
   ·split at g'
    ·exact absurd g ((hX b n' (Option.some.inj g')).2.2.2 i1 ‹_› n)
    ·exact S.ws.inj i1 i2 b n n' g g'
  ·rw[hd]
   exact qv.put (hE S.env) (hrep _ (by simp)) (by rw[S.size];exact hdN d hd)
  ·obtain⟨k1,k2⟩:=Uj.1 S.stk
   refine Uj.2 ⟨by rw[List.length_map];exact k1,fun i e' t' he ht=>?_⟩
   rw[List.getElem?_map]at he
   obtain⟨e0,h1,rfl⟩:=Option.map_eq_some_iff.1 he
   exact hE (k2 i e0 t' h1 ht)
  ·rintro d' ⟨h1,h2⟩
   show(if _ then _ else _)=_
   rw[if_neg h2];exact S.free d' h1
 have hfl:=Qu hxs
 have grow:∀(len:Nat),len=xs.length->∀(ad:Option Addr) (cap:Nat) (cs:List Value),a.eval y=.slice ad len cap->cs.length=len*sz->(Builtin.firstCells i.size len (.slice ad len cap)).run P w.drew=.ok cs.toArray w.drew->
  JK m jh (xs.flatMap AV.cells) cs->(∀c∈cs,jL c=true)->cap<len+l2.length->o.wp P a w next Q:=by
  intro len hlx ad cap cs hv hcl hold hreps hone hcap
  have hrun:=run_append_grow_src (P:=P) w t tz o.type E i zv ht.under hi1 hi2 ad len cap cs hold (a.eval z) l2.length cs2 (by rw[hi3];exact src) hcap (by subst hlx;omega)
   (by rw[hi4];exact growslice_fits (by omega) (by subst hlx;exact hlen))
  generalize hcap2:grownCap w (len+l2.length) cap E=cap' at hrun
  have hge:len+l2.length<=cap':=by rw[<-hcap2];exact grownCap_ge w _ _ E
  have hzs:(Builtin.zeroCells zv.cells (cap' - (len+l2.length))).size=(cap' - (len+l2.length))*sz:=by rw[size_zeroCells,hi5]
  have hsz:((cs++cs2).toArray++Builtin.zeroCells zv.cells (cap' - (len+l2.length))).size=cap'*sz:=by
   rw[Array.size_append,hzs,List.size_toArray,List.length_append,hcl,src.newsLen,<-Nat.add_mul,<-Nat.add_mul];congr 1;omega
  refine fin _ _ (.blk w.heap.size (cap'*sz,(cs++cs2).length)) (Qy ho (by rw[hv];exact hrun)) ((S.below.drew).alloc S.below.size _) ?_ ?_ ?_ ?_ (.inr ⟨w.heap.size,(cap'*sz,(cs++cs2).length),_,E,cs++cs2,_,rfl,by show(w.heap.push _)[w.heap.size]? = _;rw[Array.getElem?_push,if_pos rfl],by rw[hsz],by rw[Array.toList_append],?_,?_⟩) ?_
  ·exact S.ws.imm.below (((Below.refl _ _).drew).alloc (Nat.le_refl _) _)
  ·intro j b n _ hb
   show(w.heap.push _)[b]? = _
   rw[Array.getElem?_push,if_neg (by have:=(S.ws.own j b n hb).2.1;omega)]
  ·show w.heap.size<=(w.heap.push _).size
   rw[Array.size_push];omega
  ·intro b n e
   cases e
   refine⟨S.below.size,by show _<(w.heap.push _).size;rw[Array.size_push];omega,fun o'=>?_,fun j _ n' hb=>?_⟩
   ·cases hm:m w.heap.size o' with
    |none=>rfl
    |some v=>have:=S.ws.imm.lt hm;omega
   ·have:=(S.ws.own j _ n' hb).2.1;omega
  ·refine JK.append ?_ (uf.zV (by simp[jh]))
   exact hreps.zV (by simp[jh])
  ·intro c hc
   rcases List.mem_append.1 hc with h|h
   ·exact hone c h
   ·exact src.one c h
  ·intro bl' hbl'
   exact .rw hbl' (by rw[List.length_append,hcl,src.newsLen,Nat.add_mul]) hge (Nat.le_refl _)
 generalize hv:a.eval y=v at r1
 cases r1 with
 |rwnil hb=>
  rename_i ad
  have hx0:xs=[]:=by
   rcases S.ws.blk id _ hl with ⟨-,g⟩|⟨b,n,arr,T,pre,rest,g1,-⟩
   ·rw[show(xs.flatMap AV.cells)=[]from g]at hfl
    rcases Nat.mul_eq_zero.1 (show xs.length*sz=0 by rw[<-hfl];rfl)with h|h
    ·exact List.eq_nil_of_length_eq_zero h
    ·have:=ht.pos;omega
   ·rw[g1]at hb;cases hb
  subst hx0
  by_cases h0:l2.length=0
  ·have hl2:l2=[]:=List.eq_nil_of_length_eq_zero h0
   subst hl2
   have:cs2=[]:=List.eq_nil_of_length_eq_zero (by have:=src.newsLen;simpa using this)
   subst this
   exact fin (.slice ad 0 0) w .nil (Qy ho (by rw[hv];exact vn ht src ad (Nat.le_refl _))) S.below S.ws.imm (fun _ _ _ _ _=>rfl) (Nat.le_refl _) (by intro b n h;cases h) (.inl ⟨rfl,rfl⟩) (fun _ h=>.rwnil h)
  ·refine grow 0 rfl ad 0 [] hv (by simp) ?_ (by simp;exact .nil) (by simp) (by omega)
   cases ad with
   |none=>exact run_firstCells_none (P:=P) w.drew _ _ _ _
   |some a1=>exact run_firstCells_some (P:=P) w.drew i.size 0 a1 _ _ [] (by simp) (by simp)
 |rw hb g1 g2 g3=>
  rename_i b n cap len
  obtain⟨arr,T,pre,rest,q1,q2,q3,q4,q5⟩:=S.ws.at_ hl hb
  have hpl:=q4.length
  have hnone:=(S.ws.own id b n hb)
  have hn1:n.1=arr.size:=by rw[<-q2]
  have hn2:n.2=pre.length:=by rw[<-q2]
  have hlx:len=xs.length:=Nat.eq_of_mul_eq_mul_right ht.pos (by rw[g1,hn2,<-hpl,hfl])
  have hpre:pre.length=len*sz:=by rw[g1,hn2]
  have hps:arr.size=pre.length+rest.length:=by rw[<-Array.length_toList,q3,List.length_append]
  by_cases hroom:len+l2.length<=cap
  ·-- in place
   have hnl:=src.newsLen
   have hcm:(len+l2.length)*sz<=cap*sz:=Nat.mul_le_mul_right _ hroom
   rw[Nat.add_mul]at hcm
   have hfit2:len*sz+cs2.length<=arr.size:=by omega
   have hst:=run_storeCells_at P b (len*sz) T cs2 0 arr w q1 (by simpa using hfit2) src.one
   simp only[Nat.add_zero]at hst
   have hrun:(Builtin.append_ #[t,tz] o.type #[.slice (some ⟨b,0,none⟩) len cap,a.eval z]).run P w=.ok (.slice (some ⟨b,0,none⟩) (len+l2.length) cap)
    (w.setRow b (arr.toList.take (len*sz)++cs2++arr.toList.drop (len*sz+cs2.length)).toArray):=by
    rcases src.kind with ⟨e',hk⟩|hk <;> simp[Builtin.append_,je ht.under,je hk,jx ht.sz,src.len,src.cells,hroom,Yc,hst]
   generalize hna:(arr.toList.take (len*sz)++cs2++arr.toList.drop (len*sz+cs2.length)).toArray=na at hrun
   have hheap:=setRow_heap w b arr na T (0,0) q1
   have hother:∀b',b'≠b->(w.setRow b na).heap[b']? = w.heap[b']? := fun b' h=>setRow_other w b b' na h
   have hsize:(w.setRow b na).heap.size=w.heap.size:=by simp[World.setRow]
   have e1:arr.toList.take (len*sz)=pre:=by rw[q3,<-hpre,List.take_left]
   have hnas:na.size=arr.size:=by rw[<-hna];simp;omega
   refine fin _ _ (.blk b (arr.size,(pre++cs2).length)) (Qy ho (by rw[hv];exact hrun)) ?_ ?_ ?_ (by rw[hsize];exact Nat.le_refl _) ?_ (.inr ⟨b,(arr.size,(pre++cs2).length),na,T,pre++cs2,arr.toList.drop (len*sz+cs2.length),rfl,hheap,by rw[hnas],?_,?_,?_⟩) ?_
   ·exact S.below.trans ⟨rfl,rfl,rfl,by rw[hsize];exact Nat.le_refl _,fun k' hk'=>hother k' (by have:=hnone.1;omega)⟩
   ·intro b' o' v e'
    have hne:b'≠b:=by rintro rfl;rw[hnone.2.2 o']at e';cases e'
    have:=S.ws.imm b' o' v e'
    simp only[World.cell?,hother b' hne]at this⊢
    exact this
   ·intro j b' n' hj hb'
    exact hother b' (by rintro rfl;exact hj (S.ws.inj j id _ n' n hb' hb))
   ·intro b' n' e'
    cases e'
    exact⟨hnone.1,by rw[hsize];exact hnone.2.1,hnone.2.2,fun j hj n' h=>hj (S.ws.inj j id b n' n h hb)⟩
   ·rw[<-hna,e1]
   ·have:=q4.bare (bl':=fun i=>if i=id then some (Bnd.blk b (arr.size,(pre++cs2).length))else bl i)
    rw[wJ,yz hbare]at this
    exact this.append (uf.zV (by simp[jh]))
   ·intro c hc
    rcases List.mem_append.1 hc with h|h
    ·exact q5 c h
    ·exact src.one c h
   ·intro bl' hbl'
    exact .rw hbl' (by show _=(pre++cs2).length;rw[List.length_append,hpre,hnl,Nat.add_mul]) hroom (by show _<=arr.size;rw[<-hn1];exact g3)
  ·refine grow len hlx (some ⟨b,0,none⟩) cap pre hv hpre ?_ ?_ q5 (by omega)
   ·refine run_firstCells_some (P:=P) w.drew i.size len _ _ _ _ (by rw[hi3];exact hpre) (fun j v e=>?_)
    rw[Yc,Nat.zero_add,World.cell?_drew,yC q1]
    exact Vh q3 e
   ·have:=q4.bare (bl':=jh)
    rwa [wJ,yz hbare]at this
end
end
section
open Go.RowKit
variable [GlC]
theorem splice {arr pre rest:List Value}{cs:List Value}{off:Nat}(h:arr=pre++rest)(hf:off+cs.length<=pre.length):
 arr.take off++cs++arr.drop (off+cs.length)=(pre.take off++cs++pre.drop (off+cs.length))++rest:=by
 rw[h,List.take_append_of_le_length (by omega),List.drop_append_of_le_length (by omega)]
 simp
theorem jer {pre:List Value}{cs:List Value}{a b:Nat}{p:Value->Prop}(h1:∀c∈pre,p c)(h2:∀c∈cs,p c):∀c∈pre.take a++cs++pre.drop b,p c:=by
 intro c hc
 rcases List.mem_append.1 hc with hc|hc
 ·rcases List.mem_append.1 hc with hc|hc
  ·exact h1 c (List.mem_of_mem_take hc)
  ·exact h2 c hc
 ·exact h1 c (List.mem_of_mem_drop hc)
section
variable {P:Program} {o:Oper} {e:Env}
theorem LEx.write {ops:Array Oper}{N:Nat}{id off need l Z x}(hg:o.guard=none)(hd:∀d,o.dst=some d->d<N)(hl:(id,l)∈need)(hfit:off+Z.length<=l.length)
 (H:∀(B:Nat) (m0:Mem) (h:Hp) (m:Mem) (bl:Names) (a:Act) (w:World),Vs B m0 h m bl w->(∀p∈need,find p.1 h=some (.cells p.2))->Reads o e m bl a->
   ∃(cs:List Value) (b:Nat) (n:Nat × Nat),bl id=some (.blk b n)/\JK m bl Z cs/\(∀c∈cs,jL c=true)/\
    ∀arr T,w.heap[b]? = some (.cells arr T (0,0))->off+cs.length<=arr.size->∃r,(execOp a.eval o).run P w=.ok r (w.setRow b (arr.toList.take off++cs++arr.toList.drop (off+cs.length)).toArray)/\
     match o.dst with|none=>(r=.skip\/∃v,r=.value v)|some d=>∃v,r=.value v/\Rep m bl x v):
 LEx P ops N o ⟨xl e (o.looksAt ops),Wt need,match o.dst with|none=>[] |some d=>[(d,x)],[(id,.cells (l.take off++Z++l.drop (off+Z.length)))],[]⟩:=by
 refine .ofA hg hd ?_
 intro e2 s h f f' hre hrh hnm hf' N W0 m0 sa m bl a w S hdN next Q k
 have hR:Reads o e m bl a:=fun t ht y hy=>S.env t y (YM hre t (Yn ht) y hy)
 have hneed:=Qt.1 hrh
 obtain⟨cs,b,n,hb,hZ,h1,hrun⟩:=H _ _ _ m bl a w S.ws hneed hR
 obtain⟨arr,T,pre,rest,q1,q2,q3,q4,q5⟩:=S.ws.at_ (show find id h=some (Mc.cells l)from hneed _ hl) hb
 have hlen:=q4.length
 have hzl:=hZ.length
 have hal:arr.size=pre.length+rest.length:=by rw[<-Array.length_toList,q3,List.length_append]
 obtain⟨r,hr1,hr2⟩:=hrun arr T q1 (by omega)
 have hst:=S.ws.store hb q1 (na:=(arr.toList.take off++cs++arr.toList.drop (off+cs.length)).toArray) (Z:=l.take off++Z++l.drop (off+Z.length)) (pre:=pre.take off++cs++pre.drop (off+cs.length)) (rest:=rest)
  (by rw[<-q2];simp;omega) (by rw[splice q3 (by omega)]) (by rw[hzl];exact((q4.take off).append hZ).append (q4.drop _)) (jer q5 h1)
 have ho1:=(S.ws.own id b _ hb).1
 have hbel:Below W0.heap.size W0 (w.setRow b (arr.toList.take off++cs++arr.toList.drop (off+cs.length)).toArray):=
  S.below.trans ⟨rfl,rfl,rfl,by simp[World.setRow],fun k' hk'=>setRow_other w b k' _ (by omega)⟩
 unfold Oper.wp
 cases hdst:o.dst with
 |none=>
  simp only[hdst]at hr2 k
  rw[hr1]
  have fin:∀v,next (a.put o.dst v) (w.setRow b (arr.toList.take off++cs++arr.toList.drop (off+cs.length)).toArray):=by
   intro v
   refine k _ _ _ m bl rfl ⟨?_,?_,hbel,hst,?_,S.stk,fun d hd=>S.free d (hf' d hd).1⟩
   ·simp[Act.put,hdst,S.defers]
   ·simp[Act.put,hdst,S.size]
   ·rw[hdst];exact S.env
  rcases hr2 with rfl|⟨v,rfl⟩
  ·rw[Oper.upon_skip];exact fin _
  ·rw[Oper.upon_value];exact fin _
 |some d=>
  simp only[hdst]at hr2 k
  obtain⟨v,rfl,hv⟩:=hr2
  rw[hr1,Oper.upon_value]
  refine k _ _ _ m bl rfl ⟨?_,?_,hbel,hst,?_,S.stk,fun d hd=>S.free d (hf' d hd).1⟩
  ·simp[Act.put,hdst,S.defers]
  ·simp[Act.put,hdst,S.size]
  ·rw[hdst];exact qv.put S.env hv (by rw[S.size];exact hdN d hdst)
theorem LEx.appIn {ops:Array Oper}{N:Nat}{t tz y z E sz by_ l2 d id off len mc l need}(hg:o.guard=none)(hd:o.dst=some d)(hN:d<N)(ho:o.op=.call {callee:=.builtin .append,args:=#[y,z],argTypes:=#[t,tz]})(ht:Vu P t E sz by_)
 (hy:jK e y (.row id off len mc sz)) (hl:(id,l)∈need) (hfit:off+(len+l2.length)*sz<=l.length) (hroom:len+l2.length<=mc) (h0:0<mc) (hz:KQ P o e need sz tz z l2):
 LEx P ops N o ⟨xl e (o.looksAt ops),Wt need,[(d,.row id off (len+l2.length) mc sz)],[(id,.cells (l.take (off+len*sz)++l2.flatMap AV.cells++l.drop (off+len*sz+(l2.flatMap AV.cells).length)))],[]⟩:=by
 have key:=LEx.write (P:=P) (ops:=ops) (N:=N) (o:=o) (e:=e) (id:=id) (off:=off+len*sz) (need:=need) (l:=l) (Z:=l2.flatMap AV.cells) (x:=.row id off (len+l2.length) mc sz) hg (fun d' h'=>by rw[hd]at h';cases h';exact hN) hl
 rw[hd]at key
 by_cases hlen2:(l2.flatMap AV.cells).length=l2.length*sz
 ·refine key (by rw[hlen2];rw[Nat.add_mul]at hfit;omega) ?_
  intro B m0 h m bl a w hws hneed hR
  obtain⟨cs2,src,uf,el2⟩:=hz B m0 h m bl a w hws hneed hR
  have r1:=hy.rep hR (by simp[ho,Op.operands,Call.operands])
  generalize hv:a.eval y=v at r1
  cases r1 with
  |rownil=>omega
  |row hb g1 g2 g3=>
   rename_i b n cap
   refine⟨cs2,b,n,hb,uf.zV (by simp[jh]),src.one,fun arr T q1 hfit2=>?_⟩
   have hst:=run_storeCells_at P b (off+len*sz) T cs2 0 arr w q1 (by simpa using hfit2) src.one
   simp only[Nat.add_zero]at hst
   have hroom2:len+l2.length<=cap:=by omega
   have hrun:(Builtin.append_ #[t,tz] o.type #[.slice (some ⟨b,off,none⟩) len cap,a.eval z]).run P w=.ok (.slice (some ⟨b,off,none⟩) (len+l2.length) cap)
    (w.setRow b (arr.toList.take (off+len*sz)++cs2++arr.toList.drop (off+len*sz+cs2.length)).toArray):=by
    rcases src.kind with ⟨e',hk⟩|hk <;> simp[Builtin.append_,je ht.under,je hk,jx ht.sz,src.len,src.cells,hroom2,Yc,hst]
   exact⟨_,Qy ho (by rw[hv];exact hrun),_,rfl,.row hb hroom g2 g3⟩
 ·intro e2 s h f f' hre hrh hnm hf' W0 m0 sa m bl a w S next Q k
  obtain⟨cs2,src,uf,el2⟩:=hz _ _ _ m bl a w S.ws (Qt.1 hrh) (fun t ht y hy=>S.env t y (YM hre t (Yn ht) y hy))
  exact absurd (Qu el2) hlen2
theorem Vd (z:Array Value):∀n,(Builtin.zeroCells z n).toList=(List.replicate n z.toList).flatten:=by
 intro n
 have:∀n,(List.range (n*z.size)).map (fun i=>z[i % z.size]!)=(List.replicate n z.toList).flatten:=by
  intro n
  induction n with
  |zero=>simp
  |succ n ih=>
   rw[Nat.add_mul,Nat.one_mul,List.range_add,List.map_append,ih,List.replicate_succ',List.flatten_append]
   congr 1
   simp only[List.map_map,List.flatten_cons,List.flatten_nil,List.append_nil]
   apply List.ext_getElem
   ·simp
   ·intro i h1 h2
    simp at h1
    have:(n*z.size+i) % z.size=i:=by rw[Nat.mul_comm,Nat.mul_add_mod];exact Nat.mod_eq_of_lt h1
    simp[this,h1]
 rw[<-this n]
 simp[Builtin.zeroCells]
theorem JK.je7 {m bl Z vs}(h:JK m bl Z vs):∀n,JK m bl (List.replicate n Z).flatten (List.replicate n vs).flatten
 |0=>by simp;exact .nil
 |n+1=>by simpa [List.replicate_succ]using h.append (JK.je7 h n)
theorem LEx.clearR {ops:Array Oper}{N:Nat}{t y E sz by_ id off len mc l need Z}(hg:o.guard=none)(hd:o.dst=none)(ho:o.op=.call {callee:=.builtin .clear,args:=#[y],argTypes:=#[t]})(ht:Vu P t E sz by_)(hz:jc0 P E Z)
 (hy:jK e y (.row id off len mc sz)) (hl:(id,l)∈need) (hfit:off+(List.replicate len Z).flatten.length<=l.length) (h0:0<mc):
 LEx P ops N o ⟨xl e (o.looksAt ops),Wt need,[],[(id,.cells (l.take off++(List.replicate len Z).flatten++l.drop (off+(List.replicate len Z).flatten.length)))],[]⟩:=by
 have key:=LEx.write (P:=P) (ops:=ops) (N:=N) (o:=o) (e:=e) (id:=id) (off:=off) (need:=need) (l:=l) (Z:=(List.replicate len Z).flatten) (x:=.undef) hg (by rw[hd];simp) hl hfit
 rw[hd]at key
 refine key ?_
 intro B m0 h m bl a w hws hneed hR
 have r1:=hy.rep hR (by simp[ho,Op.operands,Call.operands])
 obtain⟨zs,hz0,hzs,h1⟩:=hz
 obtain⟨z,hz1,hz2⟩:=vm hz0 w
 generalize hv:a.eval y=v at r1
 cases r1 with
 |rownil=>omega
 |row hb g1 g2 g3=>
  rename_i b n cap
  refine⟨(List.replicate len zs).flatten,b,n,hb,(hzs.XE).je7 len,?_,fun arr T q1 hfit2=>?_⟩
  ·intro c hc
   obtain⟨l',hl',hc'⟩:=List.mem_flatten.1 hc
   obtain⟨-,rfl⟩:=List.mem_replicate.1 hl'
   exact List.all_eq_true.1 h1 c hc'
  ·have hzc:(Builtin.zeroCells z.cells len).toList=(List.replicate len zs).flatten:=by rw[Vd,hz2]
   have hone:∀c∈(List.replicate len zs).flatten,jL c=true:=by
    intro c hc
    obtain⟨l',hl',hc'⟩:=List.mem_flatten.1 hc
    obtain⟨-,rfl⟩:=List.mem_replicate.1 hl'
    exact List.all_eq_true.1 h1 c hc'
   have hst:=run_storeCells_at P b off T (List.replicate len zs).flatten 0 arr w q1 (by simpa using hfit2) hone
   simp only[Nat.add_zero]at hst
   refine⟨.value (.tuple #[]),?_,.inr ⟨_,rfl⟩⟩
   unfold execOp
   simp only[ho,resolve,invoke,builtin,Sem.run_bind,Sem.run_pure,Result.andThen_ok,List.map_toArray,List.map_cons,List.map_nil,hv]
   by_cases hlen:len=0
   ·subst hlen
    simp[Builtin.clear_,je ht.under]
    rw[setRow_self w b arr T (0,0) q1]
   ·simp[Builtin.clear_,je ht.under,hz1,hzc,hst]
theorem LEx.jkF {ops:Array Oper}{N:Nat}{t x y E sz by_ d nm k k' n c Z}(hg:o.guard=none)(hd:o.dst=some d)(hN:d<N)(ho:o.op=.makeSlice t x y)(ht:Vu P t E sz by_)(hz:jc0 P E Z)
 (hx:jK e x (.v (.int k n))) (hy:jK e y (.v (.int k' c))) (h0:0<=n) (h1:n<=c) (hb:(by_:Int)*c<=281474976710656) (h63:c<=9223372036854775807):
 LEx P ops N o ⟨xl e (o.looksAt ops),[],[(d,.rw nm sz)],[(nm,.cells (List.replicate n.toNat Z).flatten)],[nm]⟩:=by
 refine .Uw hg hd hN fun m bl a w hr=>?_
 have r1:=(hx.rep hr (by simp[ho,Op.operands])).zj
 have r2:=(hy.rep hr (by simp[ho,Op.operands])).zj
 obtain⟨i,zv,hi1,hi2,hi3,hi4,hi5,hi6⟩:=ht.info
 obtain⟨zs,hz0,hzs,hz1⟩:=hz
 have hzz:zv.cells.toList=zs:=by unfold jb4 at hz0;rw[hi1]at hz0;simp[hi2]at hz0;exact hz0
 have hrun:=run_make (P:=P) w t E i zv ht.under hi1 hi2 k k' n c h0 h1 (by rw[hi4];exact hb) h63
 rw[hi3]at hrun
 have hcl:(madeCells zv.cells (c.toNat*sz)).toList=(List.replicate c.toNat zs).flatten:=by
  have:=Vd zv.cells c.toNat
  rw[hzz]at this
  rw[<-this,<-hi5];rfl
 have hzl:zs.length=sz:=by rw[<-hzz,<-hi5];simp
 have hfl:∀n:Nat,(List.replicate n zs).flatten.length=n*sz:=by
  intro n;simp[List.length_flatten,hzl]
 have hsp:(List.replicate c.toNat zs).flatten=(List.replicate n.toNat zs).flatten++(List.replicate (c.toNat - n.toNat) zs).flatten:=by
  rw[<-List.flatten_append,List.replicate_append_replicate];congr 2;omega
 refine⟨.slice (some ⟨w.heap.size,0,none⟩) n.toNat c.toNat,madeCells zv.cells (c.toNat*sz),E,(List.replicate n.toNat zs).flatten,(List.replicate (c.toNat - n.toNat) zs).flatten,?_,by rw[hcl,hsp],(hzs.XE).je7 _,?_,fun bl' hb'=>?_⟩
 ·simp only[execOp,ho,r1,r2,Sem.run_bind,hrun,Result.andThen_ok,Sem.run_pure]
 ·intro c' hc
  obtain⟨l',hl',hc'⟩:=List.mem_flatten.1 hc
  obtain⟨-,rfl⟩:=List.mem_replicate.1 hl'
  exact List.all_eq_true.1 hz1 c' hc'
 ·have hs:(madeCells zv.cells (c.toNat*sz)).size=c.toNat*sz:=size_madeCells _ _
  exact .rw hb' (hfl _).symm (by omega) (by rw[hs];exact Nat.le_refl _)
theorem QEx.jji {s d y E id off len mc l need}{bs:List UInt8}(ho:o.op=.convert s d y)(hs:P.underlying s=some (.slice E))(hE:P.underlying E=some (.int .u8))(hd:P.underlying d=some .string)
 (hy:ROk o e need y (.row id off len mc 1)) (hl:(id,l)∈need) (hb:(l.drop off).take len=bs.map JD) (hlen:bs.length=len):QEx P o e need (.v (.string ⟨bs.toArray⟩)):=
 .pure fun _ _ h m bl ac w hws hn hr=>by
  have h1:=hy _ _ _ _ _ _ _ hws hn hr
  refine⟨_,?_,.v⟩
  generalize hv:ac.eval y=v at h1
  cases h1 with
  |rownil=>
   rename_i ad
   have:bs=[]:=List.eq_nil_of_length_eq_zero hlen
   subst this
   cases ad with
   |none=>
    have:=run_convert_bytes_nil (P:=P) w s E hs hE 0 0 d hd
    simp only[execOp,ho,hv,Sem.run_bind,this,Result.andThen_ok,Sem.run_pure]
    rfl
   |some a=>
    have hl2:=run_loadCells_list (P:=P) w a [] (by simp)
    have h2:=run_bytesToString (P:=P) w a 0 0 [] (by simpa using hl2)
    have h3:=run_convert_bytes_string (P:=P) w s d E (some a) 0 0 hs hE hd
    simp only[execOp,ho,hv,Sem.run_bind,h3,h2,Result.andThen_ok,Sem.run_pure]
    rfl
  |row hb' g1 g2 g3=>
   rename_i b n cap
   obtain⟨arr,T,pre,rest,q1,q2,q3,q4,q5⟩:=hws.at_ (show find id h=some (Mc.cells l)from hn _ hl) hb'
   have hcs:=(q4.drop off).take len
   rw[hb]at hcs
   have hcs2:=hcs.bytes
   have hl2:=run_loadCells_list (P:=P) w ⟨b,off,none⟩ ((pre.drop off).take len) (fun j v e=>by
    rw[Yc,yC q1]
    exact Vh q3 (Qo e))
   have hlen2:((pre.drop off).take len).length=len:=by rw[hcs2,List.length_map,hlen]
   rw[hlen2,hcs2]at hl2
   have hm:(bs.map fun b=>Value.int .u8 b.toNat)=(bs.map fun b=>(b.toNat:Int)).map (Value.int .u8):=by simp
   rw[hm]at hl2
   have h2:=run_bytesToString (P:=P) w ⟨b,off,none⟩ len cap _ hl2
   have h3:=run_convert_bytes_string (P:=P) w s d E (some ⟨b,off,none⟩) len cap hs hE hd
   rw[foldl_push_byteCells]at h2
   simp only[execOp,ho,hv,Sem.run_bind,h3,h2,Result.andThen_ok,Sem.run_pure]
   simp
theorem QEx.sliceA {t y lo hi E n sz id off a b}(ho:o.op=.slice t y lo hi none)(hT:P.underlying t=some (.array n E))(hs:tSz P E=some sz)(hy:jK e y (.ptr id off))
 (hlo:vJ e lo 0 a) (hhi:vJ e hi n b) (hab:a<=b) (hb:b<=n) {l:List AV} (hfit:off+n*sz<=l.length):QEx P o e [(id,l)] (.row id (off+a*sz) (b - a) (n - a) sz):=
 .pure fun _ _ h m bl ac w hws hn hr=>by
  have h1:=hy.rep hr (by simp[ho,Op.operands])
  have e1:(Instr.sliceBounds false n n (lo.map ac.eval) (hi.map ac.eval) none).run P w=.ok (a,b,n) w:=by
   cases hlo with
   |none=>
    cases hhi with
    |none=>simp[Instr.sliceBounds]
    |some h2 h3=>
     have:=(h2.rep hr (by simp[ho,Op.operands])).zj
     rename_i k i
     have hi':i<=(n:Int):=by omega
     simp[Instr.sliceBounds,this,Instr.sliceBound,asIntOf,h3,hi']
   |some g2 g3=>
    have hg:=(g2.rep hr (by simp[ho,Op.operands])).zj
    rename_i gk gi
    cases hhi with
    |none=>
     have hi':gi<=(n:Int):=by omega
     simp[Instr.sliceBounds,hg,Instr.sliceBound,asIntOf,g3,hi']
    |some h2 h3=>
     have:=(h2.rep hr (by simp[ho,Op.operands])).zj
     rename_i k i
     have hi':i<=(n:Int):=by omega
     have hg':gi<=i:=by omega
     have hm:max i 0=i:=by omega
     simp[Instr.sliceBounds,this,hg,Instr.sliceBound,asIntOf,h3,hi',g3,hg',hm]
  generalize hv:ac.eval y=v at h1
  cases h1 with
  |ptr hb'=>
   rename_i bb nn
   obtain⟨arr,T,pre,rest,q1,q2,q3,q4,q5⟩:=hws.at_ (show find id h=some (Mc.cells l)from hn (id,l) (by simp)) hb'
   have hal:arr.size=pre.length+rest.length:=by rw[<-Array.length_toList,q3,List.length_append]
   have hpl:=q4.length
   by_cases hna:n=a
   ·refine⟨.slice (some ⟨bb,off,none⟩) (b - a) (n - a),?_,?_⟩
    ·simp only[execOp,ho,hv,Instr.sliceAt,Sem.run_bind,je hT,Result.andThen_ok,Instr.sureAddr,Option.map_none,e1,jx hs,Sem.run_pure]
     simp[hna]
    ·rw[show b - a=0 by omega,show n - a=0 by omega];exact .rownil
   ·refine⟨.slice (some ⟨bb,off+a*sz,none⟩) (b - a) (n - a),?_,.row hb' (by omega) (Nat.le_refl _) ?_⟩
    ·simp only[execOp,ho,hv,Instr.sliceAt,Sem.run_bind,je hT,Result.andThen_ok,Instr.sureAddr,Option.map_none,e1,jx hs,Sem.run_pure]
     simp[hna,Yc]
    ·have hn1:nn.1=arr.size:=by rw[<-q2]
     have h1:(n - a)*sz=n*sz - a*sz:=Nat.sub_mul _ _ _
     have h2:a*sz<=n*sz:=Nat.mul_le_mul_right _ (by omega)
     omega
/-! functions as values -/
theorem QEx.mkF {f:FuncId}{fi ca:Array Operand}{qQ:List AV}(ho:o.op=.makeFunc (.func f) fi ca)(hfi:fi=#[])(hx:uz e ca.toList qQ):QEx P o e [] (.clo f qQ):=
 .pure fun _ _ _ m bl a w _ _ hr=>by
  subst hfi
  have h1:=hx.XE (o:=o) hr (fun y hy=>by rw[ho];simp only[Op.operands];simpa using hy)
  refine⟨.func (.func f) #[] (ca.toList.map a.eval).toArray,?_,.clo h1⟩
  have ha:(ca.toList.map a.eval).toArray=ca.map a.eval:=Array.ext' (by rw[Array.toList_map])
  rw[ha]
  simp[execOp,ho,Instr.makeFunc]
/-! structs compared -/
def EqT {α:Type}(P:Program)(t:TypeId)(E:α->AV)(beq:α->α->Bool):Prop:=
 P.eqGuardType P.depth t=false/\∃vs:α->List Value,(∀x,E x=.agg ((vs x).map AV.v))/\∀(w:World) x y,(Op.equalIn 10000 t (.agg (vs x).toArray) (.agg (vs y).toArray)).run P w=.ok (beq x y) w
theorem jeB {c:Prop}[Decidable c]{p:Bool}{w:World}:(if c then Result.ok p w else Result.ok false w)=Result.ok (decide c&&p) w:=by split <;> simp[*]
theorem JK.vs {m bl}:∀{l vs:List Value},JK m bl (l.map AV.v) vs->vs=l
 | [],_,.nil=>rfl
 |_::_,_,.cons h t=>by rw[t.vs,h.zj]
theorem Rep.aggV {m bl v}{l:List Value}(h:Rep m bl (.agg (l.map AV.v)) v):v=.agg l.toArray:=by
 generalize hz:AV.agg (l.map AV.v)=z at h
 cases h <;> cases hz
 rename_i h1 h2 h3
 rw[h3.vs]
theorem QEx.eqlA {α:Type}{E:α->AV}{beq:α->α->Bool}{t y z a b}(ho:o.op=.binOp .eql t y z t)(ht:EqT P t E beq)(hy:jK e y (E a))(hz:jK e z (E b)):QEx P o e [] (.v (.bool (beq a b))):=
 .pure fun _ _ _ _ _ ac w _ _ hr=>by
  obtain⟨hg,vs,hE,heq⟩:=ht
  rw[hE]at hy hz
  have h1:=(hy.rep hr (by simp[ho,Op.operands])).aggV
  have h2:=(hz.rep hr (by simp[ho,Op.operands])).aggV
  refine⟨.bool (beq a b),?_,.v⟩
  have h3:=run_eqGuard_agg (P:=P) w .eql t y z (vs a).toArray (vs b).toArray hg
  have h4:=run_eql_struct (P:=P) w t (vs a).toArray (vs b).toArray
  rw[heq w a b]at h4
  simp only[Result.andThen_ok]at h4
  simp[execOp,ho,h1,h2,h3,h4]
theorem QEx.neqA {α:Type}{E:α->AV}{beq:α->α->Bool}{t y z a b}(ho:o.op=.binOp .neq t y z t)(ht:EqT P t E beq)(hy:jK e y (E a))(hz:jK e z (E b)):QEx P o e [] (.v (.bool (!beq a b))):=
 .pure fun _ _ _ _ _ ac w _ _ hr=>by
  obtain⟨hg,vs,hE,heq⟩:=ht
  rw[hE]at hy hz
  have h1:=(hy.rep hr (by simp[ho,Op.operands])).aggV
  have h2:=(hz.rep hr (by simp[ho,Op.operands])).aggV
  refine⟨.bool (!beq a b),?_,.v⟩
  have h3:=run_eqGuard_agg (P:=P) w .neq t y z (vs a).toArray (vs b).toArray hg
  have h4:=run_neq_struct (P:=P) w t (vs a).toArray (vs b).toArray
  rw[heq w a b]at h4
  simp only[Result.andThen_ok]at h4
  simp[execOp,ho,h1,h2,h3,h4]
theorem XB {t E:TypeId}{k:IntKind}(ht:P.underlying t=some (.array 4 E))(hE:P.underlying E=some (.int k))(hs:tSz P E=some 1)(ha:tAg P E=some false)(w:World)(d:Nat)(a0 a1 a2 a3 b0 b1 b2 b3:Int):
 (Op.equalIn (d+2) t (.agg #[.int k a0,.int k a1,.int k a2,.int k a3]) (.agg #[.int k b0,.int k b1,.int k b2,.int k b3])).run P w=.ok (decide (a0=b0)&&(decide (a1=b1)&&(decide (a2=b2)&&decide (a3=b3)))) w:=by
 have hp:∀(cs:Array Value) (j:Nat) (v:Value),cs[j]? = some v->(part E cs j).run P w=.ok v w:=by
  intro cs j v h;simp[part,kb ha,h]
 have he:∀(a b:Int),(Op.equalIn (d+1) E (.int k a) (.int k b)).run P w=.ok (a==b) w:=fun a b=>run_equalIn_int w d E k k a b hE
 unfold Op.equalIn
 simp only[Sem.run_bind,je ht,Result.andThen_ok,jx hs]
 simp only[Std.Legacy.Range.forIn_eq_forIn_range',Std.Legacy.Range.size]
 simp[List.range',hp,he]
 by_cases h0:a0=b0 <;> by_cases h1:a1=b1 <;> by_cases h2:a2=b2 <;> by_cases h3:a3=b3 <;> simp[*]
/-! strings ranged over -/
theorem Vs.jkE {B m0 h m bl w w' d}{s:ByteArray}{p:Nat}(S:Vs B m0 h m bl w)(hB:B<=w.heap.size)(hfree:bl d=none)(hw:w'.heap=w.heap.push (.stringIter s p)):
 Vs B m0 ((d,.iter s p)::h) m (Xg bl d w.heap.size (0,0)) w'/\(∀id b,bl id=some b->Xg bl d w.heap.size (0,0) id=some b):=by
 have hext:∀id b,bl id=some b->Xg bl d w.heap.size (0,0) id=some b:=by
  intro id b e
  unfold Xg;rw[if_neg];exact e
  intro he;subst he;rw[hfree]at e;cases e
 have hold:∀b,b<w.heap.size->w'.heap[b]? = w.heap[b]? := by
  intro b hb;rw[hw,Array.getElem?_push,if_neg (by omega)]
 have hnew:w'.heap[w.heap.size]? = some (.stringIter s p):=by rw[hw,Array.getElem?_push,if_pos rfl]
 refine⟨⟨?_,S.le,S.grow,?_,?_,?_,?_,S.gl⟩,hext⟩
 ·intro b o v e
  have:=S.imm b o v e
  simp only[World.cell?,hold b (S.imm.lt e)]at this⊢
  exact this
 ·intro id l hf
  rw[jk]at hf
  split at hf
  ·cases hf
  ·rename_i hd
   rcases S.blk id l hf with ⟨h1,h2⟩|⟨b,n,arr',T',pre,rest,g1,g2,g3,g4,g5,g6⟩
   ·exact .inl ⟨by unfold Xg;rw[if_neg (Ne.symm hd)];exact h1,h2⟩
   ·exact .inr ⟨b,n,arr',T',pre,rest,hext _ _ g1,by rw[hold b (S.own id b n g1).2.1];exact g2,g3,g4,g5.zV hext,g6⟩
 ·intro id x p' hf
  rw[jk]at hf
  split at hf
  ·rename_i hd;subst hd;cases hf;exact⟨w.heap.size,(0,0),by simp[Xg],hnew⟩
  ·obtain⟨b,n,g1,g2⟩:=S.it id x p' hf
   exact⟨b,n,hext _ _ g1,by rw[hold b (S.own id b n g1).2.1];exact g2⟩
 ·intro id b n g
  unfold Xg at g
  split at g
  ·simp at g;obtain⟨rfl,rfl⟩:=g
   refine⟨hB,by rw[hw,Array.size_push];omega,fun o=>?_⟩
   cases hm:m w.heap.size o with
   |none=>rfl
   |some v=>have:=S.imm.lt hm;omega
  ·obtain⟨g1,g2,g3⟩:=S.own id b n g
   exact⟨g1,by rw[hw,Array.size_push];omega,g3⟩
 ·intro id id' b n n' g g'
  unfold Xg at g g'
  split at g
  ·split at g'
   ·omega
   ·simp at g;have:=(S.own id' b n' g').2.1;omega
  ·split at g'
   ·simp at g';have:=(S.own id b n g).2.1;omega
   ·exact S.inj id id' b n n' g g'
theorem AEx.range {L:LS}{t y d nm}{s:ByteArray}(hd:o.dst=some d)(ho:o.op=.range t y)(ht:P.underlying t=some .string)(hy:jK L.e y (.v (.string s)))(hnm:L.f nm):
 AEx P o L (·=⟨(d,.ptr nm 0)::L.e,L.s,(nm,.iter s 0)::L.h,fun i=>L.f i/\i≠nm⟩):=by
 intro N W0 m0 sa m bl a w S hdN next Q k
 have r1:=(hy.rep (o:=o) (fun t _ y hf=>S.env t y hf) (by simp[ho,Op.operands])).zj
 obtain⟨q1,q2⟩:=S.ws.jkE (w':=w.iter s 0) (d:=nm) S.below.size (S.free nm hnm) (s:=s) (p:=0) rfl
 unfold Oper.wp
 rw[show(execOp a.eval o).run P w=.ok (.value (.pointer (some ⟨w.heap.size,0,none⟩))) (w.iter s 0) by simp[execOp,ho,r1,run_range_string w t s ht],Oper.upon_value]
 refine k _ _ _ m _ rfl ⟨?_,?_,?_,q1,?_,S.stk.zV q2,?_⟩
 ·simp[Act.put,hd,S.defers]
 ·simp[Act.put,hd,S.size]
 ·exact S.below.alloc S.below.size _
 ·rw[hd]
  exact qv.put (S.env.zV q2) (.ptr (n:=(0,0)) (by simp[Xg])) (by rw[S.size];exact hdN d hd)
 ·rintro d' ⟨g1,g2⟩
  unfold Xg;rw[if_neg g2];exact S.free d' g1
theorem AEx.next {L:LS}{y d id ty}{s:ByteArray}{p:Nat}(hd:o.dst=some d)(ho:o.op=.next y true)(hy:jK L.e y (.ptr id 0))(hh:find id L.h=some (.iter s p))(hty:ty=o.type):
 AEx P o L fun L'=>(p<s.size/\L'=⟨(d,.tup [.v (.bool true),.v (.int .i64 p),.v (.int .i32 (Utf8.decode s p).1)])::L.e,L.s,(id,.iter s (p+(Utf8.decode s p).2))::L.h,L.f⟩)\/
  (¬ p<s.size/\L'=⟨(d,.tup [.v (.bool false)])::L.e,L.s,L.h,L.f⟩):=by
 intro N W0 m0 sa m bl a w S hdN next Q k
 have r1:=hy.rep (o:=o) (fun t _ y hf=>S.env t y hf) (by simp[ho,Op.operands])
 obtain⟨b,n,hb,hg⟩:=S.ws.it id s p hh
 generalize hv:a.eval y=v at r1
 cases r1 with
 |ptr hb' =>
  rw[hb]at hb';cases hb'
  obtain⟨o1,o2,o3⟩:=S.ws.own id b n hb
  unfold Oper.wp
  by_cases hp:p<s.size
  ·have hrun:=Lib.run_next_any_at (P:=P) w b s p o.type hg hp
   rw[show(execOp a.eval o).run P w=.ok (.value (.tuple #[.bool true,.int .i64 p,.int .i32 (Utf8.decode s p).1])) (w.iterAt b s (p+(Utf8.decode s p).2)) by simp[execOp,ho,hv,hrun],Oper.upon_value]
   have hheap:=Lib.iterAt_heap w b s p (p+(Utf8.decode s p).2) hg
   have hother:∀b',b'≠b->(w.iterAt b s (p+(Utf8.decode s p).2)).heap[b']? = w.heap[b']? := by
    intro b' hne
    simp[World.iterAt,Array.getElem?_setIfInBounds,Ne.symm hne]
   have hsize:(w.iterAt b s (p+(Utf8.decode s p).2)).heap.size=w.heap.size:=by simp[World.iterAt]
   refine k _ _ _ m bl (.inl ⟨hp,rfl⟩) ⟨?_,?_,?_,⟨?_,S.ws.le,S.ws.grow,?_,?_,?_,S.ws.inj,S.ws.gl⟩,?_,S.stk,S.free⟩
   ·simp[Act.put,hd,S.defers]
   ·simp[Act.put,hd,S.size]
   ·exact S.below.trans ⟨rfl,rfl,rfl,by rw[hsize];exact Nat.le_refl _,fun k' hk'=>hother k' (by omega)⟩
   ·intro b' o' v e'
    have hne:b'≠b:=by rintro rfl;rw[o3 o']at e';cases e'
    have:=S.ws.imm b' o' v e'
    simp only[World.cell?,hother b' hne]at this⊢
    exact this
   ·intro id' l hf
    rw[jk]at hf
    split at hf
    ·cases hf
    ·rename_i hk
     rcases S.ws.blk id' l hf with g|⟨b',n',arr,T,pre,rest,g1,g2,g3,g4,g5,g6⟩
     ·exact .inl g
     ·have hne:b'≠b:=by rintro rfl;exact hk (S.ws.inj id id' b' n n' hb g1)
      exact .inr ⟨b',n',arr,T,pre,rest,g1,by rw[hother b' hne];exact g2,g3,g4,g5,g6⟩
   ·intro id' x p' hf
    rw[jk]at hf
    split at hf
    ·rename_i hk;subst hk;cases hf;exact⟨b,n,hb,hheap⟩
    ·rename_i hk
     obtain⟨b',n',g1,g2⟩:=S.ws.it id' x p' hf
     have hne:b'≠b:=by rintro rfl;exact hk (S.ws.inj id id' b' n n' hb g1)
     exact⟨b',n',g1,by rw[hother b' hne];exact g2⟩
   ·intro id' b' n' g
    obtain⟨g1,g2,g3⟩:=S.ws.own id' b' n' g
    exact⟨g1,by rw[hsize];exact g2,g3⟩
   ·rw[hd]
    exact qv.put S.env (.tup (.cons .v (.cons .v (.cons .v .nil)))) (by rw[S.size];exact hdN d hd)
  ·have hrun:=Lib.run_next_end_at (P:=P) w b s p o.type hg hp
   rw[show(execOp a.eval o).run P w=.ok (.value (.tuple #[.bool false])) w by simp[execOp,ho,hv,hrun],Oper.upon_value]
   refine k _ _ _ m bl (.inr ⟨hp,rfl⟩) ⟨?_,?_,S.below,S.ws,?_,S.stk,S.free⟩
   ·simp[Act.put,hd,S.defers]
   ·simp[Act.put,hd,S.size]
   ·rw[hd]
    exact qv.put S.env (.tup (.cons .v .nil)) (by rw[S.size];exact hdN d hd)
end
end
section
open Go.RowKit
variable [GlC]
theorem Sim.weaken {N W0 m0 L L' sa a w m bl}(s:Sim N W0 m0 L sa a w m bl)(he:∀t x,find t L'.e=some x->find t L.e=some x)(hh:∀t x,find t L'.h=some x->find t L.h=some x)(hf:∀d,L'.f d->L.f d)(hs:L'.s=L.s:=by rfl):Sim N W0 m0 L' sa a w m bl:=
 ⟨s.defers,s.size,s.below,⟨s.ws.imm,s.ws.le,s.ws.grow,fun id l e=>s.ws.blk id l (hh _ _ e),fun id x p e=>s.ws.it id x p (hh _ _ e),s.ws.own,s.ws.inj,s.ws.gl⟩,fun t x e=>s.env t x (he _ _ e),hs ▸ s.stk,fun d hd=>s.free d (hf d hd)⟩
inductive TrL (P:Program) (ops:Array Oper) (N:Nat):List Oper->Env->Hp->List Loc->Env->Hp->Prop
 |nil {e h}:TrL P ops N [] e h [] e h
 |cons {o rest e h c cs e' h'}:LEx P ops N o c->(∀p∈c.re,find p.1 e=some p.2)->(∀p∈c.rh,find p.1 h=some p.2)->
   TrL P ops N rest (c.we++e) (c.wh++h) cs e' h'->TrL P ops N (o::rest) e h (c::cs) e' h'
def qH (o:Oper):List Nat:=(o.after.toList.filter (Region.binds .any)).map (·.on)
def kS {α:Type}(t:Nat)(l:List (Nat × α)):Bool:=l.any fun p=>p.1==t
def meets {α β:Type}(a:List (Nat × α))(b:List (Nat × β)):Bool:=a.any fun p=>kS p.1 b
def Loc.uw (a b:Loc):Bool:=
 meets a.we b.we||meets a.we b.re||meets b.we a.re||meets a.wh b.wh||meets a.wh b.rh||meets b.wh a.rh
def Zu (cs:List Loc):List Nat:=cs.flatMap (·.nm)
inductive Anc (os:List Oper):Nat->Nat->Prop
 |dep {j i o}:os[j]? = some o->i∈qH o->Anc os j i
 |step {j i d o}:os[j]? = some o->d∈qH o->Anc os d i->Anc os j i
theorem Anc.mem {os:List Oper}{σ:List Nat}(hcl:∀k∈σ,∀o,os[k]? = some o->∀d∈qH o,d∈σ){j i}(h:Anc os j i):(∀o,os[j]? = some o->∀d∈qH o,d∈σ)->i∈σ:=by
 induction h with
 |dep h1 h2=>intro k;exact k _ h1 _ h2
 |step h1 h2 _ ih=>intro k;exact ih fun o ho d hd=>hcl _ (k _ h1 _ h2) o ho d hd
def jcV (an:List (Nat × Nat)):List Nat->Nat
 | []=>0
 |d::r=>Nat.lor (Nat.lor (2 ^ d) (match find d an with|some m=>m|none=>0)) (jcV an r)
def bitB (m i:Nat):Bool:=match Nat.land 1 (Nat.shiftRight m i)with|0=>false|_+1=>true
theorem bitB_e {m i:Nat}(h:bitB m i=true):m.testBit i=true:=by
 unfold bitB at h
 rw[Nat.testBit]
 have:(1 &&& m >>> i)=Nat.land 1 (Nat.shiftRight m i):=rfl
 rw[this]
 cases hq:Nat.land 1 (Nat.shiftRight m i)with
 |zero=>rw[hq]at h;cases h
 |succ n=>rfl
theorem WL {os:List Oper}{an:List (Nat × Nat)}(han:∀j m,find j an=some m->∀i,m.testBit i=true->Anc os j i){j o}(ho:os[j]? = some o):∀{ds:List Nat},(∀d∈ds,d∈qH o)->∀{i},(jcV an ds).testBit i=true->Anc os j i
 | [],_,i,h=>by simp[jcV]at h
 |d :: r,hd,i,h=>by
  have e1:jcV an (d::r)=(2 ^ d|||(match find d an with|some m=>m|none=>0))|||jcV an r:=rfl
  rw[e1,Nat.testBit_or,Nat.testBit_or,Bool.or_eq_true,Bool.or_eq_true]at h
  rcases h with (h|h)|h
  ·rw[Nat.testBit_two_pow]at h
   have:d=i:=by simpa using h
   subst this
   exact .dep ho (hd d (by simp))
  ·split at h
   ·rename_i m hm
    exact .step ho (hd d (by simp)) (han d m hm i h)
   ·simp at h
  ·exact WL han ho (fun x hx=>hd x (List.mem_cons_of_mem _ hx)) h
def Ky (earlier:List Loc)(an:List (Nat × Nat)):Nat->List Oper->List Loc->Bool
 |j,o::os,c::cs=>(qH o).all (·<j)&&(earlier.zipIdx.all fun p => !(p.1.uw c)||bitB (jcV an (qH o)) p.2)&&Ky (earlier++[c]) ((j,jcV an (qH o))::an) (j+1) os cs
 |_,_,_=>true
def Xp:List Nat->Bool
 | []=>true
 |x::l => !l.contains x&&Xp l
theorem wz {α:Type}{t:Nat}:∀{a b:List (Nat × α)},kS t a=true->find t (a++b)=find t a
 | [],b,h=>by simp[kS]at h
 |(k,x)::a,b,h=>by
  rw[List.cons_append,jk,jk]
  by_cases hk:k=t
  ·simp[hk]
  ·rw[if_neg hk,if_neg hk]
   refine wz ?_
   have hkb:(k==t)=false:=by simpa using hk
   simp only[kS,List.any_cons,hkb,Bool.false_or]at h⊢
   exact h
theorem UD {α:Type}{t:Nat}:∀{a b:List (Nat × α)},kS t a=false->find t (a++b)=find t b
 | [],b,h=>rfl
 |(k,x)::a,b,h=>by
  simp only[kS,List.any_cons,Bool.or_eq_false_iff]at h
  rw[List.cons_append,jk,if_neg (by simpa using h.1)]
  exact UD h.2
theorem xF {α:Type}(W:Nat->List (Nat × α))(base:List (Nat × α))(t:Nat):∀(l:List Nat),find t (l.flatMap W++base)=find t ((l.filter fun i=>kS t (W i)).flatMap W++base)
 | []=>rfl
 |i :: l=>by
  rw[List.flatMap_cons,List.append_assoc,List.filter_cons]
  by_cases h:kS t (W i)=true
  ·rw[if_pos h,wz h,List.flatMap_cons,List.append_assoc,wz h]
  ·rw[if_neg h,UD (by simpa using h)]
   exact xF W base t l
theorem jft {l l':List Nat}(h1:l.Pairwise (·>·))(h2:l'.Pairwise (·>·))(hm:∀x,x∈l↔x∈l'):l=l':=by
 induction l generalizing l' with
 |nil=>
  cases l' with
  |nil=>rfl
  |cons y l'=>have:=(hm y).2 (by simp);simp at this
 |cons x l ih=>
  cases l' with
  |nil=>have:=(hm x).1 (by simp);simp at this
  |cons y l'=>
   obtain⟨a1,a2⟩:=List.pairwise_cons.1 h1
   obtain⟨b1,b2⟩:=List.pairwise_cons.1 h2
   have hxy:x=y:=by
    rcases List.mem_cons.1 ((hm x).1 (by simp))with h|h
    ·exact h
    ·rcases List.mem_cons.1 ((hm y).2 (by simp))with h' |h'
     ·exact h'.symm
     ·have:=a1 y h';have:=b1 x h;omega
   subst hxy
   congr 1
   refine ih a2 b2 fun z=>⟨fun hz=>?_,fun hz=>?_⟩
   ·rcases List.mem_cons.1 ((hm z).1 (by simp[hz]))with h|h
    ·subst h;have:=a1 _ hz;omega
    ·exact h
   ·rcases List.mem_cons.1 ((hm z).2 (by simp[hz]))with h|h
    ·subst h;have:=b1 _ hz;omega
    ·exact h
def Yo:Nat->List Nat
 |0=>[]
 |n+1=>n::Yo n
theorem Xr {n x:Nat}:x∈Yo n↔x<n:=by
 induction n with
 |zero=>simp[Yo]
 |succ n ih=>simp only[Yo,List.mem_cons,ih];omega
theorem pB (n:Nat):(Yo n).Pairwise (·>·):=by
 induction n with
 |zero=>simp[Yo]
 |succ n ih=>exact List.pairwise_cons.2 ⟨fun x hx=>by have:=Xr.1 hx;omega,ih⟩
def QI:Loc:=⟨[],[],[],[],[]⟩
def WE (cs:List Loc)(i:Nat):Env:=(cs.getD i QI).we
def WH (cs:List Loc)(i:Nat):Hp:=(cs.getD i QI).wh
theorem jae (n:Nat):Yo (n+1)=(Yo n).map (·+1)++[0]:=by
 induction n with
 |zero=>rfl
 |succ n ih=>
  show(n+1)::Yo (n+1)=(n+1)::((Yo n).map (·+1))++[0]
  rw[ih];rfl
theorem WN {α:Type}(W:Nat->List (Nat × α))(n:Nat)(base:List (Nat × α)):(Yo (n+1)).flatMap W++base=(Yo n).flatMap (fun i=>W (i+1))++(W 0++base):=by
 rw[jae]
 simp[List.flatMap_append,List.flatMap_map]
theorem TrL.at {P ops N os e h cs e' h'}(t:TrL P ops N os e h cs e' h'):cs.length=os.length/\
 (∀j o,os[j]? = some o->∃c,cs[j]? = some c/\LEx P ops N o c/\(∀p∈c.re,find p.1 ((Yo j).flatMap (WE cs)++e)=some p.2)/\(∀p∈c.rh,find p.1 ((Yo j).flatMap (WH cs)++h)=some p.2))/\
 e'=(Yo os.length).flatMap (WE cs)++e/\h'=(Yo os.length).flatMap (WH cs)++h:=by
 induction t with
 |nil=>simp[Yo]
 | @cons o rest e h c cs e' h' hl hre hrh _ ih=>
   obtain⟨i1,i2,i3,i4⟩:=ih
   refine⟨by simp[i1],?_,?_,?_⟩
   ·intro j o' hj
    cases j with
    |zero=>
     simp at hj;subst hj
     exact⟨c,rfl,hl,by simpa [Yo]using hre,by simpa [Yo]using hrh⟩
    |succ j=>
     obtain⟨c',k1,k2,k3,k4⟩:=i2 j o' (by simpa using hj)
     refine⟨c',by simpa using k1,k2,fun p hp=>?_,fun p hp=>?_⟩
     ·rw[WN];exact k3 p hp
     ·rw[WN];exact k4 p hp
   ·rw[i3,List.length_cons,WN];rfl
   ·rw[i4,List.length_cons,WN];rfl
theorem mK (all:List Oper):∀(earlier:List Loc) (an:List (Nat × Nat)) (os:List Oper) (cs:List Loc),(∀k,os[k]? = all[earlier.length+k]?)->(∀j m,find j an=some m->∀i,m.testBit i=true->Anc all j i)->
 Ky earlier an earlier.length os cs=true->∀j o c,os[j]? = some o->cs[j]? = some c->
 (∀d∈qH o,d<earlier.length+j)/\(∀i c',(earlier++cs)[i]? = some c'->i<earlier.length+j->c'.uw c=true->Anc all (earlier.length+j) i)
 |earlier,an,[],cs,_,_,_,j,o,c,ho,_=>by simp at ho
 |earlier,an,o'::os,[],_,_,_,j,o,c,_,hc=>by simp at hc
 |earlier,an,o'::os,c'::cs,hall,han,h,j,o,c,ho,hc=>by
  simp only[Ky,Bool.and_eq_true]at h
  obtain⟨⟨h1,h2⟩,h3⟩:=h
  have ho':all[earlier.length]? = some o':=by have:=hall 0;simpa using this.symm
  cases j with
  |zero=>
   simp at ho hc;subst ho hc
   refine⟨fun d hd=>by have:=List.all_eq_true.1 h1 d hd;simpa using this,fun i c2 hi hlt hconf=>?_⟩
   rw[List.getElem?_append_left (by omega)]at hi
   have:=List.all_eq_true.1 h2 (c2,i) (by rw[List.mem_iff_getElem?];exact⟨i,by simp[hi]⟩)
   simp only[hconf,Bool.not_true,Bool.false_or]at this
   exact WL han ho' (fun d hd=>hd) (bitB_e this)
  |succ j=>
   have hlen:(earlier++[c']).length=earlier.length+1:=by simp
   have:=mK all (earlier++[c']) ((earlier.length,jcV an (qH o'))::an) os cs (by
    intro k
    have:=hall (k+1)
    rw[hlen,show earlier.length+1+k=earlier.length+(k+1) by omega,<-this];rfl)
    (by
      intro j m hm i hi
      rw[jk]at hm
      split at hm
      ·rename_i he;cases hm;subst he
       exact WL han ho' (fun d hd=>hd) hi
      ·exact han j m hm i hi) (by rw[hlen];exact h3) j o c (by simpa using ho) (by simpa using hc)
   rw[hlen,List.append_assoc]at this
   refine⟨fun d hd=>by have:=this.1 d hd;omega,fun i c2 hi hlt hconf=>?_⟩
   have:=this.2 i c2 hi (by omega) hconf
   rwa [show earlier.length+1+j=earlier.length+(j+1) by omega]at this
theorem uP:∀{l:List Nat},Xp l=true->l.Nodup
 | [],_=>List.nodup_nil
 |x::l,h=>by
  simp only[Xp,Bool.and_eq_true]at h
  exact List.nodup_cons.2 ⟨by simpa using h.1,uP h.2⟩
theorem WS {α β:Type}{a:List (Nat × α)}{b:List (Nat × β)}{t:Nat}(ha:kS t a=true)(hb:kS t b=true):meets a b=true:=by
 obtain⟨p,hp,hpt⟩:=List.any_eq_true.1 ha
 refine List.any_eq_true.2 ⟨p,hp,?_⟩
 have:p.1=t:=by simpa using hpt
 rw[this];exact hb
theorem wu {α:Type}{l:List (Nat × α)}{p:Nat × α}(h:p∈l):kS p.1 l=true:=List.any_eq_true.2 ⟨p,h,by simp⟩
theorem ub {α:Type}(W:Nat->List (Nat × α))(base:List (Nat × α))(t:Nat)(σ:List Nat)(n:Nat)(hs:σ.Pairwise fun i j=>kS t (W i)=true->kS t (W j)=true->i>j)
 (hm:∀i,kS t (W i)=true->(i∈σ↔i<n)):find t (σ.flatMap W++base)=find t ((Yo n).flatMap W++base):=by
 rw[xF W base t σ,xF W base t (Yo n)]
 congr 3
 refine jft ?_ ((pB n).filter _) ?_
 ·refine(hs.filter _).imp_of_mem ?_
  intro a b ha hb h
  exact h (List.mem_filter.1 ha).2 (List.mem_filter.1 hb).2
 ·intro x
  rw[List.mem_filter,List.mem_filter,Xr]
  constructor
  ·rintro⟨h1,h2⟩;exact⟨(hm x h2).1 h1,h2⟩
  ·rintro⟨h1,h2⟩;exact⟨(hm x h2).2 h1,h2⟩
theorem pX:∀{cs:List Loc},(Zu cs).Nodup->∀{i j d},d∈(cs.getD i QI).nm->d∈(cs.getD j QI).nm->i=j
 | [],_,i,j,d,hi,_=>by simp[QI]at hi
 |c :: cs,h,i,j,d,hi,hj=>by
  have h':(c.nm++Zu cs).Nodup:=h
  obtain⟨h1,h2,h3⟩:=List.nodup_append.1 h'
  have mem:∀k,d∈(cs.getD k QI).nm->d∈Zu cs:=by
   intro k hk
   rcases Nat.lt_or_ge k cs.length with hlt|hge
   ·refine List.mem_flatMap.2 ⟨cs[k],List.getElem_mem hlt,?_⟩
    simpa [List.getD,List.getElem?_eq_getElem hlt]using hk
   ·simp[List.getD,List.getElem?_eq_none hge,QI]at hk
  cases i with
  |zero=>
   cases j with
   |zero=>rfl
   |succ j=>exact absurd rfl (h3 d (by simpa using hi) d (mem j (by simpa using hj)))
  |succ i=>
   cases j with
   |zero=>exact absurd rfl (h3 d (by simpa using hj) d (mem i (by simpa using hi)))
   |succ j=>exact congrArg (·+1) (pX h2 (i:=i) (j:=j) (d:=d) (by simpa using hi) (by simpa using hj))
theorem jdw:∀{n:Nat} {l:List Nat},l.Nodup->(∀x∈l,x<n)->l.length<=n
 |0,l,_,h=>by
  cases l with
  |nil=>simp
  |cons x l=>have:=h x (by simp);omega
 |n + 1,l,nd,h=>by
  by_cases hn:n∈l
  ·have h1:=jdw (n:=n) (nd.erase n) (fun x hx=>by
    have:=(List.Nodup.mem_erase_iff nd).1 hx
    have:=h x this.2
    omega)
   have:=List.length_erase_of_mem hn
   omega
  ·have:=jdw (n:=n) nd (fun x hx=>by
    have:=h x hx
    have:x≠n:=by rintro rfl;exact hn hx
    omega)
   omega
theorem jju {α:Type}{cs:List Loc}{t i:Nat}{g:Loc->List (Nat × α)}(hg:g QI=[])(h:kS t (g (cs.getD i QI))=true):i<cs.length:=by
 rcases Nat.lt_or_ge i cs.length with hlt|hge
 ·exact hlt
 ·simp only[List.getD,List.getElem?_eq_none hge,Option.getD_none,hg]at h
  simp[kS]at h
def jiT (n0:Nat):Nat->List (Nat × Nat)->List Oper->Bool
 |_,_,[]=>true
 |j,an,o::os=>(qH o).all (fun d=>Nat.blt d j)&&((Nat.blt j n0||Nat.beq (Nat.land (jcV an (qH o)) (2 ^ j - 1)) (2 ^ j - 1))&&jiT n0 (j+1) ((j,jcV an (qH o))::an) os)
def barOk (ops:Array Oper)(n0:Nat):Bool:=jiT n0 0 [] ops.toList
theorem xV {n0:Nat}(all:List Oper):∀{os:List Oper} {j0 an},(∀k,os[k]? = all[j0+k]?)->(∀j m,find j an=some m->∀i,m.testBit i=true->Anc all j i)->jiT n0 j0 an os=true->
 ∀j o,os[j]? = some o->(∀d∈qH o,d<j0+j)/\(n0<=j0+j->∀i,i<j0+j->Anc all (j0+j) i)
 | [],j0,an,_,_,_,j,o,ho=>by simp at ho
 |o' :: os,j0,an,hall,han,h,j,o,ho=>by
  simp only[jiT,Bool.and_eq_true]at h
  obtain⟨h1,h2,h3⟩:=h
  have ho':all[j0]? = some o':=by have:=hall 0;simpa using this.symm
  cases j with
  |zero=>
   simp at ho;subst ho
   refine⟨fun d hd=>by have:=List.all_eq_true.1 h1 d hd;exact Nat.le_of_ble_eq_true this,fun hn i hi=>?_⟩
   have hi:i<j0:=hi
   simp only[Bool.or_eq_true]at h2
   rcases h2 with h2|h2
   ·have:j0<n0:=Nat.le_of_ble_eq_true h2
    have hn:n0<=j0:=hn
    omega
   ·have h2:=Nat.eq_of_beq_eq_true h2
    have e1:(jcV an (qH o') &&& (2 ^ j0 - 1)).testBit i=(2 ^ j0 - 1).testBit i:=congrArg (fun m=>m.testBit i) h2
    rw[Nat.testBit_and,Nat.testBit_two_pow_sub_one]at e1
    simp only[hi,decide_true,Bool.and_true]at e1
    exact WL han ho' (fun d hd=>hd) e1
  |succ j=>
   have:=xV all (os:=os) (j0:=j0+1) (an:=(j0,jcV an (qH o'))::an) (by
    intro k
    have:=hall (k+1)
    rw[show j0+1+k=j0+(k+1) by omega,<-this];rfl)
    (by
      intro j m hm i hi
      rw[jk]at hm
      split at hm
      ·rename_i he;cases hm;subst he
       exact WL han ho' (fun d hd=>hd) hi
      ·exact han j m hm i hi) h3 j o (by simpa using ho)
   rwa [show j0+1+j=j0+(j+1) by omega]at this
theorem jjs:∀{n:Nat} {l:List Nat},(∀i,i<n->i∈l)->n<=l.length
 |0,_,_=>Nat.zero_le _
 |n+1,l,h=>by
  have h1:=jjs (n:=n) (l:=l.erase n) (fun i hi=>(List.mem_erase_of_ne (by omega)).2 (h i (by omega)))
  have h2:=List.length_erase_of_mem (h n (by omega))
  have h3:0<l.length:=List.length_pos_of_mem (h n (by omega))
  omega
theorem Anc.memP {os:List Oper}{S:Nat->Prop}(hcl:∀k,S k->∀o,os[k]? = some o->∀d∈qH o,S d){j i}(h:Anc os j i):(∀o,os[j]? = some o->∀d∈qH o,S d)->S i:=by
 induction h with
 |dep h1 h2=>intro k;exact k _ h1 _ h2
 |step h1 h2 _ ih=>intro k;exact ih fun o ho d hd=>hcl _ (k _ h1 _ h2) o ho d hd
theorem Wp.draw2 {P:Program}{N id:Nat}{ops:Array Oper}{Q:Kj->LS->Prop}{e e':Env}{h h':Hp}{f f':Nat->Prop}{st:List Env}{cs:List Loc}{A B:List Oper}(hm:P.follows .mixedOrders=true)(hAB:ops.toList=A++B)
 (bar:barOk ops A.length=true) (tr:TrL P ops N A e h cs e' h') (ok:Ky [] [] 0 A cs=true) (hn:Xp (Zu cs)=true) (hin:∀d∈Zu cs,f d)
 (hf:∀y,f' y->f y/\y∉Zu cs) (hq:GoT P ops N B (Q .normal) ⟨e',st,h',f'⟩):Wp P N (.region id ops true) Q ⟨e,st,h,f⟩:=by
 intro W0 m0 sa m bl ac w s Qc hc
 obtain⟨t1,t2,t3,t4⟩:=tr.at
 have hsz0:ops.size=A.length+B.length:=by rw[<-Array.length_toList,hAB,List.length_append]
 have opA:∀j,j<A.length->ops[j]? = A[j]? := by
  intro j hj
  rw[<-Array.getElem?_toList,hAB,List.getElem?_append_left hj]
 generalize hn0:A.length=n0 at t1 t3 t4 bar hsz0 opA
 -- what is known of each operation
 have fact:∀j o,j<n0->ops[j]? = some o->∃c,cs[j]? = some c/\LEx P ops N o c/\(∀p∈c.re,find p.1 ((Yo j).flatMap (WE cs)++e)=some p.2)/\(∀p∈c.rh,find p.1 ((Yo j).flatMap (WH cs)++h)=some p.2)/\
  (∀d∈qH o,d<j)/\(∀i c',cs[i]? = some c'->i<j->c'.uw c=true->Anc A j i):=by
  intro j o hj ho
  rw[opA j hj]at ho
  obtain⟨c,k1,k2,k3,k4⟩:=t2 j o ho
  have:=mK A [] [] A cs (by intro k;simp) (by intro j m hm;simp[find]at hm) (by simpa using ok) j o c ho k1
  simp only[List.length_nil,Nat.zero_add,List.nil_append]at this
  exact⟨c,k1,k2,k3,k4,this.1,this.2⟩
 have ndup:=uP hn
 -- the invariant
 let nmOf:Nat->List Nat:=fun i=>(cs.getD i QI).nm
 let fOf:List Nat->Nat->Prop:=fun σ y=>f y/\y∉σ.flatMap nmOf
 let uw:Nat->Nat->Bool:=fun i j=>(cs.getD i QI).uw (cs.getD j QI)
 have conf_symm : ∀i j, uw i j = uw j i := by
  intro i j
  have m2:∀{α:Type} (a b:List (Nat × α)),meets a b=meets b a:=by
   intro α a b
   rw[Bool.eq_iff_iff]
   constructor <;> intro hh <;>
   ·obtain⟨p,hp,hq⟩:=List.any_eq_true.1 hh
    obtain⟨q,hq1,hq2⟩:=List.any_eq_true.1 hq
    exact List.any_eq_true.2 ⟨q, hq1, by have:q.1=p.1:=by simpa using hq2
                                         rw[this];exact wu hp⟩
  simp only[uw,Loc.uw]
  rw[m2 (cs.getD i QI).we (cs.getD j QI).we,m2 (cs.getD i QI).wh (cs.getD j QI).wh]
  cases meets (cs.getD j QI).we (cs.getD i QI).we <;> cases meets (cs.getD i QI).we (cs.getD j QI).re <;> cases meets (cs.getD j QI).we (cs.getD i QI).re <;>
   cases meets (cs.getD j QI).wh (cs.getD i QI).wh <;> cases meets (cs.getD i QI).wh (cs.getD j QI).rh <;> cases meets (cs.getD j QI).wh (cs.getD i QI).rh <;> rfl
 have atCs:∀i c,cs[i]? = some c->cs.getD i QI=c:=by intro i c hi;simp[List.getD,hi]
 have cslt:∀i,i<cs.length->∃o,ops[i]? = some o:=by
  intro i hi;rw[t1]at hi;exact⟨ops[i]'(by omega),by simp[show i<ops.size by omega]⟩
 have later:∀i j,i<j->j<cs.length->uw i j=true->∀o,ops[j]? = some o->Anc A j i:=by
  intro i j hij hj hcf o ho
  obtain⟨c,k1,-,-,-,-,k6⟩:=fact j o (by omega) ho
  have hi:i<cs.length:=by omega
  refine k6 i cs[i] (List.getElem?_eq_getElem hi) hij ?_
  have e1:=atCs i cs[i] (List.getElem?_eq_getElem hi)
  have e2:=atCs j c k1
  simp only[uw,e1,e2]at hcf
  exact hcf
 have ancAll:∀listed:Array Bool,(∀k,listed.getD k false=true->∀o,ops[k]? = some o->∀d∈qH o,listed.getD d false=true)->∀j o,n0<=j->ops[j]? = some o->
  (∀d∈qH o,listed.getD d false=true)->∀i,i<j->listed.getD i false=true:=by
  intro listed hcl j o hj ho hd i hi
  have hjl:j<ops.size:=by
   rcases Nat.lt_or_ge j ops.size with h|h
   ·exact h
   ·simp[Array.getElem?_eq_none h]at ho
  have h1:=(xV (n0:=n0) ops.toList (os:=ops.toList) (j0:=0) (an:=[]) (by intro k;simp) (by intro j m hm;simp[find]at hm) bar j o (by simpa using ho)).2
  rw[Nat.zero_add]at h1
  exact Anc.memP (S:=fun k=>listed.getD k false=true) (fun k hk o ho d hd=>hcl k hk o (by simpa using ho) d hd) (h1 hj i hi) (fun o' ho' d' hd'=>by rw[show ops.toList[j]? = ops[j]? by simp,ho]at ho';cases ho';exact hd d' hd')
 have dltAll:∀j o,ops[j]? = some o->∀d∈qH o,d<j:=by
  intro j o ho d hd
  have hjl:j<ops.size:=by
   rcases Nat.lt_or_ge j ops.size with h|h
   ·exact h
   ·simp[Array.getElem?_eq_none h]at ho
  have h1:=(xV (n0:=n0) ops.toList (os:=ops.toList) (j0:=0) (an:=[]) (by intro k;simp) (by intro j m hm;simp[find]at hm) bar j o (by simpa using ho)).1 d hd
  simpa using h1
 -- from n0 on in the text's order
 have seq:∀(fuel k:Nat) (listed:Array Bool) (a:Act) (w:World),listed.size=ops.size->(∀i,listed.getD i false=true↔i<k)->n0<=k->k+fuel=ops.size->
  (∀j o,ops[j]? = some o->∀d∈qH o,d<j)->wpList P ops Qc (ops.toList.drop k) a w->wpAny P .any ops Qc fuel listed a w:=by
  intro fuel
  induction fuel with
  |zero=>
   intro k listed a w hsz hl hk hkf dlt hw
   have hr:Region.ready .any ops listed=[]:=by
    refine List.eq_nil_iff_forall_not_mem.2 fun j hj=>?_
    obtain⟨g1,o,g2,g3⟩:=mem_ready.1 hj
    have hjl:j<ops.size:=by
     rcases Nat.lt_or_ge j ops.size with h|h
     ·exact h
     ·simp[Array.getElem?_eq_none h]at g2
    have:=(hl j).2 (by omega)
    rw[Array.getD_eq_getD_getElem?]at g1 this
    simp[hsz,hjl]at g1 this
    rw[g1]at this;cases this
   refine⟨hr,?_⟩
   rw[List.drop_of_length_le (by simp;omega)]at hw
   exact hw
  |succ fuel ih=>
   intro k listed a w hsz hl hk hkf dlt hw
   have hks:k<ops.size:=by omega
   have hok:ops[k]? = some (ops[k]'hks):=by simp[hks]
   refine⟨fun hr=>?_,fun j hj=>?_⟩
   ·exfalso
    have:k∈Region.ready .any ops listed:=by
     refine mem_ready.2 ⟨?_,_,hok,fun ed hed hb=>?_⟩
     ·rw[Array.getD_eq_getD_getElem?]
      have h1:¬ listed.getD k false=true:=by rw[hl];omega
      rw[Array.getD_eq_getD_getElem?]at h1
      simp[hsz,hks]at h1⊢
      exact h1
     ·exact(hl _).2 (dlt k _ hok _ (List.mem_map.2 ⟨ed,List.mem_filter.2 ⟨by simpa using hed,hb⟩,rfl⟩))
    rw[hr]at this;simp at this
   ·obtain⟨g1,o,g2,g3⟩:=mem_ready.1 hj
    have hjl:j<ops.size:=by
     rcases Nat.lt_or_ge j ops.size with h|h
     ·exact h
     ·simp[Array.getElem?_eq_none h]at g2
    have hjn:¬ j<k:=by
     intro hjk
     have:=(hl j).2 hjk
     rw[Array.getD_eq_getD_getElem?]at g1 this
     simp[hsz,hjl]at g1 this
     rw[g1]at this;cases this
    have hdl:∀d∈qH o,listed.getD d false=true:=by
     intro d hd
     obtain⟨ed,hed,rfl⟩:=List.mem_map.1 hd
     obtain⟨h1,h2⟩:=List.mem_filter.1 hed
     exact g3 ed (by simpa using h1) h2
    have hjk:j=k:=by
     rcases Nat.lt_or_ge k j with h|h
     ·have:=ancAll listed (fun k' hk' o' ho' d hd=>(hl d).2 (by have:=(hl k').1 hk';have:=dlt k' o' ho' d hd;omega)) j o (by omega) g2 hdl k h
      have:=(hl k).1 this;omega
     ·omega
    subst hjk
    have hcons:ops.toList.drop j=o::ops.toList.drop (j+1):=by
     rw[List.drop_eq_getElem_cons (by simpa using hks)]
     congr 1
     rw[hok]at g2;simpa using g2
    rw[hcons]at hw
    unfold wpOp
    rw[g2]
    simp only[wpList]at hw⊢
    have nxt:∀a w,wpList P ops Qc (ops.toList.drop (j+1)) a w->wpAny P .any ops Qc fuel (listed.setIfInBounds j true) a w:=by
     intro a w hw'
     refine ih (j+1) _ a w (by simp[hsz]) ?_ (by omega) (by omega) dlt hw'
     intro i
     rw[Array.getD_eq_getD_getElem?,Array.getElem?_setIfInBounds]
     by_cases hij:j=i
     ·subst hij;simp[hsz,hjl]
     ·have:=hl i
      rw[Array.getD_eq_getD_getElem?]at this
      simp only[hij,if_false,this];omega
    split
    ·rename_i hw1
     rw[if_pos hw1]at hw
     rcases hw with hw|hw
     ·exact .inl (Oper.wp_mono nxt hw)
     ·exact .inr hw
    ·rename_i hw1
     rw[if_neg hw1]at hw
     exact nxt _ _ hw
 have readyAll:∀listed:Array Bool,listed.size=ops.size->(∀i,i∉Region.ready .any ops listed)->∀j,j<n0->listed.getD j false=true:=by
  intro listed hsz hr j
  induction j using Nat.strongRecOn with
  |_ j ih=>
   intro hj
   rcases Bool.eq_false_or_eq_true (listed.getD j false)with h1|h1
   ·exact h1
   ·exfalso
    obtain⟨o,ho⟩:∃o,ops[j]? = some o:=⟨ops[j]'(by omega),by simp[show j<ops.size by omega]⟩
    obtain⟨c,k1,k2,k3,k4,k5,k6⟩:=fact j o hj ho
    have hs:j<listed.size:=by omega
    refine hr j (mem_ready.2 ⟨?_,o,ho,?_⟩)
    ·rw[Array.getD_eq_getD_getElem?]at h1⊢;simpa [hs]using h1
    ·intro ed hed hb
     have hd:ed.on∈qH o:=List.mem_map.2 ⟨ed,List.mem_filter.2 ⟨by simpa using hed,hb⟩,rfl⟩
     exact ih ed.on (k5 _ hd) (by have:=k5 _ hd;omega)
 have main : ∀(fuel:Nat) (listed:Array Bool) (σ:List Nat) (a:Act) (w:World) (m:Mem) (bl:Names),listed.size=ops.size->σ.Nodup->(∀i,i∈σ↔listed.getD i false=true)->(∀i∈σ,i<n0)->σ.length+fuel=ops.size->
  (∀k∈σ,∀o,ops[k]? = some o->∀d∈qH o,d∈σ)->σ.Pairwise (fun i j=>uw i j=true->i>j)->
  Sim N W0 m0 ⟨σ.flatMap (WE cs)++e,st,σ.flatMap (WH cs)++h,fOf σ⟩ sa a w m bl->wpAny P .any ops Qc fuel listed a w:=by
  -- where the first part has been carried out
  have fin:∀(fuel:Nat) (listed:Array Bool) (σ:List Nat) (a:Act) (w:World) (m:Mem) (bl:Names),listed.size=ops.size->(∀i,i∈σ↔listed.getD i false=true)->(∀i∈σ,i<n0)->σ.Nodup->σ.length+fuel=ops.size->
   σ.Pairwise (fun i j=>uw i j=true->i>j)->Sim N W0 m0 ⟨σ.flatMap (WE cs)++e,st,σ.flatMap (WH cs)++h,fOf σ⟩ sa a w m bl->(∀i,i<n0->i∈σ)->wpAny P .any ops Qc fuel listed a w:=by
   intro fuel listed σ a w m bl hsz hli hlt hnd hlen hpw S hall
   have hσ:σ.length=n0:=by
    have h1:=jdw hnd hlt
    have h2:=jjs hall
    omega
   refine seq fuel n0 listed a w hsz (fun i=>?_) (Nat.le_refl _) (by omega) dltAll ?_
   ·rw[<-hli];exact⟨fun h=>hlt i h,fun h=>hall i h⟩
   rw[hAB,List.drop_left' hn0]
   refine hq _ _ _ _ _ _ _ (S.weaken ?_ ?_ ?_) _ fun L' a' w' m' bl' q s'=>hc .normal _ _ _ _ _ q s'
   ·intro t x hx
    rw[t3]at hx
    rw[<-hx]
    refine ub (WE cs) e t σ n0 ?_ ?_
    ·exact hpw.imp fun hij h1 h2=>hij (by simp only[uw,Loc.uw];rw[WS (a:=(cs.getD _ QI).we) (b:=(cs.getD _ QI).we) h1 h2];simp)
    ·intro i hi
     have:=jju (g:=Loc.we) rfl hi
     exact⟨fun _=>by omega,fun hlt=>hall i hlt⟩
   ·intro t x hx
    rw[t4]at hx
    rw[<-hx]
    refine ub (WH cs) h t σ n0 ?_ ?_
    ·exact hpw.imp fun hij h1 h2=>hij (by simp only[uw,Loc.uw];rw[WS (a:=(cs.getD _ QI).wh) (b:=(cs.getD _ QI).wh) h1 h2];simp)
    ·intro i hi
     have:=jju (g:=Loc.wh) rfl hi
     exact⟨fun _=>by omega,fun hlt=>hall i hlt⟩
   ·intro d hd
    obtain⟨hf1,hf2⟩:=hf d hd
    refine⟨hf1,fun hcon=>hf2 ?_⟩
    obtain⟨i,hi,hdi⟩:=List.mem_flatMap.1 hcon
    rcases Nat.lt_or_ge i cs.length with hlt|hge
    ·refine List.mem_flatMap.2 ⟨cs[i],List.getElem_mem hlt,?_⟩
     simpa [nmOf,List.getD,List.getElem?_eq_getElem hlt]using hdi
    ·simp[nmOf,List.getD,List.getElem?_eq_none hge,QI]at hdi
  intro fuel
  induction fuel with
  |zero=>
   intro listed σ a w m bl hsz hnd hli hlt hlen hcl hpw S
   refine fin 0 listed σ a w m bl hsz hli hlt hnd hlen hpw S ?_
   intro i hi
   refine Decidable.byContradiction fun hn'=>?_
   have hl1:=jdw (n:=n0) (l:=i::σ) (List.nodup_cons.2 ⟨hn',hnd⟩) (by
    intro x hx
    rcases List.mem_cons.1 hx with rfl|hx
    ·exact hi
    ·exact hlt x hx)
   simp at hl1;omega
  |succ fuel ih=>
   intro listed σ a w m bl hsz hnd hli hlt hlen hcl hpw S
   by_cases hall:∀i,i<n0->i∈σ
   ·exact fin (fuel+1) listed σ a w m bl hsz hli hlt hnd hlen hpw S hall
   refine⟨fun hr=>absurd (fun i hi=>(hli i).2 (readyAll listed hsz (by simp[hr]) i hi)) hall,fun j hj=>?_⟩
   obtain⟨g1,o,g2,g3⟩:=mem_ready.1 hj
   have hjl:j<ops.size:=by
    rcases Nat.lt_or_ge j ops.size with h|h
    ·exact h
    ·simp[Array.getElem?_eq_none h]at g2
   have hjs:j∉σ:=by
    intro hjs
    have:=(hli j).1 hjs
    rw[Array.getD_eq_getD_getElem?]at g1 this
    simp[hsz,hjl]at g1 this
    rw[g1]at this;cases this
   have hdeps:∀d∈qH o,d∈σ:=by
    intro d hd
    obtain⟨ed,hed,rfl⟩:=List.mem_map.1 hd
    obtain⟨h1,h2⟩:=List.mem_filter.1 hed
    exact(hli _).2 (g3 ed (by simpa using h1) h2)
   have hjn:j<n0:=by
    rcases Nat.lt_or_ge j n0 with h|h
    ·exact h
    ·exact absurd (fun i hi=>(hli i).2 (ancAll listed (fun k hk o ho d hd=>(hli d).1 (hcl k ((hli k).2 hk) o ho d hd)) j o h g2 (fun d hd=>(hli d).1 (hdeps d hd)) i (by omega))) hall
   obtain⟨c,k1,k2,k3,k4,k5,k6⟩:=fact j o hjn g2
   have ec:=atCs j c k1
   have jcs:j<cs.length:=by omega
   -- who writes what j reads
   have reads:∀i,(i∈σ↔i<j)\/uw i j=false:=by
    intro i
    rcases Bool.eq_false_or_eq_true (uw i j)with hcf|hcf
    ·have hclA:∀k∈σ,∀o,A[k]? = some o->∀d∈qH o,d∈σ:=fun k hk o ho d hd=>hcl k hk o (by rw[opA k (hlt k hk)];exact ho) d hd
     refine .inl ⟨fun hi=>?_,fun hi=>(later i j hi jcs hcf o g2).mem hclA (fun o' ho' d hd=>by rw[<-opA j hjn]at ho';rw[g2]at ho';cases ho';exact hdeps d hd)⟩
     rcases Nat.lt_trichotomy i j with h|h|h
     ·exact h
     ·subst h;exact absurd hi hjs
     ·have hil:i<cs.length:=by
       rcases Nat.lt_or_ge i cs.length with h|h'
       ·exact h
       ·simp only[uw,List.getD,List.getElem?_eq_none h',Option.getD_none]at hcf
        simp[QI,Loc.uw,meets,kS]at hcf
      obtain⟨o',ho'⟩:=cslt i hil
      have:=later j i h hil (by rw[conf_symm];exact hcf) o' ho'
      exact absurd (this.mem hclA (fun o2 ho2 d hd=>hcl i hi o2 (by rw[opA i (hlt i hi)];exact ho2) d hd)) hjs
    ·exact .inr hcf
   have rdE:∀p∈c.re,find p.1 (σ.flatMap (WE cs)++e)=some p.2:=by
    intro p hp
    rw[<-k3 p hp]
    refine ub (WE cs) e p.1 σ j ?_ ?_
    ·exact hpw.imp fun hij h1 h2=>hij (by simp only[uw,Loc.uw];rw[WS (a:=(cs.getD _ QI).we) (b:=(cs.getD _ QI).we) h1 h2];simp)
    ·intro i hi
     refine(reads i).resolve_right ?_
     simp only[uw,Loc.uw,ec]
     have:meets (cs.getD i QI).we c.re=true:=WS (t:=p.1) hi (wu hp)
     rw[this];simp
   have rdH:∀p∈c.rh,find p.1 (σ.flatMap (WH cs)++h)=some p.2:=by
    intro p hp
    rw[<-k4 p hp]
    refine ub (WH cs) h p.1 σ j ?_ ?_
    ·exact hpw.imp fun hij h1 h2=>hij (by simp only[uw,Loc.uw];rw[WS (a:=(cs.getD _ QI).wh) (b:=(cs.getD _ QI).wh) h1 h2];simp)
    ·intro i hi
     refine(reads i).resolve_right ?_
     simp only[uw,Loc.uw,ec]
     have:meets (cs.getD i QI).wh c.rh=true:=WS (t:=p.1) hi (wu hp)
     rw[this];simp
   have nmIn:∀d∈c.nm,fOf σ d:=by
    intro d hd
    have hdj:d∈(cs.getD j QI).nm:=by rw[ec];exact hd
    refine⟨hin d (List.mem_flatMap.2 ⟨c,List.mem_of_getElem? k1,hd⟩),fun hcon=>?_⟩
    obtain⟨i,hi,hdi⟩:=List.mem_flatMap.1 hcon
    have:=pX ndup (i:=i) (j:=j) hdi hdj
    subst this;exact hjs hi
   have nmOut:∀y,fOf (j::σ) y->fOf σ y/\y∉c.nm:=by
    rintro y ⟨h1,h2⟩
    rw[List.flatMap_cons,List.mem_append,not_or]at h2
    refine⟨⟨h1,h2.2⟩,?_⟩
    have:=h2.1
    simp only[nmOf,ec]at this
    exact this
   have step:=k2 _ _ _ _ (fOf (j::σ)) rdE rdH nmIn nmOut W0 m0 sa m bl a w S (wpAny P .any ops Qc fuel (listed.setIfInBounds j true)) Qc (by
    intro a' w' m' bl' S'
    refine ih _ (j::σ) a' w' m' bl' (by simp[hsz]) (List.nodup_cons.2 ⟨hjs,hnd⟩) ?_ (by intro x hx;rcases List.mem_cons.1 hx with rfl|hx;exact hjn;exact hlt x hx) (by simp;omega) ?_ ?_ ?_
    ·intro i
     rw[List.mem_cons,hli i,Array.getD_eq_getD_getElem?,Array.getD_eq_getD_getElem?,Array.getElem?_setIfInBounds]
     by_cases hij:j=i
     ·subst hij;simp[hsz,hjl]
     ·simp[hij,Ne.symm hij]
    ·intro k' hk' o' ho' d hd
     rcases List.mem_cons.1 hk' with rfl|hk'
     ·rw[g2]at ho';cases ho';exact List.mem_cons_of_mem _ (hdeps d hd)
     ·exact List.mem_cons_of_mem _ (hcl k' hk' o' ho' d hd)
    ·refine List.pairwise_cons.2 ⟨fun k' hk' hcf=>?_,hpw⟩
     rcases(reads k')with h1|h1
     ·exact h1.1 hk'
     ·rw[conf_symm,h1]at hcf;cases hcf
    ·simp only[List.flatMap_cons,List.append_assoc]
     have e1:WE cs j=c.we:=by simp only[WE,ec]
     have e2:WH cs j=c.wh:=by simp only[WH,ec]
     rw[e1,e2];exact S')
   unfold wpOp
   rw[g2]
   simp only
   by_cases hw:Region.wanted o (yielded ops a.tmps)=true
   ·rw[if_pos hw]at step⊢;exact .inl step
   ·rw[if_neg hw]at step⊢;exact step
 refine wp_region_any hm (main ops.size _ [] ac _ m bl (by simp) List.nodup_nil ?_ (by simp) (by simp) (by simp) .nil ?_)
 ·intro i
  rw[Array.getD_eq_getD_getElem?,Array.getElem?_replicate]
  split <;> simp
 ·refine⟨s.defers,s.size,s.below.drew,⟨s.ws.imm,s.ws.le,s.ws.grow,s.ws.blk,s.ws.it,s.ws.own,s.ws.inj,s.ws.gl⟩,s.env,s.stk,fun d hd=>s.free d hd.1⟩
end
section
open Go.RowKit
variable [GlC]
theorem LS.cut.kc {id nid k sz len mc t L L'}(h:LS.cut id nid k sz len mc L L' t)(hp:0<sz):zh L L':=by
 intro N W0 m0 sa a w m bl s
 obtain⟨l,hl,hkl,hl',hbare⟩:=h.h0
 have hv:=s.env t _ h.t0
 obtain⟨X,hX,hXv⟩:∃X:Bnd,(∀b n,X=.blk b n->∃n0,bl id=some (.blk b n0))/\
  ((X=.nil/\k=0/\∃ad,a.tmps.getD t undef=.slice ad 0 0)\/∃b n cap,X=.blk b (n.1,k)/\bl id=some (.blk b n)/\a.tmps.getD t undef=.slice (some ⟨b,0,none⟩) len cap/\len<=cap/\cap*sz<=n.1):=by
  generalize a.tmps.getD t undef=v at hv
  cases hv with
  |rownil=>exact⟨.nil,(by intro b n h;cases h),.inl ⟨rfl,by rw[h.hk];simp,_,rfl⟩⟩
  |row hb g1 g2 g3=>exact⟨.blk _ (_,k),(by intro b n h;cases h;exact⟨_,hb⟩),.inr ⟨_,_,_,rfl,hb,rfl,by omega,by omega⟩⟩
 let bl':Names:=fun i=>if i=nid then some X else if i=id then none else bl i
 have hfree:=s.free nid h.f.1
 have hold:∀i i',(if i=id then none else some i:Option Nat)=some i'->∀b,bl i=some b->bl' i'=some b:=by
  intro i i' hi b hb
  split at hi
  ·cases hi
  ·cases hi
   show(if _ then _ else if _ then _ else _)=_
   rw[if_neg (by rintro rfl;rw[hfree]at hb;cases hb),if_neg ‹_›];exact hb
 have hcase:∀i b n,bl' i=some (.blk b n)->(i=nid/\X=.blk b n)\/(i≠nid/\i≠id/\bl i=some (.blk b n)):=by
  intro i b n hi
  change (if _ then _ else if _ then _ else _)=_ at hi
  split at hi
  ·exact .inl ⟨‹_›,Option.some.inj hi⟩
  ·split at hi
   ·cases hi
   ·exact .inr ⟨‹_›,‹_›,hi⟩
 refine⟨m,bl',s.defers,s.size,s.below,⟨s.ws.imm,s.ws.le,s.ws.grow,?_,?_,?_,?_,s.ws.gl⟩,?_,?_,?_⟩
 ·intro i l1 hf
  by_cases hi:i=nid
  ·subst hi
   rw[hl']at hf;cases hf
   have hXn:bl' i=some X:=by show(if _ then _ else _)=_;rw[if_pos rfl]
   rcases hXv with ⟨rfl,rfl,-⟩|⟨b,n,cap,rfl,hb,-,-,-⟩
   ·exact .inl ⟨hXn,by simp⟩
   ·obtain⟨arr,T,pre,rest,q1,q2,q3,q4,q5⟩:=s.ws.at_ hl hb
    have hn1:n.1=arr.size:=by rw[<-q2]
    refine .inr ⟨b,(n.1,k),arr,T,pre.take k,pre.drop k++rest,hXn,q1,?_,by rw[q3,<-List.append_assoc,List.take_append_drop],?_,fun c hc=>q5 c (List.mem_of_mem_take hc)⟩
    ·rw[hn1,List.length_take,<-q4.length,Nat.min_eq_left hkl]
    ·have:=(q4.take k).bare (bl':=bl')
     rwa [wJ,yz hbare]at this
  ·obtain⟨hne,b0,h1,h2⟩:=h.h i _ hi hf
   cases b0 with
   |iter=>exact absurd h2 (by simp)
   |cells l0=>
    rcases s.ws.blk i l0 h1 with ⟨g1,rfl⟩|⟨b,n,arr,T,pre,rest,g1,g2,g3,g4,g5,g6⟩
    ·refine .inl ⟨hold i i (by rw[if_neg hne]) _ g1,?_⟩
     have:=h2 m bl [] (by simp[reL];exact .nil)
     cases this;rfl
    ·exact .inr ⟨b,n,arr,T,pre,rest,hold i i (by rw[if_neg hne]) _ g1,g2,g3,g4,h2 _ _ _ (g5.re hold),g6⟩
 ·intro i x p hf
  by_cases hi:i=nid
  ·subst hi;rw[hl']at hf;cases hf
  ·obtain⟨hne,b0,h1,h2⟩:=h.h i _ hi hf
   cases b0 with
   |cells=>exact absurd h2 (by simp)
   |iter x' p'=>
    obtain⟨rfl,rfl⟩:=h2
    obtain⟨b,n,g1,g2⟩:=s.ws.it i _ _ h1
    exact⟨b,n,hold i i (by rw[if_neg hne]) _ g1,g2⟩
 ·intro i b n hi
  rcases hcase i b n hi with ⟨-,hx⟩|⟨-,-,hb⟩
  ·obtain⟨n0,hb⟩:=hX b n hx
   exact s.ws.own id b n0 hb
  ·exact s.ws.own i b n hb
 ·intro i i' b n n' hi hi'
  rcases hcase i b n hi with ⟨rfl,hx⟩|⟨h1,h2,hb⟩
  ·rcases hcase i' b n' hi' with ⟨rfl,-⟩|⟨h1',h2',hb'⟩
   ·rfl
   ·obtain⟨n0,hb⟩:=hX b n hx
    exact absurd (s.ws.inj _ _ b _ _ hb' hb) h2'
  ·rcases hcase i' b n' hi' with ⟨rfl,hx'⟩|⟨h1',h2',hb'⟩
   ·obtain⟨n0,hb'⟩:=hX b n' hx'
    exact absurd (s.ws.inj _ _ b _ _ hb hb') h2
   ·exact s.ws.inj i i' b n n' hb hb'
 ·intro t' x hx
  rcases h.e t' x hx with ⟨rfl,rfl⟩|⟨y,hf,hsub⟩
  ·have hXn:bl' nid=some X:=by show(if _ then _ else _)=_;rw[if_pos rfl]
   rcases hXv with ⟨rfl,-,ad,hvv⟩|⟨b,n,cap,rfl,hb,hvv,g1,g2⟩
   ·rw[hvv];exact .rwnil hXn
   ·rw[hvv];exact .rw hXn h.hk.symm g1 g2
  ·exact hsub _ _ _ ((s.env t' y hf).re hold)
 ·obtain⟨k1,k2⟩:=Uj.1 s.stk
  refine Uj.2 ⟨by rw[h.s.1,k1],fun i e' t' he ht t x hx=>?_⟩
  have hlt:i<L.s.length:=by
   rw[<-h.s.1]
   rcases Nat.lt_or_ge i L'.s.length with h|h
   ·exact h
   ·rw[List.getElem?_eq_none h]at he;cases he
  obtain⟨y,hf,hsub⟩:=h.s.2 i e' L.s[i] he (List.getElem?_eq_getElem hlt) t x hx
  exact hsub _ _ _ ((k2 i _ t' (List.getElem?_eq_getElem hlt) ht t y hf).re hold)
 ·intro d hd
  obtain⟨h1,h2⟩:=h.f.2 d hd
  show(if _ then _ else if _ then _ else _)=_
  rw[if_neg h2]
  split
  ·rfl
  ·exact s.free d h1
end
section
open Go.RowKit
/-! a long chain of names: what mentions its end is unfolded before what does not (the kernel compares heights) -/
def hh0:Unit:=()
def hh1:Unit:=hh0
def hh2:Unit:=hh1
def hh3:Unit:=hh2
def hh4:Unit:=hh3
def hh5:Unit:=hh4
def hh6:Unit:=hh5
def hh7:Unit:=hh6
def hh8:Unit:=hh7
def hh9:Unit:=hh8
def hh10:Unit:=hh9
def hh11:Unit:=hh10
def hh12:Unit:=hh11
def hh13:Unit:=hh12
def hh14:Unit:=hh13
def hh15:Unit:=hh14
def hh16:Unit:=hh15
def hh17:Unit:=hh16
def hh18:Unit:=hh17
def hh19:Unit:=hh18
def hh20:Unit:=hh19
def hh21:Unit:=hh20
def hh22:Unit:=hh21
def hh23:Unit:=hh22
def hh24:Unit:=hh23
def hh25:Unit:=hh24
def hh26:Unit:=hh25
def hh27:Unit:=hh26
def hh28:Unit:=hh27
def hh29:Unit:=hh28
def hh30:Unit:=hh29
def hh31:Unit:=hh30
def hh32:Unit:=hh31
def hh33:Unit:=hh32
def hh34:Unit:=hh33
def hh35:Unit:=hh34
def hh36:Unit:=hh35
def hh37:Unit:=hh36
def hh38:Unit:=hh37
def hh39:Unit:=hh38
def hh40:Unit:=hh39
def hh41:Unit:=hh40
def hh42:Unit:=hh41
def hh43:Unit:=hh42
def hh44:Unit:=hh43
def hh45:Unit:=hh44
def hh46:Unit:=hh45
def hh47:Unit:=hh46
def hh48:Unit:=hh47
def hh49:Unit:=hh48
def hh50:Unit:=hh49
def hh51:Unit:=hh50
def hh52:Unit:=hh51
def hh53:Unit:=hh52
def hh54:Unit:=hh53
def hh55:Unit:=hh54
def hh56:Unit:=hh55
def hh57:Unit:=hh56
def hh58:Unit:=hh57
def hh59:Unit:=hh58
def hh60:Unit:=hh59
def hh61:Unit:=hh60
def hh62:Unit:=hh61
def hh63:Unit:=hh62
def hh64:Unit:=hh63
def hh65:Unit:=hh64
def hh66:Unit:=hh65
def hh67:Unit:=hh66
def hh68:Unit:=hh67
def hh69:Unit:=hh68
def hh70:Unit:=hh69
def hh71:Unit:=hh70
def hh72:Unit:=hh71
def hh73:Unit:=hh72
def hh74:Unit:=hh73
def hh75:Unit:=hh74
def hh76:Unit:=hh75
def hh77:Unit:=hh76
def hh78:Unit:=hh77
def hh79:Unit:=hh78
def hh80:Unit:=hh79
def hh81:Unit:=hh80
def hh82:Unit:=hh81
def hh83:Unit:=hh82
def hh84:Unit:=hh83
def hh85:Unit:=hh84
def hh86:Unit:=hh85
def hh87:Unit:=hh86
def hh88:Unit:=hh87
def hh89:Unit:=hh88
def hh90:Unit:=hh89
def hh91:Unit:=hh90
def hh92:Unit:=hh91
def hh93:Unit:=hh92
def hh94:Unit:=hh93
def hh95:Unit:=hh94
def hh96:Unit:=hh95
def hh97:Unit:=hh96
def hh98:Unit:=hh97
def hh99:Unit:=hh98
def hh100:Unit:=hh99
def hh101:Unit:=hh100
def hh102:Unit:=hh101
def hh103:Unit:=hh102
def hh104:Unit:=hh103
def hh105:Unit:=hh104
def hh106:Unit:=hh105
def hh107:Unit:=hh106
def hh108:Unit:=hh107
def hh109:Unit:=hh108
def hh110:Unit:=hh109
def hh111:Unit:=hh110
def hh112:Unit:=hh111
def hh113:Unit:=hh112
def hh114:Unit:=hh113
def hh115:Unit:=hh114
def hh116:Unit:=hh115
def hh117:Unit:=hh116
def hh118:Unit:=hh117
def hh119:Unit:=hh118
def jgK:Unit:=hh119
/-! words of the plain forms -/
def Let {β X:Type}(v:β)(k:β->X):X:=k v
def Bind {α β:Type}(m:Option α)(k:α->Option β):Option β:=m.bind k
def Chk {α:Type}(c:Prop)[Decidable c](k:Option α):Option α:=if c then k else none
def Yg {V X:Type}(step:(V->Option X)->V->Option X):Nat->V->Option X
 |0,_=>none
 |n+1,v=>step (Yg step n) v
def fuel:Nat:=2 ^ 70
abbrev w64 (n:Int):Int:=IntKind.i64.wrap n
def ix {α:Type}[Inhabited α](l:List α)(i:Int):α:=l.getD i.toNat default
def toByte (n:Int):UInt8:=UInt8.ofNat (n % 256).toNat
def bAnd (k:IntKind)(a b:Int):Int:=k.wrap (BitVec.ofInt k.bits a &&& BitVec.ofInt k.bits b).toNat
def bOr (k:IntKind)(a b:Int):Int:=k.wrap (BitVec.ofInt k.bits a|||BitVec.ofInt k.bits b).toNat
def bXor (k:IntKind)(a b:Int):Int:=k.wrap (BitVec.ofInt k.bits a ^^^ BitVec.ofInt k.bits b).toNat
def bShl (k:IntKind)(a b:Int):Int:=k.wrap (a*2 ^ (min b.toNat k.bits))
def bShr (k:IntKind)(a b:Int):Int:=a.fdiv (2 ^ (min b.toNat k.bits))
variable [GlC]
structure Tb where
 P:Program
 Ix:Type
 dec:DecidableEq Ix
 T:Ix->Type
 sz:Ix->Nat
 el:(i:Ix)->T i->AV
 look:Nat->Option Ix
 byte:Option {i:Ix // ∃h:T i=UInt8,sz i=1/\∀x,el i x=JD (cast h x)}
def Tup (tb:Tb):List tb.Ix->Type
 | []=>Unit
 | [i]=>tb.T i
 |i::j::r=>tb.T i × Tup tb (j::r)
section
variable {tb:Tb}
def Vv:(rs:List tb.Ix)->Tup tb rs->List AV
 | [],_=>[]
 | [i],x=>[tb.el i x]
 |i::j::r,x=>tb.el i x.1::Vv (j::r) x.2
def pG (rs:List tb.Ix)(r:Tup tb rs):AV:=QW (Vv rs r)
def CloR (tb:Tb)(f:Nat)(qQ:List AV)(ps rs:List tb.Ix)(g:Tup tb ps->Option (Tup tb rs)):Prop:=
 (∀(vs:Array Value) (w:World),(callFunc f vs).run tb.P w=.ok (.enter f vs) w)/\JS qQ=true/\∀a r,g a=some r->FnR tb.P f (Vv ps a++qQ) (pG rs r) []
end
abbrev Gd:=List (Nat × Bool × Bool)
def gc:Gd->Bool
 | []=>true
 |(_,w,t)::G=>match G with
  | []=>t==w
  |_::_=>gc G&&(t==w)
def gc0:Gd->Bool
 | []=>true
 |(_,w,t)::G=>gc0 G&&(t==w)
theorem jeC:∀G,gc G=gc0 G
 | []=>rfl
 | [(_,w,t)]=>by simp[gc,gc0]
 |(_,w,t)::g::G=>by show(gc (g::G)&&_)=(gc0 (g::G)&&_);rw[jeC (g::G)]
inductive SV (tb:Tb):Type where
 |undef
 |i (k:IntKind) (n:Int)
 |b8 (c:UInt8)
 |bo (b:Bool)
 |st (s:List UInt8)
 |con (x:Value)
 |agg (l:List (SV tb))
 |tup (l:List (SV tb))
 |sl (c:Bool) (E:tb.Ix) (l:List (tb.T E))
 |em (E:tb.Ix)
 |cp (l:List (SV tb))
 |fn (f:Nat) (l:List (SV tb))
 |ptr (id off:Nat)
 |epr (id:Nat) (E:tb.Ix) (i:Int) (fo:Nat)
 |row (id:Nat) (E:tb.Ix) (off len mc:Nat)
 |rw(id:Nat) (E:tb.Ix)
 |opt (G:Gd) (x:SV tb)
 |cl (ps rs:List tb.Ix) (g:Tup tb ps->Option (Tup tb rs)) (f:Nat) (qQ:List AV) (h:CloR tb f qQ ps rs g)
 |ifc (t:Nat) (x:SV tb)
variable {tb:Tb}
mutual
def SV.av:SV tb->AV
 | .undef=>.undef
 | .i k n=>.v (.int k n)
 | .b8 c=>JD c
 | .bo b=>.v (.bool b)
 | .st s=>.v (.string ⟨s.toArray⟩)
 | .con x=>.v x
 | .agg l=>.agg (avL l)
 | .tup l=>.tup (avL l)
 | .sl c E l=>.sl c (tb.sz E) (l.map (tb.el E))
 | .em E=>.sl true (tb.sz E) []
 | .cp l=>.kQ (avL l)
 | .fn f l=>.clo f (avL l)
 | .ptr id off=>.ptr id off
 | .epr id E i fo=>.ptr id (i.toNat*tb.sz E+fo)
 | .row id E off len mc=>.row id (off*tb.sz E) len mc (tb.sz E)
 | .rw id E=>.rw id (tb.sz E)
 | .opt G x=>.opt (gc G) x.av
 | .cl _ _ _ f qQ _=>.clo f qQ
 | .ifc t x=>.ifc t x.av
def avL:List (SV tb)->List AV
 | []=>[]
 |x::l=>x.av::avL l
end
theorem xW:∀l:List (SV tb),avL l=l.map SV.av
 | []=>rfl
 |x::l=>by simp only[avL,xW l,List.map_cons]
/- names are renamed or go -/
mutual
def SV.re (q:Nat->Option Nat):SV tb->SV tb
 | .undef=>.undef
 | .i k n=>.i k n
 | .b8 c=>.b8 c
 | .bo b=>.bo b
 | .st s=>.st s
 | .con x=>.con x
 | .agg l=>.agg (jj5 q l)
 | .tup l=>.tup (jj5 q l)
 | .sl c E l=>.sl c E l
 | .em E=>.em E
 | .cp l=>.cp l
 | .fn f l=>.fn f (jj5 q l)
 | .ptr id off=>match q id with|some j=>.ptr j off|none=>.undef
 | .epr id E i fo=>match q id with|some j=>.epr j E i fo|none=>.undef
 | .row id E off len mc=>match q id with|some j=>.row j E off len mc|none=>.undef
 | .rw id E=>match q id with|some j=>.rw j E|none=>.undef
 | .opt G x=>.opt G (x.re q)
 | .cl ps rs g f qQ h=>.cl ps rs g f qQ h
 | .ifc t x=>.ifc t (x.re q)
def jj5 (q:Nat->Option Nat):List (SV tb)->List (SV tb)
 | []=>[]
 |x::l=>x.re q::jj5 q l
end
mutual
theorem SV.jke {q:Nat->Option Nat}:∀x:SV tb,(x.re q).av=x.av.re q
 | .undef=>rfl
 | .i _ _=>rfl
 | .b8 _=>rfl
 | .bo _=>rfl
 | .st _=>rfl
 | .con _=>rfl
 | .agg l=>by simp only[SV.re,SV.av,AV.re,Ml l]
 | .tup l=>by simp only[SV.re,SV.av,AV.re,Ml l]
 | .sl _ _ _=>rfl
 | .em _=>rfl
 | .cp _=>by simp only[SV.re,SV.av,AV.re]
 | .fn _ l=>by simp only[SV.re,SV.av,AV.re,Ml l]
 | .ptr id off=>by simp only[SV.re,SV.av,AV.re];cases q id <;> rfl
 | .epr id E i fo=>by simp only[SV.re,SV.av,AV.re];cases q id <;> rfl
 | .row id E off len mc=>by simp only[SV.re,SV.av,AV.re];cases q id <;> rfl
 | .rw id E=>by simp only[SV.re,SV.av,AV.re];cases q id <;> rfl
 | .opt _ x=>by simp only[SV.re,SV.av,AV.re,SV.jke x]
 | .cl _ _ _ _ _ h=>by simp only[SV.re,SV.av,AV.re];rw[yz h.2.1]
 | .ifc _ x=>by simp only[SV.re,SV.av,AV.re,SV.jke x]
theorem Ml {q:Nat->Option Nat}:∀l:List (SV tb),avL (jj5 q l)=reL q (avL l)
 | []=>rfl
 |x::l=>by simp only[jj5,avL,reL,SV.jke x,Ml l]
end
inductive SC (tb:Tb):Type where
 |cells (l:List (SV tb))
 |arr (E:tb.Ix) (l:List (tb.T E))
 |iter (s:List UInt8) (p:Nat)
def elC (tb:Tb)(E:tb.Ix)(l:List (tb.T E)):List AV:=(l.map (tb.el E)).flatMap AV.cells
def SC.av:SC tb->Mc
 | .cells l=>.cells (avL l)
 | .arr E l=>.cells (elC tb E l)
 | .iter s p=>.iter ⟨s.toArray⟩ p
def SC.re (q:Nat->Option Nat):SC tb->SC tb
 | .cells l=>.cells (jj5 q l)
 | .arr E l=>.arr E l
 | .iter s p=>.iter s p
/-! how plain values stand as symbolic ones -/
structure Ac (α:Type) where
 n:Nat
 ca:α->List AV
structure Fc (tb:Tb)(α:Type) where
 cs:α->List (SV tb)
 pr:List (SV tb)->Option (α × List (SV tb))
def SV.em0:SV tb->Bool
 | .em _=>true
 | .con (.slice none 0 0)=>true
 |_=>false
structure PF (x y:SV tb):Prop where
 sl:∀c E l,x=.sl c E l->y=.sl false E l
 em:x.em0=true->∃E,y=.sl false E []
 sub:Sub x.av y.av
theorem PF.no {x y:SV tb}(h:∀c E l,x≠.sl c E l)(k:x.em0=false)(hs:Sub x.av y.av):PF x y:=⟨fun c E l e=>absurd e (h c E l),fun e=>(by rw[k]at e;cases e),hs⟩
structure Xb {α:Type}(a:Ac α)(c:Fc tb α):Prop where
 sl:∀l x r,c.pr l=some (x,r)->∀(j:Nat) y,j<a.n->l[j]? = some y->∃z,(c.cs x)[j]? = some z/\PF y z
 av:∀x,avL (c.cs x)=a.ca x
 len:∀x,(a.ca x).length=a.n
 one:∀x,∀y∈a.ca x,y.cells=[y]/\y.ZD=true/\y.wX=true
 pr:∀l x r,c.pr l=some (x,r)->∃l1,l=l1++r/\l1.length=a.n/\KF (avL l1) (a.ca x)
def Zx (k:IntKind):Ac Int:=⟨1,fun n=>[.v (.int k n)]⟩
def jhz:Ac UInt8:=⟨1,fun c=>[JD c]⟩
def UQ:Ac Bool:=⟨1,fun b=>[.v (.bool b)]⟩
def aStr:Ac (List UInt8):=⟨1,fun s=>[.v (.string ⟨s.toArray⟩)]⟩
def aSl {α:Type}(n:Nat)(el:α->AV):Ac (List α):=⟨1,fun l=>[.sl false n (l.map el)]⟩
def JT {α β:Type}(a:Ac α)(b:Ac β):Ac (α × β):=⟨a.n+b.n,fun p=>a.ca p.1++b.ca p.2⟩
def jbY {α β:Type}(g:β->α)(a:Ac α):Ac β:=⟨a.n,fun x=>a.ca (g x)⟩
def Ac.elA {α:Type}(a:Ac α)(x:α):AV:=.agg (a.ca x)
def Ac.el1 {α:Type}(a:Ac α)(x:α):AV:=(a.ca x).headD .undef
def kh (k:IntKind):Fc tb Int:=⟨fun n=>[.i k n],fun
 | .i k' n::r=>if k'=k then some (n,r)else none
 | .con (.int k' n)::r=>if k'=k then some (n,r)else none
 |_=>none⟩
def jiH:Fc tb UInt8:=⟨fun c=>[.b8 c],fun
 | .b8 c::r=>some (c,r)
 | .con (.int .u8 n)::r=>if 0<=n/\n<256 then some (toByte n,r)else none
 |_=>none⟩
def xN:Fc tb Bool:=⟨fun b=>[.bo b],fun
 | .bo b::r=>some (b,r)
 | .con (.bool b)::r=>some (b,r)
 |_=>none⟩
def fStr:Fc tb (List UInt8):=⟨fun s=>[.st s],fun
 | .st s::r=>some (s,r)
 | .con (.string s)::r=>some (s.data.toList,r)
 |_=>none⟩
def fSl (E:tb.Ix):Fc tb (List (tb.T E)):=⟨fun l=>[.sl false E l],fun
 | .sl _ E' l::r=>match tb.dec E' E with|isTrue h=>some (h ▸ l,r)|isFalse _=>none
 | .em E'::r=>match tb.dec E' E with|isTrue _=>some ([],r)|isFalse _=>none
 | .con (.slice none 0 0)::r=>some ([],r)
 |_=>none⟩
def yd {α β:Type}(a:Fc tb α)(b:Fc tb β):Fc tb (α × β):=⟨fun p=>a.cs p.1++b.cs p.2,fun l=>match a.pr l with|some (x,r)=>(match b.pr r with|some (y,r')=>some ((x,y),r')|none=>none)|none=>none⟩
def jat {α β:Type}(f:α->β)(g:β->α)(a:Fc tb α):Fc tb β:=⟨fun x=>a.cs (g x),fun l=>match a.pr l with|some (x,r)=>some (f x,r)|none=>none⟩
theorem jhj:∀l:List (SV tb),(avL l).length=l.length
 | []=>rfl
 |x::l=>by simp only[avL,List.length_cons,jhj l]
theorem Yy (k:IntKind):Xb (tb:=tb) (Zx k) (kh k) where
 sl l x r h j y hj hy:=by
  unfold kh at h
  simp only at h
  have hj0:j=0:=by simp[Zx]at hj;omega
  subst hj0
  split at h
  ·split at h
   ·rename_i hk;subst hk;cases h;simp at hy;subst hy;exact⟨_,rfl,.no (by intro _ _ _ h;cases h) rfl (.refl _)⟩
   ·cases h
  ·split at h
   ·rename_i hk;subst hk;cases h;simp at hy;subst hy;exact⟨_,rfl,.no (by intro _ _ _ h;cases h) rfl (.refl _)⟩
   ·cases h
  ·cases h
 av _:=rfl
 len _:=rfl
 one x y hy:=by simp[Zx]at hy;subst hy;exact⟨rfl,rfl,rfl⟩
 pr l x r h:=by
  unfold kh at h
  simp only at h
  split at h
  ·split at h
   ·rename_i hk;subst hk;cases h;exact⟨[_],rfl,rfl,.refl _⟩
   ·cases h
  ·split at h
   ·rename_i hk;subst hk;cases h;exact⟨[_],rfl,rfl,.refl _⟩
   ·cases h
  ·cases h
theorem Wd {n:Int}(h:0<=n/\n<256):((toByte n).toNat:Int)=n:=by
 unfold toByte
 rw[UInt8.toNat_ofNat']
 omega
theorem okByte:Xb (tb:=tb) jhz jiH where
 sl l x r h j y hj hy:=by
  unfold jiH at h
  simp only at h
  have hj0:j=0:=by simp[jhz]at hj;omega
  subst hj0
  split at h
  ·cases h;simp at hy;subst hy;exact⟨_,rfl,.no (by intro _ _ _ h;cases h) rfl (.refl _)⟩
  ·split at h
   ·rename_i hk;cases h;simp at hy;subst hy;exact⟨_,rfl,.no (by intro _ _ _ h;cases h) rfl (by show Sub (AV.v _) (JD _);unfold JD;rw[Wd hk];exact .refl _)⟩
   ·cases h
  ·cases h
 av _:=rfl
 len _:=rfl
 one x y hy:=by simp[jhz]at hy;subst hy;exact⟨rfl,rfl,rfl⟩
 pr l x r h:=by
  unfold jiH at h
  simp only at h
  split at h
  ·cases h;exact⟨[_],rfl,rfl,.refl _⟩
  ·split at h
   ·rename_i hk;cases h
    refine⟨[_],rfl,rfl,?_⟩
    show KF [AV.v _] [JD _]
    unfold JD;rw[Wd hk];exact .refl _
   ·cases h
  ·cases h
theorem uq:Xb (tb:=tb) UQ xN where
 sl l x r h j y hj hy:=by
  unfold xN at h
  simp only at h
  have hj0:j=0:=by simp[UQ]at hj;omega
  subst hj0
  split at h
  ·cases h;simp at hy;subst hy;exact⟨_,rfl,.no (by intro _ _ _ h;cases h) rfl (.refl _)⟩
  ·cases h;simp at hy;subst hy;exact⟨_,rfl,.no (by intro _ _ _ h;cases h) rfl (.refl _)⟩
  ·cases h
 av _:=rfl
 len _:=rfl
 one x y hy:=by simp[UQ]at hy;subst hy;exact⟨rfl,rfl,rfl⟩
 pr l x r h:=by
  unfold xN at h
  simp only at h
  split at h
  ·cases h;exact⟨[_],rfl,rfl,.refl _⟩
  ·cases h;exact⟨[_],rfl,rfl,.refl _⟩
  ·cases h
theorem jfn (s:ByteArray):(⟨s.data.toList.toArray⟩:ByteArray)=s:=by cases s;simp
theorem okStr:Xb (tb:=tb) aStr fStr where
 sl l x r h j y hj hy:=by
  unfold fStr at h
  simp only at h
  have hj0:j=0:=by simp[aStr]at hj;omega
  subst hj0
  split at h
  ·cases h;simp at hy;subst hy;exact⟨_,rfl,.no (by intro _ _ _ h;cases h) rfl (.refl _)⟩
  ·cases h;simp at hy;subst hy;exact⟨_,rfl,.no (by intro _ _ _ h;cases h) rfl (by show Sub (AV.v _) (AV.v _);rw[jfn];exact .refl _)⟩
  ·cases h
 av _:=rfl
 len _:=rfl
 one x y hy:=by simp[aStr]at hy;subst hy;exact⟨rfl,rfl,rfl⟩
 pr l x r h:=by
  unfold fStr at h
  simp only at h
  split at h
  ·cases h;exact⟨[_],rfl,rfl,.refl _⟩
  ·cases h
   refine⟨[_],rfl,rfl,?_⟩
   show KF [AV.v _] [AV.v _]
   rw[jfn];exact .refl _
  ·cases h
theorem jas (E:tb.Ix):Xb (tb:=tb) (aSl (tb.sz E) (tb.el E)) (fSl E) where
 sl l x r h j y hj hy:=by
  unfold fSl at h
  simp only at h
  have hj0:j=0:=by simp[aSl]at hj;omega
  subst hj0
  split at h
  ·split at h
   ·rename_i hk _;subst hk;cases h
    simp at hy;subst hy
    exact⟨_,rfl,⟨(by rintro _ _ _ h;cases h;rfl),(by intro h;cases h),.cap⟩⟩
   ·cases h
  ·split at h
   ·rename_i hk _;subst hk;cases h
    simp at hy;subst hy
    exact⟨_,rfl,⟨(by rintro _ _ _ h;cases h),(fun _=>⟨_,rfl⟩),.cap⟩⟩
   ·cases h
  ·cases h
   simp at hy;subst hy
   exact⟨_,rfl,⟨(by rintro _ _ _ h;cases h),(fun _=>⟨_,rfl⟩),.nil⟩⟩
  ·cases h
 av _:=rfl
 len _:=rfl
 one x y hy:=by simp[aSl]at hy;subst hy;exact⟨rfl,rfl,rfl⟩
 pr l x r h:=by
  unfold fSl at h
  simp only at h
  split at h
  ·split at h
   ·rename_i hk _;subst hk;cases h
    exact⟨[_],rfl,rfl,.cons .cap (.refl _)⟩
   ·cases h
  ·split at h
   ·rename_i hk _;subst hk;cases h
    exact⟨[_],rfl,rfl,.cons .cap (.refl _)⟩
   ·cases h
  ·cases h
   exact⟨[_],rfl,rfl,.cons .nil (.refl _)⟩
  ·cases h
theorem KF.append {a b c d:List AV}(h:KF a b)(k:KF c d):KF (a++c) (b++d):=by
 intro m bl vs r
 have:∀{a c vs},JK m bl (a++c) vs->∃v1 v2,vs=v1++v2/\JK m bl a v1/\JK m bl c v2:=by
  intro a
  induction a with
  |nil=>intro c vs r;exact⟨[],vs,rfl,.nil,r⟩
  |cons x a ih=>
   intro c vs r
   cases r with
   |cons h t=>
    obtain⟨v1,v2,rfl,h1,h2⟩:=ih t
    exact⟨_::v1,v2,rfl,.cons h h1,h2⟩
 obtain⟨v1,v2,rfl,h1,h2⟩:=this r
 exact(h _ _ _ h1).append (k _ _ _ h2)
theorem Ya:∀a b:List (SV tb),avL (a++b)=avL a++avL b
 | [],_=>rfl
 |x::a,b=>by simp only[List.cons_append,avL,Ya a b]
theorem Jg {α β:Type}{a:Ac α}{b:Ac β}{c:Fc tb α}{d:Fc tb β}(h:Xb a c)(k:Xb b d):Xb (JT a b) (yd c d) where
 sl l x r e j y hj hy:=by
  unfold yd at e
  simp only at e
  split at e
  ·rename_i x1 r1 h1
   split at e
   ·rename_i x2 r2 h2
    cases e
    have hl:(c.cs x1).length=a.n:=by rw[<-h.len x1,<-h.av x1,jhj]
    show ∃z,(c.cs x1++d.cs x2)[j]? = some z/\_
    rcases Nat.lt_or_ge j a.n with hlt|hge
    ·obtain⟨z,h3,h4⟩:=h.sl _ _ _ h1 j y hlt hy
     exact⟨z,by rw[List.getElem?_append_left (by rw[hl];exact hlt)];exact h3,h4⟩
    ·obtain⟨l1,rfl,g1,-⟩:=h.pr _ _ _ h1
     rw[List.getElem?_append_right (by rw[g1];exact hge),g1]at hy
     obtain⟨z,h3,h4⟩:=k.sl _ _ _ h2 (j - a.n) y (by simp[JT]at hj;omega) hy
     exact⟨z,by rw[List.getElem?_append_right (by rw[hl];exact hge),hl];exact h3,h4⟩
   ·cases e
  ·cases e
 av x:=by show avL (c.cs x.1++d.cs x.2)=_;rw[Ya,h.av,k.av];rfl
 len x:=by simp[JT,h.len,k.len]
 one x y hy:=by
  rcases List.mem_append.1 hy with hy|hy
  ·exact h.one _ y hy
  ·exact k.one _ y hy
 pr l x r e:=by
  unfold yd at e
  simp only at e
  split at e
  ·rename_i x1 r1 h1
   split at e
   ·rename_i x2 r2 h2
    cases e
    obtain⟨l1,rfl,g1,g2⟩:=h.pr _ _ _ h1
    obtain⟨l2,rfl,g3,g4⟩:=k.pr _ _ _ h2
    exact⟨l1++l2,by simp,by simp[g1,g3,JT],by rw[Ya];exact g2.append g4⟩
   ·cases e
  ·cases e
theorem uN {α β:Type}{a:Ac α}{c:Fc tb α}{f:α->β}{g:β->α}(hf:∀x,g (f x)=x)(h:Xb a c):Xb (jbY g a) (jat f g c) where
 sl l x r e j y hj hy:=by
  unfold jat at e
  simp only at e
  split at e
  ·rename_i x1 r1 h1
   cases e
   obtain⟨z,h3,h4⟩:=h.sl _ _ _ h1 j y hj hy
   refine⟨z,?_,h4⟩
   show(c.cs (g (f x1)))[j]? = _
   rw[hf];exact h3
  ·cases e
 av x:=h.av _
 len x:=h.len _
 one x y hy:=h.one _ y hy
 pr l x r e:=by
  unfold jat at e
  simp only at e
  split at e
  ·rename_i x1 r1 h1
   cases e
   obtain⟨l1,rfl,g1,g2⟩:=h.pr _ _ _ h1
   refine⟨l1,rfl,g1,?_⟩
   show KF _ (a.ca (g (f x1)))
   rw[hf];exact g2
  ·cases e
structure Cd (tb:Tb)(i:tb.Ix) where
 cs:tb.T i->List (SV tb)
 sv:tb.T i->SV tb
 of:SV tb->Option (tb.T i)
 inh:tb.T i
 flat:Bool
 ag:Bool
 ofC:List (SV tb)->Option (tb.T i)
structure jlK {tb:Tb}{i:tb.Ix}(c:Cd tb i):Prop where
 sv:∀x,(c.sv x).av=tb.el i x
 cs:∀x,avL (c.cs x)=(tb.el i x).cells
 of:∀s x,c.of s=some x->Sub s.av (tb.el i x)
 ofC:∀l x,c.ofC l=some x->KF (avL l) (tb.el i x).cells/\l.length=tb.sz i
 slC:∀l x,c.ofC l=some x->∀(j:Nat) y,l[j]? = some y->∃z,(c.cs x)[j]? = some z/\PF y z
 len:∀x,(tb.el i x).cells.length=tb.sz i
 pos:0<tb.sz i
 bare:∀x,(tb.el i x).ZD=true/\JS (tb.el i x).cells=true
 wX:∀x,(tb.el i x).wX=true
 flat:c.flat=true->∀x,(tb.el i x).flat=true
 ag:∀x,(c.ag=true/\tb.el i x=.agg (tb.el i x).cells/\c.sv x=.agg (c.cs x))\/(c.ag=false/\(tb.el i x).cells=[tb.el i x]/\c.cs x=[c.sv x])
def cdA {i:tb.Ix}(c:Fc tb (tb.T i))(inh:tb.T i)(flat:Bool):Cd tb i where
 cs:=c.cs
 sv x:=.agg (c.cs x)
 of s:=match s with| .agg l=>(match c.pr l with|some (x,[])=>some x|_=>none)|_=>none
 inh:=inh
 flat:=flat
 ag:=true
 ofC l:=match c.pr l with|some (x,[])=>some x|_=>none
def cd1 {i:tb.Ix}(c:Fc tb (tb.T i))(inh:tb.T i)(flat:Bool):Cd tb i where
 cs:=c.cs
 sv x:=(c.cs x).headD .undef
 of s:=match c.pr [s]with|some (x,[])=>some x|_=>none
 inh:=inh
 flat:=flat
 ag:=false
 ofC l:=match c.pr l with|some (x,[])=>some x|_=>none
theorem uy {l:List AV}(h:∀y∈l,y.cells=[y]/\y.ZD=true/\y.wX=true):JS l=true:=jbJ fun y hy=>(h y hy).2.1
theorem okA {i:tb.Ix}{a:Ac (tb.T i)}{c:Fc tb (tb.T i)}{inh:tb.T i}{flat:Bool}(h:Xb a c)(he:∀x,tb.el i x=.agg (a.ca x))(hs:tb.sz i=a.n)(hp:Nat.ble 1 a.n=true)(hf:flat=true->∀x,mn (a.ca x)=true):jlK (cdA (tb:=tb) c inh flat) where
 sv x:=by show AV.agg (avL (c.cs x))=_;rw[h.av,he]
 cs x:=by show avL (c.cs x)=_;rw[h.av,he];rfl
 of s x e:=by
  unfold cdA at e
  simp only at e
  split at e
  ·rename_i l
   split at e
   ·rename_i y hy
    cases e
    obtain⟨l1,rfl,-,g⟩:=h.pr _ _ _ hy
    rw[he,List.append_nil];exact .agg g
   ·cases e
  ·cases e
 ofC l x e:=by
  unfold cdA at e
  simp only at e
  split at e
  ·rename_i y hy
   cases e
   obtain⟨l1,rfl,g1,g⟩:=h.pr _ _ _ hy
   rw[he,hs,List.append_nil];exact⟨g,g1⟩
  ·cases e
 slC l x e j y hy:=by
  unfold cdA at e
  simp only at e
  split at e
  ·rename_i z hz
   cases e
   obtain⟨l1,rfl,g1,g⟩:=h.pr _ _ _ hz
   refine h.sl _ _ _ hz j y ?_ hy
   rw[List.append_nil]at hy
   rw[<-g1]
   rcases Nat.lt_or_ge j l1.length with h|h
   ·exact h
   ·rw[List.getElem?_eq_none h]at hy;cases hy
  ·cases e
 len x:=by rw[he,hs];exact h.len x
 pos:=by rw[hs];exact Nat.le_of_ble_eq_true hp
 bare x:=by rw[he];exact⟨uy (h.one x),uy (h.one x)⟩
 wX x:=by rw[he];rfl
 flat e x:=by rw[he];exact hf e x
 ag x:=.inl ⟨rfl,by rw[he];rfl,rfl⟩
theorem ok1 {i:tb.Ix}{a:Ac (tb.T i)}{c:Fc tb (tb.T i)}{inh:tb.T i}{flat:Bool}(h:Xb a c)(he:∀x,a.ca x=[tb.el i x])(hs:tb.sz i=1)(hn:a.n=1)(hf:flat=true->∀x,(tb.el i x).flat=true):jlK (cd1 (tb:=tb) c inh flat) where
 sv x:=by
  have h1:=h.av x
  rw[he]at h1
  show((c.cs x).headD .undef).av=_
  cases hc:c.cs x with
  |nil=>rw[hc]at h1;cases h1
  |cons y l=>rw[hc]at h1;simp only[avL,List.cons.injEq]at h1;exact h1.1
 cs x:=by
  show avL (c.cs x)=_
  rw[h.av,he,(h.one x (tb.el i x) (by rw[he];simp)).1]
 of s x e:=by
  unfold cd1 at e
  simp only at e
  split at e
  ·rename_i y hy
   cases e
   obtain⟨l1,h1,-,g⟩:=h.pr _ _ _ hy
   rw[List.append_nil]at h1
   subst h1
   rw[he]at g
   intro m bl v r
   have:=g m bl [v] (.cons r .nil)
   cases this with|cons a b=>exact a
  ·cases e
 ofC l x e:=by
  unfold cd1 at e
  simp only at e
  split at e
  ·rename_i y hy
   cases e
   obtain⟨l1,rfl,g1,g⟩:=h.pr _ _ _ hy
   rw[List.append_nil,(h.one x (tb.el i x) (by rw[he];simp)).1,hs]
   rw[he]at g;exact⟨g,by rw[g1,hn]⟩
  ·cases e
 slC l x e j y hy:=by
  unfold cd1 at e
  simp only at e
  split at e
  ·rename_i z hz
   cases e
   obtain⟨l1,rfl,g1,g⟩:=h.pr _ _ _ hz
   refine h.sl _ _ _ hz j y ?_ hy
   rw[List.append_nil]at hy
   rw[<-g1]
   rcases Nat.lt_or_ge j l1.length with h|h
   ·exact h
   ·rw[List.getElem?_eq_none h]at hy;cases hy
  ·cases e
 len x:=by rw[(h.one x (tb.el i x) (by rw[he];simp)).1,hs];rfl
 pos:=by rw[hs];omega
 bare x:=by
  obtain⟨h1,h2,-⟩:=h.one x (tb.el i x) (by rw[he];simp)
  refine⟨h2,?_⟩
  rw[h1];simpa [qI]using h2
 wX x:=(h.one x (tb.el i x) (by rw[he];simp)).2.2
 flat e x:=hf e x
 ag x:=by
  refine .inr ⟨rfl,(h.one x (tb.el i x) (by rw[he];simp)).1,?_⟩
  have h1:=h.av x
  rw[he]at h1
  show c.cs x=[(c.cs x).headD .undef]
  cases hc:c.cs x with
  |nil=>rw[hc]at h1;cases h1
  |cons y l=>
   rw[hc]at h1
   simp only[avL,List.cons.injEq]at h1
   cases l with
   |nil=>rfl
   |cons z l=>exact absurd h1.2 (by simp[avL])
end
section
open Go.RowKit
variable [GlC]
section
variable (tb:Tb)
inductive PTy where
 |d (i:tb.Ix)
 |cap (i:tb.Ix)
 |fn (ps rs:List tb.Ix)
variable {tb}
def PTy.den:PTy tb->Type
 | .d i=>tb.T i
 | .cap i=>tb.T i
 | .fn ps rs=>Tup tb ps->Option (Tup tb rs)
variable (tb)
def mz:List (PTy tb)->Type
 | []=>Unit
 |p::r=>p.den × mz r
variable {tb}
def ArgR (P:Program):(p:PTy tb)->p.den->AV->Prop
 | .d i,x,v=>v=tb.el i x
 | .cap i,x,v=>v=.kQ (tb.el i x).cells
 | .fn ps rs,g,v=>∃f qQ,v=.clo f qQ/\CloR tb f qQ ps rs g
def jar (P:Program):(l:List (PTy tb))->mz tb l->List AV->Prop
 | [],_,[]=>True
 |p::r,a,v::vs=>ArgR P p a.1 v/\jar P r a.2 vs
 |_,_,_=>False
def kf (own:List Nat):Nat->Nat->List (SV tb)->List (SV tb) × List (Nat × SC tb)
 |_,_,[]=>([],[])
 |j,k,x::l=>match own.contains j,x with
  |true,.sl _ E xs=>(.rw k E::(kf own (j+1) (k+1) l).1,(k,.arr E xs)::(kf own (j+1) (k+1) l).2)
  |_,x=>(x::(kf own (j+1) k l).1,(kf own (j+1) k l).2)
def PM {i:tb.Ix}(c:Cd tb i)(l:List (SV tb)):SV tb:=if c.ag then .agg l else l.headD .undef
variable (tb) in
def UL (cd:(i:tb.Ix)->Cd tb i)(own:List Nat):(rs:List tb.Ix)->Tup tb rs->Nat->SV tb × List (Nat × SC tb)
 | [],_,_=>(.tup [],[])
 | [i],x,k=>match own with
   | []=>((cd i).sv x,[])
   |_::_=>(PM (cd i) (kf own 0 k ((cd i).cs x)).1,(kf own 0 k ((cd i).cs x)).2)
 |i::j::r,x,_=>(.tup (tupS (i::j::r) x),[])
where tupS:(rs:List tb.Ix)->Tup tb rs->List (SV tb)
 | [],_=>[]
 | [i],x=>[(cd i).sv x]
 |i::j::r,x=>(cd i).sv x.1::tupS (j::r) x.2
structure Con (P:Program)(tb:Tb)(cd:(i:tb.Ix)->Cd tb i) where
 fid:Nat
 ps:List (PTy tb)
 rs:List tb.Ix
 own:List Nat
 f:mz tb ps->Option (Tup tb rs)
 call:∀(vs:Array Value) (w:World),(callFunc fid vs).run P w=.ok (.enter fid vs) w
 ok:∀a avs r,jar P ps a avs->f a=some r->FnR P fid avs (UL tb cd own rs r 0).1.av ((UL tb cd own rs r 0).2.map fun p=>(p.1,p.2.av))
inductive JV (tb:Tb):Type where
 |val (t:Nat) (i:tb.Ix) (own:List Nat)
 |blk (t:Nat) (i:tb.Ix) (own:List Nat)
 |arr (t:Nat) (c:Option Nat) (i:tb.Ix)
 |itr (t:Nat)
structure JA (tb:Tb) where
 vars:List (JV tb)
 xdr:List Nat
inductive An (tb:Tb):Type where
 |n
 |t (j:Option (JA tb)) (a b:An tb)
def Con.cf {P:Program}{tb:Tb}{cd:(i:tb.Ix)->Cd tb i}(c:Con P tb cd)(a:mz tb c.ps):Option (Tup tb c.rs):=(fun(_:Unit)=>match c,a with|⟨_,_,_,_,f,_,_⟩,a=>f a) jgK
theorem Con.jlo {P:Program}{tb:Tb}{cd:(i:tb.Ix)->Cd tb i}(c:Con P tb cd)(a:mz tb c.ps):c.cf a=c.f a:=by cases c;rfl
structure Inl (P:Program)(tb:Tb) where
 fid:Nat
 fn:Func
 code:Code
 im:Nat->Bool
 bar:Nat->Nat
 an:An tb
 hf:P.funcs[fid]? = some fn
 hb:fn.body=some code
 call:∀(vs:Array Value) (w:World),(callFunc fid vs).run P w=.ok (.enter fid vs) w
structure EqE (P:Program)(tb:Tb) where
 t:Nat
 i:tb.Ix
 beq:tb.T i->tb.T i->Bool
 ok:EqT P t (tb.el i) beq
structure Hnd (P:Program)(tb:Tb) where
 fid:Nat
 f:List (SV tb)->Option (SV tb)
 call:∀(vs:Array Value) (w:World),(callFunc fid vs).run P w=.ok (.enter fid vs) w
 ok:∀xs y,f xs=some y->FnR P fid (avL xs) y.av []/\JS (avL xs)=true/\y.av.ZD=true
structure Ctx (P:Program)(tb:Tb) where
 cd:(i:tb.Ix)->Cd tb i
 ok:∀i,jlK (cd i)
 Γ:List (Con P tb cd)
 inl:List (Inl P tb)
 eqs:List (EqE P tb)
 mixed:P.follows .mixedOrders=true
 hP:tb.P=P
 hnd:List (Hnd P tb)
end
section
variable {P:Program} {tb:Tb}
theorem jfg (cd:(i:tb.Ix)->Cd tb i)(ok:∀i,jlK (cd i)):∀(rs:List tb.Ix) (r:Tup tb rs),avL (UL.tupS tb cd rs r)=Vv rs r
 | [],_=>rfl
 | [i],x=>congrArg (fun a=>[a]) ((ok i).sv x)
 |i::j::l,x=>congr (congrArg List.cons ((ok i).sv x.1)) (jfg cd ok (j::l) x.2)
theorem Px (cd:(i:tb.Ix)->Cd tb i)(ok:∀i,jlK (cd i)):∀(rs:List tb.Ix) (r:Tup tb rs) k,(UL tb cd [] rs r k).1.av=pG rs r/\(UL tb cd [] rs r k).2=[]
 | [],_,_=>⟨rfl,rfl⟩
 | [i],x,_=>⟨(ok i).sv x,rfl⟩
 |i::j::l,x,_=>by
  refine⟨?_,rfl⟩
  show AV.tup (avL (UL.tupS tb cd (i::j::l) x))=_
  rw[jfg cd ok]
  cases l <;> rfl
/-! the checks that the plain form bears -/
def chk {ρ:Type}(G:Gd)(c:Prop)[Decidable c](k:Option ρ):Option ρ:=(fun(_:Unit)=>match G with
 | []=>Chk c k
 |_::_=>Chk (gc G=true->c) k) jgK
theorem kR {ρ:Type}{G:Gd}{c:Prop}[Decidable c]{k:Option ρ}{r:ρ}(h:chk G c k=some r):(gc G=true->c)/\k=some r:=by
 cases G with
 |nil=>
  simp only[chk,Chk]at h
  split at h
  ·exact⟨fun _=>‹_›,h⟩
  ·cases h
 |cons g G=>
  simp only[chk,Chk]at h
  split at h
  ·exact⟨‹_›,h⟩
  ·cases h
def bnd {α ρ:Type}(G:Gd)(d:α)(m:Option α)(k:α->Option ρ):Option ρ:=(fun(_:Unit)=>match G with
 | []=>Bind m k
 |_::_=>Bind (if gc G=true then m else some d) k) jgK
theorem bnd_e {α ρ:Type}{G:Gd}{d:α}{m:Option α}{k:α->Option ρ}{r:ρ}(h:bnd G d m k=some r):∃x,(gc G=true->m=some x)/\k x=some r:=by
 cases G with
 |nil=>
  simp only[bnd,Bind]at h
  obtain⟨x,h1,h2⟩:=Option.bind_eq_some_iff.1 h
  exact⟨x,fun _=>h1,h2⟩
 |cons g G=>
  simp only[bnd,Bind]at h
  obtain⟨x,h1,h2⟩:=Option.bind_eq_some_iff.1 h
  exact⟨x,fun hg=>by rw[if_pos hg]at h1;exact h1,h2⟩
end
end
section
open Go.RowKit
variable [GlC]
def sAV (s:List UInt8):AV:=.v (.string ⟨s.toArray⟩)
def bAV (b:Bool):AV:=.v (.bool b)
def nAV (n:Int):AV:=.v (.int .i64 n)
section
variable {P:Program} {o:Oper} {e:Env}
variable {t yt:TypeId} {y z:Operand} {k:IntKind} {a b:Int} {p q:UInt8} {s r:List UInt8}
theorem jd5 (n:Int):((toByte n).toNat:Int)=n % 256:=by
 unfold toByte
 have h:(UInt8.ofNat (n % 256).toNat).toNat=(n % 256).toNat % 256:=UInt8.toNat_ofNat'
 rw[h];omega
theorem jg8 (p q:UInt8):((p.toNat:Int)==(q.toNat:Int))=(p==q):=by
 rw[Bool.eq_iff_iff];simp[<-UInt8.toNat_inj];omega
theorem QEx.eqlC (ho:o.op=.binOp .eql t y z yt)(hy:jK e y (JD p))(hz:jK e z (JD q)):QEx P o e [] (bAV (p==q)):=by
 rw[<-jg8];exact QEx.jeO ho hy hz rfl
theorem QEx.neqC (ho:o.op=.binOp .neq t y z yt)(hy:jK e y (JD p))(hz:jK e z (JD q)):QEx P o e [] (bAV (p != q)):=by
 show QEx P o e [] (bAV (!(p==q)));rw[<-jg8];exact QEx.jeO ho hy hz rfl
theorem jdS (p q:UInt8):decide ((p.toNat:Int)<(q.toNat:Int))=decide (p<q):=by
 rw[Bool.eq_iff_iff];simp[UInt8.lt_iff_toNat_lt]
theorem jdT (p q:UInt8):decide ((p.toNat:Int)<=(q.toNat:Int))=decide (p<=q):=by
 rw[Bool.eq_iff_iff];simp[UInt8.le_iff_toNat_le]
theorem QEx.lssC (ho:o.op=.binOp .lss t y z yt)(hy:jK e y (JD p))(hz:jK e z (JD q)):QEx P o e [] (bAV (decide (p<q))):=by
 rw[<-jdS];exact QEx.jeO ho hy hz rfl
theorem QEx.leqC (ho:o.op=.binOp .leq t y z yt)(hy:jK e y (JD p))(hz:jK e z (JD q)):QEx P o e [] (bAV (decide (p<=q))):=by
 rw[<-jdT];exact QEx.jeO ho hy hz rfl
theorem QEx.gtrC (ho:o.op=.binOp .gtr t y z yt)(hy:jK e y (JD p))(hz:jK e z (JD q)):QEx P o e [] (bAV (decide (q<p))):=by
 rw[<-jdS];exact QEx.jeO ho hy hz rfl
theorem QEx.geqC (ho:o.op=.binOp .geq t y z yt)(hy:jK e y (JD p))(hz:jK e z (JD q)):QEx P o e [] (bAV (decide (q<=p))):=by
 rw[<-jdT];exact QEx.jeO ho hy hz rfl
theorem wrap_u8 (n:Int):IntKind.u8.wrap n=n % 256:=by simp[IntKind.wrap,IntKind.bits,IntKind.signed]
theorem uW {c:UInt8}{n:Int}(h:(c.toNat:Int)=n % 256):JD c=.v (.int .u8 (IntKind.u8.wrap n)):=by
 rw[wrap_u8,<-h];rfl
theorem QEx.addC (ho:o.op=.binOp .add t y z yt)(hy:jK e y (JD p))(hz:jK e z (JD q)):QEx P o e [] (JD (p+q)):=by
 rw[uW (n:=(p.toNat:Int)+q.toNat) (by rw[UInt8.toNat_add];omega)];exact QEx.jeO ho hy hz rfl
theorem QEx.subC (ho:o.op=.binOp .sub t y z yt)(hy:jK e y (JD p))(hz:jK e z (JD q)):QEx P o e [] (JD (p - q)):=by
 rw[uW (n:=(p.toNat:Int) - q.toNat) (by rw[UInt8.toNat_sub];have:=p.toNat_lt;have:=q.toNat_lt;omega)];exact QEx.jeO ho hy hz rfl
theorem QEx.remC (ho:o.op=.binOp .rem t y z yt)(hy:jK e y (JD p))(hz:jK e z (JD q))(h:q≠0):QEx P o e [] (JD (p % q)):=by
 have hq:(q.toNat:Int)≠0:=by
  intro h';apply h;exact UInt8.toNat_inj.1 (by simpa using h')
 have:=QEx.rem (P:=P) ho hy hz hq
 have e:((p.toNat:Int)).tmod (q.toNat:Int)=((p % q).toNat:Int):=by rw[UInt8.toNat_mod];exact(Int.ofNat_tmod _ _).symm
 rw[e]at this;exact this
theorem QEx.cvKC {s d y k' n}(ho:o.op=.convert s d y)(hd:P.underlying d=some (.int .u8))(hs:(P.underlying s).isSome=true)(hy:jK e y ((.v (.int k' n)))):QEx P o e [] (JD (toByte n)):=by
 rw[uW (jd5 n)];exact QEx.jlk ho hd hs hy
theorem wrap_small {k:IntKind}(hk:k=.i64\/k=.u64\/k=.i32\/k=.u32\/k=.u16\/k=.i16)(c:UInt8):k.wrap (c.toNat:Int)=c.toNat:=by
 have:=c.toNat_lt
 rcases hk with rfl|rfl|rfl|rfl|rfl|rfl <;> simp[IntKind.wrap,IntKind.bits,IntKind.signed] <;> omega
theorem QEx.cvCK {s d y k}(ho:o.op=.convert s d y)(hd:P.underlying d=some (.int k))(hs:(P.underlying s).isSome=true)(hy:jK e y (JD p))(hk:k=.i64\/k=.u64\/k=.i32\/k=.u32\/k=.u16\/k=.i16):QEx P o e [] (.v (.int k (p.toNat:Int))):=by
 have:=QEx.jlk (P:=P) ho hd hs hy
 rw[wrap_small hk]at this;exact this
theorem QEx.eqlS (ho:o.op=.binOp .eql t y z yt)(hy:jK e y (sAV s))(hz:jK e z (sAV r)):QEx P o e [] (bAV (s==r)):=by
 rw[<-jfo];exact QEx.binS ho hy hz rfl
theorem QEx.neqS (ho:o.op=.binOp .neq t y z yt)(hy:jK e y (sAV s))(hz:jK e z (sAV r)):QEx P o e [] (bAV (s != r)):=by
 show QEx P o e [] (bAV (!(s==r)));rw[<-jfo];exact QEx.binS ho hy hz rfl
theorem QEx.lssS (ho:o.op=.binOp .lss t y z yt)(hy:jK e y (sAV s))(hz:jK e z (sAV r)):QEx P o e [] (bAV (jb6 s r)):=by
 have:jb6 s r=Op.bytesLess (ByteArray.mk s.toArray).toList (ByteArray.mk r.toArray).toList:=by rw[ByteArray.toList_mk,ByteArray.toList_mk];rfl
 rw[this];exact QEx.binS ho hy hz rfl
theorem QEx.addS (ho:o.op=.binOp .add t y z yt)(hy:jK e y (sAV s))(hz:jK e z (sAV r))(h:s.length+r.length<=9223372036854775807):QEx P o e [] (sAV (s++r)):=by
 have:=QEx.catS (P:=P) ho hy hz (by simpa [ByteArray.size]using h)
 rw[jj4]at this;exact this
theorem QEx.lenStr {y t}(ho:o.op=.call {callee:=.builtin .len,args:=#[y],argTypes:=#[t]})(ht:P.underlying t=some .string)(hy:jK e y (sAV s)):QEx P o e [] (nAV s.length):=by
 have:=QEx.lenS (P:=P) ho ht hy
 have e:(ByteArray.mk s.toArray).size=s.length:=by simp[ByteArray.size]
 rw[e]at this;exact this
theorem QEx.idxS {t y z k i}(ho:o.op=.index t y z)(ht:P.underlying t=some .string)(hy:jK e y (sAV s))(hz:jK e z ((.v (.int k i))))(h:0<=i/\i<s.length):QEx P o e [] (JD (ix s i)):=
 .pure fun _ _ _ m bl ac w hws _ hr=>by
  have h1:=(hy.rep hr (by simp[ho,Op.operands])).zj
  have h2:=(hz.rep hr (by simp[ho,Op.operands])).zj
  refine⟨.int .u8 (ix s i).toNat,?_,.v⟩
  have hlt:i.toNat<s.length:=by omega
  have hb:(⟨s.toArray⟩:ByteArray)[i.toNat]? = some (ix s i):=by
   have hlt2:i.toNat<(⟨s.toArray⟩:ByteArray).size:=by simpa [ByteArray.size]using hlt
   rw[getElem?_pos (⟨s.toArray⟩:ByteArray) i.toNat hlt2]
   simp only[ix,List.getD,List.getElem?_eq_getElem hlt,Option.getD_some,Option.some.injEq]
   rfl
  simp[execOp,ho,h1,h2,Instr.index,asIntOf,je ht,h.1,hb]
theorem QEx.slStr {t y lo hi a b}(ho:o.op=.slice t y lo hi none)(ht:P.underlying t=some .string)(hy:jK e y (sAV s))
 (hlo:vJ e lo 0 a) (hhi:vJ e hi s.length b) (hab:a<=b/\b<=s.length):QEx P o e [] (sAV ((s.drop a).take (b - a))):=
 .pure fun _ _ _ m bl ac w hws _ hr=>by
  have h1:=(hy.rep hr (by simp[ho,Op.operands])).zj
  have hsz:(⟨s.toArray⟩:ByteArray).size=s.length:=by simp[ByteArray.size]
  have e1:(Instr.sliceBounds false s.length s.length (lo.map ac.eval) (hi.map ac.eval) none).run P w=.ok (a,b,s.length) w:=by
   cases hlo with
   |none=>
    cases hhi with
    |none=>simp[Instr.sliceBounds]
    |some h2 h3=>
     have:=(h2.rep hr (by simp[ho,Op.operands])).zj
     rename_i k i
     have hi':i<=(s.length:Int):=by omega
     simp[Instr.sliceBounds,this,Instr.sliceBound,asIntOf,h3,hi']
   |some g2 g3=>
    have hg:=(g2.rep hr (by simp[ho,Op.operands])).zj
    rename_i gk gi
    cases hhi with
    |none=>
     have hi':gi<=(s.length:Int):=by omega
     simp[Instr.sliceBounds,hg,Instr.sliceBound,asIntOf,g3,hi']
    |some h2 h3=>
     have:=(h2.rep hr (by simp[ho,Op.operands])).zj
     rename_i k i
     have hi':i<=(s.length:Int):=by omega
     have hg':gi<=i:=by omega
     have hm:max i 0=i:=by omega
     simp[Instr.sliceBounds,this,hg,Instr.sliceBound,asIntOf,h3,hi',g3,hg',hm]
  refine⟨.string ⟨((s.drop a).take (b - a)).toArray⟩,?_,.v⟩
  rw[<-jb5]
  simp only[execOp,ho,h1,Instr.sliceAt,Sem.run_bind,je ht,Result.andThen_ok,Instr.slice,Option.map_none,hsz,e1,Sem.run_pure,Option.isSome_none,Bool.false_eq_true,if_false]
end
end
section
open Go.RowKit
variable [GlC]
section
variable {P:Program} {o:Oper} {e:Env}
theorem QEx.jfu {t y lo hi mx E sz by_ id off len mc need k1 k2 k3 a b c}(ho:o.op=.slice t y (some lo) (some hi) (some mx))(ht:Vu P t E sz by_)(hy:ROk o e need y (.row id off len mc sz))
 (hlo:jK e lo (.v (.int k1 a))) (hhi:jK e hi (.v (.int k2 b))) (hmx:jK e mx (.v (.int k3 c))) (h:0<=a/\a<=b/\b<=c/\c<=mc):QEx P o e need .undef:=
 .pure fun _ _ _ m bl ac w hws hnd hr=>by
  have h1:=hy _ _ _ _ _ _ _ hws hnd hr
  have q1:=(hlo.rep hr (by simp[ho,Op.operands])).zj
  have q2:=(hhi.rep hr (by simp[ho,Op.operands])).zj
  have q3:=(hmx.rep hr (by simp[ho,Op.operands])).zj
  generalize hv:ac.eval y=v at h1
  have e1:∀cap:Nat,mc<=cap->(Instr.sliceBounds true len cap (some (ac.eval lo)) (some (ac.eval hi)) (some (ac.eval mx))).run P w=.ok (a.toNat,b.toNat,c.toNat) w:=by
   intro cap hc
   have c1:c<=(cap:Int):=by omega
   have c2:0<=c:=by omega
   have c3:0<=b:=by omega
   have hm:max c 0=c:=by omega
   have hm2:max b 0=b:=by omega
   simp[Instr.sliceBounds,q1,q2,q3,Instr.sliceBound,asIntOf,c1,c2,c3,hm,hm2,h.1,h.2.1,h.2.2.1]
  cases h1 with
  |rownil=>
   rename_i ad
   refine⟨.slice (if c.toNat=a.toNat then ad else ad.map (·.add (a.toNat*sz))) (b.toNat - a.toNat) (c.toNat - a.toNat),?_,.undef⟩
   have:=e1 0 (Nat.le_refl _)
   simp only[execOp,ho,hv,Instr.sliceAt,Sem.run_bind,je ht.under,Result.andThen_ok,Instr.slice,Option.map_some,this,jx ht.sz,Sem.run_pure]
  |row hb' g1 g2 g3=>
   rename_i bb n cap
   refine⟨.slice (if c.toNat=a.toNat then some ⟨bb,off,none⟩else(some (⟨bb,off,none⟩:Addr)).map (·.add (a.toNat*sz))) (b.toNat - a.toNat) (c.toNat - a.toNat),?_,.undef⟩
   have:=e1 cap g2
   simp only[execOp,ho,hv,Instr.sliceAt,Sem.run_bind,je ht.under,Result.andThen_ok,Instr.slice,Option.map_some,this,jx ht.sz,Sem.run_pure]
theorem LEx.jdU {ops:Array Oper}{N:Nat}{t E sz by_ n d nm ps Z}(hg:o.guard=none)(hd:o.dst=some d)(hN:d<N)(ho:o.op=.buildSlice t n ps)(ht:Vu P t E sz by_)
 (h:uA e (fun i=>some (i*sz,sz)) ps.toList (List.replicate (n*sz) AV.undef) Z) (hlen:Z.length=n*sz) (hn:0<n) (hlim:n*sz<=2 ^ 24):
 LEx P ops N o ⟨xl e (o.looksAt ops),[],[(d,.rw nm sz)],[(nm,.cells Z)],[nm]⟩:=by
 refine .Uw hg hd hN fun m bl a w hr=>?_
 obtain⟨i,z,hi1,hi2,hi3,hi4,hi5,hi6⟩:=ht.info
 have h0:¬ n*sz=0:=by
  have:=Nat.mul_pos hn ht.pos
  omega
 have hZ:∃zs:Array Value,zs.size=n*sz/\(∀c∈zs.toList,jL c=true)/\zs=Kx z.cells (n*sz):=by
  refine⟨_,by simp[Kx],?_,rfl⟩
  intro c hc
  simp only[Kx,Array.toList_map,Array.toList_range,List.mem_map,List.mem_range]at hc
  obtain⟨j,hj,rfl⟩:=hc
  have hlt:j % z.cells.size<z.cells.size:=Nat.mod_lt _ (by rw[hi5];exact ht.pos)
  rw[getElem!_pos z.cells _ hlt]
  exact List.all_eq_true.1 hi6 _ (by simp)
 obtain⟨zs,hz1,hz2,hz3⟩:=hZ
 obtain⟨cells',k1,k2,k3⟩:=h.run (o:=o) hr (fun p hp=>by rw[ho];simp only[Op.operands];simp;exact⟨p.1,by simpa using hp⟩) zs
  (by
    have:∀(vs:List Value),JK m bl (List.replicate vs.length AV.undef) vs:=by
     intro vs;induction vs with
     |nil=>exact .nil
     |cons v vs ih=>exact .cons .undef ih
    have:=this zs.toList
    rwa [Array.length_toList,hz1]at this) hz2
 have hcl:cells'.toList.length=n*sz:=by rw[<-k2.length,hlen]
 have hrun:(execOp a.eval o).run P w=.ok (.value (.slice (some ⟨w.heap.size,0,none⟩) n n)) (w.alloc (.cells cells' E)):=by
  have hlim':¬ (2 ^ 24<n*sz):=by omega
  have k1':Instr.fill (fun i=>some (i*sz,sz)) zs (ps.map fun(i,x)=>(i,a.eval x)).toList=some cells':=by simpa using k1
  subst hz3
  unfold Kx at k1'
  simp at k1'
  simp only[execOp,ho,Instr.buildSlice,Sem.run_bind,je ht.under,Result.andThen_ok,jx ht.sz]
  simp[hlim',h0,zeroValue,typeInfo,hi1,hi2,k1',newRow]
 refine⟨_,cells',E,cells'.toList,[],hrun,by simp,k2,k3,fun bl' hb=>?_⟩
 exact .rw hb (by rw[hcl]) (Nat.le_refl _) (by rw[<-Array.length_toList,hcl];exact Nat.le_refl _)
end
end
section
open Go.RowKit
variable [GlC]
inductive US (tb:Tb):Type where
 |drop
 |fz (c:SC tb)
abbrev Gn (tb:Tb):=List (Nat × US tb)
abbrev VP (tb:Tb):=List (Nat × SV tb)
abbrev SHp (tb:Tb):=List (Nat × SC tb)
section
variable {tb:Tb}
def resP (g:Option (US tb))(id off:Nat):SV tb:=match g with
 |none=>.ptr id off
 |some (.fz (.cells l))=>.cp (l.drop off)
 |some _=>.undef
def resE (g:Option (US tb))(id:Nat)(E:tb.Ix)(i:Int)(fo:Nat):SV tb:=match g with
 |none=>.epr id E i fo
 |some _=>.undef
def resR (g:Option (US tb))(id:Nat)(E:tb.Ix)(off len mc:Nat):SV tb:=match g with
 |none=>.row id E off len mc
 |some _=>.undef
def resW (g:Option (US tb))(id:Nat)(E:tb.Ix):SV tb:=match g with
 |none=>.rw id E
 |some (.fz (.arr E' l))=>(match tb.dec E' E with|isTrue h=>.sl false E (h ▸ l)|isFalse _=>.undef)
 |some _=>.undef
mutual
def SV.res (g:Gn tb):SV tb->SV tb
 | .undef=>.undef
 | .i k n=>.i k n
 | .b8 c=>.b8 c
 | .bo b=>.bo b
 | .st s=>.st s
 | .con x=>.con x
 | .agg l=>.agg (uL g l)
 | .tup l=>.tup (uL g l)
 | .sl c E l=>.sl c E l
 | .em E=>.em E
 | .cp l=>.cp l
 | .fn f l=>.fn f (uL g l)
 | .ptr id off=>resP (find id g) id off
 | .epr id E i fo=>resE (find id g) id E i fo
 | .row id E off len mc=>resR (find id g) id E off len mc
 | .rw id E=>resW (find id g) id E
 | .opt G x=>.opt G (x.res g)
 | .cl ps rs f i qQ h=>.cl ps rs f i qQ h
 | .ifc t x=>.ifc t (x.res g)
def uL (g:Gn tb):List (SV tb)->List (SV tb)
 | []=>[]
 |x::l=>x.res g::uL g l
end
def SC.res (g:Gn tb):SC tb->SC tb
 | .cells l=>.cells (uL g l)
 | .arr E l=>.arr E l
 | .iter s p=>.iter s p
mutual
def SV.has (q:Nat->Bool):SV tb->Bool
 | .agg l=>MX q l
 | .tup l=>MX q l
 | .fn _ l=>MX q l
 | .ptr id _=>q id
 | .epr id _ _ _=>q id
 | .row id _ _ _ _=>q id
 | .rw id _=>q id
 | .opt _ x=>x.has q
 | .ifc _ x=>x.has q
 | .cl _ _ _ _ _ _=>true
 | .undef=>true
 | .i _ _=>true
 | .b8 _=>true
 | .bo _=>true
 | .st _=>true
 | .con _=>true
 | .sl _ _ _=>true
 | .em _=>true
 | .cp _=>true
def MX (q:Nat->Bool):List (SV tb)->Bool
 | []=>true
 |x::l=>match x.has q with|true=>MX q l|false=>false
end
def SC.has (q:Nat->Bool):SC tb->Bool
 | .cells l=>MX q l
 | .arr _ _=>true
 | .iter _ _=>true
theorem UC {q:Nat->Bool}{x:SV tb}{l}:MX q (x::l)=(x.has q&&MX q l):=by simp only[MX];cases x.has q <;> rfl
def Qh (g:Gn tb)(id:Nat):Bool:=match find id g with|none=>true|some _=>false
theorem kz {g:Gn tb}{id}(h:Qh g id=true):find id g=none:=by
 unfold Qh at h;split at h
 ·assumption
 ·cases h
mutual
theorem kp {g:Gn tb}:∀{x:SV tb},x.has (Qh g)=true->x.res g=x
 | .undef,_=>rfl
 | .i _ _,_=>rfl
 | .b8 _,_=>rfl
 | .bo _,_=>rfl
 | .st _,_=>rfl
 | .con _,_=>rfl
 | .agg l,h=>by simp only[SV.res];rw[Zz (l:=l) h]
 | .tup l,h=>by simp only[SV.res];rw[Zz (l:=l) h]
 | .sl _ _ _,_=>rfl
 | .em _,_=>rfl
 | .cp _,_=>rfl
 | .fn _ l,h=>by simp only[SV.res];rw[Zz (l:=l) h]
 | .ptr id off,h=>by simp only[SV.res];rw[kz (g:=g) (id:=id) h];rfl
 | .epr id E i fo,h=>by simp only[SV.res];rw[kz (g:=g) (id:=id) h];rfl
 | .row id E off len mc,h=>by simp only[SV.res];rw[kz (g:=g) (id:=id) h];rfl
 | .rw id E,h=>by simp only[SV.res];rw[kz (g:=g) (id:=id) h];rfl
 | .opt _ x,h=>by simp only[SV.res];rw[kp (x:=x) h]
 | .cl _ _ _ _ _ _,_=>rfl
 | .ifc _ x,h=>by simp only[SV.res];rw[kp (x:=x) h]
theorem Zz {g:Gn tb}:∀{l:List (SV tb)},MX (Qh g) l=true->uL g l=l
 | [],_=>rfl
 |x::l,h=>by
  rw[UC,Bool.and_eq_true]at h
  simp only[uL];rw[kp h.1,Zz h.2]
end
structure SLS (tb:Tb) where
 e:VP tb
 s:List (VP tb)
 h:SHp tb
 nx:Nat
 gn:Gn tb
def avE (g:Gn tb)(e:VP tb):Env:=e.map fun p=>(p.1,(p.2.res g).av)
def avH (g:Gn tb)(h:SHp tb):Hp:=(h.filter fun p=>Qh g p.1).map fun p=>(p.1,(p.2.res g).av)
def SLS.E (L:SLS tb):Env:=avE L.gn L.e
def SLS.av (L:SLS tb):LS:=⟨avE L.gn L.e,L.s.map (avE L.gn),avH L.gn L.h,fun d=>L.nx<=d⟩
theorem YR {g:Gn tb}{e:VP tb}{t}:find t (avE g e)=(find t e).map fun x=>(x.res g).av:=WX (fun x:SV tb=>(x.res g).av) t e
theorem zO {g:Gn tb}{h:SHp tb}{t}:find t (avH g h)=if Qh g t then(find t h).map fun b=>(b.res g).av else none:=by
 unfold avH
 rw[WX (fun b:SC tb=>(b.res g).av),wy (Qh g)]
 split <;> rfl
def qG (L:SLS tb):List Nat->List (Nat × List AV)
 | []=>[]
 |id::r=>match find id (avH L.gn L.h)with
  |some (.cells l)=>(id,l)::qG L r
  |_=>qG L r
theorem zI {L:SLS tb}:∀{ids},∀p∈qG L ids,find p.1 L.av.h=some (.cells p.2)
 | [],p,h=>by simp[qG]at h
 |id::r,p,h=>by
  simp only[qG]at h
  split at h
  ·rename_i l hl
   rcases List.mem_cons.1 h with rfl|h
   ·exact hl
   ·exact zI p h
  ·exact zI p h
/-! the checks -/
def Vl (L:SLS tb)(id:Nat):Option (List (SV tb)):=match Qh L.gn id with
 |true=>(match find id L.h with|some (.cells l)=>some (uL L.gn l)|_=>none)
 |false=>none
theorem vG {L:SLS tb}{id l}(h:Vl L id=some l):find id (avH L.gn L.h)=some (.cells (avL l)):=by
 unfold Vl at h
 split at h
 ·rename_i hk
  split at h
  ·rename_i l' hf;cases h
   rw[zO,if_pos hk,hf];rfl
  ·cases h
 ·cases h
def KO (L:SLS tb)(id:Nat)(E:tb.Ix):Option (List (tb.T E)):=match Qh L.gn id with
 |true=>(match find id L.h with|some (.arr E' l)=>(match tb.dec E' E with|isTrue h=>some (h ▸ l)|isFalse _=>none)|_=>none)
 |false=>none
theorem zB {L:SLS tb}{id E l}(h:KO L id E=some l):find id (avH L.gn L.h)=some (.cells (elC tb E l)):=by
 unfold KO at h
 split at h
 ·rename_i hk
  split at h
  ·rename_i E' l' hf
   split at h
   ·rename_i hE _;subst hE;cases h
    rw[zO,if_pos hk,hf];rfl
   ·cases h
  ·cases h
 ·cases h
theorem yY {L:SLS tb}{id l}(h:find id (avH L.gn L.h)=some (.cells l)):qG L [id]=[(id,l)]:=by
 simp[qG,h]
/-! operands under guards -/
def gEq:Gd->Gd->Bool
 | [],[]=>true
 |(s,w,_)::G,(s',w',_)::G'=>Nat.beq s s'&&(w==w')&&gEq G G'
 |_,_=>false
def gSuf (G':Gd):Gd->Bool
 | []=>gEq G' []
 |g::G=>gEq G' (g::G)||gSuf G' G
def KE:SV tb->Option Bool
 | .bo t=>some t
 | .con (.bool t)=>some t
 |_=>none
def opd (L:SLS tb)(G:Gd):Operand->Option (SV tb)
 | .tmp t=>match find t L.e with
   |some (.opt G' x)=>(match gSuf G' G with|true=>some (x.res L.gn)|false=>none)
   |some x=>some (x.res L.gn)
   |none=>none
 | .const v=>some (.con v)
 | .func f=>some (.fn f [])
 | .global _=>none
def GD (e:VP tb):Gd->Prop
 | []=>True
 |(s,w,t)::G=>GD e G/\∃y,KE y=some t/\((find s e=some y/\G=[])\/(find s e=some (.opt G y)/\G≠[]))
def GInv (e:VP tb):Prop:=∀t G x,find t e=some (.opt G x)->GD e G/\G≠[]
theorem jjC {e:VP tb}:∀{G G':Gd},GD e G->GD e G'->gEq G' G=true->G'=G
 | [],[],_,_,_=>rfl
 | [],_::_,_,_,h=>by simp[gEq]at h
 |_::_,[],_,_,h=>by simp[gEq]at h
 |(s,w,t)::G,(s',w',t')::G',h,h',hq=>by
  simp only[gEq,Bool.and_eq_true,Nat.beq_eq,beq_iff_eq]at hq
  obtain⟨⟨rfl,rfl⟩,hq⟩:=hq
  obtain⟨h1,y,hy,h2⟩:=h
  obtain⟨h1',y',hy',h2'⟩:=h'
  obtain rfl:=jjC h1 h1' hq
  have:y=y':=by
   rcases h2 with ⟨h2,h3⟩|⟨h2,h3⟩ <;> rcases h2' with ⟨h2',h3'⟩|⟨h2',h3'⟩
   ·rw[h2]at h2';cases h2';rfl
   ·exact absurd h3 h3'
   ·exact absurd h3' h3
   ·rw[h2]at h2';cases h2';rfl
  subst this
  rw[hy]at hy';cases hy';rfl
theorem jcE {e:VP tb}:∀{G G':Gd},GD e G->GD e G'->gSuf G' G=true->gc G=true->gc G'=true
 | [],G',h,h',hs,hg=>by
   have:gEq G' []=true:=hs
   cases G' with
   |nil=>rfl
   |cons=>simp[gEq]at this
 |g :: G,G',h,h',hs,hg=>by
  simp only[gSuf,Bool.or_eq_true]at hs
  rcases hs with hs|hs
  ·rw[jjC h h' hs];exact hg
  ·obtain⟨s,w,t⟩:=g
   refine jcE h.1 h' hs ?_
   rw[jeC]at hg⊢
   simp only[gc0,Bool.and_eq_true]at hg
   exact hg.1
structure Gu (L:SLS tb)(G:Gd):Prop where
 inv:GInv L.e
 gd:GD L.e G
 on:gc G=true
theorem Jl {L:SLS tb}{G:Gd}{y x}(u:Gu L G)(h:opd L G y=some x):jK L.E y x.av:=by
 intro m bl a hr
 cases y with
 |tmp t=>
  simp only[opd]at h
  have hf:∀z,find t L.e=some z->Rep m bl (z.res L.gn).av (a.tmps.getD t undef):=fun z hz=>hr t rfl _ (by unfold SLS.E;rw[YR,hz];rfl)
  split at h
  ·rename_i G' x' hf'
   split at h
   ·rename_i hs
    cases h
    exact(hf _ hf').jjH.1 (jcE u.gd (u.inv t G' x' hf').1 hs u.on)
   ·cases h
  ·rename_i z hne hz
   cases h
   exact hf _ hz
  ·cases h
 |const v=>cases h;exact .v
 |func f=>cases h;exact .clo .nil
 |global g=>cases h
theorem jbM {y:SV tb}{t}(h:KE y=some t):y.av=.v (.bool t):=by
 unfold KE at h
 split at h
 ·cases h;rfl
 ·cases h;rfl
 ·cases h
theorem xS {g:Gn tb}{y:SV tb}{t}(h:KE y=some t):y.res g=y:=by
 unfold KE at h
 split at h
 ·rfl
 ·rfl
 ·cases h
theorem GD.gv {L:SLS tb}{s w t G}(h:GD L.e ((s,w,t)::G)):GV L.E s (gc G) t:=by
 obtain⟨h1,y,hy,h2⟩:=h
 have hav:=jbM hy
 have hres:=xS (g:=L.gn) hy
 rcases h2 with ⟨h2,rfl⟩|⟨h2,h3⟩
 ·exact .inl ⟨by unfold SLS.E;rw[YR,h2];simp[hres,hav],rfl⟩
 ·refine .inr ?_
  unfold SLS.E
  rw[YR,h2]
  simp[SV.res,SV.av,hres,hav]
end
end
section
open Go.RowKit
variable [GlC]
def got {α ρ:Type}(m:Option α)(k:α->Option ρ):Option ρ:=(fun(_:Unit)=>match m with|some a=>k a|none=>none) jgK
theorem jd {α ρ:Type}{m:Option α}{k:α->Option ρ}{r:ρ}(h:got m k=some r):∃a,m=some a/\k a=some r:=by
 unfold got at h;split at h
 ·exact⟨_,rfl,h⟩
 ·cases h
def tst {ρ:Type}(b:Bool)(k:Option ρ):Option ρ:=(fun(_:Unit)=>match b with|true=>k|false=>none) jgK
theorem jM {ρ:Type}{b:Bool}{k:Option ρ}{r:ρ}(h:tst b k=some r):b=true/\k=some r:=by
 unfold tst at h;split at h
 ·exact⟨rfl,h⟩
 ·cases h
section
variable {P:Program} {tb:Tb} {ρ:Type}
def QOk (P:Program)(L:SLS tb)(G:Gd)(o:Oper)(k:SV tb->List Nat->Option ρ)(r:ρ):Prop:=
 ∃x need,k x need=some r/\(Gu L G->QEx P o L.E (qG L need) x.av)
def asI:SV tb->Option (IntKind × Int)
 | .i k n=>some (k,n)
 | .con (.int k n)=>some (k,n)
 |_=>none
theorem vb {x:SV tb}{p}(h:asI x=some p):x.av=.v (.int p.1 p.2):=by
 unfold asI at h;split at h
 ·cases h;rfl
 ·cases h;rfl
 ·cases h
def isByte (n:Int):Bool:=match n with| .ofNat m=>Nat.blt m 256| .negSucc _=>false
theorem jiy {n:Int}(h:isByte n=true):0<=n/\n<256:=by
 unfold isByte at h;split at h
 ·have:=Nat.le_of_ble_eq_true h
  simp;omega
 ·cases h
def asC:SV tb->Option UInt8
 | .b8 c=>some c
 | .con (.int .u8 n)=>(match isByte n with|true=>some (toByte n)|false=>none)
 |_=>none
theorem jiU {x:SV tb}{c}(h:asC x=some c):x.av=JD c:=by
 unfold asC at h;split at h
 ·cases h;rfl
 ·split at h
  ·rename_i hb;cases h
   show AV.v _=JD _
   unfold JD;rw[Wd (jiy hb)]
  ·cases h
 ·cases h
theorem Ks {x:SV tb}{b}(h:KE x=some b):x.av=bAV b:=jbM h
def asS:SV tb->Option (List UInt8)
 | .st s=>some s
 | .con (.string s)=>some s.data.toList
 |_=>none
theorem jai {x:SV tb}{s}(h:asS x=some s):x.av=sAV s:=by
 unfold asS at h;split at h
 ·cases h;rfl
 ·cases h;show AV.v _=AV.v _;rw[jfn]
 ·cases h
def nz (x:SV tb)(G:Gd)(n:Int)(k:Option ρ):Option ρ:=match x with
 | .con _=>tst (decide (n≠0)) k
 |_=>chk G (n≠0) k
theorem nz_e {x:SV tb}{G n}{k:Option ρ}{r}(h:nz x G n k=some r):(gc G=true->n≠0)/\k=some r:=by
 unfold nz at h;split at h
 ·obtain⟨h1,h⟩:=jM h;exact⟨fun _=>of_decide_eq_true h1,h⟩
 ·exact kR h
def nn (x:SV tb)(G:Gd)(n:Int)(k:Option ρ):Option ρ:=match x with
 | .con _=>tst (decide (0<=n)) k
 |_=>chk G (0<=n) k
theorem nn_e {x:SV tb}{G n}{k:Option ρ}{r}(h:nn x G n k=some r):(gc G=true->0<=n)/\k=some r:=by
 unfold nn at h;split at h
 ·obtain⟨h1,h⟩:=jM h;exact⟨fun _=>of_decide_eq_true h1,h⟩
 ·exact kR h
def jhe (G:Gd)(op:BinOp)(z:SV tb)(ki:IntKind)(a b:Int)(k:SV tb->List Nat->Option ρ):Option ρ:=match op with
 | .add=>Let (ki.wrap (a+b)) fun n=>k (.i ki n) []
 | .sub=>Let (ki.wrap (a - b)) fun n=>k (.i ki n) []
 | .mul=>Let (ki.wrap (a*b)) fun n=>k (.i ki n) []
 | .and=>Let (bAnd ki a b) fun n=>k (.i ki n) []
 | .or=>Let (bOr ki a b) fun n=>k (.i ki n) []
 | .xor=>Let (bXor ki a b) fun n=>k (.i ki n) []
 | .eql=>Let (a==b) fun t=>k (.bo t) []
 | .neq=>Let (a != b) fun t=>k (.bo t) []
 | .lss=>Let (decide (a<b)) fun t=>k (.bo t) []
 | .leq=>Let (decide (a<=b)) fun t=>k (.bo t) []
 | .gtr=>Let (decide (a>b)) fun t=>k (.bo t) []
 | .geq=>Let (decide (a>=b)) fun t=>k (.bo t) []
 | .quo=>nz z G b (Let (ki.wrap (a.tdiv b)) fun n=>k (.i ki n) [])
 | .rem=>nz z G b (Let (a.tmod b) fun n=>k (.i ki n) [])
 |_=>none
theorem jhd {L:SLS tb}{G o op t y z yt ki a b zs}{k:SV tb->List Nat->Option ρ}{r}(ho:o.op=.binOp op t y z yt)(hy:Gu L G->jK L.E y (.v (.int ki a)))(hz:Gu L G->jK L.E z (.v (.int ki b)))
 (h:jhe G op zs ki a b k=some r):QOk P L G o k r:=by
 unfold jhe at h
 split at h
 all_goals first
  |cases h;done
  |exact⟨_,[],h,fun u=>QEx.jeO ho (hy u) (hz u) rfl⟩
  |(obtain⟨h1,h⟩:=nz_e h;exact⟨_,[],h,fun u=>QEx.quo ho (hy u) (hz u) (h1 u.on)⟩)
  |(obtain⟨h1,h⟩:=nz_e h;exact⟨_,[],h,fun u=>QEx.rem ho (hy u) (hz u) (h1 u.on)⟩)
def jcQ (G:Gd)(op:BinOp)(p q:UInt8)(k:SV tb->List Nat->Option ρ):Option ρ:=match op with
 | .add=>Let (p+q) fun n=>k (.b8 n) []
 | .sub=>Let (p - q) fun n=>k (.b8 n) []
 | .rem=>chk G (q≠0) (Let (p % q) fun n=>k (.b8 n) [])
 | .eql=>Let (p==q) fun t=>k (.bo t) []
 | .neq=>Let (p != q) fun t=>k (.bo t) []
 | .lss=>Let (decide (p<q)) fun t=>k (.bo t) []
 | .leq=>Let (decide (p<=q)) fun t=>k (.bo t) []
 | .gtr=>Let (decide (q<p)) fun t=>k (.bo t) []
 | .geq=>Let (decide (q<=p)) fun t=>k (.bo t) []
 |_=>none
theorem jeP {L:SLS tb}{G o op t y z yt a b}{k:SV tb->List Nat->Option ρ}{r}(ho:o.op=.binOp op t y z yt)(hy:Gu L G->jK L.E y (JD a))(hz:Gu L G->jK L.E z (JD b))
 (h:jcQ G op a b k=some r):QOk P L G o k r:=by
 unfold jcQ at h
 split at h
 ·exact⟨_,[],h,fun u=>QEx.addC ho (hy u) (hz u)⟩
 ·exact⟨_,[],h,fun u=>QEx.subC ho (hy u) (hz u)⟩
 ·obtain⟨h1,h⟩:=kR h;exact⟨_,[],h,fun u=>QEx.remC ho (hy u) (hz u) (h1 u.on)⟩
 ·exact⟨_,[],h,fun u=>QEx.eqlC ho (hy u) (hz u)⟩
 ·exact⟨_,[],h,fun u=>QEx.neqC ho (hy u) (hz u)⟩
 ·exact⟨_,[],h,fun u=>QEx.lssC ho (hy u) (hz u)⟩
 ·exact⟨_,[],h,fun u=>QEx.leqC ho (hy u) (hz u)⟩
 ·exact⟨_,[],h,fun u=>QEx.gtrC ho (hy u) (hz u)⟩
 ·exact⟨_,[],h,fun u=>QEx.geqC ho (hy u) (hz u)⟩
 ·cases h
def jhc (G:Gd)(op:BinOp)(p q:List UInt8)(k:SV tb->List Nat->Option ρ):Option ρ:=match op with
 | .add=>chk G (p.length+q.length<=9223372036854775807) (Let (p++q) fun n=>k (.st n) [])
 | .eql=>Let (p==q) fun t=>k (.bo t) []
 | .neq=>Let (p != q) fun t=>k (.bo t) []
 | .lss=>Let (jb6 p q) fun t=>k (.bo t) []
 |_=>none
theorem jhb {L:SLS tb}{G o op t y z yt a b}{k:SV tb->List Nat->Option ρ}{r}(ho:o.op=.binOp op t y z yt)(hy:Gu L G->jK L.E y (sAV a))(hz:Gu L G->jK L.E z (sAV b))
 (h:jhc G op a b k=some r):QOk P L G o k r:=by
 unfold jhc at h
 split at h
 ·obtain⟨h1,h⟩:=kR h;exact⟨_,[],h,fun u=>QEx.addS ho (hy u) (hz u) (h1 u.on)⟩
 ·exact⟨_,[],h,fun u=>QEx.eqlS ho (hy u) (hz u)⟩
 ·exact⟨_,[],h,fun u=>QEx.neqS ho (hy u) (hz u)⟩
 ·exact⟨_,[],h,fun u=>QEx.lssS ho (hy u) (hz u)⟩
 ·cases h
def jcR (op:BinOp)(p q:Bool)(k:SV tb->List Nat->Option ρ):Option ρ:=match op with
 | .eql=>Let (p==q) fun t=>k (.bo t) []
 | .neq=>Let (p != q) fun t=>k (.bo t) []
 |_=>none
def jcC:TypeDesc->Bool
 | .bool=>true
 |_=>false
theorem jgD {d}(h:jcC d=true):d=.bool:=by unfold jcC at h;split at h;rfl;cases h
theorem jeQ {L:SLS tb}{G o op t y z yt a b}{k:SV tb->List Nat->Option ρ}{r}(ht:P.underlying t=some .bool)(ho:o.op=.binOp op t y z yt)(hy:Gu L G->jK L.E y (bAV a))(hz:Gu L G->jK L.E z (bAV b))
 (h:jcR op a b k=some r):QOk P L G o k r:=by
 unfold jcR at h
 split at h
 ·exact⟨_,[],h,fun u=>QEx.binB ho (hy u) (hz u) rfl ht⟩
 ·exact⟨_,[],h,fun u=>QEx.binB ho (hy u) (hz u) rfl ht⟩
 ·cases h
def findEq (t:Nat):List (EqE P tb)->Option (EqE P tb)
 | []=>none
 |e::r=>match Nat.beq e.t t with|true=>some e|false=>findEq t r
theorem jdG {t:Nat}:∀{l:List (EqE P tb)} {e},findEq t l=some e->e.t=t
 | [],_,h=>by simp[findEq]at h
 |e::r,e',h=>by
  simp only[findEq]at h
  split at h
  ·rename_i hb;cases h;exact Nat.eq_of_beq_eq_true hb
  ·exact jdG h
def jhg (cx:Ctx P tb)(op:BinOp)(t yt:Nat)(a b:SV tb)(k:SV tb->List Nat->Option ρ):Option ρ:=
 tst (Nat.beq yt t) <|got (findEq t cx.eqs) fun e=>got ((cx.cd e.i).of a) fun x=>got ((cx.cd e.i).of b) fun y=>match op with
  | .eql=>Let (e.beq x y) fun t=>k (.bo t) []
  | .neq=>Let (!e.beq x y) fun t=>k (.bo t) []
  |_=>none
theorem jK.sub {e:Env}{y x x'}(h:jK e y x)(s:Sub x x'):jK e y x':=fun m bl a hr=>s m bl _ (h m bl a hr)
theorem jhf {cx:Ctx P tb}{L:SLS tb}{G o op t y z yt a b}{k:SV tb->List Nat->Option ρ}{r}(ho:o.op=.binOp op t y z yt)(hy:Gu L G->jK L.E y a.av)(hz:Gu L G->jK L.E z b.av)
 (h:jhg cx op t yt a b k=some r):QOk P L G o k r:=by
 unfold jhg at h
 obtain⟨ht,h⟩:=jM h
 have ht:=Nat.eq_of_beq_eq_true ht
 obtain⟨e,he,h⟩:=jd h
 obtain⟨x,hx,h⟩:=jd h
 obtain⟨x',hx',h⟩:=jd h
 have h1:=fun u=>(hy u).sub ((cx.ok e.i).of _ _ hx)
 have h2:=fun u=>(hz u).sub ((cx.ok e.i).of _ _ hx')
 have:=e.ok
 rw[jdG he]at this
 rw[ht]at ho
 split at h
 ·exact⟨_,[],h,fun u=>QEx.eqlA ho this (h1 u) (h2 u)⟩
 ·exact⟨_,[],h,fun u=>QEx.neqA ho this (h1 u) (h2 u)⟩
 ·cases h
def conP:SV tb->SV tb->Option (IntKind × Int × Int)
 | .con (.int k n),.con (.int k' n')=>(match decide (k=k')with|true=>some (k,n,n')|false=>none)
 |_,_=>none
theorem conP_e {x y:SV tb}{p}(h:conP x y=some p):x.av=.v (.int p.1 p.2.1)/\y.av=.v (.int p.1 p.2.2):=by
 unfold conP at h
 split at h
 ·split at h
  ·rename_i hd
   have:=of_decide_eq_true hd
   subst this
   cases h;exact⟨rfl,rfl⟩
  ·cases h
 ·cases h
def foldI (op:BinOp)(ki:IntKind)(a b:Int):Option Value:=match op with
 | .add=>some (.int ki (ki.wrap (a+b)))
 | .sub=>some (.int ki (ki.wrap (a - b)))
 | .eql=>some (.bool (a==b))
 | .neq=>some (.bool (a != b))
 | .lss=>some (.bool (decide (a<b)))
 | .leq=>some (.bool (decide (a<=b)))
 | .gtr=>some (.bool (decide (a>b)))
 | .geq=>some (.bool (decide (a>=b)))
 |_=>none
def fold2 (op:BinOp)(x y:SV tb):Option Value:=match conP x y with
 |some p=>foldI op p.1 p.2.1 p.2.2
 |none=>none
theorem jiD {L:SLS tb}{G o op t y z yt ki a b v}{k:SV tb->List Nat->Option ρ}{r}(ho:o.op=.binOp op t y z yt)(hy:Gu L G->jK L.E y (.v (.int ki a)))(hz:Gu L G->jK L.E z (.v (.int ki b)))
 (hf:foldI op ki a b=some v) (h:k (.con v) []=some r):QOk P L G o k r:=by
 unfold foldI at hf
 split at hf
 all_goals first|(cases hf;exact⟨_,[],h,fun u=>QEx.jeO ho (hy u) (hz u) rfl⟩)|cases hf
def jkZ:BinOp->Bool
 | .shl=>true
 | .shr=>true
 |_=>false
def jjl (G:Gd)(op:BinOp)(z:SV tb)(ki:IntKind)(a b:Int)(k:SV tb->List Nat->Option ρ):Option ρ:=match op with
 | .shl=>nn z G b (Let (bShl ki a b) fun n=>k (.i ki n) [])
 | .shr=>nn z G b (Let (bShr ki a b) fun n=>k (.i ki n) [])
 |_=>none
def qBin (cx:Ctx P tb)(L:SLS tb)(G:Gd)(op:BinOp)(t:Nat)(y z:Operand)(yt:Nat)(k:SV tb->List Nat->Option ρ):Option ρ:=
 got (opd L G y) fun a=>got (opd L G z) fun b=>match fold2 op a b with
 |some v=>k (.con v) []
 |none=>match jkZ op with
 |true=>got (asI a) fun p=>got (asI b) fun q=>jjl G op b p.1 p.2 q.2 k
 |false => match asI a,asI b with
  |some p,some q=>tst (decide (p.1=q.1)) (jhe G op b p.1 p.2 q.2 k)
  |_,_=>match asC a,asC b with
   |some p,some q=>jcQ G op p q k
   |_,_=>match KE a,KE b with
    |some p,some q=>got (P.underlying t) fun d=>tst (jcC d) (jcR op p q k)
    |_,_=>match asS a,asS b with
     |some p,some q=>jhc G op p q k
     |_,_=>jhg cx op t yt a b k
theorem jkt {cx:Ctx P tb}{L:SLS tb}{G o op t y z yt}{k:SV tb->List Nat->Option ρ}{r}(ho:o.op=.binOp op t y z yt)(h:qBin cx L G op t y z yt k=some r):QOk P L G o k r:=by
 unfold qBin at h
 obtain⟨a,ha,h⟩:=jd h
 obtain⟨b,hb,h⟩:=jd h
 have hy:=fun u=>Jl (L:=L) (G:=G) u ha
 have hz:=fun u=>Jl (L:=L) (G:=G) u hb
 split at h
 ·rename_i v hv
  unfold fold2 at hv
  split at hv
  ·rename_i p hp
   obtain⟨g1,g2⟩:=conP_e hp
   rw[g1]at hy;rw[g2]at hz
   exact jiD ho hy hz hv h
  ·cases hv
 ·split at h
  ·obtain⟨p,hp,h⟩:=jd h
   obtain⟨q,hq,h⟩:=jd h
   rw[vb hp]at hy;rw[vb hq]at hz
   unfold jjl at h
   split at h
   ·obtain⟨h1,h⟩:=nn_e h;exact⟨_,[],h,fun u=>QEx.shl ho (hy u) (hz u) (h1 u.on)⟩
   ·obtain⟨h1,h⟩:=nn_e h;exact⟨_,[],h,fun u=>QEx.shr ho (hy u) (hz u) (h1 u.on)⟩
   ·cases h
  ·split at h
   ·rename_i p q hp hq
    obtain⟨h1,h⟩:=jM h
    have h1:=of_decide_eq_true h1
    rw[vb hp]at hy;rw[vb hq,<-h1]at hz
    exact jhd ho hy hz h
   ·split at h
    ·rename_i p q hp hq
     rw[jiU hp]at hy;rw[jiU hq]at hz
     exact jeP ho hy hz h
    ·split at h
     ·rename_i p q hp hq
      obtain⟨d,hd,h⟩:=jd h
      obtain⟨h1,h⟩:=jM h
      rw[jgD h1]at hd
      rw[Ks hp]at hy;rw[Ks hq]at hz
      exact jeQ hd ho hy hz h
     ·split at h
      ·rename_i p q hp hq
       rw[jai hp]at hy;rw[jai hq]at hz
       exact jhb ho hy hz h
      ·exact jhf ho hy hz h
def qUn (L:SLS tb)(G:Gd)(op:UnOp)(y:Operand)(k:SV tb->List Nat->Option ρ):Option ρ:=
 got (opd L G y) fun a=>match op with
 | .not=>got (KE a) fun b=>Let (!b) fun t=>k (.bo t) []
 | .neg=>got (asI a) fun p=>Let (p.1.wrap (0 - p.2)) fun n=>k (.i p.1 n) []
 |_=>none
theorem qUn_ok {L:SLS tb}{G o op t y}{k:SV tb->List Nat->Option ρ}{r}(ho:o.op=.unOp op t y)(h:qUn L G op y k=some r):QOk P L G o k r:=by
 unfold qUn at h
 obtain⟨a,ha,h⟩:=jd h
 have hy:=fun u=>Jl (L:=L) (G:=G) u ha
 split at h
 ·obtain⟨p,hp,h⟩:=jd h
  rw[Ks hp]at hy
  exact⟨_,[],h,fun u=>QEx.not ho (hy u)⟩
 ·obtain⟨p,hp,h⟩:=jd h
  rw[vb hp]at hy
  exact⟨_,[],h,fun u=>QEx.neg ho (hy u)⟩
 ·cases h
/-! conversions -/
def Uz:TypeDesc->Option IntKind
 | .int k=>some k
 |_=>none
theorem WT {d k}(h:Uz d=some k):d=.int k:=by unfold Uz at h;split at h;cases h;rfl;cases h
def jj0:IntKind->Bool
 | .i64=>true
 | .u64=>true
 | .i32=>true
 | .u32=>true
 | .u16=>true
 | .i16=>true
 |_=>false
theorem jjZ {k}(h:jj0 k=true):k=.i64\/k=.u64\/k=.i32\/k=.u32\/k=.u16\/k=.i16:=by
 unfold jj0 at h;split at h <;> simp at h⊢
def jkY:IntKind->Bool
 | .u8=>true
 |_=>false
theorem jbq {k}(h:jkY k=true):k=.u8:=by unfold jkY at h;split at h;rfl;cases h
def Wv:TypeDesc->Bool
 | .string=>true
 |_=>false
theorem KV {d}(h:Wv d=true):d=.string:=by unfold Wv at h;split at h;rfl;cases h
def ui:TypeDesc->Option Nat
 | .slice E=>some E
 |_=>none
theorem vA {d E}(h:ui d=some E):d=.slice E:=by unfold ui at h;split at h;cases h;rfl;cases h
theorem jg7 {T:Type}{el:T->AV}(h:T=UInt8)(he:∀x,el x=JD (cast h x))(l:List T):l.map el=(cast (congrArg List h) l).map JD:=by
 subst h;exact List.map_congr_left fun x _=>he x
theorem mZ {T:Type}{el:T->AV}(h:T=UInt8)(he:∀x,el x=JD (cast h x))(l:List UInt8):(cast (congrArg List h).symm l).map el=l.map JD:=by
 subst h;exact List.map_congr_left fun x _=>he x
def bytesOf (tb:Tb)(E:tb.Ix)(l:List (tb.T E)):Option (List UInt8):=match tb.byte with
 |some b=>(match tb.dec E b.1 with|isTrue he=>some (cast (congrArg List ((congrArg tb.T he).trans (Classical.choose b.2))) l)|isFalse _=>none)
 |none=>none
theorem Pr {E l s}(h:bytesOf tb E l=some s):tb.sz E=1/\l.map (tb.el E)=s.map JD:=by
 unfold bytesOf at h
 split at h
 ·rename_i b _
  split at h
  ·rename_i he _
   cases h
   subst he
   obtain⟨h1,h2⟩:=Classical.choose_spec b.2
   exact⟨h1,jg7 (Classical.choose b.2) h2 l⟩
  ·cases h
 ·cases h
def slB (tb:Tb)(s:List UInt8):Option (SV tb):=match tb.byte with
 |some b=>some (.sl false b.1 (cast (congrArg List (Classical.choose b.2)).symm s))
 |none=>none
theorem slB_e {s x}(h:slB tb s=some x):x.av=.sl false 1 (s.map JD):=by
 unfold slB at h
 split at h
 ·rename_i b _
  cases h
  obtain⟨h1,h2⟩:=Classical.choose_spec b.2
  show AV.sl false (tb.sz b.1) (List.map (tb.el b.1) _)=_
  rw[h1,mZ (Classical.choose b.2) h2]
 ·cases h
def asSl:SV tb->Option ((E:tb.Ix) × List (tb.T E))
 | .sl _ E l=>some ⟨E,l⟩
 | .em E=>some ⟨E,[]⟩
 |_=>none
theorem asSl_e {x:SV tb}{p}(h:asSl x=some p):∃c,x.av=.sl c (tb.sz p.1) (p.2.map (tb.el p.1)):=by
 unfold asSl at h;split at h
 ·cases h;exact⟨_,rfl⟩
 ·cases h;exact⟨_,rfl⟩
 ·cases h
def isNil:SV tb->Bool
 | .con (.slice none 0 0)=>true
 |_=>false
theorem Pe {x:SV tb}(h:isNil x=true):x.av=.v (.slice none 0 0):=by
 unfold isNil at h;split at h
 ·rfl
 ·cases h
def jkq (P:Program)(L:SLS tb)(G:Gd)(s d:Nat)(y:Operand)(k:SV tb->List Nat->Option ρ):Option ρ:=
 got (opd L G y) fun a=>got (P.underlying d) fun D=>got (P.underlying s) fun S=>match Uz D with
 |some kd=>(match asI a with
  |some p=>(match jkY kd with
   |true=>Let (toByte p.2) fun n=>k (.b8 n) []
   |false=>Let (kd.wrap p.2) fun n=>k (.i kd n) [])
  |none=>got (asC a) fun c=>tst (jj0 kd) (Let (c.toNat:Int) fun n=>k (.i kd n) []))
 |none=>match Wv D with
  |true=>got (ui S) fun E=>got (P.underlying E) fun ED=>got (Uz ED) fun ke=>tst (jkY ke) (match isNil a with
   |true=>k (.st []) []
   |false=>got (asSl a) fun p=>got (bytesOf tb p.1 p.2) fun bs=>k (.st bs) [])
  |false=>tst (Wv S) <|got (ui D) fun E=>got (P.underlying E) fun ED=>got (Uz ED) fun ke=>tst (jkY ke) (got (asS a) fun st=>got (slB tb st) fun x=>k x [])
theorem jh7 {L:SLS tb}{G o s d y}{k:SV tb->List Nat->Option ρ}{r}(ho:o.op=.convert s d y)(h:jkq P L G s d y k=some r):QOk P L G o k r:=by
 unfold jkq at h
 obtain⟨a,ha,h⟩:=jd h
 obtain⟨D,hD,h⟩:=jd h
 obtain⟨S,hS,h⟩:=jd h
 have hy:=fun u=>Jl (L:=L) (G:=G) u ha
 have hSs:(P.underlying s).isSome=true:=by rw[hS];rfl
 split at h
 ·rename_i kd hkd
  rw[WT hkd]at hD
  split at h
  ·rename_i p hp
   rw[vb hp]at hy
   split at h
   ·rename_i hu
    rw[jbq hu]at hD
    exact⟨_,[],h,fun u=>QEx.cvKC ho hD hSs (hy u)⟩
   ·exact⟨_,[],h,fun u=>QEx.jlk ho hD hSs (hy u)⟩
  ·obtain⟨c,hc,h⟩:=jd h
   obtain⟨hw,h⟩:=jM h
   rw[jiU hc]at hy
   exact⟨_,[],h,fun u=>QEx.cvCK ho hD hSs (hy u) (jjZ hw)⟩
 ·split at h
  ·rename_i hs
   obtain⟨E,hE,h⟩:=jd h
   obtain⟨ED,hED,h⟩:=jd h
   obtain⟨ke,hke,h⟩:=jd h
   obtain⟨hu,h⟩:=jM h
   rw[KV hs]at hD
   rw[vA hE]at hS
   rw[WT hke,jbq hu]at hED
   split at h
   ·rename_i hn
    refine⟨_,[],h,fun u=>?_⟩
    have h1:jK L.E y (.sl true 1 []):=(hy u).sub (by rw[Pe hn];exact .nil)
    exact QEx.jdR (bs:=[]) ho hS hED hD h1 rfl
   ·obtain⟨p,hp,h⟩:=jd h
    obtain⟨bs,hbs,h⟩:=jd h
    obtain⟨c,hc⟩:=asSl_e hp
    obtain⟨h1,h2⟩:=Pr hbs
    rw[hc,h1]at hy
    exact⟨_,[],h,fun u=>QEx.jdR ho hS hED hD (hy u) h2⟩
  ·obtain⟨hs,h⟩:=jM h
   obtain⟨E,hE,h⟩:=jd h
   obtain⟨ED,hED,h⟩:=jd h
   obtain⟨ke,hke,h⟩:=jd h
   obtain⟨hu,h⟩:=jM h
   obtain⟨st,hst,h⟩:=jd h
   obtain⟨x,hx,h⟩:=jd h
   rw[KV hs]at hS
   rw[vA hE]at hD
   rw[WT hke,jbq hu]at hED
   rw[jai hst]at hy
   refine⟨_,[],h,fun u=>?_⟩
   rw[slB_e hx]
   exact QEx.jhP ho hS hD hED (hy u)
/-! lengths -/
def qLen (P:Program)(L:SLS tb)(G:Gd)(y:Operand)(t:Nat)(k:SV tb->List Nat->Option ρ):Option ρ:=
 got (opd L G y) fun a=>got (P.underlying t) fun D=>match Wv D with
 |true=>got (asS a) fun s=>Let (s.length:Int) fun n=>k (.i .i64 n) []
 |false=>got (ui D) fun _=>match isNil a with
  |true=>k (.i .i64 0) []
  |false=>match a with
   | .sl _ _ l=>Let (l.length:Int) fun n=>k (.i .i64 n) []
   | .row _ _ _ len _=>k (.i .i64 len) []
   |_=>none
theorem jkm {L:SLS tb}{G o y t}{k:SV tb->List Nat->Option ρ}{r}(ho:o.op=.call {callee:=.builtin .len,args:=#[y],argTypes:=#[t]})(h:qLen P L G y t k=some r):QOk P L G o k r:=by
 unfold qLen at h
 obtain⟨a,ha,h⟩:=jd h
 obtain⟨D,hD,h⟩:=jd h
 have hy:=fun u=>Jl (L:=L) (G:=G) u ha
 split at h
 ·rename_i hs
  obtain⟨s,hs2,h⟩:=jd h
  rw[KV hs]at hD
  rw[jai hs2]at hy
  exact⟨_,[],h,fun u=>QEx.lenStr ho hD (hy u)⟩
 ·obtain⟨E,hE,h⟩:=jd h
  rw[vA hE]at hD
  split at h
  ·rename_i hn
   refine⟨_,[],h,fun u=>?_⟩
   have h1:jK L.E y (.sl true 1 []):=(hy u).sub (by rw[Pe hn];exact .nil)
   exact QEx.len ho ⟨_,hD⟩ h1
  ·split at h
   ·refine⟨_,[],h,fun u=>?_⟩
    have:=QEx.len ho ⟨_,hD⟩ (hy u)
    rw[List.length_map]at this
    exact this
   ·exact⟨_,[],h,fun u=>QEx.lenR ho hD ((hy u).r (by simp[ho,Op.operands,Call.operands]))⟩
   ·cases h
def qMM (L:SLS tb)(G:Gd)(mx:Bool)(x y:Operand)(k:SV tb->List Nat->Option ρ):Option ρ:=
 got (opd L G x) fun a=>got (opd L G y) fun b=>got (asI a) fun p=>got (asI b) fun q=>tst (decide (p.1=q.1)) (match mx with
 |true=>Let (max p.2 q.2) fun n=>k (.i p.1 n) []
 |false=>Let (min p.2 q.2) fun n=>k (.i p.1 n) [])
/-! picks -/
def gdAt (e:VP tb)(t:Nat)(w:Bool):Option Gd:=match find t e with
 |some (.opt G' y)=>(match G' with
  | []=>none
  |_::_=>match KE y with|some b=>some ((t,w,b)::G')|none=>none)
 |some y=>(match KE y with|some b=>some [(t,w,b)] |none=>none)
 |none=>none
theorem gdAt_e {e:VP tb}{t w G}(hi:GInv e)(h:gdAt e t w=some G):∃b G',G=(t,w,b)::G'/\GD e G:=by
 unfold gdAt at h
 split at h
 ·rename_i G' y hf
  split at h
  ·cases h
  ·rename_i g G'
   split at h
   ·rename_i b hb
    cases h
    exact⟨b,g::G',rfl,(hi _ _ _ hf).1,y,hb,.inr ⟨hf,by simp⟩⟩
   ·cases h
 ·rename_i y hne hf
  split at h
  ·rename_i b hb
   cases h
   exact⟨b,[],rfl,trivial,y,hb,.inl ⟨hf,rfl⟩⟩
  ·cases h
 ·cases h
def gdOp (L:SLS tb)(G:Gd)(w:Bool):Operand->Option Gd
 | .tmp t=>gdAt L.e t w
 |_=>some G
def conB:SV tb->Option Bool
 | .con (.bool t)=>some t
 |_=>none
theorem conB_e {x:SV tb}{t}(h:conB x=some t):x.av=bAV t:=by
 unfold conB at h
 split at h
 ·cases h;rfl
 ·cases h
def jdk (L:SLS tb)(G:Gd)(c y z:Operand)(k:SV tb->List Nat->Option ρ):Option ρ:=
 got (opd L G c) fun a=>got (KE a) fun t=>got (gdOp L G true c) fun G1=>got (gdOp L G false c) fun G2=>
 got (opd L G1 y) fun b=>got (KE b) fun s=>got (opd L G2 z) fun d=>got (KE d) fun r=>Let (cond t s r) fun t=>k (.bo t) []
theorem jjA {L:SLS tb}{G G1:Gd}{w c a t}(u:Gu L G)(ha:opd L G c=some a)(hb:KE a=some t)(h:gdOp L G w c=some G1)(ht:t=w):Gu L G1:=by
 unfold gdOp at h
 split at h
 ·rename_i s
  obtain⟨b,G',rfl,hg⟩:=gdAt_e u.inv h
  refine⟨u.inv,hg,?_⟩
  rw[jeC]
  simp only[gc0,Bool.and_eq_true,beq_iff_eq]
  obtain⟨h1,y,hy,h2⟩:=hg
  simp only[opd]at ha
  rcases h2 with ⟨h2,rfl⟩|⟨h2,h3⟩
  ·rw[h2]at ha
   have hyo:∀G x,y≠.opt G x:=by rintro G x rfl;cases hy
   split at ha
   ·rename_i heq;cases heq;exact absurd rfl (hyo _ _)
   ·rename_i heq;cases heq;cases ha
    rw[xS hy,hy]at hb;cases hb
    exact⟨rfl,ht⟩
   ·rename_i heq;cases heq
  ·rw[h2]at ha
   simp only at ha
   split at ha
   ·rename_i hs
    cases ha
    rw[xS hy,hy]at hb;cases hb
    refine⟨?_,ht⟩
    rw[<-jeC]
    exact jcE u.gd h1 hs u.on
   ·cases ha
 ·cases h;exact u
theorem ja5 {L:SLS tb}{G o c y z}{k:SV tb->List Nat->Option ρ}{r}(ho:o.op=.pick c y z)(h:jdk L G c y z k=some r):QOk P L G o k r:=by
 unfold jdk at h
 obtain⟨a,ha,h⟩:=jd h
 obtain⟨t,ht,h⟩:=jd h
 obtain⟨G1,hG1,h⟩:=jd h
 obtain⟨G2,hG2,h⟩:=jd h
 obtain⟨b,hb,h⟩:=jd h
 obtain⟨s,hs,h⟩:=jd h
 obtain⟨d,hd,h⟩:=jd h
 obtain⟨q,hq,h⟩:=jd h
 refine⟨_,[],h,fun u=>QEx.pick ho ?_ ?_ ?_⟩
 ·have:=Jl u ha;rwa [Ks ht]at this
 ·intro h1;have:=Jl (jjA u ha ht hG1 h1) hb;rwa [Ks hs]at this
 ·intro h1;have:=Jl (jjA u ha ht hG2 h1) hd;rwa [Ks hq]at this
def jjm (L:SLS tb)(t:Bool)(y z:Operand)(k:SV tb->List Nat->Option ρ):Option ρ:=match t with
 |true=>got (opd L [] y) fun b=>got (KE b) fun _=>k b []
 |false=>got (opd L [] z) fun b=>got (KE b) fun _=>k b []
def jkg (L:SLS tb)(G:Gd)(c y z:Operand)(k:SV tb->List Nat->Option ρ):Option ρ:=match G with
 | []=>(match (opd L [] c).bind conB with
   |some t=>jjm L t y z k
   |none=>jdk L [] c y z k)
 |_::_=>jdk L G c y z k
theorem jh2 {L:SLS tb}{G o c y z}{k:SV tb->List Nat->Option ρ}{r}(ho:o.op=.pick c y z)(h:jkg L G c y z k=some r):QOk P L G o k r:=by
 unfold jkg at h
 split at h
 ·split at h
  ·rename_i t ht
   obtain⟨a,ha,hb⟩:=Option.bind_eq_some_iff.1 ht
   have hc:=fun u=>Jl (L:=L) (G:=[]) u ha
   rw[conB_e hb]at hc
   unfold jjm at h
   split at h
   ·obtain⟨b,hb,h⟩:=jd h
    obtain⟨s,hs,h⟩:=jd h
    refine⟨_,[],h,fun u=>?_⟩
    have hy:=Jl u hb
    rw[Ks hs]at hy
    rw[Ks hs]
    exact QEx.pick (t:=true) (s:=s) (r:=s) ho (hc u) (fun _=>hy) (fun h=>by cases h)
   ·obtain⟨b,hb,h⟩:=jd h
    obtain⟨s,hs,h⟩:=jd h
    refine⟨_,[],h,fun u=>?_⟩
    have hy:=Jl u hb
    rw[Ks hs]at hy
    rw[Ks hs]
    exact QEx.pick (t:=false) (s:=s) (r:=s) ho (hc u) (fun h=>by cases h) (fun _=>hy)
  ·exact ja5 ho h
 ·exact ja5 ho h
def jh4 (L:SLS tb)(G:Gd)(y:Operand)(k:SV tb->List Nat->Option ρ):Option ρ:=got (opd L G y) fun a=>k a []
theorem jdm {L:SLS tb}{G o y}{k:SV tb->List Nat->Option ρ}{r}(ho:o.op=.move y\/o.op=.assign y)(h:jh4 L G y k=some r):QOk P L G o k r:=by
 unfold jh4 at h
 obtain⟨a,ha,h⟩:=jd h
 rcases ho with ho|ho
 ·exact⟨_,[],h,fun u=>QEx.move ho (Jl u ha)⟩
 ·exact⟨_,[],h,fun u=>QEx.assign ho (Jl u ha)⟩
theorem wK {l:List (SV tb)}{i:Nat}{x}(h:l[i]? = some x):(avL l)[i]? = some x.av:=by
 rw[xW,List.getElem?_map,h];rfl
def nth {α:Type}:List α->Nat->Option α
 | [],_=>none
 |x::_,0=>some x
 |_::l,n+1=>nth l n
theorem jep {α:Type}:∀(l:List α) (n:Nat),nth l n=l[n]?
 | [],_=>by simp[nth]
 |x::_,0=>rfl
 |_::l,n+1=>by simpa [nth]using jep l n
def qExt (L:SLS tb)(G:Gd)(y:Operand)(i:Nat)(k:SV tb->List Nat->Option ρ):Option ρ:=got (opd L G y) fun a=>match a with
 | .tup l=>got (nth l i) fun x=>k x []
 |_=>none
theorem jkp {L:SLS tb}{G o y i}{k:SV tb->List Nat->Option ρ}{r}(ho:o.op=.extract y i)(h:qExt L G y i k=some r):QOk P L G o k r:=by
 unfold qExt at h
 obtain⟨a,ha,h⟩:=jd h
 split at h
 ·obtain⟨x,hx,h⟩:=jd h
  rw[jep]at hx
  exact⟨_,[],h,fun u=>QEx.extract ho (Jl u ha) (wK hx)⟩
 ·cases h
end
end
end Go.Rx
end
