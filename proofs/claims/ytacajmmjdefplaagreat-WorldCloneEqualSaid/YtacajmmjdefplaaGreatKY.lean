/- Several texts in one. No conditions. -/
import Derived.Test.YtacajmmjdefplaaGreatF25T
import Derived.Test.YtacajmmjdefplaaGreatF25C
import Derived.Test.YtacajmmjdefplaaGreatQE
import Derived.Handy
import Derived.Orders
import Derived.BigQuiet
import Derived.Defers
import Derived.Deep.Cut
import Derived.Shelf.RegionOpenPlain
section
set_option linter.all false
set_option maxRecDepth 100000
open Go Go.Rx Go.Proofs Go.RowKit
namespace GoForm
def fixC (f:Fixture) (h:Value):List Value:=[.int .i64 f.Shape.Kind,.int .i64 f.Shape.Radius,h,.int .i64 f.Density,.int .i64 f.Friction,.int .i64 f.Restitution,.bool f.Sensor,.int .i64 f.Category,.int .i64 f.Mask,.int .i64 f.Group]
def fixA (f:Fixture):List AV:=[.v (.int .i64 f.Shape.Kind),.v (.int .i64 f.Shape.Radius),e_sl_Vec f.Shape.Vertices,.v (.int .i64 f.Density),.v (.int .i64 f.Friction),.v (.int .i64 f.Restitution),.v (.bool f.Sensor),.v (.int .i64 f.Category),.v (.int .i64 f.Mask),.v (.int .i64 f.Group)]
def bodC (b:Body) (h:Value):List Value:=[.int .i64 b.ID,.int .i64 b.Kind,.int .i64 b.Transform.Position.X,.int .i64 b.Transform.Position.Y,.int .i64 b.Transform.Angle,.int .i64 b.Velocity.X,.int .i64 b.Velocity.Y,.int .i64 b.AngularVelocity,.int .i64 b.Force.X,.int .i64 b.Force.Y,.int .i64 b.Torque,.int .i64 b.LinearDamping,.int .i64 b.AngularDamping,.int .i64 b.GravityScale,.bool b.Bullet,.bool b.FixedRotation,.bool b.NoSleep,.bool b.Asleep,.int .i64 b.IdleSteps,h]
def bodA (b:Body):List AV:=[.v (.int .i64 b.ID),.v (.int .i64 b.Kind),.v (.int .i64 b.Transform.Position.X),.v (.int .i64 b.Transform.Position.Y),.v (.int .i64 b.Transform.Angle),.v (.int .i64 b.Velocity.X),.v (.int .i64 b.Velocity.Y),.v (.int .i64 b.AngularVelocity),.v (.int .i64 b.Force.X),.v (.int .i64 b.Force.Y),.v (.int .i64 b.Torque),.v (.int .i64 b.LinearDamping),.v (.int .i64 b.AngularDamping),.v (.int .i64 b.GravityScale),.v (.bool b.Bullet),.v (.bool b.FixedRotation),.v (.bool b.NoSleep),.v (.bool b.Asleep),.v (.int .i64 b.IdleSteps),e_sl_Fixture b.Fixtures]
theorem e_Body_eq (b:Body):e_Body b=.agg (bodA b):=rfl
theorem e_slV (l:List Vec):e_sl_Vec l=.sl false 2 (l.map e_Vec):=rfl
theorem e_slF (l:List Fixture):e_sl_Fixture l=.sl false 10 (l.map e_Fixture):=rfl
def vecC (x:Vec):List Value:=[.int .i64 x.X,.int .i64 x.Y]
theorem e_Vec_eq (x:Vec):e_Vec x=.agg ((vecC x).map AV.v):=rfl
def vecsC (l:List Vec):List Value:=l.flatMap vecC
theorem vecsC_len (l:List Vec):(vecsC l).length=l.length*2:=by
  induction l with
  | nil=>rfl
  | cons x l ih=>show (vecC x++vecsC l).length=_;rw [List.length_append,ih,List.length_cons];show 2+_=_;omega
theorem cells_V (l:List Vec):(l.map e_Vec).flatMap AV.cells=(vecsC l).map AV.v:=by
  induction l with
  | nil=>rfl
  | cons x l ih=>
    show AV.cells (e_Vec x)++(l.map e_Vec).flatMap AV.cells=_
    rw [ih,e_Vec_eq]
    show _=((vecC x)++vecsC l).map AV.v
    rw [List.map_append];rfl
theorem vecsC_one (l:List Vec):∀ v∈vecsC l,oneCell v=true:=by
  intro v hv
  obtain ⟨x,-,hx⟩:=List.mem_flatMap.1 hv
  simp [vecC] at hx
  rcases hx with rfl | rfl <;> rfl
theorem repsV {m:Mem} {bl:Names}:∀ l:List Value,Reps m bl (l.map AV.v) l
  | []=>.nil
  | a::l=>.cons .v (repsV l)
theorem repsV_eq {m:Mem} {bl:Names}:∀ {l vs:List Value},Reps m bl (l.map AV.v) vs→vs=l
  | [],_,.nil=>rfl
  | a::l,_,.cons h t=>by rw [Rep.eq_v h,repsV_eq t]
theorem _root_.Go.Rx.Reps.inv {m bl x l vs} (h:Reps m bl (x::l) vs):∃ v t,vs=v::t∧Rep m bl x v∧Reps m bl l t:=by
  cases h with
  | cons a b=>exact ⟨_,_,rfl,a,b⟩
theorem _root_.Go.Rx.Reps.inv0 {m bl vs} (h:Reps m bl [] vs):vs=[]:=by cases h;rfl
theorem _root_.Go.Rx.Reps.invV {m bl x l vs} (h:Reps m bl (.v x::l) vs):∃ t,vs=x::t∧Reps m bl l t:=by
  obtain ⟨v,t,rfl,a,b⟩:=h.inv
  exact ⟨t,by rw [Rep.eq_v a],b⟩
theorem fixA_inv {m bl f vs} (h:Reps m bl (fixA f) vs):∃ x,vs=fixC f x∧Rep m bl (e_sl_Vec f.Shape.Vertices) x:=by
  unfold fixA at h
  obtain ⟨t1,rfl,h1⟩:=h.invV
  obtain ⟨t2,rfl,h2⟩:=h1.invV
  obtain ⟨x,t3,rfl,hx,h3⟩:=h2.inv
  obtain ⟨t4,rfl,h4⟩:=h3.invV
  obtain ⟨t5,rfl,h5⟩:=h4.invV
  obtain ⟨t6,rfl,h6⟩:=h5.invV
  obtain ⟨t7,rfl,h7⟩:=h6.invV
  obtain ⟨t8,rfl,h8⟩:=h7.invV
  obtain ⟨t9,rfl,h9⟩:=h8.invV
  obtain ⟨t10,rfl,h10⟩:=h9.invV
  obtain rfl:=h10.inv0
  exact ⟨x,rfl,hx⟩
theorem fixA_mk {m bl f x} (h:Rep m bl (e_sl_Vec f.Shape.Vertices) x):Reps m bl (fixA f) (fixC f x):=
  .cons .v (.cons .v (.cons h (.cons .v (.cons .v (.cons .v (.cons .v (.cons .v (.cons .v (.cons .v .nil)))))))))
theorem bodA_inv {m bl b vs} (h:Reps m bl (bodA b) vs):∃ x,vs=bodC b x∧Rep m bl (e_sl_Fixture b.Fixtures) x:=by
  unfold bodA at h
  obtain ⟨_,rfl,h1⟩:=h.invV
  obtain ⟨_,rfl,h2⟩:=h1.invV
  obtain ⟨_,rfl,h3⟩:=h2.invV
  obtain ⟨_,rfl,h4⟩:=h3.invV
  obtain ⟨_,rfl,h5⟩:=h4.invV
  obtain ⟨_,rfl,h6⟩:=h5.invV
  obtain ⟨_,rfl,h7⟩:=h6.invV
  obtain ⟨_,rfl,h8⟩:=h7.invV
  obtain ⟨_,rfl,h9⟩:=h8.invV
  obtain ⟨_,rfl,h10⟩:=h9.invV
  obtain ⟨_,rfl,h11⟩:=h10.invV
  obtain ⟨_,rfl,h12⟩:=h11.invV
  obtain ⟨_,rfl,h13⟩:=h12.invV
  obtain ⟨_,rfl,h14⟩:=h13.invV
  obtain ⟨_,rfl,h15⟩:=h14.invV
  obtain ⟨_,rfl,h16⟩:=h15.invV
  obtain ⟨_,rfl,h17⟩:=h16.invV
  obtain ⟨_,rfl,h18⟩:=h17.invV
  obtain ⟨_,rfl,h19⟩:=h18.invV
  obtain ⟨x,_,rfl,hx,h20⟩:=h19.inv
  obtain rfl:=h20.inv0
  exact ⟨x,rfl,hx⟩
theorem bodA_mk {m bl b x} (h:Rep m bl (e_sl_Fixture b.Fixtures) x):Reps m bl (bodA b) (bodC b x):=
  .cons .v (.cons .v (.cons .v (.cons .v (.cons .v (.cons .v (.cons .v (.cons .v (.cons .v (.cons .v (.cons .v (.cons .v (.cons .v (.cons .v (.cons .v (.cons .v (.cons .v (.cons .v (.cons .v (.cons h .nil)))))))))))))))))))
theorem rep_agg {m bl l v} (h:Rep m bl (.agg l) v):∃ cs,v=.agg cs.toArray∧Reps m bl l cs∧∀ c∈cs,oneCell c=true:=by
  cases h with
  | agg a b=>exact ⟨_,rfl,a,b⟩
theorem repBody {m b v} (h:Rep m noNames (e_Body b) v):∃ x,v=.agg (bodC b x).toArray∧Rep m noNames (e_sl_Fixture b.Fixtures) x∧oneCell x=true:=by
  rw [e_Body_eq] at h
  obtain ⟨cs,rfl,h1,h2⟩:=rep_agg h
  obtain ⟨x,rfl,hx⟩:=bodA_inv h1
  exact ⟨x,rfl,hx,h2 x (by simp [bodC])⟩
theorem one_slice {m bl c sz l x} (h:Rep m bl (.sl c sz l) x):oneCell x=true:=by
  cases h <;> rfl
theorem mkBody {m b x} (h:Rep m noNames (e_sl_Fixture b.Fixtures) x):Rep m noNames (e_Body b) (.agg (bodC b x).toArray):=by
  rw [e_Body_eq]
  refine .agg (bodA_mk h) ?_
  intro c hc
  have hx:oneCell x=true:=by rw [e_slF] at h;exact one_slice h
  simp [bodC] at hc
  rcases hc with rfl | rfl | rfl | rfl | rfl | rfl | rfl | rfl | rfl | rfl | rfl | rfl | rfl | rfl | rfl | rfl | rfl | rfl | rfl | rfl <;> first | rfl | exact hx
theorem fixC_one {f x} (hx:oneCell x=true):∀ c∈fixC f x,oneCell c=true:=by
  intro c hc
  simp [fixC] at hc
  rcases hc with rfl | rfl | rfl | rfl | rfl | rfl | rfl | rfl | rfl | rfl <;> first | rfl | exact hx
def fixsC:List Fixture→List Value→List Value
  | f::fs,h::hs=>fixC f h++fixsC fs hs
  | _,_=>[]
theorem fixsC_len:∀ (fs:List Fixture) (hs:List Value),fs.length=hs.length→(fixsC fs hs).length=fs.length*10
  | [],[],_=>rfl
  | f::fs,h::hs,e=>by
    show (fixC f h++fixsC fs hs).length=_
    rw [List.length_append,fixsC_len fs hs (by simpa using e),List.length_cons]
    show 10+_=_;omega
theorem fixsC_get:∀ (fs:List Fixture) (hs:List Value) (k j:Nat) (f:Fixture) (h:Value),fs[k]? = some f→hs[k]? = some h→j<10→(fixsC fs hs)[k*10+j]? = (fixC f h)[j]?
  | [],_,k,j,f,h,e,_,_=>by simp at e
  | _::_,[],k,j,f,h,_,e,_=>by simp at e
  | f0::fs,h0::hs,0,j,f,h,e1,e2,hj=>by
    simp at e1 e2;subst e1;subst e2
    show (fixC f0 h0++fixsC fs hs)[0*10+j]? = _
    rw [Nat.zero_mul,Nat.zero_add,List.getElem?_append_left (by exact hj)]
  | f0::fs,h0::hs,k+1,j,f,h,e1,e2,hj=>by
    show (fixC f0 h0++fixsC fs hs)[(k+1)*10+j]? = _
    have hl:(fixC f0 h0).length=10:=rfl
    rw [List.getElem?_append_right (by rw [hl];omega),hl,show (k+1)*10+j - 10=k*10+j by omega]
    exact fixsC_get fs hs k j f h (by simpa using e1) (by simpa using e2) hj
theorem fixsC_snoc:∀ (fs:List Fixture) (hs:List Value) (f:Fixture) (h:Value),fs.length=hs.length→fixsC (fs++[f]) (hs++[h])=fixsC fs hs++fixC f h
  | [],[],f,h,_=>by simp [fixsC]
  | f0::fs,h0::hs,f,h,e=>by
    show fixC f0 h0++fixsC (fs++[f]) (hs++[h])=(fixC f0 h0++fixsC fs hs)++fixC f h
    rw [fixsC_snoc fs hs f h (by simpa using e),List.append_assoc]
theorem fixs_inv {m bl}:∀ (fs:List Fixture) (cs:List Value),Reps m bl ((fs.map e_Fixture).flatMap AV.cells) cs→∃ hs,cs=fixsC fs hs∧fs.length=hs.length∧∀ (k:Nat) (f:Fixture) (x:Value),fs[k]? = some f→hs[k]? = some x→Rep m bl (e_sl_Vec f.Shape.Vertices) x
  | [],cs,h=>⟨[],by have:=h.inv0;simpa [fixsC] using this,rfl,by intro k f x e;simp at e⟩
  | f :: fs,cs,h=>by
    have h:Reps m bl (fixA f++(fs.map e_Fixture).flatMap AV.cells) cs:=h
    have a:=h.take 10
    have b:=h.drop 10
    have e1:(fixA f++(fs.map e_Fixture).flatMap AV.cells).take 10=fixA f:=by
      rw [List.take_append_of_le_length (by exact Nat.le_refl _)];rfl
    have e2:(fixA f++(fs.map e_Fixture).flatMap AV.cells).drop 10=(fs.map e_Fixture).flatMap AV.cells:=by
      rw [List.drop_append_of_le_length (by exact Nat.le_refl _)];rfl
    rw [e1] at a
    rw [e2] at b
    obtain ⟨x,hx,hr⟩:=fixA_inv a
    obtain ⟨hs,hy,hl,hk⟩:=fixs_inv fs _ b
    refine ⟨x::hs,?_,by simp [hl],?_⟩
    · rw [← List.take_append_drop 10 cs,hx,hy];rfl
    · intro k g y e1 e2
      cases k with
      | zero=>simp at e1 e2;subst e1;subst e2;exact hr
      | succ k=>exact hk k g y (by simpa using e1) (by simpa using e2)
theorem fixs_mk {m bl}:∀ (fs:List Fixture) (hs:List Value),fs.length=hs.length→(∀ (k:Nat) (f:Fixture) (x:Value),fs[k]? = some f→hs[k]? = some x→Rep m bl (e_sl_Vec f.Shape.Vertices) x)→Reps m bl ((fs.map e_Fixture).flatMap AV.cells) (fixsC fs hs)
  | [],[],_,_=>.nil
  | f::fs,x::hs,e,h=>by
    show Reps m bl (fixA f++(fs.map e_Fixture).flatMap AV.cells) (fixC f x++fixsC fs hs)
    exact (fixA_mk (h 0 f x rfl rfl)).append (fixs_mk fs hs (by simpa using e) fun k g y e1 e2=>h (k+1) g y (by simpa using e1) (by simpa using e2))
theorem repFixs {m fs v} (h:Rep m noNames (e_sl_Fixture fs) v):∃ ad cap,v=.slice ad fs.length cap∧(0<fs.length→∃ blk off hs,ad=some ⟨blk,off,none⟩∧fs.length=hs.length∧(∀ j x,(fixsC fs hs)[j]? = some x→m blk (off+j)=some x)∧(∀ c∈fixsC fs hs,oneCell c=true)∧∀ (k:Nat) (f:Fixture) (x:Value),fs[k]? = some f→hs[k]? = some x→Rep m noNames (e_sl_Vec f.Shape.Vertices) x):=by
  rw [e_slF] at h
  generalize hl:fs.map e_Fixture=l at h
  cases h with
  | slnil=>
    have:fs=[]:=by simpa using hl
    subst this
    exact ⟨none,0,rfl,fun h=>absurd h (by simp)⟩
  | @sl _ _ _ _ a cap cs h1 h2 h3 h4 h5 h6 h7=>
    have hn:l.length=fs.length:=by rw [← hl];simp
    rw [hn]
    refine ⟨some a,cap,rfl,fun hp=>?_⟩
    rw [← hl] at h2
    obtain ⟨hs,rfl,e,hk⟩:=fixs_inv fs cs h2
    refine ⟨a.block,a.off,hs,?_,e,h5,h3,hk⟩
    have:=h4 (by rw [fixsC_len _ _ e];omega)
    cases a
    simp at this
    rw [this]
end GoForm
end

section
set_option linter.all false
set_option maxRecDepth 100000
open Go Go.Rx Go.Proofs Go.RowKit
namespace GoForm
def VOw (B:Nat) (w:World) (h:Value) (n:Nat) (xs:List Value):Prop:=
  (n=0∧xs=[]∧∃ ad cap,h=.slice ad 0 cap∧(ad=none→cap=0))∨∃ g cap cur T,h=.slice (some ⟨g,0,none⟩) n cap∧B≤g∧g<w.heap.size∧w.heap[g]? = some (.cells cur T (0,0))∧n≤cap∧xs.length≤cur.size∧cur.toList.take xs.length=xs
theorem heap_at (w:World) (o:Obj) (b:Nat) (h:b=w.heap.size):(w.alloc o).heap[b]? = some o:=by subst h;show (w.heap.push o)[w.heap.size]? = _;simp
theorem heap_past (w:World) (o:Obj) (b:Nat) (h:b<w.heap.size):(w.alloc o).heap[b]? = w.heap[b]? := by show (w.heap.push o)[b]? = _;rw [Array.getElem?_push_lt h];simp [h]
theorem box_cell {w:World} {b:Nat} {cs:Array Value} {T:TypeId} (h:w.heap[b]? = some (.cells cs T (0,0))) (j:Nat) {v:Value} (e:cs[j]? = some v):w.cell? ⟨b,j,none⟩=some v:=by rw [cell_of_blk h];exact e
theorem box_free {w:World} {b:Nat} {cs:Array Value} {T:TypeId} (h:w.heap[b]? = some (.cells cs T (0,0))) (j:Nat):w.frozen? ⟨b,j,none⟩=false:=by unfold World.frozen?;rw [h];simp
theorem VOw.mono {B B' w h n xs} (v:VOw B w h n xs) (hb:B'≤B):VOw B' w h n xs:=by
  rcases v with v | ⟨g,cap,cur,T,h1,h2,h3⟩
  · exact .inl v
  · exact .inr ⟨g,cap,cur,T,h1,Nat.le_trans hb h2,h3⟩
theorem heap_set (w:World) (a:Addr) (x:Value) (b:Nat) (h:b≠a.block):(w.setCell a x).heap[b]? = w.heap[b]? := Go.RowKit.Below.heap_setCell _ _ _ _ h
theorem size_set (w:World) (a:Addr) (x:Value):(w.setCell a x).heap.size=w.heap.size:=by simp [World.setCell]
theorem VOw.set {B w h n xs} (v:VOw B w h n xs) (a:Addr) (x:Value) (ha:a.block<B):VOw B (w.setCell a x) h n xs:=by
  rcases v with v | ⟨g,cap,cur,T,h1,h2,h3,h4,h5⟩
  · exact .inl v
  · exact .inr ⟨g,cap,cur,T,h1,h2,by rw [size_set];exact h3,by rw [heap_set _ _ _ _ (by omega)];exact h4,h5⟩
theorem heap_own {w:World} {b:Nat} {cs:Array Value} {T:TypeId} {fr} (h:w.heap[b]? = some (.cells cs T fr)) (j:Nat) (v:Value) (cs':Array Value) (e:cs.setIfInBounds j v=cs'):(w.setCell ⟨b,j,none⟩ v).heap[b]? = some (.cells cs' T fr):=by
  subst e
  unfold World.setCell
  simp [Array.getElem?_modify,h]
theorem results_box {P:Program} {fn:Func} {t:Tmp} {ty:TypeId} {b:Nat} {cs:List Value} {T:TypeId} {w:World} {tmps:Array Value} (h:fn.results=#[.cell t ty]) (ht:tmps.getD t undef=.pointer (some ⟨b,0,none⟩)) (ha:tAg P ty=some true) (hs:tSz P ty=some cs.length) (hb:w.heap[b]? = some (.cells cs.toArray T (0,0))):
    (results fn tmps).run P w=.ok (.agg cs.toArray) w:=by
  have:=run_loadVar_agg (P:=P) (ty:=ty) (w:=w) (b:=b) (o:=0) (cs:=cs) ha hs (fun j v e=>by rw [Nat.zero_add];exact box_cell hb j (by simpa using e))
  have ht:tmps[t]?.getD undef=.pointer (some ⟨b,0,none⟩):=by simpa using ht
  simp [results,h,ht,this,asAddr]
theorem cloneV_some (l:List Vec) (h:l.length≤1099511627776):slices_Clone_128 l=some l:=by
  unfold slices_Clone_128
  rw [Alike_of (by intro h;subst h;rfl),Chk_of (by omega)]
theorem elC_V (l:List Vec):elC tb Ix.tVec l=(vecsC l).map AV.v:=by
  induction l with
  | nil=>rfl
  | cons x l ih=>
    show AV.cells (e_Vec x)++elC tb Ix.tVec l=_
    rw [ih,e_Vec_eq]
    show _=((vecC x)++vecsC l).map AV.v
    rw [List.map_append];rfl
theorem vec_fresh (l:List Vec) (h40:l.length≤1099511627776) (m:Mem) (v:Value) (w:World) (hi:Imm m w) (hr:Rep m noNames (e_sl_Vec l) v):
    Calls Tryz.prog 128 #[v] w fun e w'=>∃ h,e=.returned h∧Below w.heap.size w w'∧VOw w.heap.size w' h l.length (vecsC l):=by
  have hcl:=c_128.ok (l,()) [e_sl_Vec l] l ⟨rfl,trivial⟩ (cloneV_some l h40)
  have hcl:FnR Tryz.prog 128 [e_sl_Vec l] (.rw 0 2) [(0,.cells (elC tb Ix.tVec l))]:=hcl
  refine (hcl w m [v] trivial hi (.cons hr .nil)).mono ?_
  rintro e w1 ⟨v1,m',bl',rfl,hb,hws,-,hrep⟩
  refine ⟨v1,rfl,hb,?_⟩
  generalize hz:AV.rw 0 2=z at hrep
  cases hrep <;> cases hz
  case rwnil ad hnil=>
    have hl:l=[]:=by
      rcases hws.blk 0 _ (by rw [find_cons,if_pos rfl]) with ⟨-,h⟩ | ⟨b,n,arr,T,pre,rest,h,-⟩
      · have:=congrArg List.length h
        rw [elC_V,List.length_map,vecsC_len] at this
        exact List.length_eq_zero_iff.1 (by have e0:([]:List AV).length=0:=rfl;omega)
      · rw [hnil] at h;cases h
    subst hl
    exact .inl ⟨rfl,rfl,ad,0,rfl,fun _=>rfl⟩
  case rw b n cap len hcap hbl hlen hsz=>
    rcases hws.blk 0 _ (by rw [find_cons,if_pos rfl]) with ⟨h,-⟩ | ⟨b',n',arr,T,pre,rest,h1,h2,h3,h4,h5,h6⟩
    · rw [hbl] at h;cases h
    rw [hbl] at h1
    cases h1
    rw [elC_V] at h5
    obtain rfl:=repsV_eq h5
    have h31:arr.size=n.1:=congrArg Prod.fst h3
    have h32:(vecsC l).length=n.2:=congrArg Prod.snd h3
    obtain rfl:len=l.length:=by rw [← h32,vecsC_len] at hlen;omega
    obtain ⟨o1,o2,o3⟩:=hws.own 0 b n hbl
    have hle:(vecsC l).length≤arr.size:=by
      have:=congrArg List.length h4
      rw [List.length_append] at this
      have e:arr.toList.length=arr.size:=by simp
      omega
    exact .inr ⟨b,cap,arr,T,rfl,o1,o2,h2,hcap,hle,by rw [h4,List.take_left'];rfl⟩
set_option maxHeartbeats 4000000 in
theorem shape_fresh (l:List Vec) (h40:l.length≤1099511627776) (m:Mem) (x0 x1:Int) (f2:Value) (w:World) (hi:Imm m w) (hr:Rep m noNames (e_sl_Vec l) f2):
    Calls Tryz.prog 102 #[.agg #[(.int .i64 x0),(.int .i64 x1),f2]] w fun e w'=>∃ h,e=.returned (.agg #[(.int .i64 x0),(.int .i64 x1),h])∧Below w.heap.size w w'∧VOw w.heap.size w' h l.length (vecsC l):=by
  have e128:=Tryz.call128
  have o2:f2.oneCell'=true:=by rw [e_slV] at hr;exact one_slice hr
  go_enter Tryz.func102,Tryz.ntmps102
  have key:∀ w2:World,w2=(w.alloc (.cells #[(.int .i64 x0),(.int .i64 x1),f2] 101)).alloc (.cells #[.int .i64 0,.int .i64 0,.slice none 0 0] 101)→Calls Tryz.prog 128 #[f2] w2 fun e w'=>∃ ad n cap,e=.returned (.slice ad n cap)∧Below w.heap.size w w'∧w'.heap[w.heap.size]? = some (.cells #[(.int .i64 x0),(.int .i64 x1),f2] 101 (0,0))∧w'.heap[w.heap.size+1]? = some (.cells #[.int .i64 0,.int .i64 0,.slice none 0 0] 101 (0,0))∧VOw (w.heap.size+2) w' (.slice ad n cap) l.length (vecsC l):=by
    rintro w2 hw2
    have hb2:Below w.heap.size w w2:=by rw [hw2];exact ((Below.refl _ _).alloc (Nat.le_refl _) _).alloc (by simp) _
    have hs2:w2.heap.size=w.heap.size+2:=by rw [hw2];simp
    refine (vec_fresh l h40 m f2 w2 (hi.below hb2) hr).mono ?_
    rintro e w1 ⟨h,rfl,hb,hv⟩
    rw [hs2] at hv
    have q1:w1.heap[w.heap.size]? = w2.heap[w.heap.size]? := hb.block _ (by omega)
    have q2:w1.heap[w.heap.size+1]? = w2.heap[w.heap.size+1]? := hb.block _ (by omega)
    obtain ⟨ad,n,cap,rfl⟩:∃ ad n cap,h=.slice ad n cap:=by
      rcases hv with ⟨-,-,ad,cap,rfl,-⟩ | ⟨g,cap,cur,T,rfl,-⟩ <;> exact ⟨_,_,_,rfl⟩
    refine ⟨ad,n,cap,rfl,hb2.trans (hb.mono (by omega)),?_,?_,hv⟩
    · rw [q1,hw2,heap_past _ _ _ (by simp),heap_at _ _ _ rfl]
    · rw [q2,hw2,heap_at _ _ _ (by simp)]
  go_wp2_with (go_at_call 128;refine (key _ rfl).mono ?_;rintro _ w1 ⟨ad,n,cap,rfl,hb,b1,b2,hv⟩;have g0:=box_cell b1 0 rfl;have g1:=box_cell b1 1 rfl;have g2:=box_cell b1 2 rfl;have z2:=box_free b1 2;have y0:=box_cell b2 0 rfl;have y1:=box_cell b2 1 rfl;have y2:=box_cell b2 2 rfl;have u0:=box_free b2 0;have u1:=box_free b2 1;have u2:=box_free b2 2)
  have s0:=(heap_set w1 ⟨w.heap.size,2,none⟩ (.slice ad n cap) (w.heap.size+1) (by simp)).trans b2
  have s1:=heap_own s0 0 (.int .i64 x0) #[.int .i64 x0,.int .i64 0,.slice none 0 0] rfl
  have s2:=heap_own s1 1 (.int .i64 x1) #[.int .i64 x0,.int .i64 x1,.slice none 0 0] rfl
  have s3:=heap_own s2 2 (.slice ad n cap) [.int .i64 x0,.int .i64 x1,.slice ad n cap].toArray rfl
  have r0:Tryz.f102.results=#[.cell 2 101]:=rfl
  have ra:tAg Tryz.prog 101=some true:=by kernel_rfl
  have rz:tSz Tryz.prog 101=some 3:=by kernel_rfl
  have hbf:=(((hb.setCell (p:=⟨w.heap.size,2,none⟩) (by simp) (.slice ad n cap)).setCell (p:=⟨w.heap.size+1,0,none⟩) (by simp) (.int .i64 x0)).setCell (p:=⟨w.heap.size+1,1,none⟩) (by simp) (.int .i64 x1)).setCell (p:=⟨w.heap.size+1,2,none⟩) (by simp) (.slice ad n cap)
  have hvf:=((((hv.set ⟨w.heap.size,2,none⟩ (.slice ad n cap) (by simp)).set ⟨w.heap.size+1,0,none⟩ (.int .i64 x0) (by simp)).set ⟨w.heap.size+1,1,none⟩ (.int .i64 x1) (by simp)).set ⟨w.heap.size+1,2,none⟩ (.slice ad n cap) (by simp)).mono (show w.heap.size≤w.heap.size+2 by omega)
  generalize ((((w1.setCell ⟨w.heap.size,2,none⟩ (.slice ad n cap)).setCell ⟨w.heap.size+1,0,none⟩ (.int .i64 x0)).setCell ⟨w.heap.size+1,1,none⟩ (.int .i64 x1)).setCell ⟨w.heap.size+1,2,none⟩ (.slice ad n cap))=wf at s3 hbf hvf ⊢
  refine bodyPost_ret (results_box (cs:=[.int .i64 x0,.int .i64 x1,.slice ad n cap]) r0 rfl ra rz s3) rfl ?_
  exact ⟨_,rfl,hbf,hvf⟩
end GoForm
end

section
set_option linter.all false
set_option maxRecDepth 100000
open Go Go.Rx Go.Proofs Go.RowKit
namespace GoForm
def Off (h:Value) (n:Nat) (row:Option Nat):Prop:=n=0∨∀ g cap,h=.slice (some ⟨g,0,none⟩) n cap→some g≠row
structure FOw (B:Nat) (w:World) (fs:List Fixture) (hF:Value) (hs:List Value):Prop where
  row:w.ownsRow B 103 10 hF fs.length (fixsC fs hs)
  len:fs.length=hs.length
  vs:∀ (k:Nat) (f:Fixture) (h:Value),fs[k]? = some f→hs[k]? = some h→VOw B w h f.Shape.Vertices.length (vecsC f.Shape.Vertices)∧Off h f.Shape.Vertices.length hF.ownBlock∧h.oneCell'=true
theorem VOw.kept {B w h n xs w' row} (v:VOw B w h n xs) (hx:n=0→xs=[]) (ho:Off h n row) (hg:w.grownBy w' row):VOw B w' h n xs:=by
  by_cases h0:n=0
  · subst h0
    obtain ⟨ad,cap,e,e'⟩:∃ ad cap,h=.slice ad 0 cap∧(ad=none→cap=0):=by
      rcases v with ⟨-,-,ad,cap,e⟩ | ⟨g,cap,cur,T,e,-⟩
      · exact ⟨_,_,e⟩
      · exact ⟨_,_,e,fun h=>by cases h⟩
    exact .inl ⟨rfl,hx rfl,ad,cap,e,e'⟩
  · rcases v with ⟨e,-⟩ | ⟨g,cap,cur,T,h1,h2,h3,h4,h5⟩
    · exact absurd e h0
    · have hne:some g≠row:=by
        rcases ho with e | e
        · exact absurd e h0
        · exact e g cap h1
      exact .inr ⟨g,cap,cur,T,h1,h2,Nat.lt_of_lt_of_le h3 hg.size,(hg.block g h3 hne).trans h4,h5⟩
theorem below_grown {w w':World} (h:Below w.heap.size w w'):w.grownBy w' none:=⟨h.os,h.tape,h.output,h.size,fun k hk _=>h.block k hk⟩
theorem VOw.below {B w h n xs w'} (v:VOw B w h n xs) (hb:Below w.heap.size w w'):VOw B w' h n xs:=by
  rcases v with v | ⟨g,cap,cur,T,h1,h2,h3,h4,h5⟩
  · exact .inl v
  · exact .inr ⟨g,cap,cur,T,h1,h2,Nat.lt_of_lt_of_le h3 hb.size,(hb.block g h3).trans h4,h5⟩
theorem vecsC_nil {l:List Vec} (h:l.length=0):vecsC l=[]:=by
  have:l=[]:=List.length_eq_zero_iff.1 h
  subst this;rfl
theorem FOw.below {B w fs hF hs w'} (h:FOw B w fs hF hs) (hb:Below w.heap.size w w'):FOw B w' fs hF hs:=
  ⟨h.row.kept (below_grown hb) (by cases hF.ownBlock <;> simp),h.len,fun k f x e1 e2=>⟨(h.vs k f x e1 e2).1.below hb,(h.vs k f x e1 e2).2⟩⟩
section
variable {P:Program} {w:World}
theorem append_block (base:Nat) (t ty e:TypeId) (i:TypeInfo) (z:Value) (size bytes:Nat) (ht:P.underlying t=some (.slice e)) (hi:P.info? e=some i) (hz:i.zero=some z)
    (hsize:i.size=size) (hby:i.bytes=bytes)
    (v:Value) (n:Nat) (xs:List Value) (hown:w.ownsRow base e size v n xs)
    (a:Addr) (m c:Nat) (news:List Value) (hl:news.length=m*size) (hnews:∀ j u,news[j]? = some u→w.cell? (a.add j)=some u) (h1:∀ u∈news,u.oneCell'=true)
    (h63:n+m≤maxLen) (hbytes:(n+m)*bytes≤140737488355328) (hm:0<m) (v':Value) (w':World)
    (hr:(Builtin.append_ #[t,t] ty #[v,.slice (some a) m c]).run P w=.ok v' w'):v'.ownBlock=v.ownBlock∨v'.ownBlock=some w.heap.size:=by
  subst hsize
  subst hby
  simp only [maxLen] at h63
  rcases hown.2 with ⟨rfl,rfl⟩ | ⟨g,cap,cur,rfl,hbg,hg,hnc,hcm,hcs,htake⟩
  · have h:=run_append_nil (P:=P) w t ty e i z ht hi hz a m c news hl hnews hm (by omega) (by have hb:=hbytes;simp only [Nat.zero_add] at hb;omega)
    rw [hr] at h
    cases h
    exact .inr rfl
  · by_cases hroom:n+m≤cap
    · have hfit:n*i.size+news.length≤cur.size:=by rw [hl,hcs,← Nat.add_mul];exact Nat.mul_le_mul_right _ hroom
      have h:=run_append_room (P:=P) w t ty e i ht hi g n cap cur hg a m c news hl hnews h1 hroom hfit
      rw [hr] at h
      cases h
      exact .inl rfl
    · have holds:∀ j u,xs[j]? = some u→w.cell? ((⟨g,0,none⟩:Addr).add j)=some u:=hown.cells (g:=g) rfl
      have h:=run_append_grow (P:=P) w t ty e i z ht hi hz ⟨g,0,none⟩ n cap xs hown.1 holds a m c news hl hnews (by omega) (by omega) (growslice_fits (by omega) hbytes)
      rw [hr] at h
      cases h
      exact .inr rfl
theorem wpList_append_two {ops:Array Oper} {rest:List Oper} {o:Oper} {a:Act} {Q:Exit→Act→World→Prop} (hgd:o.guard=none) (s x:Operand) (t:TypeId)
    (ho:o.op=.call { callee:=.builtin .append,args:=#[s,x],argTypes:=#[t,t] })
    (base:Nat) (e:TypeId) (i:TypeInfo) (z:Value) (size bytes:Nat) (ht:P.underlying t=some (.slice e)) (hi:P.info? e=some i) (hz:i.zero=some z)
    (hsize:i.size=size) (hby:i.bytes=bytes) (hzs:z.cells.size=size) (hsz:0<size)
    (v:Value) (n:Nat) (xs:List Value) (hs:a.eval s=v) (hown:w.ownsRow base e size v n xs)
    (ad:Addr) (m c:Nat) (news:List Value) (hx:a.eval x=.slice (some ad) m c) (hl:news.length=m*size) (hnews:∀ j u,news[j]? = some u→w.cell? (ad.add j)=some u) (h1:∀ u∈news,u.oneCell'=true)
    (h63:n+m≤maxLen) (hbytes:(n+m)*bytes≤140737488355328) (hbase:base≤w.heap.size) (hm:0<m)
    (h:∀ v' w',w'.ownsRow base e size v' (n+m) (xs++news)→w.grownBy w' v.ownBlock→(v'.ownBlock=v.ownBlock∨v'.ownBlock=some w.heap.size)→wpList P ops Q rest (a.put o.dst v') w'):wpList P ops Q (o::rest) a w:=
  wpList_plain hgd fun K hK=>by
    obtain ⟨v',w',hr,h2,h3,-⟩:=run_append_own (P:=P) w base t o.type e i z size bytes ht hi hz hsize hby hzs hsz v n xs hown ad m c news hl hnews h1 h63 hbytes hbase
    have hb:=append_block (P:=P) (w:=w) base t o.type e i z size bytes ht hi hz hsize hby v n xs hown ad m c news hl hnews h1 h63 hbytes hm v' w' hr
    unfold Oper.wp execOp
    simp only [ho,resolve,invoke,builtin,Sem.run_bind,Sem.run_pure,Result.andThen_ok,List.map_toArray,List.map_cons,List.map_nil,hs,hx,hr]
    exact hK _ _ (h v' w' h2 h3 hb)
end
structure LInv (w:World) (b:Body) (hdr:Value) (i:Nat) (hs:List Value) (hF:Value) (wr:World):Prop where
  below:Below w.heap.size w wr
  box1:wr.heap[w.heap.size]? = some (.cells (bodC b hdr).toArray 53 (0,0))
  box2:wr.heap[w.heap.size+1]? = some (.cells #[.int .i64 0,.int .i64 0,.int .i64 0,.int .i64 0,.int .i64 0,.int .i64 0,.int .i64 0,.int .i64 0,.int .i64 0,.int .i64 0,.int .i64 0,.int .i64 0,.int .i64 0,.int .i64 0,.bool false,.bool false,.bool false,.bool false,.int .i64 0,.slice none 0 0] 53 (0,0))
  size:w.heap.size+2≤wr.heap.size
  own:FOw (w.heap.size+2) wr (b.Fixtures.take i) hF hs
theorem VOw.off {B w h n xs row} (v:VOw B w h n xs) (hr:∀ g,B≤g→g<w.heap.size→some g≠row):Off h n row:=by
  rcases v with ⟨e,-⟩ | ⟨g,cap,cur,T,h1,h2,h3,h4,h5⟩
  · exact .inl e
  · refine .inr fun g' cap' e=>?_
    rw [h1] at e
    cases e
    exact hr _ h2 h3
theorem Off.both {h n r1 r2 r3} {B w xs} (v:VOw B w h n xs) (o:Off h n r1) (e:r2=r1∨r2=some r3) (hr:w.heap.size≤r3):Off h n r2:=by
  rcases e with e | e
  · rw [e];exact o
  · rw [e]
    exact v.off fun g _ h2 h3=>by have:=Option.some.inj h3;omega
theorem LInv.step {w:World} {b:Body} {hdr:Value} {i:Nat} {hs:List Value} {u3:Value} {wr w1 w2:World} {f:Fixture} {h v1:Value} (S:LInv w b hdr i hs u3 wr) (hf:b.Fixtures[i]? = some f) (hb1:Below wr.heap.size wr w1)
    (hv:VOw (wr.heap.size+1) w1 h f.Shape.Vertices.length (vecsC f.Shape.Vertices)) (oh:h.oneCell'=true)
    (hown:w2.ownsRow (w.heap.size+2) 103 10 v1 ((b.Fixtures.take i).length+1) (fixsC (b.Fixtures.take i) hs++fixC f h)) (hg:w1.grownBy w2 u3.ownBlock) (hblk:v1.ownBlock=u3.ownBlock∨v1.ownBlock=some w1.heap.size):
    LInv w b hdr (i+1) (hs++[h]) v1 w2:=by
  have hlt:i<b.Fixtures.length:=(List.getElem?_eq_some_iff.1 hf).1
  have hrow:=S.own.row.lt
  have hsz:=S.size
  have hbs:=hb1.size
  have ht:b.Fixtures.take (i+1)=b.Fixtures.take i++[f]:=by
    rw [List.take_succ,hf];rfl
  have hne:∀ k,k<w.heap.size+2→some k≠u3.ownBlock:=fun k hk e=>by
    have:=hrow k e.symm
    omega
  have hB:Below w.heap.size w w1:=S.below.trans (hb1.mono (by omega))
  refine ⟨hB.grown hg (by omega) (fun k e=>by have:=(hrow k e).1;omega),?_,?_,?_,?_⟩
  · rw [hg.block _ (by omega) (hne _ (by omega)),hb1.block _ (by omega)];exact S.box1
  · rw [hg.block _ (by omega) (hne _ (by omega)),hb1.block _ (by omega)];exact S.box2
  · have:=hg.size;omega
  · rw [ht]
    refine ⟨?_,by have:=S.own.len;simp only [List.length_append,this];rfl,?_⟩
    · rw [fixsC_snoc _ _ _ _ S.own.len,List.length_append];exact hown
    · intro k f' x e1 e2
      have hl:(b.Fixtures.take i).length=i:=by rw [List.length_take];omega
      have hl2:hs.length=i:=by rw [← S.own.len];exact hl
      by_cases hk:k<i
      · rw [List.getElem?_append_left (by omega)] at e1 e2
        obtain ⟨q1,q2,q3⟩:=S.own.vs k f' x e1 e2
        refine ⟨(q1.below hb1).kept vecsC_nil q2 hg,Off.both q1 q2 hblk hbs,q3⟩
      · rw [List.getElem?_append_right (by omega),hl] at e1
        rw [List.getElem?_append_right (by omega),hl2] at e2
        obtain ⟨j,hj⟩:∃ j,j=k - i:=⟨_,rfl⟩
        rw [← hj] at e1 e2
        have h0:j=0:=by
          have:=(List.getElem?_eq_some_iff.1 e1).1
          simp only [List.length_singleton] at this;omega
        subst h0
        have e1:f=f':=Option.some.inj e1
        have e2:h=x:=Option.some.inj e2
        subst e1
        subst e2
        have o1:Off h f.Shape.Vertices.length u3.ownBlock:=hv.off fun g h1 h2 e=>by have:=(hrow g e.symm).2;omega
        exact ⟨(hv.kept vecsC_nil o1 hg).mono (by omega),Off.both hv o1 hblk (Nat.le_refl _),oh⟩
theorem cells_new (w:World) (cs:List Value) (T:TypeId) (b:Nat) (hb:b=w.heap.size) (j:Nat) (u:Value) (e:cs[j]? = some u):(w.alloc (.cells cs.toArray T)).cell? ((⟨b,0,none⟩:Addr).add j)=some u:=by
  rw [addr_add,Nat.zero_add]
  exact box_cell (heap_at w _ b hb) j (by simpa using e)
theorem own_set {B:Nat} {w:World} {fs hF hs} (h:FOw B w fs hF hs) (a:Addr) (x:Value) (ha:a.block<B):FOw B (w.setCell a x) fs hF hs:=
  ⟨(show w.grownBy (w.setCell a x) (some a.block) from ⟨rfl,rfl,rfl,by rw [size_set];exact Nat.le_refl _,fun k _ hk=>heap_set _ _ _ _ (fun e=>hk (by rw [e]))⟩) |> fun g=>h.row.kept g (by
      cases e:hF.ownBlock with
      | none=>exact .inl rfl
      | some k=>refine .inr fun e2=>?_;have:=(h.row.lt k e).1;have:=Option.some.inj e2;omega),h.len,fun k f y e1 e2=>⟨(h.vs k f y e1 e2).1.set a x ha,(h.vs k f y e1 e2).2⟩⟩
theorem row_mono {w:World} {base base':Nat} {e:TypeId} {size:Nat} {v:Value} {n:Nat} {xs:List Value} (h:w.ownsRow base e size v n xs) (hb:base'≤base):w.ownsRow base' e size v n xs:=by
  obtain ⟨h1,h2 | ⟨g,cap,cur,q1,q2,q3⟩⟩:=h
  · exact ⟨h1,.inl h2⟩
  · exact ⟨h1,.inr ⟨g,cap,cur,q1,Nat.le_trans hb q2,q3⟩⟩
theorem own_mono {B B':Nat} {w:World} {fs hF hs} (h:FOw B w fs hF hs) (hb:B'≤B):FOw B' w fs hF hs:=
  ⟨row_mono h.row hb,h.len,fun k f y e1 e2=>⟨(h.vs k f y e1 e2).1.mono hb,(h.vs k f y e1 e2).2⟩⟩
theorem wpList_copybox {P:Program} {ops:Array Oper} {Q:Exit→Act→World→Prop} {o1 o2:Oper} {a:Act} {w:World} {ty:TypeId} {y z t:Operand} {d:Nat} {b1 b2:Nat} {cs:List Value} {c0:Array Value} {T1 T2:TypeId}
    (g1:o1.guard=none) (g2:o2.guard=none) (e1:o1.op=.load ty y) (d1:o1.dst=some d) (e2:o2.op=.store ty t z) (d2:o2.dst=none)
    (hy:a.eval y=.pointer (some ⟨b1,0,none⟩)) (ht:(a.put (some d) (.agg cs.toArray)).eval t=.pointer (some ⟨b2,0,none⟩)) (hz:(a.put (some d) (.agg cs.toArray)).eval z=.agg cs.toArray)
    (ha:tAg P ty=some true) (hs:tSz P ty=some cs.length) (hb1:w.heap[b1]? = some (.cells cs.toArray T1 (0,0))) (hb2:w.heap[b2]? = some (.cells c0 T2 (0,0))) (hl:c0.size=cs.length) (h1:∀ c∈cs,c.oneCell'=true)
    (h:∀ w',w'.heap[b2]? = some (.cells cs.toArray T2 (0,0))→w.grownBy w' (some b2)→Q .normal (a.put (some d) (.agg cs.toArray)) w'):wpList P ops Q [o1,o2] a w:=by
  have hld:=run_loadVar_agg (P:=P) (ty:=ty) (w:=w) (b:=b1) (o:=0) (cs:=cs) ha hs (fun j v e=>by rw [Nat.zero_add];exact box_cell hb1 j (by simpa using e))
  have hst:=run_storeCells_at P b2 0 T2 cs 0 c0 w hb2 (by omega) h1
  have hnil:c0.toList.drop cs.length=[]:=List.drop_eq_nil_of_le (by simp [hl])
  simp only [Nat.add_zero,Nat.zero_add,List.take_zero,List.nil_append,hnil,List.append_nil] at hst
  refine wpList_plain g1 fun K hK=>?_
  have r1:(execOp a.eval o1).run P w=.ok (.value (.agg cs.toArray)) w:=by simp [execOp,e1,hy,Instr.loadAt,Instr.sureAddr,hld]
  unfold Oper.wp
  rw [r1,Oper.upon_value,d1]
  refine hK _ _ (wpList_plain g2 fun K2 hK2=>?_)
  have r2:(execOp (a.put (some d) (.agg cs.toArray)).eval o2).run P w=.ok .skip (w.setRow b2 cs.toArray):=by
    have e:(Value.agg cs.toArray).cells.size=cs.length:=by simp [Value.cells]
    have hst:Sem.run P (storeCells ⟨b2,0,none⟩ cs) w=Result.ok () (w.setRow b2 cs.toArray):=hst
    simp [execOp,e2,ht,hz,Instr.storeAt,Instr.sureAddr,storeVar,run_sizeOf_of hs,Value.cells,hst]
  unfold Oper.wp
  rw [r2,Oper.upon_skip]
  refine hK2 _ _ ?_
  show Q .normal ((a.put (some d) (.agg cs.toArray)).put o2.dst undef) _
  rw [d2]
  exact h _ (setRow_heap w b2 c0 cs.toArray T2 (0,0) hb2) ⟨rfl,rfl,rfl,by simp,fun k _ hk=>setRow_other w b2 k _ (fun e=>hk (by rw [e]))⟩
theorem own_grown {B:Nat} {w w':World} {fs hF hs row} (h:FOw B w fs hF hs) (hg:w.grownBy w' row) (hr:∀ g,B≤g→some g≠row):FOw B w' fs hF hs:=
  ⟨World.ownsRow.kept h.row hg (by
      cases e:hF.ownBlock with
      | none=>exact .inl rfl
      | some k=>exact .inr (hr k (h.row.lt k e).1)),h.len,fun k f y e1 e2=>⟨(h.vs k f y e1 e2).1.kept vecsC_nil ((h.vs k f y e1 e2).1.off fun g h2 _=>hr g h2) hg,(h.vs k f y e1 e2).2⟩⟩
theorem bodC_one {b x} (hx:oneCell x=true):∀ c∈bodC b x,oneCell c=true:=by
  intro c hc
  simp [bodC] at hc
  rcases hc with rfl | rfl | rfl | rfl | rfl | rfl | rfl | rfl | rfl | rfl | rfl | rfl | rfl | rfl | rfl | rfl | rfl | rfl | rfl | rfl <;> first | rfl | exact hx
def Few2 (b:List Fixture):Prop:=b.length≤1000000∧∀ f∈b,f.Shape.Vertices.length≤1099511627776
theorem rep_slice {m bl c sz l x} (h:Rep m bl (.sl c sz l) x):∃ a n k,x=.slice a n k:=by
  cases h <;> exact ⟨_,_,_,rfl⟩
set_option maxHeartbeats 8000000 in
theorem body_fresh (b:Body) (h40:Few2 b.Fixtures) (m:Mem) (v:Value) (w:World) (hi:Imm m w) (hr:Rep m noNames (e_Body b) v):
    Calls Tryz.prog 63 #[v] w fun e w'=>∃ hF hs,e=.returned (.agg (bodC b hF).toArray)∧Below w.heap.size w w'∧FOw w.heap.size w' b.Fixtures hF hs:=by
  obtain ⟨x,rfl,hx,ox⟩:=repBody hr
  obtain ⟨ad,cap,rfl,hx2⟩:=repFixs hx
  obtain ⟨n,hn⟩:∃ n,b.Fixtures.length=n:=⟨_,rfl⟩
  have e102:=Tryz.call102
  unfold bodC
  rw [hn]
  obtain ⟨i0,hi0,hz0,hz1,hz2⟩:=info_parts (P:=Tryz.prog) (e:=103) (z:=.agg #[.int .i64 0,.int .i64 0,.slice none 0 0,.int .i64 0,.int .i64 0,.int .i64 0,.bool false,.int .i64 0,.int .i64 0,.int .i64 0]) (size:=10) (bytes:=96) (by kernel_rfl)
  have z68:=Tryz.sizeOf103
  have a68:=Tryz.isAgg103
  obtain ⟨L0,hL0⟩:∃ L0,L0=LInv w b (.slice ad n cap):=⟨_,rfl⟩
  go_enter Tryz.func63,Tryz.ntmps63
  go_wp2
  go_loopg [3,9] n (fun kx s3 s9 wr=>∃ (i:Nat) (hs:List Value),s9=.int .i64 i∧i≤n∧n - i≤kx∧Aside (L0 i hs s3 wr))
  case atStart=>
    subst hL0
    refine ⟨0,[],rfl,Nat.zero_le _,Nat.le_refl _,(⟨((Below.refl _ _).alloc (Nat.le_refl _) _).alloc (by simp) _,?_,?_,by simp,⟨by exact World.ownsRow_nil _ _ _ _,rfl,fun k f h e=>by simp at e⟩⟩:LInv w b _ 0 [] (.slice none 0 0) _)⟩
    · rw [heap_past _ _ _ (by simp),heap_at _ _ _ rfl];rfl
    · rw [heap_at _ _ _ (by simp)]
  case round=>
    obtain ⟨i,hs,rfl,hin,hkx,S⟩:=hrel
    by_cases hlt:(i:Int)<n
    · obtain ⟨blk,off,hxs,rfl,hxl,hxm,hx1,hxv⟩:=hx2 (by omega)
      have hi1:i<b.Fixtures.length:=by omega
      obtain ⟨f,hf⟩:∃ f,b.Fixtures[i]? = some f:=⟨_,List.getElem?_eq_getElem hi1⟩
      obtain ⟨x,hxi⟩:∃ x,hxs[i]? = some x:=⟨_,List.getElem?_eq_getElem (by omega)⟩
      have hV:=hxv i f x hf hxi
      obtain ⟨xa,xn,xc,rfl⟩:∃ xa xn xc,x=.slice xa xn xc:=by
        rw [e_slV] at hV;exact rep_slice hV
      subst hL0
      have hb:=S.out.below
      have himr:=hi.below hb
      have hc:∀ (j:Nat) (v:Value),(fixC f (.slice xa xn xc))[j]? = some v→wr.cell? ⟨blk,off+i*10+j,none⟩=some v:=fun j v e=>by
        have hj:j<10:=(List.getElem?_eq_some_iff.1 e).1
        have:=hxm (i*10+j) v (by rw [fixsC_get _ _ i j f _ hf hxi hj];exact e)
        exact himr _ _ _ (by rw [Nat.add_assoc];exact this)
      have c0:wr.cell? ⟨blk,off+i*10,none⟩=some (.int .i64 f.Shape.Kind):=hc 0 _ rfl
      have c1:=hc 1 _ rfl
      have c2:=hc 2 _ rfl
      have c3:=hc 3 _ rfl
      have c4:=hc 4 _ rfl
      have c5:=hc 5 _ rfl
      have c6:=hc 6 _ rfl
      have c7:=hc 7 _ rfl
      have c8:=hc 8 _ rfl
      have c9:=hc 9 _ rfl
      have hnb:n≤1000000:=hn ▸ h40.1
      have wi:IntKind.i64.wrap ((i:Int)+1)=((i+1:Nat):Int):=by rw [IntKind.wrap_i64];omega
      have ti:((i:Int)).toNat=i:=by omega
      have pi:(0:Int)≤(i:Int):=by omega
      obtain ⟨W,hW⟩:∃ W,W=wr.heap.size:=⟨_,rfl⟩
      have HX:Hid (W=wr.heap.size∧∀ (k:Nat) (f:Fixture) (x:Value),b.Fixtures[k]? = some f→hxs[k]? = some x→Rep m noNames (e_sl_Vec f.Shape.Vertices) x):=⟨hW,hxv⟩
      have HI:Hid (Tryz.prog.info? 103=some i0∧i0.zero=some (.agg #[.int .i64 0,.int .i64 0,.slice none 0 0,.int .i64 0,.int .i64 0,.int .i64 0,.bool false,.int .i64 0,.int .i64 0,.int .i64 0])∧i0.size=10∧i0.bytes=96):=⟨hi0,hz0,hz1,hz2⟩
      have HF:Hid (b.Fixtures[i]? = some f):=hf
      have hlen0:Hid ((b.Fixtures.take i).length=i):=by show _=_;rw [List.length_take];omega
      clear hc hW hxv hxm hx1 hxl hx2 hr hx ox hi0 hz0 hz1 hz2 hxi
      have hvl:f.Shape.Vertices.length≤1099511627776:=h40.2 f (List.mem_of_getElem? hf)
      have key:∀ w2:World,w2=wr.alloc (.cells #[.int .i64 f.Shape.Kind,.int .i64 f.Shape.Radius,.slice xa xn xc,.int .i64 f.Density,.int .i64 f.Friction,.int .i64 f.Restitution,.bool f.Sensor,.int .i64 f.Category,.int .i64 f.Mask,.int .i64 f.Group] 103)→Calls Tryz.prog 102 #[.agg #[.int .i64 f.Shape.Kind,.int .i64 f.Shape.Radius,.slice xa xn xc]] w2 fun e w'=>∃ ha hn hc,e=.returned (.agg #[.int .i64 f.Shape.Kind,.int .i64 f.Shape.Radius,.slice ha hn hc])∧Below wr.heap.size wr w'∧w'.heap[wr.heap.size]? = some (.cells #[.int .i64 f.Shape.Kind,.int .i64 f.Shape.Radius,.slice xa xn xc,.int .i64 f.Density,.int .i64 f.Friction,.int .i64 f.Restitution,.bool f.Sensor,.int .i64 f.Category,.int .i64 f.Mask,.int .i64 f.Group] 103 (0,0))∧VOw (wr.heap.size+1) w' (.slice ha hn hc) f.Shape.Vertices.length (vecsC f.Shape.Vertices):=by
        intro w2 hw2
        have hb2:Below wr.heap.size wr w2:=by rw [hw2];exact (Below.refl _ _).alloc (Nat.le_refl _) _
        have hs2:w2.heap.size=wr.heap.size+1:=by rw [hw2];simp
        refine (shape_fresh f.Shape.Vertices hvl m _ _ _ w2 (hi.below (hb.trans (hb2.mono (by have:=S.out.size;omega)))) hV).mono ?_
        rintro e w1 ⟨h,rfl,hbb,hv⟩
        rw [hs2] at hv
        obtain ⟨ha,hn,hc,rfl⟩:∃ ha hn hc,h=.slice ha hn hc:=by
          rcases hv with ⟨-,-,ad,cap,rfl,-⟩ | ⟨g,cap,cur,T,rfl,-⟩ <;> exact ⟨_,_,_,rfl⟩
        refine ⟨ha,hn,hc,rfl,hb2.trans (hbb.mono (by omega)),?_,hv⟩
        rw [hbb.block _ (by omega),hw2,heap_at _ _ _ rfl]
      clear hV
      go_wp2_with (first
        | (go_at_call 102;refine (key _ rfl).mono ?_;rintro _ w1 ⟨ha,hn,hc,rfl,hb1,x1,hv⟩;have g0:=box_cell x1 0 rfl;have g1:=box_cell x1 1 rfl;have g2:=box_cell x1 2 rfl;have g3:=box_cell x1 3 rfl;have g4:=box_cell x1 4 rfl;have g5:=box_cell x1 5 rfl;have g6:=box_cell x1 6 rfl;have g7:=box_cell x1 7 rfl;have g8:=box_cell x1 8 rfl;have g9:=box_cell x1 9 rfl;have z0:=box_free x1 0;have z1:=box_free x1 1;have z2:=box_free x1 2;clear key)
        | (at_builtin;refine wpList_append_two rfl (.tmp 17) (.tmp 19) 51 rfl (w.heap.size+2) 103 i0 (.agg #[.int .i64 0,.int .i64 0,.slice none 0 0,.int .i64 0,.int .i64 0,.int .i64 0,.bool false,.int .i64 0,.int .i64 0,.int .i64 0]) 10 96 Tryz.underlying51 HI.out.1 HI.out.2.1 HI.out.2.2.1 HI.out.2.2.2 rfl (by decide) _ _ _ rfl (S.out.own.below ((((hb1.setCell (p:=⟨wr.heap.size,0,none⟩) (Nat.le_refl _) _).setCell (p:=⟨wr.heap.size,1,none⟩) (Nat.le_refl _) _).setCell (p:=⟨wr.heap.size,2,none⟩) (Nat.le_refl _) _).alloc (by have:=hb1.size;simp;omega) _)).row ⟨w1.heap.size,0,none⟩ 1 1 (fixC f (.slice ha hn hc)) rfl rfl (cells_new _ (fixC f (.slice ha hn hc)) 103 _ (by simp)) (fixC_one rfl) (by rw [hlen0.out];simp only [maxLen];omega) (by rw [hlen0.out];omega) (by have:=S.out.size;have:=hb1.size;simp;omega) (by decide) ?_
           intro v1 w2 hown2 hgrow2 hblk2
           have S2:Aside (LInv w b (.slice (some ⟨blk,off,none⟩) n cap) (i+1) (hs++[.slice ha hn hc]) v1 w2):=S.out.step HF.out ((((hb1.setCell (p:=⟨wr.heap.size,0,none⟩) (Nat.le_refl _) _).setCell (p:=⟨wr.heap.size,1,none⟩) (Nat.le_refl _) _).setCell (p:=⟨wr.heap.size,2,none⟩) (Nat.le_refl _) _).alloc (by have:=hb1.size;simp;omega) _) ((((hv.set ⟨wr.heap.size,0,none⟩ _ (Nat.lt_succ_self _)).set ⟨wr.heap.size,1,none⟩ _ (Nat.lt_succ_self _)).set ⟨wr.heap.size,2,none⟩ _ (Nat.lt_succ_self _)).below ((Below.refl _ _).alloc (Nat.le_refl _) _)) rfl hown2 hgrow2 hblk2
           clear hown2 hgrow2 hblk2 g0 g1 g2 g3 g4 g5 g6 g7 g8 g9 z0 z1 z2 x1 hv hb1))
      go_roundg (n - (i+1))
      case measure=>omega
      case rel=>exact ⟨i+1,_,by simp,by omega,by omega,S2⟩
    · have hin':i=n:=by omega
      subst hin'
      subst hL0
      have hfull:b.Fixtures.take i=b.Fixtures:=by rw [← hn];exact List.take_length
      have S1:=S.out
      have hsz:=S1.size
      have own:FOw (w.heap.size+2) wr b.Fixtures u3 hs:=hfull ▸ S1.own
      obtain ⟨ua,un,uc,rfl⟩:∃ ua un uc,u3=.slice ua un uc:=by
        rcases own.row.2 with ⟨e,-⟩ | ⟨g,cap,cur,e,-⟩ <;> exact ⟨_,_,_,e⟩
      have x1:=S1.box1
      have x2:=S1.box2
      have hb:=S1.below
      have p0:wr.cell? ⟨w.heap.size,0,none⟩=some (.int .i64 b.ID):=box_cell x1 0 rfl
      have p1:wr.cell? ⟨w.heap.size,1,none⟩=some (.int .i64 b.Kind):=box_cell x1 1 rfl
      have p2:wr.cell? ⟨w.heap.size,2,none⟩=some (.int .i64 b.Transform.Position.X):=box_cell x1 2 rfl
      have p3:wr.cell? ⟨w.heap.size,3,none⟩=some (.int .i64 b.Transform.Position.Y):=box_cell x1 3 rfl
      have p4:wr.cell? ⟨w.heap.size,4,none⟩=some (.int .i64 b.Transform.Angle):=box_cell x1 4 rfl
      have p5:wr.cell? ⟨w.heap.size,5,none⟩=some (.int .i64 b.Velocity.X):=box_cell x1 5 rfl
      have p6:wr.cell? ⟨w.heap.size,6,none⟩=some (.int .i64 b.Velocity.Y):=box_cell x1 6 rfl
      have p7:wr.cell? ⟨w.heap.size,7,none⟩=some (.int .i64 b.AngularVelocity):=box_cell x1 7 rfl
      have p8:wr.cell? ⟨w.heap.size,8,none⟩=some (.int .i64 b.Force.X):=box_cell x1 8 rfl
      have p9:wr.cell? ⟨w.heap.size,9,none⟩=some (.int .i64 b.Force.Y):=box_cell x1 9 rfl
      have p10:wr.cell? ⟨w.heap.size,10,none⟩=some (.int .i64 b.Torque):=box_cell x1 10 rfl
      have p11:wr.cell? ⟨w.heap.size,11,none⟩=some (.int .i64 b.LinearDamping):=box_cell x1 11 rfl
      have p12:wr.cell? ⟨w.heap.size,12,none⟩=some (.int .i64 b.AngularDamping):=box_cell x1 12 rfl
      have p13:wr.cell? ⟨w.heap.size,13,none⟩=some (.int .i64 b.GravityScale):=box_cell x1 13 rfl
      have p14:wr.cell? ⟨w.heap.size,14,none⟩=some (.bool b.Bullet):=box_cell x1 14 rfl
      have p15:wr.cell? ⟨w.heap.size,15,none⟩=some (.bool b.FixedRotation):=box_cell x1 15 rfl
      have p16:wr.cell? ⟨w.heap.size,16,none⟩=some (.bool b.NoSleep):=box_cell x1 16 rfl
      have p17:wr.cell? ⟨w.heap.size,17,none⟩=some (.bool b.Asleep):=box_cell x1 17 rfl
      have p18:wr.cell? ⟨w.heap.size,18,none⟩=some (.int .i64 b.IdleSteps):=box_cell x1 18 rfl
      have p19:wr.cell? ⟨w.heap.size,19,none⟩=some (.slice ad i cap):=box_cell x1 19 rfl
      have q19:=box_free x1 19
      have e1:(wr.setCell ⟨w.heap.size,19,none⟩ (.slice ua un uc)).heap[w.heap.size]? = some (.cells [(.int .i64 b.ID),(.int .i64 b.Kind),(.int .i64 b.Transform.Position.X),(.int .i64 b.Transform.Position.Y),(.int .i64 b.Transform.Angle),(.int .i64 b.Velocity.X),(.int .i64 b.Velocity.Y),(.int .i64 b.AngularVelocity),(.int .i64 b.Force.X),(.int .i64 b.Force.Y),(.int .i64 b.Torque),(.int .i64 b.LinearDamping),(.int .i64 b.AngularDamping),(.int .i64 b.GravityScale),(.bool b.Bullet),(.bool b.FixedRotation),(.bool b.NoSleep),(.bool b.Asleep),(.int .i64 b.IdleSteps),.slice ua un uc].toArray 53 (0,0)):=heap_own x1 19 _ _ rfl
      have e2:=(heap_set wr ⟨w.heap.size,19,none⟩ (.slice ua un uc) (w.heap.size+1) (by simp)).trans x2
      have B0:=hb.setCell (p:=⟨w.heap.size,19,none⟩) (Nat.le_refl _) (.slice ua un uc)
      have O0:=own_set own ⟨w.heap.size,19,none⟩ (.slice ua un uc) (by simp)
      have ra:tAg Tryz.prog 53=some true:=by kernel_rfl
      have rz:tSz Tryz.prog 53=some 20:=by kernel_rfl
      have HB:Hid (_∧_∧_∧_∧_∧_):=⟨e1,e2,B0,O0,ra,rz⟩
      clear hb own x2 x1 S1 S hx2 hr hx ox hi0 hz0 hz1 hz2 hfull h40 e1 e2 B0 O0 ra rz
      go_wp2_with (refine wpList_copybox (cs:=[(.int .i64 b.ID),(.int .i64 b.Kind),(.int .i64 b.Transform.Position.X),(.int .i64 b.Transform.Position.Y),(.int .i64 b.Transform.Angle),(.int .i64 b.Velocity.X),(.int .i64 b.Velocity.Y),(.int .i64 b.AngularVelocity),(.int .i64 b.Force.X),(.int .i64 b.Force.Y),(.int .i64 b.Torque),(.int .i64 b.LinearDamping),(.int .i64 b.AngularDamping),(.int .i64 b.GravityScale),(.bool b.Bullet),(.bool b.FixedRotation),(.bool b.NoSleep),(.bool b.Asleep),(.int .i64 b.IdleSteps),.slice ua un uc]) rfl rfl rfl rfl rfl rfl rfl rfl rfl HB.out.2.2.2.2.1 HB.out.2.2.2.2.2 HB.out.1 HB.out.2.1 rfl (bodC_one rfl) ?_;intro wf s20 hgf;have HG:Hid (_∧_):=⟨s20,hgf⟩;clear s20 hgf)
      have r0:Tryz.f63.results=#[.cell 2 53]:=rfl
      refine bodyPost_ret (results_box (cs:=[(.int .i64 b.ID),(.int .i64 b.Kind),(.int .i64 b.Transform.Position.X),(.int .i64 b.Transform.Position.Y),(.int .i64 b.Transform.Angle),(.int .i64 b.Velocity.X),(.int .i64 b.Velocity.Y),(.int .i64 b.AngularVelocity),(.int .i64 b.Force.X),(.int .i64 b.Force.Y),(.int .i64 b.Torque),(.int .i64 b.LinearDamping),(.int .i64 b.AngularDamping),(.int .i64 b.GravityScale),(.bool b.Bullet),(.bool b.FixedRotation),(.bool b.NoSleep),(.bool b.Asleep),(.int .i64 b.IdleSteps),.slice ua un uc]) r0 rfl HB.out.2.2.2.2.1 HB.out.2.2.2.2.2 HG.out.1) rfl ?_
      have hgf:=HG.out.2
      refine ⟨_,rfl,HB.out.2.2.1.grown hgf (by rw [size_set];omega) (fun k e=>by have:=Option.some.inj e;omega),hs,?_⟩
      have O:=HB.out.2.2.2.1
      refine own_mono (own_grown O hgf ?_) (by omega)
      intro g hg;exact fun e=>by have:=Option.some.inj e;omega
end GoForm
end

section
set_option linter.all false
set_option maxRecDepth 100000
open Go Go.Rx Go.Proofs Go.RowKit
namespace GoForm
theorem wpList_loadat {P:Program} {ops:Array Oper} {rest:List Oper} {Q:Exit→Act→World→Prop} {o:Oper} {a:Act} {w:World} {ty:TypeId} {y:Operand} {d b off:Nat} {cs:List Value} {arr:Array Value} {T:TypeId} {fr:Nat × Nat}
    (g:o.guard=none) (e:o.op=.load ty y) (hd:o.dst=some d) (hy:a.eval y=.pointer (some ⟨b,off,none⟩)) (ha:tAg P ty=some true) (hs:tSz P ty=some cs.length)
    (hb:w.heap[b]? = some (.cells arr T fr)) (hc:∀ j v,cs[j]? = some v→arr[off+j]? = some v) (h:wpList P ops Q rest (a.put (some d) (.agg cs.toArray)) w):wpList P ops Q (o::rest) a w:=by
  have hld:=run_loadVar_agg (P:=P) (ty:=ty) (w:=w) (b:=b) (o:=off) (cs:=cs) ha hs (fun j v e=>by rw [cell_of_blk hb];exact hc j v e)
  refine wpList_plain g fun K hK=>?_
  have r1:(execOp a.eval o).run P w=.ok (.value (.agg cs.toArray)) w:=by simp [execOp,e,hy,Instr.loadAt,Instr.sureAddr,hld]
  unfold Oper.wp
  rw [r1,Oper.upon_value,hd]
  exact hK _ _ h
theorem wpList_storeat {P:Program} {ops:Array Oper} {rest:List Oper} {Q:Exit→Act→World→Prop} {o:Oper} {a:Act} {w:World} {ty:TypeId} {t z:Operand} {b off:Nat} {cs arr:List Value} {T:TypeId}
    (g:o.guard=none) (e:o.op=.store ty t z) (hd:o.dst=none) (ht:a.eval t=.pointer (some ⟨b,off,none⟩)) (hz:a.eval z=.agg cs.toArray) (hs:tSz P ty=some cs.length)
    (hb:w.heap[b]? = some (.cells arr.toArray T (0,0))) (hfit:off+cs.length≤arr.length) (h1:∀ c∈cs,c.oneCell'=true)
    (h:∀ w',w'.heap[b]? = some (.cells (arr.take off++cs++arr.drop (off+cs.length)).toArray T (0,0))→w.grownBy w' (some b)→wpList P ops Q rest a w'):wpList P ops Q (o::rest) a w:=by
  have hst:=run_storeCells_at P b off T cs 0 arr.toArray w hb (by simpa using hfit) h1
  simp only [Nat.add_zero] at hst
  refine wpList_plain g fun K hK=>?_
  have r2:(execOp a.eval o).run P w=.ok .skip (w.setRow b (arr.take off++cs++arr.drop (off+cs.length)).toArray):=by
    have hst:Sem.run P (storeCells ⟨b,off,none⟩ cs) w=Result.ok () (w.setRow b (arr.take off++cs++arr.drop (off+cs.length)).toArray):=hst
    simp [execOp,e,ht,hz,Instr.storeAt,Instr.sureAddr,storeVar,run_sizeOf_of hs,Value.cells,hst]
  unfold Oper.wp
  rw [r2,Oper.upon_skip,hd]
  exact hK _ _ (h _ (setRow_heap w b _ _ T (0,0) hb) ⟨rfl,rfl,rfl,by simp,fun k _ hk=>setRow_other w b k _ (fun e=>hk (by rw [e]))⟩)
end GoForm
end

section
set_option linter.all false
set_option maxRecDepth 100000
open Go Go.Rx Go.Proofs Go.RowKit
namespace GoForm
def memA (w:World):Mem:=fun b o=>w.cell? ⟨b,o,none⟩
theorem imm_all (w:World):Imm (memA w) w:=fun _ _ _ h=>h
theorem le_all {m:Mem} {w:World} (h:Imm m w):Mem.le m (memA w):=fun b o v e=>h b o v e
theorem VOw.rep {B w l h} (v:VOw B w h l.length (vecsC l)):Rep (memA w) noNames (e_sl_Vec l) h:=by
  rw [e_slV]
  rcases v with ⟨h0,-,ad,cap,rfl,hc⟩ | ⟨g,cap,cur,T,rfl,h2,h3,h4,h5,h6,h7⟩
  · have:l=[]:=List.length_eq_zero_iff.1 h0
    subst this
    cases ad with
    | none=>rw [hc rfl];exact .slnil
    | some a=>exact .sl (l:=[]) (by simp) .nil (by simp) (by simp) (by simp) (Nat.zero_le _) (by simp)
  · have hl:l.length=(l.map e_Vec).length:=by simp
    rw [hl]
    refine .sl (cs:=vecsC l) ?_ ?_ (vecsC_one l) (fun _=>rfl) ?_ (by rw [← hl];exact h5) (by simp)
    · intro e he
      obtain ⟨x,-,rfl⟩:=List.mem_map.1 he
      rfl
    · rw [cells_V];exact repsV _
    · intro j x e
      show w.cell? ⟨g,0+j,none⟩=some x
      rw [Nat.zero_add,cell_of_blk h4]
      have hj:j<(vecsC l).length:=(List.getElem?_eq_some_iff.1 e).1
      rw [← h7,List.getElem?_take_of_lt hj] at e
      rw [← Array.getElem?_toList];exact e
theorem FOw.rep {B w fs hF hs} (h:FOw B w fs hF hs):Rep (memA w) noNames (e_sl_Fixture fs) hF:=by
  rw [e_slF]
  obtain ⟨hlen,⟨rfl,h0⟩ | ⟨g,cap,cur,rfl,q1,q2,q3,q4,q5,q6⟩⟩:=h.row
  · have:fs=[]:=List.length_eq_zero_iff.1 h0
    subst this
    exact .slnil
  · have hl:fs.length=(fs.map e_Fixture).length:=by simp
    rw [hl]
    refine .sl (cs:=fixsC fs hs) ?_ (fixs_mk fs hs h.len fun k f x e1 e2=>(h.vs k f x e1 e2).1.rep) ?_ (fun _=>rfl) ?_ (by rw [← hl];exact q3) (by simp)
    · intro e he
      obtain ⟨x,-,rfl⟩:=List.mem_map.1 he
      rfl
    · intro c hc
      obtain ⟨j,hj,e⟩:=List.getElem_of_mem hc
      have hj10:j<fs.length*10:=by rwa [fixsC_len _ _ h.len] at hj
      have k1:j / 10<fs.length:=by omega
      have k2:j / 10<hs.length:=by rw [← h.len];exact k1
      have:=fixsC_get fs hs (j / 10) (j % 10) fs[j / 10] hs[j / 10] (List.getElem?_eq_getElem k1) (List.getElem?_eq_getElem k2) (by omega)
      rw [show j / 10*10+j % 10=j by omega,List.getElem?_eq_getElem hj,e] at this
      exact fixC_one (h.vs (j / 10) fs[j / 10] hs[j / 10] (List.getElem?_eq_getElem k1) (List.getElem?_eq_getElem k2)).2.2 c (List.mem_of_getElem? this.symm)
    · intro j x e
      show w.cell? ⟨g,0+j,none⟩=some x
      rw [Nat.zero_add,cell_of_blk q2]
      have hj:j<(fixsC fs hs).length:=(List.getElem?_eq_some_iff.1 e).1
      rw [← q6,List.getElem?_take_of_lt (by rw [← hlen];exact hj)] at e
      rw [← Array.getElem?_toList];exact e
end GoForm
end

section
set_option linter.all false
set_option maxRecDepth 100000
open Go Go.Rx Go.Proofs Go.RowKit
namespace GoForm
theorem row_fresh {f:FuncId} {av:AV} {L:List AV} {sz n:Nat} (hcl:FnR Tryz.prog f [av] (.rw 0 sz) [(0,.cells L)]) (hL:L.length=n*sz) (hbare:bareL L=L) (hs:0<sz) (m:Mem) (v:Value) (w:World) (hi:Imm m w) (hr:Rep m noNames av v):
    Calls Tryz.prog f #[v] w fun e w'=>∃ h xs m',e=.returned h∧Below w.heap.size w w'∧VOw w.heap.size w' h n xs∧Reps m' noNames L xs∧Imm m' w'∧Mem.le m m'∧(∀ g cap,h=.slice (some ⟨g,0,none⟩) n cap→n≠0→∀ o,m' g o=none):=by
  refine (hcl w m [v] trivial hi (.cons hr .nil)).mono ?_
  rintro e w1 ⟨v1,m',bl',rfl,hb,hws,-,hrep⟩
  generalize hz:AV.rw 0 sz=z at hrep
  cases hrep <;> cases hz
  case rwnil ad hnil=>
    have hl:L=[]:=by
      rcases hws.blk 0 _ (by rw [find_cons,if_pos rfl]) with ⟨-,h⟩ | ⟨b,n1,arr,T,pre,rest,h,-⟩
      · exact h
      · rw [hnil] at h;cases h
    subst hl
    have hn:n=0:=by
      rcases Nat.eq_zero_or_pos n with h | h
      · exact h
      · have:=Nat.mul_pos h hs;simp at hL;omega
    subst hn
    exact ⟨_,[],m',rfl,hb,.inl ⟨rfl,rfl,ad,0,rfl,fun _=>rfl⟩,.nil,hws.imm,hws.le,fun _ _ _ h=>absurd rfl h⟩
  case rw b n1 cap len hcap hbl hlen hsz=>
    rcases hws.blk 0 _ (by rw [find_cons,if_pos rfl]) with ⟨h,-⟩ | ⟨b',n',arr,T,pre,rest,h1,h2,h3,h4,h5,h6⟩
    · rw [hbl] at h;cases h
    rw [hbl] at h1
    cases h1
    have h5':Reps m' noNames L pre:=by have:=h5.bare (bl':=noNames);rwa [hbare] at this
    have hpl:=h5.length
    have h31:arr.size=n1.1:=congrArg Prod.fst h3
    have h32:pre.length=n1.2:=congrArg Prod.snd h3
    have hlen2:len=n:=by
      have e1:len*sz=n*sz:=by rw [← hL,hpl,h32];exact hlen
      exact Nat.eq_of_mul_eq_mul_right hs e1
    subst hlen2
    obtain ⟨o1,o2,o3⟩:=hws.own 0 b n1 hbl
    have hle:pre.length≤arr.size:=by
      have:=congrArg List.length h4
      rw [List.length_append] at this
      have e:arr.toList.length=arr.size:=by simp
      omega
    refine ⟨_,pre,m',rfl,hb,.inr ⟨b,cap,arr,T,rfl,o1,o2,h2,hcap,hle,by rw [h4,List.take_left'];rfl⟩,h5',hws.imm,hws.le,?_⟩
    rintro g cap2 hh - o
    cases hh
    exact o3 o
end GoForm
end

section
set_option linter.all false
set_option maxRecDepth 100000
open Go Go.Rx Go.Proofs Go.RowKit
namespace GoForm
def ptC (x:ContactPoint):List Value:=[.int .i64 x.Point.X,.int .i64 x.Point.Y,.int .i64 x.Separation,.int .i64 x.ID,.int .i64 x.NormalImpulse,.int .i64 x.TangentImpulse]
def ptsC (l:List ContactPoint):List Value:=l.flatMap ptC
theorem e_slP (l:List ContactPoint):e_sl_ContactPoint l=.sl false 6 (l.map e_ContactPoint):=rfl
theorem e_ContactPoint_eq (x:ContactPoint):e_ContactPoint x=.agg ((ptC x).map AV.v):=rfl
theorem ptsC_len (l:List ContactPoint):(ptsC l).length=l.length*6:=by
  induction l with
  | nil=>rfl
  | cons x l ih=>show (ptC x++ptsC l).length=_;rw [List.length_append,ih,List.length_cons];show 6+_=_;omega
theorem elC_P (l:List ContactPoint):elC tb Ix.tContactPoint l=(ptsC l).map AV.v:=by
  induction l with
  | nil=>rfl
  | cons x l ih=>
    show AV.cells (e_ContactPoint x)++elC tb Ix.tContactPoint l=_
    rw [ih,e_ContactPoint_eq]
    show _=((ptC x)++ptsC l).map AV.v
    rw [List.map_append];rfl
theorem bareV:∀ l:List Value,bareL (l.map AV.v)=l.map AV.v
  | []=>rfl
  | x::l=>by
    show AV.bare (.v x)::bareL (l.map AV.v)=_
    rw [bareV l];rfl
theorem cloneP_some (l:List ContactPoint) (h:l.length≤1099511627776):slices_Clone_115 l=some l:=by
  unfold slices_Clone_115
  rw [Alike_of (by intro h;subst h;rfl),Chk_of (by omega)]
theorem pts_fresh (l:List ContactPoint) (h40:l.length≤1099511627776) (m:Mem) (v:Value) (w:World) (hi:Imm m w) (hr:Rep m noNames (e_sl_ContactPoint l) v):
    Calls Tryz.prog 115 #[v] w fun e w'=>∃ h,e=.returned h∧Below w.heap.size w w'∧VOw w.heap.size w' h l.length (ptsC l):=by
  have hcl:=c_115.ok (l,()) [e_sl_ContactPoint l] l ⟨rfl,trivial⟩ (cloneP_some l h40)
  have hcl:FnR Tryz.prog 115 [e_sl_ContactPoint l] (.rw 0 6) [(0,.cells (elC tb Ix.tContactPoint l))]:=hcl
  rw [elC_P] at hcl
  refine (row_fresh hcl (by rw [List.length_map,ptsC_len]) (bareV _) (by omega) m v w hi hr).mono ?_
  rintro e w' ⟨h,xs,m',rfl,hb,hv,hR,-⟩
  obtain rfl:=repsV_eq hR
  exact ⟨h,rfl,hb,hv⟩
set_option maxHeartbeats 4000000 in
theorem manifold_fresh (l:List ContactPoint) (h40:l.length≤1099511627776) (m:Mem) (x0 x1:Int) (f2:Value) (w:World) (hi:Imm m w) (hr:Rep m noNames (e_sl_ContactPoint l) f2):
    Calls Tryz.prog 81 #[.agg #[(.int .i64 x0),(.int .i64 x1),f2]] w fun e w'=>∃ h,e=.returned (.agg #[(.int .i64 x0),(.int .i64 x1),h])∧Below w.heap.size w w'∧VOw w.heap.size w' h l.length (ptsC l):=by
  have e115:=Tryz.call115
  have o2:f2.oneCell'=true:=by rw [e_slP] at hr;exact one_slice hr
  go_enter Tryz.func81,Tryz.ntmps81
  have key:∀ w2:World,w2=(w.alloc (.cells #[(.int .i64 x0),(.int .i64 x1),f2] 74)).alloc (.cells #[.int .i64 0,.int .i64 0,.slice none 0 0] 74)→Calls Tryz.prog 115 #[f2] w2 fun e w'=>∃ ad n cap,e=.returned (.slice ad n cap)∧Below w.heap.size w w'∧w'.heap[w.heap.size]? = some (.cells #[(.int .i64 x0),(.int .i64 x1),f2] 74 (0,0))∧w'.heap[w.heap.size+1]? = some (.cells #[.int .i64 0,.int .i64 0,.slice none 0 0] 74 (0,0))∧VOw (w.heap.size+2) w' (.slice ad n cap) l.length (ptsC l):=by
    rintro w2 hw2
    have hb2:Below w.heap.size w w2:=by rw [hw2];exact ((Below.refl _ _).alloc (Nat.le_refl _) _).alloc (by simp) _
    have hs2:w2.heap.size=w.heap.size+2:=by rw [hw2];simp
    refine (pts_fresh l h40 m f2 w2 (hi.below hb2) hr).mono ?_
    rintro e w1 ⟨h,rfl,hb,hv⟩
    rw [hs2] at hv
    have q1:w1.heap[w.heap.size]? = w2.heap[w.heap.size]? := hb.block _ (by omega)
    have q2:w1.heap[w.heap.size+1]? = w2.heap[w.heap.size+1]? := hb.block _ (by omega)
    obtain ⟨ad,n,cap,rfl⟩:∃ ad n cap,h=.slice ad n cap:=by
      rcases hv with ⟨-,-,ad,cap,rfl,-⟩ | ⟨g,cap,cur,T,rfl,-⟩ <;> exact ⟨_,_,_,rfl⟩
    refine ⟨ad,n,cap,rfl,hb2.trans (hb.mono (by omega)),?_,?_,hv⟩
    · rw [q1,hw2,heap_past _ _ _ (by simp),heap_at _ _ _ rfl]
    · rw [q2,hw2,heap_at _ _ _ (by simp)]
  go_wp2_with (go_at_call 115;refine (key _ rfl).mono ?_;rintro _ w1 ⟨ad,n,cap,rfl,hb,b1,b2,hv⟩;have g0:=box_cell b1 0 rfl;have g1:=box_cell b1 1 rfl;have g2:=box_cell b1 2 rfl;have z2:=box_free b1 2;have y0:=box_cell b2 0 rfl;have y1:=box_cell b2 1 rfl;have y2:=box_cell b2 2 rfl;have u0:=box_free b2 0;have u1:=box_free b2 1;have u2:=box_free b2 2)
  have s0:=(heap_set w1 ⟨w.heap.size,2,none⟩ (.slice ad n cap) (w.heap.size+1) (by simp)).trans b2
  have s1:=heap_own s0 0 (.int .i64 x0) #[.int .i64 x0,.int .i64 0,.slice none 0 0] rfl
  have s2:=heap_own s1 1 (.int .i64 x1) #[.int .i64 x0,.int .i64 x1,.slice none 0 0] rfl
  have s3:=heap_own s2 2 (.slice ad n cap) [.int .i64 x0,.int .i64 x1,.slice ad n cap].toArray rfl
  have r0:Tryz.f81.results=#[.cell 2 74]:=rfl
  have ra:tAg Tryz.prog 74=some true:=by kernel_rfl
  have rz:tSz Tryz.prog 74=some 3:=by kernel_rfl
  have hbf:=(((hb.setCell (p:=⟨w.heap.size,2,none⟩) (by simp) (.slice ad n cap)).setCell (p:=⟨w.heap.size+1,0,none⟩) (by simp) (.int .i64 x0)).setCell (p:=⟨w.heap.size+1,1,none⟩) (by simp) (.int .i64 x1)).setCell (p:=⟨w.heap.size+1,2,none⟩) (by simp) (.slice ad n cap)
  have hvf:=((((hv.set ⟨w.heap.size,2,none⟩ (.slice ad n cap) (by simp)).set ⟨w.heap.size+1,0,none⟩ (.int .i64 x0) (by simp)).set ⟨w.heap.size+1,1,none⟩ (.int .i64 x1) (by simp)).set ⟨w.heap.size+1,2,none⟩ (.slice ad n cap) (by simp)).mono (show w.heap.size≤w.heap.size+2 by omega)
  generalize ((((w1.setCell ⟨w.heap.size,2,none⟩ (.slice ad n cap)).setCell ⟨w.heap.size+1,0,none⟩ (.int .i64 x0)).setCell ⟨w.heap.size+1,1,none⟩ (.int .i64 x1)).setCell ⟨w.heap.size+1,2,none⟩ (.slice ad n cap))=wf at s3 hbf hvf ⊢
  refine bodyPost_ret (results_box (cs:=[.int .i64 x0,.int .i64 x1,.slice ad n cap]) r0 rfl ra rz s3) rfl ?_
  exact ⟨_,rfl,hbf,hvf⟩
end GoForm
end

section
set_option linter.all false
set_option maxRecDepth 100000
open Go Go.Rx Go.Proofs Go.RowKit
namespace GoForm
theorem elC_bare (E:Ix) (l:List (tb.T E)):bareL (elC tb E l)=elC tb E l:=bareL_of (el_bare (cx [] []) l)
theorem elC_len (E:Ix) (k:Nat) (l:List (tb.T E)) (h:∀ x,(tb.el E x).cells.length=k):(elC tb E l).length=l.length*k:=by
  induction l with
  | nil=>simp [elC]
  | cons x l ih=>
    show (AV.cells (tb.el E x)++elC tb E l).length=_
    rw [List.length_append,ih,h,List.length_cons,Nat.add_mul];omega
end GoForm
end

section
set_option linter.all false
set_option maxRecDepth 100000
open Go Go.Rx Go.Proofs Go.RowKit
namespace GoForm
theorem call_v {P:Program} {f:FuncId} {avs:List AV} {r:Value} (h:FnR P f avs (.v r) []) (w:World) (vs:List Value) (hr:Reps (memA w) noNames avs vs):
    Calls P f vs.toArray w fun e w'=>e=.returned r∧Below w.heap.size w w':=by
  refine (h w (memA w) vs trivial (imm_all w) hr).mono ?_
  rintro e w' ⟨v,m',bl',rfl,hb,-,-,hr⟩
  exact ⟨by rw [Rep.eq_v hr],hb⟩
theorem quiet_callf {P:Program} {C:World→Prop} {o:Oper} {a:Act} {K:Act→Prop} {f:FuncId} {xs:Array Operand} {tys:Array TypeId} {vs:Array Value} {v:Value}
    (e:o.op=.call { callee:=.value (.func f),args:=xs,argTypes:=tys }) (hc:∀ (args:Array Value) (w:World),Sem.run P (callFunc f args) w=.ok (.enter f args) w) (hv:xs.map a.eval=vs)
    (hC:∀ w,C w→Calls P f vs w fun e w'=>e=.returned v∧C w') (hk:K (a.put o.dst v)):o.quiet P a C K:=
  ⟨v,fun w hw=>by
    have r1:(execOp a.eval o).run P w=.ok (.enter f vs) w:=by subst hv;simp [execOp,e,resolve,invoke,hc,go_sem]
    unfold Oper.quietAt
    rw [r1]
    exact ⟨rfl,hC w hw⟩,hk⟩
theorem wp_region_bel {P:Program} {id:Nat} {Q:Exit→Act→World→Prop} {a:Act} {w:World} {l:List Oper} (hm:P.follows .mixedOrders=true) (hB:Region.lexB .any l.toArray=true)
    (h:wpQuiet P l.toArray (fun w'=>Below w.heap.size w w') (fun a'=>∀ w',Below w.heap.size w w'→Q .normal a' w') l a):(Code.region id l.toArray true).wp P Q a w:=
  wp_region_quiet (C:=fun w'=>Below w.heap.size w w') hm hB ((Below.refl _ w).drew) (by simpa using h)
theorem imm_grown {m:Mem} {W W':World} {b:Nat} (h:Imm m W) (g:W.grownBy W' (some b)) (hm:∀ o,m b o=none):Imm m W':=by
  intro b' o v e
  have h1:=h b' o v e
  have hne:b'≠b:=fun e2=>by subst e2;rw [hm] at e;cases e
  have hlt:b'<W.heap.size:=by
    rcases Nat.lt_or_ge b' W.heap.size with h | h
    · exact h
    · simp [World.cell?,Array.getElem?_eq_none h] at h1
  rw [← h1]
  unfold World.cell?
  rw [g.block b' hlt (fun e=>hne (Option.some.inj e))]
section
variable {P:Program}
theorem cover_step {l:List Nat} {i:Nat} (h:i∈l):(l.filter (fun j=>j != i)).length<l.length:=by
  rw [List.length_filter_lt_length_iff_exists]
  exact ⟨i,h,by simp⟩
theorem wp_any_inv {Q:Exit→Act→World→Prop} {ops:Array Oper} (I:(Nat→Bool)→Act→World→Prop)
    (hd:∀ (i:Nat) (o:Oper),ops[i]? = some o→∀ e∈o.after,Region.binds .any e=true→e.on<i)
    (hs:∀ f a w i o,I f a w→ops[i]? = some o→f i=false→(∀ e∈o.after,Region.binds .any e=true→f e.on=true)→wpOp P ops Q i (I (fun j=>if j=i then true else f j)) a w)
    (he:∀ f a w,I f a w→(∀ i,i<ops.size→f i=true)→Q .normal a w):∀ (fuel:Nat) (listed:Array Bool) (a:Act) (w:World),listed.size=ops.size→I (fun j=>listed.getD j false) a w→
      (∃ l:List Nat,l.length≤fuel∧∀ j,j<ops.size→listed.getD j false=false→j∈l)→wpAny P .any ops Q fuel listed a w:=by
  have inb:∀ (listed:Array Bool) (j:Nat) (x y:Bool),j<listed.size→listed.getD j x=listed.getD j y:=fun listed j x y h=>by
    simp only [Array.getD_eq_getD_getElem?,Array.getElem?_eq_getElem h,Option.getD_some]
  have all:∀ listed:Array Bool,listed.size=ops.size→Region.ready .any ops listed=[]→∀ i,i<ops.size→listed.getD i false=true:=by
    intro listed hz h i
    induction i using Nat.strongRecOn with
    | ind i ih=>
      intro hi
      cases hl:listed.getD i false with
      | true=>rfl
      | false=>
        have:i∈Region.ready .any ops listed:=by
          unfold Region.ready
          rw [List.mem_filter]
          refine ⟨List.mem_range.2 hi,?_⟩
          rw [inb listed i true false (by omega),hl]
          obtain ⟨o,ho⟩:∃ o,ops[i]? = some o:=⟨_,Array.getElem?_eq_getElem hi⟩
          rw [ho]
          simp only [Bool.not_false,Option.map_some,Option.getD_some,Bool.true_and,Array.all_eq_true_iff_forall_mem,Bool.or_eq_true]
          intro e hm
          cases hbd:Region.binds .any e with
          | false=>exact .inl (by simp)
          | true=>exact .inr (ih e.on (hd i o ho e hm hbd) (Nat.lt_trans (hd i o ho e hm hbd) hi))
        rw [h] at this
        cases this
  intro fuel
  induction fuel with
  | zero=>
    intro listed a w hz hI ⟨l,hl,hc⟩
    have hall:∀ j,j<ops.size→listed.getD j false=true:=fun j hj=>by
      cases e:listed.getD j false with
      | true=>rfl
      | false=>
        have:=hc j hj e
        have h0:l=[]:=List.length_eq_zero_iff.1 (by omega)
        rw [h0] at this
        cases this
    refine ⟨?_,he _ a w hI hall⟩
    unfold Region.ready
    rw [List.filter_eq_nil_iff]
    intro i hi
    have hi:=List.mem_range.1 hi
    rw [inb listed i true false (by omega),hall i hi]
    simp
  | succ fuel ih=>
    intro listed a w hz hI ⟨l,hl,hc⟩
    refine ⟨fun h=>he _ a w hI (all listed hz h),fun i hi=>?_⟩
    unfold Region.ready at hi
    rw [List.mem_filter] at hi
    obtain ⟨h1,h2⟩:=hi
    have h1:=List.mem_range.1 h1
    obtain ⟨o,ho⟩:∃ o,ops[i]? = some o:=⟨_,Array.getElem?_eq_getElem h1⟩
    rw [ho,inb listed i true false (by omega)] at h2
    simp only [Option.map_some,Option.getD_some,Bool.and_eq_true,Bool.not_eq_true',Array.all_eq_true_iff_forall_mem,Bool.or_eq_true] at h2
    have hf:(fun j=>(listed.setIfInBounds i true).getD j false)=fun j=>if j=i then true else listed.getD j false:=by
      funext j
      simp only [Array.getD_eq_getD_getElem?]
      by_cases e:j=i
      · subst e
        rw [Array.getElem?_setIfInBounds_self_of_lt (by omega)];simp
      · rw [Array.getElem?_setIfInBounds_ne (fun h=>e h.symm)];simp [e]
    refine wpOp_mono ?_ (hs _ a w i o hI ho h2.1 fun e he' hb=>?_)
    · intro a' w' hI'
      refine ih _ a' w' (by simpa using hz) (by rw [hf];exact hI') ⟨l.filter (fun j=>j != i),?_,fun j hj hju=>?_⟩
      · have:=cover_step (hc i h1 h2.1);omega
      · rw [congrFun hf j] at hju
        by_cases e:j=i
        · rw [if_pos e] at hju;cases hju
        · rw [if_neg e] at hju
          rw [List.mem_filter]
          exact ⟨hc j hj hju,by simpa using e⟩
    · rcases h2.2 e he' with h | h
      · rw [hb] at h;simp at h
      · exact h
theorem wp_region_inv {id:Nat} {Q:Exit→Act→World→Prop} {ops:Array Oper} {a:Act} {w:World} (hm:P.follows .mixedOrders=true) (I:(Nat→Bool)→Act→World→Prop)
    (hd:∀ (i:Nat) (o:Oper),ops[i]? = some o→∀ e∈o.after,Region.binds .any e=true→e.on<i)
    (h0:I (fun _=>false) a w.drew)
    (hs:∀ f a w i o,I f a w→ops[i]? = some o→f i=false→(∀ e∈o.after,Region.binds .any e=true→f e.on=true)→wpOp P ops Q i (I (fun j=>if j=i then true else f j)) a w)
    (he:∀ f a w,I f a w→(∀ i,i<ops.size→f i=true)→Q .normal a w):(Code.region id ops true).wp P Q a w:=by
  refine wp_region_any hm (wp_any_inv I hd hs he _ _ a _ (by simp) ?_ ⟨List.range ops.size,by simp,fun j hj _=>List.mem_range.2 hj⟩)
  have:(fun j=>(Array.replicate ops.size false).getD j false)=fun _=>false:=by
    funext j
    simp only [Array.getD_eq_getD_getElem?,Array.getElem?_replicate]
    split <;> rfl
  rw [this]
  exact h0
variable {ops:Array Oper} {i:Nat} {o:Oper} {Q:Exit→Act→World→Prop} {K:Act→World→Prop} {a:Act} {w:World}
theorem wpOp_of (hi:ops[i]? = some o) (g:o.guard=none) (h:o.wp P a w K Q):wpOp P ops Q i K a w:=by
  unfold wpOp
  rw [hi]
  simp only [Region.wanted,g,if_true]
  exact .inl h
end
theorem ev {a:Act} {t:Nat} {v:Value} (h:a.tmps[t]? = some v):a.eval (.tmp t)=v:=by
  simp [Act.eval,h]
theorem put_ne {a:Act} {d j:Nat} {v:Value} (h:j≠d):(a.put (some d) v).tmps[j]? = a.tmps[j]? := Array.getElem?_setIfInBounds_ne (fun e=>h e.symm)
theorem put_eq {a:Act} {d:Nat} {v:Value} (h:d<a.tmps.size):(a.put (some d) v).tmps[d]? = some v:=Array.getElem?_setIfInBounds_self_of_lt h
theorem put_sz {a:Act} {d:Nat} {v:Value}:(a.put (some d) v).tmps.size=a.tmps.size:=by simp [Act.put]
def Pure (n ja js i:Nat):Prop:=i<n∧i≠ja∧i≠js
structure TI (n ja js da:Nat) (ds:Nat→Nat) (val:Nat→Value) (T:TypeId) (V:List Value) (w0:World) (a0:Act) (f:Nat→Bool) (a:Act) (w:World) (b:Nat):Prop where
  sz:a.tmps.size=a0.tmps.size
  df:a.defers=a0.defers
  bel:Below w0.heap.size w0 w
  vals:∀ i,Pure n ja js i→f i=true→a.tmps[ds i]? = some (val i)
  rest:∀ j,(∀ i,Pure n ja js i→ds i≠j)→j≠da→a.tmps[j]? = a0.tmps[j]?
  ord:f js=true→f ja=true
  box:f ja=true→a.tmps[da]? = some (.pointer (some ⟨b,0,none⟩))∧w0.heap.size≤b∧b<w.heap.size∧∃ cs,w.heap[b]? = some (.cells cs T (0,0))∧cs.size=V.length∧(f js=true→cs=V.toArray)
theorem TI.world {n ja js da ds val T V w0 a0 f a w b} (h:TI n ja js da ds val T V w0 a0 f a w b) {w':World} (hb:Below w.heap.size w w'):TI n ja js da ds val T V w0 a0 f a w' b:=
  ⟨h.sz,h.df,h.bel.trans (hb.mono h.bel.size),h.vals,h.rest,h.ord,fun e=>by
    obtain ⟨h1,h2,h3,cs,h4,h5⟩:=h.box e
    exact ⟨h1,h2,Nat.lt_of_lt_of_le h3 hb.size,cs,(hb.block _ h3).trans h4,h5⟩⟩
theorem tmps_eq:∀ (wr:List (Nat × Value)) (t0 tm:Array Value),tm.size=t0.size→(wr.map Prod.fst).Nodup→(∀ q∈wr,tm[q.1]? = some q.2)→(∀ q∈wr,q.1<t0.size)→(∀ j,j∉wr.map Prod.fst→tm[j]? = t0[j]?)→tm=wr.foldl (fun t p=>t.setIfInBounds p.1 p.2) t0
  | [],t0,tm,_,_,_,_,hr=>Array.ext_getElem? fun j=>hr j (by simp)
  | p :: wr,t0,tm,hs,hn,h,hl,hr=>by
    rw [List.map_cons,List.nodup_cons] at hn
    refine tmps_eq wr (t0.setIfInBounds p.1 p.2) tm (by simpa using hs) hn.2 (fun q hq=>h q (by simp [hq])) (fun q hq=>by simpa using hl q (by simp [hq])) fun j hj=>?_
    by_cases e:j=p.1
    · subst e
      rw [h p (by simp),Array.getElem?_setIfInBounds_self_of_lt (hl p (by simp))]
    · rw [Array.getElem?_setIfInBounds_ne (fun e2=>e e2.symm)]
      exact hr j (by rw [List.map_cons,List.mem_cons];rintro (h | h);exact e h;exact hj h)
theorem quiet_val {P:Program} {o:Oper} {a:Act} {C:World→Prop} {w:World} {v:Value} (h:(execOp a.eval o).run P w=.ok (.value v) w):o.quietAt P a C w v:=by
  unfold Oper.quietAt
  rw [h]
  exact ⟨rfl,rfl⟩
theorem quiet_l1 {P:Program} {C:World→Prop} {o:Oper} {a:Act} {ty:TypeId} {y:Operand} {ad:Addr} {v:Value} {w:World}
    (e:o.op=.load ty y) (hy:a.eval y=.pointer (some ad)) (ha:tAg P ty=some false) (hC:w.cell? ad=some v):o.quietAt P a C w v:=
  quiet_val (by
    have hld:=run_loadVar_one (P:=P) (ty:=ty) (w:=w) (a:=ad) (v:=v) ha hC
    simp [execOp,e,hy,Instr.loadAt,Instr.sureAddr,hld])
def AllV (tm:Array Value):List (Nat × Value)→Prop
  | []=>True
  | p::wr=>tm[p.1]? = some p.2∧AllV tm wr
theorem AllV.mem {tm:Array Value}:∀ {wr:List (Nat × Value)},AllV tm wr→∀ q∈wr,tm[q.1]? = some q.2
  | p::wr,h,q,hq=>by
    rcases List.mem_cons.1 hq with e | e
    · subst e;exact h.1
    · exact AllV.mem h.2 q e
theorem nodup_of:∀ {l:List Nat},nodupB l=true→l.Nodup
  | [],_=>List.nodup_nil
  | x::l,h=>by
    simp only [nodupB,Bool.and_eq_true,Bool.not_eq_true'] at h
    rw [List.nodup_cons]
    refine ⟨fun hm=>?_,nodup_of h.2⟩
    have:=List.contains_iff_mem.2 hm
    rw [h.1] at this
    cases this
theorem tmps_eq' (wr:List (Nat × Value)) (t0 tm:Array Value) (hs:tm.size=t0.size) (hn:nodupB (wr.map Prod.fst)=true) (hl:(wr.map Prod.fst).all (fun j=>Nat.blt j t0.size)=true) (h:AllV tm wr)
    (hr:∀ j,j∉wr.map Prod.fst→tm[j]? = t0[j]?):tm=wr.foldl (fun t p=>t.setIfInBounds p.1 p.2) t0:=
  tmps_eq wr t0 tm hs (nodup_of hn) h.mem (fun q hq=>by
    have:=List.all_eq_true.1 hl q.1 (List.mem_map.2 ⟨q,hq,rfl⟩)
    exact Nat.le_of_ble_eq_true this) hr
end GoForm
end

section
set_option linter.all false
set_option maxRecDepth 100000
open Go Go.Rx Go.Proofs Go.RowKit
namespace GoForm
structure TD {β:Type} (ops:Array Oper) (n jc:Nat) (ds:Nat→Nat) (dep:Nat→Bool) (val:β→Nat→Value) (Post:β→World→Prop) (w0:World) (a0:Act) (f:Nat→Bool) (a:Act) (w:World) (V:β):Prop where
  sz:a.tmps.size=a0.tmps.size
  df:a.defers=a0.defers
  bel:Below w0.heap.size w0 w
  vals:∀ i,i<n→f i=true→a.tmps[ds i]? = some (val V i)
  rest:∀ j,(∀ i,i<n→ds i≠j)→a.tmps[j]? = a0.tmps[j]?
  dj:∀ i,i<n→dep i=true→f i=true→f jc=true
  post:f jc=true→Post V w
  cl:∀ i o,ops[i]? = some o→f i=true→∀ e∈o.after,Region.binds .any e=true→f e.on=true
theorem wp_region_call {β:Type} {P:Program} {id:Nat} {Q:Exit→Act→World→Prop} {ops:Array Oper} {a0:Act} {w:World} (hm:P.follows .mixedOrders=true)
    (n jc:Nat) (ds:Nat→Nat) (dep:Nat→Bool) (val:β→Nat→Value) (V0:β) (Post:β→World→Prop) (hn:ops.size=n+1)
    (hback:∀ (i:Nat) (o:Oper),ops[i]? = some o→∀ e∈o.after,Region.binds .any e=true→e.on<i)
    (hp:∀ V i o,i<n→i≠jc→ops[i]? = some o→o.guard=none∧o.dst=some (ds i)∧ds i<a0.tmps.size∧∀ a,(∀ e∈o.after,Region.binds .any e=true→a.tmps[ds e.on]? = some (val V e.on))→
      (∀ j,(∀ i,i<n→ds i≠j)→a.tmps[j]? = a0.tmps[j]?)→∀ w',Below w.heap.size w w'→o.quietAt P a (fun w''=>w''=w') w' (val V i))
    (hc:∃ o,ops[jc]? = some o∧o.guard=none∧o.dst=some (ds jc)∧ds jc<a0.tmps.size∧∀ V (a:Act),(∀ e∈o.after,Region.binds .any e=true→a.tmps[ds e.on]? = some (val V e.on))→
      (∀ j,(∀ i,i<n→ds i≠j)→a.tmps[j]? = a0.tmps[j]?)→∀ w',Below w.heap.size w w'→∃ g args,(execOp a.eval o).run P w'=.ok (.enter g args) w'∧Calls P g args w' fun e w''=>∃ V',e=.returned (val V' jc)∧Post V' w''∧Below w'.heap.size w' w'')
    (hdep:∀ i V V',dep i=false→val V i=val V' i) (hdj:∀ i o,i<n→dep i=true→i≠jc→ops[i]? = some o→∃ e∈o.after,Region.binds .any e=true∧dep e.on=true)
    (hinj:∀ i i',i<n→i'<n→ds i=ds i'→i=i') (hjc:jc<n) (hpost:∀ V w' w'',Post V w'→Below w'.heap.size w' w''→Post V w'')
    (hl:∃ o,ops[n]? = some o∧o.guard=none∧(∀ f:Nat→Bool,(∀ e∈o.after,Region.binds .any e=true→f e.on=true)→(∀ i o,ops[i]? = some o→f i=true→∀ e∈o.after,Region.binds .any e=true→f e.on=true)→∀ i,i<n→f i=true)∧∀ V (a:Act) w',a.tmps.size=a0.tmps.size→a.defers=a0.defers→Below w.heap.size w w'→(∀ i,i<n→a.tmps[ds i]? = some (val V i))→
      (∀ j,(∀ i,i<n→ds i≠j)→a.tmps[j]? = a0.tmps[j]?)→Post V w'→o.wp P a w' (fun a' w''=>Q .normal a' w'') Q):(Code.region id ops true).wp P Q a0 w:=by
  have hdr:Below w.heap.size w w.drew:=(Below.refl _ w).drew
  refine wp_region_inv hm (fun f a w'=>(f n=true∧(∀ i,i<n→f i=true)∧Q .normal a w')∨(f n=false∧∃ V,TD ops n jc ds dep val Post w a0 f a w' V)) hback (.inr ⟨rfl,V0,rfl,rfl,hdr,by simp,fun _ _=>rfl,by simp,by simp,by simp⟩) ?_ ?_
  · rintro f a w1 i o hI ho hf hdp
    have hin:i<n+1:=by rw [← hn];exact (Array.getElem?_eq_some_iff.1 ho).1
    rcases hI with ⟨h1,h2,-⟩ | ⟨hfn,V,S⟩
    · exfalso
      by_cases e:i=n
      · rw [e,h1] at hf;cases hf
      · rw [h2 i (by omega)] at hf;cases hf
    by_cases en:i=n
    · obtain ⟨o',q1,q2,q3,q4⟩:=hl
      rw [en] at ho
      rw [q1] at ho;cases ho
      have hall:=q3 f hdp S.cl
      refine wpOp_of (i:=i) (by rw [en];exact q1) q2 ?_
      have:=q4 V a w1 S.sz S.df S.bel (fun j hj=>S.vals j hj (hall j hj)) S.rest (S.post (hall jc hjc))
      have e2:(fun (a':Act) (w'':World)=>Q .normal a' w'')=_:=rfl
      exact Oper.wp_mono (fun a' w'' hq=>.inl ⟨if_pos en.symm,fun j hj=>(by show (if j=i then true else f j)=true;rw [if_neg (by omega)];exact hall j hj),hq⟩) this
    · have hi : i < n:=by omega
      by_cases ec:i=jc
      · obtain ⟨o',q1,q2,q3,q4,q5⟩:=hc
        rw [ec] at ho
        rw [q1] at ho;cases ho
        obtain ⟨g,args,r1,r2⟩:=q5 V a (fun e he hb=>S.vals e.on (by have:=hback jc o q1 e he hb;omega) (hdp e he hb)) S.rest w1 S.bel
        refine wpOp_of (i:=i) (by rw [ec];exact q1) q2 ?_
        unfold Oper.wp
        rw [r1]
        refine Calls.mono r2 ?_
        rintro _ w2 ⟨V',rfl,h1,h7⟩
        have ndj:∀ j,j<n→dep j=true→f j=true→False:=fun j hj h h'=>by have:=S.dj j hj h h';rw [← ec,hf] at this;cases this
        show (_∧_)∨_
        refine .inr ⟨(if_neg (fun e=>en e.symm)).trans hfn,V',?_⟩
        rw [q3]
        refine ⟨put_sz.trans S.sz,S.df,S.bel.trans (h7.mono S.bel.size),fun j hj h=>?_,fun j e1=>(put_ne (fun e=>e1 jc hjc e.symm)).trans (S.rest j e1),fun j hj e1 e2=>if_pos ec.symm,fun _=>h1,?_⟩
        rotate_left
        · exact fun j oj hj hfj e he hb=>by
            by_cases ej:e.on=i
            · exact if_pos ej
            · refine (if_neg ej).trans ?_
              by_cases ei:j=i
              · rw [ei,ec,q1] at hj;cases hj;exact hdp e he hb
              · have hfj:f j=true:=(by have h:=hfj;rw [if_neg ei] at h;exact h)
                exact S.cl j oj hj hfj e he hb
        by_cases ej:j=jc
        · rw [ej];exact put_eq (by rw [S.sz];exact q4)
        · rw [if_neg (by rw [ec];exact ej)] at h
          rw [put_ne (fun e=>ej (hinj j jc hj hjc e)),S.vals j hj h]
          cases hdj':dep j with
          | true=>exact (ndj j hj hdj' h).elim
          | false=>rw [hdep j V V' hdj']
      · obtain ⟨q2, q4,q5,q6⟩:=hp V i o hi ec ho
        have hQ:=q6 a (fun e he hb=>S.vals e.on (by have:=hback i o ho e he hb;omega) (hdp e he hb)) S.rest w1 S.bel
        refine wpOp_of ho q2 ?_
        have key:∀ u,u=val V i→((fun j=>if j=i then true else f j) n=true∧(∀ k,k<n→(fun j=>if j=i then true else f j) k=true)∧Q .normal (a.put o.dst u) w1)∨((fun j=>if j=i then true else f j) n=false∧∃ V,TD ops n jc ds dep val Post w a0 (fun j=>if j=i then true else f j) (a.put o.dst u) w1 V):=by
          intro u hu
          rw [hu]
          have : TD ops n jc ds dep val Post w a0 (fun j=>if j=i then true else f j) (a.put o.dst (val V i)) w1 V:=by
            rw [q4]
            refine ⟨put_sz.trans S.sz,S.df,S.bel,fun j hj h=>?_,fun j h1=>(put_ne (fun e=>h1 i hi e.symm)).trans (S.rest j h1),fun j hj h1 h2=>?_,fun h=>?_,?_⟩
            rotate_left 3
            · exact fun j oj hj hfj e he hb=>by
                by_cases ej:e.on=i
                · exact if_pos ej
                · refine (if_neg ej).trans ?_
                  by_cases ei:j=i
                  · rw [ei,ho] at hj;cases hj;exact hdp e he hb
                  · have hfj:f j=true:=(by have h:=hfj;rw [if_neg ei] at h;exact h)
                    exact S.cl j oj hj hfj e he hb
            · by_cases ej:j=i
              · subst ej;exact put_eq (by rw [S.sz];exact q5)
              · rw [if_neg ej] at h
                rw [put_ne (fun e=>ej (hinj j i hj hi e))]
                exact S.vals j hj h
            · rw [if_neg (fun e=>ec e.symm)]
              by_cases ej:j=i
              · subst ej
                obtain ⟨e,he,hb,hd⟩:=hdj j o hj h1 ec ho
                exact S.dj e.on (by have:=hback j o ho e he hb;omega) hd (hdp e he hb)
              · rw [if_neg ej] at h2;exact S.dj j hj h1 h2
            · rw [if_neg (fun e=>ec e.symm)] at h;exact S.post h
          exact .inr ⟨(if_neg (fun e=>en e.symm)).trans hfn,V,this⟩
        unfold Oper.quietAt at hQ
        unfold Oper.wp
        generalize (execOp a.eval o).run P w1=r at hQ ⊢
        cases r with
        | ok nx w'=>
          cases nx <;> simp only [Oper.quietUpon] at hQ <;> simp only [Oper.upon]
          case value u=>
            obtain ⟨e1,e2⟩:=hQ
            subst e1
            exact key _ e2
          case skip=>
            obtain ⟨e1,e2⟩:=hQ
            subst e1
            exact key _ e2.symm
          case enter g args=>
            obtain ⟨e1,hcl⟩:=hQ
            subst e1
            exact hcl.mono fun e w'' ⟨he,hw''⟩=>by subst he;rw [hw''];exact key _ rfl
        | halt x w'=>simp only [Oper.quietUpon] at hQ
  · rintro f a w1 hI hall
    rw [hn] at hall
    rcases hI with ⟨_,_,h⟩ | ⟨h,_⟩
    · exact h
    · rw [hall n (by omega)] at h;cases h
theorem op_storeat {P:Program} {Q:Exit→Act→World→Prop} {K:Act→World→Prop} {a:Act} {w:World} {o:Oper} {ty:TypeId} {t z:Operand} {b off:Nat} {cs:List Value} {arr:Array Value} {T:TypeId} (e:o.op=.store ty t z) (ht:a.eval t=.pointer (some ⟨b,off,none⟩)) (hz:a.eval z=.agg cs.toArray) (hs:tSz P ty=some cs.length)
    (hb:w.heap[b]? = some (.cells arr T (0,0))) (hfit:off+cs.length≤arr.size) (h1:∀ c∈cs,c.oneCell'=true)
    (hk:∀ w',w'.heap[b]? = some (.cells (arr.toList.take off++cs++arr.toList.drop (off+cs.length)).toArray T (0,0))→w.grownBy w' (some b)→K (a.put o.dst undef) w'):o.wp P a w K Q:=by
  have hst:=run_storeCells_at P b off T cs 0 arr w hb (by omega) h1
  simp only [Nat.add_zero] at hst
  have r2:(execOp a.eval o).run P w=.ok .skip (w.setRow b (arr.toList.take off++cs++arr.toList.drop (off+cs.length)).toArray):=by
    have hst:Sem.run P (storeCells ⟨b,off,none⟩ cs) w=Result.ok () (w.setRow b (arr.toList.take off++cs++arr.toList.drop (off+cs.length)).toArray):=hst
    simp [execOp,e,ht,hz,Instr.storeAt,Instr.sureAddr,storeVar,run_sizeOf_of hs,Value.cells,hst]
  unfold Oper.wp
  rw [r2]
  exact hk _ (setRow_heap w b arr _ T (0,0) hb) ⟨rfl,rfl,rfl,by simp,fun k _ hk=>setRow_other w b k _ (fun e=>hk (by rw [e]))⟩
end GoForm
end

section
set_option linter.all false
set_option maxRecDepth 100000
open Go Go.Rx Go.Proofs Go.RowKit
namespace GoForm
def fstC:Code→Code
  | .seq a _=>a
  | c=>c
def sndC:Code→Code
  | .seq _ b=>b
  | c=>c
noncomputable def code35:Code:=Tryz.f35.body.getD .skip
noncomputable abbrev cx35:Ctx Tryz.prog tb:=cx [c_77,c_78,c_79,c_80,c_63,c_81] []
def worC (x:World_) (h0 h1 h2 h3:Value):List Value:=[.int .i64 x.Settings.TimeStep,.int .i64 x.Settings.Gravity.X,.int .i64 x.Settings.Gravity.Y,.int .i64 x.Settings.Iterations,.int .i64 x.Settings.SleepSteps,h0,h1,h2,h3,.int .i64 x.NextID,.int .i64 x.Frame]
def worA (x:World_) (h0 h1 h2 h3:AV):List AV:=[.v (.int .i64 x.Settings.TimeStep),.v (.int .i64 x.Settings.Gravity.X),.v (.int .i64 x.Settings.Gravity.Y),.v (.int .i64 x.Settings.Iterations),.v (.int .i64 x.Settings.SleepSteps),h0,h1,h2,h3,.v (.int .i64 x.NextID),.v (.int .i64 x.Frame)]
def worZ:List Value:=[.int .i64 0,.int .i64 0,.int .i64 0,.int .i64 0,.int .i64 0,.slice none 0 0,.slice none 0 0,.slice none 0 0,.slice none 0 0,.int .i64 0,.int .i64 0]
structure Seen where
  p1:Option AV
  p2:Option AV
  h0:Option ABlk
  h1:Option ABlk
  h2:Option ABlk
  h3:Option ABlk
  h4:Option ABlk
  h5:Option ABlk
noncomputable def seen (L:LS):Seen:=⟨find 1 L.e,find 2 L.e,find 0 L.h,find 1 L.h,find 2 L.h,find 3 L.h,find 4 L.h,find 5 L.h⟩
noncomputable def run35 (x:World_):Option Seen:=
  exec cx35 (lvl cx35 6) (fun _=>false) (barF [(1,13),(5,5),(10,6)]) 56 (fstC code35) .n ⟨argSVs (cx [] []) [.d Ix.tWorld_] (x,()) 0,[],[],0,[]⟩ fun e L=>match e with
    | .normal=>exec cx35 (lvl cx35 6) (fun _=>false) (barF [(1,13),(5,5),(10,6)]) 56 (fstC (sndC code35)) .n L fun e L=>match e with
      | .normal=>some (seen L.av)
      | _=>none
    | _=>none
noncomputable def seen35 (x:World_) (r1:List Body) (r2:List Joint) (r3:List Contact) (r4:List PairKey):Seen:=
  ⟨some (.ptr 0 0),some (.ptr 1 0),some (.cells (worA x (.rw 2 20) (.rw 3 24) (.rw 4 7) (.rw 5 4))),some (.cells (worZ.map AV.v)),some (.cells (elC tb Ix.tBody r1)),some (.cells (elC tb Ix.tJoint r2)),some (.cells (elC tb Ix.tContact r3)),some (.cells (elC tb Ix.tPairKey r4))⟩
theorem run35_eq (x:World_):run35 x=Rx.Bind (slices_Clone x.Bodies) fun r1=>Rx.Bind (slices_Clone_78 x.Joints) fun r2=>Rx.Bind (slices_Clone_79 x.Contacts) fun r3=>Rx.Bind (slices_Clone_80 x.Overlaps) fun r4=>some (seen35 x r1 r2 r3 r4):=by
  kernel_rfl
end GoForm
end

section
set_option linter.all false
set_option maxRecDepth 100000
open Go Go.Rx Go.Proofs Go.RowKit
namespace GoForm
def RowW (w:World) (h:Value) (n sz:Nat) (xs:List Value):Prop:=
  xs.length=n*sz∧(∀ c∈xs,oneCell c=true)∧((xs=[]∧n=0∧∃ ad,h=.slice ad 0 0)∨∃ g cap arr T,h=.slice (some ⟨g,0,none⟩) n cap∧0<cap∧w.heap[g]? = some (.cells arr T (0,0))∧n≤cap∧cap*sz≤arr.size∧arr.toList.take (n*sz)=xs)
def rowB:Value→Option Nat
  | .slice (some a) _ cap=>if cap=0 then none else some a.block
  | _=>none
theorem heap_lt {w:World} {g:Nat} {o:Obj} (h:w.heap[g]? = some o):g<w.heap.size:=(Array.getElem?_eq_some_iff.1 h).1
theorem rowB_some {g n cap:Nat} (h:0<cap):rowB (.slice (some ⟨g,0,none⟩) n cap)=some g:=by
  simp [rowB];omega
theorem RowW.grown {w h n sz xs w' row} (r:RowW w h n sz xs) (hg:w.grownBy w' row) (hn:∀ g,rowB h=some g→some g≠row):RowW w' h n sz xs:=by
  obtain ⟨h1,h2,h3 | ⟨g,cap,arr,T,rfl,q1,q2,q3⟩⟩:=r
  · exact ⟨h1,h2,.inl h3⟩
  · exact ⟨h1,h2,.inr ⟨g,cap,arr,T,rfl,q1,(hg.block g (heap_lt q2) (hn g (rowB_some q1))).trans q2,q3⟩⟩
theorem RowW.below {w h n sz xs w'} (r:RowW w h n sz xs) (hb:Below w.heap.size w w'):RowW w' h n sz xs:=r.grown (below_grown hb) (by simp)
theorem RowW.lt {w h n sz xs} (r:RowW w h n sz xs):∀ g,rowB h=some g→g<w.heap.size:=by
  intro g hg
  obtain ⟨h1,h2,⟨-,-,ad,rfl⟩ | ⟨g',cap,arr,T,rfl,q1,q2,q3⟩⟩:=r
  · cases ad <;> simp [rowB] at hg
  · rw [rowB_some q1] at hg;cases hg;exact heap_lt q2
theorem RowW.one {w h n sz xs} (r:RowW w h n sz xs):oneCell h=true:=by
  obtain ⟨h1,h2,⟨-,-,ad,rfl⟩ | ⟨g',cap,arr,T,rfl,q1,q2,q3⟩⟩:=r <;> rfl
theorem RowW.blk {w h n sz xs} (r:RowW w h n sz xs) (hn:0<n):∃ g cap arr T,h=.slice (some ⟨g,0,none⟩) n cap∧rowB h=some g∧w.heap[g]? = some (.cells arr T (0,0))∧n≤cap∧cap*sz≤arr.size∧arr.toList.take (n*sz)=xs:=by
  obtain ⟨h1,h2,⟨-,h0,-⟩ | ⟨g,cap,arr,T,rfl,q1,q2,q3⟩⟩:=r
  · omega
  · exact ⟨g,cap,arr,T,rfl,rowB_some q1,q2,q3⟩
theorem RowW.hdr {w h n sz xs} (r:RowW w h n sz xs):∃ ad cap,h=.slice ad n cap:=by
  obtain ⟨h1,h2,⟨-,rfl,ad,rfl⟩ | ⟨g',cap,arr,T,rfl,q1,q2,q3⟩⟩:=r <;> exact ⟨_,_,rfl⟩
theorem RowW.store {w h n sz xs w' off} {cs:List Value} (r:RowW w h n sz xs) {g:Nat} {arr:Array Value} {T:TypeId} (hn:0<n) (hg:rowB h=some g) (hb:w.heap[g]? = some (.cells arr T (0,0))) (hfit:off+cs.length≤n*sz) (h1:∀ c∈cs,oneCell c=true)
    (hw:w'.heap[g]? = some (.cells (arr.toList.take off++cs++arr.toList.drop (off+cs.length)).toArray T (0,0))):RowW w' h n sz (xs.take off++cs++xs.drop (off+cs.length)):=by
  obtain ⟨r1,r2,⟨-,h0,-⟩ | ⟨g',cap,arr',T',rfl,q1,q2,q3,q4,q5⟩⟩:=r
  · omega
  · rw [rowB_some q1] at hg;cases hg
    rw [hb] at q2;cases q2
    have hcs:n*sz≤cap*sz:=Nat.mul_le_mul_right _ q3
    have hal:arr.toList.length=arr.size:=by simp
    refine ⟨?_,?_,.inr ⟨g,cap,_,T,rfl,q1,hw,q3,?_,?_⟩⟩
    · simp only [List.length_append,List.length_take,List.length_drop];omega
    · intro c hc
      rcases List.mem_append.1 hc with hc | hc
      · rcases List.mem_append.1 hc with hc | hc
        · exact r2 c (List.mem_of_mem_take hc)
        · exact h1 c hc
      · exact r2 c (List.mem_of_mem_drop hc)
    · simp only [List.size_toArray,List.length_append,List.length_take,List.length_drop];omega
    · subst q5
      have hA:(arr.toList.take off++cs).length=off+cs.length:=by simp only [List.length_append,List.length_take];omega
      rw [List.take_append,hA,List.take_of_length_le (by omega),List.take_take,List.drop_take,show min off (n*sz)=off by omega]
def ImF (M:Mem) (w:World):Prop:=Imm M w∧∀ b o u,M b o=some u→w.frozen? ⟨b,o,none⟩=false
theorem ImF.below {M w w'} (h:ImF M w) (hb:Below w.heap.size w w'):ImF M w':=⟨h.1.below hb,fun b o u e=>(frozen_of (hb.block b (h.1.lt e))).trans (h.2 b o u e)⟩
theorem ImF.grown {M w w' g} (h:ImF M w) (hg:w.grownBy w' (some g)) (hm:∀ o,M g o=none):ImF M w':=⟨imm_grown h.1 hg hm,fun b o u e=>(frozen_of (hg.block b (h.1.lt e) (fun e2=>by cases e2;rw [hm o] at e;cases e))).trans (h.2 b o u e)⟩
structure OS (B:Nat) (mo M:Mem) (obs:List (Option Nat)) (w:World):Prop where
  io:Imm mo w
  iM:ImF M w
  new:∀ b o u,M b o=some u→B≤b
  ob:∀ g,some g∈obs→B≤g∧g<w.heap.size∧(∀ o,M g o=none)∧∀ o,mo g o=none
theorem OS.below {B mo M obs w w'} (h:OS B mo M obs w) (hb:Below w.heap.size w w'):OS B mo M obs w':=
  ⟨h.io.below hb,h.iM.below hb,h.new,fun g hg=>⟨(h.ob g hg).1,Nat.lt_of_lt_of_le (h.ob g hg).2.1 hb.size,(h.ob g hg).2.2⟩⟩
theorem OS.store {B mo M obs w w' g} (h:OS B mo M obs w) (hm:some g∈obs) (hg:w.grownBy w' (some g)):OS B mo M obs w':=
  ⟨imm_grown h.io hg (h.ob g hm).2.2.2,h.iM.grown hg (h.ob g hm).2.2.1,h.new,fun g hg'=>⟨(h.ob g hg').1,Nat.lt_of_lt_of_le (h.ob g hg').2.1 hg.size,(h.ob g hg').2.2⟩⟩
def joinM (M M1:Mem):Mem:=fun b o=>match M1 b o with | some u=>some u | none=>M b o
theorem joinM_r (M M1:Mem):Mem.le M1 (joinM M M1):=fun b o u e=>by unfold joinM;rw [e]
theorem joinM_l {M M1:Mem} {w:World} (h:Imm M w) (h1:Imm M1 w):Mem.le M (joinM M M1):=fun b o u e=>by
  unfold joinM
  cases e1:M1 b o with
  | none=>exact e
  | some u1=>
    have a:=h b o u e
    have b':=h1 b o u1 e1
    rw [a] at b';cases b';rfl
theorem joinM_of {M M1:Mem} {b o u} (h:joinM M M1 b o=some u):M b o=some u∨M1 b o=some u:=by
  unfold joinM at h
  cases e1:M1 b o with
  | none=>rw [e1] at h;exact .inl h
  | some u1=>rw [e1] at h;exact .inr h
theorem joinF {M M1:Mem} {w:World} (h:ImF M w) (h1:ImF M1 w):ImF (joinM M M1) w:=⟨fun b o u e=>(joinM_of e).elim (h.1 b o u) (h1.1 b o u),fun b o u e=>(joinM_of e).elim (h.2 b o u) (h1.2 b o u)⟩
theorem OS.join {B mo M obs w M1} (h:OS B mo M obs w) (hi:ImF M1 w) (hn:∀ b o u,M1 b o=some u→B≤b) (ho:∀ g,some g∈obs→∀ o,M1 g o=none):OS B mo (joinM M M1) obs w:=
  ⟨h.io,joinF h.iM hi,fun b o u e=>(joinM_of e).elim (h.new b o u) (hn b o u),fun g hg=>⟨(h.ob g hg).1,(h.ob g hg).2.1,fun o=>(by
    cases e:joinM M M1 g o with
    | none=>rfl
    | some u => rcases joinM_of e with e | e
                · rw [(h.ob g hg).2.2.1 o] at e;cases e
                · rw [ho g hg o] at e;cases e),(h.ob g hg).2.2.2⟩⟩
def Apart:List (Option Nat)→Prop
  | []=>True
  | o::l=>(∀ g,o=some g→some g∉l)∧Apart l
structure Part (E:Ix) (sz:Nat) (mo M:Mem) (l:List (tb.T E)) (i:Nat) (xs:List Value):Prop where
  len:xs.length=l.length*sz
  new:Reps M noNames (elC tb E (l.take i)) (xs.take (i*sz))
  old:Reps mo noNames (elC tb E (l.drop i)) (xs.drop (i*sz))
theorem Part.mono {E sz mo M M' l i xs} (h:Part E sz mo M l i xs) (hm:Mem.le M M'):Part E sz mo M' l i xs:=⟨h.len,h.new.mono hm,h.old⟩
theorem elC_cons (E:Ix) (x:tb.T E) (l:List (tb.T E)):elC tb E (x::l)=(tb.el E x).cells++elC tb E l:=by
  simp [elC]
theorem elC_append (E:Ix) (l l':List (tb.T E)):elC tb E (l++l')=elC tb E l++elC tb E l':=by
  simp [elC]
theorem Reps.split {m bl}:∀ {a b:List AV} {xs},Reps m bl (a++b) xs→Reps m bl a (xs.take a.length)∧Reps m bl b (xs.drop a.length)
  | [],b,xs,h=>by simpa using ⟨Reps.nil,h⟩
  | x::a,b,_,.cons h t=>by
    obtain ⟨h1,h2⟩:=Reps.split t
    exact ⟨by simpa using .cons h h1,by simpa using h2⟩
theorem Part.next {E sz mo M l i xs x} (h:Part E sz mo M l i xs) (hx:l[i]? = some x) (hsz:∀ x,(tb.el E x).cells.length=sz):Reps mo noNames (tb.el E x).cells ((xs.drop (i*sz)).take sz)∧((xs.drop (i*sz)).take sz).length=sz:=by
  have hi:i<l.length:=(List.getElem?_eq_some_iff.1 hx).1
  have hd:l.drop i=x::l.drop (i+1):=by
    rw [List.drop_eq_getElem_cons hi]
    congr 1
    rw [List.getElem?_eq_getElem hi] at hx
    exact Option.some.inj hx
  have h2:=h.old
  rw [hd,elC_cons] at h2
  have:=(Reps.split h2).1
  rw [hsz] at this
  refine ⟨this,?_⟩
  have hl:=h.len
  have:(i+1)*sz≤l.length*sz:=Nat.mul_le_mul_right _ hi
  rw [Nat.add_mul] at this
  rw [List.length_take,List.length_drop];omega
theorem Part.step {E sz mo M l i xs x} {cs:List Value} (h:Part E sz mo M l i xs) (hx:l[i]? = some x) (hsz:∀ x,(tb.el E x).cells.length=sz) (hc:Reps M noNames (tb.el E x).cells cs):Part E sz mo M l (i+1) (xs.take (i*sz)++cs++xs.drop (i*sz+cs.length)):=by
  have hi:i<l.length:=(List.getElem?_eq_some_iff.1 hx).1
  have hcl:cs.length=sz:=by rw [← hc.length,hsz]
  have hl:=h.len
  have hm:(i+1)*sz≤l.length*sz:=Nat.mul_le_mul_right _ hi
  rw [Nat.add_mul] at hm
  have htl:(xs.take (i*sz)).length=i*sz:=by rw [List.length_take];omega
  have hd:l.drop i=x::l.drop (i+1):=by
    rw [List.drop_eq_getElem_cons hi]
    congr 1
    rw [List.getElem?_eq_getElem hi] at hx
    exact Option.some.inj hx
  refine ⟨?_,?_,?_⟩
  · simp only [List.length_append,List.length_take,List.length_drop];omega
  · have e1:(i+1)*sz=(xs.take (i*sz)++cs).length:=by rw [List.length_append,htl,hcl,Nat.add_mul];omega
    rw [e1,List.take_left,List.take_succ,hx]
    show Reps M noNames (elC tb E (l.take i++[x])) _
    rw [elC_append,elC_cons]
    exact h.new.append (by simpa [elC] using hc)
  · have e1:(i+1)*sz=(xs.take (i*sz)++cs).length:=by rw [List.length_append,htl,hcl,Nat.add_mul];omega
    rw [e1,List.drop_left]
    have h2:=h.old
    rw [hd,elC_cons] at h2
    have:=(Reps.split h2).2
    rw [hsz,List.drop_drop] at this
    rw [hcl]
    exact this
theorem reps_any {m m' bl bl'}:∀ {L:List AV} {xs},(∀ a∈L,∃ u,a=.v u)→Reps m bl L xs→Reps m' bl' L xs
  | [],_,_,.nil=>.nil
  | a::L,_,h,.cons h1 t=>by
    obtain ⟨u,rfl⟩:=h a (by simp)
    have:=h1.eq_v
    subst this
    exact .cons .v (reps_any (fun b hb=>h b (by simp [hb])) t)
def unV:AV→Value
  | .v u=>u
  | _=>undef
theorem elC_v {E:Ix} (h:∀ x,(tb.el E x).cells=(((tb.el E x).cells.map unV).map AV.v)) (l:List (tb.T E)):∀ a∈elC tb E l,∃ u,a=.v u:=by
  intro a ha
  simp only [elC,List.mem_flatMap,List.mem_map] at ha
  obtain ⟨y,⟨x,hx,rfl⟩,ha⟩:=ha
  rw [h x] at ha
  obtain ⟨u,-,rfl⟩:=List.mem_map.1 ha
  exact ⟨u,rfl⟩
theorem joint_v (l:List Joint):∀ a∈elC tb Ix.tJoint l,∃ u,a=.v u:=elC_v (E:=Ix.tJoint) (fun _=>rfl) l
theorem key_v (l:List PairKey):∀ a∈elC tb Ix.tPairKey l,∃ u,a=.v u:=elC_v (E:=Ix.tPairKey) (fun _=>rfl) l
end GoForm
end

section
set_option linter.all false
set_option maxRecDepth 100000
open Go Go.Rx Go.Proofs Go.RowKit
namespace GoForm
def noMem:Mem:=fun _ _=>none
def BoxW (w:World) (b:Nat) (cs:List Value):Prop:=∃ arr T rest,w.heap[b]? = some (.cells arr T (0,0))∧arr.toList=cs++rest
theorem BoxW.cell {w b cs} (h:BoxW w b cs) (j:Nat) {v:Value} (hj:cs[j]? = some v):w.cell? ⟨b,j,none⟩=some v:=by
  obtain ⟨arr,T,rest,h1,h2⟩:=h
  rw [cell_of_blk h1,← Array.getElem?_toList,h2,List.getElem?_append_left (List.getElem?_eq_some_iff.1 hj).1];exact hj
theorem BoxW.lt {w b cs} (h:BoxW w b cs):b<w.heap.size:=let ⟨_,_,_,h1,_⟩:=h;heap_lt h1
theorem BoxW.grown {w w' b cs row} (h:BoxW w b cs) (hg:w.grownBy w' row) (hn:some b≠row):BoxW w' b cs:=by
  obtain ⟨arr,T,rest,h1,h2⟩:=h
  exact ⟨arr,T,rest,(hg.block b (heap_lt h1) hn).trans h1,h2⟩
theorem BoxW.below {w w' b cs} (h:BoxW w b cs) (hb:Below w.heap.size w w'):BoxW w' b cs:=h.grown (below_grown hb) (by simp)
structure CL (x:World_) (W0:World) (mo M:Mem) (b0 b1:Nat) (h0 h1 h2 h3:Value) (xb xj xc xo:List Value) (w:World):Prop where
  bel:Below W0.heap.size W0 w
  os:OS W0.heap.size mo M [some b0,some b1,rowB h0,rowB h1,rowB h2,rowB h3] w
  ap:Apart [some b0,some b1,rowB h0,rowB h1,rowB h2,rowB h3]
  box0:BoxW w b0 (worC x h0 h1 h2 h3)
  box1:BoxW w b1 worZ
  rB:RowW w h0 x.Bodies.length 20 xb
  rJ:RowW w h1 x.Joints.length 24 xj
  rC:RowW w h2 x.Contacts.length 7 xc
  rO:RowW w h3 x.Overlaps.length 4 xo
theorem CL.below {x W0 mo M b0 b1 h0 h1 h2 h3 xb xj xc xo w w'} (h:CL x W0 mo M b0 b1 h0 h1 h2 h3 xb xj xc xo w) (hb:Below w.heap.size w w'):CL x W0 mo M b0 b1 h0 h1 h2 h3 xb xj xc xo w':=
  ⟨h.bel.trans (hb.mono h.bel.size),h.os.below hb,h.ap,h.box0.below hb,h.box1.below hb,h.rB.below hb,h.rJ.below hb,h.rC.below hb,h.rO.below hb⟩
theorem CL.join {x W0 mo M M1 b0 b1 h0 h1 h2 h3 xb xj xc xo w} (h:CL x W0 mo M b0 b1 h0 h1 h2 h3 xb xj xc xo w) (hi:ImF M1 w) (hn:∀ b o u,M1 b o=some u→W0.heap.size≤b) (ho:∀ g,some g∈[some b0,some b1,rowB h0,rowB h1,rowB h2,rowB h3]→∀ o,M1 g o=none):CL x W0 mo (joinM M M1) b0 b1 h0 h1 h2 h3 xb xj xc xo w:=
  ⟨h.bel,h.os.join hi hn ho,h.ap,h.box0,h.box1,h.rB,h.rJ,h.rC,h.rO⟩
theorem rowOf {B m0 hp m bl w id sz n v} {l:List AV} (hs:WSim B m0 hp m bl w) (hf:find id hp=some (.cells l)) (hr:Rep m bl (.rw id sz) v) (hl:l.length=n*sz) (hz:0<sz):
    ∃ xs,RowW w v n sz xs∧Reps m bl l xs∧∀ g,rowB v=some g→∃ k,bl id=some (.blk g k):=by
  generalize hq:AV.rw id sz=z at hr
  cases hr <;> cases hq
  case rwnil ad hnil=>
    rcases hs.blk id _ hf with ⟨-,h⟩ | ⟨b,n1,arr,T,pre,rest,h,-⟩
    · subst h
      have hn:n=0:=by
        rcases Nat.eq_zero_or_pos n with h | h
        · exact h
        · have:=Nat.mul_pos h hz;simp at hl;omega
      subst hn
      exact ⟨[],⟨by simp,by simp,.inl ⟨rfl,rfl,ad,rfl⟩⟩,.nil,fun g hg=>by cases ad <;> simp [rowB] at hg⟩
    · rw [hnil] at h;cases h
  case rw b n1 cap len hcap hbl hlen hsz=>
    rcases hs.blk id _ hf with ⟨h,-⟩ | ⟨b',n',arr,T,pre,rest,h1,h2,h3,h4,h5,h6⟩
    · rw [hbl] at h;cases h
    rw [hbl] at h1
    cases h1
    have hpl:=h5.length
    have h31:arr.size=n1.1:=congrArg Prod.fst h3
    have h32:pre.length=n1.2:=congrArg Prod.snd h3
    have hlen2:len=n:=by
      have e1:len*sz=n*sz:=by rw [← hl,hpl,h32];exact hlen
      exact Nat.eq_of_mul_eq_mul_right hz e1
    subst hlen2
    have hxl:pre.length=len*sz:=by rw [h32];exact hlen.symm
    rcases Nat.eq_zero_or_pos cap with hc | hc
    · subst hc
      have hn:len=0:=by omega
      subst hn
      have:pre=[]:=List.length_eq_zero_iff.1 (by simpa using hxl)
      subst this
      exact ⟨[],⟨by simp,by simp,.inl ⟨rfl,rfl,_,rfl⟩⟩,h5,fun g hg=>by simp [rowB] at hg⟩
    · exact ⟨pre,⟨hxl,h6,.inr ⟨b,cap,arr,T,rfl,hc,h2,hcap,by omega,by rw [h4,← hxl,List.take_left]⟩⟩,h5,fun g hg=>by rw [rowB_some hc] at hg;cases hg;exact ⟨_,hbl⟩⟩
theorem boxOf {B m0 hp m bl w id v} {l:List AV} (hs:WSim B m0 hp m bl w) (hf:find id hp=some (.cells l)) (hr:Rep m bl (.ptr id 0) v):
    ∃ b n cs,v=.pointer (some ⟨b,0,none⟩)∧bl id=some (.blk b n)∧BoxW w b cs∧Reps m bl l cs∧∀ c∈cs,oneCell c=true:=by
  cases hr with
  | ptr hb=>
    rcases hs.blk id _ hf with ⟨h,-⟩ | ⟨b',n',arr,T,pre,rest,h1,h2,h3,h4,h5,h6⟩
    · rw [hb] at h;cases h
    rw [hb] at h1;cases h1
    exact ⟨_,_,pre,rfl,hb,⟨arr,T,rest,h2,h4⟩,h5,h6⟩
theorem slC_some {l:List Body} (h:l.length≤549755813888):slices_Clone l=some l:=by
  unfold slices_Clone
  rw [Alike_of (by intro h;subst h;rfl),Chk_of (by omega)]
theorem slC78_some {l:List Joint} (h:l.length≤549755813888):slices_Clone_78 l=some l:=by
  unfold slices_Clone_78
  rw [Alike_of (by intro h;subst h;rfl),Chk_of (by omega)]
theorem slC79_some {l:List Contact} (h:l.length≤549755813888):slices_Clone_79 l=some l:=by
  unfold slices_Clone_79
  rw [Alike_of (by intro h;subst h;rfl),Chk_of (by omega)]
theorem slC80_some {l:List PairKey} (h:l.length≤549755813888):slices_Clone_80 l=some l:=by
  unfold slices_Clone_80
  rw [Alike_of (by intro h;subst h;rfl),Chk_of (by omega)]
structure Lens (x:World_):Prop where
  b:x.Bodies.length≤549755813888
  j:x.Joints.length≤549755813888
  c:x.Contacts.length≤549755813888
  o:x.Overlaps.length≤549755813888
theorem run35_some {x:World_} (h:Lens x):run35 x=some (seen35 x x.Bodies x.Joints x.Contacts x.Overlaps):=by
  rw [run35_eq,slC_some h.b,slC78_some h.j,slC79_some h.c,slC80_some h.o];rfl
theorem code35_eq:code35=.seq (fstC code35) (.seq (fstC (sndC code35)) (sndC (sndC code35))):=by kernel_rfl
theorem worA_inv {m bl x a0 a1 a2 a3 cs} (h:Reps m bl (worA x a0 a1 a2 a3) cs):∃ h0 h1 h2 h3,cs=worC x h0 h1 h2 h3∧Rep m bl a0 h0∧Rep m bl a1 h1∧Rep m bl a2 h2∧Rep m bl a3 h3:=by
  unfold worA at h
  rcases h with _ | ⟨e0,h⟩;rcases h with _ | ⟨e1,h⟩;rcases h with _ | ⟨e2,h⟩;rcases h with _ | ⟨e3,h⟩;rcases h with _ | ⟨e4,h⟩;rcases h with _ | ⟨q0,h⟩;rcases h with _ | ⟨q1,h⟩;rcases h with _ | ⟨q2,h⟩;rcases h with _ | ⟨q3,h⟩;rcases h with _ | ⟨e5,h⟩;rcases h with _ | ⟨e6,h⟩;rcases h with _ | _
  obtain rfl:=e0.eq_v
  obtain rfl:=e1.eq_v
  obtain rfl:=e2.eq_v
  obtain rfl:=e3.eq_v
  obtain rfl:=e4.eq_v
  obtain rfl:=e5.eq_v
  obtain rfl:=e6.eq_v
  exact ⟨_,_,_,_,rfl,q0,q1,q2,q3⟩
set_option maxHeartbeats 1000000 in
theorem clone_head {x:World_} (hx:Lens x) {m:Mem} {v:Value} {w:World} (hi:Imm m w) (hr:Rep m noNames (e_World_ x) v) {Q:Exit→Act→World→Prop}
    (k:∀ a w1 mo b0 b1 h0 h1 h2 h3 xb xj xc xo,a.defers=[]→a.tmps.size=56→a.tmps.getD 1 undef=.pointer (some ⟨b0,0,none⟩)→a.tmps.getD 2 undef=.pointer (some ⟨b1,0,none⟩)→
      CL x w mo noMem b0 b1 h0 h1 h2 h3 xb xj xc xo w1→Mem.le m mo→Part Ix.tBody 20 mo noMem x.Bodies 0 xb→Reps noMem noNames (elC tb Ix.tJoint x.Joints) xj→Part Ix.tContact 7 mo noMem x.Contacts 0 xc→Reps noMem noNames (elC tb Ix.tPairKey x.Overlaps) xo→
      (sndC (sndC code35)).wp Tryz.prog Q a w1):code35.wp Tryz.prog Q { tmps:=#[v]++Array.replicate 55 undef,defers:=[] } w:=by
  have hav:avE [] (argSVs (cx [] []) [.d Ix.tWorld_] (x,()) 0)=envFrom 0 [e_World_ x]:=by kernel_rfl
  have s0:Sim 56 w m (⟨argSVs (cx [] []) [.d Ix.tWorld_] (x,()) 0,[],[],0,[]⟩:SLS tb).av [] { tmps:=#[v]++Array.replicate 55 undef,defers:=[] } w m noNames:=
    ⟨rfl,by simp,Below.refl _ _,⟨hi,Mem.le.refl m,fun _ _ _ h=>.inl h,(by intro id l h;cases h),(by intro id l p h;cases h),(by simp [noNames]),(by simp [noNames]),trivial⟩,(by
      show EnvRep m noNames (avE [] (argSVs (cx [] []) [.d Ix.tWorld_] (x,()) 0)) _
      rw [hav];exact EnvRep.args (.cons hr .nil) 55),trivial,fun d _=>rfl⟩
  have hi0:RI [] (argSVs (cx [] []) [.d Ix.tWorld_] (x,()) 0:SEnv tb):=by
    intro t G y hy
    have hk:keepE (tb:=tb) [] (argSVs (cx [] []) [.d Ix.tWorld_] (x,()) 0)=true:=rfl
    have:=(keepE_e hk _ (find_mem hy)).2
    cases this
  have key:=exec_ok (lvl_ok 6) (L:=(⟨argSVs (cx [] []) [.d Ix.tWorld_] (x,()) 0,[],[],0,[]⟩:SLS tb)) hi0 (run35_some hx)
  rw [code35_eq]
  refine wp_seq (key _ _ _ _ _ _ _ s0 _ ?_)
  rintro e L' a' w' m' bl' ⟨L1,h',hi1,x1,t1⟩ s1
  cases e with
  | exit j=>cases h'
  | ret=>cases h'
  | normal=>
    obtain ⟨m1,bl1,s1⟩:=t1 _ _ _ _ _ _ _ _ s1
    have key2:=exec_ok (lvl_ok 6) hi1 h'
    refine wp_seq (key2 _ _ _ _ _ _ _ s1 _ ?_)
    rintro e L'' a2 w2 m2 bl2 ⟨L2,h2,hi2,x2,t2⟩ s2
    cases e with
    | exit j=>cases h2
    | ret=>cases h2
    | normal=>
      obtain ⟨mo,bl,s⟩:=t2 _ _ _ _ _ _ _ _ s2
      have h2:seen L2.av=seen35 x x.Bodies x.Joints x.Contacts x.Overlaps:=Option.some.inj h2
      have p1:find 1 L2.av.e=some (.ptr 0 0):=congrArg Seen.p1 h2
      have p2:find 2 L2.av.e=some (.ptr 1 0):=congrArg Seen.p2 h2
      have g0:=congrArg Seen.h0 h2
      have g1:=congrArg Seen.h1 h2
      have g2:=congrArg Seen.h2 h2
      have g3:=congrArg Seen.h3 h2
      have g4:=congrArg Seen.h4 h2
      have g5:=congrArg Seen.h5 h2
      obtain ⟨b0,n0,c0,v0,l0,B0,R0,O0⟩:=boxOf s.ws g0 (s.env 1 _ p1)
      obtain ⟨b1,n1,c1,v1,l1,B1,R1,O1⟩:=boxOf s.ws g1 (s.env 2 _ p2)
      obtain ⟨h0,h1,h2,h3,rfl,q0,q1,q2,q3⟩:=worA_inv R0
      obtain rfl:=repsV_eq R1
      obtain ⟨xb,rB,pB,nB⟩:=rowOf s.ws g2 q0 (n:=x.Bodies.length) (elC_len Ix.tBody 20 _ fun _=>rfl) (by decide)
      obtain ⟨xj,rJ,pJ,nJ⟩:=rowOf s.ws g3 q1 (n:=x.Joints.length) (elC_len Ix.tJoint 24 _ fun _=>rfl) (by decide)
      obtain ⟨xc,rC,pC,nC⟩:=rowOf s.ws g4 q2 (n:=x.Contacts.length) (elC_len Ix.tContact 7 _ fun _=>rfl) (by decide)
      obtain ⟨xo,rO,pO,nO⟩:=rowOf s.ws g5 q3 (n:=x.Overlaps.length) (elC_len Ix.tPairKey 4 _ fun _=>rfl) (by decide)
      have nm:∀ id id' b k k',bl id=some (.blk b k)→bl id'=some (.blk b k')→id=id':=s.ws.inj
      refine k a2 w2 mo b0 b1 h0 h1 h2 h3 xb xj xc xo s.defers s.size v0 v1 ⟨s.below,⟨s.ws.imm,⟨(fun b o u e=>by cases e),(fun b o u e=>by cases e)⟩,(fun b o u e=>by cases e),fun g hg=>?_⟩,?_,B0,B1,rB,rJ,rC,rO⟩ s.ws.le ⟨?_,?_,?_⟩ (reps_any (joint_v _) pJ) ⟨?_,?_,?_⟩ (reps_any (key_v _) pO)
      · have:∃ id k,bl id=some (.blk g k):=by
          simp only [List.mem_cons,Option.some.injEq,List.not_mem_nil,or_false] at hg
          rcases hg with rfl | rfl | hg | hg | hg | hg
          · exact ⟨_,_,l0⟩
          · exact ⟨_,_,l1⟩
          · exact ⟨_,nB g hg.symm⟩
          · exact ⟨_,nJ g hg.symm⟩
          · exact ⟨_,nC g hg.symm⟩
          · exact ⟨_,nO g hg.symm⟩
        obtain ⟨id,k,hk⟩:=this
        obtain ⟨z1,z2,z3⟩:=s.ws.own id g k hk
        exact ⟨z1,z2,fun _=>rfl,z3⟩
      · have d:∀ {i j:Nat} {g:Nat},(∃ k,bl i=some (.blk g k))→(∃ k,bl j=some (.blk g k))→i=j:=fun ⟨k,h⟩ ⟨k',h'⟩=>nm _ _ _ _ _ h h'
        have d0:∀ g,some b0=some g→∃ k,bl 0=some (.blk g k):=fun g e=>by cases e;exact ⟨_,l0⟩
        have d1:∀ g,some b1=some g→∃ k,bl 1=some (.blk g k):=fun g e=>by cases e;exact ⟨_,l1⟩
        refine ⟨fun g e h=>?_,fun g e h=>?_,fun g e h=>?_,fun g e h=>?_,fun g e h=>?_,fun g e h=>?_,trivial⟩
        · simp only [List.mem_cons,List.not_mem_nil,or_false] at h
          rcases h with h | h | h | h | h
          · exact absurd (d (d0 g e) (d1 g h.symm)) (by decide)
          · exact absurd (d (d0 g e) (nB g h.symm)) (by decide)
          · exact absurd (d (d0 g e) (nJ g h.symm)) (by decide)
          · exact absurd (d (d0 g e) (nC g h.symm)) (by decide)
          · exact absurd (d (d0 g e) (nO g h.symm)) (by decide)
        · simp only [List.mem_cons,List.not_mem_nil,or_false] at h
          rcases h with h | h | h | h
          · exact absurd (d (d1 g e) (nB g h.symm)) (by decide)
          · exact absurd (d (d1 g e) (nJ g h.symm)) (by decide)
          · exact absurd (d (d1 g e) (nC g h.symm)) (by decide)
          · exact absurd (d (d1 g e) (nO g h.symm)) (by decide)
        · simp only [List.mem_cons,List.not_mem_nil,or_false] at h
          rcases h with h | h | h
          · exact absurd (d (nB g e) (nJ g h.symm)) (by decide)
          · exact absurd (d (nB g e) (nC g h.symm)) (by decide)
          · exact absurd (d (nB g e) (nO g h.symm)) (by decide)
        · simp only [List.mem_cons,List.not_mem_nil,or_false] at h
          rcases h with h | h
          · exact absurd (d (nJ g e) (nC g h.symm)) (by decide)
          · exact absurd (d (nJ g e) (nO g h.symm)) (by decide)
        · simp only [List.mem_cons,List.not_mem_nil,or_false] at h
          exact absurd (d (nC g e) (nO g h.symm)) (by decide)
        · simp at h
      · exact rB.1
      · simp [elC];exact .nil
      · have:=pB.bare (bl':=noNames)
        rw [elC_bare Ix.tBody x.Bodies] at this
        show Reps mo noNames (elC tb Ix.tBody x.Bodies) _
        simpa using this
      · exact rC.1
      · simp [elC];exact .nil
      · have:=pC.bare (bl':=noNames)
        rw [elC_bare Ix.tContact x.Contacts] at this
        show Reps mo noNames (elC tb Ix.tContact x.Contacts) _
        simpa using this
end GoForm
end

section
set_option linter.all false
set_option maxRecDepth 100000
open Go Go.Rx Go.Proofs Go.RowKit
namespace GoForm
def ownM (p q:Nat) (w:World):Mem:=fun b o=>if p≤b∧b<q∧w.frozen? ⟨b,o,none⟩=false then w.cell? ⟨b,o,none⟩ else none
theorem ownM_of {p q:Nat} {w:World} {b o v} (e:ownM p q w b o=some v):p≤b∧w.frozen? ⟨b,o,none⟩=false∧w.cell? ⟨b,o,none⟩=some v:=by
  unfold ownM at e
  by_cases hb:p≤b∧b<q∧w.frozen? ⟨b,o,none⟩=false
  · rw [if_pos hb] at e;exact ⟨hb.1,hb.2.2,e⟩
  · rw [if_neg hb] at e;cases e
theorem ownM_imm {p q:Nat} {w:World}:ImF (ownM p q w) w:=⟨fun _ _ _ e=>(ownM_of e).2.2,fun _ _ _ e=>(ownM_of e).2.1⟩
theorem ownM_new {p q:Nat} {w:World}:∀ b o u,ownM p q w b o=some u→p≤b:=fun _ _ _ e=>(ownM_of e).1
theorem rep_vow {E:Ix} {B sz:Nat} {w:World} {l:List (tb.T E)} {xs:List Value} {h:Value} (v:VOw B w h l.length xs) (hz:∀ x,(tb.el E x).cells.length=sz) (hl:xs.length=l.length*sz) (h1:∀ c∈xs,oneCell c=true) (hr:Reps (ownM B w.heap.size w) noNames (elC tb E l) xs):
    Rep (ownM B w.heap.size w) noNames (.sl false sz (l.map (tb.el E))) h:=by
  rcases v with ⟨h0,-,ad,cap,rfl,hc⟩ | ⟨g,cap,cur,T,rfl,h2,h3,h4,h5,h6,h7⟩
  · have:l=[]:=List.length_eq_zero_iff.1 h0
    subst this
    cases ad with
    | none=>rw [hc rfl];exact .slnil
    | some a=>exact .sl (l:=[]) (by simp) .nil (by simp) (by simp) (by simp) (Nat.zero_le _) (by simp)
  · have hl2:l.length=(l.map (tb.el E)).length:=by simp
    rw [hl2]
    refine .sl (cs:=xs) ?_ hr h1 (fun _=>rfl) ?_ (by rw [← hl2];exact h5) (by simp)
    · intro e he
      obtain ⟨x,-,rfl⟩:=List.mem_map.1 he
      exact hz x
    · intro j x e
      show ownM B w.heap.size w g (0+j)=some x
      unfold ownM
      rw [if_pos ⟨h2,h3,frozen_blk h4 _⟩,Nat.zero_add,cell_of_blk h4]
      have hj:j<xs.length:=(List.getElem?_eq_some_iff.1 e).1
      rw [← h7,List.getElem?_take_of_lt hj] at e
      rw [← Array.getElem?_toList];exact e
theorem FOw.rep' {B w fs hF hs} (h:FOw B w fs hF hs):Rep (ownM B w.heap.size w) noNames (e_sl_Fixture fs) hF:=by
  rw [e_slF]
  obtain ⟨hlen,⟨rfl,h0⟩ | ⟨g,cap,cur,rfl,q1,q2,q3,q4,q5,q6⟩⟩:=h.row
  · have:fs=[]:=List.length_eq_zero_iff.1 h0
    subst this
    exact .slnil
  · have hl:fs.length=(fs.map e_Fixture).length:=by simp
    rw [hl]
    refine .sl (cs:=fixsC fs hs) ?_ (fixs_mk fs hs h.len fun k f x e1 e2=>rep_vow (E:=Ix.tVec) (sz:=2) (h.vs k f x e1 e2).1 (fun _=>rfl) (vecsC_len _) (vecsC_one _) (by rw [elC_V];exact repsV _)) ?_ (fun _=>rfl) ?_ (by rw [← hl];exact q3) (by simp)
    · intro e he
      obtain ⟨x,-,rfl⟩:=List.mem_map.1 he
      rfl
    · intro c hc
      obtain ⟨j,hj,e⟩:=List.getElem_of_mem hc
      have hj10:j<fs.length*10:=by rwa [fixsC_len _ _ h.len] at hj
      have k1:j / 10<fs.length:=by omega
      have k2:j / 10<hs.length:=by rw [← h.len];exact k1
      have:=fixsC_get fs hs (j / 10) (j % 10) fs[j / 10] hs[j / 10] (List.getElem?_eq_getElem k1) (List.getElem?_eq_getElem k2) (by omega)
      rw [show j / 10*10+j % 10=j by omega,List.getElem?_eq_getElem hj,e] at this
      exact fixC_one (h.vs (j / 10) fs[j / 10] hs[j / 10] (List.getElem?_eq_getElem k1) (List.getElem?_eq_getElem k2)).2.2 c (List.mem_of_getElem? this.symm)
    · intro j x e
      have hg:g<w.heap.size:=by rw [Array.getElem?_eq_some_iff] at q2;exact q2.1
      show ownM B w.heap.size w g (0+j)=some x
      unfold ownM
      rw [if_pos ⟨q1,hg,frozen_blk q2 _⟩,Nat.zero_add,cell_of_blk q2]
      have hj:j<(fixsC fs hs).length:=(List.getElem?_eq_some_iff.1 e).1
      rw [← q6,List.getElem?_take_of_lt (by rw [← hlen];exact hj)] at e
      rw [← Array.getElem?_toList];exact e
def PostN (a:Value→AV × Value) (p:Nat) (V:Value × Mem) (w:World):Prop:=ImF V.2 w∧(∀ b o u,V.2 b o=some u→p≤b)∧Rep V.2 noNames (a V.1).1 (a V.1).2∧oneCell V.1=true
theorem PostN.below {a p V w w'} (h:PostN a p V w) (hb:Below w.heap.size w w'):PostN a p V w':=⟨h.1.below hb,h.2⟩
def aB (b:Body) (h:Value):AV × Value:=(e_Body b,.agg (bodC b h).toArray)
def manC (c:Manifold) (h:Value):List Value:=[.int .i64 c.Normal.X,.int .i64 c.Normal.Y,h]
def aM (c:Manifold) (h:Value):AV × Value:=(e_Manifold c,.agg (manC c h).toArray)
theorem body_new (b:Body) (h40:Few2 b.Fixtures) (m:Mem) (v:Value) (w:World) (hi:Imm m w) (hr:Rep m noNames (e_Body b) v) (p:Nat) (hp:p≤w.heap.size):
    Calls Tryz.prog 63 #[v] w fun e w'=>∃ V:Value × Mem,e=.returned (.agg (bodC b V.1).toArray)∧PostN (aB b) p V w'∧Below w.heap.size w w':=by
  refine (body_fresh b h40 m v w hi hr).mono ?_
  rintro e w' ⟨hF,hs,rfl,hb,O⟩
  refine ⟨(hF,ownM w.heap.size w'.heap.size w'),rfl,⟨ownM_imm,fun b o u e=>Nat.le_trans hp (ownM_new b o u e),mkBody O.rep',?_⟩,hb⟩
  have:=O.rep'
  rw [e_slF] at this
  exact one_slice this
theorem e_Manifold_eq (c:Manifold):e_Manifold c=.agg [.v (.int .i64 c.Normal.X),.v (.int .i64 c.Normal.Y),e_sl_ContactPoint c.Points]:=rfl
theorem manifold_new (c:Manifold) (h40:c.Points.length≤1099511627776) (m:Mem) (f2:Value) (w:World) (hi:Imm m w) (hr:Rep m noNames (e_sl_ContactPoint c.Points) f2) (p:Nat) (hp:p≤w.heap.size):
    Calls Tryz.prog 81 #[.agg (manC c f2).toArray] w fun e w'=>∃ V:Value × Mem,e=.returned (.agg (manC c V.1).toArray)∧PostN (aM c) p V w'∧Below w.heap.size w w':=by
  refine (manifold_fresh c.Points h40 m c.Normal.X c.Normal.Y f2 w hi hr).mono ?_
  rintro e w' ⟨h,rfl,hb,O⟩
  have hx:∀ u∈ptsC c.Points,oneCell u=true:=by
    intro u hu
    simp only [ptsC,List.mem_flatMap,ptC,List.mem_cons,List.not_mem_nil,or_false] at hu
    obtain ⟨y,-,rfl | rfl | rfl | rfl | rfl | rfl⟩:=hu <;> rfl
  have R:=rep_vow (E:=Ix.tContactPoint) (sz:=6) O (fun _=>rfl) (ptsC_len _) hx (by rw [elC_P];exact repsV _)
  refine ⟨(h,ownM w.heap.size w'.heap.size w'),rfl,⟨ownM_imm,fun b o u e=>Nat.le_trans hp (ownM_new b o u e),?_,one_slice R⟩,hb⟩
  show Rep _ noNames (e_Manifold c) _
  rw [e_Manifold_eq]
  refine .agg (.cons .v (.cons .v (.cons R .nil))) ?_
  intro u hu
  simp only [manC,List.mem_cons,List.not_mem_nil,or_false] at hu
  rcases hu with rfl | rfl | rfl
  · rfl
  · rfl
  · exact one_slice R
section
variable {x:World_} {W0:World} {mo M:Mem} {b0 b1:Nat} {h0 h1 h2 h3:Value} {xb xj xc xo:List Value} {w:World}
theorem CL.putB (S:CL x W0 mo M b0 b1 h0 h1 h2 h3 xb xj xc xo w) {i:Nat} (hP:Part Ix.tBody 20 mo M x.Bodies i xb) {b:Body} (hb:x.Bodies[i]? = some b) {V:Value × Mem} {p:Nat} (hV:PostN (aB b) p V w)
    (hp:∀ g,some g∈[some b0,some b1,rowB h0,rowB h1,rowB h2,rowB h3]→g<p) (hp0:W0.heap.size≤p) {g:Nat} {arr:Array Value} {T:TypeId} (hg:rowB h0=some g) (hrow:w.heap[g]? = some (.cells arr T (0,0))) {w':World}
    (hw:w'.heap[g]? = some (.cells (arr.toList.take (i*20)++bodC b V.1++arr.toList.drop (i*20+(bodC b V.1).length)).toArray T (0,0))) (hgr:w.grownBy w' (some g)):
    CL x W0 mo (joinM M V.2) b0 b1 h0 h1 h2 h3 (xb.take (i*20)++bodC b V.1++xb.drop (i*20+(bodC b V.1).length)) xj xc xo w'∧Part Ix.tBody 20 mo (joinM M V.2) x.Bodies (i+1) (xb.take (i*20)++bodC b V.1++xb.drop (i*20+(bodC b V.1).length)):=by
  obtain ⟨v1,v2,v3,v4⟩:=hV
  have hi:i<x.Bodies.length:=(List.getElem?_eq_some_iff.1 hb).1
  have S1:=S.join v1 (fun b o u e=>Nat.le_trans hp0 (v2 b o u e)) (fun g hg o=>by
    cases e:V.2 g o with
    | none=>rfl
    | some u=>have:=v2 g o u e;have:=hp g hg;omega)
  have hmem:some g∈[some b0,some b1,rowB h0,rowB h1,rowB h2,rowB h3]:=by simp [hg]
  obtain ⟨a0,a1,a2,a3,a4,-⟩:=S1.ap
  refine ⟨⟨S1.bel.grown hgr S1.bel.size (fun k e=>by cases e;exact (S1.os.ob g hmem).1),S1.os.store hmem hgr,S1.ap,S1.box0.grown hgr (fun e=>a0 b0 rfl (by rw [e,← hg];simp)),S1.box1.grown hgr (fun e=>a1 b1 rfl (by rw [e,← hg];simp)),S1.rB.store (by omega) hg hrow (by show i*20+20≤_;omega) (bodC_one v4) hw,
    S1.rJ.grown hgr (fun k e1 e2=>a2 g hg (by rw [← e2,← e1];simp)),S1.rC.grown hgr (fun k e1 e2=>a2 g hg (by rw [← e2,← e1];simp)),S1.rO.grown hgr (fun k e1 e2=>a2 g hg (by rw [← e2,← e1];simp))⟩,?_⟩
  refine (hP.mono (joinM_l S.os.iM.1 v1.1)).step hb (fun _=>rfl) ?_
  have v3:Rep V.2 noNames (e_Body b) (.agg (bodC b V.1).toArray):=v3
  obtain ⟨y,e1,e2,e3⟩:=repBody v3
  rw [e_Body_eq] at v3
  obtain ⟨cs,e1,h1,h2⟩:=rep_agg v3
  have e1:bodC b V.1=cs:=by have:=congrArg (fun v=>match v with | .agg a=>a.toList | _=>[]) e1;simpa using this
  subst e1
  exact h1.mono (joinM_r _ _)
theorem CL.putC (S:CL x W0 mo M b0 b1 h0 h1 h2 h3 xb xj xc xo w) {i:Nat} (hP:Part Ix.tContact 7 mo M x.Contacts i xc) {c:Contact} (hc:x.Contacts[i]? = some c) {V:Value × Mem} {p:Nat} (hV:PostN (aM c.Manifold) p V w)
    (hp:∀ g,some g∈[some b0,some b1,rowB h0,rowB h1,rowB h2,rowB h3]→g<p) (hp0:W0.heap.size≤p) {g:Nat} {arr:Array Value} {T:TypeId} (hg:rowB h2=some g) (hrow:w.heap[g]? = some (.cells arr T (0,0))) {w':World}
    (hw:w'.heap[g]? = some (.cells (arr.toList.take (i*7+4)++manC c.Manifold V.1++arr.toList.drop (i*7+4+(manC c.Manifold V.1).length)).toArray T (0,0))) (hgr:w.grownBy w' (some g)):
    CL x W0 mo (joinM M V.2) b0 b1 h0 h1 h2 h3 xb xj (xc.take (i*7+4)++manC c.Manifold V.1++xc.drop (i*7+4+(manC c.Manifold V.1).length)) xo w'∧Part Ix.tContact 7 mo (joinM M V.2) x.Contacts (i+1) (xc.take (i*7+4)++manC c.Manifold V.1++xc.drop (i*7+4+(manC c.Manifold V.1).length)):=by
  obtain ⟨v1,v2,v3,v4⟩:=hV
  have hi:i<x.Contacts.length:=(List.getElem?_eq_some_iff.1 hc).1
  have S1:=S.join v1 (fun b o u e=>Nat.le_trans hp0 (v2 b o u e)) (fun g hg o=>by
    cases e:V.2 g o with
    | none=>rfl
    | some u=>have:=v2 g o u e;have:=hp g hg;omega)
  have hmem:some g∈[some b0,some b1,rowB h0,rowB h1,rowB h2,rowB h3]:=by simp [hg]
  obtain ⟨a0,a1,a2,a3,a4,-⟩:=S1.ap
  have hone:∀ u∈manC c.Manifold V.1,oneCell u=true:=by
    intro u hu
    simp only [manC,List.mem_cons,List.not_mem_nil,or_false] at hu
    rcases hu with rfl | rfl | rfl
    · rfl
    · rfl
    · exact v4
  refine ⟨⟨S1.bel.grown hgr S1.bel.size (fun k e=>by cases e;exact (S1.os.ob g hmem).1),S1.os.store hmem hgr,S1.ap,S1.box0.grown hgr (fun e=>a0 b0 rfl (by rw [e,← hg];simp)),S1.box1.grown hgr (fun e=>a1 b1 rfl (by rw [e,← hg];simp)),S1.rB.grown hgr (fun k e1 e2=>a2 k e1 (by rw [e2,← hg];simp)),
    S1.rJ.grown hgr (fun k e1 e2=>a3 k e1 (by rw [e2,← hg];simp)),S1.rC.store (by omega) hg hrow (by show i*7+4+3≤_;omega) hone hw,S1.rO.grown hgr (fun k e1 e2=>a4 g hg (by rw [← e2,← e1];simp))⟩,?_⟩
  have v3:Rep V.2 noNames (e_Manifold c.Manifold) (.agg (manC c.Manifold V.1).toArray):=v3
  rw [e_Manifold_eq] at v3
  obtain ⟨cs,e1,q1,q2⟩:=rep_agg v3
  have e1:manC c.Manifold V.1=cs:=by have:=congrArg (fun v=>match v with | .agg a=>a.toList | _=>[]) e1;simpa using this
  subst e1
  obtain ⟨n1,n2⟩:=hP.next hc (fun _=>rfl)
  have n1:Reps mo noNames [.v (.int .i64 c.Key.BodyA),.v (.int .i64 c.Key.FixtureA),.v (.int .i64 c.Key.BodyB),.v (.int .i64 c.Key.FixtureB),.v (.int .i64 c.Manifold.Normal.X),.v (.int .i64 c.Manifold.Normal.Y),e_sl_ContactPoint c.Manifold.Points] ((xc.drop (i*7)).take 7):=n1
  obtain ⟨t1,z1,n3⟩:=n1.invV
  obtain ⟨t2,rfl,n4⟩:=n3.invV
  obtain ⟨t3,rfl,n5⟩:=n4.invV
  obtain ⟨t4,rfl,n6⟩:=n5.invV
  have hl:=hP.len
  have e4:xc.take (i*7+4)=xc.take (i*7)++[.int .i64 c.Key.BodyA,.int .i64 c.Key.FixtureA,.int .i64 c.Key.BodyB,.int .i64 c.Key.FixtureB]:=by
    rw [List.take_add]
    congr 1
    have:=congrArg (List.take 4) z1
    rw [List.take_take] at this
    simpa using this
  have e7:xc.drop (i*7+4+(manC c.Manifold V.1).length)=xc.drop (i*7+7):=rfl
  rw [e4,e7]
  have:=(hP.mono (joinM_l S.os.iM.1 v1.1)).step hc (fun _=>rfl) (cs:=[.int .i64 c.Key.BodyA,.int .i64 c.Key.FixtureA,.int .i64 c.Key.BodyB,.int .i64 c.Key.FixtureB]++manC c.Manifold V.1) (.cons .v (.cons .v (.cons .v (.cons .v (q1.mono (joinM_r _ _))))))
  have e9:xc.take (i*7)++([.int .i64 c.Key.BodyA,.int .i64 c.Key.FixtureA,.int .i64 c.Key.BodyB,.int .i64 c.Key.FixtureB]++manC c.Manifold V.1)++xc.drop (i*7+(([.int .i64 c.Key.BodyA,.int .i64 c.Key.FixtureA,.int .i64 c.Key.BodyB,.int .i64 c.Key.FixtureB]:List Value)++manC c.Manifold V.1).length)
      = xc.take (i*7)++[.int .i64 c.Key.BodyA,.int .i64 c.Key.FixtureA,.int .i64 c.Key.BodyB,.int .i64 c.Key.FixtureB]++manC c.Manifold V.1++xc.drop (i*7+7):=by
    rw [← List.append_assoc];rfl
  rw [← e9]
  exact this
end
end GoForm
end

section
set_option linter.all false
set_option maxRecDepth 100000
open Go Go.Rx Go.Proofs Go.RowKit
namespace GoForm
theorem clone_head' {r0 r1 rest:Code} (hc:code35=.seq r0 (.seq r1 rest)) {x:World_} (hx:Lens x) {m:Mem} {v:Value} {w:World} (hi:Imm m w) (hr:Rep m noNames (e_World_ x) v) {Q:Exit→Act→World→Prop}
    (k:∀ a w1 mo b0 b1 h0 h1 h2 h3 xb xj xc xo,a.defers=[]→a.tmps.size=56→a.tmps.getD 1 undef=.pointer (some ⟨b0,0,none⟩)→a.tmps.getD 2 undef=.pointer (some ⟨b1,0,none⟩)→
      CL x w mo noMem b0 b1 h0 h1 h2 h3 xb xj xc xo w1→Mem.le m mo→Part Ix.tBody 20 mo noMem x.Bodies 0 xb→Reps noMem noNames (elC tb Ix.tJoint x.Joints) xj→Part Ix.tContact 7 mo noMem x.Contacts 0 xc→Reps noMem noNames (elC tb Ix.tPairKey x.Overlaps) xo→
      rest.wp Tryz.prog Q a w1):(Code.seq r0 (.seq r1 rest)).wp Tryz.prog Q { tmps:=#[v]++Array.replicate 55 undef,defers:=[] } w:=by
  have h:=clone_head hx hi hr (Q:=Q) (by rw [hc];exact k)
  rw [hc] at h
  exact h
theorem len_cons {α:Type} {n:Nat} {l:List α} (h:l.length=n+1):∃ a t,l=a::t∧t.length=n:=by
  cases l with
  | nil=>simp at h
  | cons a t=>exact ⟨a,t,rfl,by simpa using h⟩
theorem arr56 {tm:Array Value} (h:tm.size=56) {p q:Value} (h1:tm.getD 1 undef=p) (h2:tm.getD 2 undef=q):∃ y0 y3 y4 y5 y6 y7 y8 y9 y10 y11 y12 y13 y14 y15 y16 y17 y18 y19 y20 y21 y22 y23 y24 y25 y26 y27 y28 y29 y30 y31 y32 y33 y34 y35 y36 y37 y38 y39 y40 y41 y42 y43 y44 y45 y46 y47 y48 y49 y50 y51 y52 y53 y54 y55:Value,
    tm=#[y0,p,q,y3,y4,y5,y6,y7,y8,y9,y10,y11,y12,y13,y14,y15,y16,y17,y18,y19,y20,y21,y22,y23,y24,y25,y26,y27,y28,y29,y30,y31,y32,y33,y34,y35,y36,y37,y38,y39,y40,y41,y42,y43,y44,y45,y46,y47,y48,y49,y50,y51,y52,y53,y54,y55]:=by
  obtain ⟨l⟩:=tm
  have g:l.length=56:=h
  clear h
  obtain ⟨y0,l0,rfl,g0⟩:=len_cons g
  obtain ⟨y1,l1,rfl,g1⟩:=len_cons g0
  obtain ⟨y2,l2,rfl,g2⟩:=len_cons g1
  obtain ⟨y3,l3,rfl,g3⟩:=len_cons g2
  obtain ⟨y4,l4,rfl,g4⟩:=len_cons g3
  obtain ⟨y5,l5,rfl,g5⟩:=len_cons g4
  obtain ⟨y6,l6,rfl,g6⟩:=len_cons g5
  obtain ⟨y7,l7,rfl,g7⟩:=len_cons g6
  obtain ⟨y8,l8,rfl,g8⟩:=len_cons g7
  obtain ⟨y9,l9,rfl,g9⟩:=len_cons g8
  obtain ⟨y10,l10,rfl,g10⟩:=len_cons g9
  obtain ⟨y11,l11,rfl,g11⟩:=len_cons g10
  obtain ⟨y12,l12,rfl,g12⟩:=len_cons g11
  obtain ⟨y13,l13,rfl,g13⟩:=len_cons g12
  obtain ⟨y14,l14,rfl,g14⟩:=len_cons g13
  obtain ⟨y15,l15,rfl,g15⟩:=len_cons g14
  obtain ⟨y16,l16,rfl,g16⟩:=len_cons g15
  obtain ⟨y17,l17,rfl,g17⟩:=len_cons g16
  obtain ⟨y18,l18,rfl,g18⟩:=len_cons g17
  obtain ⟨y19,l19,rfl,g19⟩:=len_cons g18
  obtain ⟨y20,l20,rfl,g20⟩:=len_cons g19
  obtain ⟨y21,l21,rfl,g21⟩:=len_cons g20
  obtain ⟨y22,l22,rfl,g22⟩:=len_cons g21
  obtain ⟨y23,l23,rfl,g23⟩:=len_cons g22
  obtain ⟨y24,l24,rfl,g24⟩:=len_cons g23
  obtain ⟨y25,l25,rfl,g25⟩:=len_cons g24
  obtain ⟨y26,l26,rfl,g26⟩:=len_cons g25
  obtain ⟨y27,l27,rfl,g27⟩:=len_cons g26
  obtain ⟨y28,l28,rfl,g28⟩:=len_cons g27
  obtain ⟨y29,l29,rfl,g29⟩:=len_cons g28
  obtain ⟨y30,l30,rfl,g30⟩:=len_cons g29
  obtain ⟨y31,l31,rfl,g31⟩:=len_cons g30
  obtain ⟨y32,l32,rfl,g32⟩:=len_cons g31
  obtain ⟨y33,l33,rfl,g33⟩:=len_cons g32
  obtain ⟨y34,l34,rfl,g34⟩:=len_cons g33
  obtain ⟨y35,l35,rfl,g35⟩:=len_cons g34
  obtain ⟨y36,l36,rfl,g36⟩:=len_cons g35
  obtain ⟨y37,l37,rfl,g37⟩:=len_cons g36
  obtain ⟨y38,l38,rfl,g38⟩:=len_cons g37
  obtain ⟨y39,l39,rfl,g39⟩:=len_cons g38
  obtain ⟨y40,l40,rfl,g40⟩:=len_cons g39
  obtain ⟨y41,l41,rfl,g41⟩:=len_cons g40
  obtain ⟨y42,l42,rfl,g42⟩:=len_cons g41
  obtain ⟨y43,l43,rfl,g43⟩:=len_cons g42
  obtain ⟨y44,l44,rfl,g44⟩:=len_cons g43
  obtain ⟨y45,l45,rfl,g45⟩:=len_cons g44
  obtain ⟨y46,l46,rfl,g46⟩:=len_cons g45
  obtain ⟨y47,l47,rfl,g47⟩:=len_cons g46
  obtain ⟨y48,l48,rfl,g48⟩:=len_cons g47
  obtain ⟨y49,l49,rfl,g49⟩:=len_cons g48
  obtain ⟨y50,l50,rfl,g50⟩:=len_cons g49
  obtain ⟨y51,l51,rfl,g51⟩:=len_cons g50
  obtain ⟨y52,l52,rfl,g52⟩:=len_cons g51
  obtain ⟨y53,l53,rfl,g53⟩:=len_cons g52
  obtain ⟨y54,l54,rfl,g54⟩:=len_cons g53
  obtain ⟨y55,l55,rfl,g55⟩:=len_cons g54
  obtain rfl:=List.length_eq_zero_iff.1 g55
  obtain rfl:y1=p:=by simpa using h1
  obtain rfl:y2=q:=by simpa using h2
  exact ⟨y0,y3,y4,y5,y6,y7,y8,y9,y10,y11,y12,y13,y14,y15,y16,y17,y18,y19,y20,y21,y22,y23,y24,y25,y26,y27,y28,y29,y30,y31,y32,y33,y34,y35,y36,y37,y38,y39,y40,y41,y42,y43,y44,y45,y46,y47,y48,y49,y50,y51,y52,y53,y54,y55,rfl⟩
end GoForm
end
