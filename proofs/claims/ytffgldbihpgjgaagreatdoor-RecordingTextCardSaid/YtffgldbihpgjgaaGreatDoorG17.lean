/- recording.parseInput at any fields: what its steps leave. No conditions. -/
import Derived.Test.YtffgldbihpgjgaaGreatDoorGZ
set_option linter.all false
set_option maxRecDepth 100000
open Go Go.Rx Go.Proofs Go.RowKit
namespace GoForm
structure PX (w:World) (cs:List Value) (W:World):Prop where
  bel:Below w.heap.size w W
  z:W.heap[w.heap.size]? = some (.cells inZ.toArray 77 (0,0))
  x:W.heap[w.heap.size+1]? = some (.cells cs.toArray 77 (0,0))
  lt:w.heap.size+2≤W.heap.size
theorem PX.go {w cs W} (h:PX w cs W) {W':World} (hb:Below W.heap.size W W'):PX w cs W':=
  ⟨h.bel.trans (hb.mono h.bel.size),(hb.block _ (by have:=h.lt;omega)).trans h.z,(hb.block _ (by have:=h.lt;omega)).trans h.x,Nat.le_trans h.lt hb.size⟩
theorem PX.store {w cs W} (h:PX w cs W) {cs':List Value} {W':World} (hx:W'.heap[w.heap.size+1]? = some (.cells cs'.toArray 77 (0,0))) (hg:W.grownBy W' (some (w.heap.size+1))):PX w cs' W':=
  ⟨h.bel.grown hg h.bel.size (fun g e=>by have:=Option.some.inj e;omega),(hg.block _ (by have:=h.lt;omega) (fun e=>by have:=Option.some.inj e;omega)).trans h.z,hx,Nat.le_trans h.lt hg.size⟩
theorem PX.start (w:World):PX w inZ ((w.alloc (.cells inZ.toArray 77)).alloc (.cells inZ.toArray 77)):=
  ⟨((Below.refl _ w).alloc (Nat.le_refl _) _).alloc (by simp) _,(heap_past _ _ _ (by simp)).trans (heap_at _ _ _ rfl),(heap_at _ _ _ (by simp)),by simp⟩
theorem PX.grow {w cs W} (h:PX w cs W) {W':World} {b:Option Nat} (hg:W.grownBy W' b) (hb:∀ g,b=some g→w.heap.size+2≤g):PX w cs W':=
  ⟨h.bel.grown hg h.bel.size (fun g e=>by have:=hb g e;omega),(hg.block _ (by have:=h.lt;omega) (fun e=>by have:=hb _ e.symm;omega)).trans h.z,(hg.block _ (by have:=h.lt;omega) (fun e=>by have:=hb _ e.symm;omega)).trans h.x,Nat.le_trans h.lt hg.size⟩
def ptX (w:World) (o:Nat):Value:=.pointer (some ⟨w.heap.size+1,o,none⟩)
structure PT (w:World) (cs:List Value) (v:Value) (offs:List Nat) (W:World):Prop where
  px:PX w cs W
  row:W.ownsRow (w.heap.size+2) 185 1 v offs.length (offs.map (ptX w))
theorem PT.new {w cs W} (h:PX w cs W):PT w cs (.slice (some ⟨W.heap.size,0,none⟩) 1 1) [1] (W.alloc (.cells #[.pointer (some ⟨w.heap.size+1,1,none⟩)] 185)):=
  ⟨h.go ((Below.refl _ _).alloc (Nat.le_refl _) _),⟨rfl,.inr ⟨W.heap.size,1,#[.pointer (some ⟨w.heap.size+1,1,none⟩)],rfl,h.lt,heap_at _ _ _ rfl,Nat.le_refl 1,by decide,rfl,rfl⟩⟩⟩
theorem PT.go {w cs v offs W} (h:PT w cs v offs W) {W':World} (hb:Below W.heap.size W W'):PT w cs v offs W':=
  ⟨h.px.go hb,World.ownsRow.kept h.row (below_grown hb) (by cases v.ownBlock <;> simp)⟩
theorem PT.app {w cs v offs W} (h:PT w cs v offs W) {v':Value} {W':World} {more:List Nat} (hown:W'.ownsRow (w.heap.size+2) 185 1 v' (offs.length+more.length) (offs.map (ptX w)++more.map (ptX w))) (hg:W.grownBy W' v.ownBlock):PT w cs v' (offs++more) W':=
  ⟨h.px.grow hg (fun g e=>(World.ownsRow.lt h.row g e).1),by simpa using hown⟩
theorem PT.store {w cs v offs W} (h:PT w cs v offs W) {cs':List Value} {W':World} (hx:W'.heap[w.heap.size+1]? = some (.cells cs'.toArray 77 (0,0))) (hg:W.grownBy W' (some (w.heap.size+1))):PT w cs' v offs W':=
  ⟨h.px.store hx hg,World.ownsRow.kept h.row hg (.inr (fun e=>by have:=(World.ownsRow.lt h.row _ e).1;omega))⟩
theorem PT.cell {w cs v offs W} (h:PT w cs v offs W) {i o:Nat} (hi:offs[i]? = some o):∃ g c,v=.slice (some ⟨g,0,none⟩) offs.length c∧W.cell? ⟨g,i,none⟩=some (ptX w o):=by
  have hlt:=(List.getElem?_eq_some_iff.1 hi).1
  rcases h.row.2 with ⟨-,e0⟩ | ⟨g,cap,cur,e,h1,h2,h3,h4,h5,h6⟩
  · omega
  · refine ⟨g,cap,e,?_⟩
    rw [cell_of_blk h2,← Array.getElem?_toList]
    have:(offs.map (ptX w))[i]? = some (ptX w o):=by rw [List.getElem?_map,hi];rfl
    rw [← h6,List.getElem?_take_of_lt (by simpa using hlt)] at this
    exact this
theorem PT.slice {w cs v offs W} (h:PT w cs v offs W) (hp:0<offs.length):∃ g c,v=.slice (some ⟨g,0,none⟩) offs.length c:=by
  obtain ⟨o,ho⟩:∃ o,offs[0]? = some o:=⟨_,List.getElem?_eq_getElem hp⟩
  obtain ⟨g,c,e,-⟩:=h.cell ho
  exact ⟨g,c,e⟩
def setX (cs:List Value):List Nat→List Int→List Value
  | o::os,n::ns=>setX (cs.set o (.int .i64 n)) os ns
  | _,_=>cs
theorem setX_snoc (o:Nat) (n:Int):∀ (os:List Nat) (ns:List Int) (cs:List Value),os.length=ns.length→setX cs (os++[o]) (ns++[n])=(setX cs os ns).set o (.int .i64 n)
  | [],[],cs,_=>rfl
  | a::os,b::ns,cs,h=>by
    show setX (cs.set a (.int .i64 b)) (os++[o]) (ns++[n])=(setX (cs.set a (.int .i64 b)) os ns).set o (.int .i64 n)
    exact setX_snoc o n os ns _ (by simpa using h)
  | [],_::_,_,h=>by simp at h
  | _::_,[],_,h=>by simp at h
theorem setX_len:∀ (os:List Nat) (ns:List Int) (cs:List Value),(setX cs os ns).length=cs.length
  | [],_,cs=>by cases ‹List Int› <;> rfl
  | a::os,[],cs=>rfl
  | a::os,b::ns,cs=>by
    show (setX (cs.set a (.int .i64 b)) os ns).length=_
    rw [setX_len os ns,List.length_set]
theorem mkIn_cells (kind:Int) (vec value:Bool) (l:List Int) (hl:l.length=(offsP vec value).length):∃ id vx vy val,setX (inX kind 0 0 0 0) (offsP vec value) l=inX kind id vx vy val∧mkIn kind vec value l={ Kind:=kind,ID:=id,Vec:=⟨vx,vy⟩,Value:=val,Body:=exB,Joint:=exJ }:=by
  cases vec <;> cases value <;> simp [offsP] at hl
  · obtain ⟨a,rfl⟩:=List.length_eq_one_iff.1 hl
    exact ⟨a,0,0,0,rfl,rfl⟩
  · match l,hl with
    | [a,b],_=>exact ⟨a,0,0,b,rfl,rfl⟩
  · match l,hl with
    | [a,b,c],_=>exact ⟨a,b,c,0,rfl,rfl⟩
  · match l,hl with
    | [a,b,c,d],_=>exact ⟨a,b,c,d,rfl,rfl⟩
theorem words:∀ k:Nat,1≤k→k≤12→∃ s,recording_word (k:Int)=some s:=fun k h1 h2=>let ⟨s,h,_⟩:=wordF k h1 h2;⟨s,h⟩
theorem used_some (k:Int):∃ u,input_UsedFields k=some u:=by
  unfold input_UsedFields
  have if_some2:∀ {α:Type} {p:Prop} [Decidable p] (a b:α),(if p then some a else some b)=some (if p then a else b):=by intro α p _ a b;split <;> rfl
  simp only [Let_nr,Join_nr,if_some2]
  exact ⟨_,rfl⟩
end GoForm
