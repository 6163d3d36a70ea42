/- Several texts in one. No conditions. -/
import Derived.WalkKit
import Derived.Deep.LoopGhost
import Derived.Deep.AppendSrc
import Derived.Laws.StructEq
import Derived.Lib.OthersKept
section
set_option linter.all false
namespace Go.Rx
section
open Go.RowKit
inductive AV where
 |undef
 |v (x:Value)
 |agg (l:List AV)
 |tup (l:List AV)
 |sl (c:Bool) (sz:Nat) (l:List AV)
 |kQ (l:List AV)
 |clo (f:Nat) (l:List AV)
 |ptr (id off:Nat)
 |row (id off len mc sz:Nat)
 |rw(id sz:Nat)
 |opt (c:Bool) (x:AV)
 |ifc (t:Nat) (x:AV)
 deriving Inhabited
def AV.cells:AV->List AV
 | .agg l=>l
 |x=>[x]
abbrev Mem:=Nat->Nat->Option Value
inductive Bnd where
 |nil
 |blk (b:Nat) (n:Nat × Nat)
abbrev Names:=Nat->Option Bnd
def jh:Names:=fun _=>none
abbrev jL (v:Value):Bool:=v.oneCell'
mutual
inductive Rep (m:Mem):Names->AV->Value->Prop
 |undef {bl x}:Rep m bl .undef x
 |v {bl x}:Rep m bl (.v x) x
 |agg {bl l cs}:JK m bl l cs->(∀c∈cs,jL c=true)->Rep m bl (.agg l) (.agg cs.toArray)
 |tup {bl l cs}:JK m bl l cs->Rep m bl (.tup l) (.tuple cs.toArray)
 |slnil {bl c sz}:Rep m bl (.sl c sz []) (.slice none 0 0)
 |sl {bl c sz l a cap cs}:(∀e∈l,e.cells.length=sz)->JK m jh (l.flatMap AV.cells) cs->(∀c∈cs,jL c=true)->
   (0<cs.length->a.spot=none)->(∀j v,cs[j]? = some v->m a.block (a.off+j)=some v)->l.length<=cap->(c=true->cap=l.length)->Rep m bl (.sl c sz l) (.slice (some a) l.length cap)
 |kQ {bl l b o cs}:JK m jh l cs->(∀c∈cs,jL c=true)->(∀j v,cs[j]? = some v->m b (o+j)=some v)->Rep m bl (.kQ l) (.pointer (some ⟨b,o,none⟩))
 |clo {bl f l cs}:JK m bl l cs->Rep m bl (.clo f l) (.func (.func f) #[] cs.toArray)
 |ptr {bl id off b n}:bl id=some (.blk b n)->Rep m bl (.ptr id off) (.pointer (some ⟨b,off,none⟩))
 |rownil {bl id off sz ad}:Rep m bl (.row id off 0 0 sz) (.slice ad 0 0)
 |row {bl id off len mc sz b n cap}:bl id=some (.blk b n)->len<=mc->mc<=cap->off+cap*sz<=n.1->Rep m bl (.row id off len mc sz) (.slice (some ⟨b,off,none⟩) len cap)
 |rwnil {bl id sz ad}:bl id=some .nil->Rep m bl (.rw id sz) (.slice ad 0 0)
 |rw {bl id sz b n cap len}:bl id=some (.blk b n)->len*sz=n.2->len<=cap->cap*sz<=n.1->Rep m bl (.rw id sz) (.slice (some ⟨b,0,none⟩) len cap)
 |opt {bl c x v}:(c=true->Rep m bl x v)->(c=false->v=undef)->Rep m bl (.opt c x) v
 |ifc {bl t x v}:Rep m bl x v->Rep m bl (.ifc t x) (.iface t v)
inductive JK (m:Mem):Names->List AV->List Value->Prop
 |nil {bl}:JK m bl [] []
 |cons {bl x l v vs}:Rep m bl x v->JK m bl l vs->JK m bl (x::l) (v::vs)
end
def Mem.le (m m':Mem):Prop:=∀b o v,m b o=some v->m' b o=some v
theorem Mem.le.refl (m:Mem):Mem.le m m:=fun _ _ _ h=>h
theorem Mem.le.trans {a b c:Mem}(h:Mem.le a b)(k:Mem.le b c):Mem.le a c:=fun _ _ _ e=>k _ _ _ (h _ _ _ e)
mutual
theorem Rep.mono {m m':Mem}(hm:Mem.le m m'):∀{bl x v},Rep m bl x v->Rep m' bl x v
 |_,_,_,.undef=>.undef
 |_,_,_,.v=>.v
 |_,_,_,.agg h h1=>.agg (h.mono hm) h1
 |_,_,_,.tup h=>.tup (h.mono hm)
 |_,_,_,.slnil=>.slnil
 |_,_,_,.sl h1 h2 h3 h4 h5 h6 h7=>.sl h1 (h2.mono hm) h3 h4 (fun j v e=>hm _ _ _ (h5 j v e)) h6 h7
 |_,_,_,.kQ h1 h2 h3=>.kQ (h1.mono hm) h2 (fun j v e=>hm _ _ _ (h3 j v e))
 |_,_,_,.clo h=>.clo (h.mono hm)
 |_,_,_,.ptr h=>.ptr h
 |_,_,_,.rownil=>.rownil
 |_,_,_,.row h h2 h3 h4=>.row h h2 h3 h4
 |_,_,_,.rwnil h=>.rwnil h
 |_,_,_,.rw h h2 h3 h4=>.rw h h2 h3 h4
 |_,_,_,.opt h h2=>.opt (fun c=>(h c).mono hm) h2
 |_,_,_,.ifc h=>.ifc (h.mono hm)
theorem JK.mono {m m':Mem}(hm:Mem.le m m'):∀{bl l vs},JK m bl l vs->JK m' bl l vs
 |_,_,_,.nil=>.nil
 |_,_,_,.cons h t=>.cons (h.mono hm) (t.mono hm)
end
theorem JK.length {m bl}:∀{l vs},JK m bl l vs->l.length=vs.length
 |_,_,.nil=>rfl
 |_,_,.cons _ t=>by simp[t.length]
theorem JK.append {m bl}:∀{l vs l' vs'},JK m bl l vs->JK m bl l' vs'->JK m bl (l++l') (vs++vs')
 |_,_,_,_,.nil,h=>h
 |_,_,_,_,.cons h t,k=>.cons h (t.append k)
theorem JK.get {m bl}:∀{l vs},JK m bl l vs->∀(i:Nat) (x:AV),l[i]? = some x->∃v,vs[i]? = some v/\Rep m bl x v
 |_,_,.nil,i,x,h=>by simp at h
 |_,_,.cons h t,0,x,e=>by simp at e;subst e;exact⟨_,rfl,h⟩
 |_,_,.cons h t,i+1,x,e=>by simpa using t.get i x (by simpa using e)
theorem JK.take {m bl}:∀{l vs},JK m bl l vs->∀n,JK m bl (l.take n) (vs.take n)
 |_,_,h,0=>by simp;exact .nil
 |_,_,.nil,n+1=>by simp;exact .nil
 |_,_,.cons h t,n+1=>by simpa using .cons h (t.take n)
theorem JK.drop {m bl}:∀{l vs},JK m bl l vs->∀n,JK m bl (l.drop n) (vs.drop n)
 |_,_,h,0=>by simpa using h
 |_,_,.nil,n+1=>by simp;exact .nil
 |_,_,.cons h t,n+1=>by simpa using t.drop n
theorem JK.set {m bl}:∀{l vs},JK m bl l vs->∀(i:Nat) {x v},Rep m bl x v->JK m bl (l.set i x) (vs.set i v)
 |_,_,.nil,i,x,v,h=>by simp;exact .nil
 |_,_,.cons h t,0,x,v,e=>by simpa using .cons e t
 |_,_,.cons h t,i+1,x,v,e=>by simpa using .cons h (t.set i e)
/- names are renamed or go. -/
mutual
def AV.re (q:Nat->Option Nat):AV->AV
 | .agg l=>.agg (reL q l)
 | .tup l=>.tup (reL q l)
 | .clo f l=>.clo f (reL q l)
 | .ptr id off=>match q id with|some id'=>.ptr id' off|none=>.undef
 | .row id off len mc sz=>match q id with|some id'=>.row id' off len mc sz|none=>.undef
 | .rw id sz=>match q id with|some id'=>.rw id' sz|none=>.undef
 | .opt c x=>.opt c (x.re q)
 | .ifc t x=>.ifc t (x.re q)
 | .undef=>.undef
 | .v x=>.v x
 | .sl c sz l=>.sl c sz l
 | .kQ l=>.kQ l
def reL (q:Nat->Option Nat):List AV->List AV
 | []=>[]
 |x::l=>x.re q::reL q l
end
mutual
theorem Rep.re {m:Mem}{q:Nat->Option Nat}:∀{bl bl' x v},(∀id id',q id=some id'->∀b,bl id=some b->bl' id'=some b)->Rep m bl x v->Rep m bl' (x.re q) v
 |_,_,_,_,_,.undef=>by simp only[AV.re];exact .undef
 |_,_,_,_,_,.v=>by simp only[AV.re];exact .v
 |_,_,_,_,hb,.agg h h1=>by simp only[AV.re];exact .agg (h.re hb) h1
 |_,_,_,_,hb,.tup h=>by simp only[AV.re];exact .tup (h.re hb)
 |_,_,_,_,hb,.slnil=>by simp only[AV.re];exact .slnil
 |_,_,_,_,hb,.sl h1 h2 h3 h4 h5 h6 h7=>by simp only[AV.re];exact .sl h1 h2 h3 h4 h5 h6 h7
 |_,_,_,_,hb,.kQ h1 h2 h3=>by simp only[AV.re];exact .kQ h1 h2 h3
 |_,_,_,_,hb,.clo h=>by simp only[AV.re];exact .clo (h.re hb)
 |_,_,_,_,hb,.ptr (id:=id) h=>by
  simp only[AV.re];split
  ·exact .ptr (hb id _ ‹_› _ h)
  ·exact .undef
 |_,_,_,_,hb,.rownil=>by
  simp only[AV.re];split
  ·exact .rownil
  ·exact .undef
 |_,_,_,_,hb,.row (id:=id) h h2 h3 h4=>by
  simp only[AV.re];split
  ·exact .row (hb id _ ‹_› _ h) h2 h3 h4
  ·exact .undef
 |_,_,_,_,hb,.rwnil (id:=id) h=>by
  simp only[AV.re];split
  ·exact .rwnil (hb id _ ‹_› _ h)
  ·exact .undef
 |_,_,_,_,hb,.rw (id:=id) h h2 h3 h4=>by
  simp only[AV.re];split
  ·exact .rw (hb id _ ‹_› _ h) h2 h3 h4
  ·exact .undef
 |_,_,_,_,hb,.opt h h2=>by simp only[AV.re];exact .opt (fun c=>(h c).re hb) h2
 |_,_,_,_,hb,.ifc h=>by simp only[AV.re];exact .ifc (h.re hb)
theorem JK.re {m:Mem}{q:Nat->Option Nat}:∀{bl bl' l vs},(∀id id',q id=some id'->∀b,bl id=some b->bl' id'=some b)->JK m bl l vs->JK m bl' (reL q l) vs
 |_,_,_,_,_,.nil=>by simp only[reL];exact .nil
 |_,_,_,_,hb,.cons h t=>by simp only[reL];exact .cons (h.re hb) (t.re hb)
end
abbrev AV.bare (x:AV):AV:=x.re (fun _=>none)
abbrev wJ (l:List AV):List AV:=reL (fun _=>none) l
theorem Rep.bare {m bl bl' x v}(h:Rep m bl x v):Rep m bl' x.bare v:=h.re (by simp)
theorem JK.bare {m bl bl' x v}(h:JK m bl x v):JK m bl' (wJ x) v:=h.re (by simp)
mutual
def AV.clean (q:Nat->Bool):AV->Bool
 | .agg l=>qI q l
 | .tup l=>qI q l
 | .clo _ l=>qI q l
 | .ptr id _=>q id
 | .row id _ _ _ _=>q id
 | .rw id _=>q id
 | .opt _ x=>x.clean q
 | .ifc _ x=>x.clean q
 | .undef=>true
 | .v _=>true
 | .sl _ _ _=>true
 | .kQ _=>true
def qI (q:Nat->Bool):List AV->Bool
 | []=>true
 |x::l=>x.clean q&&qI q l
end
mutual
theorem vv {p:Nat->Bool}{q:Nat->Option Nat}(hq:∀id,p id=true->q id=some id):∀{x:AV},x.clean p=true->x.re q=x
 | .agg l,h=>by simp only[AV.re];rw[Kw hq (by simpa [AV.clean]using h)]
 | .tup l,h=>by simp only[AV.re];rw[Kw hq (by simpa [AV.clean]using h)]
 | .clo f l,h=>by simp only[AV.re];rw[Kw hq (by simpa [AV.clean]using h)]
 | .ptr id off,h=>by simp only[AV.re,hq id (by simpa [AV.clean]using h)]
 | .row id off _ _ _,h=>by simp only[AV.re,hq id (by simpa [AV.clean]using h)]
 | .rw id _,h=>by simp only[AV.re,hq id (by simpa [AV.clean]using h)]
 | .opt _ x,h=>by simp only[AV.re];rw[vv hq (by simpa [AV.clean]using h)]
 | .ifc _ x,h=>by simp only[AV.re];rw[vv hq (by simpa [AV.clean]using h)]
 | .undef,_=>by simp only[AV.re]
 | .v _,_=>by simp only[AV.re]
 | .sl _ _ _,_=>by simp only[AV.re]
 | .kQ _,_=>by simp only[AV.re]
theorem Kw {p:Nat->Bool}{q:Nat->Option Nat}(hq:∀id,p id=true->q id=some id):∀{l:List AV},qI p l=true->reL q l=l
 | [],_=>by simp only[reL]
 |x::l,h=>by
  simp only[qI,Bool.and_eq_true]at h
  simp only[reL]
  rw[vv hq h.1,Kw hq h.2]
end
abbrev AV.ZD (x:AV):Bool:=x.clean (fun _=>false)
abbrev JS (l:List AV):Bool:=qI (fun _=>false) l
theorem yz {q:Nat->Option Nat}{l:List AV}(h:JS l=true):reL q l=l:=Kw (by simp) h
theorem wI {q:Nat->Option Nat}{x:AV}(h:x.ZD=true):x.re q=x:=vv (by simp) h
theorem kE {q:Nat->Bool}:∀{l l':List AV},qI q (l++l')=(qI q l&&qI q l')
 | [],_=>by simp[qI]
 |x::l,l'=>by simp[qI,kE (l:=l),Bool.and_assoc]
theorem jbJ {q:Nat->Bool}:∀{l:List AV},(∀x∈l,x.clean q=true)->qI q l=true
 | [],_=>by simp[qI]
 |x::l,h=>by simp[qI,h x (by simp),jbJ (l:=l) fun y hy=>h y (by simp[hy])]
theorem Rep.zV {m:Mem}{bl bl' x v}(hb:∀id b,bl id=some b->bl' id=some b)(h:Rep m bl x v):Rep m bl' x v:=by
 have h2:=h.re (q:=some) (bl':=bl') (fun id id' e b hb'=>by cases e;exact hb _ _ hb')
 rwa [vv (p:=fun _=>true) (fun _ _=>rfl)]at h2
 exact((show ∀x:AV,x.clean (fun _=>true)=true from fun x=>by
  refine AV.rec (motive_1:=fun x=>x.clean (fun _=>true)=true) (motive_2:=fun l=>qI (fun _=>true) l=true) ?_ ?_ ?_ ?_ ?_ ?_ ?_ ?_ ?_ ?_ ?_ ?_ ?_ ?_ x <;> intros <;> simp_all [AV.clean,qI]) _)
theorem JK.zV {m:Mem}{bl bl'}(hb:∀id b,bl id=some b->bl' id=some b):∀{l vs},JK m bl l vs->JK m bl' l vs
 |_,_,.nil=>.nil
 |_,_,.cons h t=>.cons (h.zV hb) (t.zV hb)
def AV.wX:AV->Bool
 | .agg _=>true
 | .v x=>jL x
 | .sl _ _ _=>true
 | .kQ _=>true
 | .clo _ _=>true
 | .ptr _ _=>true
 | .row _ _ _ _ _=>true
 | .rw _ _=>true
 | .ifc _ _=>true
 |_=>false
theorem Rep.cells {m bl x v}(h:Rep m bl x v)(hs:x.wX=true):JK m bl x.cells v.cells.toList/\(∀c∈v.cells.toList,jL c=true):=by
 cases h with
 |undef=>simp[AV.wX]at hs
 |v=>
  simp only[AV.wX]at hs
  have:v.cells=#[v]:=by cases v <;> first|rfl|simp[jL,Value.oneCell']at hs
  rw[this]
  exact⟨.cons .v .nil,by simpa using hs⟩
 |agg h1 h2=>exact⟨by simpa [AV.cells,Value.cells]using h1,by simpa [Value.cells]using h2⟩
 |tup=>simp[AV.wX]at hs
 |slnil=>exact⟨.cons .slnil .nil,by simp[Value.cells,jL,Value.oneCell']⟩
 |sl h1 h2 h3 h4 h5 h6 h7=>exact⟨.cons (.sl h1 h2 h3 h4 h5 h6 h7) .nil,by simp[Value.cells,jL,Value.oneCell']⟩
 |kQ h1 h2 h3=>exact⟨.cons (.kQ h1 h2 h3) .nil,by simp[Value.cells,jL,Value.oneCell']⟩
 |clo h=>exact⟨.cons (.clo h) .nil,by simp[Value.cells,jL,Value.oneCell']⟩
 |ptr h=>exact⟨.cons (.ptr h) .nil,by simp[Value.cells,jL,Value.oneCell']⟩
 |rownil=>exact⟨.cons .rownil .nil,by simp[Value.cells,jL,Value.oneCell']⟩
 |row h h2 h3 h4=>exact⟨.cons (.row h h2 h3 h4) .nil,by simp[Value.cells,jL,Value.oneCell']⟩
 |rwnil h=>exact⟨.cons (.rwnil h) .nil,by simp[Value.cells,jL,Value.oneCell']⟩
 |rw h h2 h3 h4=>exact⟨.cons (.rw h h2 h3 h4) .nil,by simp[Value.cells,jL,Value.oneCell']⟩
 |ifc h=>exact⟨.cons (.ifc h) .nil,by simp[Value.cells,jL,Value.oneCell']⟩
 |opt=>simp[AV.wX]at hs
def Imm (m:Mem)(w:World):Prop:=∀b o v,m b o=some v->w.cell? ⟨b,o,none⟩=some v
theorem Imm.lt {m:Mem}{w:World}(h:Imm m w){b o v}(e:m b o=some v):b<w.heap.size:=by
 have hc:=h b o v e
 rcases Nat.lt_or_ge b w.heap.size with h|h
 ·exact h
 ·simp[World.cell?,Array.getElem?_eq_none h]at hc
theorem Imm.below {m:Mem}{w w':World}(h:Imm m w)(hb:Below w.heap.size w w'):Imm m w':=by
 intro b o v e
 rw[hb.cell (p:=⟨b,o,none⟩) (h.lt e)]
 exact h b o v e
end
section
open Go.RowKit
inductive Mc where
 |cells (l:List AV)
 |iter (s:ByteArray) (pos:Nat)
 deriving Inhabited
def find {α:Type}(t:Nat):List (Nat × α)->Option α
 | []=>none
 |(k,x)::r=>match Nat.beq k t with|true=>some x|false=>find t r
theorem jk {α:Type}{t k:Nat}{x:α}{r:List (Nat × α)}:find t ((k,x)::r)=if k=t then some x else find t r:=by
 simp only[find]
 by_cases h:k=t
 ·subst h;simp
 ·simp[h,Nat.beq_eq]
  split
  ·rename_i hh;exact absurd (Nat.eq_of_beq_eq_true hh) h
  ·rfl
theorem Jz {α:Type}{t:Nat}:∀{a b:List (Nat × α)},find t a=none->find t (a++b)=find t b
 | [],_,_=>rfl
 |(k,x)::a,b,h=>by
  rw[jk]at h
  rw[List.cons_append,jk]
  split at h
  ·cases h
  ·rw[if_neg ‹_›];exact Jz h
theorem Jy {α:Type}{t:Nat}{y:α}:∀{a b:List (Nat × α)},find t a=some y->find t (a++b)=some y
 | [],_,h=>by simp[find]at h
 |(k,x)::a,b,h=>by
  rw[jk]at h
  rw[List.cons_append,jk]
  split at h
  ·rw[if_pos ‹_›];exact h
  ·rw[if_neg ‹_›];exact Jy h
abbrev Env:=List (Nat × AV)
abbrev Hp:=List (Nat × Mc)
structure LS where
 e:Env
 s:List Env
 h:Hp
 f:Nat->Prop
def LS.put (L:LS)(d:Option Nat)(x:AV):LS:=
 match d with
 |some d=>{L with e:=(d,x)::L.e}
 |none=>L
def ji5 (m:Mem)(bl:Names)(w:World)(id:Nat)(l:List AV):Prop:=
 ∃b n arr T pre rest,bl id=some (.blk b n)/\w.heap[b]? = some (.cells arr T (0,0))/\(arr.size,pre.length)=n/\arr.toList=pre++rest/\JK m bl l pre/\(∀c∈pre,jL c=true)
class GlC where
 G:Mem->Prop
 mono:∀{m m':Mem},Mem.le m m'->G m->G m'
variable [GlC]
structure Vs (B:Nat)(m0:Mem)(h:Hp)(m:Mem)(bl:Names)(w:World):Prop where
 imm:Imm m w
 le:Mem.le m0 m
 grow:∀b o v,m b o=some v->m0 b o=some v\/B<=b
 blk:∀id l,find id h=some (.cells l)->(bl id=some .nil/\l=[])\/ji5 m bl w id l
 it:∀id s p,find id h=some (.iter s p)->∃b n,bl id=some (.blk b n)/\w.heap[b]? = some (.stringIter s p)
 own:∀id b n,bl id=some (.blk b n)->B<=b/\b<w.heap.size/\(∀o,m b o=none)
 inj:∀id id' b n n',bl id=some (.blk b n)->bl id'=some (.blk b n')->id=id'
 gl:GlC.G m0
def qv (m:Mem)(bl:Names)(e:Env)(ts:Array Value):Prop:=∀t x,find t e=some x->Rep m bl x (ts.getD t undef)
def Stk (m:Mem)(bl:Names):List Env->List (Array Value)->Prop
 | [],[]=>True
 |e::s,t::r=>qv m bl e t/\Stk m bl s r
 |_,_=>False
theorem qv.mono {m m' bl e ts}(hm:Mem.le m m')(h:qv m bl e ts):qv m' bl e ts:=fun t x k=>(h t x k).mono hm
theorem qv.zV {m bl bl' e ts}(hb:∀id b,bl id=some b->bl' id=some b)(h:qv m bl e ts):qv m bl' e ts:=fun t x k=>(h t x k).zV hb
theorem Stk.mono {m m' bl}(hm:Mem.le m m'):∀{s r},Stk m bl s r->Stk m' bl s r
 | [],[],_=>trivial
 |_::_,_::_,h=>⟨h.1.mono hm,h.2.mono hm⟩
theorem Stk.zV {m bl bl'}(hb:∀id b,bl id=some b->bl' id=some b):∀{s r},Stk m bl s r->Stk m bl' s r
 | [],[],_=>trivial
 |_::_,_::_,h=>⟨h.1.zV hb,h.2.zV hb⟩
structure Sim (N:Nat)(W0:World)(m0:Mem)(L:LS)(sa:List (Array Value))(a:Act)(w:World)(m:Mem)(bl:Names):Prop where
 defers:a.defers=[]
 size:a.tmps.size=N
 below:Below W0.heap.size W0 w
 ws:Vs W0.heap.size m0 L.h m bl w
 env:qv m bl L.e a.tmps
 stk:Stk m bl L.s sa
 free:∀d,L.f d->bl d=none
def FnR (P:Program)(f:FuncId)(args:List AV)(r:AV)(hr:Hp):Prop:=
 ∀(w:World) (m:Mem) (vs:List Value),GlC.G m->Imm m w->JK m jh args vs->
  Calls P f vs.toArray w fun e w'=>∃v m' bl',e=.returned v/\Below w.heap.size w w'/\Vs w.heap.size m hr m' bl' w'/\(∀id,find id hr=none->bl' id=none)/\Rep m' bl' r v
def tSz (P:Program)(t:TypeId):Option Nat:=(P.info? t).map (·.size)
def jdz:TypeDesc->Bool
 | .struct _=>true
 | .array _ _=>true
 |_=>false
def tAg (P:Program)(t:TypeId):Option Bool:=(P.underlying t).map jdz
theorem kb {P:Program}{t:TypeId}{b:Bool}(h:tAg P t=some b)(w:World):(isAgg t).run P w=.ok b w:=by
 unfold tAg at h
 cases hu:P.underlying t with
 |none=>simp[hu]at h
 |some d=>
  simp[hu]at h
  subst h
  unfold isAgg underlying
  cases d <;> simp[hu,jdz]
theorem jx {P:Program}{t:TypeId}{n:Nat}(h:tSz P t=some n)(w:World):(sizeOf t).run P w=.ok n w:=by
 unfold tSz at h
 cases hu:P.info? t with
 |none=>simp[hu]at h
 |some d=>simp[hu]at h;subst h;simp[sizeOf,typeInfo,hu]
theorem Yc (b o n:Nat):(⟨b,o,none⟩:Addr).add n=⟨b,o+n,none⟩:=by unfold Addr.add;split <;> simp_all
theorem qS {P:Program}{ty:TypeId}{cs:List Value}{w:World}{b o:Nat}(ha:tAg P ty=some true)(hs:tSz P ty=some cs.length)
 (h:∀j v,cs[j]? = some v->w.cell? ⟨b,o+j,none⟩=some v):(loadVar ty ⟨b,o,none⟩).run P w=.ok (.agg cs.toArray) w:=by
 have hl:=run_loadCells_list (P:=P) w ⟨b,o,none⟩ cs (fun j v hv=>by rw[Yc];exact h j v hv)
 simp[loadVar,kb ha,jx hs,hl]
theorem ko {P:Program}{ty:TypeId}{v:Value}{w:World}{a:Addr}(ha:tAg P ty=some false)(h:w.cell? a=some v):(loadVar ty a).run P w=.ok v w:=by
 simp[loadVar,kb ha,h]
theorem je {P:Program}{t d}(h:P.underlying t=some d)(w:World):(underlying t).run P w=.ok d w:=by simp[underlying,h]
theorem yC {w:World}{b j:Nat}{arr:Array Value}{T fr}(h:w.heap[b]? = some (.cells arr T fr)):w.cell? ⟨b,j,none⟩=arr[j]? := by
 simp[World.cell?,h]
theorem Vh {arr:Array Value}{pre rest:List Value}(h:arr.toList=pre++rest){j:Nat}{v:Value}(e:pre[j]? = some v):arr[j]? = some v:=by
 rw[<-Array.getElem?_toList,h,List.getElem?_append_left]
 ·exact e
 ·rcases Nat.lt_or_ge j pre.length with h|h
  ·exact h
  ·simp[List.getElem?_eq_none h]at e
/-! operands -/
def jK (e:Env)(y:Operand)(x:AV):Prop:=
 ∀(m:Mem) (bl:Names) (a:Act),(∀t,y=.tmp t->∀z,find t e=some z->Rep m bl z (a.tmps.getD t undef))->Rep m bl x (a.eval y)
def Reads (o:Oper)(e:Env)(m:Mem)(bl:Names)(a:Act):Prop:=
 ∀t,Operand.tmp t∈o.op.operands->∀y,find t e=some y->Rep m bl y (a.tmps.getD t undef)
theorem jK.rep {e y x}(h:jK e y x){o:Oper}{m bl a}(hr:Reads o e m bl a)(hx:y∈o.op.operands):Rep m bl x (a.eval y):=
 h m bl a fun t ht z hz=>hr t (ht ▸ hx) z hz
theorem Rep.zj {m bl x y}(h:Rep m bl (.v x) y):y=x:=by
 generalize hz:AV.v x=z at h
 cases h <;> cases hz
 rfl
theorem Rep.jjH {m bl c x y}(h:Rep m bl (.opt c x) y):(c=true->Rep m bl x y)/\(c=false->y=Go.undef):=by
 generalize hz:AV.opt c x=z at h
 cases h <;> cases hz
 exact⟨‹_›,‹_›⟩
def QEx (P:Program)(o:Oper)(e:Env)(need:List (Nat × List AV))(x:AV):Prop:=
 ∀(B:Nat) (m0:Mem) (h:Hp) (m:Mem) (bl:Names) (a:Act) (w:World),Vs B m0 h m bl w->B<=w.heap.size->(∀p∈need,find p.1 h=some (.cells p.2))->Reads o e m bl a->
  ∀(next:Act->World->Prop) (Q:Exit->Act->World->Prop),
   (∀v w' m',Mem.le m m'->Below w.heap.size w w'->Vs B m0 h m' bl w'->Rep m' bl x v->next (a.put o.dst v) w')->o.wp P a w next Q
theorem QEx.pure {P:Program}{o:Oper}{e:Env}{need:List (Nat × List AV)}{x:AV}
 (H:∀(B:Nat) (m0:Mem) (h:Hp) (m:Mem) (bl:Names) (a:Act) (w:World),Vs B m0 h m bl w->(∀p∈need,find p.1 h=some (.cells p.2))->Reads o e m bl a->
   ∃v,(execOp a.eval o).run P w=.ok (.value v) w/\Rep m bl x v):QEx P o e need x:=by
 intro B m0 h m bl a w hws hB hn hr next Q k
 obtain⟨v,h1,h2⟩:=H B m0 h m bl a w hws hn hr
 unfold Oper.wp
 rw[h1,Oper.upon_value]
 exact k v w m (Mem.le.refl m) (Below.refl _ _) hws h2
def AEx (P:Program)(o:Oper)(L:LS)(K:LS->Prop):Prop:=
 ∀N W0 m0 sa m bl a w,Sim N W0 m0 L sa a w m bl->(∀d,o.dst=some d->d<N)->∀(next:Act->World->Prop) (Q:Exit->Act->World->Prop),
  (∀L' a' w' m' bl',K L'->Sim N W0 m0 L' sa a' w' m' bl'->next a' w')->o.wp P a w next Q
theorem jiB (l:Array Value)(d t:Nat)(v:Value)(hd:d<l.size):(l.setIfInBounds d v).getD t undef=if d=t then v else l.getD t undef:=by
 rw[Array.getD_eq_getD_getElem?,Array.getD_eq_getD_getElem?,Array.getElem?_setIfInBounds]
 by_cases h:d=t
 ·subst h;simp[hd]
 ·simp[h]
theorem qv.put {m bl e a x v d}(h:qv m bl e a.tmps)(hx:Rep m bl x v)(hd:d<a.tmps.size):qv m bl ((d,x)::e) (Act.put a (some d) v).tmps:=by
 intro t y hf
 rw[jk]at hf
 simp only[Act.put]
 rw[jiB _ _ _ _ hd]
 split at hf
 ·rename_i hk;subst hk;simp at hf;subst hf;simpa using hx
 ·rename_i hk;rw[if_neg hk];exact h t y hf
theorem Below.base {W0 w w':World}(h:Below W0.heap.size W0 w)(h2:Below w.heap.size w w'):Below W0.heap.size W0 w':=h.trans (h2.mono h.size)
def GoT (P:Program)(ops:Array Oper)(N:Nat)(rest:List Oper)(K:LS->Prop)(L:LS):Prop:=
 ∀W0 m0 sa m bl a w,Sim N W0 m0 L sa a w m bl->∀Q:Exit->Act->World->Prop,
  (∀L' a' w' m' bl',K L'->Sim N W0 m0 L' sa a' w' m' bl'->Q .normal a' w')->wpList P ops Q rest a w
theorem GoT.nil {P ops N K L}(h:K L):GoT P ops N [] K L:=fun _ _ _ _ _ _ _ s _ hq=>hq _ _ _ _ _ h s
theorem GoT.act {P ops N o rest K L K'}(hg:o.guard=none)(hd:∀d,o.dst=some d->d<N)(h:AEx P o L K')(k:∀L',K' L'->GoT P ops N rest K L'):GoT P ops N (o::rest) K L:=by
 intro W0 m0 sa m bl a w s Q hq
 simp only[wpList,Region.wanted,hg,if_true]
 exact .inl (h N W0 m0 sa m bl a w s hd _ _ fun L' a' w' m' bl' hk s'=>k L' hk _ _ _ _ _ _ _ s' Q hq)
theorem Xc {ops:Array Oper}{tmps:Array Value}{j s:Nat}{b:Bool}(hj:(ops[j]?).bind (·.dst)=some s)(hv:tmps.getD s undef=.bool b):yielded ops tmps j=some b:=by
 unfold yielded
 rw[hj]
 have:tmps[s]? = some (.bool b):=by
  rw[Array.getD_eq_getD_getElem?]at hv
  cases h:tmps[s]? with
  |none=>rw[h]at hv;simp[undef]at hv
  |some x=>rw[h]at hv;simp at hv;rw[hv]
 simp[this]
theorem Me {ops:Array Oper}{tmps:Array Value}{j s:Nat}(hj:(ops[j]?).bind (·.dst)=some s)(hv:tmps.getD s undef=undef):yielded ops tmps j=none:=by
 unfold yielded
 rw[hj]
 rw[Array.getD_eq_getD_getElem?]at hv
 cases h:tmps[s]? with
 |none=>simp[h]
 |some x=>rw[h]at hv;simp[undef]at hv;simp[h,hv]
def GV (e:Env)(s:Nat)(c t:Bool):Prop:=(find s e=some (.v (.bool t))/\c=true)\/find s e=some (.opt c (.v (.bool t)))
theorem GV.wanted {e s c t}(h:GV e s c t){o:Oper}{ops:Array Oper}{j want}(hg:o.guard=some (j,want))(hj:(ops[j]?).bind (·.dst)=some s){m bl ts}(he:qv m bl e ts):
 Region.wanted o (yielded ops ts)=(c&&(t==want)):=by
 simp only[Region.wanted,hg]
 rcases h with ⟨h,rfl⟩|h
 ·have hv:ts.getD s undef=.bool t:=(he s _ h).zj
  rw[Xc hj hv]
  cases t <;> cases want <;> rfl
 ·obtain⟨h1,h2⟩:=(he s _ h).jjH
  cases c with
  |false=>rw[Me hj (h2 rfl)];rfl
  |true=>
   have hv:ts.getD s undef=.bool t:=(h1 rfl).zj
   rw[Xc hj hv]
   cases t <;> cases want <;> rfl
structure Loc where
 re:Env
 rh:Hp
 we:Env
 wh:Hp
 nm:List Nat
def LEx (P:Program)(ops:Array Oper)(N:Nat)(o:Oper)(c:Loc):Prop:=
 ∀(e:Env) (s:List Env) (h:Hp) (f f':Nat->Prop),(∀p∈c.re,find p.1 e=some p.2)->(∀p∈c.rh,find p.1 h=some p.2)->(∀d∈c.nm,f d)->(∀y,f' y->f y/\y∉c.nm)->
  ∀W0 m0 sa m bl a w,Sim N W0 m0 ⟨e,s,h,f⟩ sa a w m bl->∀(next:Act->World->Prop) (Q:Exit->Act->World->Prop),
   (∀a' w' m' bl',Sim N W0 m0 ⟨c.we++e,s,c.wh++h,f'⟩ sa a' w' m' bl'->next a' w')->
   if Region.wanted o (yielded ops a.tmps)then o.wp P a w next Q else next (a.put o.dst undef) w
theorem LEx.text {P ops N o c rest K}{e:Env}{s:List Env}{h:Hp}{f f':Nat->Prop}(l:LEx P ops N o c)(hre:∀p∈c.re,find p.1 e=some p.2)(hrh:∀p∈c.rh,find p.1 h=some p.2)
 (hn:∀d∈c.nm,f d) (hf:∀y,f' y->f y/\y∉c.nm) (k:GoT P ops N rest K ⟨c.we++e,s,c.wh++h,f'⟩):GoT P ops N (o::rest) K ⟨e,s,h,f⟩:=by
 intro W0 m0 sa m bl a w S Q hq
 have:=l e s h f f' hre hrh hn hf W0 m0 sa m bl a w S (wpList P ops Q rest) Q (fun a' w' m' bl' S'=>k _ _ _ _ _ _ _ S' Q hq)
 simp only[wpList]
 split
 ·rw[if_pos ‹_›]at this;exact .inl this
 ·rw[if_neg ‹_›]at this;exact this
def xl (e:Env):List Nat->Env
 | []=>[]
 |t::ts=>match find t e with
  |some y=>(t,y)::xl e ts
  |none=>xl e ts
theorem Zp {e:Env}:∀{ts:List Nat},(∀p∈xl e ts,find p.1 e=some p.2)/\(∀t∈ts,∀y,find t e=some y->(t,y)∈xl e ts)
 | []=>by simp[xl]
 |t :: ts=>by
  have ih:=Zp (e:=e) (ts:=ts)
  simp only[xl]
  cases hf:find t e with
  |none=>
   refine⟨ih.1,fun t' ht y hy=>?_⟩
   rcases List.mem_cons.1 ht with rfl|ht
   ·rw[hf]at hy;cases hy
   ·exact ih.2 t' ht y hy
  |some z=>
   refine⟨fun p hp=>?_,fun t' ht y hy=>?_⟩
   ·rcases List.mem_cons.1 hp with rfl|hp
    ·exact hf
    ·exact ih.1 p hp
   ·rcases List.mem_cons.1 ht with rfl|ht
    ·rw[hf]at hy;cases hy;simp
    ·exact List.mem_cons_of_mem _ (ih.2 t' ht y hy)
theorem YM {ops:Array Oper}{o:Oper}{e e2:Env}(h:∀p∈xl e (o.looksAt ops),find p.1 e2=some p.2):∀t∈o.looksAt ops,∀y,find t e=some y->find t e2=some y:=
 fun t ht y hy=>h (t,y) (Zp.2 t ht y hy)
theorem Yn {ops:Array Oper}{o:Oper}{t:Nat}(h:Operand.tmp t∈o.op.operands):t∈o.looksAt ops:=by
 unfold Oper.looksAt
 refine List.mem_append.2 (.inl ?_)
 refine List.mem_filterMap.2 ⟨.tmp t,by simpa using h,rfl⟩
theorem Pg {ops:Array Oper}{o:Oper}{j:Nat}{w:Bool}{s:Nat}(hg:o.guard=some (j,w))(hj:(ops[j]?).bind (·.dst)=some s):s∈o.looksAt ops:=by
 unfold Oper.looksAt
 refine List.mem_append.2 (.inr ?_)
 rw[hg];simp[hj]
def Wt (need:List (Nat × List AV)):Hp:=need.map fun p=>(p.1,.cells p.2)
theorem Qt {need:List (Nat × List AV)}{h:Hp}:(∀p∈Wt need,find p.1 h=some p.2)↔∀p∈need,find p.1 h=some (.cells p.2):=by
 unfold Wt
 constructor
 ·intro k p hp;exact k (p.1,.cells p.2) (List.mem_map.2 ⟨p,hp,rfl⟩)
 ·intro k p hp;obtain⟨q,hq,rfl⟩:=List.mem_map.1 hp;exact k q hq
theorem LEx.q {P ops N o e need x d}(hg:o.guard=none)(q:QEx P o e need x)(hd:o.dst=some d)(hN:d<N):LEx P ops N o ⟨xl e (o.looksAt ops),Wt need,[(d,x)],[],[]⟩:=by
 intro e2 s h f f' hre hrh hn hf W0 m0 sa m bl a w S next Q k
 rw[if_pos (by simp[Region.wanted,hg])]
 refine q W0.heap.size m0 h m bl a w S.ws S.below.size (Qt.1 hrh) (fun t ht y hy=>S.env t y (YM hre t (Yn ht) y hy)) next Q ?_
 intro v w' m' hm hb hws hr
 refine k _ w' m' bl ⟨?_,?_,Below.base S.below hb,hws,?_,S.stk.mono hm,fun d' hd'=>S.free d' (hf d' hd').1⟩
 ·simp[Act.put,hd,S.defers]
 ·simp[Act.put,hd,S.size]
 ·rw[hd];exact(S.env.mono hm).put hr (by rw[S.size];exact hN)
theorem LEx.qn {P ops N o e need x}(hg:o.guard=none)(q:QEx P o e need x)(hd:o.dst=none):LEx P ops N o ⟨xl e (o.looksAt ops),Wt need,[],[],[]⟩:=by
 intro e2 s h f f' hre hrh hn hf W0 m0 sa m bl a w S next Q k
 rw[if_pos (by simp[Region.wanted,hg])]
 refine q W0.heap.size m0 h m bl a w S.ws S.below.size (Qt.1 hrh) (fun t ht y hy=>S.env t y (YM hre t (Yn ht) y hy)) next Q ?_
 intro v w' m' hm hb hws hr
 refine k _ w' m' bl ⟨?_,?_,Below.base S.below hb,hws,?_,S.stk.mono hm,fun d' hd'=>S.free d' (hf d' hd').1⟩
 ·simp[Act.put,hd,S.defers]
 ·simp[Act.put,hd,S.size]
 ·rw[hd];exact S.env.mono hm
theorem LEx.g {P ops N o e need x d j want sl c t}(hg:o.guard=some (j,want))(hj:(ops[j]?).bind (·.dst)=some sl)(hs:GV e sl c t)
 (q:(c&&(t==want))=true->QEx P o e need x) (hd:o.dst=some d) (hN:d<N):
 LEx P ops N o ⟨xl e (o.looksAt ops),Wt need,[(d,.opt (c&&(t==want)) x)],[],[]⟩:=by
 intro e2 s h f f' hre hrh hn hf W0 m0 sa m bl a w S next Q k
 have hs2:GV e2 sl c t:=by
  rcases hs with ⟨h1,h2⟩|h1
  ·exact .inl ⟨YM hre sl (Pg hg hj) _ h1,h2⟩
  ·exact .inr (YM hre sl (Pg hg hj) _ h1)
 rw[hs2.wanted hg hj S.env]
 by_cases hw:(c&&(t==want))=true
 ·rw[if_pos hw]
  refine q hw W0.heap.size m0 h m bl a w S.ws S.below.size (Qt.1 hrh) (fun t ht y hy=>S.env t y (YM hre t (Yn ht) y hy)) next Q ?_
  intro v w' m' hm hb hws hr
  refine k _ w' m' bl ⟨?_,?_,Below.base S.below hb,hws,?_,S.stk.mono hm,fun d' hd'=>S.free d' (hf d' hd').1⟩
  ·simp[Act.put,hd,S.defers]
  ·simp[Act.put,hd,S.size]
  ·rw[hd];exact(S.env.mono hm).put (.opt (fun _=>hr) fun h=>by rw[hw]at h;cases h) (by rw[S.size];exact hN)
 ·rw[if_neg hw]
  refine k _ w m bl ⟨?_,?_,S.below,S.ws,?_,S.stk,fun d' hd'=>S.free d' (hf d' hd').1⟩
  ·simp[Act.put,hd,S.defers]
  ·simp[Act.put,hd,S.size]
  ·rw[hd];exact S.env.put (.opt (fun h=>absurd h hw) fun _=>rfl) (by rw[S.size];exact hN)
def zh (L L':LS):Prop:=∀N W0 m0 sa a w m bl,Sim N W0 m0 L sa a w m bl->∃m' bl',Sim N W0 m0 L' sa a w m' bl'
theorem zh.refl (L:LS):zh L L:=fun _ _ _ _ _ _ _ _ s=>⟨_,_,s⟩
theorem zh.trans {a b c:LS}(h:zh a b)(k:zh b c):zh a c:=fun _ _ _ _ _ _ _ _ s=>let ⟨_,_,s'⟩:=h _ _ _ _ _ _ _ _ s;k _ _ _ _ _ _ _ _ s'
theorem GoT.kc {P ops N rest K L L'}(t:zh L L')(k:GoT P ops N rest K L'):GoT P ops N rest K L:=
 fun _ _ _ _ _ _ _ s Q hq=>let ⟨_,_,s'⟩:=t _ _ _ _ _ _ _ _ s;k _ _ _ _ _ _ _ s' Q hq
theorem AEx.kc {P o L L' K}(t:zh L L')(k:AEx P o L' K):AEx P o L K:=
 fun _ _ _ _ _ _ _ _ s hd next Q hn=>let ⟨_,_,s'⟩:=t _ _ _ _ _ _ _ _ s;k _ _ _ _ _ _ _ _ s' hd next Q hn
theorem AEx.mono {P o L K K'}(h:AEx P o L K)(hk:∀L',K L'->K' L'):AEx P o L K':=
 fun _ _ _ _ _ _ _ _ s hd next Q hn=>h _ _ _ _ _ _ _ _ s hd next Q fun L' a' w' m' bl' q=>hn L' a' w' m' bl' (hk L' q)
end
section
open Go.RowKit
variable [GlC]
inductive Kj where
 |normal
 |exit (id:Nat)
 |ret
def Kj.to:Kj->Exit
 | .normal=>.normal
 | .exit id=>.exit id
 | .ret=>.ret
def Wp (P:Program)(N:Nat)(c:Code)(Q:Kj->LS->Prop)(L:LS):Prop:=
 ∀W0 m0 sa m bl a w,Sim N W0 m0 L sa a w m bl->∀Qc:Exit->Act->World->Prop,
  (∀e L' a' w' m' bl',Q e L'->Sim N W0 m0 L' sa a' w' m' bl'->Qc e.to a' w')->c.wp P Qc a w
theorem Wp.mono {P N c Q Q' L}(h:Wp P N c Q L)(hq:∀e L,Q e L->Q' e L):Wp P N c Q' L:=
 fun _ _ _ _ _ _ _ s Qc hc=>h _ _ _ _ _ _ _ s Qc fun e L' a' w' m' bl' q=>hc e L' a' w' m' bl' (hq e L' q)
theorem Wp.kc {P N c Q L L'}(t:zh L L')(h:Wp P N c Q L'):Wp P N c Q L:=fun _ _ _ _ _ _ _ s Qc hc=>let ⟨_,_,s'⟩:=t _ _ _ _ _ _ _ _ s;h _ _ _ _ _ _ _ s' Qc hc
theorem Wp.skip {P N Q L}(h:Q .normal L):Wp P N .skip Q L:=fun _ _ _ _ _ _ _ s _ hc=>wp_skip (hc _ _ _ _ _ _ h s)
theorem Wp.ret {P N Q L}(h:Q .ret L):Wp P N .ret Q L:=fun _ _ _ _ _ _ _ s _ hc=>wp_ret (hc .ret _ _ _ _ _ h s)
theorem Wp.exit {P N Q L id}(h:Q (.exit id) L):Wp P N (.exit id) Q L:=fun _ _ _ _ _ _ _ s _ hc=>wp_exit (hc (.exit id) _ _ _ _ _ h s)
def Kj.then (next:LS->Prop)(Q:Kj->LS->Prop):Kj->LS->Prop
 | .normal,L=>next L
 |e,L=>Q e L
theorem Wp.seq {P N a b Q L}(h:Wp P N a (Kj.then (Wp P N b Q) Q) L):Wp P N (.seq a b) Q L:=by
 intro W0 m0 sa m bl ac w s Qc hc
 refine wp_seq (h _ _ _ _ _ _ _ s _ ?_)
 intro e L' a' w' m' bl' q s'
 cases e with
 |normal=>exact q _ _ _ _ _ _ _ s' Qc hc
 |exit id=>exact hc _ _ _ _ _ _ q s'
 |ret=>exact hc _ _ _ _ _ _ q s'
theorem Wp.cond {P N c x y Q L t}(hs:jK L.e c (.v (.bool t)))(ht:t=true->Wp P N x Q L)(hf:t=false->Wp P N y Q L):Wp P N (.cond c x y) Q L:=by
 intro W0 m0 sa m bl a w S Qc hc
 have hv:a.eval c=.bool t:=(hs m bl a fun s _ z hz=>S.env s z hz).zj
 exact wp_cond_split hv (fun h=>ht h _ _ _ _ _ _ _ S Qc hc) (fun h=>hf h _ _ _ _ _ _ _ S Qc hc)
def Kj.inBlock (id:Nat)(Q:Kj->LS->Prop):Kj->LS->Prop
 | .exit id',L=>if id'=id then Q .normal L else Q (.exit id') L
 |e,L=>Q e L
theorem Wp.block {P N id c Q L}(h:Wp P N c (Kj.inBlock id Q) L):Wp P N (.block id c) Q L:=by
 intro W0 m0 sa m bl ac w s Qc hc
 refine wp_block (h _ _ _ _ _ _ _ s _ ?_)
 intro e L' a' w' m' bl' q s'
 cases e with
 |normal=>exact hc _ _ _ _ _ _ q s'
 |exit id'=>
  simp only[Kj.inBlock]at q
  simp only[Kj.to,Exit.inBlock]
  split at q
  ·rename_i h;simp only[h,if_true];exact hc .normal _ _ _ _ _ q s'
  ·rename_i h;simp only[h,if_false];exact hc (.exit id') _ _ _ _ _ q s'
 |ret=>exact hc _ _ _ _ _ _ q s'
theorem Wp.join {P N c rest Q L}{S:Type}(st:S->LS)(J:S->Prop)(hr:∀x,J x->Wp P N rest Q (st x))
 (hc:Wp P N c (Kj.then (fun L'=>∃x,J x/\zh L' (st x)) Q) L):Wp P N (.seq c rest) Q L:=by
 refine Wp.seq (hc.mono ?_)
 intro e L' q
 cases e with
 |normal=>obtain⟨x,hj,ht⟩:=q;exact Wp.kc ht (hr x hj)
 |exit id=>exact q
 |ret=>exact q
theorem Wp.loopS {P N c Q L}{S:Type}(st:S->LS)(J:Nat->S->Prop)(n0:Nat)(x0:S)(h0:J n0 x0)(hl:zh L (st x0))
 (round:∀n x,J n x->Wp P N c (Kj.then (fun L'=>∃n' x',n'<n/\J n' x'/\zh L' (st x')) Q) (st x)):Wp P N (.loop c) Q L:=by
 intro W0 m0 sa m bl ac w s Qc hc
 obtain⟨m1,bl0,s0⟩:=hl _ _ _ _ _ _ _ _ s
 refine wp_loop_ghost (fun n a w=>∃x m bl,J n x/\Sim N W0 m0 (st x) sa a w m bl) n0 ⟨x0,m1,bl0,h0,s0⟩ ?_
 rintro n a w ⟨x,m,bl,hi,sx⟩
 refine round n x hi _ _ _ _ _ _ _ sx _ ?_
 intro e L' a' w' m' bl' q s'
 cases e with
 |normal=>
  obtain⟨n',x',hlt,hi',hb⟩:=q
  obtain⟨m2,bl2,s2⟩:=hb _ _ _ _ _ _ _ _ s'
  exact⟨n',hlt,x',m2,bl2,hi',s2⟩
 |exit id=>exact hc _ _ _ _ _ _ q s'
 |ret=>exact hc _ _ _ _ _ _ q s'
theorem Wp.region {P N id ops Q L}(h:GoT P ops N ops.toList (Q .normal) L):Wp P N (.region id ops false) Q L:=by
 intro W0 m0 sa m bl ac w s Qc hc
 exact wp_region_list (h _ _ _ _ _ _ _ s Qc fun L' a' w' m' bl' q s'=>hc .normal _ _ _ _ _ q s')
/-! results -/
inductive jbU (P:Program) (L:LS):ResultVar->AV->Prop
 |tmp {t x}:find t L.e=some x->jbU P L (.tmp t) x
 |agg {t ty id l} (n:Nat):find t L.e=some (.ptr id 0)->find id L.h=some (.cells l)->tAg P ty=some true->tSz P ty=some n->n<=l.length->jbU P L (.cell t ty) (.agg (l.take n))
 |one {t ty id x l}:find t L.e=some (.ptr id 0)->find id L.h=some (.cells (x::l))->tAg P ty=some false->jbU P L (.cell t ty) x
inductive kX (P:Program) (L:LS):List ResultVar->List AV->Prop
 |nil:kX P L [] []
 |cons {r rs x xs}:jbU P L r x->kX P L rs xs->kX P L (r::rs) (x::xs)
def QW:List AV->AV
 | [x]=>x
 |l=>.tup l
def jhX (tmps:Array Value)(r:ResultVar):Sem Value:=
 match r with
 | .tmp t=>Pure.pure (tmps.getD t undef)
 | .cell a t=>do loadVar t (<-asAddr (tmps.getD a undef))
theorem jee (fn:Func)(tmps:Array Value):results fn tmps=(do
 let vs <-fn.results.mapM (jhX tmps)
 Pure.pure (if h:vs.size=1 then vs[0]else .tuple vs):Sem Value):=rfl
theorem Mk {α}{cs:List α}{k j:Nat}{v:α}(h:(cs.take k)[j]? = some v):cs[j]? = some v:=by
 rw[List.getElem?_take]at h
 split at h
 ·exact h
 ·cases h
theorem jbU.run {P N W0 m0 L sa a w m bl r x}(h:jbU P L r x)(s:Sim N W0 m0 L sa a w m bl):∃v,(jhX a.tmps r).run P w=.ok v w/\Rep m bl x v:=by
 unfold jhX
 cases h with
 |tmp h=>exact⟨_,rfl,s.env _ _ h⟩
 |agg n h1 h2 h3 h4 h5=>
  rename_i t ty id l
  have hp:=s.env _ _ h1
  generalize hv:a.tmps.getD t undef=v at hp
  cases hp with
  |ptr hb'=>
   rcases s.ws.blk _ _ h2 with ⟨hn,-⟩|⟨b',nn,arr,T,pre,rest,hb,hh1,hsz,hpre,hr,h1c⟩
   ·rw[hn]at hb';cases hb'
   rw[hb]at hb';cases hb'
   refine⟨.agg (pre.take n).toArray,?_,.agg (hr.take n) fun c hc=>h1c c (List.mem_of_mem_take hc)⟩
   have hl:=hr.length
   have:=qS (P:=P) (ty:=ty) (cs:=pre.take n) (w:=w) (b:=_) (o:=0) h3 (by rw[h4];simp;omega) (fun j v e=>by rw[yC hh1,Nat.zero_add];exact Vh hpre (Mk e))
   simp only[hv]
   simp[asAddr,this]
 |one h1 h2 h3=>
  rename_i t ty id l
  have hp:=s.env _ _ h1
  generalize hv:a.tmps.getD t undef=v at hp
  cases hp with
  |ptr hb'=>
   rcases s.ws.blk _ _ h2 with ⟨hn,-⟩|⟨b',nn,arr,T,pre,rest,hb,hh1,hsz,hpre,hr,h1c⟩
   ·rw[hn]at hb';cases hb'
   rw[hb]at hb';cases hb'
   obtain⟨v,hv1,hv2⟩:=hr.get 0 x rfl
   refine⟨v,?_,hv2⟩
   have hc:=yC (j:=0) hh1
   rw[Vh hpre hv1]at hc
   simp only[hv]
   simp[asAddr,ko h3 hc]
theorem kX.run {P N W0 m0 L sa a w m bl}(s:Sim N W0 m0 L sa a w m bl):∀{rs xs},kX P L rs xs->∃vs,(rs.mapM (jhX a.tmps)).run P w=.ok vs w/\JK m bl xs vs
 |_,_,.nil=>⟨[],by simp,.nil⟩
 |_,_,.cons h t=>by
  obtain⟨v,h1,h2⟩:=h.run s
  obtain⟨vs,h3,h4⟩:=kX.run s t
  exact⟨v::vs,by rw[List.mapM_cons];simp[h1,h3],.cons h2 h4⟩
theorem kX.results {P N W0 m0 L sa a w m bl fn xs}(s:Sim N W0 m0 L sa a w m bl)(h:kX P L fn.results.toList xs):∃v,(results fn a.tmps).run P w=.ok v w/\Rep m bl (QW xs) v:=by
 obtain⟨vs,h1,h2⟩:=kX.run s h
 refine⟨if h:vs.toArray.size=1 then vs.toArray[0]else .tuple vs.toArray,?_,?_⟩
 ·rw[jee,Sem.run_bind,Array.mapM_eq_mapM_toList]
  simp[h1]
 ·cases h2 with
  |nil=>simp[QW];exact .tup .nil
  |cons hx ht=>
   cases ht with
   |nil=>simpa [QW]using hx
   |cons hy ht=>simpa [QW]using Rep.tup (.cons hx (.cons hy ht))
def QE (i:Nat):List AV->Env
 | []=>[]
 |x::l=>(i,x)::QE (i+1) l
theorem Xv:∀(l:List AV) (i t:Nat) (x:AV),find t (QE i l)=some x->i<=t/\l[t - i]? = some x
 | [],_,_,_,h=>by simp[QE,find]at h
 |y :: l,i,t,x,h=>by
  simp only[QE]at h
  rw[jk]at h
  split at h
  ·rename_i hk;subst hk;simp at h;subst h;simp
  ·obtain⟨h1,h2⟩:=Xv l (i+1) t x h
   refine⟨by omega,?_⟩
   have:t - i=(t - (i+1))+1:=by omega
   rw[this];simpa using h2
theorem qv.args {m bl args vs}(hr:JK m bl args vs)(n:Nat):qv m bl (QE 0 args) (vs.toArray++Array.replicate n undef):=by
 intro t x e
 obtain⟨-,h2⟩:=Xv args 0 t x e
 obtain⟨v,hv1,hv2⟩:=hr.get t x (by simpa using h2)
 rw[Array.getD_eq_getD_getElem?]
 have hlt:t<vs.length:=by
  rcases Nat.lt_or_ge t vs.length with h|h
  ·exact h
  ·simp[List.getElem?_eq_none h]at hv1
 rw[Array.getElem?_append_left (by simpa using hlt)]
 simpa [hv1]using hv2
theorem FnR.intro {P f fn c args r hr N}(hf:P.funcs[f]? = some fn)(hb:fn.body=some c)(hN:fn.ntmps=N)(hn:args.length<=N)
 (h:Wp P N c (fun e L=>(e=.normal\/e=.ret)/\∃xs L2,kX P L fn.results.toList xs/\zh {L with e:=[(0,QW xs)],s:=[]} L2/\find 0 L2.e=some r/\L2.h=hr/\∀d,find d hr=none->L2.f d) ⟨QE 0 args,[],[],fun _=>True⟩):FnR P f args r hr:=by
 intro w m vs hgl hi hrp
 refine calls_of_wp hf hb ?_
 have hlen:=hrp.length
 have s0:Sim N w m ⟨QE 0 args,[],[],fun _=>True⟩ [] {tmps:=vs.toArray++Array.replicate (fn.ntmps - vs.toArray.size) undef,defers:=[]} w m jh:=
  ⟨rfl,by simp;omega,Below.refl _ _,⟨hi,Mem.le.refl m,fun _ _ _ h=>.inl h,by simp[find],by simp[find],by simp[jh],by simp[jh],hgl⟩,.args hrp _,trivial,fun d _=>rfl⟩
 refine h w m [] m jh _ w s0 _ ?_
 rintro e L' a' w' m' bl' ⟨he,xs,L2,hxs,ht,h0,hh,hf2⟩ s'
 obtain⟨v,hv1,hv2⟩:=kX.results s' hxs
 have s3:Sim 1 w m {L' with e:=[(0,QW xs)],s:=[]} [] {tmps:=#[v],defers:=[]} w' m' bl':=by
  refine⟨rfl,rfl,s'.below,s'.ws,?_,trivial,s'.free⟩
  intro t x hx
  rw[jk]at hx
  split at hx
  ·rename_i h0;subst h0;cases hx;simpa using hv2
  ·simp[find]at hx
 obtain⟨m2,bl2,s4⟩:=ht _ _ _ _ _ _ _ _ s3
 have hv:=s4.env 0 r h0
 have hb:bodyPost P fn (fun e w'=>∃v m' bl',e=.returned v/\Below w.heap.size w w'/\Vs w.heap.size m hr m' bl' w'/\(∀id,find id hr=none->bl' id=none)/\Rep m' bl' r v) .normal a' w':=
  ⟨s'.defers,v,hv1,v,m2,bl2,rfl,s'.below,hh ▸ s4.ws,fun id hid=>s4.free id (hf2 id hid),by simpa using hv⟩
 rcases he with rfl|rfl <;> exact hb
theorem FnR.bare {P f args r}(h:FnR P f args r []):FnR P f args r.bare []:=by
 intro w m vs hgl hi hr
 refine(h w m vs hgl hi hr).mono ?_
 rintro e w' ⟨v,m',bl',h1,h2,h3,h4,h5⟩
 exact⟨v,m',bl',h1,h2,h3,h4,h5.bare⟩
end
section
open Go.RowKit
variable [GlC]
section
variable {P:Program} {o:Oper} {e:Env}
theorem QEx.move {y x}(ho:o.op=.move y)(hx:jK e y x):QEx P o e [] x:=
 .pure fun _ _ _ _ _ a w _ _ hr=>⟨a.eval y,by simp[execOp,ho],hx.rep hr (by simp[ho,Op.operands])⟩
theorem QEx.assign {y x}(ho:o.op=.assign y)(hx:jK e y x):QEx P o e [] x:=
 .pure fun _ _ _ _ _ a w _ _ hr=>⟨a.eval y,by simp[execOp,ho],hx.rep hr (by simp[ho,Op.operands])⟩
theorem QEx.pick {c y z t s r}(ho:o.op=.pick c y z)(hc:jK e c (.v (.bool t)))(hy:t=true->jK e y (.v (.bool s)))
 (hz:t=false->jK e z (.v (.bool r))):QEx P o e [] (.v (.bool (cond t s r))):=
 .pure fun _ _ _ _ _ a w _ _ hr=>by
  have h1:=(hc.rep hr (by simp[ho,Op.operands])).zj
  refine⟨.bool (cond t s r),?_,.v⟩
  cases ht:t with
  |true=>
   have h2:=((hy ht).rep hr (by simp[ho,Op.operands])).zj
   simp[execOp,ho,h1,asBool,ht,h2]
  |false=>
   have h2:=((hz ht).rep hr (by simp[ho,Op.operands])).zj
   simp[execOp,ho,h1,asBool,ht,h2]
theorem QEx.extract {y i l x}(ho:o.op=.extract y i)(hy:jK e y (.tup l))(hi:l[i]? = some x):QEx P o e [] x:=
 .pure fun _ _ _ _ _ a w _ _ hr=>by
  have h1:=hy.rep hr (by simp[ho,Op.operands])
  generalize hv:a.eval y=v at h1
  cases h1 with
  |tup h=>
   obtain⟨v,hv1,hv2⟩:=h.get i x hi
   exact⟨v,by simp[execOp,ho,hv,Instr.extract,hv1],hv2⟩
def jeO (op:BinOp)(k:IntKind)(x y:Int):Option Value:=
 match op with
 | .add=>some (.int k (k.wrap (x+y)))
 | .sub=>some (.int k (k.wrap (x - y)))
 | .mul=>some (.int k (k.wrap (x*y)))
 | .and=>some (.int k (k.wrap (BitVec.ofInt k.bits x &&& BitVec.ofInt k.bits y).toNat))
 | .or=>some (.int k (k.wrap (BitVec.ofInt k.bits x|||BitVec.ofInt k.bits y).toNat))
 | .xor=>some (.int k (k.wrap (BitVec.ofInt k.bits x ^^^ BitVec.ofInt k.bits y).toNat))
 | .eql=>some (.bool (x==y))
 | .neq=>some (.bool (x != y))
 | .lss=>some (.bool (x<y))
 | .leq=>some (.bool (x<=y))
 | .gtr=>some (.bool (x>y))
 | .geq=>some (.bool (x>=y))
 |_=>none
theorem zZ {P:Program}{op t x y k n v}{w:World}:(eqGuard op t x y (.int k n) v).run P w=.ok () w:=by
 unfold eqGuard;split <;> simp
theorem QEx.jeO {op t y z yt k a b v}(ho:o.op=.binOp op t y z yt)(hy:jK e y (.v (.int k a)))(hz:jK e z (.v (.int k b)))(h:jeO op k a b=some v):
 QEx P o e [] (.v v):=
 .pure fun _ _ _ _ _ ac w _ _ hr=>by
  have h1:=(hy.rep hr (by simp[ho,Op.operands])).zj
  have h2:=(hz.rep hr (by simp[ho,Op.operands])).zj
  refine⟨v,?_,.v⟩
  cases op <;> simp only[Rx.jeO,Option.some.injEq,reduceCtorEq]at h <;> subst h <;>
   simp[execOp,ho,h1,h2,zZ,binOp,Op.intArith,Op.intBits,Op.intCmp]
theorem QEx.quo {t y z yt k a b}(ho:o.op=.binOp .quo t y z yt)(hy:jK e y (.v (.int k a)))(hz:jK e z (.v (.int k b)))(h:b≠0):
 QEx P o e [] (.v (.int k (k.wrap (a.tdiv b)))):=
 .pure fun _ _ _ _ _ ac w _ _ hr=>by
  have h1:=(hy.rep hr (by simp[ho,Op.operands])).zj
  have h2:=(hz.rep hr (by simp[ho,Op.operands])).zj
  refine⟨_,?_,.v⟩
  simp[execOp,ho,h1,h2,zZ,binOp,Op.intDiv,h]
theorem QEx.rem {t y z yt k a b}(ho:o.op=.binOp .rem t y z yt)(hy:jK e y (.v (.int k a)))(hz:jK e z (.v (.int k b)))(h:b≠0):
 QEx P o e [] (.v (.int k (a.tmod b))):=
 .pure fun _ _ _ _ _ ac w _ _ hr=>by
  have h1:=(hy.rep hr (by simp[ho,Op.operands])).zj
  have h2:=(hz.rep hr (by simp[ho,Op.operands])).zj
  refine⟨_,?_,.v⟩
  simp[execOp,ho,h1,h2,zZ,binOp,Op.intDiv,h]
theorem QEx.shl {t y z yt k k' a b}(ho:o.op=.binOp .shl t y z yt)(hy:jK e y (.v (.int k a)))(hz:jK e z (.v (.int k' b)))(h:0<=b):
 QEx P o e [] (.v (.int k (k.wrap (a*2 ^ (min b.toNat k.bits))))):=
 .pure fun _ _ _ _ _ ac w _ _ hr=>by
  have h1:=(hy.rep hr (by simp[ho,Op.operands])).zj
  have h2:=(hz.rep hr (by simp[ho,Op.operands])).zj
  refine⟨_,?_,.v⟩
  simp[execOp,ho,h1,h2,zZ,binOp,Op.shift,Int.not_lt.2 h]
theorem QEx.shr {t y z yt k k' a b}(ho:o.op=.binOp .shr t y z yt)(hy:jK e y (.v (.int k a)))(hz:jK e z (.v (.int k' b)))(h:0<=b):
 QEx P o e [] (.v (.int k (a.fdiv (2 ^ (min b.toNat k.bits))))):=
 .pure fun _ _ _ _ _ ac w _ _ hr=>by
  have h1:=(hy.rep hr (by simp[ho,Op.operands])).zj
  have h2:=(hz.rep hr (by simp[ho,Op.operands])).zj
  refine⟨_,?_,.v⟩
  simp[execOp,ho,h1,h2,zZ,binOp,Op.shift,Int.not_lt.2 h]
def binS (op:BinOp)(s t:ByteArray):Option Value:=
 match op with
 | .eql=>some (.bool (s.toList==t.toList))
 | .neq=>some (.bool !(s.toList==t.toList))
 | .lss=>some (.bool (Op.bytesLess s.toList t.toList))
 |_=>none
theorem Wi {P:Program}{op t x y n v}{w:World}:(eqGuard op t x y (.string n) v).run P w=.ok () w:=by
 unfold eqGuard;split <;> simp
theorem XC {P:Program}{op t x y n v}{w:World}:(eqGuard op t x y (.bool n) v).run P w=.ok () w:=by
 unfold eqGuard;split <;> simp
theorem QEx.binS {op t y z yt a b v}(ho:o.op=.binOp op t y z yt)(hy:jK e y (.v (.string a)))(hz:jK e z (.v (.string b)))(h:binS op a b=some v):
 QEx P o e [] (.v v):=
 .pure fun _ _ _ _ _ ac w _ _ hr=>by
  have h1:=(hy.rep hr (by simp[ho,Op.operands])).zj
  have h2:=(hz.rep hr (by simp[ho,Op.operands])).zj
  refine⟨v,?_,.v⟩
  cases op <;> simp only[Rx.binS,Option.some.injEq,reduceCtorEq]at h <;> subst h <;>
   simp[execOp,ho,h1,h2,Wi,binOp,Op.stringOp]
theorem QEx.catS {t y z yt a b}(ho:o.op=.binOp .add t y z yt)(hy:jK e y (.v (.string a)))(hz:jK e z (.v (.string b)))(h:a.size+b.size<=9223372036854775807):
 QEx P o e [] (.v (.string (a++b))):=
 .pure fun _ _ _ _ _ ac w _ _ hr=>by
  have h1:=(hy.rep hr (by simp[ho,Op.operands])).zj
  have h2:=(hz.rep hr (by simp[ho,Op.operands])).zj
  refine⟨_,?_,.v⟩
  have:(a.size:Int)+(b.size:Int)<=9223372036854775807:=by omega
  simp[execOp,ho,h1,h2,Wi,binOp,Op.stringOp,this]
def binB (op:BinOp)(s t:Bool):Option Value:=
 match op with
 | .eql=>some (.bool (s==t))
 | .neq=>some (.bool (s != t))
 |_=>none
theorem QEx.not {t y b}(ho:o.op=.unOp .not t y)(hy:jK e y (.v (.bool b))):QEx P o e [] (.v (.bool !b)):=
 .pure fun _ _ _ _ _ ac w _ _ hr=>by
  have h1:=(hy.rep hr (by simp[ho,Op.operands])).zj
  exact⟨_,by simp[execOp,ho,h1,Op.unary],.v⟩
theorem QEx.neg {t y k n}(ho:o.op=.unOp .neg t y)(hy:jK e y (.v (.int k n))):QEx P o e [] (.v (.int k (k.wrap (0 - n)))):=
 .pure fun _ _ _ _ _ ac w _ _ hr=>by
  have h1:=(hy.rep hr (by simp[ho,Op.operands])).zj
  exact⟨_,by simp[execOp,ho,h1,Op.unary,Op.intArith],.v⟩
theorem QEx.jlk {s d y k k' n}(ho:o.op=.convert s d y)(hd:P.underlying d=some (.int k))(hs:(P.underlying s).isSome=true)(hy:jK e y (.v (.int k' n))):
 QEx P o e [] (.v (.int k (k.wrap n))):=
 .pure fun _ _ _ _ _ ac w _ _ hr=>by
  have h1:=(hy.rep hr (by simp[ho,Op.operands])).zj
  obtain⟨u,hu⟩:=Option.isSome_iff_exists.1 hs
  refine⟨_,?_,.v⟩
  simp only[execOp,ho,h1]
  simp[convert,underlying,hu,hd,Conv.intToInt]
theorem QEx.len {y t c sz l}(ho:o.op=.call {callee:=.builtin .len,args:=#[y],argTypes:=#[t]})(ht:∃E,P.underlying t=some (.slice E))(hy:jK e y (.sl c sz l)):
 QEx P o e [] (.v (.int .i64 l.length)):=
 .pure fun _ _ _ _ _ ac w _ _ hr=>by
  have h1:=hy.rep hr (by simp[ho,Op.operands,Call.operands])
  obtain⟨E,hE⟩:=ht
  refine⟨_,?_,.v⟩
  generalize hv:ac.eval y=v at h1
  cases h1 <;>
   simp[execOp,ho,hv,resolve,invoke,builtin,Builtin.len_,underlying,hE,goInt,List.length_nil]
theorem QEx.lenS {y t s}(ho:o.op=.call {callee:=.builtin .len,args:=#[y],argTypes:=#[t]})(ht:P.underlying t=some .string)(hy:jK e y (.v (.string s))):
 QEx P o e [] (.v (.int .i64 s.size)):=
 .pure fun _ _ _ _ _ ac w _ _ hr=>by
  have h1:=(hy.rep hr (by simp[ho,Op.operands,Call.operands])).zj
  refine⟨_,?_,.v⟩
  simp[execOp,ho,h1,resolve,invoke,builtin,Builtin.len_,underlying,ht,goInt]
theorem QEx.binB {op t y z yt a b v}(ho:o.op=.binOp op t y z yt)(hy:jK e y (.v (.bool a)))(hz:jK e z (.v (.bool b)))(hv:Rx.binB op a b=some v)(ht:P.underlying t=some .bool):
 QEx P o e [] (.v v):=
 .pure fun _ _ _ _ _ ac w _ _ hr=>by
  have h1:=(hy.rep hr (by simp[ho,Op.operands])).zj
  have h2:=(hz.rep hr (by simp[ho,Op.operands])).zj
  refine⟨v,?_,.v⟩
  cases op <;> simp only[Rx.binB,Option.some.injEq,reduceCtorEq]at hv <;> subst hv <;>
   simp[execOp,ho,h1,h2,XC,binOp,run_equal_bool,ht] <;> cases a <;> cases b <;> rfl
theorem Qu {l:List AV}{sz:Nat}(h:∀e∈l,e.cells.length=sz):(l.flatMap AV.cells).length=l.length*sz:=by
 induction l with
 |nil=>simp
 |cons x l ih=>
  simp only[List.flatMap_cons,List.length_append,List.length_cons,h x (by simp),ih fun e he=>h e (by simp[he])]
  rw[Nat.add_mul];omega
theorem vD {sz:Nat}:∀{l:List AV} (n:Nat),(∀e∈l,e.cells.length=sz)->(l.flatMap AV.cells).drop (n*sz)=(l.drop n).flatMap AV.cells
 | [],n,h=>by simp
 |x::l,0,h=>by simp
 |x::l,n+1,h=>by
  have hx:=h x (by simp)
  rw[List.flatMap_cons,List.drop_succ_cons,<-vD n fun e he=>h e (by simp[he])]
  have:(n+1)*sz=x.cells.length+n*sz:=by rw[hx,Nat.add_mul];omega
  rw[this,<-List.drop_drop,List.drop_left]
theorem kB {sz:Nat}:∀{l:List AV} (n:Nat),(∀e∈l,e.cells.length=sz)->(l.flatMap AV.cells).take (n*sz)=(l.take n).flatMap AV.cells
 | [],n,h=>by simp
 |x::l,0,h=>by simp
 |x::l,n+1,h=>by
  have hx:=h x (by simp)
  rw[List.flatMap_cons,List.take_succ_cons,List.flatMap_cons,<-kB n fun e he=>h e (by simp[he])]
  have:(n+1)*sz=x.cells.length+n*sz:=by rw[hx,Nat.add_mul];omega
  rw[this,List.take_append,List.take_of_length_le (by omega)]
  congr 2;omega
theorem jgQ {sz:Nat}{l:List AV}{n:Nat}{e:AV}(h:∀e∈l,e.cells.length=sz)(hn:l[n]? = some e):((l.flatMap AV.cells).drop (n*sz)).take sz=e.cells:=by
 rw[vD n h]
 have hlt:n<l.length:=by
  rcases Nat.lt_or_ge n l.length with h|h
  ·exact h
  ·simp[List.getElem?_eq_none h]at hn
 have he:l[n]=e:=by rw[List.getElem?_eq_getElem hlt]at hn;simpa using hn
 rw[List.drop_eq_getElem_cons hlt,List.flatMap_cons,he]
 have:=h e (by rw[<-he];exact List.getElem_mem hlt)
 rw[<-this,List.take_left]
theorem Qo {α}{cs:List α}{i k j:Nat}{v:α}(h:((cs.drop i).take k)[j]? = some v):cs[i+j]? = some v:=by
 rw[List.getElem?_take]at h
 split at h
 ·simpa using h
 ·simp at h
theorem QEx.indexAddr {t y z E sz c l k i x}(ho:o.op=.indexAddr t y z)(hT:P.underlying t=some (.slice E))(hsz:tSz P E=some sz)(hpos:0<sz)
 (hy:jK e y (.sl c sz l)) (hz:jK e z (.v (.int k i))) (h0:0<=i) (hi:l[i.toNat]? = some x):QEx P o e [] (.kQ x.cells):=
 .pure fun _ _ _ m bl ac w hws _ hr=>by
  have h1:=hy.rep hr (by simp[ho,Op.operands])
  have h2:=(hz.rep hr (by simp[ho,Op.operands])).zj
  generalize hv:ac.eval y=v at h1
  have hlt:i.toNat<l.length:=by
   rcases Nat.lt_or_ge i.toNat l.length with h|h
   ·exact h
   ·simp[List.getElem?_eq_none h]at hi
  cases h1 with
  |slnil=>simp at hlt
  |sl g1 g2 g3 g4 g5 g6 g7=>
   rename_i a cap cs
   have hlen:=g2.length
   rw[Qu g1]at hlen
   have hcs:0<cs.length:=by rw[<-hlen];exact Nat.mul_pos (by omega) hpos
   have hsp:=g4 hcs
   obtain⟨b,off,sp⟩:=a
   simp only at hsp;subst hsp
   refine⟨.pointer (some ⟨b,off+i.toNat*sz,none⟩),?_,?_⟩
   ·have hi':i<(l.length:Int):=by omega
    simp[execOp,ho,hv,h2,Instr.indexAt,asIntOf,je hT,h0,hi',jx hsz,Yc]
   ·refine .kQ (cs:=(cs.drop (i.toNat*sz)).take sz) ?_ ?_ ?_
    ·have:=(g2.drop (i.toNat*sz)).take sz
     rwa [jgQ g1 hi]at this
    ·exact fun c hc=>g3 c (List.mem_of_mem_drop (List.mem_of_mem_take hc))
    ·intro j v hj
     have:=g5 _ v (Qo hj)
     rw[Nat.add_assoc];exact this
theorem QEx.jkI {t y l}(ho:o.op=.load t y)(ha:tAg P t=some true)(hs:tSz P t=some l.length)(hy:jK e y (.kQ l)):QEx P o e [] (.agg l):=
 .pure fun _ _ _ m bl ac w hws _ hr=>by
  have h1:=hy.rep hr (by simp[ho,Op.operands])
  generalize hv:ac.eval y=v at h1
  cases h1 with
  |kQ g1 g2 g3=>
   rename_i b off cs
   refine⟨.agg cs.toArray,?_,.agg (g1.zV (by simp[jh])) g2⟩
   have:=qS (P:=P) (ty:=t) (cs:=cs) (w:=w) (b:=b) (o:=off) ha (by rw[hs,g1.length]) fun j v hj=>hws.imm _ _ _ (g3 j v hj)
   simp[execOp,ho,hv,Instr.loadAt,Instr.sureAddr,this]
theorem QEx.load1 {t y x}(ho:o.op=.load t y)(ha:tAg P t=some false)(hy:jK e y (.kQ [x])):QEx P o e [] x:=
 .pure fun _ _ _ m bl ac w hws _ hr=>by
  have h1:=hy.rep hr (by simp[ho,Op.operands])
  generalize hv:ac.eval y=v at h1
  cases h1 with
  |kQ g1 g2 g3=>
   rename_i b off cs
   obtain⟨v,hv1,hv2⟩:=g1.get 0 x rfl
   refine⟨v,?_,hv2.zV (by simp[jh])⟩
   have hc:=hws.imm _ _ _ (g3 0 v hv1)
   simp[execOp,ho,hv,Instr.loadAt,Instr.sureAddr,ko ha (by simpa using hc)]
theorem QEx.fieldC {t y f l fs fd sz}(ho:o.op=.fieldAddr t y f)(hT:P.underlying t=some (.struct fs))(hf:fs[f]? = some fd)(hs:tSz P fd.type=some sz)(hpos:0<sz)
 (hy:jK e y (.kQ l)):QEx P o e [] (.kQ ((l.drop fd.offset).take sz)):=
 .pure fun _ _ _ m bl ac w hws _ hr=>by
  have h1:=hy.rep hr (by simp[ho,Op.operands])
  generalize hv:ac.eval y=v at h1
  cases h1 with
  |kQ g1 g2 g3=>
   rename_i b off cs
   refine⟨.pointer (some ⟨b,off+fd.offset,none⟩),?_,.kQ (cs:=(cs.drop fd.offset).take sz) ((g1.drop _).take _) (fun c hc=>g2 c (List.mem_of_mem_drop (List.mem_of_mem_take hc))) ?_⟩
   ·have:¬ sz=0:=by omega
    simp[execOp,ho,hv,Instr.fieldAt,je hT,hf,Instr.sureAddr,fieldPlace,jx hs,this,Yc]
   ·intro j v hj
    rw[Nat.add_assoc]
    exact g3 _ v (Qo hj)
theorem QEx.field {t y f l fs fd sz b}(ho:o.op=.field t y f)(hT:P.underlying t=some (.struct fs))(hf:fs[f]? = some fd)(hs:tSz P fd.type=some sz)(ha:tAg P fd.type=some b)
 (hy:jK e y (.agg l)) {x:AV} (hx:(b=true/\x=.agg ((l.drop fd.offset).take sz))\/(b=false/\l[fd.offset]? = some x)):QEx P o e [] x:=
 .pure fun _ _ _ m bl ac w hws _ hr=>by
  have h1:=hy.rep hr (by simp[ho,Op.operands])
  generalize hv:ac.eval y=v at h1
  cases h1 with
  |agg g1 g2=>
   rename_i cs
   rcases hx with ⟨rfl,rfl⟩|⟨rfl,hx⟩
   ·refine⟨.agg ((cs.drop fd.offset).take sz).toArray,?_,.agg ((g1.drop _).take _) fun c hc=>g2 c (List.mem_of_mem_drop (List.mem_of_mem_take hc))⟩
    simp only[execOp,ho,hv]
    simp[Instr.field,je hT,hf,asAgg,part,kb ha,jx hs]
   ·obtain⟨v,hv1,hv2⟩:=g1.get _ x hx
    refine⟨v,?_,hv2⟩
    simp only[execOp,ho,hv]
    simp[Instr.field,je hT,hf,asAgg,part,kb ha,hv1]
inductive uz (e:Env):List Operand->List AV->Prop
 |nil:uz e [] []
 |cons {y x ys xs}:jK e y x->uz e ys xs->uz e (y::ys) (x::xs)
theorem uz.XE {ys xs}(h:uz e ys xs){m bl a}(hr:Reads o e m bl a)(hx:∀y∈ys,y∈o.op.operands):JK m bl xs (ys.map a.eval):=by
 induction h with
 |nil=>exact .nil
 |cons h _ ih=>exact .cons (h.rep hr (hx _ (by simp))) (ih fun y hy=>hx y (by simp[hy]))
end
end
section
open Go.RowKit
variable [GlC]
section
variable {P:Program} {o:Oper} {e:Env}
def jb4 (P:Program)(t:TypeId):Option (List Value):=((P.info? t).bind (·.zero)).map fun z=>z.cells.toList
theorem vm {P:Program}{t:TypeId}{zs:List Value}(h:jb4 P t=some zs)(w:World):∃z:Value,(zeroValue t).run P w=.ok z w/\z.cells.toList=zs:=by
 unfold jb4 at h
 cases hu:P.info? t with
 |none=>simp[hu]at h
 |some d=>
  cases hz:d.zero with
  |none=>simp[hu,hz]at h
  |some z=>simp[hu,hz]at h;exact⟨z,by simp[zeroValue,typeInfo,hu,hz],by simpa using h⟩
theorem jbw (off:Nat):∀(vs:List Value) (k:Nat) (arr:Array Value),off+k+vs.length<=arr.size->
 ((vs.zipIdx k).foldl (fun(cs:Array Value) (c:Value × Nat)=>cs.setIfInBounds (off+c.2) c.1) arr).toList=arr.toList.take (off+k)++vs++arr.toList.drop (off+k+vs.length)
 | [],k,arr,h=>by simp
 |v::vs,k,arr,h=>by
  simp only[List.length_cons]at h
  rw[List.zipIdx_cons,List.foldl_cons,jbw off vs (k+1) _ (by simp;omega)]
  simp only[Array.toList_setIfInBounds,List.length_cons]
  have hk:off+k<arr.toList.length:=by simp;omega
  rw[show off+(k+1)=off+k+1 from by omega,List.take_set,List.drop_set]
  rw[if_pos (by omega)]
  rw[List.take_succ_eq_append_getElem hk,List.set_append_right _ _ (by simp;omega)]
  simp only[List.length_take,Nat.min_eq_left (Nat.le_of_lt hk),Nat.sub_self,List.set_cons_zero]
  simp[List.append_assoc]
  congr 1;omega
inductive uA (e:Env) (pl:Nat->Option (Nat × Nat)):List (Nat × Operand)->List AV->List AV->Prop
 |nil {Z}:uA e pl [] Z Z
 |cons {i y x off sz rest Z Z'}:pl i=some (off,sz)->jK e y x->x.wX=true->x.cells.length=sz->off+sz<=Z.length->
   uA e pl rest (Z.take off++x.cells++Z.drop (off+sz)) Z'->uA e pl ((i,y)::rest) Z Z'
theorem uA.run {e pl ps Z Z'}(h:uA e pl ps Z Z'){o:Oper}{m bl a}(hr:Reads o e m bl a)(hx:∀p∈ps,p.2∈o.op.operands):
 ∀(cells:Array Value),JK m bl Z cells.toList->(∀c∈cells.toList,jL c=true)->
  ∃cells',Instr.fill pl cells (ps.map fun(i,x)=>(i,a.eval x))=some cells'/\JK m bl Z' cells'.toList/\(∀c∈cells'.toList,jL c=true):=by
 induction h with
 |nil=>exact fun cells h1 h2=>⟨cells,rfl,h1,h2⟩
 | @cons i y x off sz rest Z Z' hp hy hs hl hfit _ ih=>
   intro cells h1 h2
   have hrep:=hy.rep hr (hx (i,y) (by simp))
   obtain⟨g1,g2⟩:=hrep.cells hs
   have hsz:(a.eval y).cells.size=sz:=by have:=g1.length;simp at this;omega
   have hZ:cells.size=Z.length:=by have:=h1.length;simp at this;omega
   have e1:((a.eval y).cells.zipIdx.foldl (fun cs (c,j)=>cs.setIfInBounds (off+j) c) cells).toList=cells.toList.take off++(a.eval y).cells.toList++cells.toList.drop (off+sz):=by
    rw[<-Array.foldl_toList,Array.toList_zipIdx]
    have:=jbw off (a.eval y).cells.toList 0 cells (by simp;omega)
    simp only[Nat.add_zero,Array.length_toList,hsz]at this
    exact this
   obtain⟨cells',k1,k2,k3⟩:=ih (fun p hp=>hx p (by simp[hp])) ((a.eval y).cells.zipIdx.foldl (fun cs (c,j)=>cs.setIfInBounds (off+j) c) cells)
    (by rw[e1];exact((h1.take off).append g1).append (h1.drop _))
    (by
      rw[e1];intro c hc
      rcases List.mem_append.1 hc with hc|hc
      ·rcases List.mem_append.1 hc with hc|hc
       ·exact h2 c (List.mem_of_mem_take hc)
       ·exact g2 c hc
      ·exact h2 c (List.mem_of_mem_drop hc))
   refine⟨cells',?_,k2,k3⟩
   simp only[List.map_cons,Instr.fill,hp]
   rw[if_neg (by simp;omega)]
   exact k1
def uT (P:Program)(fs:Array Field)(i:Nat):Option (Nat × Nat):=(fs[i]?).map fun f=>(f.offset,(tSz P f.type).getD 0)
theorem UZ {P:Program}(w:World):∀(l:List Field),(∀f∈l,(tSz P f.type).isSome=true)->
 (l.mapM fun f=>(do Pure.pure (f.offset,<-sizeOf f.type):Sem (Nat × Nat))).run P w=.ok (l.map fun f=>(f.offset,(tSz P f.type).getD 0)) w
 | [],_=>by simp
 |f::l,h=>by
  obtain⟨n,hn⟩:=Option.isSome_iff_exists.1 (h f (by simp))
  have ih:=UZ w l fun g hg=>h g (by simp[hg])
  have e1:(do Pure.pure (f.offset,<-sizeOf f.type):Sem (Nat × Nat)).run P w=.ok (f.offset,n) w:=by simp[jx hn]
  rw[List.mapM_cons,Sem.run_bind,e1]
  simp only[Result.andThen_ok]
  rw[Sem.run_bind,ih]
  simp[hn]
def wW (m:Mem)(b:Nat)(cs:List Value):Mem:=fun b' o=>if b'=b then cs[o]? else m b' o
theorem Vs.jds {B m0 h m bl w w'}{arr:Array Value}{T:TypeId}{fr:Nat × Nat}(s:Vs B m0 h m bl w)(hB:B<=w.heap.size)(hw:w'.heap=w.heap.push (.cells arr T fr)){cs:List Value}
 (hc:∀(j:Nat) (v:Value),cs[j]? = some v->arr[j]? = some v):Vs B m0 h (wW m w.heap.size cs) bl w'/\Mem.le m (wW m w.heap.size cs):=by
 have hne:∀b o v,m b o=some v->b≠w.heap.size:=fun b o v e he=>by have:=s.imm.lt e;omega
 have hle:Mem.le m (wW m w.heap.size cs):=by
  intro b o v e
  simp only[wW];rw[if_neg (hne b o v e)];exact e
 have hold:∀b,b<w.heap.size->w'.heap[b]? = w.heap[b]? := by
  intro b hb;rw[hw,Array.getElem?_push,if_neg (by omega)]
 have hnew:w'.heap[w.heap.size]? = some (.cells arr T fr):=by rw[hw,Array.getElem?_push,if_pos rfl]
 refine⟨⟨?_,s.le.trans hle,?_,?_,?_,?_,s.inj,s.gl⟩,hle⟩
 ·intro b o v e
  simp only[wW]at e
  split at e
  ·rename_i hb;subst hb
   rw[yC hnew];exact hc o v e
  ·have:=s.imm b o v e
   have hb:=s.imm.lt e
   simp only[World.cell?,hold b hb]at this⊢
   exact this
 ·intro b o v e
  simp only[wW]at e
  split at e
  ·rename_i hb;exact .inr (by omega)
  ·exact s.grow b o v e
 ·intro id l hf
  rcases s.blk id l hf with h|⟨b,n,arr',T',pre,rest,g1,g2,g3,g4,g5,g6⟩
  ·exact .inl h
  ·exact .inr ⟨b,n,arr',T',pre,rest,g1,by rw[hold b (s.own id b n g1).2.1];exact g2,g3,g4,g5.mono hle,g6⟩
 ·intro id x p hf
  obtain⟨b,n,g1,g2⟩:=s.it id x p hf
  exact⟨b,n,g1,by rw[hold b (s.own id b n g1).2.1];exact g2⟩
 ·intro id b n g
  obtain⟨g1,g2,g3⟩:=s.own id b n g
  refine⟨g1,by rw[hw,Array.size_push];omega,fun o=>?_⟩
  simp only[wW];rw[if_neg (by omega)];exact g3 o
theorem UN (m:Mem)(b:Nat)(cs:List Value)(o:Nat):wW m b cs b o=cs[o]? := by simp[wW]
inductive vI (e:Env) (sz:Nat):Nat->List (Nat × Operand)->List AV->Prop
 |nil {i}:vI e sz i [] []
 |cons {i y x rest l}:jK e y x->x.wX=true->x.cells.length=sz->x.ZD=true->vI e sz (i+1) rest l->vI e sz i ((i,y)::rest) (x::l)
theorem vI.len {e sz i ps l}(h:vI e sz i ps l):∀x∈l,x.cells.length=sz:=by
 induction h with
 |nil=>simp
 |cons _ _ hl _ _ ih=>
  intro x hx
  rcases List.mem_cons.1 hx with rfl|hx
  ·exact hl
  ·exact ih x hx
theorem vI.bare {e sz i ps l}(h:vI e sz i ps l):JS (l.flatMap AV.cells)=true:=by
 induction h with
 |nil=>rfl
 | @cons _ _ x _ _ _ hs _ hb _ ih=>
   rw[List.flatMap_cons]
   show qI _ _=true
   rw[kE,Bool.and_eq_true]
   refine⟨?_,ih⟩
   cases x <;> simp_all [AV.cells,AV.ZD,AV.clean,qI]
theorem vI.fill {e sz i ps l}(h:vI e sz i ps l):∀Z:List AV,(i+l.length)*sz<=Z.length->
 uA e (fun i=>some (i*sz,sz)) ps Z (Z.take (i*sz)++l.flatMap AV.cells++Z.drop ((i+l.length)*sz)):=by
 induction h with
 |nil=>intro Z hZ;simp;exact .nil
 | @cons i y x rest l hy hs hl _ _ ih=>
   intro Z hZ
   simp only[List.length_cons]at hZ
   have e0:(i+(l.length+1))*sz=i*sz+sz+l.length*sz:=by rw[Nat.add_mul,Nat.add_mul];omega
   have e1:(i+1)*sz=i*sz+sz:=by rw[Nat.add_mul];omega
   rw[e0]at hZ
   refine .cons rfl hy hs hl (by omega) ?_
   have hlenZ:(Z.take (i*sz)++x.cells++Z.drop (i*sz+sz)).length=Z.length:=by simp[hl];omega
   have e2:(i+1+l.length)*sz=i*sz+sz+l.length*sz:=by rw[Nat.add_mul,e1]
   have:=ih (Z.take (i*sz)++x.cells++Z.drop (i*sz+sz)) (by rw[hlenZ,e2];exact hZ)
   have hA:(Z.take (i*sz)++x.cells).length=(i+1)*sz:=by simp[hl,e1];omega
   have t1:(Z.take (i*sz)++x.cells++Z.drop (i*sz+sz)).take ((i+1)*sz)=Z.take (i*sz)++x.cells:=List.take_left' hA
   have t2:(Z.take (i*sz)++x.cells++Z.drop (i*sz+sz)).drop ((i+1+l.length)*sz)=Z.drop ((i+(l.length+1))*sz):=by
    have:(i+1+l.length)*sz=(i+1)*sz+l.length*sz:=Nat.add_mul _ _ _
    rw[this,<-List.drop_drop,List.drop_left' hA,List.drop_drop,e0]
   rw[t1,t2]at this
   simpa [List.append_assoc,List.flatMap_cons,Nat.add_assoc,Nat.add_comm 1]using this
structure Vu (P:Program)(t E sz by_:Nat):Prop where
 under:P.underlying t=some (.slice E)
 info:∃i z,P.info? E=some i/\i.zero=some z/\i.size=sz/\i.bytes=by_/\z.cells.size=sz/\z.cells.toList.all jL=true
 pos:0<sz
theorem Vu.sz {P t E sz by_}(h:Vu P t E sz by_):tSz P E=some sz:=by
 obtain⟨i,z,h1,_,h2,_⟩:=h.info
 simp[tSz,h1,h2]
def Kx (zero:Array Value)(k:Nat):Array Value:=(Array.range k).map (zero[· % zero.size]!)
theorem QEx.buildSlice {t E sz by_ n ps l}(ho:o.op=.buildSlice t n ps)(ht:Vu P t E sz by_)(h:vI e sz 0 ps.toList l)(hn:l.length=n)(hlim:n*sz<=2 ^ 24):
 QEx P o e [] (.sl true sz l):=by
 intro B m0 hp m bl a w hws hB _ hr next Q k
 obtain⟨i,z,hi1,hi2,hi3,hi4,hi5,hi6⟩:=ht.info
 have hZ:∃zs:Array Value,zs.size=n*sz/\(∀c∈zs.toList,jL c=true)/\zs=Kx (if n*sz=0 then #[]else z.cells) (n*sz):=by
  refine⟨_,by simp[Kx],?_,rfl⟩
  intro c hc
  simp only[Kx,Array.toList_map,Array.toList_range,List.mem_map,List.mem_range]at hc
  obtain⟨j,hj,rfl⟩:=hc
  have hne:¬ n*sz=0:=by omega
  simp only[hne,if_false]
  have hlt:j % z.cells.size<z.cells.size:=Nat.mod_lt _ (by rw[hi5];exact ht.pos)
  rw[getElem!_pos z.cells _ hlt]
  exact List.all_eq_true.1 hi6 _ (by simp)
 obtain⟨zs,hz1,hz2,hz3⟩:=hZ
 have hfill:=h.fill (List.replicate (n*sz) AV.undef) (by simp[hn])
 obtain⟨cells',k1,k2,k3⟩:=hfill.run (o:=o) hr (fun p hp=>by rw[ho];simp only[Op.operands];simp;exact⟨p.1,by simpa using hp⟩) zs
  (by
    have:∀(vs:List Value),JK m bl (List.replicate vs.length AV.undef) vs:=by
     intro vs;induction vs with
     |nil=>exact .nil
     |cons v vs ih=>exact .cons .undef ih
    have:=this zs.toList
    rwa [Array.length_toList,hz1]at this) hz2
 simp only[Nat.zero_mul,Nat.zero_add,List.take_zero,List.nil_append,hn]at k2
 rw[List.drop_of_length_le (by simp),List.append_nil]at k2
 obtain⟨hs,hle⟩:=hws.jds (w':=w.alloc (.cells cells' E)) (arr:=cells') (T:=E) (fr:=(0,0)) hB rfl (cs:=cells'.toList) (fun j v e=>by simpa using e)
 have hrun:(execOp a.eval o).run P w=.ok (.value (.slice (some ⟨w.heap.size,0,none⟩) n n)) (w.alloc (.cells cells' E)):=by
  have hlim':¬ (2 ^ 24<n*sz):=by omega
  have k1':Instr.fill (fun i=>some (i*sz,sz)) zs (ps.map fun(i,x)=>(i,a.eval x)).toList=some cells':=by simpa using k1
  subst hz3
  unfold Kx at k1'
  by_cases h0:n*sz=0
  ·simp only[h0,if_true]at k1'
   simp at k1'
   simp only[execOp,ho,Instr.buildSlice,Sem.run_bind,je ht.under,Result.andThen_ok,jx ht.sz,h0]
   simp[k1',newRow]
  ·simp only[h0,if_false]at k1'
   simp at k1'
   simp only[execOp,ho,Instr.buildSlice,Sem.run_bind,je ht.under,Result.andThen_ok,jx ht.sz]
   simp[hlim',h0,zeroValue,typeInfo,hi1,hi2,k1',newRow]
 unfold Oper.wp
 rw[hrun,Oper.upon_value]
 subst hn
 refine k _ _ (wW m w.heap.size cells'.toList) hle ((Below.refl _ _).alloc (Nat.le_refl _) _) hs ?_
 refine .sl (cs:=cells'.toList) h.len ?_ k3 (fun _=>rfl) (fun j v e=>?_) (Nat.le_refl _) (fun _=>rfl)
 ·have:=(k2.bare (bl':=jh)).mono hle
  rwa [wJ,yz h.bare]at this
 ·simp only[Nat.zero_add];rw[UN];exact e
inductive vJ (e:Env):Option Operand->Nat->Nat->Prop
 |none {n}:vJ e none n n
 |some {y k i n}:jK e y (.v (.int k i))->0<=i->vJ e (some y) n i.toNat
theorem QEx.slice {t y lo hi E sz by_ c l a b}(ho:o.op=.slice t y lo hi none)(ht:Vu P t E sz by_)(hy:jK e y (.sl c sz l))
 (hlo:vJ e lo 0 a) (hhi:vJ e hi l.length b) (hab:a<=b) (hb:b<=l.length):QEx P o e [] (.sl false sz ((l.drop a).take (b - a))):=
 .pure fun _ _ _ m bl ac w hws _ hr=>by
  have h1:=hy.rep hr (by simp[ho,Op.operands])
  generalize hv:ac.eval y=v at h1
  have e1:∀len cap:Nat,b<=cap->(hi=none->b=len)->(Instr.sliceBounds true len cap (lo.map ac.eval) (hi.map ac.eval) none).run P w=.ok (a,b,cap) w:=by
   intro len cap hc hn
   cases hlo with
   |none=>
    cases hhi with
    |none=>simp[Instr.sliceBounds,hn rfl]
    |some h2 h3=>
     have:=(h2.rep hr (by simp[ho,Op.operands])).zj
     rename_i k i
     have hi':i<=(cap:Int):=by omega
     simp[Instr.sliceBounds,this,Instr.sliceBound,asIntOf,h3,hi']
   |some g2 g3=>
    have hg:=(g2.rep hr (by simp[ho,Op.operands])).zj
    rename_i gk gi
    cases hhi with
    |none=>
     have hi':gi<=(len:Int):=by have:=hn rfl;omega
     simp[Instr.sliceBounds,hg,Instr.sliceBound,asIntOf,g3,hi',hn rfl]
    |some h2 h3=>
     have:=(h2.rep hr (by simp[ho,Op.operands])).zj
     rename_i k i
     have hi':i<=(cap:Int):=by omega
     have hg':gi<=i:=by omega
     have hm:max i 0=i:=by omega
     simp[Instr.sliceBounds,this,hg,Instr.sliceBound,asIntOf,h3,hi',g3,hg',hm]
  have e2:hi=none->b=l.length:=by intro h;subst h;cases hhi;rfl
  cases h1 with
  |slnil=>
   simp at hb;subst hb
   have ha:a=0:=by omega
   subst ha
   refine⟨.slice none 0 0,?_,by simpa using Rep.slnil⟩
   have:=e1 0 0 (Nat.le_refl _) (fun _=>rfl)
   simp[execOp,ho,hv,Instr.sliceAt,je ht.under,Instr.slice,this,jx ht.sz]
  |sl g1 g2 g3 g4 g5 g6 g7=>
   rename_i ad cap cs
   have hrun:=e1 l.length cap (by omega) e2
   have hl':((l.drop a).take (b - a)).length=b - a:=by simp;omega
   refine⟨.slice (some (if cap=a then ad else ad.add (a*sz))) (b - a) (cap - a),?_,?_⟩
   ·simp only[execOp,ho,hv,Instr.sliceAt,Sem.run_bind,je ht.under,Result.andThen_ok,Instr.slice,Option.map_none,hrun,jx ht.sz,Sem.run_pure]
    by_cases hca:cap=a
    ·simp[hca]
    ·simp[hca]
   ·have hcl:=g2.length
    rw[Qu g1]at hcl
    have key:Rep m bl (.sl false sz ((l.drop a).take (b - a))) (.slice (some (if cap=a then ad else ad.add (a*sz))) ((l.drop a).take (b - a)).length (cap - a)):=by
     refine .sl (cs:=(cs.drop (a*sz)).take ((b - a)*sz)) (fun x hx=>g1 x (List.mem_of_mem_drop (List.mem_of_mem_take hx))) ?_ (fun c hc=>g3 c (List.mem_of_mem_drop (List.mem_of_mem_take hc))) ?_ ?_ (by rw[hl'];omega) (by simp)
     ·have:=(g2.drop (a*sz)).take ((b - a)*sz)
      rw[vD a g1,kB (b - a) (fun x hx=>g1 x (List.mem_of_mem_drop hx))]at this
      exact this
     ·intro hlen
      have hcs:0<cs.length:=by simp at hlen;omega
      have hsp:=g4 hcs
      split
      ·exact hsp
      ·obtain⟨ab,ao,as⟩:=ad
       simp only at hsp;subst hsp
       rw[Yc]
     ·intro j v hj
      have hne:¬ cap=a:=by
       intro hc
       have hba:b - a=0:=by omega
       rw[hba]at hj
       simp at hj
      rw[if_neg hne]
      have h0:0<cs.length:=by
       rcases Nat.eq_zero_or_pos cs.length with h|h
       ·have:cs=[]:=List.eq_nil_of_length_eq_zero h
        subst this;simp at hj
       ·exact h
      have hsp:=g4 h0
      obtain⟨ab,ao,as⟩:=ad
      simp only at hsp;subst hsp
      rw[Yc]
      have:=g5 _ v (Qo hj)
      simp only
      rw[Nat.add_assoc];exact this
    rwa [hl']at key
theorem QEx.slice3 {t y hi mx E sz by_ c l k k' i}(ho:o.op=.slice t y none (some hi) (some mx))(ht:Vu P t E sz by_)(hy:jK e y (.sl c sz l))
 (hhi:jK e hi (.v (.int k i))) (hmx:jK e mx (.v (.int k' i))) (h0:0<=i) (h1:i<=l.length):QEx P o e [] (.sl true sz (l.take i.toNat)):=
 .pure fun _ _ _ m bl ac w hws _ hr=>by
  have q1:=hy.rep hr (by simp[ho,Op.operands])
  have q2:=(hhi.rep hr (by simp[ho,Op.operands])).zj
  have q3:=(hmx.rep hr (by simp[ho,Op.operands])).zj
  generalize hv:ac.eval y=v at q1
  cases q1 with
  |slnil=>
   have:i=0:=by simp at h1;omega
   subst this
   refine⟨.slice none 0 0,?_,by simpa using Rep.slnil⟩
   simp[execOp,ho,hv,Instr.sliceAt,je ht.under,Instr.slice,Instr.sliceBounds,q2,q3,Instr.sliceBound,asIntOf,jx ht.sz]
  |sl g1 g2 g3 g4 g5 g6 g7=>
   rename_i ad cap cs
   have hl:(l.take i.toNat).length=i.toNat:=by simp;omega
   refine⟨.slice (some ad) i.toNat i.toNat,?_,?_⟩
   ·have hc:i<=(cap:Int):=by omega
    simp[execOp,ho,hv,Instr.sliceAt,je ht.under,Instr.slice,Instr.sliceBounds,q2,q3,Instr.sliceBound,asIntOf,jx ht.sz,Addr.add,h0,hc]
    try (intro h;omega)
   ·have:=Rep.sl (m:=m) (bl:=bl) (c:=true) (sz:=sz) (l:=l.take i.toNat) (a:=ad) (cap:=i.toNat) (cs:=cs.take (i.toNat*sz)) (fun x hx=>g1 x (List.mem_of_mem_take hx)) (by
     have:=g2.take (i.toNat*sz);rwa [kB _ g1]at this) (fun c hc=>g3 c (List.mem_of_mem_take hc)) (fun h=>g4 (by simp at h;omega)) (fun j v e=>g5 j v (Mk e)) (by rw[hl];exact Nat.le_refl _) (fun _=>hl.symm)
    rwa [hl]at this
theorem VW {m bl c sz l v}(h:Rep m bl (.sl c sz l) v):∃ad n cap cs,v=.slice ad n cap/\n=l.length/\n<=cap/\(∀x∈l,x.cells.length=sz)/\JK m jh (l.flatMap AV.cells) cs/\
 (∀c∈cs,jL c=true)/\(ad=none->l=[]/\cap=0)/\(c=true->cap=n)/\(∀a,ad=some a->(0<cs.length->a.spot=none)/\(∀j v,cs[j]? = some v->m a.block (a.off+j)=some v)):=by
 cases h with
 |slnil=>exact⟨none,0,0,[],rfl,rfl,Nat.le_refl _,by simp,.nil,by simp,by simp,fun _=>rfl,by simp⟩
 |sl g1 g2 g3 g4 g5 g6 g7=>exact⟨_,_,_,_,rfl,rfl,g6,g1,g2,g3,by simp,g7,fun a ha=>by cases ha;exact⟨g4,g5⟩⟩
theorem pc {m:Mem}{w:World}(hi:Imm m w){ad:Addr}{cs:List Value}(h1:0<cs.length->ad.spot=none)(h2:∀j v,cs[j]? = some v->m ad.block (ad.off+j)=some v):
 ∀j v,cs[j]? = some v->w.cell? (ad.add j)=some v:=by
 intro j v e
 have hpos:0<cs.length:=by
  rcases Nat.eq_zero_or_pos cs.length with h|h
  ·have:cs=[]:=List.eq_nil_of_length_eq_zero h
   subst this;simp at e
  ·exact h
 have hs:=h1 hpos
 obtain⟨b,off,sp⟩:=ad
 simp only at hs;subst hs
 rw[Yc]
 exact hi _ _ _ (h2 j v e)
def JD (b:UInt8):AV:=.v (.int .u8 b.toNat)
theorem vi:∀(bs:List UInt8),(bs.map JD).flatMap AV.cells=bs.map JD
 | []=>rfl
 |b::bs=>by rw[List.map_cons,List.flatMap_cons,vi bs];rfl
theorem JK.bytes {m bl}:∀{bs:List UInt8} {cs},JK m bl (bs.map JD) cs->cs=bs.map fun b=>Value.int .u8 b.toNat
 | [],_,.nil=>rfl
 |b::bs,_,.cons h t=>by
  rw[List.map_cons,<-t.bytes]
  congr 1
  exact h.zj
theorem JK.MM {m bl}:∀(bs:List UInt8),JK m bl (bs.map JD) (bs.map fun b=>Value.int .u8 b.toNat)
 | []=>.nil
 |b::bs=>.cons .v (JK.MM bs)
theorem QEx.jdR {s d y E c l}{bs:List UInt8}(ho:o.op=.convert s d y)(hs:P.underlying s=some (.slice E))(hE:P.underlying E=some (.int .u8))(hd:P.underlying d=some .string)
 (hy:jK e y (.sl c 1 l)) (hl:l=bs.map JD):QEx P o e [] (.v (.string ⟨bs.toArray⟩)):=
 .pure fun _ _ _ m bl ac w hws _ hr=>by
  subst hl
  have h1:=hy.rep hr (by simp[ho,Op.operands])
  obtain⟨ad,n,cap,cs,hv,hn,hc,el,XE,one,emp,-,at_⟩:=VW h1
  refine⟨_,?_,.v⟩
  rw[vi]at XE
  have hcs:=XE.bytes
  cases had:ad with
  |none=>
   obtain⟨hb,hc0⟩:=emp had
   have hb':bs=[]:=by simpa using hb
   subst hb'
   have:=run_convert_bytes_nil (P:=P) w s E hs hE n cap d hd
   rw[had]at hv
   simp only[execOp,ho,hv,Sem.run_bind,this,Result.andThen_ok,Sem.run_pure]
   rfl
  |some a=>
   obtain⟨q1,q2⟩:=at_ a had
   have hl:=run_loadCells_list (P:=P) w a cs (pc hws.imm q1 q2)
   have hlen:cs.length=n:=by rw[hn,hcs];simp
   rw[hlen,hcs]at hl
   have hm:(bs.map fun b=>Value.int .u8 b.toNat)=(bs.map fun b=>(b.toNat:Int)).map (Value.int .u8):=by simp
   rw[hm]at hl
   have h2:=run_bytesToString (P:=P) w a n cap _ hl
   have h3:=run_convert_bytes_string (P:=P) w s d E (some a) n cap hs hE hd
   rw[foldl_push_byteCells]at h2
   rw[had]at hv
   simp only[execOp,ho,hv,Sem.run_bind,h3,h2,Result.andThen_ok,Sem.run_pure]
   simp
theorem QEx.jhP {s d y E st}(ho:o.op=.convert s d y)(hs:P.underlying s=some .string)(hd:P.underlying d=some (.slice E))(hE:P.underlying E=some (.int .u8))(hy:jK e y (.v (.string st))):
 QEx P o e [] (.sl false 1 (st.data.toList.map JD)):=by
 intro B m0 hp m bl a w hws hB _ hr next Q k
 have h1:=(hy.rep hr (by simp[ho,Op.operands])).zj
 have hrun:=run_bytes_of_string (P:=P) w s d E st hs hd hE
 have hge:=grownCap_ge w st.size 0 E
 have hbr:∀c,bytesRow st c=((st.data.toList.map fun b=>Value.int .u8 b.toNat).toArray++Array.replicate (c - st.size) (.int .u8 0)):=by
  intro c;unfold bytesRow;rw[<-Array.toList_inj];simp
 generalize grownCap w st.size 0 E=cap at hrun hge
 obtain⟨hs',hle⟩:=hws.jds (w':=w.drew.alloc (.cells (bytesRow st cap) E ((bytesRow st cap).size,(bytesRow st cap).size+1))) (arr:=bytesRow st cap) (T:=E) (fr:=((bytesRow st cap).size,(bytesRow st cap).size+1)) hB rfl
  (cs := st.data.toList.map fun b=>Value.int .u8 b.toNat) (fun j v e=>by
    have hj:j<(st.data.toList.map fun b=>Value.int .u8 b.toNat).length:=by
     rcases Nat.lt_or_ge j (st.data.toList.map fun b=>Value.int .u8 b.toNat).length with h|h
     ·exact h
     ·rw[List.getElem?_eq_none h]at e;cases e
    rw[hbr,Array.getElem?_append_left (by simpa using hj)]
    simpa using e)
 have hrun2:(execOp a.eval o).run P w=.ok (.value (.slice (some ⟨w.heap.size,0,none⟩) st.size cap)) (w.drew.alloc (.cells (bytesRow st cap) E ((bytesRow st cap).size,(bytesRow st cap).size+1))):=by
  simp only[execOp,ho,h1,Sem.run_bind,hrun,Result.andThen_ok,Sem.run_pure]
 unfold Oper.wp
 rw[hrun2,Oper.upon_value]
 refine k _ _ _ hle (((Below.refl _ _).drew).alloc (Nat.le_refl _) _) hs' ?_
 have hlen:(st.data.toList.map JD).length=st.size:=by simp
 have:=Rep.sl (m:=wW m w.heap.size (st.data.toList.map fun b=>Value.int .u8 b.toNat)) (bl:=bl) (c:=false) (sz:=1) (l:=st.data.toList.map JD) (a:=⟨w.heap.size,0,none⟩) (cap:=cap)
  (by intro x hx;obtain⟨b,-,rfl⟩:=List.mem_map.1 hx;rfl) (by rw[vi];exact JK.MM _) (by intro c hc;obtain⟨b,-,rfl⟩:=List.mem_map.1 hc;rfl) (fun _=>rfl)
  (fun j v e=>by simp only[Nat.zero_add];rw[UN];exact e) (by rw[hlen];exact hge) (by simp)
 rwa [hlen]at this
theorem QEx.max2 {x y ts k a b}(ho:o.op=.call {callee:=.builtin .max,args:=#[x,y],argTypes:=ts})(hx:jK e x (.v (.int k a)))(hy:jK e y (.v (.int k b))):
 QEx P o e [] (.v (.int k (max a b))):=
 .pure fun _ _ _ m bl ac w hws _ hr=>by
  have h1:=(hx.rep hr (by simp[ho,Op.operands,Call.operands])).zj
  have h2:=(hy.rep hr (by simp[ho,Op.operands,Call.operands])).zj
  refine⟨_,?_,.v⟩
  have:(if b>a then b else a)=max a b:=by split <;> omega
  simp[execOp,ho,h1,h2,resolve,invoke,builtin,Builtin.max_,Builtin.max2]
  simpa using this
theorem QEx.min2 {x y ts k a b}(ho:o.op=.call {callee:=.builtin .min,args:=#[x,y],argTypes:=ts})(hx:jK e x (.v (.int k a)))(hy:jK e y (.v (.int k b))):
 QEx P o e [] (.v (.int k (min a b))):=
 .pure fun _ _ _ m bl ac w hws _ hr=>by
  have h1:=(hx.rep hr (by simp[ho,Op.operands,Call.operands])).zj
  have h2:=(hy.rep hr (by simp[ho,Op.operands,Call.operands])).zj
  refine⟨_,?_,.v⟩
  have:(if b<a then b else a)=min a b:=by split <;> omega
  simp[execOp,ho,h1,h2,resolve,invoke,builtin,Builtin.min_,Builtin.min2]
  simpa using this
theorem jfo (a b:List UInt8):((ByteArray.mk a.toArray).toList==(ByteArray.mk b.toArray).toList)=(a==b):=by rw[ByteArray.toList_mk,ByteArray.toList_mk]
def jb6 (a b:List UInt8):Bool:=Op.bytesLess a b
theorem jj4 (a b:List UInt8):(⟨a.toArray⟩:ByteArray)++⟨b.toArray⟩=⟨(a++b).toArray⟩:=by
 apply ByteArray.ext
 simp
inductive Zs:List AV->List Value->Prop
 |nil:Zs [] []
 |v {x l vs}:Zs l vs->Zs (.v x::l) (x::vs)
 |s {c sz l vs}:Zs l vs->Zs (.sl c sz []::l) (.slice none 0 0::vs)
theorem Zs.XE {m bl}:∀{l vs},Zs l vs->JK m bl l vs
 |_,_,.nil=>.nil
 |_,_,.v h=>.cons .v h.XE
 |_,_,.s h=>.cons .slnil h.XE
def jc0 (P:Program)(t:TypeId)(Z:List AV):Prop:=∃zs,jb4 P t=some zs/\Zs Z zs/\zs.all jL=true
theorem QEx.buildZ {t ps fs Z0 Z}(ho:o.op=.build t ps)(hT:P.underlying t=some (.struct fs))(hz:jc0 P t Z0)
 (hf:fs.toList.all (fun f=>(tSz P f.type).isSome)=true) (h:uA e (uT P fs) ps.toList Z0 Z):QEx P o e [] (.agg Z):=
 .pure fun _ _ _ m bl a w hws _ hr=>by
  obtain⟨zs,hz0,hzs,h1⟩:=hz
  obtain⟨z,hz1,hz2⟩:=vm hz0 w
  obtain⟨cells',k1,k2,k3⟩:=h.run (o:=o) hr (fun p hp=>by rw[ho];simp only[Op.operands];simp;exact⟨p.1,by simpa using hp⟩) z.cells
   (by rw[hz2];exact hzs.XE) (by rw[hz2];simpa using h1)
  refine⟨.agg cells',?_,by have:=Rep.agg k2 k3;simpa using this⟩
  have hm:(fs.mapM fun f=>(do Pure.pure (f.offset,<-sizeOf f.type):Sem (Nat × Nat))).run P w=.ok (fs.map fun f=>(f.offset,(tSz P f.type).getD 0)) w:=by
   rw[Array.mapM_eq_mapM_toList,Sem.run_map,UZ w fs.toList (fun f hf'=>List.all_eq_true.1 hf f hf')]
   simp only[Result.andThen_ok]
   congr 1
   exact Array.ext' (by rw[Array.toList_map])
  have hpl:(fun i=>(fs.map fun f=>(f.offset,(tSz P f.type).getD 0))[i]?)=uT P fs:=by
   funext i;simp[uT]
  have k1':Instr.fill (fun i=>(fs.map fun f=>(f.offset,(tSz P f.type).getD 0))[i]?) z.cells (ps.map fun(i,x)=>(i,a.eval x)).toList=some cells':=by
   rw[hpl];simpa using k1
  simp only[execOp,ho,Instr.build,Sem.run_bind,hz1,Result.andThen_ok,je hT,hm,k1',Sem.run_pure]
theorem QEx.nilC {y c}(ho:o.op=.nilCheck y)(hy:jK e y (.kQ c)):QEx P o e [] .undef:=
 .pure fun _ _ _ m bl ac w hws _ hr=>by
  have h1:=hy.rep hr (by simp[ho,Op.operands])
  generalize hv:ac.eval y=v at h1
  cases h1 with
  |kQ=>exact⟨_,by simp[execOp,ho,hv];rfl,.undef⟩
theorem QEx.idxA {t y z E n sz k i l x}(ho:o.op=.index t y z)(hT:P.underlying t=some (.array n E))(hs:tSz P E=some sz)(ha:tAg P E=some false)(hy:jK e y (.agg l))
 (hz:jK e z ((.v (.int k i)))) (h:0<=i/\i<n) (hr:l[i.toNat*sz]? = some x):QEx P o e [] x:=
 .pure fun _ _ _ m bl ac w hws _ hrd=>by
  have r1:=hy.rep hrd (by simp[ho,Op.operands])
  have r2:=(hz.rep hrd (by simp[ho,Op.operands])).zj
  generalize hv:ac.eval y=v at r1
  cases r1 with
  |agg g1 g2=>
   rename_i cs
   obtain⟨v,hv1,hv2⟩:=g1.get _ x hr
   refine⟨v,?_,hv2⟩
   simp only[execOp,ho,hv,r2]
   simp[Instr.index,asIntOf,je hT,h.1,h.2,jx hs,part,kb ha,hv1]
theorem QEx.buildA {t ps n E sz Z0 Z}(ho:o.op=.build t ps)(hT:P.underlying t=some (.array n E))(hs:tSz P E=some sz)(hz:jc0 P t Z0)
 (h:uA e (fun i=>some (i*sz,sz)) ps.toList Z0 Z):QEx P o e [] (.agg Z):=
 .pure fun _ _ _ m bl a w hws _ hr=>by
  obtain⟨zs,hz0,hzs,h1⟩:=hz
  obtain⟨z,hz1,hz2⟩:=vm hz0 w
  obtain⟨cells',k1,k2,k3⟩:=h.run (o:=o) hr (fun p hp=>by rw[ho];simp only[Op.operands];simp;exact⟨p.1,by simpa using hp⟩) z.cells
   (by rw[hz2];exact hzs.XE) (by rw[hz2];simpa using h1)
  refine⟨.agg cells',?_,by have:=Rep.agg k2 k3;simpa using this⟩
  have k1':Instr.fill (fun i=>some (i*sz,sz)) z.cells (ps.map fun(i,x)=>(i,a.eval x)).toList=some cells':=by simpa using k1
  simp only[execOp,ho,Instr.build,Sem.run_bind,hz1,Result.andThen_ok,je hT,jx hs,k1',Sem.run_pure]
theorem jb5 (s:List UInt8)(a b:Nat):(⟨s.toArray⟩:ByteArray).extract a b=⟨((s.drop a).take (b - a)).toArray⟩:=by
 apply ByteArray.ext
 simp[ByteArray.data_extract]
end
end
section
open Go.RowKit
variable [GlC]
theorem LEx.ofA {P:Program}{ops:Array Oper}{N:Nat}{o:Oper}{c:Loc}(hg:o.guard=none)(hd:∀d,o.dst=some d->d<N)
 (H:∀(e2:Env) (s:List Env) (h:Hp) (f f':Nat->Prop),(∀p∈c.re,find p.1 e2=some p.2)->(∀p∈c.rh,find p.1 h=some p.2)->(∀d∈c.nm,f d)->(∀y,f' y->f y/\y∉c.nm)->
   AEx P o ⟨e2,s,h,f⟩ (·=⟨c.we++e2,s,c.wh++h,f'⟩)):LEx P ops N o c:=by
 intro e2 s h f f' hre hrh hnm hf' W0 m0 sa m bl a w S next Q k
 rw[if_pos (by simp[Region.wanted,hg])]
 exact H e2 s h f f' hre hrh hnm hf' N W0 m0 sa m bl a w S hd next Q fun L' a' w' m' bl' hL S'=>k _ _ _ _ (hL ▸ S')
def Xg (bl:Names)(d b:Nat)(n:Nat × Nat):Names:=fun id=>if id=d then some (.blk b n)else bl id
theorem ji5.mono {m m' bl w id l}(hm:Mem.le m m')(h:ji5 m bl w id l):ji5 m' bl w id l:=
 let ⟨b,n,arr,T,pre,rest,g1,g2,g3,g4,g5,g6⟩:=h
 ⟨b,n,arr,T,pre,rest,g1,g2,g3,g4,g5.mono hm,g6⟩
theorem Vs.Uw {B m0 h m bl w w' d}{arr:Array Value}{T:TypeId}{Z:List AV}{pre rest:List Value}(s:Vs B m0 h m bl w)(hB:B<=w.heap.size)(hfree:bl d=none)
 (hw:w'.heap=w.heap.push (.cells arr T (0,0))) (hp:arr.toList=pre++rest) (hZ:JK m bl Z pre) (h1:∀c∈pre,jL c=true):
 Vs B m0 ((d,.cells Z)::h) m (Xg bl d w.heap.size (arr.size,pre.length)) w'/\(∀id b,bl id=some b->Xg bl d w.heap.size (arr.size,pre.length) id=some b):=by
 have hext:∀id b,bl id=some b->Xg bl d w.heap.size (arr.size,pre.length) id=some b:=by
  intro id b e
  unfold Xg;rw[if_neg];exact e
  intro he;subst he;rw[hfree]at e;cases e
 have hold:∀b,b<w.heap.size->w'.heap[b]? = w.heap[b]? := by
  intro b hb;rw[hw,Array.getElem?_push,if_neg (by omega)]
 have hnew:w'.heap[w.heap.size]? = some (.cells arr T (0,0)):=by rw[hw,Array.getElem?_push,if_pos rfl]
 refine⟨⟨?_,s.le,s.grow,?_,?_,?_,?_,s.gl⟩,hext⟩
 ·intro b o v e
  have:=s.imm b o v e
  simp only[World.cell?,hold b (s.imm.lt e)]at this⊢
  exact this
 ·intro id l hf
  rw[jk]at hf
  split at hf
  ·rename_i hd;subst hd
   simp at hf;subst hf
   exact .inr ⟨w.heap.size,(arr.size,pre.length),arr,T,pre,rest,by simp[Xg],hnew,rfl,hp,hZ.zV hext,h1⟩
  ·rename_i hd
   rcases s.blk id l hf with ⟨h1,h2⟩|⟨b,n,arr',T',pre,rest,g1,g2,g3,g4,g5,g6⟩
   ·exact .inl ⟨by unfold Xg;rw[if_neg (Ne.symm hd)];exact h1,h2⟩
   ·exact .inr ⟨b,n,arr',T',pre,rest,hext _ _ g1,by rw[hold b (s.own id b n g1).2.1];exact g2,g3,g4,g5.zV hext,g6⟩
 ·intro id x p hf
  rw[jk]at hf
  split at hf
  ·simp at hf
  ·obtain⟨b,n,g1,g2⟩:=s.it id x p hf
   exact⟨b,n,hext _ _ g1,by rw[hold b (s.own id b n g1).2.1];exact g2⟩
 ·intro id b n g
  unfold Xg at g
  split at g
  ·simp at g;obtain⟨rfl,rfl⟩:=g
   refine⟨hB,by rw[hw,Array.size_push];omega,fun o=>?_⟩
   cases hm:m w.heap.size o with
   |none=>rfl
   |some v=>have:=s.imm.lt hm;omega
  ·obtain⟨g1,g2,g3⟩:=s.own id b n g
   exact⟨g1,by rw[hw,Array.size_push];omega,g3⟩
 ·intro id id' b n n' g g'
  unfold Xg at g g'
  split at g
  ·split at g'
   ·omega
   ·simp at g;have:=(s.own id' b n' g').2.1;omega
  ·split at g'
   ·simp at g';have:=(s.own id b n g).2.1;omega
   ·exact s.inj id id' b n n' g g'
theorem LEx.Uw {P:Program}{ops:Array Oper}{N:Nat}{o:Oper}{e:Env}{d nm:Nat}{Z:List AV}{x:AV}(hg:o.guard=none)(hd:o.dst=some d)(hN:d<N)
 (H:∀(m:Mem) (bl:Names) (a:Act) (w:World),Reads o e m bl a->∃(v:Value) (arr:Array Value) (T:TypeId) (pre rest:List Value),(execOp a.eval o).run P w=.ok (.value v) (w.alloc (.cells arr T))/\
   arr.toList=pre++rest/\JK m bl Z pre/\(∀c∈pre,jL c=true)/\∀bl',bl' nm=some (.blk w.heap.size (arr.size,pre.length))->Rep m bl' x v):
 LEx P ops N o ⟨xl e (o.looksAt ops),[],[(d,x)],[(nm,.cells Z)],[nm]⟩:=by
 refine .ofA hg (fun d' h'=>by rw[hd]at h';cases h';exact hN) ?_
 intro e2 s h f f' hre _ hnm hf' N W0 m0 sa m bl a w S hdN next Q k
 obtain⟨v,arr,T,pre,rest,hrun,hp,hZ,h1,hx⟩:=H m bl a w (fun t ht y hy=>S.env t y (YM hre t (Yn ht) y hy))
 obtain⟨q1,q2⟩:=S.ws.Uw (w':=w.alloc (.cells arr T)) (d:=nm) S.below.size (S.free nm (hnm nm (by simp))) rfl hp hZ h1
 unfold Oper.wp
 rw[hrun,Oper.upon_value]
 refine k _ _ _ m _ rfl ⟨?_,?_,S.below.alloc S.below.size _,q1,?_,S.stk.zV q2,?_⟩
 ·simp[Act.put,hd,S.defers]
 ·simp[Act.put,hd,S.size]
 ·rw[hd]
  exact qv.put (S.env.zV q2) (hx _ (by simp[Xg])) (by rw[S.size];exact hdN d hd)
 ·intro d' hd'
  obtain⟨g1,g2⟩:=hf' d' hd'
  unfold Xg;rw[if_neg (by simpa using g2)];exact S.free d' g1
theorem LEx.alloc {P:Program}{ops:Array Oper}{N:Nat}{o:Oper}{e:Env}{d nm T:Nat}{Z}(hg:o.guard=none)(ho:o.op=.alloc T)(hz:jc0 P T Z)(hd:o.dst=some d)(hN:d<N):
 LEx P ops N o ⟨xl e (o.looksAt ops),[],[(d,.ptr nm 0)],[(nm,.cells Z)],[nm]⟩:=by
 obtain⟨zs,hz1,hz2,h1⟩:=hz
 refine .Uw hg hd hN fun m bl a w _=>?_
 obtain⟨z,q1,q2⟩:=vm hz1 w
 refine⟨.pointer (some ⟨w.heap.size,0,none⟩),z.cells,T,z.cells.toList,[],?_,by simp,by rw[q2];exact hz2.XE,by rw[q2];simpa using h1,fun bl' hb=>.ptr hb⟩
 simp[execOp,ho,Instr.alloc,q1,newVar,newRow]
theorem LEx.box {P:Program}{ops:Array Oper}{N:Nat}{o:Oper}{e:Env}{d nm T:Nat}{y x}(hg:o.guard=none)(ho:o.op=.box T y)(hy:jK e y x)(hs:x.wX=true)(hd:o.dst=some d)(hN:d<N):
 LEx P ops N o ⟨xl e (o.looksAt ops),[],[(d,.ptr nm 0)],[(nm,.cells x.cells)],[nm]⟩:=by
 refine .Uw hg hd hN fun m bl a w hr=>?_
 obtain⟨g1,g2⟩:=(hy.rep hr (by simp[ho,Op.operands])).cells hs
 exact⟨.pointer (some ⟨w.heap.size,0,none⟩),(a.eval y).cells,T,(a.eval y).cells.toList,[],by simp[execOp,ho,Instr.box,newVar,newRow],by simp,g1,g2,fun bl' hb=>.ptr hb⟩
theorem QEx.boxC {P:Program}{o:Oper}{e:Env}{T:Nat}{y x}(ho:o.op=.box T y)(hy:jK e y x)(hs:x.wX=true)(hb:JS x.cells=true):QEx P o e [] (.kQ x.cells):=by
 intro B m0 hp m bl a w hws hB _ hr next Q k
 obtain⟨g1,g2⟩:=(hy.rep hr (by simp[ho,Op.operands])).cells hs
 obtain⟨hs',hle⟩:=hws.jds (w':=w.alloc (.cells (a.eval y).cells T)) (arr:=(a.eval y).cells) (T:=T) (fr:=(0,0)) hB rfl (cs:=(a.eval y).cells.toList) (fun j v e=>by simpa using e)
 unfold Oper.wp
 rw[show(execOp a.eval o).run P w=.ok (.value (.pointer (some ⟨w.heap.size,0,none⟩))) (w.alloc (.cells (a.eval y).cells T)) by simp[execOp,ho,Instr.box,newVar,newRow],Oper.upon_value]
 refine k _ _ _ hle ((Below.refl _ _).alloc (Nat.le_refl _) _) hs' (.kQ (cs:=(a.eval y).cells.toList) ?_ g2 fun j v e=>?_)
 ·have:=(g1.bare (bl':=jh)).mono hle
  rwa [wJ,yz hb]at this
 ·simp only[Nat.zero_add];rw[UN];exact e
theorem Vs.store {B m0 h m bl w id b n}{arr na:Array Value}{T:TypeId}{Z:List AV}{pre rest:List Value}(s:Vs B m0 h m bl w)(hb:bl id=some (.blk b n))(hg:w.heap[b]? = some (.cells arr T (0,0)))
 (hn:(na.size,pre.length)=n) (hp:na.toList=pre++rest) (hZ:JK m bl Z pre) (h1:∀c∈pre,jL c=true):Vs B m0 ((id,.cells Z)::h) m bl (w.setRow b na):=by
 have hheap:=setRow_heap w b arr na T (0,0) hg
 have hother:∀b',b'≠b->(w.setRow b na).heap[b']? = w.heap[b']? := fun b' h=>setRow_other w b b' na h
 have hsize:(w.setRow b na).heap.size=w.heap.size:=by simp[World.setRow]
 obtain⟨o1,o2,o3⟩:=s.own id b n hb
 refine⟨?_,s.le,s.grow,?_,?_,?_,s.inj,s.gl⟩
 ·intro b' o v e
  have hne:b'≠b:=by rintro rfl;rw[o3 o]at e;cases e
  have:=s.imm b' o v e
  simp only[World.cell?,hother b' hne]at this⊢
  exact this
 ·intro id' l hf
  rw[jk]at hf
  split at hf
  ·rename_i hd;subst hd
   simp at hf;subst hf
   exact .inr ⟨b,n,na,T,pre,rest,hb,hheap,hn,hp,hZ,h1⟩
  ·rename_i hne
   rcases s.blk id' l hf with h|⟨b',n',arr',T',pre',rest',g1,g2,g3,g4,g5,g6⟩
   ·exact .inl h
   ·have hbb:b'≠b:=by rintro rfl;exact hne (s.inj _ _ _ _ _ hb g1)
    exact .inr ⟨b',n',arr',T',pre',rest',g1,by rw[hother b' hbb];exact g2,g3,g4,g5,g6⟩
 ·intro id' x p hf
  rw[jk]at hf
  split at hf
  ·simp at hf
  ·rename_i hne
   obtain⟨b',n',g1,g2⟩:=s.it id' x p hf
   have hbb:b'≠b:=by rintro rfl;exact hne (s.inj _ _ _ _ _ hb g1)
   exact⟨b',n',g1,by rw[hother b' hbb];exact g2⟩
 ·intro id' b' n' g
  obtain⟨g1,g2,g3⟩:=s.own id' b' n' g
  exact⟨g1,by rw[hsize];exact g2,g3⟩
theorem Vs.at_ {B m0 h m bl w id l b n}(s:Vs B m0 h m bl w)(hf:find id h=some (.cells l))(hb:bl id=some (.blk b n)):
 ∃arr T pre rest,w.heap[b]? = some (.cells arr T (0,0))/\(arr.size,pre.length)=n/\arr.toList=pre++rest/\JK m bl l pre/\(∀c∈pre,jL c=true):=by
 rcases s.blk id l hf with ⟨hn,-⟩|⟨b',n',arr,T,pre,rest,g1,g2,g3,g4,g5,g6⟩
 ·rw[hn]at hb;cases hb
 ·rw[hb]at g1;cases g1;exact⟨arr,T,pre,rest,g2,g3,g4,g5,g6⟩
theorem LEx.store {P:Program}{ops:Array Oper}{N:Nat}{o:Oper}{e:Env}{t y z id off l x sz}(hg:o.guard=none)(ho:o.op=.store t y z)(hdst:o.dst=none)(hs:tSz P t=some sz)(hy:jK e y (.ptr id off))
 (hz:jK e z x) (hx:x.wX=true) (hl:x.cells.length=sz) (hfit:off+sz<=l.length):
 LEx P ops N o ⟨xl e (o.looksAt ops),[(id,.cells l)],[],[(id,.cells (l.take off++x.cells++l.drop (off+sz)))],[]⟩:=by
 refine .ofA hg (by rw[hdst];simp) ?_
 intro e2 s h f f' hre hrh hnm hf' N W0 m0 sa m bl a w S hdN next Q k
 have hR:Reads o e m bl a:=fun t ht y hy=>S.env t y (YM hre t (Yn ht) y hy)
 have r1:=hy.rep hR (by simp[ho,Op.operands])
 obtain⟨g1,g2⟩:=(hz.rep hR (by simp[ho,Op.operands])).cells hx
 generalize hv:a.eval y=v at r1
 cases r1 with
 |ptr hb=>
  rename_i b n
  obtain⟨arr,T,pre,rest,hg',hsz,hpre,hr,h1⟩:=S.ws.at_ (show find id _=some (Mc.cells l)from hrh (id,.cells l) (by simp)) hb
  have hvs:(a.eval z).cells.toList.length=sz:=by rw[<-g1.length,hl]
  have hlen:=hr.length
  have hal:arr.size=pre.length+rest.length:=by rw[<-Array.length_toList,hpre,List.length_append]
  have hst:=run_storeCells_at P b off T (a.eval z).cells.toList 0 arr w hg' (by simp at hvs⊢;omega) g2
  simp only[Nat.add_zero]at hst
  have hrun:(execOp a.eval o).run P w=.ok .skip (w.setRow b (arr.toList.take off++(a.eval z).cells.toList++arr.toList.drop (off+(a.eval z).cells.toList.length)).toArray):=by
   have:(a.eval z).cells.size=sz:=by simpa using hvs
   simp[execOp,ho,hv,Instr.storeAt,Instr.sureAddr,storeVar,jx hs,this]at hst⊢
   rw[hst]
   simp
  have e1:arr.toList.take off=pre.take off:=by rw[hpre,List.take_append_of_le_length (by omega)]
  have e2':arr.toList.drop (off+sz)=pre.drop (off+sz)++rest:=by rw[hpre,List.drop_append_of_le_length (by omega)]
  have:=S.ws.store hb hg' (na:=(arr.toList.take off++(a.eval z).cells.toList++arr.toList.drop (off+(a.eval z).cells.toList.length)).toArray) (Z:=l.take off++x.cells++l.drop (off+sz))
   (pre:=pre.take off++(a.eval z).cells.toList++pre.drop (off+sz)) (rest:=rest)
   (by rw[<-hsz];simp at hvs⊢;omega) (by rw[hvs,e1,e2'];simp) (((hr.take off).append g1).append (hr.drop _))
   (by
     intro c hc
     rcases List.mem_append.1 hc with hc|hc
     ·rcases List.mem_append.1 hc with hc|hc
      ·exact h1 c (List.mem_of_mem_take hc)
      ·exact g2 c hc
     ·exact h1 c (List.mem_of_mem_drop hc))
  unfold Oper.wp
  rw[hrun,Oper.upon_skip]
  have ho1:=(S.ws.own id b _ hb).1
  refine k _ _ _ m bl rfl ⟨?_,?_,?_,this,?_,S.stk,fun d hd=>S.free d (hf' d hd).1⟩
  ·simp[Act.put,hdst,S.defers]
  ·simp[Act.put,hdst,S.size]
  ·exact S.below.trans ⟨rfl,rfl,rfl,by simp[World.setRow],fun k' hk'=>setRow_other w b k' _ (by omega)⟩
  ·rw[hdst];exact S.env
theorem Rep.rw_row {B m0 h m bl w id sz v}{xs:List AV}(s:Vs B m0 h m bl w)(hf:find id h=some (.cells (xs.flatMap AV.cells)))(hxs:∀x∈xs,x.cells.length=sz)(hp:0<sz)(r:Rep m bl (.rw id sz) v):
 Rep m bl (.row id 0 xs.length xs.length sz) v:=by
 have hfl:=Qu hxs
 cases r with
 |rwnil hb=>
  have:xs=[]:=by
   rcases s.blk id _ hf with ⟨-,g⟩|⟨b,n,arr,T,pre,rest,g1,-⟩
   ·rw[g]at hfl
    rcases Nat.mul_eq_zero.1 (show xs.length*sz=0 by rw[<-hfl];rfl)with h|h
    ·exact List.eq_nil_of_length_eq_zero h
    ·omega
   ·rw[g1]at hb;cases hb
  subst this
  exact .rownil
 |rw hb g1 g2 g3=>
  rename_i b n cap len
  obtain⟨arr,T,pre,rest,q1,q2,q3,q4,q5⟩:=s.at_ hf hb
  have hn2:n.2=pre.length:=by rw[<-q2]
  have:len=xs.length:=Nat.eq_of_mul_eq_mul_right hp (by rw[g1,hn2,<-q4.length,hfl])
  subst this
  exact .row hb (Nat.le_refl _) g2 (by omega)
section
variable {P:Program} {o:Oper} {e:Env}
theorem QEx.loadP {t y id off l sz}(ho:o.op=.load t y)(ha:tAg P t=some true)(hs:tSz P t=some sz)(hy:jK e y (.ptr id off))(hfit:off+sz<=l.length):
 QEx P o e [(id,l)] (.agg ((l.drop off).take sz)):=by
 refine .pure fun _ _ _ m bl ac w hws hn hr=>?_
 have h1:=hy.rep hr (by simp[ho,Op.operands])
 generalize hv:ac.eval y=v at h1
 cases h1 with
 |ptr hb'=>
  obtain⟨arr,T,pre,rest,hg,hsz,hp,hrp,ho1⟩:=hws.at_ (show find id _=some (Mc.cells l)from hn (id,l) (by simp)) hb'
  have hlen:=hrp.length
  refine⟨.agg ((pre.drop off).take sz).toArray,?_,.agg ((hrp.drop off).take sz) fun c hc=>ho1 c (List.mem_of_mem_drop (List.mem_of_mem_take hc))⟩
  have:=qS (P:=P) (ty:=t) (cs:=(pre.drop off).take sz) (w:=w) (b:=_) (o:=off) ha (by rw[hs];simp;omega) fun j v hj=>by
   rw[yC hg]
   exact Vh hp (Qo hj)
  simp[execOp,ho,hv,Instr.loadAt,Instr.sureAddr,this]
theorem QEx.jgg {t y id off l x}(ho:o.op=.load t y)(ha:tAg P t=some false)(hy:jK e y (.ptr id off))(hx:l[off]? = some x):QEx P o e [(id,l)] x:=by
 refine .pure fun _ _ _ m bl ac w hws hn hr=>?_
 have h1:=hy.rep hr (by simp[ho,Op.operands])
 generalize hv:ac.eval y=v at h1
 cases h1 with
 |ptr hb'=>
  obtain⟨arr,T,pre,rest,hg,hsz,hp,hrp,ho1⟩:=hws.at_ (show find id _=some (Mc.cells l)from hn (id,l) (by simp)) hb'
  obtain⟨v,hv1,hv2⟩:=hrp.get off x hx
  refine⟨v,?_,hv2⟩
  have hc:=yC (j:=off) hg
  rw[Vh hp hv1]at hc
  simp[execOp,ho,hv,Instr.loadAt,Instr.sureAddr,ko ha hc]
theorem QEx.jjE {t y f id off fs fd sz}(ho:o.op=.fieldAddr t y f)(hT:P.underlying t=some (.struct fs))(hf:fs[f]? = some fd)(hs:tSz P fd.type=some sz)(hpos:0<sz)
 (hy:jK e y (.ptr id off)):QEx P o e [] (.ptr id (off+fd.offset)):=
 .pure fun _ _ _ m bl ac w hws _ hr=>by
  have h1:=hy.rep hr (by simp[ho,Op.operands])
  generalize hv:ac.eval y=v at h1
  cases h1 with
  |ptr hb=>
   refine⟨_,?_,.ptr hb⟩
   have:¬ sz=0:=by omega
   simp[execOp,ho,hv,Instr.fieldAt,je hT,hf,Instr.sureAddr,fieldPlace,jx hs,this,Yc]
theorem QEx.jgF {t y z E n sz k i id off}(ho:o.op=.indexAddr t y z)(hT:P.underlying t=some (.array n E))(hs:tSz P E=some sz)(hy:jK e y (.ptr id off))
 (hz:jK e z (.v (.int k i))) (h0:0<=i) (h1:i<n):QEx P o e [] (.ptr id (off+i.toNat*sz)):=
 .pure fun _ _ _ m bl ac w hws _ hr=>by
  have r1:=hy.rep hr (by simp[ho,Op.operands])
  have r2:=(hz.rep hr (by simp[ho,Op.operands])).zj
  generalize hv:ac.eval y=v at r1
  cases r1 with
  |ptr hb=>
   refine⟨_,?_,.ptr hb⟩
   simp[execOp,ho,hv,r2,Instr.indexAt,asIntOf,je hT,Instr.sureAddr,h0,h1,jx hs,Yc]
theorem QEx.jjx {t y z E n sz k i l}(ho:o.op=.indexAddr t y z)(hT:P.underlying t=some (.array n E))(hs:tSz P E=some sz)(hy:jK e y (.kQ l))
 (hz:jK e z (.v (.int k i))) (h0:0<=i) (h1:i<n):QEx P o e [] (.kQ ((l.drop (i.toNat*sz)).take sz)):=
 .pure fun _ _ _ m bl ac w hws _ hr=>by
  have r1:=hy.rep hr (by simp[ho,Op.operands])
  have r2:=(hz.rep hr (by simp[ho,Op.operands])).zj
  generalize hv:ac.eval y=v at r1
  cases r1 with
  |kQ g1 g2 g3=>
   rename_i b off cs
   refine⟨.pointer (some ⟨b,off+i.toNat*sz,none⟩),?_,.kQ (cs:=(cs.drop (i.toNat*sz)).take sz) ((g1.drop _).take _) (fun c hc=>g2 c (List.mem_of_mem_drop (List.mem_of_mem_take hc))) ?_⟩
   ·simp[execOp,ho,hv,r2,Instr.indexAt,asIntOf,je hT,Instr.sureAddr,h0,h1,jx hs,Yc]
   ·intro j v hj
    rw[Nat.add_assoc]
    exact g3 _ v (Qo hj)
theorem QEx.nilP {y id off}(ho:o.op=.nilCheck y)(hy:jK e y (.ptr id off)):QEx P o e [] (.ptr id off):=
 .pure fun _ _ _ m bl ac w hws _ hr=>by
  have h1:=hy.rep hr (by simp[ho,Op.operands])
  generalize hv:ac.eval y=v at h1
  cases h1 with
  |ptr hb=>exact⟨_,by simp[execOp,ho,hv],.ptr hb⟩
def ROk (o:Oper)(e:Env)(need:List (Nat × List AV))(y:Operand)(x:AV):Prop:=
 ∀(B:Nat) (m0:Mem) (h:Hp) (m:Mem) (bl:Names) (a:Act) (w:World),Vs B m0 h m bl w->(∀p∈need,find p.1 h=some (.cells p.2))->Reads o e m bl a->Rep m bl x (a.eval y)
theorem jK.r {o:Oper}{e need y x}(h:jK e y x)(hm:y∈o.op.operands):ROk o e need y x:=fun _ _ _ _ _ _ _ _ _ hr=>h.rep hr hm
theorem ROk.rw {o:Oper}{e need y id sz}{xs:List AV}(h:jK e y (.rw id sz))(hm:y∈o.op.operands)(hn:(id,xs.flatMap AV.cells)∈need)(hxs:∀x∈xs,x.cells.length=sz)(hp:0<sz):ROk o e need y (.row id 0 xs.length xs.length sz):=
 fun _ _ hh _ _ _ _ hws hnd hr=>(h.rep hr hm).rw_row hws (show find id hh=some (.cells _)from hnd _ hn) hxs hp
/-! slices of own blocks -/
theorem QEx.lenR {y t id off len mc sz E need}(ho:o.op=.call {callee:=.builtin .len,args:=#[y],argTypes:=#[t]})(ht:P.underlying t=some (.slice E))(hy:ROk o e need y (.row id off len mc sz)):
 QEx P o e need (.v (.int .i64 len)):=
 .pure fun _ _ _ m bl ac w hws hnd hr=>by
  have h1:=hy _ _ _ _ _ _ _ hws hnd hr
  refine⟨_,?_,.v⟩
  generalize hv:ac.eval y=v at h1
  cases h1 <;> simp[execOp,ho,hv,resolve,invoke,builtin,Builtin.len_,underlying,ht,goInt]
theorem QEx.jgE {t y z E sz k i id off len mc need}(ho:o.op=.indexAddr t y z)(hT:P.underlying t=some (.slice E))(hs:tSz P E=some sz)(hy:ROk o e need y (.row id off len mc sz))
 (hz:jK e z (.v (.int k i))) (h0:0<=i) (h1:i<len):QEx P o e need (.ptr id (off+i.toNat*sz)):=
 .pure fun _ _ _ m bl ac w hws hnd hr=>by
  have r1:=hy _ _ _ _ _ _ _ hws hnd hr
  have r2:=(hz.rep hr (by simp[ho,Op.operands])).zj
  generalize hv:ac.eval y=v at r1
  cases r1 with
  |rownil=>omega
  |row hb g1 g2 g3=>
   refine⟨_,?_,.ptr hb⟩
   simp[execOp,ho,hv,r2,Instr.indexAt,asIntOf,je hT,h0,h1,jx hs,Yc]
theorem QEx.jjh {t y lo hi E sz by_ id off len mc a b need}(ho:o.op=.slice t y lo hi none)(ht:Vu P t E sz by_)(hy:ROk o e need y (.row id off len mc sz))
 (hlo:vJ e lo 0 a) (hhi:vJ e hi len b) (hab:a<=b) (hb:b<=mc) (hlm:hi=none->len<=mc):QEx P o e need (.row id (off+a*sz) (b - a) (mc - a) sz):=
 .pure fun _ _ _ m bl ac w hws hnd hr=>by
  have h1:=hy _ _ _ _ _ _ _ hws hnd hr
  generalize hv:ac.eval y=v at h1
  have e1:∀cap:Nat,b<=cap->len<=cap->(Instr.sliceBounds true len cap (lo.map ac.eval) (hi.map ac.eval) none).run P w=.ok (a,b,cap) w:=by
   intro cap hc hl
   cases hlo with
   |none=>
    cases hhi with
    |none=>simp[Instr.sliceBounds]
    |some h2 h3=>
     have:=(h2.rep hr (by simp[ho,Op.operands])).zj
     rename_i k i
     have hi':i<=(cap:Int):=by omega
     simp[Instr.sliceBounds,this,Instr.sliceBound,asIntOf,h3,hi']
   |some g2 g3=>
    have hg:=(g2.rep hr (by simp[ho,Op.operands])).zj
    rename_i gk gi
    cases hhi with
    |none=>
     have hi':gi<=(len:Int):=by omega
     simp[Instr.sliceBounds,hg,Instr.sliceBound,asIntOf,g3,hi']
    |some h2 h3=>
     have:=(h2.rep hr (by simp[ho,Op.operands])).zj
     rename_i k i
     have hi':i<=(cap:Int):=by omega
     have hg':gi<=i:=by omega
     have hm:max i 0=i:=by omega
     simp[Instr.sliceBounds,this,hg,Instr.sliceBound,asIntOf,h3,hi',g3,hg',hm]
  cases h1 with
  |rownil=>
   rename_i ad
   have hb0:b=0:=by omega
   have ha0:a=0:=by omega
   subst hb0 ha0
   refine⟨.slice ad 0 0,?_,by simpa using Rep.rownil⟩
   have:=e1 0 (Nat.le_refl _) (Nat.le_refl _)
   cases ad <;> simp[execOp,ho,hv,Instr.sliceAt,je ht.under,Instr.slice,this,jx ht.sz]
  |row hb' g1 g2 g3=>
   rename_i bb n cap
   have hrun:=e1 cap (by omega) (by omega)
   by_cases hca:cap=a
   ·have hb0:b - a=0:=by omega
    have hm0:mc - a=0:=by omega
    refine⟨.slice (some ⟨bb,off,none⟩) (b - a) (cap - a),?_,?_⟩
    ·simp only[execOp,ho,hv,Instr.sliceAt,Sem.run_bind,je ht.under,Result.andThen_ok,Instr.slice,Option.map_none,hrun,jx ht.sz,Sem.run_pure]
     simp[hca]
    ·rw[hb0,hm0,show cap - a=0 by omega];exact .rownil
   ·refine⟨.slice (some ⟨bb,off+a*sz,none⟩) (b - a) (cap - a),?_,.row hb' (by omega) (by omega) ?_⟩
    ·simp only[execOp,ho,hv,Instr.sliceAt,Sem.run_bind,je ht.under,Result.andThen_ok,Instr.slice,Option.map_none,hrun,jx ht.sz,Sem.run_pure]
     simp[hca,Yc]
    ·have:(cap - a)*sz=cap*sz - a*sz:=Nat.sub_mul _ _ _
     have:a*sz<=cap*sz:=Nat.mul_le_mul_right _ (by omega)
     omega
end
end
section
open Go.RowKit
variable [GlC]
/- Values that bear no memory. -/
mutual
def AV.flat:AV->Bool
 | .agg l=>mn l
 | .tup l=>mn l
 | .v _=>true
 | .undef=>true
 |_=>false
def mn:List AV->Bool
 | []=>true
 |x::l=>x.flat&&mn l
end
mutual
theorem Rep.flat {m m' bl bl'}:∀{x v},x.flat=true->Rep m bl x v->Rep m' bl' x v
 |_,_,h,.undef=>.undef
 |_,_,h,.v=>.v
 |_,_,h,.agg k k1=>.agg (k.flat (by simpa [AV.flat]using h)) k1
 |_,_,h,.tup k=>.tup (k.flat (by simpa [AV.flat]using h))
 |_,_,h,.slnil=>by simp[AV.flat]at h
 |_,_,h,.sl _ _ _ _ _ _ _=>by simp[AV.flat]at h
 |_,_,h,.kQ _ _ _=>by simp[AV.flat]at h
 |_,_,h,.clo _=>by simp[AV.flat]at h
 |_,_,h,.ptr _=>by simp[AV.flat]at h
 |_,_,h,.rownil=>by simp[AV.flat]at h
 |_,_,h,.row _ _ _ _=>by simp[AV.flat]at h
 |_,_,h,.opt _ _=>by simp[AV.flat]at h
 |_,_,h,.ifc _=>by simp[AV.flat]at h
theorem JK.flat {m m' bl bl'}:∀{l vs},mn l=true->JK m bl l vs->JK m' bl' l vs
 |_,_,h,.nil=>.nil
 |_,_,h,.cons k t=>by
  simp only[mn,Bool.and_eq_true]at h
  exact .cons (k.flat h.1) (t.flat h.2)
end
section
variable {P:Program} {o:Oper} {e:Env}
theorem Vs.after {B m0 h m bl w w' m' hr bl'}(hws:Vs B m0 h m bl w)(hB:B<=w.heap.size)(hb':Below w.heap.size w w')(hws':Vs w.heap.size m hr m' bl' w'):Vs B m0 h m' bl w':=by
 refine⟨hws'.imm,hws.le.trans hws'.le,?_,?_,?_,?_,hws.inj,hws.gl⟩
 ·intro b o' v' e'
  rcases hws'.grow b o' v' e' with h|h
  ·exact hws.grow b o' v' h
  ·exact .inr (Nat.le_trans hB h)
 ·intro id l hf
  rcases hws.blk id l hf with h|⟨b,n,arr,T,pre,rest,g1,g2,g3,g4,g5,g6⟩
  ·exact .inl h
  ·exact .inr ⟨b,n,arr,T,pre,rest,g1,by rw[hb'.block b (hws.own id b n g1).2.1];exact g2,g3,g4,g5.mono hws'.le,g6⟩
 ·intro id s p hf
  obtain⟨b,n,g1,g2⟩:=hws.it id s p hf
  exact⟨b,n,g1,by rw[hb'.block b (hws.own id b n g1).2.1];exact g2⟩
 ·intro id b n g
  obtain⟨g1,g2,g3⟩:=hws.own id b n g
  refine⟨g1,Nat.lt_of_lt_of_le g2 hb'.size,fun o'=>?_⟩
  cases hm':m' b o' with
  |none=>rfl
  |some v'=>
   rcases hws'.grow b o' v' hm' with h|h
   ·rw[g3]at h;cases h
   ·omega
theorem QEx.enter {need}{fn:FuncId}{ys:List AV}{r:AV}(H:∀(m:Mem) (bl:Names) (a:Act) (w:World),Reads o e m bl a->∃vs:List Value,(execOp a.eval o).run P w=.ok (.enter fn vs.toArray) w/\JK m jh ys vs)
 (hr:FnR P fn ys r []) (hb:r.ZD=true):QEx P o e need r:=by
 intro B m0 hp m bl a w hws hB _ hrd next Q k
 obtain⟨vs,hrun,h1⟩:=H m bl a w hrd
 unfold Oper.wp
 rw[hrun,Oper.upon_enter]
 refine(hr w m vs (GlC.mono hws.le hws.gl) hws.imm h1).mono ?_
 rintro en w' ⟨v,m',bl',rfl,hb',hws',hz,hrep⟩
 refine k v w' m' hws'.le hb' (hws.after hB hb' hws') ?_
 have:=hrep.bare (bl':=bl)
 rwa [AV.bare,wI hb]at this
def MQ (m:Mem)(bl:Names):List (Nat × List Value)->Mem
 | []=>m
 |(id,pre)::r=>fun b o=>match bl id with|some (.blk b' _)=>if b=b' then pre[o]? else MQ m bl r b o|_=>MQ m bl r b o
theorem xA {B m0 h m bl w}(s:Vs B m0 h m bl w):∀ls,Mem.le m (MQ m bl ls)
 | []=>Mem.le.refl m
 |(id,pre)::r=>by
  intro b o v e
  simp only[MQ]
  split
  ·rename_i b' n hb
   rw[if_neg]
   ·exact xA s r b o v e
   ·rintro rfl;rw[(s.own id _ _ hb).2.2 o]at e;cases e
  ·exact xA s r b o v e
theorem MP {m bl}:∀{ls b o v},MQ m bl ls b o=some v->m b o=some v\/∃id pre n,(id,pre)∈ls/\bl id=some (.blk b n)/\pre[o]? = some v
 | [],b,o,v,e=>.inl e
 |(id,pre)::r,b,o,v,e=>by
  simp only[MQ]at e
  have go:MQ m bl r b o=some v->m b o=some v\/∃id' pre' n,(id',pre')∈(id,pre)::r/\bl id'=some (.blk b n)/\pre'[o]? = some v:=by
   intro e
   rcases MP e with h|⟨i,p,n,h1,h2,h3⟩
   ·exact .inl h
   ·exact .inr ⟨i,p,n,List.mem_cons_of_mem _ h1,h2,h3⟩
  split at e
  ·rename_i b' n hb
   split at e
   ·rename_i he;subst he;exact .inr ⟨id,pre,n,by simp,hb,e⟩
   ·exact go e
  ·exact go e
def jdY (m:Mem)(bl:Names)(w:World)(ls:List (Nat × List Value)):Prop:=∀p∈ls,∀b n,bl p.1=some (.blk b n)->∀o v,p.2[o]? = some v->w.cell? ⟨b,o,none⟩=some v
theorem QEx.jjJ {need}{fn:FuncId}{ys:List AV}{r:AV}
 (H:∀(B:Nat) (m0:Mem) (h:Hp) (m:Mem) (bl:Names) (a:Act) (w:World),Vs B m0 h m bl w->(∀p∈need,find p.1 h=some (.cells p.2))->Reads o e m bl a->
   ∃(ls:List (Nat × List Value)) (vs:List Value),(ls.map (·.1)).Nodup/\jdY m bl w ls/\(execOp a.eval o).run P w=.ok (.enter fn vs.toArray) w/\JK (MQ m bl ls) jh ys vs)
 (hr:FnR P fn ys r []) (hb:r.flat=true):QEx P o e need r:=by
 intro B m0 hp m bl a w hws hB hn hrd next Q k
 obtain⟨ls,vs,hnd,hlo,hrun,h1⟩:=H B m0 hp m bl a w hws hn hrd
 unfold Oper.wp
 rw[hrun,Oper.upon_enter]
 have hle:=xA hws ls
 have himm:Imm (MQ m bl ls) w:=by
  intro b o v e
  rcases MP e with h|⟨id,pre,n,h1,h2,h3⟩
  ·exact hws.imm b o v h
  ·exact hlo _ h1 b n h2 o v h3
 refine(hr w _ vs (GlC.mono (hws.le.trans (xA hws _)) hws.gl) himm h1).mono ?_
 rintro en w' ⟨v,m',bl',rfl,hb',hws',hz,hrep⟩
 -- what was jij goes back
 let m2:Mem:=fun b o=>if b<w.heap.size then m b o else m' b o
 have hm2:Mem.le m m2:=by
  intro b o v e
  show(if _ then _ else _)=_
  rw[if_pos (hws.imm.lt e)];exact e
 refine k v w' m2 hm2 hb' ⟨?_,hws.le.trans hm2,?_,?_,?_,?_,hws.inj,hws.gl⟩ (hrep.flat hb)
 ·intro b o v e
  change (if _ then _ else _)=_ at e
  split at e
  ·exact hws'.imm b o v (hws'.le b o v (hle b o v e))
  ·exact hws'.imm b o v e
 ·intro b o v e
  change (if _ then _ else _)=_ at e
  split at e
  ·exact hws.grow b o v e
  ·exact .inr (by omega)
 ·intro id l hf
  rcases hws.blk id l hf with h|⟨b,n,arr,T,pre,rest,g1,g2,g3,g4,g5,g6⟩
  ·exact .inl h
  ·exact .inr ⟨b,n,arr,T,pre,rest,g1,by rw[hb'.block b (hws.own id b n g1).2.1];exact g2,g3,g4,g5.mono hm2,g6⟩
 ·intro id s p hf
  obtain⟨b,n,g1,g2⟩:=hws.it id s p hf
  exact⟨b,n,g1,by rw[hb'.block b (hws.own id b n g1).2.1];exact g2⟩
 ·intro id b n g
  obtain⟨g1,g2,g3⟩:=hws.own id b n g
  refine⟨g1,Nat.lt_of_lt_of_le g2 hb'.size,fun o'=>?_⟩
  show(if _ then _ else _)=_
  rw[if_pos g2];exact g3 o'
def shH (b:Nat)(hr:Hp):Hp:=hr.map fun p=>(p.1+b,p.2)
theorem WW {b t:Nat}:∀{hr:Hp},find t (shH b hr)=if b<=t then find (t - b) hr else none
 | []=>by simp[shH,find]
 |(k,x)::r=>by
  have ih:=WW (b:=b) (t:=t) (hr:=r)
  show find t ((k+b,x)::shH b r)=_
  rw[jk,ih]
  by_cases hk:k+b=t
  ·rw[if_pos hk,if_pos (by omega),jk,if_pos (by omega)]
  ·rw[if_neg hk]
   split
   ·rw[jk,if_neg (by omega)]
   ·rfl
theorem LEx.enterO {ops:Array Oper}{N:Nat}{fn:FuncId}{ys:List AV}{r:AV}{hr:Hp}{d:Nat}(b:Nat)(hg:o.guard=none)(hd:o.dst=some d)(hN:d<N)
 (H:∀(m:Mem) (bl:Names) (a:Act) (w:World),Reads o e m bl a->∃vs:List Value,(execOp a.eval o).run P w=.ok (.enter fn vs.toArray) w/\JK m jh ys vs)
 (hf:FnR P fn ys r hr) (hc:∀p∈hr,∃l,p.2=.cells l/\JS l=true):
 LEx P ops N o ⟨xl e (o.looksAt ops),[],[(d,r.re fun i=>some (i+b))],shH b hr,(shH b hr).map (·.1)⟩:=by
 refine .ofA hg (fun d' h'=>by rw[hd]at h';cases h';exact hN) ?_
 intro e2 s h f f' hre _ hnm hf' N W0 m0 sa m bl a w S hdN next Q k
 obtain⟨vs,hrun,h1⟩:=H m bl a w (fun t ht y hy=>S.env t y (YM hre t (Yn ht) y hy))
 unfold Oper.wp
 rw[hrun,Oper.upon_enter]
 refine(hf w m vs (GlC.mono S.ws.le S.ws.gl) S.ws.imm h1).mono ?_
 rintro en w' ⟨v,m',bl',rfl,hb',hws',hz,hrep⟩
 let bl2:Names:=fun id=>match find id (shH b hr)with|some _=>bl' (id - b)|none=>bl id
 have mem_of:∀{id:Nat} {l:Hp},(∃y,find id l=some y)->id∈l.map (·.1):=by
  intro id l
  induction l with
  |nil=>rintro⟨y,h⟩;simp[find]at h
  |cons p l ih=>
   rintro⟨y,h⟩
   obtain⟨k',z⟩:=p
   rw[jk]at h
   split at h
   ·simp_all
   ·exact List.mem_cons_of_mem _ (ih ⟨y,h⟩)
 have hfree:∀id y,find id (shH b hr)=some y->bl id=none:=fun id y hy=>S.free id (hnm id (mem_of ⟨y,hy⟩))
 have hold:∀id x,bl id=some x->bl2 id=some x:=by
  intro id x hx
  show(match find id (shH b hr)with|some _=>bl' (id - b)|none=>bl id)=_
  cases hq:find id (shH b hr)with
  |none=>exact hx
  |some y=>rw[hfree id y hq]at hx;cases hx
 have hnew:∀id x,bl' id=some x->bl2 (id+b)=some x:=by
  intro id x hx
  show(match find (id+b) (shH b hr)with|some _=>bl' (id+b - b)|none=>bl (id+b))=_
  have:find (id+b) (shH b hr)≠none:=by
   rw[WW,if_pos (by omega),Nat.add_sub_cancel]
   intro hn;rw[hz id hn]at hx;cases hx
  cases hq:find (id+b) (shH b hr)with
  |none=>exact absurd hq this
  |some y=>simpa using hx
 have hcase:∀id x,bl2 id=some x->bl id=some x\/∃i,id=i+b/\bl' i=some x:=by
  intro id x hx
  change (match find id (shH b hr)with|some _=>bl' (id - b)|none=>bl id)=_ at hx
  cases hq:find id (shH b hr)with
  |none=>rw[hq]at hx;exact .inl hx
  |some y=>
   rw[hq]at hx
   rw[WW]at hq
   split at hq
   ·exact .inr ⟨id - b,by omega,hx⟩
   ·cases hq
 have hws2:=S.ws.after S.below.size hb' hws'
 refine k _ _ _ m' bl2 rfl ⟨?_,?_,Below.base S.below hb',⟨hws'.imm,hws2.le,hws2.grow,?_,?_,?_,?_,hws2.gl⟩,?_,(S.stk.mono hws'.le).zV hold,?_⟩
 ·simp[Act.put,hd,S.defers]
 ·simp[Act.put,hd,S.size]
 ·intro id l hf2
  cases hq:find id (shH b hr)with
  |none=>
   have hf3:find id h=some (.cells l):=by rw[Jz hq]at hf2;exact hf2
   rcases hws2.blk id l hf3 with ⟨g1,g2⟩|⟨b',n,arr,T,pre,rest,g1,g2,g3,g4,g5,g6⟩
   ·refine .inl ⟨?_,g2⟩
    show(match find id (shH b hr)with|some _=>bl' (id - b)|none=>bl id)=_
    rw[hq];exact g1
   ·exact .inr ⟨b',n,arr,T,pre,rest,hold _ _ g1,g2,g3,g4,g5.zV hold,g6⟩
  |some y=>
   have hf3:=Jy (b:=h) hq
   rw[hf2]at hf3;cases hf3
   rw[WW]at hq
   split at hq
   ·rename_i hle
    have hbare:JS l=true:=by
     have:∀{hr:Hp} {i},find i hr=some (.cells l)->∃p∈hr,p.2=.cells l:=by
      intro hr;induction hr with
      |nil=>intro i h;simp[find]at h
      |cons p hr ih=>
       intro i h
       obtain⟨k',z⟩:=p
       rw[jk]at h
       split at h
       ·cases h;exact⟨_,List.mem_cons_self,rfl⟩
       ·obtain⟨p,hp,h2⟩:=ih h;exact⟨p,List.mem_cons_of_mem _ hp,h2⟩
     obtain⟨p,hp,h2⟩:=this hq
     obtain⟨l',h3,h4⟩:=hc p hp
     rw[h2]at h3;cases h3;exact h4
    rcases hws'.blk (id - b) l hq with ⟨g1,g2⟩|⟨b',n,arr,T,pre,rest,g1,g2,g3,g4,g5,g6⟩
    ·refine .inl ⟨?_,g2⟩
     have hq2:find id (shH b hr)=some (.cells l):=by rw[WW,if_pos hle];exact hq
     show(match find id (shH b hr)with|some _=>bl' (id - b)|none=>bl id)=_
     rw[hq2];exact g1
    ·refine .inr ⟨b',n,arr,T,pre,rest,?_,g2,g3,g4,?_,g6⟩
     ·have:=hnew _ _ g1
      rwa [Nat.sub_add_cancel hle]at this
     ·have:=g5.bare (bl':=bl2)
      rwa [wJ,yz hbare]at this
   ·cases hq
 ·intro id s' p hf2
  cases hq:find id (shH b hr)with
  |none=>
   have hf3:find id h=some (.iter s' p):=by rw[Jz hq]at hf2;exact hf2
   obtain⟨b',n,g1,g2⟩:=hws2.it id s' p hf3
   exact⟨b',n,hold _ _ g1,g2⟩
  |some y=>
   have hf3:=Jy (b:=h) hq
   rw[hf2]at hf3;cases hf3
   rw[WW]at hq
   split at hq
   ·exfalso
    have:∀{hr:Hp} {i},find i hr=some (.iter s' p)->∃q∈hr,q.2=.iter s' p:=by
     intro hr;induction hr with
     |nil=>intro i h;simp[find]at h
     |cons q hr ih=>
      intro i h
      obtain⟨k',z⟩:=q
      rw[jk]at h
      split at h
      ·cases h;exact⟨_,List.mem_cons_self,rfl⟩
      ·obtain⟨q,hq,h2⟩:=ih h;exact⟨q,List.mem_cons_of_mem _ hq,h2⟩
    obtain⟨q,hq,h2⟩:=this hq
    obtain⟨l',h3,-⟩:=hc q hq
    rw[h2]at h3;cases h3
   ·cases hq
 ·intro id b' n g
  rcases hcase id _ g with q|⟨i,-,q⟩
  ·exact hws2.own id b' n q
  ·obtain⟨g1,g2,g3⟩:=hws'.own i b' n q
   exact⟨Nat.le_trans S.below.size g1,g2,g3⟩
 ·intro id id' b' n n' g g'
  rcases hcase id _ g with q|⟨i,hi,q⟩
  ·rcases hcase id' _ g' with q' |⟨i',hi',q'⟩
   ·exact S.ws.inj id id' b' n n' q q'
   ·have h1:=(S.ws.own id b' n q).2.1
    have h2:=(hws'.own i' b' n' q').1
    omega
  ·rcases hcase id' _ g' with q' |⟨i',hi',q'⟩
   ·have h1:=(S.ws.own id' b' n' q').2.1
    have h2:=(hws'.own i b' n q).1
    omega
   ·rw[hi,hi',hws'.inj i i' b' n n' q q']
 ·rw[hd]
  refine qv.put ((S.env.mono hws'.le).zV hold) (hrep.re ?_) (by rw[S.size];exact hdN d hd)
  intro i i' he x hx
  cases he;exact hnew i x hx
 ·intro d' hd'
  obtain⟨g1,g2⟩:=hf' d' hd'
  show(match find d' (shH b hr)with|some _=>bl' (d' - b)|none=>bl d')=_
  cases hq:find d' (shH b hr)with
  |none=>exact S.free d' g1
  |some y=>exact absurd (mem_of ⟨y,hq⟩) g2
theorem Vx {f:FuncId}{qQ:List AV}{y:Operand}{args:Array Operand}{tys:Array TypeId}{xs:List AV}(ho:o.op=.call {callee:=.value y,args,argTypes:=tys})
 (hc:∀(vs:Array Value) (w:World),(callFunc f vs).run P w=.ok (.enter f vs) w) (hy:jK e y (.clo f qQ)) (hx:uz e args.toList xs) {m bl a} (w:World) (hrd:Reads o e m bl a):
 ∃vs:List Value,(execOp a.eval o).run P w=.ok (.enter f vs.toArray) w/\JK m bl (xs++qQ) vs:=by
 have h1:=hx.XE (o:=o) hrd (fun y hy=>by rw[ho];simp only[Op.operands,Call.operands];exact Array.mem_append.2 (.inr (by simpa using hy)))
 have h2:=hy.rep hrd (by rw[ho];simp[Op.operands,Call.operands])
 generalize hv:a.eval y=v at h2
 cases h2 with
 |clo h3=>
  rename_i cs
  refine⟨args.toList.map a.eval++cs,?_,h1.append h3⟩
  have ha:(args.toList.map a.eval++cs).toArray=args.map a.eval++cs.toArray:=by
   rw[<-List.append_toArray];congr 1;exact Array.ext' (by rw[Array.toList_map])
  rw[ha]
  simp[execOp,ho,resolve,hv,Deferred.ofValue,invoke,hc]
theorem AEx.inl {L:LS}{K:LS->Prop}{f:FuncId}{fn:Func}{c:Code}{N2 d:Nat}{qQ xs:List AV}{y:Operand}{args:Array Operand}{tys:Array TypeId}
 (ho:o.op=.call {callee:=.value y,args,argTypes:=tys}) (hd:o.dst=some d) (hf:P.funcs[f]? = some fn) (hb:fn.body=some c) (hN:fn.ntmps=N2)
 (hc:∀(vs:Array Value) (w:World),(callFunc f vs).run P w=.ok (.enter f vs) w) (hy:jK L.e y (.clo f qQ)) (hx:uz L.e args.toList xs) (hn:(xs++qQ).length<=N2)
 (h:Wp P N2 c (fun ex L2=>(ex=.normal\/ex=.ret)/\∃xs e0 s0,kX P L2 fn.results.toList xs/\L2.s=e0::s0/\K ⟨(d,QW xs)::e0,s0,L2.h,L2.f⟩) ⟨QE 0 (xs++qQ),L.e::L.s,L.h,L.f⟩):AEx P o L K:=by
 intro N W0 m0 sa m bl a w S hdN next Q k
 obtain⟨vs,hrun,h1⟩:=Vx (P:=P) ho hc hy hx w (fun t _ y hf=>S.env t y hf)
 unfold Oper.wp
 rw[hrun,Oper.upon_enter]
 refine calls_of_wp hf hb ?_
 have hlen:=h1.length
 have s0:Sim N2 W0 m0 ⟨QE 0 (xs++qQ),L.e::L.s,L.h,L.f⟩ (a.tmps::sa) {tmps:=vs.toArray++Array.replicate (fn.ntmps - vs.toArray.size) undef,defers:=[]} w m bl:=
  ⟨rfl,by simp;omega,S.below,S.ws,.args h1 _,⟨S.env,S.stk⟩,S.free⟩
 refine h _ _ _ _ _ _ _ s0 _ ?_
 rintro ex L2 a' w' m' bl' ⟨hex,ys,e0,st,hxs,hs,hk⟩ s'
 obtain⟨v,hv1,hv2⟩:=kX.results s' hxs
 have hstk:=s'.stk
 rw[hs]at hstk
 have hfin:next (a.put o.dst v) w':=by
  refine k _ _ w' m' bl' hk ⟨?_,?_,s'.below,s'.ws,?_,hstk.2,s'.free⟩
  ·simp[Act.put,hd,S.defers]
  ·simp[Act.put,hd,S.size]
  ·rw[hd];exact qv.put hstk.1 hv2 (by rw[S.size];exact hdN d hd)
 rcases hex with rfl|rfl <;> exact⟨s'.defers,v,hv1,hfin⟩
end
end
section
open Go.RowKit
variable [GlC]
def Sub (x y:AV):Prop:=∀m bl v,Rep m bl x v->Rep m bl y v
def KF (l l':List AV):Prop:=∀m bl vs,JK m bl l vs->JK m bl l' vs
theorem Sub.refl (x:AV):Sub x x:=fun _ _ _ h=>h
theorem KF.refl (l:List AV):KF l l:=fun _ _ _ h=>h
theorem Sub.undef (x:AV):Sub x .undef:=fun _ _ _ _=>.undef
theorem KF.cons {x y l l'}(h:Sub x y)(k:KF l l'):KF (x::l) (y::l'):=fun m bl vs r=>by cases r with|cons a b=>exact .cons (h _ _ _ a) (k _ _ _ b)
theorem Sub.agg {l l'}(h:KF l l'):Sub (.agg l) (.agg l'):=fun m bl v r=>by cases r with|agg a b=>exact .agg (h _ _ _ a) b
theorem Sub.tup {l l'}(h:KF l l'):Sub (.tup l) (.tup l'):=fun m bl v r=>by cases r with|tup a=>exact .tup (h _ _ _ a)
theorem Sub.clo {f l l'}(h:KF l l'):Sub (.clo f l) (.clo f l'):=fun m bl v r=>by cases r with|clo a=>exact .clo (h _ _ _ a)
theorem Sub.opt {c x y}(h:Sub x y):Sub (.opt c x) (.opt c y):=fun m bl v r=>by cases r with|opt a b=>exact .opt (fun e=>h _ _ _ (a e)) b
theorem Sub.ifc {t x y}(h:Sub x y):Sub (.ifc t x) (.ifc t y):=fun m bl v r=>by cases r with|ifc a=>exact .ifc (h _ _ _ a)
theorem Sub.cap {c sz l}:Sub (.sl c sz l) (.sl false sz l):=fun m bl v r=>by
 cases r with
 |slnil=>exact .slnil
 |sl h1 h2 h3 h4 h5 h6 h7=>exact .sl h1 h2 h3 h4 h5 h6 (by simp)
theorem Sub.nil {c sz}:Sub (.v (.slice none 0 0)) (.sl c sz []):=fun m bl v r=>by cases r;exact .slnil
theorem Sub.room {id off len mc mc' sz}(h:len<=mc')(h2:mc'<=mc):Sub (.row id off len mc sz) (.row id off len mc' sz):=fun m bl v r=>by
 cases r with
 |rownil => obtain rfl:mc'=0:=by omega
            exact .rownil
 |row a b c d=>exact .row a h (by omega) d
theorem KF.len {l l'}(h:KF l l'){m bl vs}(r:JK m bl l vs):l'.length=l.length:=by rw[r.length,(h _ _ _ r).length]
def Xy (nils:Nat->Bool)(x y:AV):Prop:=∀m bl v,(∀id,nils id=true->bl id=some .nil)->Rep m bl x v->Rep m bl y v
def Vt (nils:Nat->Bool)(l l':List AV):Prop:=∀m bl vs,(∀id,nils id=true->bl id=some .nil)->JK m bl l vs->JK m bl l' vs
theorem Sub.n {nils x y}(h:Sub x y):Xy nils x y:=fun _ _ _ _ k=>h _ _ _ k
theorem KF.n {nils x y}(h:KF x y):Vt nils x y:=fun _ _ _ _ k=>h _ _ _ k
theorem Xy.nilrw {nils:Nat->Bool}{id sz}(h:nils id=true):Xy nils (.v (.slice none 0 0)) (.rw id sz):=fun m bl v k r=>by cases r;exact .rwnil (k id h)
theorem Vt.cons {nils x y l l'}(h:Xy nils x y)(k:Vt nils l l'):Vt nils (x::l) (y::l'):=fun m bl vs hn r=>by cases r with|cons a b=>exact .cons (h _ _ _ hn a) (k _ _ _ hn b)
theorem Xy.agg {nils l l'}(h:Vt nils l l'):Xy nils (.agg l) (.agg l'):=fun m bl v hn r=>by cases r with|agg a b=>exact .agg (h _ _ _ hn a) b
theorem Xy.tup {nils l l'}(h:Vt nils l l'):Xy nils (.tup l) (.tup l'):=fun m bl v hn r=>by cases r with|tup a=>exact .tup (h _ _ _ hn a)
def SubE (q:Nat->Option Nat)(nils:Nat->Bool)(e e':Env):Prop:=∀t x,find t e'=some x->x=.undef\/∃y,find t e=some y/\Xy nils (y.re q) x
def SubS (q:Nat->Option Nat)(nils:Nat->Bool):List Env->List Env->Prop
 | [],[]=>True
 |e::s,e'::s'=>SubE q nils e e'/\SubS q nils s s'
 |_,_=>False
def SubB (q:Nat->Option Nat)(nils:Nat->Bool):Mc->Mc->Prop
 | .cells l0,.cells l=>Vt nils (reL q l0) l
 | .iter s p,.iter s' p'=>s=s'/\p=p'
 |_,_=>False
structure LS.ren (q r:Nat->Option Nat)(nils:Nat->Bool)(L L':LS):Prop where
 inv:∀a b,q a=some b↔r b=some a
 e:SubE q nils L.e L'.e
 s:SubS q nils L.s L'.s
 h:∀id b,find id L'.h=some b->(r id=none/\nils id=true/\b=.cells [])\/∃id0 b0,r id=some id0/\find id0 L.h=some b0/\SubB q nils b0 b
 f:∀d,L'.f d->nils d=false/\∀a,r d=some a->L.f a
 nl:∀d,nils d=true->r d=none
theorem LS.ren.kc {q r nils L L'}(h:LS.ren q r nils L L'):zh L L':=by
 intro N W0 m0 sa a w m bl s
 let bl':Names:=fun id=>match r id with|some i=>bl i|none=>if nils id then some .nil else none
 have hbr:∀id i,r id=some i->bl' id=bl i:=by intro id i e;show(match r id with|some i=>bl i|none=>_)=_;rw[e]
 have hb:∀id id',q id=some id'->∀b,bl id=some b->bl' id'=some b:=by
  intro id id' hq b hb
  rw[hbr id' id ((h.inv id id').1 hq)];exact hb
 have hnil:∀id,nils id=true->bl' id=some .nil:=by
  intro id e
  show(match r id with|some i=>bl i|none=>if nils id then some .nil else none)=_
  rw[h.nl id e];simp[e]
 have hcase:∀id x,bl' id=some x->(∃i,r id=some i/\bl i=some x)\/x=.nil:=by
  intro id x e
  change (match r id with|some i=>bl i|none=>if nils id then some .nil else none)=_ at e
  cases hr:r id with
  |some i=>rw[hr]at e;exact .inl ⟨i,rfl,e⟩
  |none=>
   rw[hr]at e
   simp only at e
   split at e
   ·cases e;exact .inr rfl
   ·cases e
 refine⟨m,bl',s.defers,s.size,s.below,⟨s.ws.imm,s.ws.le,s.ws.grow,?_,?_,?_,?_,s.ws.gl⟩,?_,?_,?_⟩
 ·intro id l e
  rcases h.h id _ e with ⟨h1,h2,h3⟩|⟨id0,b0,h1,h2,h3⟩
  ·cases h3;exact .inl ⟨hnil id h2,rfl⟩
  ·cases b0 with
   |iter=>exact absurd h3 (by simp[SubB])
   |cells l0=>
    rcases s.ws.blk id0 l0 h2 with ⟨g1,rfl⟩|⟨b,n,arr,T,pre,rest,g1,g2,g3,g4,g5,g6⟩
    ·refine .inl ⟨by rw[hbr id id0 h1,g1],?_⟩
     have:=h3 m bl' [] hnil (by simp[reL];exact .nil)
     cases this;rfl
    ·exact .inr ⟨b,n,arr,T,pre,rest,by rw[hbr id id0 h1,g1],g2,g3,g4,h3 _ _ _ hnil (g5.re hb),g6⟩
 ·intro id x p e
  rcases h.h id _ e with ⟨-,-,h2⟩|⟨id0,b0,h1,h2,h3⟩
  ·cases h2
  ·cases b0 with
   |cells=>exact absurd h3 (by simp[SubB])
   |iter x' p'=>
    obtain⟨rfl,rfl⟩:=h3
    obtain⟨b,n,g1,g2⟩:=s.ws.it id0 _ _ h2
    exact⟨b,n,by rw[hbr id id0 h1,g1],g2⟩
 ·intro id b n e
  rcases hcase id _ e with ⟨i,-,e2⟩|e2
  ·exact s.ws.own i b n e2
  ·cases e2
 ·intro id id' b n n' e e'
  rcases hcase id _ e with ⟨i,hi,e2⟩|e2
  ·rcases hcase id' _ e' with ⟨i',hi',e2'⟩|e2'
   ·have:=s.ws.inj i i' b n n' e2 e2'
    subst this
    have h1:=(h.inv i id).2 hi
    have h2:=(h.inv i id').2 hi'
    rw[h1]at h2;cases h2;rfl
   ·cases e2'
  ·cases e2
 ·intro t x e
  rcases h.e t x e with rfl|⟨y,hf,hsub⟩
  ·exact .undef
  ·exact hsub _ _ _ hnil ((s.env t y hf).re hb)
 ·have:∀{s0 s1:List Env} {sa},SubS q nils s0 s1->Stk m bl s0 sa->Stk m bl' s1 sa:=by
   intro s0
   induction s0 with
   |nil=>
    intro s1 sa hs hk
    cases s1 with
    |nil=>cases sa with
     |nil=>trivial
     |cons=>exact hk
    |cons=>exact absurd hs (by simp[SubS])
   |cons e0 s0 ih=>
    intro s1 sa hs hk
    cases s1 with
    |nil=>exact absurd hs (by simp[SubS])
    |cons e1 s1=>
     cases sa with
     |nil=>exact absurd hk (by simp[Stk])
     |cons t sa=>
      refine⟨?_,ih hs.2 hk.2⟩
      intro t' x e
      rcases hs.1 t' x e with rfl|⟨y,hf,hsub⟩
      ·exact .undef
      ·exact hsub _ _ _ hnil ((hk.1 t' y hf).re hb)
  exact this h.s s.stk
 ·intro d hd
  obtain⟨h1,h2⟩:=h.f d hd
  show(match r d with|some i=>bl i|none=>if nils d then some .nil else none)=none
  cases hr:r d with
  |none=>simp[h1]
  |some i=>simpa [hr]using s.free i (h2 i hr)
structure LS.cut (id nid k:Nat)(sz:Nat)(len mc:Nat)(L L':LS)(t:Nat):Prop where
 h0:∃l,find id L.h=some (.cells l)/\k<=l.length/\find nid L'.h=some (.cells (l.take k))/\JS (l.take k)=true
 t0:find t L.e=some (.row id 0 len mc sz)
 hk:k=len*sz
 e:∀t' x,find t' L'.e=some x->(t'=t/\x=.rw nid sz)\/∃y,find t' L.e=some y/\Sub (y.re fun i=>if i=id then none else some i) x
 s:L'.s.length=L.s.length/\∀(i:Nat) (e' e:Env),L'.s[i]? = some e'->L.s[i]? = some e->∀t x,find t e'=some x->∃y,find t e=some y/\Sub (y.re fun i=>if i=id then none else some i) x
 h : ∀i b,i≠nid->find i L'.h=some b->i≠id/\∃b0,find i L.h=some b0/\match b0,b with
   | .cells l0,.cells l1=>KF (reL (fun i=>if i=id then none else some i) l0) l1
   | .iter s p,.iter s' p'=>s=s'/\p=p'
   |_,_=>False
 f:L.f nid/\∀d,L'.f d->L.f d/\d≠nid
/- x1 kc what x0 told, but of the names in D. -/
mutual
inductive Le (D:Nat->Prop):AV->AV->Prop
 |refl {x}:Le D x x
 |undef {x}:Le D x .undef
 |ptr {x id off}:D id->Le D x (.ptr id off)
 |row {x id off len mc sz}:D id->Le D x (.row id off len mc sz)
 |rw {x id sz}:D id->Le D x (.rw id sz)
 |agg {l l'}:LeL D l l'->Le D (.agg l) (.agg l')
 |tup {l l'}:LeL D l l'->Le D (.tup l) (.tup l')
 |clo {f l l'}:LeL D l l'->Le D (.clo f l) (.clo f l')
 |opt {c x y}:Le D x y->Le D (.opt c x) (.opt c y)
 |ifc {t x y}:Le D x y->Le D (.ifc t x) (.ifc t y)
inductive LeL (D:Nat->Prop):List AV->List AV->Prop
 |nil:LeL D [] []
 |cons {x y l l'}:Le D x y->LeL D l l'->LeL D (x::l) (y::l')
end
theorem LeL.refl {D}:∀l,LeL D l l
 | []=>.nil
 |_::l=>.cons .refl (LeL.refl l)
mutual
theorem Le.mono {D D':Nat->Prop}(h:∀i,D i->D' i):∀{x y},Le D x y->Le D' x y
 |_,_,.refl=>.refl
 |_,_,.undef=>.undef
 |_,_,.ptr k=>.ptr (h _ k)
 |_,_,.row k=>.row (h _ k)
 |_,_,.rw k=>.rw (h _ k)
 |_,_,.agg k=>.agg (k.mono h)
 |_,_,.tup k=>.tup (k.mono h)
 |_,_,.clo k=>.clo (k.mono h)
 |_,_,.opt k=>.opt (k.mono h)
 |_,_,.ifc k=>.ifc (k.mono h)
theorem LeL.mono {D D':Nat->Prop}(h:∀i,D i->D' i):∀{x y},LeL D x y->LeL D' x y
 |_,_,.nil=>.nil
 |_,_,.cons a b=>.cons (a.mono h) (b.mono h)
end
mutual
theorem Le.trans {D:Nat->Prop}:∀{z y x},Le D z y->Le D y x->Le D z x
 |_,_,_,h,.refl=>h
 |_,_,_,_,.undef=>.undef
 |_,_,_,_,.ptr k=>.ptr k
 |_,_,_,_,.row k=>.row k
 |_,_,_,_,.rw k=>.rw k
 |_,_,_,h,.agg k=>by
  cases h with
  |refl=>exact .agg k
  |agg h'=>exact .agg (h'.trans k)
 |_,_,_,h,.tup k=>by
  cases h with
  |refl=>exact .tup k
  |tup h'=>exact .tup (h'.trans k)
 |_,_,_,h,.clo k=>by
  cases h with
  |refl=>exact .clo k
  |clo h'=>exact .clo (h'.trans k)
 |_,_,_,h,.opt k=>by
  cases h with
  |refl=>exact .opt k
  |opt h'=>exact .opt (h'.trans k)
 |_,_,_,h,.ifc k=>by
  cases h with
  |refl=>exact .ifc k
  |ifc h'=>exact .ifc (h'.trans k)
theorem LeL.trans {D:Nat->Prop}:∀{z y x},LeL D z y->LeL D y x->LeL D z x
 |_,_,_,.nil,.nil=>.nil
 |_,_,_,.cons a b,.cons c d=>.cons (a.trans c) (b.trans d)
end
mutual
theorem jdg {q q0:Nat->Option Nat}(h:∀id,q0 id=none\/q id=q0 id):∀x:AV,Sub (x.re q) (x.re q0)
 | .agg l=>by simp only[AV.re];exact .agg (MB h l)
 | .tup l=>by simp only[AV.re];exact .tup (MB h l)
 | .clo f l=>by simp only[AV.re];exact .clo (MB h l)
 | .ptr id off=>by
   simp only[AV.re]
   rcases h id with h|h
   ·rw[h];exact .undef _
   ·rw[h];exact .refl _
 | .row id off len mc sz=>by
   simp only[AV.re]
   rcases h id with h|h
   ·rw[h];exact .undef _
   ·rw[h];exact .refl _
 | .rw id sz=>by
   simp only[AV.re]
   rcases h id with h|h
   ·rw[h];exact .undef _
   ·rw[h];exact .refl _
 | .opt c x=>by simp only[AV.re];exact .opt (jdg h x)
 | .ifc t x=>by simp only[AV.re];exact .ifc (jdg h x)
 | .undef=>by simp only[AV.re];exact .refl _
 | .v x=>by simp only[AV.re];exact .refl _
 | .sl c sz l=>by simp only[AV.re];exact .refl _
 | .kQ l=>by simp only[AV.re];exact .refl _
theorem MB {q q0:Nat->Option Nat}(h:∀id,q0 id=none\/q id=q0 id):∀l:List AV,KF (reL q l) (reL q0 l)
 | []=>by simp only[reL];exact .refl _
 |x::l=>by simp only[reL];exact .cons (jdg h x) (MB h l)
end
mutual
theorem Le.sub {D:Nat->Prop}{q q0:Nat->Option Nat}(h:∀id,q0 id=none\/q id=q0 id)(hD:∀id,D id->q0 id=none):∀{x1 x0},Le D x1 x0->Sub (x1.re q) (x0.re q0)
 |_,_,.refl=>jdg h _
 |_,_,.undef=>by simp only[AV.re];exact .undef _
 |_,_,.ptr k=>by simp only[AV.re,hD _ k];exact .undef _
 |_,_,.row k=>by simp only[AV.re,hD _ k];exact .undef _
 |_,_,.rw k=>by simp only[AV.re,hD _ k];exact .undef _
 |_,_,.agg k=>by simp only[AV.re];exact .agg (k.sub h hD)
 |_,_,.tup k=>by simp only[AV.re];exact .tup (k.sub h hD)
 |_,_,.clo k=>by simp only[AV.re];exact .clo (k.sub h hD)
 |_,_,.opt k=>by simp only[AV.re];exact .opt (k.sub h hD)
 |_,_,.ifc k=>by simp only[AV.re];exact .ifc (k.sub h hD)
theorem LeL.sub {D:Nat->Prop}{q q0:Nat->Option Nat}(h:∀id,q0 id=none\/q id=q0 id)(hD:∀id,D id->q0 id=none):∀{x1 x0},LeL D x1 x0->KF (reL q x1) (reL q0 x0)
 |_,_,.nil=>by simp only[reL];exact .refl _
 |_,_,.cons a b=>by simp only[reL];exact .cons (a.sub h hD) (b.sub h hD)
end
mutual
theorem jkd {q0:Nat->Option Nat}{D:Nat->Prop}(h:∀id,q0 id=some id\/D id):∀x:AV,Le D (x.re q0) x
 | .agg l=>by simp only[AV.re];exact .agg (jdi h l)
 | .tup l=>by simp only[AV.re];exact .tup (jdi h l)
 | .clo f l=>by simp only[AV.re];exact .clo (jdi h l)
 | .ptr id off=>by
   rcases h id with h|h
   ·simp only[AV.re,h];exact .refl
   ·exact .ptr h
 | .row id off len mc sz=>by
   rcases h id with h|h
   ·simp only[AV.re,h];exact .refl
   ·exact .row h
 | .rw id sz=>by
   rcases h id with h|h
   ·simp only[AV.re,h];exact .refl
   ·exact .rw h
 | .opt c x=>by simp only[AV.re];exact .opt (jkd h x)
 | .ifc t x=>by simp only[AV.re];exact .ifc (jkd h x)
 | .undef=>by simp only[AV.re];exact .refl
 | .v x=>by simp only[AV.re];exact .refl
 | .sl c sz l=>by simp only[AV.re];exact .refl
 | .kQ l=>by simp only[AV.re];exact .refl
theorem jdi {q0:Nat->Option Nat}{D:Nat->Prop}(h:∀id,q0 id=some id\/D id):∀l:List AV,LeL D (reL q0 l) l
 | []=>by simp only[reL];exact .nil
 |x::l=>by simp only[reL];exact .cons (jkd h x) (jdi h l)
end
/-! a block is written no more -/
structure Frz (id:Nat)(l:List AV)(m:Mem)(bl:Names)(m':Mem)(bl':Names):Prop where
 le:Mem.le m m'
 other:∀i x,i≠id->bl i=some x->bl' i=some x
 at_:(bl id=some .nil/\l=[])\/∃b n pre,bl id=some (.blk b n)/\n.2=pre.length/\JK m' jh l pre/\(∀c∈pre,jL c=true)/\∀o v,pre[o]? = some v->m' b o=some v
def Wa (id:Nat)(l:List AV)(y x:AV):Prop:=∀m bl m' bl',Frz id l m bl m' bl'->∀v,Rep m bl y v->Rep m' bl' x v
theorem Wa.jf5 {id l}(y:AV):Wa id l y (y.re fun i=>if i=id then none else some i):=by
 intro m bl m' bl' f v h
 refine(h.mono f.le).re ?_
 intro i i' hi b hb
 split at hi
 ·cases hi
 ·cases hi;exact f.other i _ ‹_› hb
theorem Wa.ptr {id l off}:Wa id l (.ptr id off) (.kQ (l.drop off)):=by
 intro m bl m' bl' f v h
 cases h with
 |ptr hb=>
  rcases f.at_ with ⟨h1,-⟩|⟨b,n,pre,h1,-,h2,h3,h4⟩
  ·rw[h1]at hb;cases hb
  ·rw[h1]at hb;cases hb
   exact .kQ (h2.drop off) (fun c hc=>h3 c (List.mem_of_mem_drop hc)) fun j v e=>h4 _ v (by simpa using e)
theorem Wa.row {id l off len mc sz els}(hl:els.length=len)(he:∀x∈els,x.cells.length=sz)(hc:els.flatMap AV.cells=(l.drop off).take (len*sz)):Wa id l (.row id off len mc sz) (.sl false sz els):=by
 intro m bl m' bl' f v h
 cases h with
 |rownil=>
  have:els=[]:=List.eq_nil_of_length_eq_zero hl
  subst this
  rename_i ad
  cases ad with
  |none=>exact .slnil
  |some a=>exact .sl (l:=[]) (cs:=[]) (by simp) .nil (by simp) (by simp) (by simp) (Nat.le_refl _) (by simp)
 |row hb g1 g2 g3=>
  rename_i b n cap
  rcases f.at_ with ⟨h1,-⟩|⟨b',n',pre,h1,-,h2,h3,h4⟩
  ·rw[h1]at hb;cases hb
  ·rw[h1]at hb;cases hb
   subst hl
   refine .sl (cs:=(pre.drop off).take (els.length*sz)) he (by rw[hc];exact(h2.drop off).take _) (fun c hc=>h3 c (List.mem_of_mem_drop (List.mem_of_mem_take hc))) (fun _=>rfl) (fun j v e=>h4 _ v (Qo e)) (by omega) (by simp)
theorem Wa.rw {id l sz els}(he:∀x∈els,x.cells.length=sz)(hp:0<sz)(hc:els.flatMap AV.cells=l):Wa id l (.rw id sz) (.sl false sz els):=by
 intro m bl m' bl' f v h
 have hl:l.length=els.length*sz:=by rw[<-hc,Qu he]
 cases h with
 |rwnil hb=>
  rcases f.at_ with ⟨h1,rfl⟩|⟨b,n,pre,h1,-⟩
  ·have:els=[]:=by
    rcases Nat.mul_eq_zero.1 (show els.length*sz=0 by rw[<-hl];rfl)with h|h
    ·exact List.eq_nil_of_length_eq_zero h
    ·omega
   subst this
   rename_i ad
   cases ad with
   |none=>exact .slnil
   |some a=>exact .sl (l:=[]) (cs:=[]) (by simp) .nil (by simp) (by simp) (by simp) (Nat.le_refl _) (by simp)
  ·rw[h1]at hb;cases hb
 |rw hb g1 g2 g3=>
  rename_i b n cap len
  rcases f.at_ with ⟨h1,-⟩|⟨b',n',pre,h1,h2,h3,h4,h5⟩
  ·rw[h1]at hb;cases hb
  ·rw[h1]at hb;cases hb
   have hpl:=h3.length
   have:len=els.length:=by
    have:len*sz=els.length*sz:=by rw[g1,h2,<-hpl,hl]
    exact Nat.eq_of_mul_eq_mul_right hp this
   subst this
   exact .sl (cs:=pre) he (by rw[hc];exact h3) h4 (fun _=>rfl) (fun j v e=>by simp only[Nat.zero_add];exact h5 _ v e) g2 (by simp)
def FzB (id:Nat)(l:List AV):Mc->Mc->Prop
 | .cells l0,.cells l1=>∀m bl m' bl',Frz id l m bl m' bl'->∀vs,JK m bl l0 vs->JK m' bl' l1 vs
 | .iter s p,.iter s' p'=>s=s'/\p=p'
 |_,_=>False
structure LS.frz (id:Nat)(l:List AV)(L L':LS):Prop where
 h0:find id L.h=some (.cells l)
 bare:JS l=true
 e:∀t x,find t L'.e=some x->∃y,find t L.e=some y/\Wa id l y x
 s:L'.s.length=L.s.length/\∀(i:Nat) (e' e:Env),L'.s[i]? = some e'->L.s[i]? = some e->∀t x,find t e'=some x->∃y,find t e=some y/\Wa id l y x
 h:∀i b,find i L'.h=some b->i≠id/\∃b0,find i L.h=some b0/\FzB id l b0 b
 f:∀d,L'.f d->L.f d
theorem Uj {m bl}:∀{s sa},Stk m bl s sa↔s.length=sa.length/\∀(i:Nat) e t,s[i]? = some e->sa[i]? = some t->qv m bl e t
 | [],[]=>by simp[Stk]
 | [],_::_=>by simp[Stk]
 |_::_,[]=>by simp[Stk]
 |e :: s,t::sa=>by
  simp only[Stk,Uj (s:=s) (sa:=sa),List.length_cons,Nat.add_right_cancel_iff]
  constructor
  ·rintro⟨h1,h2,h3⟩
   refine⟨h2,fun i e' t' he ht=>?_⟩
   cases i with
   |zero=>simp at he ht;subst he ht;exact h1
   |succ i=>exact h3 i e' t' (by simpa using he) (by simpa using ht)
  ·rintro⟨h1,h2⟩
   exact⟨h2 0 e t rfl rfl,h1,fun i e' t' he ht=>h2 (i+1) e' t' (by simpa using he) (by simpa using ht)⟩
theorem LS.frz.kc {id l L L'}(h:LS.frz id l L L'):zh L L':=by
 intro N W0 m0 sa a w m bl s
 -- the memory behind
 obtain⟨m',hle,himm,hgrow,hat,hother⟩:∃m':Mem,Mem.le m m'/\Imm m' w/\(∀b o v,m' b o=some v->m0 b o=some v\/W0.heap.size<=b)/\
  ((bl id=some .nil/\l=[])\/∃b n pre,bl id=some (.blk b n)/\n.2=pre.length/\JK m' jh l pre/\(∀c∈pre,jL c=true)/\∀o v,pre[o]? = some v->m' b o=some v)/\
  (∀i b n,i≠id->bl i=some (.blk b n)->∀o,m' b o=none):=by
  rcases s.ws.blk id l h.h0 with ⟨h1,h2⟩|⟨b,n,arr,T,pre,rest,g1,g2,g3,g4,g5,g6⟩
  ·exact⟨m,Mem.le.refl m,s.ws.imm,s.ws.grow,.inl ⟨h1,h2⟩,fun i b n _ hb=>(s.ws.own i b n hb).2.2⟩
  ·obtain⟨o1,o2,o3⟩:=s.ws.own id b n g1
   refine⟨fun b' o=>if b'=b then pre[o]? else m b' o,?_,?_,?_,.inr ⟨b,n,pre,g1,by rw[<-g3],?_,g6,fun o v e=>by simpa using e⟩,?_⟩
   ·intro b' o v hv
    show(if _ then _ else _)=some v
    rw[if_neg]
    ·exact hv
    ·rintro rfl;rw[o3 o]at hv;cases hv
   ·intro b' o v hv
    by_cases he:b'=b
    ·subst he
     have hv':pre[o]? = some v:=by simpa using hv
     rw[yC g2];exact Vh g4 hv'
    ·exact s.ws.imm b' o v (by simpa [he]using hv)
   ·intro b' o v hv
    by_cases he:b'=b
    ·subst he;exact .inr o1
    ·exact s.ws.grow b' o v (by simpa [he]using hv)
   ·have:=g5.bare (bl':=jh)
    rw[wJ,yz h.bare]at this
    refine this.mono ?_
    intro b' o v hv
    show(if _ then _ else _)=some v
    rw[if_neg]
    ·exact hv
    ·rintro rfl;rw[o3 o]at hv;cases hv
   ·intro i b' n' hi hb o
    show(if _ then _ else _)=none
    rw[if_neg]
    ·exact(s.ws.own i b' n' hb).2.2 o
    ·rintro rfl;exact hi (s.ws.inj i id b' n' n hb g1)
 let bl':Names:=fun i=>if i=id then none else bl i
 have hfrz:Frz id l m bl m' bl':=⟨hle,fun i x hi hx=>by show(if _ then _ else _)=_;rw[if_neg hi];exact hx,hat⟩
 have hbl:∀i x,bl' i=some x->i≠id/\bl i=some x:=by
  intro i x hx
  change (if _ then _ else _)=_ at hx
  split at hx
  ·cases hx
  ·exact⟨‹_›,hx⟩
 refine⟨m',bl',s.defers,s.size,s.below,⟨himm,s.ws.le.trans hle,hgrow,?_,?_,?_,?_,s.ws.gl⟩,?_,?_,?_⟩
 ·intro i l1 e
  obtain⟨hne,b0,h1,h2⟩:=h.h i _ e
  cases b0 with
  |iter=>exact absurd h2 (by simp[FzB])
  |cells l0=>
   rcases s.ws.blk i l0 h1 with ⟨g1,rfl⟩|⟨b,n,arr,T,pre,rest,g1,g2,g3,g4,g5,g6⟩
   ·refine .inl ⟨by show(if _ then _ else _)=_;rw[if_neg hne];exact g1,?_⟩
    have:=h2 _ _ _ _ hfrz [] .nil
    cases this;rfl
   ·exact .inr ⟨b,n,arr,T,pre,rest,hfrz.other i _ hne g1,g2,g3,g4,h2 _ _ _ _ hfrz pre g5,g6⟩
 ·intro i x p e
  obtain⟨hne,b0,h1,h2⟩:=h.h i _ e
  cases b0 with
  |cells=>exact absurd h2 (by simp[FzB])
  |iter x' p'=>
   obtain⟨rfl,rfl⟩:=h2
   obtain⟨b,n,g1,g2⟩:=s.ws.it i _ _ h1
   exact⟨b,n,hfrz.other i _ hne g1,g2⟩
 ·intro i b n e
  obtain⟨h1,h2⟩:=hbl i _ e
  obtain⟨g1,g2,g3⟩:=s.ws.own i b n h2
  exact⟨g1,g2,hother i b n h1 h2⟩
 ·intro i i' b n n' e e'
  exact s.ws.inj i i' b n n' (hbl i _ e).2 (hbl i' _ e').2
 ·intro t x e
  obtain⟨y,hf,hz⟩:=h.e t x e
  exact hz _ _ _ _ hfrz _ (s.env t y hf)
 ·obtain⟨k1,k2⟩:=Uj.1 s.stk
  refine Uj.2 ⟨by rw[h.s.1,k1],fun i e' t' he ht t x hx=>?_⟩
  have hlt:i<L.s.length:=by
   rw[<-h.s.1]
   rcases Nat.lt_or_ge i L'.s.length with h|h
   ·exact h
   ·rw[List.getElem?_eq_none h]at he;cases he
  obtain⟨y,hf,hz⟩:=h.s.2 i e' L.s[i] he (List.getElem?_eq_getElem hlt) t x hx
  exact hz _ _ _ _ hfrz _ (k2 i _ t' (List.getElem?_eq_getElem hlt) ht t y hf)
 ·intro d hd
  show(if _ then _ else _)=none
  split
  ·rfl
  ·exact s.free d (h.f d hd)
end
section
open Go.RowKit
variable [GlC]
section
variable {P:Program} {o:Oper} {e:Env}
def KQ (P:Program)(o:Oper)(e:Env)(need:List (Nat × List AV))(sz:Nat)(tz:TypeId)(z:Operand)(l2:List AV):Prop:=
 ∀(B:Nat) (m0:Mem) (h:Hp) (m:Mem) (bl:Names) (a:Act) (w:World),Vs B m0 h m bl w->(∀p∈need,find p.1 h=some (.cells p.2))->Reads o e m bl a->
  ∃cs,Src P sz tz (a.eval z) l2.length cs w/\JK m jh (l2.flatMap AV.cells) cs/\(∀x∈l2,x.cells.length=sz)
theorem KQ.sl {need sz tz z c l2 E}(hz:z∈o.op.operands)(ht:P.underlying tz=some (.slice E))(h:jK e z (.sl c sz l2)):KQ P o e need sz tz z l2:=by
 intro B m0 hh m bl a w hws _ hr
 obtain⟨ad,n,cap,cs,hv,hn,hc,el,XE,one,emp,-,at_⟩:=VW (h.rep hr hz)
 have hlen:cs.length=l2.length*sz:=by rw[<-XE.length,Qu el]
 refine⟨cs,?_,XE,el⟩
 rw[hv,hn]
 cases ad with
 |none=>
  obtain⟨rfl,rfl⟩:=emp rfl
  have:cs=[]:=List.eq_nil_of_length_eq_zero (by simpa using hlen)
  subst this
  exact .ofNil (w:=w) ht 0
 |some a1=>
  obtain⟨q1,q2⟩:=at_ a1 rfl
  exact .ofSlice (w:=w) ht a1 _ _ cs hlen (pc hws.imm q1 q2) one
theorem KQ.str {need tz z}{s:List UInt8}(hz:z∈o.op.operands)(ht:P.underlying tz=some .string)(h:jK e z (.v (.string ⟨s.toArray⟩))):KQ P o e need 1 tz z (s.map JD):=by
 intro B m0 hh m bl a w hws _ hr
 have h1:=(h.rep hr hz).zj
 have hs:(⟨s.toArray⟩:ByteArray).size=s.length:=by simp[ByteArray.size]
 have:=Src.ofString (P:=P) (w:=w) ht ⟨s.toArray⟩
 rw[hs]at this
 refine⟨_,by rw[h1,List.length_map];exact this,?_,by intro x hx;obtain⟨b,-,rfl⟩:=List.mem_map.1 hx;rfl⟩
 rw[vi]
 have e2:byteCells ⟨s.toArray⟩=s.map fun b=>Value.int .u8 b.toNat:=by simp[byteCells]
 rw[e2];exact JK.MM _
theorem KQ.row {need sz tz z id off len mc l l2 E}(hz:z∈o.op.operands)(ht:P.underlying tz=some (.slice E))(h:jK e z (.row id off len mc sz))(hn:(id,l)∈need)
 (hl:l2.length=len) (he:∀x∈l2,x.cells.length=sz) (hc:l2.flatMap AV.cells=(l.drop off).take (len*sz)) (hb:JS (l2.flatMap AV.cells)=true) (hfit:off+len*sz<=l.length):KQ P o e need sz tz z l2:=by
 intro B m0 hh m bl a w hws hnd hr
 have h1:=h.rep hr hz
 generalize hv:a.eval z=v at h1
 cases h1 with
 |rownil=>
  rename_i ad
  have:l2=[]:=List.eq_nil_of_length_eq_zero hl
  subst this
  refine⟨[],?_,.nil,he⟩
  cases ad with
  |none=>exact .ofNil (w:=w) ht 0
  |some a1=>exact .ofSlice (w:=w) ht a1 0 0 [] (by simp) (by simp) (by simp)
 |row hb' g1 g2 g3=>
  obtain⟨arr,T,pre,rest,q1,q2,q3,q4,q5⟩:=hws.at_ (show find id hh=some (Mc.cells l)from hnd _ hn) hb'
  have hlen:=q4.length
  have hl2:((pre.drop off).take (len*sz)).length=len*sz:=by simp;omega
  refine⟨(pre.drop off).take (len*sz),?_,?_,he⟩
  ·rw[hl]
   refine .ofSlice (w:=w) ht _ _ _ _ hl2 (fun j u hj=>?_) (fun u hu=>q5 u (List.mem_of_mem_drop (List.mem_of_mem_take hu)))
   rw[Yc,yC q1]
   exact Vh q3 (Qo hj)
  ·have:=((q4.drop off).take (len*sz)).bare (bl':=jh)
   rw[<-hc,wJ,yz hb]at this
   exact this
theorem KQ.rw {need sz tz z id l2 E}(hz:z∈o.op.operands)(ht:P.underlying tz=some (.slice E))(h:jK e z (.rw id sz))(hn:(id,l2.flatMap AV.cells)∈need)(hp:0<sz)
 (he:∀x∈l2,x.cells.length=sz) (hb:JS (l2.flatMap AV.cells)=true):KQ P o e need sz tz z l2:=by
 intro B m0 hh m bl a w hws hnd hr
 have h1:=h.rep hr hz
 have hfl:=Qu he
 have hf:=hnd _ hn
 generalize hv:a.eval z=v at h1
 cases h1 with
 |rwnil hb'=>
  rename_i ad
  have:l2=[]:=by
   rcases hws.blk id _ hf with ⟨-,g⟩|⟨b,n,arr,T,pre,rest,g1,-⟩
   ·rw[show(l2.flatMap AV.cells)=[]from g]at hfl
    rcases Nat.mul_eq_zero.1 (show l2.length*sz=0 by rw[<-hfl];rfl)with h|h
    ·exact List.eq_nil_of_length_eq_zero h
    ·omega
   ·rw[g1]at hb';cases hb'
  subst this
  refine⟨[],?_,.nil,he⟩
  cases ad with
  |none=>exact .ofNil (w:=w) ht 0
  |some a1=>exact .ofSlice (w:=w) ht a1 0 0 [] (by simp) (by simp) (by simp)
 |rw hb' g1 g2 g3=>
  rename_i b n cap len
  obtain⟨arr,T,pre,rest,q1,q2,q3,q4,q5⟩:=hws.at_ hf hb'
  have hlen:=q4.length
  have hn2:n.2=pre.length:=by rw[<-q2]
  have:len=l2.length:=Nat.eq_of_mul_eq_mul_right hp (by rw[g1,hn2,<-hlen,hfl])
  subst this
  refine⟨pre,?_,?_,he⟩
  ·refine .ofSlice (w:=w) ht _ _ _ _ (by rw[<-hlen,hfl]) (fun j u hj=>?_) (fun u hu=>q5 u hu)
   rw[Yc,yC q1,Nat.zero_add]
   exact Vh q3 hj
  ·have:=q4.bare (bl':=jh)
   rwa [wJ,yz hb]at this
theorem Qy {t tz y z}(ho:o.op=.call {callee:=.builtin .append,args:=#[y,z],argTypes:=#[t,tz]}){a:Act}{v:Value}{w w':World}
 (h:(Builtin.append_ #[t,tz] o.type #[a.eval y,a.eval z]).run P w=.ok v w'):(execOp a.eval o).run P w=.ok (.value v) w':=by
 unfold execOp
 simp only[ho,resolve,invoke,builtin,Sem.run_bind,Sem.run_pure,Result.andThen_ok,List.map_toArray,List.map_cons,List.map_nil,h]
theorem vn {t tz E sz by_ ty n cap}{x:Value}{w:World}(ht:Vu P t E sz by_)(hs:Src P sz tz x 0 [] w)(ad:Option Addr)(hc:n<=cap):
 (Builtin.append_ #[t,tz] ty #[.slice ad n cap,x]).run P w=.ok (.slice ad n cap) w:=by
 rcases hs.kind with ⟨e',hk⟩|hk <;> cases ad <;> simp[Builtin.append_,je ht.under,je hk,jx ht.sz,hs.len,hs.cells,hc,storeCells]
theorem QEx.appI {t tz y z E sz by_ l need l2}(ho:o.op=.call {callee:=.builtin .append,args:=#[y,z],argTypes:=#[t,tz]})(ht:Vu P t E sz by_)(hy:jK e y (.sl true sz l))(hz:KQ P o e need sz tz z l2)
 (hlen:(l.length+l2.length)*by_<=140737488355328) (h63:l.length+l2.length<=9223372036854775807):QEx P o e need (.sl false sz (l++l2)):=by
 intro B m0 hp m bl a w hws hB hn hr next Q k
 obtain⟨ad,n,cap,cs,hv,hn1,hc,el,XE,one,emp,hcap,at_⟩:=VW (hy.rep hr (by simp[ho,Op.operands,Call.operands]))
 obtain rfl:=hcap rfl
 subst hn1
 obtain⟨cs2,src,uf,el2⟩:=hz B m0 hp m bl a w hws hn hr
 obtain⟨i,zv,hi1,hi2,hi3,hi4,hi5,hi6⟩:=ht.info
 have hlen1:cs.length=l.length*sz:=by rw[<-XE.length,Qu el]
 have elA:∀x∈l++l2,x.cells.length=sz:=by intro x hx;rcases List.mem_append.1 hx with h|h <;> first|exact el x h|exact el2 x h
 have jid:∀c∈cs++cs2,jL c=true:=by intro x hx;rcases List.mem_append.1 hx with h|h <;> first|exact one x h|exact src.one x h
 have repsA:JK m jh ((l++l2).flatMap AV.cells) (cs++cs2):=by rw[List.flatMap_append];exact XE.append uf
 unfold Oper.wp
 by_cases h0:l2.length=0
 ·have hl2:l2=[]:=List.eq_nil_of_length_eq_zero h0
  subst hl2
  have:cs2=[]:=List.eq_nil_of_length_eq_zero (by have:=src.newsLen;simpa using this)
  subst this
  rw[Qy ho (v:=a.eval y) (w':=w) (by rw[hv];exact vn ht src ad (Nat.le_refl _)),Oper.upon_value]
  refine k _ w m (Mem.le.refl m) (Below.refl _ _) hws ?_
  rw[List.append_nil]
  exact Sub.cap m bl _ (hy.rep hr (by simp[ho,Op.operands,Call.operands]))
 ·have hold:(Builtin.firstCells i.size l.length (.slice ad l.length l.length)).run P w.drew=.ok cs.toArray w.drew:=by
   cases ad with
   |none=>
    obtain⟨rfl,-⟩:=emp rfl
    have:cs=[]:=List.eq_nil_of_length_eq_zero (by simpa using hlen1)
    subst this
    exact run_firstCells_none (P:=P) w.drew _ _ _ _
   |some a1=>
    obtain⟨q1,q2⟩:=at_ a1 rfl
    exact run_firstCells_some (P:=P) w.drew i.size l.length a1 _ _ cs (by rw[hi3];exact hlen1) (by simpa using pc hws.imm q1 q2)
  have hrun:=run_append_grow_src (P:=P) w t tz o.type E i zv ht.under hi1 hi2 ad l.length l.length cs hold (a.eval z) l2.length cs2 (by rw[hi3];exact src) (by omega) (by omega)
   (by rw[hi4];exact growslice_fits (by omega) hlen)
  rw[Qy ho (v:=_) (w':=_) (by rw[hv];exact hrun),Oper.upon_value]
  obtain⟨hs,hle⟩:=hws.jds (w':=w.drew.alloc (.cells ((cs++cs2).toArray++Builtin.zeroCells zv.cells (grownCap w (l.length+l2.length) l.length E - (l.length+l2.length))) E)) (T:=E) (fr:=(0,0)) hB rfl (cs:=cs++cs2)
   (fun j v e=>by
     have hj:j<(cs++cs2).length:=by
      rcases Nat.lt_or_ge j (cs++cs2).length with h|h
      ·exact h
      ·rw[List.getElem?_eq_none h]at e;cases e
     rw[Array.getElem?_append_left (by simpa using hj)]
     simpa using e)
  refine k _ _ _ hle (((Below.refl _ _).drew).alloc (Nat.le_refl _) _) hs ?_
  have:=Rep.sl (m:=wW m w.heap.size (cs++cs2)) (bl:=bl) (c:=false) (sz:=sz) (a:=⟨w.heap.size,0,none⟩) (cap:=grownCap w (l.length+l2.length) l.length E) elA (repsA.mono hle) jid (fun _=>rfl)
   (fun j v e=>by simp only[Nat.zero_add];rw[UN];exact e) (by simpa using grownCap_ge w _ _ E) (by simp)
  simpa using this
theorem LEx.appN {ops:Array Oper}{N:Nat}{t tz y z E sz by_ l2 d nm need}(hg:o.guard=none)(hd:o.dst=some d)(hN:d<N)(ho:o.op=.call {callee:=.builtin .append,args:=#[y,z],argTypes:=#[t,tz]})(ht:Vu P t E sz by_)
 (hy:jK e y (.sl true sz [])) (hz:KQ P o e need sz tz z l2) (hlen:l2.length*by_<=140737488355328) (h63:l2.length<=9223372036854775807):
 LEx P ops N o ⟨xl e (o.looksAt ops),Wt need,[(d,.rw nm sz)],[(nm,.cells (l2.flatMap AV.cells))],[nm]⟩:=by
 refine .ofA hg (fun d' h'=>by rw[hd]at h';cases h';exact hN) ?_
 intro e2 s h f f' hre hrh hnm hf' N W0 m0 sa m bl a w S hdN next Q k
 have hR:Reads o e m bl a:=fun t ht y hy=>S.env t y (YM hre t (Yn ht) y hy)
 obtain⟨ad,n,cap,cs,hv,hn1,hc,el,XE,one,emp,hcap,at_⟩:=VW (hy.rep hR (by simp[ho,Op.operands,Call.operands]))
 obtain rfl:=hcap rfl
 simp only[List.length_nil]at hn1
 subst hn1
 obtain⟨cs2,src,uf,el2⟩:=hz _ _ _ m bl a w S.ws (Qt.1 hrh) hR
 obtain⟨i,zv,hi1,hi2,hi3,hi4,hi5,hi6⟩:=ht.info
 have hfree:bl nm=none:=S.free nm (hnm nm (by simp))
 unfold Oper.wp
 by_cases h0:l2.length=0
 ·have hl2:l2=[]:=List.eq_nil_of_length_eq_zero h0
  subst hl2
  have:cs2=[]:=List.eq_nil_of_length_eq_zero (by have:=src.newsLen;simpa using this)
  subst this
  rw[Qy ho (v:=a.eval y) (w':=w) (by rw[hv];exact vn ht src ad (Nat.le_refl _)),Oper.upon_value]
  have hext:∀id x,bl id=some x->(fun i=>if i=nm then some Bnd.nil else bl i:Names) id=some x:=by
   intro id x e
   show(if _ then _ else _)=_
   rw[if_neg];exact e
   rintro rfl;rw[hfree]at e;cases e
  have hback:∀id b n,(if id=nm then some Bnd.nil else bl id)=some (.blk b n)->bl id=some (.blk b n):=by
   intro id b n e
   split at e
   ·cases e
   ·exact e
  refine k _ _ w m (fun i=>if i=nm then some .nil else bl i) rfl ⟨?_,?_,S.below,⟨S.ws.imm,S.ws.le,S.ws.grow,?_,?_,fun id b n e=>S.ws.own id b n (hback id b n e),fun id id' b n n' e e'=>S.ws.inj id id' b n n' (hback id b n e) (hback id' b n' e'),S.ws.gl⟩,?_,S.stk.zV hext,?_⟩
  ·simp[Act.put,hd,S.defers]
  ·simp[Act.put,hd,S.size]
  ·intro id l hf
   simp only[List.singleton_append]at hf
   rw[jk]at hf
   split at hf
   ·rename_i hk;subst hk;cases hf;exact .inl ⟨by simp,rfl⟩
   ·rcases S.ws.blk id l hf with ⟨g1,g2⟩|⟨b,n,arr,T,pre,rest,g1,g2,g3,g4,g5,g6⟩
    ·exact .inl ⟨hext _ _ g1,g2⟩
    ·exact .inr ⟨b,n,arr,T,pre,rest,hext _ _ g1,g2,g3,g4,g5.zV hext,g6⟩
  ·intro id x p hf
   simp only[List.singleton_append]at hf
   rw[jk]at hf
   split at hf
   ·cases hf
   ·obtain⟨b,n,g1,g2⟩:=S.ws.it id x p hf
    exact⟨b,n,hext _ _ g1,g2⟩
  ·rw[hd,hv];exact qv.put (S.env.zV hext) (.rwnil (by simp)) (by rw[S.size];exact hdN d hd)
  ·intro d' hd'
   obtain⟨g1,g2⟩:=hf' d' hd'
   show(if _ then _ else _)=_
   rw[if_neg (by simpa using g2)];exact S.free d' g1
 ·have hold:(Builtin.firstCells i.size 0 (.slice ad 0 0)).run P w.drew=.ok (#[]:Array Value) w.drew:=by
   cases ad with
   |none=>exact run_firstCells_none (P:=P) w.drew _ _ _ _
   |some a1=>exact run_firstCells_some (P:=P) w.drew i.size 0 a1 _ _ [] (by simp) (by simp)
  have hrun:=run_append_grow_src (P:=P) w t tz o.type E i zv ht.under hi1 hi2 ad 0 0 [] hold (a.eval z) l2.length cs2 (by rw[hi3];exact src) (by omega) (by omega)
   (by rw[hi4];exact growslice_fits (by omega) (by rw[Nat.zero_add];exact hlen))
  rw[Qy ho (v:=_) (w':=_) (by rw[hv];exact hrun),Oper.upon_value]
  simp only[Nat.zero_add,List.nil_append]
  generalize hcap2:grownCap w l2.length 0 E=cap'
  have hge:l2.length<=cap':=by rw[<-hcap2];exact grownCap_ge w _ _ E
  have hzs:(Builtin.zeroCells zv.cells (cap' - l2.length)).size=(cap' - l2.length)*sz:=by rw[size_zeroCells,hi5]
  have hbare:JK m bl (l2.flatMap AV.cells) cs2:=uf.zV (by simp[jh])
  have hsz:(cs2.toArray++Builtin.zeroCells zv.cells (cap' - l2.length)).size=cap'*sz:=by
   rw[Array.size_append,hzs,List.size_toArray,src.newsLen,<-Nat.add_mul];congr 1;omega
  obtain⟨q1,q2⟩:=S.ws.Uw (w':=w.drew.alloc (.cells (cs2.toArray++Builtin.zeroCells zv.cells (cap' - l2.length)) E)) (d:=nm) (arr:=cs2.toArray++Builtin.zeroCells zv.cells (cap' - l2.length)) (T:=E)
   (Z:=l2.flatMap AV.cells) (pre:=cs2) S.below.size hfree rfl (by rw[Array.toList_append]) hbare src.one
  rw[hsz]at q1 q2
  refine k _ _ _ m _ rfl ⟨?_,?_,((S.below.drew).alloc S.below.size _),q1,?_,S.stk.zV q2,?_⟩
  ·simp[Act.put,hd,S.defers]
  ·simp[Act.put,hd,S.size]
  ·rw[hd]
   exact qv.put (S.env.zV q2) (.rw (b:=w.heap.size) (n:=(cap'*sz,cs2.length)) (by simp[Xg]) src.newsLen.symm hge (Nat.le_refl _)) (by rw[S.size];exact hdN d hd)
  ·intro d' hd'
   obtain⟨g1,g2⟩:=hf' d' hd'
   unfold Xg;rw[if_neg (by simpa using g2)];exact S.free d' g1
end
end
end Go.Rx
end
