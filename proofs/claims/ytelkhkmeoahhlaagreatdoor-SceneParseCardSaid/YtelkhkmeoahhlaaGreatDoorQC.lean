/- Several texts in one. No conditions. -/
import Derived.Test.YtelkhkmeoahhlaaGreatDoorQB
section
set_option linter.all false
namespace Go.Rx
section
open Go.RowKit
variable [GlC]
section
variable {P:Program} {tb:Tb} {ρ:Type}
theorem yI:∀l:List (SV tb),(avL l).length=l.length
 | []=>rfl
 |x::l=>by simp only[avL,List.length_cons,yI l]
theorem va:∀(l:List (SV tb)) n,avL (l.drop n)=(avL l).drop n:=fun l n=>by rw[xW,xW,List.map_drop]
theorem KZ:∀(l:List (SV tb)) n,avL (l.take n)=(avL l).take n:=fun l n=>by rw[xW,xW,List.map_take]
def ixd {α:Type}(d:α)(l:List α)(i:Int):α:=@ix α ⟨d⟩ l i
theorem jcz {α:Type}{d:α}{l:List α}{i:Int}(h:0<=i/\i<l.length):l[i.toNat]? = some (ixd d l i):=by
 have hlt:i.toNat<l.length:=by omega
 simp[ixd,ix,List.getD,List.getElem?_eq_getElem hlt]
variable {cx:Ctx P tb}
theorem qc (ok:∀i,jlK (cx.cd i)){E:tb.Ix}{l:List (tb.T E)}:∀x∈l.map (tb.el E),x.cells.length=tb.sz E:=by
 intro x hx
 obtain⟨y,-,rfl⟩:=List.mem_map.1 hx
 exact(ok E).len y
theorem vj (cx:Ctx P tb){E:tb.Ix}{l:List (tb.T E)}:(elC tb E l).length=l.length*tb.sz E:=by
 unfold elC;rw[Qu (qc cx.ok),List.length_map]
theorem jjL (cx:Ctx P tb){E:tb.Ix}{l:List (tb.T E)}{i:Int}(h:0<=i/\i<l.length):((elC tb E l).drop (i.toNat*tb.sz E)).take (tb.sz E)=avL ((cx.cd E).cs (ixd (cx.cd E).inh l i)):=by
 unfold elC
 rw[jgQ (qc cx.ok) (e:=tb.el E (ixd (cx.cd E).inh l i)) (by rw[List.getElem?_map,jcz h];rfl),(cx.ok E).cs]
theorem jgV (cx:Ctx P tb){E:tb.Ix}{l:List (tb.T E)}{i:Int}{fo sz:Nat}(h:0<=i/\i<l.length)(hf:fo+sz<=tb.sz E):
 ((elC tb E l).drop (i.toNat*tb.sz E+fo)).take sz=avL ((((cx.cd E).cs (ixd (cx.cd E).inh l i)).drop fo).take sz):=by
 rw[KZ,va,<-jjL cx h,List.drop_take,List.drop_drop,List.take_take,Nat.min_eq_left (by omega)]
theorem jbI (cx:Ctx P tb){E:tb.Ix}{x:tb.T E}:((cx.cd E).cs x).length=tb.sz E:=by
 rw[<-yI,(cx.ok E).cs,(cx.ok E).len]
def vC (K:IntKind):List (SV tb)->List Int
 | []=>[]
 |x::r=>match x with
  | .i k n=>(match decide (k=K)with|true=>n::vC K r|false=>[])
  | .con (.int k n)=>(match decide (k=K)with|true=>n::vC K r|false=>[])
  |_=>[]
def jgp:List (SV tb)->Option IntKind
 | []=>none
 |x::_=>match x with
  | .i k _=>some k
  | .con (.int k _)=>some k
  |_=>none
theorem UA {K:IntKind}:∀{l:List (SV tb)} {i:Nat},i<(vC K l).length->∃x,l[i]? = some x/\x.av=.v (.int K ((vC K l).getD i 0))
 | [],i,h=>by simp[vC]at h
 |x :: r,i,h=>by
  have step:∀n,vC K (x::r)=n::vC K r->x.av=.v (.int K n)->∃y,(x::r)[i]? = some y/\y.av=.v (.int K ((vC K (x::r)).getD i 0)):=by
   intro n h1 h2
   cases i with
   |zero=>exact⟨x,rfl,by rw[h1,h2];rfl⟩
   |succ i=>
    rw[h1,List.length_cons]at h
    obtain⟨y,h3,h4⟩:=UA (K:=K) (l:=r) (i:=i) (by omega)
    exact⟨y,by simpa using h3,by rw[h4,h1];rfl⟩
  have none_:vC K (x::r)=[]->∃y,(x::r)[i]? = some y/\y.av=.v (.int K ((vC K (x::r)).getD i 0)):=by
   intro h1;rw[h1]at h;simp at h
  cases x with
  |i k n=>
   by_cases hk:k=K
   ·subst hk;exact step n (by simp[vC]) rfl
   ·exact none_ (by simp[vC,hk])
  |con v=>
   cases v with
   |int k n=>
    by_cases hk:k=K
    ·subst hk;exact step n (by simp[vC]) rfl
    ·exact none_ (by simp[vC,hk])
   |_=>exact none_ rfl
  |_=>exact none_ rfl
def jaD:List (SV tb)->List (List UInt8)
 | []=>[]
 |x::r=>match asS x with
  |some s=>s::jaD r
  |none=>[]
theorem jaC:∀{l:List (SV tb)} {i:Nat},i<(jaD l).length->∃x,l[i]? = some x/\x.av=sAV ((jaD l).getD i [])
 | [],i,h=>by simp[jaD]at h
 |x :: r,i,h=>by
  unfold jaD at h⊢
  split at h
  ·rename_i s hs
   cases i with
   |zero=>exact⟨x,rfl,jai hs⟩
   |succ i=>
    obtain⟨y,h3,h4⟩:=jaC (l:=r) (i:=i) (by simpa using h)
    exact⟨y,by simpa using h3,by rw[h4];rfl⟩
  ·simp at h
def PA:List (SV tb)->Bool
 | []=>true
 |x::l=>match x with
  | .agg _=>false
  | .opt _ _=>false
  | .tup _=>false
  | .con v=>(match jL v with|true=>PA l|false=>false)
  |_=>PA l
theorem Ui:∀{l:List (SV tb)},PA l=true->(avL l).flatMap AV.cells=avL l/\∀x∈avL l,x.cells.length=1
 | [],_=>⟨rfl,by simp[avL]⟩
 |x :: l,h=>by
  have key:PA l=true->x.av.cells=[x.av]->(avL (x::l)).flatMap AV.cells=avL (x::l)/\∀y∈avL (x::l),y.cells.length=1:=by
   intro h1 h2
   obtain⟨g1,g2⟩:=Ui h1
   refine⟨?_,?_⟩
   ·simp only[avL,List.flatMap_cons]
    rw[g1,h2];rfl
   ·intro y hy
    simp only[avL,List.mem_cons]at hy
    rcases hy with rfl|hy
    ·rw[h2];rfl
    ·exact g2 y hy
  cases x with
  |agg _=>cases h
  |opt _ _=>cases h
  |tup _=>cases h
  |con v=>
   unfold PA at h
   simp only at h
   split at h
   ·rename_i hv;exact key h rfl
   ·cases h
  |_=>exact key h rfl
def jkl (cx:Ctx P tb)(L:SLS tb)(G:Gd)(t:Nat)(y:Operand)(k:SV tb->List Nat->Option ρ):Option ρ:=
 got (opd L G y) fun a=>got (tAg P t) fun ag=>match a with
 | .cp l=>(match ag with
   |true=>got (tSz P t) fun n=>tst (Nat.beq n l.length) (k (.agg l) [])
   |false=>match l with| [x]=>k x [] |_=>none)
 | .ptr id off=>got (Vl L id) fun l=>(match ag with
   |true=>got (tSz P t) fun n=>tst (Nat.ble (off+n) l.length) (k (.agg ((l.drop off).take n)) [id])
   |false=>got (nth l off) fun x=>k x [id])
 | .epr id E i fo=>(match KO L id E with
   |some l=>chk G (0<=i/\i<l.length) (Let (ixd (cx.cd E).inh l i) fun x=>match ag with
    |true=>got (tSz P t) fun n=>tst (Nat.ble (fo+n) (tb.sz E)) (k (.agg ((((cx.cd E).cs x).drop fo).take n)) [id])
    |false=>got (nth ((cx.cd E).cs x) fo) fun y=>k y [id])
   |none=>tst (!ag) <|tst (Nat.beq (tb.sz E) 1) <|got (Vl L id) fun l=>got (jgp (l.drop fo)) fun K=>chk G (0<=i/\i<(vC K (l.drop fo)).length) (Let (ixd 0 (vC K (l.drop fo)) i) fun x=>k (.i K x) [id]))
 |_=>none
theorem jh5 {L:SLS tb}{G o t y}{k:SV tb->List Nat->Option ρ}{r}(ho:o.op=.load t y)(h:jkl cx L G t y k=some r):QOk P L G o k r:=by
 unfold jkl at h
 obtain⟨a,ha,h⟩:=jd h
 obtain⟨ag,hag,h⟩:=jd h
 have hy:=fun u=>Jl (L:=L) (G:=G) u ha
 split at h
 ·split at h
  ·obtain⟨n,hn,h⟩:=jd h
   obtain⟨h1,h⟩:=jM h
   exact⟨_,[],h,fun u=>QEx.jkI ho hag (by rw[hn,Nat.eq_of_beq_eq_true h1,yI]) (hy u)⟩
  ·split at h
   ·exact⟨_,[],h,fun u=>QEx.load1 ho hag (hy u)⟩
   ·cases h
 ·obtain⟨l,hl,h⟩:=jd h
  have hl:=vG hl
  split at h
  ·obtain⟨n,hn,h⟩:=jd h
   obtain⟨h1,h⟩:=jM h
   refine⟨_,_,h,fun u=>?_⟩
   rw[yY hl]
   have:=QEx.loadP (l:=avL l) ho hag hn (hy u) (by rw[yI];exact Nat.le_of_ble_eq_true h1)
   simp only[SV.av]
   rw[KZ,va];exact this
  ·obtain⟨x,hx,h⟩:=jd h
   rw[jep]at hx
   refine⟨_,_,h,fun u=>?_⟩
   rw[yY hl]
   exact QEx.jgg ho hag (hy u) (wK hx)
 ·rename_i id E i fo _
  split at h
  ·rename_i l hl
   have hl:=zB hl
   obtain⟨hc,h⟩:=kR h
   change (match ag with|true=>_|false=>_)=_ at h
   split at h
   ·obtain⟨n,hn,h⟩:=jd h
    obtain⟨h1,h⟩:=jM h
    have h1:=Nat.le_of_ble_eq_true h1
    refine⟨_,_,h,fun u=>?_⟩
    rw[yY hl]
    have hc:=hc u.on
    have hlt:i.toNat+1<=l.length:=by omega
    have:=QEx.loadP (l:=elC tb E l) ho hag hn (hy u) (by
     rw[vj cx]
     have:=Nat.mul_le_mul_right (tb.sz E) hlt
     rw[Nat.add_mul]at this;omega)
    rw[jgV cx hc h1]at this
    exact this
   ·obtain⟨x,hx,h⟩:=jd h
    rw[jep]at hx
    refine⟨_,_,h,fun u=>?_⟩
    rw[yY hl]
    have hc:=hc u.on
    have hlt:fo<tb.sz E:=by
     have:fo<((cx.cd E).cs (ixd (cx.cd E).inh l i)).length:=by
      rcases Nat.lt_or_ge fo ((cx.cd E).cs (ixd (cx.cd E).inh l i)).length with h|h
      ·exact h
      ·rw[List.getElem?_eq_none h]at hx;cases hx
     rwa [jbI cx]at this
    refine QEx.jgg (l:=elC tb E l) ho hag (hy u) ?_
    have h2:=congrArg (fun z:List AV=>z[0]?) (jgV cx (l:=l) (fo:=fo) (sz:=1) hc hlt)
    have h3:(avL ((((cx.cd E).cs (ixd (cx.cd E).inh l i)).drop fo).take 1))[0]? = some x.av:=wK (by rw[List.getElem?_take_of_lt (by omega),List.getElem?_drop];simpa using hx)
    rw[h3,List.getElem?_take_of_lt (by omega),List.getElem?_drop,Nat.add_zero]at h2
    exact h2
  ·obtain⟨h1,h⟩:=jM h
   obtain⟨h2,h⟩:=jM h
   obtain⟨l,hl,h⟩:=jd h
   obtain⟨K,hK,h⟩:=jd h
   obtain⟨hc,h⟩:=kR h
   have h:=(show k (.i K (ixd 0 (vC K (l.drop fo)) i)) [id]=some r from h)
   have hl:=vG hl
   refine⟨_,_,h,fun u=>?_⟩
   rw[yY hl]
   have hc:=hc u.on
   have hag':ag=false:=by simpa using h1
   rw[hag']at hag
   obtain⟨x,hx,hxa⟩:=UA (K:=K) (l:=l.drop fo) (i:=i.toNat) (by omega)
   have hx':l[i.toNat*tb.sz E+fo]? = some x:=by
    rw[List.getElem?_drop]at hx
    rw[Nat.eq_of_beq_eq_true h2,Nat.mul_one,Nat.add_comm];exact hx
   have:=QEx.jgg ho hag (hy u) (wK hx')
   rw[hxa]at this
   exact this
 ·cases h
def jiv:TypeDesc->Option (Array Field)
 | .struct fs=>some fs
 |_=>none
theorem jgz {d E}(h:jiv d=some E):d=.struct E:=by unfold jiv at h;split at h;cases h;rfl;cases h
def jbs:TypeDesc->Option (Nat × Nat)
 | .array n E=>some (n,E)
 |_=>none
theorem xD {d p}(h:jbs d=some p):d=.array p.1 p.2:=by unfold jbs at h;split at h;cases h;rfl;cases h
def fieldAt (P:Program)(t f:Nat):Option (Field × Nat):=got (P.underlying t) fun D=>got (jiv D) fun fs=>got (fs[f]?) fun fd=>got (tSz P fd.type) fun n=>tst (Nat.ble 1 n) (some (fd,n))
theorem jbB {t f p}(h:fieldAt P t f=some p):∃fs,P.underlying t=some (.struct fs)/\fs[f]? = some p.1/\tSz P p.1.type=some p.2/\0<p.2:=by
 unfold fieldAt at h
 obtain⟨D,hD,h⟩:=jd h
 obtain⟨fs,hfs,h⟩:=jd h
 obtain⟨fd,hfd,h⟩:=jd h
 obtain⟨n,hn,h⟩:=jd h
 obtain⟨h1,h⟩:=jM h
 cases h
 rw[jgz hfs]at hD
 exact⟨fs,hD,hfd,hn,Nat.le_of_ble_eq_true h1⟩
def jcf (P:Program)(L:SLS tb)(G:Gd)(t:Nat)(y:Operand)(f:Nat)(k:SV tb->List Nat->Option ρ):Option ρ:=
 got (opd L G y) fun a=>got (fieldAt P t f) fun p=>match a with
 | .cp l=>k (.cp ((l.drop p.1.offset).take p.2)) []
 | .ptr id off=>k (.ptr id (off+p.1.offset)) []
 | .epr id E i fo=>k (.epr id E i (fo+p.1.offset)) []
 |_=>none
theorem jek {L:SLS tb}{G o t y f}{k:SV tb->List Nat->Option ρ}{r}(ho:o.op=.fieldAddr t y f)(h:jcf P L G t y f k=some r):QOk P L G o k r:=by
 unfold jcf at h
 obtain⟨a,ha,h⟩:=jd h
 obtain⟨p,hp,h⟩:=jd h
 obtain⟨fs,h1,h2,h3,h4⟩:=jbB hp
 have hy:=fun u=>Jl (L:=L) (G:=G) u ha
 split at h
 ·refine⟨_,[],h,fun u=>?_⟩
  have:=QEx.fieldC ho h1 h2 h3 h4 (hy u)
  simp only[SV.av];rw[KZ,va];exact this
 ·exact⟨_,[],h,fun u=>QEx.jjE ho h1 h2 h3 h4 (hy u)⟩
 ·refine⟨_,[],h,fun u=>?_⟩
  have:=QEx.jjE ho h1 h2 h3 h4 (hy u)
  simp only[SV.av]at this⊢
  rw[Nat.add_assoc]at this;exact this
 ·cases h
def XL (P:Program)(t sz:Nat):Option (Nat × Nat):=got (P.underlying t) fun D=>got (ui D) fun E=>got (P.info? E) fun i=>got i.zero fun z=>
 tst (Nat.beq i.size sz) <|tst (Nat.beq z.cells.size sz) <|tst (z.cells.toList.all jL) <|tst (Nat.ble 1 sz) (some (E,i.bytes))
theorem Vk {t sz p}(h:XL P t sz=some p):Vu P t p.1 sz p.2:=by
 unfold XL at h
 obtain⟨D,hD,h⟩:=jd h
 obtain⟨E,hE,h⟩:=jd h
 obtain⟨i,hi,h⟩:=jd h
 obtain⟨z,hz,h⟩:=jd h
 obtain⟨h1,h⟩:=jM h
 obtain⟨h2,h⟩:=jM h
 obtain⟨h3,h⟩:=jM h
 obtain⟨h4,h⟩:=jM h
 cases h
 rw[vA hE]at hD
 exact⟨hD,⟨i,z,hi,hz,Nat.eq_of_beq_eq_true h1,rfl,Nat.eq_of_beq_eq_true h2,h3⟩,Nat.le_of_ble_eq_true h4⟩
def isArr:Option (SC tb)->Bool
 |some (.arr _ _)=>true
 |_=>false
def qIxA (cx:Ctx P tb)(L:SLS tb)(G:Gd)(t:Nat)(y z:Operand)(k:SV tb->List Nat->Option ρ):Option ρ:=
 got (opd L G y) fun a=>got (opd L G z) fun b=>got (asI b) fun q=>got (P.underlying t) fun D=>match ui D with
 |some E'=>got (tSz P E') fun n=>(match a with
  | .sl _ E l=>tst (Nat.beq n (tb.sz E)) <|chk G (0<=q.2/\q.2<l.length) (Let (ixd (cx.cd E).inh l q.2) fun x=>k (.cp ((cx.cd E).cs x)) [])
  | .row id E off len _=>tst (Nat.beq n (tb.sz E)) <|chk G (0<=q.2/\q.2<len) (k (.epr id E ((off:Int)+q.2) 0) [])
  | .rw id E=>(match KO L id E with
    |some l=>tst (Nat.beq n (tb.sz E)) <|chk G (0<=q.2/\q.2<l.length) (k (.epr id E q.2 0) [id])
    |none=>match b with
     | .con _=>got (Vl L id) fun l=>tst (Nat.beq n (tb.sz E)) <|tst (Nat.beq n 1) <|tst (PA l) <|tst (decide (0<=q.2/\q.2<l.length)) (k (.ptr id q.2.toNat) [id])
     |_=>none)
  |_=>none)
 |none=>got (jbs D) fun p=>got (tSz P p.2) fun n=>(match a with
  | .ptr id off=>(match b,isArr (find id L.h)with
    | .con _,false=>tst (decide (0<=q.2/\q.2<p.1)) (k (.ptr id (off+q.2.toNat*n)) [])
    |_,_=>match find id L.h with
     |some (.arr E _)=>tst (Nat.beq n (tb.sz E)) <|tst (Nat.beq off 0) <|chk G (0<=q.2/\q.2<p.1) (k (.epr id E q.2 0) [])
     |some (.cells _)=>got (tb.look p.2) fun E=>tst (Nat.beq n (tb.sz E)) <|chk G (0<=q.2/\q.2<p.1) (k (.epr id E q.2 off) [])
     |_=>none)
  | .cp l=>(match b with
    | .con _=>tst (decide (0<=q.2/\q.2<p.1)) (k (.cp ((l.drop (q.2.toNat*n)).take n)) [])
    |_=>got (jgp l) fun K=>tst (Nat.beq n 1) <|tst (Nat.ble p.1 (vC K l).length) <|chk G (0<=q.2/\q.2<p.1) (Let (ixd 0 (vC K l) q.2) fun x=>k (.cp [.i K x]) []))
  |_=>none)
theorem jko {L:SLS tb}{G o t y z}{k:SV tb->List Nat->Option ρ}{r}(ho:o.op=.indexAddr t y z)(h:qIxA cx L G t y z k=some r):QOk P L G o k r:=by
 unfold qIxA at h
 obtain⟨a,ha,h⟩:=jd h
 obtain⟨b,hb,h⟩:=jd h
 obtain⟨q,hq,h⟩:=jd h
 obtain⟨D,hD,h⟩:=jd h
 have hy:=fun u=>Jl (L:=L) (G:=G) u ha
 have hz:=fun u=>Jl (L:=L) (G:=G) u hb
 rw[vb hq]at hz
 split at h
 ·rename_i E' hE
  rw[vA hE]at hD
  obtain⟨n,hn,h⟩:=jd h
  split at h
  ·rename_i c E l _ _ _ _
   obtain⟨h1,h⟩:=jM h
   rw[Nat.eq_of_beq_eq_true h1]at hn
   obtain⟨hc,h⟩:=kR h
   refine⟨_,[],h,fun u=>?_⟩
   have hc:=hc u.on
   have:=QEx.indexAddr (x:=tb.el E (ixd (cx.cd E).inh l q.2)) ho hD hn (cx.ok E).pos (hy u) (hz u) hc.1 (by rw[List.getElem?_map,jcz hc];rfl)
   simp only[SV.av];rw[(cx.ok E).cs];exact this
  ·rename_i id E off len mc _ _ _ _
   obtain⟨h1,h⟩:=jM h
   rw[Nat.eq_of_beq_eq_true h1]at hn
   obtain⟨hc,h⟩:=kR h
   refine⟨_,[],h,fun u=>?_⟩
   have hc:=hc u.on
   have:=QEx.jgE (need:=[]) ho hD hn ((hy u).r (by simp[ho,Op.operands])) (hz u) hc.1 hc.2
   simp only[SV.av]
   rw[show((off:Int)+q.2).toNat*tb.sz E+0=off*tb.sz E+q.2.toNat*tb.sz E by rw[<-Nat.add_mul,Nat.add_zero];congr 1;omega]
   exact this
  ·rename_i id E _ _ _ _
   split at h
   ·rename_i l hl
    have hl:=zB hl
    obtain⟨h1,h⟩:=jM h
    rw[Nat.eq_of_beq_eq_true h1]at hn
    obtain⟨hc,h⟩:=kR h
    refine⟨_,_,h,fun u=>?_⟩
    have hc:=hc u.on
    rw[yY hl]
    have:=QEx.jgE ho hD hn (ROk.rw (xs:=l.map (tb.el E)) (hy u) (by simp[ho,Op.operands]) (show _∈[(id,elC tb E l)]from List.mem_singleton.2 rfl) (qc cx.ok) (cx.ok E).pos) (hz u) hc.1 (by rw[List.length_map];exact hc.2)
    rw[Nat.zero_add]at this
    exact this
   ·split at h
    ·obtain⟨l,hl,h⟩:=jd h
     have hl:=vG hl
     obtain⟨h1,h⟩:=jM h
     obtain⟨h2,h⟩:=jM h
     obtain⟨h3,h⟩:=jM h
     obtain⟨h4,h⟩:=jM h
     have h1:=Nat.eq_of_beq_eq_true h1
     have h2:=Nat.eq_of_beq_eq_true h2
     have h4:=of_decide_eq_true h4
     obtain⟨g1,g2⟩:=Ui h3
     refine⟨_,_,h,fun u=>?_⟩
     rw[yY hl]
     have hyu:=hy u
     simp only[SV.av]at hyu
     rw[<-h1,h2]at hyu
     rw[h2]at hn
     have:=QEx.jgE ho hD hn (ROk.rw (xs:=avL l) hyu (by simp[ho,Op.operands]) (show _∈[(id,avL l)]from by rw[g1];exact List.mem_singleton.2 rfl) g2 (by decide)) (hz u) h4.1 (by rw[yI];exact h4.2)
     rw[Nat.zero_add,Nat.mul_one]at this
     exact this
    ·cases h
  ·cases h
 ·obtain⟨p,hp,h⟩:=jd h
  rw[xD hp]at hD
  obtain⟨n,hn,h⟩:=jd h
  split at h
  ·rename_i id off _ _ _ _
   split at h
   ·obtain⟨h1,h⟩:=jM h
    have h1:=of_decide_eq_true h1
    exact⟨_,[],h,fun u=>QEx.jgF ho hD hn (hy u) (hz u) h1.1 h1.2⟩
   ·split at h
    ·rename_i E l hf
     obtain⟨h1,h⟩:=jM h
     obtain⟨h2,h⟩:=jM h
     obtain⟨hc,h⟩:=kR h
     refine⟨_,[],h,fun u=>?_⟩
     have hc:=hc u.on
     have:=QEx.jgF ho hD hn (hy u) (hz u) hc.1 hc.2
     rw[Nat.eq_of_beq_eq_true h2,Nat.eq_of_beq_eq_true h1,Nat.zero_add]at this
     exact this
    ·obtain⟨E,hE,h⟩:=jd h
     obtain⟨h1,h⟩:=jM h
     obtain⟨hc,h⟩:=kR h
     refine⟨_,[],h,fun u=>?_⟩
     have hc:=hc u.on
     have:=QEx.jgF ho hD hn (hy u) (hz u) hc.1 hc.2
     rw[Nat.eq_of_beq_eq_true h1,Nat.add_comm]at this
     exact this
    ·cases h
  ·rename_i l _ _ _ _ _
   split at h
   ·obtain⟨h1,h⟩:=jM h
    have h1:=of_decide_eq_true h1
    refine⟨_,[],h,fun u=>?_⟩
    have:=QEx.jjx ho hD hn (hy u) (hz u) h1.1 h1.2
    simp only[SV.av];rw[KZ,va];exact this
   ·obtain⟨K,hK,h⟩:=jd h
    obtain⟨h1,h⟩:=jM h
    obtain⟨h2,h⟩:=jM h
    obtain⟨hc,h⟩:=kR h
    have h:=(show k (.cp [.i K (ixd 0 (vC K l) q.2)]) []=some r from h)
    refine⟨_,[],h,fun u=>?_⟩
    have hc:=hc u.on
    have h2:=Nat.le_of_ble_eq_true h2
    have:=QEx.jjx ho hD hn (hy u) (hz u) hc.1 hc.2
    obtain⟨x,hx,hxa⟩:=UA (K:=K) (l:=l) (i:=q.2.toNat) (by omega)
    rw[Nat.eq_of_beq_eq_true h1,Nat.mul_one]at this
    have e1:((avL l).drop q.2.toNat).take 1=[x.av]:=by
     have hlt:q.2.toNat<(avL l).length:=by
      rw[yI]
      rcases Nat.lt_or_ge q.2.toNat l.length with h|h
      ·exact h
      ·rw[List.getElem?_eq_none h]at hx;cases hx
     have:=wK hx
     rw[List.getElem?_eq_getElem hlt]at this
     rw[List.drop_eq_getElem_cons hlt]
     simp only[List.take_succ_cons,List.take_zero]
     rw[Option.some.inj this]
    rw[e1,hxa]at this
    exact this
  ·cases h
end
end
section
open Go.RowKit
variable [GlC]
section
variable {P:Program} {tb:Tb} {ρ:Type} {cx:Ctx P tb}
def lenS (l:List (SV tb)):Nat:=l.length
theorem jhF {α:Type}{a:α}:a∈[a]:=List.mem_singleton.2 rfl
def jkn (cx:Ctx P tb)(L:SLS tb)(G:Gd)(y:Operand)(t:Nat)(k:SV tb->List Nat->Option ρ):Option ρ:=
 got (opd L G y) fun a=>match a with
 | .rw id E=>got (P.underlying t) fun D=>got (ui D) fun _=>(match KO L id E with
   |some l=>Let (l.length:Int) fun n=>k (.i .i64 n) [id]
   |none=>got (Vl L id) fun l=>tst (Nat.beq (tb.sz E) 1) <|tst (PA l) <|k (.con (.int .i64 (lenS l))) [id])
 |_=>qLen P L G y t k
theorem jh6 {L:SLS tb}{G o y t}{k:SV tb->List Nat->Option ρ}{r}(ho:o.op=.call {callee:=.builtin .len,args:=#[y],argTypes:=#[t]})(h:jkn cx L G y t k=some r):QOk P L G o k r:=by
 unfold jkn at h
 obtain⟨a,ha,h2⟩:=jd h
 have hy:=fun u=>Jl (L:=L) (G:=G) u ha
 clear h
 cases a with
 |rw id E=>
  obtain⟨D,hD,h⟩:=jd h2;clear h2
  obtain⟨E',hE,h⟩:=jd h
  rw[vA hE]at hD
  split at h
  ·rename_i l hl
   have hl:=zB hl
   refine⟨_,_,h,fun u=>?_⟩
   rw[yY hl]
   have:=QEx.lenR ho hD (ROk.rw (xs:=l.map (tb.el E)) (hy u) (by simp[ho,Op.operands,Call.operands]) (show _∈[(id,elC tb E l)]from jhF) (qc cx.ok) (cx.ok E).pos)
   rw[List.length_map]at this
   exact this
  ·obtain⟨l,hl,h⟩:=jd h
   have hl:=vG hl
   obtain⟨h1,h⟩:=jM h
   obtain⟨h2,h⟩:=jM h
   obtain⟨g1,g2⟩:=Ui h2
   refine⟨_,_,h,fun u=>?_⟩
   rw[yY hl]
   have hyu:=hy u
   simp only[SV.av]at hyu
   rw[Nat.eq_of_beq_eq_true h1]at hyu
   have:=QEx.lenR ho hD (ROk.rw (xs:=avL l) hyu (by simp[ho,Op.operands,Call.operands]) (show _∈[(id,avL l)]from by rw[g1];exact jhF) g2 (by decide))
   rw[yI]at this
   exact this
 |_=>exact jkm ho h2
theorem jjn {L:SLS tb}{G o b x y ts}{k:SV tb->List Nat->Option ρ}{r}(ho:(b=true/\o.op=.call {callee:=.builtin .max,args:=#[x,y],argTypes:=ts})\/(b=false/\o.op=.call {callee:=.builtin .min,args:=#[x,y],argTypes:=ts}))
 (h:qMM L G b x y k=some r):QOk P L G o k r:=by
 unfold qMM at h
 obtain⟨a,ha,h⟩:=jd h
 obtain⟨b,hb,h⟩:=jd h
 obtain⟨p,hp,h⟩:=jd h
 obtain⟨q,hq,h⟩:=jd h
 obtain⟨h1,h⟩:=jM h
 have hx:=fun u=>Jl (L:=L) (G:=G) u ha
 have hy:=fun u=>Jl (L:=L) (G:=G) u hb
 rw[vb hp]at hx
 rw[vb hq,<-of_decide_eq_true h1]at hy
 rcases ho with ⟨rfl,ho⟩|⟨rfl,ho⟩
 ·exact⟨_,[],h,fun u=>QEx.max2 ho (hx u) (hy u)⟩
 ·exact⟨_,[],h,fun u=>QEx.min2 ho (hx u) (hy u)⟩
/-! parts -/
def sub {α:Type}(l:List α)(a b:Int):List α:=(l.drop a.toNat).take (b.toNat - a.toNat)
def qIx (cx:Ctx P tb)(L:SLS tb)(G:Gd)(t:Nat)(y z:Operand)(k:SV tb->List Nat->Option ρ):Option ρ:=
 got (opd L G y) fun a=>got (opd L G z) fun b=>got (asI b) fun q=>got (P.underlying t) fun D=>match Wv D with
 |true=>got (asS a) fun s=>chk G (0<=q.2/\q.2<s.length) (Let (ix s q.2) fun c=>k (.b8 c) [])
 |false=>got (jbs D) fun p=>got (tSz P p.2) fun n=>got (tAg P p.2) fun ag=>tst (!ag) (match a,b with
  | .agg l,.con _=>tst (decide (0<=q.2/\q.2<p.1)) (got (nth l (q.2.toNat*n)) fun x=>k x [])
  | .agg l,_=>(match Nat.ble p.1 (jaD l).length with
    |true=>tst (Nat.beq n 1) <|chk G (0<=q.2/\q.2<p.1) (Let (ixd [] (jaD l) q.2) fun x=>k (.st x) [])
    |false=>got (jgp l) fun K=>tst (Nat.beq n 1) <|tst (Nat.ble p.1 (vC K l).length) <|chk G (0<=q.2/\q.2<p.1) (Let (ixd 0 (vC K l) q.2) fun x=>k (.i K x) []))
  |_,_=>none)
theorem qIx_ok {L:SLS tb}{G o t y z}{k:SV tb->List Nat->Option ρ}{r}(ho:o.op=.index t y z)(h:qIx cx L G t y z k=some r):QOk P L G o k r:=by
 unfold qIx at h
 obtain⟨a,ha,h⟩:=jd h
 obtain⟨b,hb,h⟩:=jd h
 obtain⟨q,hq,h⟩:=jd h
 obtain⟨D,hD,h⟩:=jd h
 have hy:=fun u=>Jl (L:=L) (G:=G) u ha
 have hz:=fun u=>Jl (L:=L) (G:=G) u hb
 rw[vb hq]at hz
 split at h
 ·rename_i hs
  rw[KV hs]at hD
  obtain⟨s,hs2,h⟩:=jd h
  obtain⟨hc,h⟩:=kR h
  rw[jai hs2]at hy
  exact⟨_,[],h,fun u=>QEx.idxS ho hD (hy u) (hz u) (hc u.on)⟩
 ·obtain⟨p,hp,h⟩:=jd h
  obtain⟨n,hn,h⟩:=jd h
  obtain⟨ag,hag,h⟩:=jd h
  obtain⟨h1,h5⟩:=jM h
  rw[xD hp]at hD
  have:ag=false:=by cases ag <;> simp_all
  rw[this]at hag
  clear h
  split at h5
  ·obtain⟨h2,h3⟩:=jM h5
   obtain⟨x,hx,h4⟩:=jd h3
   rw[jep]at hx
   exact⟨_,[],h4,fun u=>QEx.idxA ho hD hn hag (hy u) (hz u) (of_decide_eq_true h2) (wK hx)⟩
  ·rename_i l _ _ _ _ _ _
   split at h5
   ·rename_i hb
    obtain⟨h1,h⟩:=jM h5
    obtain⟨hc,h⟩:=kR h
    have h:=(show k (.st (ixd [] (jaD l) q.2)) []=some r from h)
    refine⟨_,[],h,fun u=>?_⟩
    have hc:=hc u.on
    have h2:=Nat.le_of_ble_eq_true hb
    obtain⟨x,hx,hxa⟩:=jaC (l:=l) (i:=q.2.toNat) (by omega)
    have hx':l[q.2.toNat*n]? = some x:=by rw[Nat.eq_of_beq_eq_true h1,Nat.mul_one];exact hx
    have:=QEx.idxA ho hD hn hag (hy u) (hz u) hc (wK hx')
    rw[hxa]at this
    exact this
   obtain⟨K,hK,h⟩:=jd h5
   obtain⟨h1,h⟩:=jM h
   obtain⟨h2,h⟩:=jM h
   obtain⟨hc,h⟩:=kR h
   have h:=(show k (.i K (ixd 0 (vC K l) q.2)) []=some r from h)
   refine⟨_,[],h,fun u=>?_⟩
   have hc:=hc u.on
   have h2:=Nat.le_of_ble_eq_true h2
   obtain⟨x,hx,hxa⟩:=UA (K:=K) (l:=l) (i:=q.2.toNat) (by omega)
   have hx':l[q.2.toNat*n]? = some x:=by rw[Nat.eq_of_beq_eq_true h1,Nat.mul_one];exact hx
   have:=QEx.idxA ho hD hn hag (hy u) (hz u) hc (wK hx')
   rw[hxa]at this
   exact this
  ·cases h5
def jfR (P:Program)(L:SLS tb)(G:Gd)(t:Nat)(y:Operand)(f:Nat)(k:SV tb->List Nat->Option ρ):Option ρ:=
 got (opd L G y) fun a=>got (fieldAt P t f) fun p=>got (tAg P p.1.type) fun ag=>match a with
 | .agg l=>(match ag with
   |true=>k (.agg ((l.drop p.1.offset).take p.2)) []
   |false=>got (nth l p.1.offset) fun x=>k x [])
 |_=>none
theorem jfQ {L:SLS tb}{G o t y f}{k:SV tb->List Nat->Option ρ}{r}(ho:o.op=.field t y f)(h:jfR P L G t y f k=some r):QOk P L G o k r:=by
 unfold jfR at h
 obtain⟨a,ha,h⟩:=jd h
 obtain⟨p,hp,h⟩:=jd h
 obtain⟨ag,hag,h⟩:=jd h
 obtain⟨fs,h1,h2,h3,h4⟩:=jbB hp
 have hy:=fun u=>Jl (L:=L) (G:=G) u ha
 split at h
 ·split at h
  ·refine⟨_,[],h,fun u=>QEx.field ho h1 h2 h3 hag (hy u) (.inl ⟨rfl,?_⟩)⟩
   simp only[SV.av];rw[KZ,va]
  ·obtain⟨x,hx,h⟩:=jd h
   rw[jep]at hx
   exact⟨_,[],h,fun u=>QEx.field ho h1 h2 h3 hag (hy u) (.inr ⟨rfl,wK hx⟩)⟩
 ·cases h
/-! slices -/
def nOr (q:Option Int)(d:Nat):Nat:=match q with|none=>d|some n=>n.toNat
def optI (L:SLS tb)(G:Gd):Option Operand->Option (Option Int)
 |none=>some none
 |some y=>got (opd L G y) fun a=>match asI a with
  |some p=>some (some p.2)
  |none=>got (asC a) fun c=>some (some (c.toNat:Int))
theorem Vi {L:SLS tb}{G y q d}(u:Gu L G)(h:optI L G y=some q)(h0:0<=q.getD 0):vJ L.E y d (nOr q d):=by
 cases y with
 |none=>cases h;exact .none
 |some y=>
  obtain⟨a,ha,h⟩:=jd (h:got (opd L G y) _=_)
  have hy:=Jl u ha
  split at h
  ·rename_i p hp
   cases h
   rw[vb hp]at hy
   exact .some hy h0
  ·obtain⟨c,hc,h⟩:=jd h
   cases h
   rw[jiU hc]at hy
   exact .some (k:=.u8) hy h0
def cutB {α:Type}(G:Gd)(l:List α)(lo hi:Option Int)(k:List α->Option ρ):Option ρ:=match lo,hi with
 |none,none=>k l
 |some a,none=>chk G (0<=a/\a<=l.length) (Let (l.drop a.toNat) k)
 |none,some b=>chk G (0<=b/\b<=l.length) (Let (l.take b.toNat) k)
 |some a,some b=>chk G (0<=a/\a<=b/\b<=l.length) (Let (sub l a b) k)
theorem jjN {α:Type}{G:Gd}{l:List α}{lo hi:Option Int}{k:List α->Option ρ}{r:ρ}(h:cutB G l lo hi k=some r):∃x,k x=some r/\(gc G=true->0<=lo.getD 0/\0<=hi.getD 0/\
 nOr lo 0<=nOr hi l.length/\nOr hi l.length<=l.length/\
 x=(l.drop (nOr lo 0)).take (nOr hi l.length - nOr lo 0)):=by
 unfold cutB at h
 split at h
 ·exact⟨_,h,fun _=>by simp[nOr]⟩
 ·obtain⟨hc,h⟩:=kR h
  refine⟨_,h,fun u=>?_⟩
  obtain⟨h1,h2⟩:=hc u
  refine⟨h1,by simp,by simp only[nOr];omega,Nat.le_refl _,?_⟩
  simp only[nOr];rw[List.take_of_length_le (by simp)]
 ·obtain⟨hc,h⟩:=kR h
  refine⟨_,h,fun u=>?_⟩
  obtain⟨h1,h2⟩:=hc u
  exact⟨by simp,h1,by simp only[nOr];omega,by simp only[nOr];omega,by simp[nOr]⟩
 ·obtain⟨hc,h⟩:=kR h
  refine⟨_,h,fun u=>?_⟩
  obtain⟨h1,h2,h3⟩:=hc u
  exact⟨h1,by simp only[Option.getD_some];omega,by simp only[nOr];omega,by simp only[nOr];omega,rfl⟩
def jfP (cx:Ctx P tb)(L:SLS tb)(G:Gd)(t:Nat)(y:Operand)(lo hi:Option Operand)(k:SV tb->List Nat->Option ρ):Option ρ:=
 got (opd L G y) fun a=>got (optI L G lo) fun p=>got (optI L G hi) fun q=>got (P.underlying t) fun D=>match Wv D with
 |true=>got (asS a) fun s=>cutB G s p q fun x=>k (.st x) []
 |false=>match a with
  | .sl _ E l=>got (XL P t (tb.sz E)) fun _=>cutB G l p q fun x=>k (.sl false E x) []
  | .row id E off len mc=>got (XL P t (tb.sz E)) fun _=>chk G (0<=p.getD 0/\0<=q.getD 0/\nOr p 0<=nOr q len/\nOr q len<=mc/\len<=mc) (k (.row id E (off+nOr p 0) (nOr q len - nOr p 0) (mc - nOr p 0)) [])
  | .rw id E=>got (XL P t (tb.sz E)) fun _=>got (KO L id E) fun l=>chk G (0<=p.getD 0/\0<=q.getD 0/\nOr p 0<=nOr q l.length/\nOr q l.length<=l.length) (k (.row id E (nOr p 0) (nOr q l.length - nOr p 0) (l.length - nOr p 0)) [id])
  | .ptr id off=>got (jbs D) fun ar=>got (tSz P ar.2) fun n=>(match find id L.h with
    |some (.arr E _)=>got (KO L id E) fun l=>tst (Nat.beq off 0) <|tst (Nat.beq n (tb.sz E)) <|chk G (0<=p.getD 0/\0<=q.getD 0/\nOr p 0<=nOr q ar.1/\nOr q ar.1<=ar.1/\ar.1<=l.length) (k (.row id E (nOr p 0) (nOr q ar.1 - nOr p 0) (ar.1 - nOr p 0)) [id])
    |_=>none)
  |_=>none
theorem jfO {L:SLS tb}{G o t y lo hi}{k:SV tb->List Nat->Option ρ}{r}(ho:o.op=.slice t y lo hi none)(h:jfP cx L G t y lo hi k=some r):QOk P L G o k r:=by
 unfold jfP at h
 obtain⟨a,ha,h2⟩:=jd h
 clear h
 obtain⟨p,hp,h⟩:=jd h2;clear h2
 obtain⟨q,hq,h2⟩:=jd h;clear h
 obtain⟨D,hD,h⟩:=jd h2;clear h2
 have hy:=fun u=>Jl (L:=L) (G:=G) u ha
 split at h
 ·rename_i hs
  rw[KV hs]at hD
  obtain⟨s,hs2,h⟩:=jd h
  rw[jai hs2]at hy
  obtain⟨x,h,hc⟩:=jjN h
  refine⟨_,[],h,fun u=>?_⟩
  obtain⟨h1,h2,h3,h4,rfl⟩:=hc u.on
  exact QEx.slStr ho hD (hy u) (Vi u hp h1) (Vi u hq h2) ⟨h3,h4⟩
 ·cases a with
  |sl c E l=>
   obtain⟨ET,hE,h⟩:=jd h
   obtain⟨x,h,hc⟩:=jjN h
   refine⟨_,[],h,fun u=>?_⟩
   obtain⟨h1,h2,h3,h4,rfl⟩:=hc u.on
   have:=QEx.slice ho (Vk hE) (hy u) (Vi u hp h1) (Vi (d:=(l.map (tb.el E)).length) u hq h2) (by simpa using h3) (by simpa using h4)
   simp only[SV.av,List.map_take,List.map_drop]
   rw[List.length_map]at this;exact this
  |row id E off len mc=>
   obtain⟨ET,hE,h⟩:=jd h
   obtain⟨hc,h⟩:=kR h
   refine⟨_,[],h,fun u=>?_⟩
   obtain⟨h1,h2,h3,h4,h5⟩:=hc u.on
   have:=QEx.jjh (need:=[]) ho (Vk hE) ((hy u).r (by simp[ho,Op.operands])) (Vi u hp h1) (Vi (d:=len) u hq h2) h3 h4 (fun _=>h5)
   simp only[SV.av]
   rw[Nat.add_mul];exact this
  |rw id E=>
   obtain⟨ET,hE,h⟩:=jd h
   obtain⟨l,hl,h⟩:=jd h
   have hl:=zB hl
   obtain⟨hc,h⟩:=kR h
   refine⟨_,_,h,fun u=>?_⟩
   obtain⟨h1,h2,h3,h4⟩:=hc u.on
   rw[yY hl]
   have:=QEx.jjh ho (Vk hE) (ROk.rw (xs:=l.map (tb.el E)) (hy u) (by simp[ho,Op.operands]) (show _∈[(id,elC tb E l)]from jhF) (qc cx.ok) (cx.ok E).pos)
    (Vi u hp h1) (Vi (d:=(l.map (tb.el E)).length) u hq h2) (by simpa using h3) (by simpa using h4) (fun _=>Nat.le_refl _)
   rw[List.length_map,Nat.zero_add]at this
   exact this
  |ptr id off=>
   obtain⟨ar,har,h⟩:=jd h
   rw[xD har]at hD
   obtain⟨n,hn,h⟩:=jd h
   split at h
   ·obtain⟨l,hl,h⟩:=jd h
    have hl:=zB hl
    obtain⟨h0,h⟩:=jM h
    obtain⟨h1,h⟩:=jM h
    have h0:=Nat.eq_of_beq_eq_true h0
    rw[Nat.eq_of_beq_eq_true h1]at hn
    obtain⟨hc,h⟩:=kR h
    refine⟨_,_,h,fun u=>?_⟩
    obtain⟨h1,h2,h3,h4,h5⟩:=hc u.on
    rw[yY hl]
    have:=QEx.sliceA (l:=elC tb _ l) ho hD hn (hy u) (Vi u hp h1) (Vi (d:=ar.1) u hq h2) h3 h4 (by rw[vj cx,h0,Nat.zero_add];exact Nat.mul_le_mul_right _ h5)
    rw[h0,Nat.zero_add]at this
    exact this
   ·cases h
  |_=>cases h
def jce (P:Program)(L:SLS tb)(G:Gd)(t:Nat)(y hi mx:Operand)(k:SV tb->List Nat->Option ρ):Option ρ:=
 got (opd L G y) fun a=>got (opd L G hi) fun b=>got (asI b) fun p=>got (opd L G mx) fun c=>got (asI c) fun q=>match a with
 | .sl _ E l=>got (XL P t (tb.sz E)) fun _=>chk G (0<=p.2/\p.2<=l.length/\q.2=p.2) (Let (l.take p.2.toNat) fun x=>k (.sl true E x) [])
 |_=>none
theorem QEx.capT {o:Oper}{e:Env}{y t sz l}(ho:o.op=.call {callee:=.builtin .cap,args:=#[y],argTypes:=#[t]})(ht:∃E,P.underlying t=some (.slice E))(hy:jK e y (.sl true sz l)):
 QEx P o e [] (.v (.int .i64 l.length)):=
 .pure fun _ _ _ _ _ ac w _ _ hr=>by
  have h1:=hy.rep hr (by simp[ho,Op.operands,Call.operands])
  obtain⟨E,hE⟩:=ht
  refine⟨_,?_,.v⟩
  obtain⟨ad,n,cap,cs,hv,h2,-,-,-,-,-,h3,-⟩:=VW h1
  have h3:=h3 rfl
  subst h3
  rw[<-h2]
  simp[execOp,ho,hv,resolve,invoke,builtin,Builtin.cap_,underlying,hE,goInt]
def qCap (P:Program)(L:SLS tb)(G:Gd)(y:Operand)(t:Nat)(k:SV tb->List Nat->Option ρ):Option ρ:=
 got (opd L G y) fun a=>got (P.underlying t) fun D=>got (ui D) fun _=>match isNil a with
 |true=>k (.i .i64 0) []
 |false=>match a with
  | .em _=>k (.i .i64 0) []
  | .sl true _ l=>Let (l.length:Int) fun n=>k (.i .i64 n) []
  |_=>none
theorem jkr {L:SLS tb}{G o y t}{k:SV tb->List Nat->Option ρ}{r}(ho:o.op=.call {callee:=.builtin .cap,args:=#[y],argTypes:=#[t]})(h:qCap P L G y t k=some r):QOk P L G o k r:=by
 unfold qCap at h
 obtain⟨a,ha,h⟩:=jd h
 obtain⟨D,hD,h⟩:=jd h
 obtain⟨E,hE,h⟩:=jd h
 rw[vA hE]at hD
 have hy:=fun u=>Jl (L:=L) (G:=G) u ha
 split at h
 ·rename_i hn
  refine⟨_,[],h,fun u=>?_⟩
  have h1:jK L.E y (.sl true 1 []):=(hy u).sub (by rw[Pe hn];exact .nil)
  exact QEx.capT ho ⟨_,hD⟩ h1
 ·split at h
  ·exact⟨_,[],h,fun u=>QEx.capT ho ⟨_,hD⟩ (hy u)⟩
  ·refine⟨_,[],h,fun u=>?_⟩
   have:=QEx.capT ho ⟨_,hD⟩ (hy u)
   rw[List.length_map]at this
   exact this
  ·cases h
end
end
section
open Go.RowKit
variable [GlC]
section
variable {P:Program} {tb:Tb} {ρ:Type} {cx:Ctx P tb}
def kT:SV tb->List (SV tb)
 | .agg l=>l
 |x=>[x]
theorem jg6 (x:SV tb)(h:∀G y,x≠.opt G y):avL (kT x)=x.av.cells:=by cases x <;> first|rfl|exact absurd rfl (h _ _)
def pC:SV tb->Bool
 | .agg _=>true
 | .i _ _=>true
 | .b8 _=>true
 | .bo _=>true
 | .st _=>true
 | .con v=>jL v
 | .sl _ _ _=>true
 | .em _=>true
 | .cp _=>true
 | .fn _ _=>true
 | .cl _ _ _ _ _ _=>true
 | .ptr _ _=>true
 | .epr _ _ _ _=>true
 | .row _ _ _ _ _=>true
 | .rw _ _=>true
 | .ifc _ _=>true
 |_=>false
theorem Mm {x:SV tb}(h:pC x=true):x.av.wX=true/\avL (kT x)=x.av.cells:=by
 refine⟨?_,jg6 x ?_⟩
 ·cases x <;> first|rfl|(simp[pC]at h;done)|exact h
 ·rintro G y rfl;simp[pC]at h
/-! structs -/
def jcF (L:SLS tb)(G:Gd)(pl:Nat->Option (Nat × Nat)):List (Nat × Operand)->List (SV tb)->Option (List (SV tb))
 | [],Z=>some Z
 |(i,y)::r,Z=>got (pl i) fun p=>got (opd L G y) fun x=>tst (pC x) <|tst (Nat.beq (kT x).length p.2) <|tst (Nat.ble (p.1+p.2) Z.length) <|jcF L G pl r (Z.take p.1++kT x++Z.drop (p.1+p.2))
theorem UE {L:SLS tb}{G pl}(u:Gu L G):∀{ps:List (Nat × Operand)} {Z Z'},jcF L G pl ps Z=some Z'->uA L.E pl ps (avL Z) (avL Z')
 | [],_,_,h=>by cases h;exact .nil
 |(i,y)::r,Z,Z',h=>by
  unfold jcF at h
  obtain⟨p,hp,h⟩:=jd h
  obtain⟨x,hx,h⟩:=jd h
  obtain⟨h1,h⟩:=jM h
  obtain⟨h2,h⟩:=jM h
  obtain⟨h3,h⟩:=jM h
  obtain⟨g1,g2⟩:=Mm h1
  refine .cons (off:=p.1) (sz:=p.2) hp (Jl u hx) g1 (by rw[<-g2,yI];exact Nat.eq_of_beq_eq_true h2) (by rw[yI];exact Nat.le_of_ble_eq_true h3) ?_
  have:=UE u h
  rwa [Ya,Ya,KZ,va,g2]at this
theorem Zs.con:∀zs:List Value,Zs (avL (tb:=tb) (zs.map SV.con)) zs
 | []=>.nil
 |z::zs=>.v (Zs.con zs)
def jd2 (P:Program)(t:Nat):Option (List (SV tb)):=got (jb4 P t) fun zs=>tst (zs.all jL) (some (zs.map SV.con))
theorem UT {t Z}(h:jd2 (tb:=tb) P t=some Z):jc0 P t (avL Z):=by
 obtain⟨zs,hz,h⟩:=jd h
 obtain⟨h1,h⟩:=jM h
 cases h
 exact⟨zs,hz,Zs.con zs,h1⟩
def jfX (P:Program)(L:SLS tb)(G:Gd)(t:Nat)(ps:Array (Nat × Operand))(k:SV tb->List Nat->Option ρ):Option ρ:=
 got (P.underlying t) fun D=>got (jd2 P t) fun Z=>match jiv D with
 |some fs=>tst (fs.toList.all fun f=>(tSz P f.type).isSome) <|got (jcF L G (uT P fs) ps.toList Z) fun Z'=>k (.agg Z') []
 |none=>got (jbs D) fun p=>got (tSz P p.2) fun sz=>got (jcF L G (fun i=>some (i*sz,sz)) ps.toList Z) fun Z'=>k (.agg Z') []
theorem jfW {L:SLS tb}{G o t ps}{k:SV tb->List Nat->Option ρ}{r}(ho:o.op=.build t ps)(h:jfX P L G t ps k=some r):QOk P L G o k r:=by
 unfold jfX at h
 obtain⟨D,hD,h⟩:=jd h
 obtain⟨Z,hZ,h⟩:=jd h
 have hZ:=UT hZ
 split at h
 ·rename_i fs hfs
  rw[jgz hfs]at hD
  obtain⟨h1,h⟩:=jM h
  obtain⟨Z',hZ',h⟩:=jd h
  exact⟨_,[],h,fun u=>QEx.buildZ ho hD hZ h1 (UE u hZ')⟩
 ·obtain⟨p,hp,h⟩:=jd h
  rw[xD hp]at hD
  obtain⟨sz,hsz,h⟩:=jd h
  obtain⟨Z',hZ',h⟩:=jd h
  exact⟨_,[],h,fun u=>QEx.buildA ho hD hsz hZ (UE u hZ')⟩
def jdI (cx:Ctx P tb)(L:SLS tb)(G:Gd)(E:tb.Ix):Nat->List (Nat × Operand)->Option (List (tb.T E))
 |_,[]=>some []
 |i,(j,y)::r=>tst (Nat.beq j i) <|got (opd L G y) fun x=>got ((cx.cd E).of x) fun v=>got (jdI cx L G E (i+1) r) fun l=>some (v::l)
theorem jbG {L:SLS tb}{G E}(u:Gu L G):∀{ps:List (Nat × Operand)} {i l},jdI cx L G E i ps=some l->vI L.E (tb.sz E) i ps (l.map (tb.el E))
 | [],_,_,h=>by cases h;exact .nil
 |(j,y)::r,i,l,h=>by
  unfold jdI at h
  obtain⟨h1,h⟩:=jM h
  obtain⟨x,hx,h⟩:=jd h
  obtain⟨v,hv,h⟩:=jd h
  obtain⟨l',hl',h⟩:=jd h
  cases h
  obtain rfl:=Nat.eq_of_beq_eq_true h1
  exact .cons ((Jl u hx).sub ((cx.ok E).of _ _ hv)) ((cx.ok E).wX v) ((cx.ok E).len v) ((cx.ok E).bare v).1 (jbG u hl')
def jcg (cx:Ctx P tb)(L:SLS tb)(G:Gd)(t n:Nat)(ps:Array (Nat × Operand))(k:SV tb->List Nat->Option ρ):Option ρ:=
 got (P.underlying t) fun D=>got (ui D) fun E'=>got (tb.look E') fun E=>got (XL P t (tb.sz E)) fun _=>got (jdI cx L G E 0 ps.toList) fun l=>tst (Nat.beq l.length n) <|tst (Nat.ble (n*tb.sz E) (2 ^ 24)) <|match n with|0=>k (.em E) [] |_+1=>k (.sl true E l) []
theorem jel {L:SLS tb}{G o t n ps}{k:SV tb->List Nat->Option ρ}{r}(ho:o.op=.buildSlice t n ps)(h:jcg cx L G t n ps k=some r):QOk P L G o k r:=by
 unfold jcg at h
 obtain⟨D,hD,h⟩:=jd h
 obtain⟨E',hE',h⟩:=jd h
 obtain⟨E,hE,h⟩:=jd h
 obtain⟨p,hp,h⟩:=jd h
 obtain⟨l,hl,h⟩:=jd h
 obtain⟨h1,h⟩:=jM h
 obtain⟨h2,h⟩:=jM h
 have key:=fun u=>QEx.buildSlice ho (Vk hp) (jbG u hl) (by rw[List.length_map];exact Nat.eq_of_beq_eq_true h1) (Nat.le_of_ble_eq_true h2)
 have hl0:=Nat.eq_of_beq_eq_true h1
 cases n with
 |zero=>
  have:l=[]:=List.eq_nil_of_length_eq_zero hl0
  subst this
  exact⟨_,[],h,key⟩
 |succ n=>exact⟨_,[],h,key⟩
def mh (L:SLS tb)(G:Gd):List Operand->Option (List (SV tb))
 | []=>some []
 |y::r=>got (opd L G y) fun x=>got (mh L G r) fun l=>some (x::l)
theorem vS {L:SLS tb}{G}(u:Gu L G):∀{ys:List Operand} {l},mh L G ys=some l->uz L.E ys (avL l)
 | [],_,h=>by cases h;exact .nil
 |y::r,l,h=>by
  unfold mh at h
  obtain⟨x,hx,h⟩:=jd h
  obtain⟨l',hl',h⟩:=jd h
  cases h
  exact .cons (Jl u hx) (vS u hl')
def qMkF (L:SLS tb)(G:Gd)(fn:Fn)(fi ca:Array Operand)(k:SV tb->List Nat->Option ρ):Option ρ:=match fn,fi.toList with
 | .func f,[]=>got (mh L G ca.toList) fun l=>k (.fn f l) []
 |_,_=>none
theorem jkk {L:SLS tb}{G o fn fi ca}{k:SV tb->List Nat->Option ρ}{r}(ho:o.op=.makeFunc fn fi ca)(h:qMkF L G fn fi ca k=some r):QOk P L G o k r:=by
 unfold qMkF at h
 split at h
 ·rename_i f hfi
  obtain⟨l,hl,h⟩:=jd h
  exact⟨_,[],h,fun u=>QEx.mkF ho (by cases fi;simpa using hfi) (vS u hl)⟩
 ·cases h
def qNil (L:SLS tb)(G:Gd)(y:Operand)(k:SV tb->List Nat->Option ρ):Option ρ:=got (opd L G y) fun a=>match a with
 | .cp _=>k .undef []
 | .ptr id off=>k (.ptr id off) []
 | .epr id E i fo=>k (.epr id E i fo) []
 |_=>none
theorem jki {L:SLS tb}{G o y}{k:SV tb->List Nat->Option ρ}{r}(ho:o.op=.nilCheck y)(h:qNil L G y k=some r):QOk P L G o k r:=by
 unfold qNil at h
 obtain⟨a,ha,h⟩:=jd h
 have hy:=fun u=>Jl (L:=L) (G:=G) u ha
 split at h
 ·exact⟨_,[],h,fun u=>QEx.nilC ho (hy u)⟩
 ·exact⟨_,[],h,fun u=>QEx.nilP ho (hy u)⟩
 ·exact⟨_,[],h,fun u=>QEx.nilP ho (hy u)⟩
 ·cases h
theorem jej {L:SLS tb}{G o t y hi mx}{k:SV tb->List Nat->Option ρ}{r}(ho:o.op=.slice t y none (some hi) (some mx))(h:jce P L G t y hi mx k=some r):QOk P L G o k r:=by
 unfold jce at h
 obtain⟨a,ha,h⟩:=jd h
 obtain⟨b,hb,h⟩:=jd h
 obtain⟨p,hp,h⟩:=jd h
 obtain⟨c,hc1,h⟩:=jd h
 obtain⟨q,hq,h⟩:=jd h
 have hy:=fun u=>Jl (L:=L) (G:=G) u ha
 have hz:=fun u=>Jl (L:=L) (G:=G) u hb
 have hw:=fun u=>Jl (L:=L) (G:=G) u hc1
 rw[vb hp]at hz
 rw[vb hq]at hw
 split at h
 ·obtain⟨ET,hE,h⟩:=jd h
  obtain⟨hc,h⟩:=kR h
  refine⟨_,[],h,fun u=>?_⟩
  obtain⟨h1,h2,h3⟩:=hc u.on
  rw[h3]at hw
  have:=QEx.slice3 ho (Vk hE) (hy u) (hz u) (hw u) h1 (by rw[List.length_map];exact h2)
  simp only[SV.av,List.map_take];exact this
 ·cases h
def jfT (cx:Ctx P tb)(L:SLS tb)(G:Gd)(s d:Nat)(y:Operand)(k:SV tb->List Nat->Option ρ):Option ρ:=
 got (opd L G y) fun a=>match a with
 | .rw id E=>got (P.underlying d) fun D=>got (P.underlying s) fun S=>tst (Wv D) <|got (ui S) fun E'=>got (P.underlying E') fun ED=>got (Uz ED) fun ke=>tst (jkY ke) <|got (KO L id E) fun l=>got (bytesOf tb E l) fun bs=>k (.st bs) [id]
 | .row id E off len mc=>got (P.underlying d) fun D=>got (P.underlying s) fun S=>tst (Wv D) <|got (ui S) fun E'=>got (P.underlying E') fun ED=>got (Uz ED) fun ke=>tst (jkY ke) <|got (KO L id E) fun l=>chk G (off+len<=l.length) <|got (bytesOf tb E ((l.drop off).take len)) fun bs=>k (.st bs) [id]
 |_=>jkq P L G s d y k
theorem jab {E:tb.Ix}{l:List (tb.T E)}{bs:List UInt8}(h:l.map (tb.el E)=bs.map JD):elC tb E l=bs.map JD:=by
 unfold elC;rw[h,vi]
theorem jfS {L:SLS tb}{G o s d y}{k:SV tb->List Nat->Option ρ}{r}(ho:o.op=.convert s d y)(h:jfT cx L G s d y k=some r):QOk P L G o k r:=by
 unfold jfT at h
 obtain⟨a,ha,h2⟩:=jd h
 have hy:=fun u=>Jl (L:=L) (G:=G) u ha
 clear h
 cases a with
 |rw id E=>
  obtain⟨D,hD,h⟩:=jd h2;clear h2
  obtain⟨S,hS,h⟩:=jd h
  obtain⟨h1,h⟩:=jM h
  obtain⟨E',hE,h⟩:=jd h
  obtain⟨ED,hED,h⟩:=jd h
  obtain⟨ke,hke,h⟩:=jd h
  obtain⟨h3,h⟩:=jM h
  obtain⟨l,hl,h⟩:=jd h
  obtain⟨bs,hbs,h⟩:=jd h
  have hl:=zB hl
  rw[KV h1]at hD
  rw[vA hE]at hS
  rw[WT hke,jbq h3]at hED
  obtain⟨g1,g2⟩:=Pr hbs
  have hlen:l.length=bs.length:=by simpa using congrArg List.length g2
  refine⟨_,_,h,fun u=>?_⟩
  rw[yY hl]
  have hr:=ROk.rw (o:=o) (need:=[(id,elC tb E l)]) (xs:=l.map (tb.el E)) (hy u) (by simp[ho,Op.operands]) (show _∈[(id,elC tb E l)]from jhF) (qc cx.ok) (cx.ok E).pos
  rw[g1]at hr
  refine QEx.jji ho hS hED hD hr jhF ?_ (by rw[List.length_map,hlen])
  rw[jab g2,List.drop_zero,List.length_map,hlen,<-List.length_map (f:=JD),List.take_length]
 |row id E off len mc=>
  obtain⟨D,hD,h⟩:=jd h2;clear h2
  obtain⟨S,hS,h⟩:=jd h
  obtain⟨h1,h⟩:=jM h
  obtain⟨E',hE,h⟩:=jd h
  obtain⟨ED,hED,h⟩:=jd h
  obtain⟨ke,hke,h⟩:=jd h
  obtain⟨h3,h⟩:=jM h
  obtain⟨l,hl,h⟩:=jd h
  obtain⟨hc,h⟩:=kR h
  obtain⟨bs,hbs,h⟩:=jd h
  have hl:=zB hl
  rw[KV h1]at hD
  rw[vA hE]at hS
  rw[WT hke,jbq h3]at hED
  obtain⟨g1,g2⟩:=Pr hbs
  refine⟨_,_,h,fun u=>?_⟩
  have hc:=hc u.on
  rw[yY hl]
  have hr:=(hy u).r (o:=o) (need:=[(id,elC tb E l)]) (by simp[ho,Op.operands])
  simp only[SV.av]at hr
  rw[g1,Nat.mul_one]at hr
  have hlen:bs.length=len:=by
   have:=congrArg List.length g2
   rw[List.length_map,List.length_map,List.length_take,List.length_drop]at this
   omega
  refine QEx.jji ho hS hED hD hr jhF ?_ hlen
  rw[<-g2]
  unfold elC
  have h5:=vD (sz:=1) (l:=l.map (tb.el E)) off (by rw[<-g1];exact qc cx.ok)
  rw[Nat.mul_one]at h5
  rw[h5,<-List.map_drop]
  have h6:=kB (sz:=1) (l:=(l.drop off).map (tb.el E)) len (by rw[<-g1];exact qc cx.ok)
  rw[Nat.mul_one]at h6
  rw[h6,<-List.map_take,g2,vi]
 |_=>exact jh7 ho h2
end
end
section
open Go.RowKit
variable [GlC]
def FzL (id:Nat)(l:List AV)(ys xs:List AV):Prop:=∀m bl m' bl',Frz id l m bl m' bl'->∀vs,JK m bl ys vs->JK m' bl' xs vs
theorem Wa.undef {id l y}:Wa id l y .undef:=fun _ _ _ _ _ _ _=>.undef
theorem FzL.nil {id l}:FzL id l [] []:=fun _ _ _ _ _ vs r=>by cases r;exact .nil
theorem FzL.cons {id l y x ys xs}(h:Wa id l y x)(k:FzL id l ys xs):FzL id l (y::ys) (x::xs):=fun m bl m' bl' f vs r=>by
 cases r with|cons a b=>exact .cons (h _ _ _ _ f _ a) (k _ _ _ _ f _ b)
theorem Wa.agg {id l ys xs}(h:FzL id l ys xs):Wa id l (.agg ys) (.agg xs):=fun m bl m' bl' f v r=>by cases r with|agg a b=>exact .agg (h _ _ _ _ f _ a) b
theorem Wa.tup {id l ys xs}(h:FzL id l ys xs):Wa id l (.tup ys) (.tup xs):=fun m bl m' bl' f v r=>by cases r with|tup a=>exact .tup (h _ _ _ _ f _ a)
theorem Wa.clo {id l g ys xs}(h:FzL id l ys xs):Wa id l (.clo g ys) (.clo g xs):=fun m bl m' bl' f v r=>by cases r with|clo a=>exact .clo (h _ _ _ _ f _ a)
theorem Wa.opt {id l c y x}(h:Wa id l y x):Wa id l (.opt c y) (.opt c x):=fun m bl m' bl' f v r=>by cases r with|opt a b=>exact .opt (fun e=>h _ _ _ _ f _ (a e)) b
theorem Wa.ifc {id l t y x}(h:Wa id l y x):Wa id l (.ifc t y) (.ifc t x):=fun m bl m' bl' f v r=>by cases r with|ifc a=>exact .ifc (h _ _ _ _ f _ a)
theorem Wa.bare {id l y}(h:y.ZD=true):Wa id l y y:=by
 have:=Wa.jf5 (id:=id) (l:=l) y
 rwa [wI h]at this
theorem VL {x:AV}{l:List AV}(h:x.ZD=true)(k:JS l=true):JS (x::l)=true:=by
 show(AV.clean _ x&&qI _ l)=true
 rw[show AV.clean (fun _=>false) x=true from h,show qI (fun _=>false) l=true from k];rfl
theorem JK.split {m:Mem}{bl:Names}:∀{a c:List AV} {vs},JK m bl (a++c) vs->∃v1 v2,vs=v1++v2/\JK m bl a v1/\JK m bl c v2
 | [],c,vs,r=>⟨[],vs,rfl,.nil,r⟩
 |x :: a,c,vs,r=>by
  cases r with
  |cons h t=>
   obtain⟨v1,v2,rfl,h1,h2⟩:=JK.split t
   exact⟨_::v1,v2,rfl,.cons h h1,h2⟩
section
variable {P:Program} {tb:Tb} {ρ:Type} {cx:Ctx P tb}
mutual
theorem Pf {q:Nat->Bool}(hq:∀i,q i=true):∀x:SV tb,x.has q=true
 | .undef=>rfl
 | .i _ _=>rfl
 | .b8 _=>rfl
 | .bo _=>rfl
 | .st _=>rfl
 | .con _=>rfl
 | .agg l=>wq hq l
 | .tup l=>wq hq l
 | .sl _ _ _=>rfl
 | .em _=>rfl
 | .cp _=>rfl
 | .fn _ l=>wq hq l
 | .ptr id _=>hq id
 | .epr id _ _ _=>hq id
 | .row id _ _ _ _=>hq id
 | .rw id _=>hq id
 | .opt _ x=>Pf hq x
 | .cl _ _ _ _ _ _=>rfl
 | .ifc _ x=>Pf hq x
theorem wq {q:Nat->Bool}(hq:∀i,q i=true):∀l:List (SV tb),MX q l=true
 | []=>rfl
 |x::l=>by rw[UC,Pf hq x,wq hq l];rfl
end
mutual
theorem wo:∀{x:SV tb},x.has (fun _=>false)=true->x.av.ZD=true
 | .undef,_=>rfl
 | .i _ _,_=>rfl
 | .b8 _,_=>rfl
 | .bo _,_=>rfl
 | .st _,_=>rfl
 | .con _,_=>rfl
 | .agg l,h=>KA (l:=l) h
 | .tup l,h=>KA (l:=l) h
 | .sl _ _ _,_=>rfl
 | .em _,_=>rfl
 | .cp _,_=>rfl
 | .fn _ l,h=>KA (l:=l) h
 | .ptr id off,h=>by cases h
 | .epr id E i fo,h=>by cases h
 | .row id E off len mc,h=>by cases h
 | .rw id E,h=>by cases h
 | .opt _ x,h=>wo (x:=x) h
 | .cl _ _ _ _ qQ hc,_=>hc.2.1
 | .ifc _ x,h=>wo (x:=x) h
theorem KA:∀{l:List (SV tb)},MX (fun _=>false) l=true->JS (avL l)=true
 | [],_=>rfl
 |x::l,h=>by
  rw[UC,Bool.and_eq_true]at h
  exact VL (wo h.1) (KA h.2)
end
theorem ZZ (cx:Ctx P tb){E:tb.Ix}(l:List (tb.T E)):JS ((l.map (tb.el E)).flatMap AV.cells)=true:=by
 induction l with
 |nil=>rfl
 |cons x l ih=>
  rw[List.map_cons,List.flatMap_cons]
  show qI _ _=true
  rw[kE,show qI _ (tb.el E x).cells=true from((cx.ok E).bare x).2,show qI _ _=true from ih];rfl
def SC.ce:SC tb->Option (List AV)
 | .cells l=>some (avL l)
 | .arr E l=>some (elC tb E l)
 | .iter _ _=>none
mutual
theorem jde (cx:Ctx P tb){g:Gn tb}{id:Nat}{c:SC tb}{l:List AV}(hc:c.ce=some l)(hg:find id g=none):∀x:SV tb,Wa id l (x.res g).av (x.res ((id,US.fz c)::g)).av
 | .undef=>.undef
 | .i _ _=>.bare rfl
 | .b8 _=>.bare rfl
 | .bo _=>.bare rfl
 | .st _=>.bare rfl
 | .con _=>.bare rfl
 | .agg xs=>.agg (uK cx hc hg xs)
 | .tup xs=>.tup (uK cx hc hg xs)
 | .sl _ _ _=>.bare rfl
 | .em _=>.bare rfl
 | .cp _=>.bare rfl
 | .fn f xs=>.clo (uK cx hc hg xs)
 | .ptr i off=>by
   simp only[SV.res]
   rw[jk]
   by_cases hi:id=i
   ·subst hi
    rw[hg,if_pos rfl]
    cases c with
    |cells cl=>
     cases hc
     show Wa id (avL cl) (.ptr id off) (.kQ (avL (cl.drop off)))
     rw[va];exact .ptr
    |arr E' l'=>exact .undef
    |iter _ _=>exact .undef
   ·rw[if_neg hi]
    cases hf:find i g with
    |none=>
     have:=Wa.jf5 (id:=id) (l:=l) (.ptr i off)
     simp only[AV.re,if_neg (Ne.symm hi)]at this
     exact this
    |some c'=>
     cases c' with
     |drop=>exact .undef
     |fz c'=>cases c' with
      |cells _=>exact .bare rfl
      |arr _ _=>exact .undef
      |iter _ _=>exact .undef
 | .epr i E k fo=>by
   simp only[SV.res]
   rw[jk]
   by_cases hi:id=i
   ·rw[if_pos hi];exact .undef
   ·rw[if_neg hi]
    cases hf:find i g with
    |none=>
     have:=Wa.jf5 (id:=id) (l:=l) (.ptr i (k.toNat*tb.sz E+fo))
     simp only[AV.re,if_neg (Ne.symm hi)]at this
     exact this
    |some c'=>exact .undef
 | .row i E off len mc=>by
   simp only[SV.res]
   rw[jk]
   by_cases hi:id=i
   ·rw[if_pos hi];exact .undef
   ·rw[if_neg hi]
    cases hf:find i g with
    |none=>
     have:=Wa.jf5 (id:=id) (l:=l) (.row i (off*tb.sz E) len mc (tb.sz E))
     simp only[AV.re,if_neg (Ne.symm hi)]at this
     exact this
    |some c'=>exact .undef
 | .rw i E => by
   simp only[SV.res]
   rw[jk]
   by_cases hi:id=i
   ·subst hi
    rw[hg,if_pos rfl]
    cases c with
    |cells cl=>exact .undef
    |iter _ _=>exact .undef
    |arr E' l'=>
     cases hc
     show Wa id (elC tb E' l') (.rw id (tb.sz E)) (SV.av (match tb.dec E' E with|isTrue h=>.sl false E (h ▸ l')|isFalse _=>.undef))
     split
     ·rename_i h _
      subst h
      exact .rw (els:=l'.map (tb.el E')) (by
       intro x hx
       obtain⟨y,-,rfl⟩:=List.mem_map.1 hx
       exact(cx.ok E').len y) (cx.ok E').pos rfl
     ·exact .undef
   ·rw[if_neg hi]
    cases hf:find i g with
    |none=>
     have:=Wa.jf5 (id:=id) (l:=l) (.rw i (tb.sz E))
     simp only[AV.re,if_neg (Ne.symm hi)]at this
     exact this
    |some c'=>
     cases c' with
     |drop=>exact .undef
     |fz c'=>cases c' with
      |cells _=>exact .undef
      |iter _ _=>exact .undef
      |arr E' l'=>
       show Wa id l (SV.av (match tb.dec E' E with|isTrue h=>.sl false E (h ▸ l')|isFalse _=>.undef)) (SV.av (match tb.dec E' E with|isTrue h=>.sl false E (h ▸ l')|isFalse _=>.undef))
       split
       ·exact .bare rfl
       ·exact .undef
 | .opt _ x=>.opt (jde cx hc hg x)
 | .cl _ _ _ _ _ h=>.bare h.2.1
 | .ifc _ x=>.ifc (jde cx hc hg x)
theorem uK (cx:Ctx P tb){g:Gn tb}{id:Nat}{c:SC tb}{l:List AV}(hc:c.ce=some l)(hg:find id g=none):∀xs:List (SV tb),FzL id l (avL (uL g xs)) (avL (uL ((id,US.fz c)::g) xs))
 | []=>.nil
 |x::xs=>.cons (jde cx hc hg x) (uK cx hc hg xs)
end
/- names that occur -/
mutual
def SV.nms:SV tb->List Nat->List Nat
 | .agg l,a=>jhE l a
 | .tup l,a=>jhE l a
 | .fn _ l,a=>jhE l a
 | .ptr id _,a=>id::a
 | .epr id _ _ _,a=>id::a
 | .row id _ _ _ _,a=>id::a
 | .rw id _,a=>id::a
 | .opt _ x,a=>x.nms a
 | .ifc _ x,a=>x.nms a
 | .undef,a=>a
 | .i _ _,a=>a
 | .b8 _,a=>a
 | .bo _,a=>a
 | .st _,a=>a
 | .con _,a=>a
 | .sl _ _ _,a=>a
 | .em _,a=>a
 | .cp _,a=>a
 | .cl _ _ _ _ _ _,a=>a
def jhE:List (SV tb)->List Nat->List Nat
 | [],a=>a
 |x::l,a=>x.nms (jhE l a)
end
def jcS (L:SLS tb)(id:Nat):Option (SC tb):=match Qh L.gn id with
 |false=>none
 |true=>match find id L.h with
  |some (.arr E l)=>some (.arr E l)
  |some (.cells l)=>tst (MX (fun _=>false) (uL L.gn l)) (some (.cells (uL L.gn l)))
  |_=>none
theorem jhh (cx:Ctx P tb){L:SLS tb}{id c}(h:jcS L id=some c):∃l,c.ce=some l/\find id (avH L.gn L.h)=some (.cells l)/\JS l=true/\find id L.gn=none:=by
 unfold jcS at h
 split at h
 ·cases h
 ·rename_i hk
  have hk':=kz hk
  split at h
  ·rename_i E l hf
   cases h
   exact⟨_,rfl,by rw[zO,if_pos hk,hf];rfl,ZZ cx l,hk'⟩
  ·rename_i l hf
   obtain⟨h1,h⟩:=jM h
   cases h
   exact⟨_,rfl,by rw[zO,if_pos hk,hf];rfl,KA h1,hk'⟩
  ·cases h
/-! lending -/
theorem jil {B:Nat}{m0:Mem}{h:Hp}{m:Mem}{bl:Names}{w:World}(s:Vs B m0 h m bl w){id:Nat}{l:List AV}{r:List (Nat × List Value)}(hf:find id h=some (.cells l))(hb:JS l=true)
 (hnd:id∉r.map (·.1)) (bl1:Names) (h1:bl1 id=bl id):∃pre,jdY m bl w [(id,pre)]/\∀bl2:Names,(∀i x,i≠id->bl1 i=some x->bl2 i=some x)->Frz id l (MQ m bl r) bl1 (MQ m bl ((id,pre)::r)) bl2:=by
 rcases s.blk id l hf with ⟨g1,g2⟩|⟨b,n,arr,T,pre,rest,g1,g2,g3,g4,g5,g6⟩
 ·refine⟨[],?_,fun bl2 h2=>⟨?_,h2,.inl ⟨by rw[h1];exact g1,g2⟩⟩⟩
  ·intro p hp b n hbn
   rw[List.mem_singleton]at hp;subst hp
   rw[g1]at hbn;cases hbn
  ·have:MQ m bl ((id,[])::r)=MQ m bl r:=by
    funext b o
    simp only[MQ];rw[g1]
   rw[this];exact Mem.le.refl _
 ·obtain⟨o1,o2,o3⟩:=s.own id b n g1
  refine⟨pre,?_,fun bl2 h2=>⟨?_,h2,.inr ⟨b,n,pre,by rw[h1];exact g1,by rw[<-g3],?_,g6,?_⟩⟩⟩
  ·intro p hp b' n' hbn o v hv
   rw[List.mem_singleton]at hp;subst hp
   simp only at hbn hv
   rw[g1]at hbn;cases hbn
   rw[yC g2];exact Vh g4 hv
  ·intro b' o v e
   simp only[MQ]
   rw[g1]
   simp only
   rw[if_neg]
   ·exact e
   ·rintro rfl
    rcases MP e with h|⟨id',pre',n',q1,q2,-⟩
    ·rw[o3 o]at h;cases h
    ·have:=s.inj id id' b' n n' g1 q2
     subst this
     exact hnd (List.mem_map.2 ⟨_,q1,rfl⟩)
  ·have:=g5.bare (bl':=jh)
   rw[wJ,yz hb]at this
   exact this.mono (xA s _)
  ·intro o v hv
   simp only[MQ]
   rw[g1]
   simp[hv]
def jcq (L:SLS tb):List Nat->Gn tb->Option (Gn tb × List Nat)
 | [],g=>some (g,[])
 |id::r,g=>match find id g with
  |some _=>jcq L r g
  |none=>got (jcS L id) fun c=>got (jcq L r ((id,.fz c)::g)) fun p=>some (p.1,id::p.2)
theorem XX (cx:Ctx P tb){L:SLS tb}{B:Nat}{m0:Mem}{h:Hp}{m:Mem}{bl:Names}{w:World}(s:Vs B m0 h m bl w):∀{ids:List Nat} {g:Gn tb} {p} {r:List (Nat × List Value)} {bl1:Names},jcq L ids g=some p->
 (∀q∈qG L p.2,find q.1 h=some (.cells q.2))->(∀i∈r.map (·.1),find i g≠none)->(∀i,find i g=none->bl1 i=bl i)->(r.map (·.1)).Nodup->jdY m bl w r->
 ∃r' bl2,(r'.map (·.1)).Nodup/\jdY m bl w r'/\∀xs vs,JK (MQ m bl r) bl1 (avL (uL g xs)) vs->JK (MQ m bl r') bl2 (avL (uL p.1 xs)) vs
 | [],g,p,r,bl1,hp,_,_,_,hnd,hlo=>by
   cases hp
   exact⟨r,bl1,hnd,hlo,fun xs vs h=>h⟩
 |id :: ids,g,p,r,bl1,hp,hn,hr,hb1,hnd,hlo=>by
  unfold jcq at hp
  split at hp
  ·exact XX cx s hp hn hr hb1 hnd hlo
  ·rename_i hid
   obtain⟨c,hc,hp⟩:=jd hp
   obtain⟨p',hp',hp⟩:=jd hp
   cases hp
   obtain⟨l,c1,c2,c3,c4⟩:=jhh cx hc
   have hn0:find id h=some (.cells l):=by
    have:qG L (id::p'.2)=(id,l)::qG L p'.2:=by simp[qG,c2]
    rw[this]at hn
    exact hn (id,l) (by simp)
   have hn1:∀q∈qG L p'.2,find q.1 h=some (.cells q.2):=by
    intro q hq
    have:qG L (id::p'.2)=(id,l)::qG L p'.2:=by simp[qG,c2]
    rw[this]at hn
    exact hn q (List.mem_cons_of_mem _ hq)
   have hidr:id∉r.map (·.1):=fun hm=>hr id hm hid
   obtain⟨pre,f1,f2⟩:=jil s hn0 c3 hidr bl1 (hb1 id hid)
   have f2:=f2 (fun i=>if i=id then none else bl1 i) (fun i x hi hx=>by show(if _ then _ else _)=_;rw[if_neg hi];exact hx)
   obtain⟨r',bl2,e1,e2,e3⟩:=XX cx s (g:=(id,.fz c)::g) (r:=(id,pre)::r) (bl1:=fun i=>if i=id then none else bl1 i) hp' hn1
    (by
      intro i hi
      rw[jk]
      simp only[List.map_cons,List.mem_cons]at hi
      rcases hi with rfl|hi
      ·simp
      ·split
       ·simp
       ·exact hr i hi)
    (by
      intro i hi
      rw[jk]at hi
      split at hi
      ·cases hi
      ·rename_i hne
       show(if _ then _ else _)=_
       rw[if_neg (Ne.symm hne)];exact hb1 i hi)
    (by rw[List.map_cons,List.nodup_cons];exact⟨hidr,hnd⟩)
    (by
      intro q hq
      rcases List.mem_cons.1 hq with rfl|hq
      ·exact f1 _ (by simp)
      ·exact hlo q hq)
   refine⟨r',bl2,e1,e2,fun xs vs h=>e3 xs vs ?_⟩
   exact uK cx c1 hid xs _ _ _ _ f2 _ h
def elemOf (P:Program)(tb:Tb)(t:Nat):Option (tb.Ix × Nat × Nat):=got (P.underlying t) fun D=>got (ui D) fun E'=>got (tb.look E') fun E=>got (XL P t (tb.sz E)) fun p=>some (E,p.1,p.2)
theorem vY {t p}(h:elemOf P tb t=some p):Vu P t p.2.1 (tb.sz p.1) p.2.2:=by
 unfold elemOf at h
 obtain⟨D,hD,h⟩:=jd h
 obtain⟨E',hE',h⟩:=jd h
 obtain⟨E,hE,h⟩:=jd h
 obtain⟨q,hq,h⟩:=jd h
 cases h
 exact Vk hq
theorem QEx.jhS {o:Oper}{e:Env}{t y hi E sz by_ k i}(ho:o.op=.slice t y none (some hi) none)(ht:Vu P t E sz by_)(hy:jK e y (.v (.slice none 0 0)))(hh:jK e hi (.v (.int k i)))(h0:i=0):QEx P o e [] (.v (.slice none 0 0)):=
 .pure fun _ _ _ m bl ac w hws _ hr=>by
  have q1:=(hy.rep hr (by simp[ho,Op.operands])).zj
  have q2:=(hh.rep hr (by simp[ho,Op.operands])).zj
  subst h0
  refine⟨.slice none 0 0,?_,.v⟩
  simp[execOp,ho,q1,Instr.sliceAt,je ht.under,Instr.slice,Instr.sliceBounds,q2,Instr.sliceBound,asIntOf,jx ht.sz]
def qSlN (P:Program)(tb:Tb)(L:SLS tb)(G:Gd)(t:Nat)(hi:Operand)(k:SV tb->List Nat->Option ρ):Option ρ:=
 got (elemOf P tb t) fun p=>got (opd L G hi) fun b=>got (asI b) fun q=>chk G (q.2=0) (k (.con (.slice none 0 0)) [])
theorem jkf {L:SLS tb}{G o t y hi a}{k:SV tb->List Nat->Option ρ}{r}(ho:o.op=.slice t y none (some hi) none)(ha:opd L G y=some a)(hn:isNil a=true)(h:qSlN P tb L G t hi k=some r):QOk P L G o k r:=by
 unfold qSlN at h
 obtain⟨p,hp,h⟩:=jd h
 obtain⟨b,hb,h⟩:=jd h
 obtain⟨q,hq,h⟩:=jd h
 obtain⟨hc,h⟩:=kR h
 refine⟨_,[],h,fun u=>?_⟩
 have h1:=Jl u ha
 rw[Pe hn]at h1
 have h2:=Jl u hb
 rw[vb hq]at h2
 exact QEx.jhS ho (vY hp) h1 h2 (hc u.on)
def ME (cx:Ctx P tb)(L:SLS tb)(G:Gd)(t:Nat)(y lo hi mx:Operand)(k:SV tb->List Nat->Option ρ):Option ρ:=
 got (opd L G y) fun a=>got (opd L G lo) fun b1=>got (asI b1) fun p1=>got (opd L G hi) fun b2=>got (asI b2) fun p2=>got (opd L G mx) fun b3=>got (asI b3) fun p3=>match a with
 | .row id E off len mc=>got (XL P t (tb.sz E)) fun _=>chk G (0<=p1.2/\p1.2<=p2.2/\p2.2<=p3.2/\p3.2<=mc) (k .undef [])
 | .rw id E=>got (XL P t (tb.sz E)) fun _=>got (KO L id E) fun l=>chk G (0<=p1.2/\p1.2<=p2.2/\p2.2<=p3.2/\p3.2<=l.length) (k .undef [id])
 |_=>none
theorem jcd {L:SLS tb}{G o t y lo hi mx}{k:SV tb->List Nat->Option ρ}{r}(ho:o.op=.slice t y (some lo) (some hi) (some mx))(h:ME cx L G t y lo hi mx k=some r):QOk P L G o k r:=by
 unfold ME at h
 obtain⟨a,ha,h⟩:=jd h
 obtain⟨b1,hb1,h⟩:=jd h
 obtain⟨p1,hp1,h⟩:=jd h
 obtain⟨b2,hb2,h⟩:=jd h
 obtain⟨p2,hp2,h⟩:=jd h
 obtain⟨b3,hb3,h⟩:=jd h
 obtain⟨p3,hp3,h⟩:=jd h
 have hy:=fun u=>Jl (L:=L) (G:=G) u ha
 have h1:=fun u=>Jl (L:=L) (G:=G) u hb1
 have h2:=fun u=>Jl (L:=L) (G:=G) u hb2
 have h3:=fun u=>Jl (L:=L) (G:=G) u hb3
 rw[vb hp1]at h1
 rw[vb hp2]at h2
 rw[vb hp3]at h3
 split at h
 ·obtain⟨ET,hE,h⟩:=jd h
  obtain⟨hc,h⟩:=kR h
  exact⟨_,[],h,fun u=>QEx.jfu (need:=[]) ho (Vk hE) ((hy u).r (by simp[ho,Op.operands])) (h1 u) (h2 u) (h3 u) (hc u.on)⟩
 ·obtain⟨ET,hE,h⟩:=jd h
  obtain⟨l,hl,h⟩:=jd h
  have hl:=zB hl
  obtain⟨hc,h⟩:=kR h
  refine⟨_,_,h,fun u=>?_⟩
  rw[yY hl]
  exact QEx.jfu ho (Vk hE) (ROk.rw (xs:=l.map (tb.el _)) (hy u) (by simp[ho,Op.operands]) (show _∈[(_,elC tb _ l)]from jhF) (qc cx.ok) (cx.ok _).pos) (h1 u) (h2 u) (h3 u) (by rw[List.length_map];exact hc u.on)
 ·cases h
def jcb (cx:Ctx P tb)(L:SLS tb)(G:Gd)(t:Nat)(y:Operand)(lo hi:Option Operand)(k:SV tb->List Nat->Option ρ):Option ρ:=match opd L G y with
 |some a=>(match isNil a with
  |true=>(match lo,hi with
   |none,some h=>qSlN P tb L G t h k
   |_,_=>none)
  |false=>jfP cx L G t y lo hi k)
 |none=>none
theorem jei {L:SLS tb}{G o t y lo hi}{k:SV tb->List Nat->Option ρ}{r}(ho:o.op=.slice t y lo hi none)(h:jcb cx L G t y lo hi k=some r):QOk P L G o k r:=by
 unfold jcb at h
 split at h
 ·rename_i a ha
  split at h
  ·rename_i hn
   split at h
   ·exact jkf ho ha hn h
   ·cases h
  ·exact jfO ho h
 ·cases h
end
end
section
open Go.RowKit
variable [GlC]
theorem Sub.kQ {l l':List AV}(h:KF l l'):Sub (.kQ l) (.kQ l'):=by
 intro m bl v r
 cases r with|kQ h1 h2 h3=>exact .kQ (h _ _ _ h1) h2 h3
section
variable {P:Program} {tb:Tb} {ρ:Type} {cx:Ctx P tb}
def jcP (cx:Ctx P tb):(l:List (PTy tb))->List (SV tb)->Option (mz tb l)
 | [],[]=>some ()
 | .d i::l,x::xs=>got ((cx.cd i).of x) fun a=>got (jcP cx l xs) fun b=>some (a,b)
 | .cap i::l,.cp c::xs=>got ((cx.cd i).ofC c) fun a=>got (jcP cx l xs) fun b=>some (a,b)
 |_,_=>none
theorem pd:∀{l:List (PTy tb)} {xs a},jcP cx l xs=some a->∃vs,jar P l a vs/\KF (avL xs) vs/\JS vs=true
 | [],[],_,h=>⟨[],trivial,.refl _,rfl⟩
 | [],_::_,_,h=>by cases h
 | .d i::l,[],_,h=>by cases h
 | .cap i::l,[],_,h=>by cases h
 | .fn _ _::l,xs,_,h=>by cases xs <;> cases h
 | .d i::l,x::xs,ab,h=>by
   unfold jcP at h
   obtain⟨a,ha,h⟩:=jd h
   obtain⟨b,hb,h⟩:=jd h
   cases h
   obtain⟨vs,h1,h2,h3⟩:=pd hb
   exact⟨_::vs,⟨rfl,h1⟩,.cons ((cx.ok i).of _ _ ha) h2,VL ((cx.ok i).bare a).1 h3⟩
 | .cap i::l,x::xs,ab,h=>by
   cases x with
   |cp c=>
    unfold jcP at h
    obtain⟨a,ha,h⟩:=jd h
    obtain⟨b,hb,h⟩:=jd h
    cases h
    obtain⟨vs,h1,h2,h3⟩:=pd hb
    exact⟨_::vs,⟨rfl,h1⟩,.cons (.kQ ((cx.ok i).ofC _ _ ha).1) h2,h3⟩
   |_=>cases h
def mkPA (cx:Ctx P tb):(l:List (PTy tb))->(ps:List tb.Ix)->List (SV tb)->Option (Tup tb ps->mz tb l)
 |l,[],qQ=>got (jcP cx l qQ) fun a=>some fun _=>a
 | .d i::l,[j],qQ=>(match tb.dec j i with
   |isTrue h=>got (jcP cx l qQ) fun a=>some fun x=>(h ▸ x,a)
   |isFalse _=>none)
 | .d i::l,j::j'::r,qQ=>(match tb.dec j i with
   |isTrue h=>got (mkPA cx l (j'::r) qQ) fun f=>some fun x=>(h ▸ x.1,f x.2)
   |isFalse _=>none)
 |_,_,_=>none
theorem jgb:∀{l:List (PTy tb)} {ps qQ f},mkPA cx l ps qQ=some f->∃vs,KF (avL qQ) vs/\JS vs=true/\∀a,jar P l (f a) (Vv ps a++vs)
 |l,[],qQ,f,h=>by
  unfold mkPA at h
  obtain⟨a,ha,h⟩:=jd h
  cases h
  obtain⟨vs,h1,h2,h3⟩:=pd ha
  exact⟨vs,h2,h3,fun _=>h1⟩
 | .d i::l,[j],qQ,f,h=>by
   unfold mkPA at h
   split at h
   ·rename_i hj _
    subst hj
    obtain⟨a,ha,h⟩:=jd h
    cases h
    obtain⟨vs,h1,h2,h3⟩:=pd ha
    exact⟨vs,h2,h3,fun x=>⟨rfl,h1⟩⟩
   ·cases h
 | .d i::l,j::j'::r,qQ,f,h=>by
   unfold mkPA at h
   split at h
   ·rename_i hj _
    subst hj
    obtain⟨a,ha,h⟩:=jd h
    cases h
    obtain⟨vs,h1,h2,h3⟩:=jgb ha
    exact⟨vs,h1,h2,fun x=>⟨rfl,h3 x.2⟩⟩
   ·cases h
 | [],[j],_,_,h=>by cases h
 | [],j::j'::r,_,_,h=>by cases h
 | .cap _::_,[j],_,_,h=>by cases h
 | .cap _::_,j::j'::r,_,_,h=>by cases h
 | .fn _ _::_,[j],_,_,h=>by cases h
 | .fn _ _::_,j::j'::r,_,_,h=>by cases h
def wA (f:Nat):List (Con P tb cx.cd)->Option (Con P tb cx.cd)
 | []=>none
 |c::r=>match Nat.beq c.fid f with|true=>some c|false=>wA f r
theorem vE {f:Nat}:∀{l:List (Con P tb cx.cd)} {c},wA f l=some c->c.fid=f
 | [],_,h=>by simp[wA]at h
 |c::r,c',h=>by
  simp only[wA]at h
  split at h
  ·rename_i hb;cases h;exact Nat.eq_of_beq_eq_true hb
  ·exact vE h
def isE {α:Type}:List α->Bool
 | []=>true
 |_=>false
theorem jgC {α:Type}{l:List α}(h:isE l=true):l=[]:=by cases l;rfl;cases h
theorem Con.ok0 (c:Con P tb cx.cd)(h:c.own=[]){a avs r}(hr:jar P c.ps a avs)(hf:c.f a=some r):FnR P c.fid avs (pG c.rs r) []:=by
 have:=c.ok a avs r hr hf
 rw[h]at this
 obtain⟨h1,h2⟩:=Px cx.cd cx.ok c.rs r 0
 rw[h1,h2]at this;exact this
def decL (tb:Tb):DecidableEq (List tb.Ix):=@instDecidableEqList _ tb.dec
def cloG (cx:Ctx P tb)(f:Nat)(qQ:List (SV tb))(ps rs:List tb.Ix):Option (Tup tb ps->Option (Tup tb rs)):=
 got (wA f cx.Γ) fun c=>tst (isE c.own) <|got (mkPA cx c.ps ps qQ) fun m=>match decL tb c.rs rs with
 |isTrue h=>some fun a=>h ▸ c.cf (m a)
 |isFalse _=>none
theorem jlm {f qQ ps rs g}(h:cloG cx f qQ ps rs=some g):∃vs,KF (avL qQ) vs/\CloR tb f vs ps rs g:=by
 unfold cloG at h
 obtain⟨c,hc,h⟩:=jd h
 obtain⟨h1,h⟩:=jM h
 obtain⟨m,hm,h⟩:=jd h
 obtain⟨vs,g1,g2,g3⟩:=jgb hm
 split at h
 ·rename_i hrs _
  cases h
  refine⟨vs,g1,?_⟩
  have hP:=cx.hP
  refine⟨?_,g2,?_⟩
  ·rw[hP];rw[<-vE hc];exact c.call
  ·intro a r hr
   rw[hP,<-vE hc]
   subst hrs
   exact c.ok0 (jgC h1) (g3 a) ((c.jlo _).symm.trans hr)
 ·cases h
def argD (cx:Ctx P tb)(x:SV tb):(p:PTy tb)->Option p.den
 | .d i=>(cx.cd i).of x
 | .cap i=>match x with| .cp l=>(cx.cd i).ofC l|_=>none
 | .fn ps rs=>match x with
   | .cl ps' rs' g _ _ _=>(match decL tb ps' ps,decL tb rs' rs with
     |isTrue h,isTrue h'=>some (h ▸ h' ▸ g)
     |_,_=>none)
   | .fn f qQ=>cloG cx f qQ ps rs
   |_=>none
theorem jlB {x:SV tb}{p a}(h:argD cx x p=some a):∃v,ArgR P p a v/\Sub x.av v/\v.ZD=true:=by
 cases p with
 |d i=>exact⟨_,rfl,(cx.ok i).of _ _ h,((cx.ok i).bare a).1⟩
 |cap i=>
  cases x with
  |cp l=>exact⟨_,rfl,.kQ ((cx.ok i).ofC _ _ h).1,rfl⟩
  |_=>cases h
 |fn ps rs=>
  cases x with
  |cl ps' rs' g f qQ hc=>
   unfold argD at h
   simp only at h
   split at h
   ·rename_i h1 h2 _ _
    subst h1 h2
    cases h
    exact⟨_,⟨f,qQ,rfl,hc⟩,.refl _,hc.2.1⟩
   ·cases h
  |fn f qQ=>
   obtain⟨vs,h1,h2⟩:=jlm (h:cloG cx f qQ ps rs=some a)
   exact⟨_,⟨f,vs,rfl,h2⟩,.clo h1,h2.2.1⟩
  |_=>cases h
def jhl (cx:Ctx P tb):(l:List (PTy tb))->List (SV tb)->Option (mz tb l)
 | [],[]=>some ()
 |p::l,x::xs=>got (argD cx x p) fun a=>got (jhl cx l xs) fun b=>some (a,b)
 |_,_=>none
theorem jaj:∀{l:List (PTy tb)} {xs a},jhl cx l xs=some a->∃vs,jar P l a vs/\KF (avL xs) vs/\JS vs=true
 | [],[],_,h=>⟨[],trivial,.refl _,rfl⟩
 | [],_::_,_,h=>by cases h
 |p::l,[],_,h=>by cases h
 |p::l,x::xs,ab,h=>by
  unfold jhl at h
  obtain⟨a,ha,h⟩:=jd h
  obtain⟨b,hb,h⟩:=jd h
  cases h
  obtain⟨v,h0,h4,h5⟩:=jlB ha
  obtain⟨vs,h1,h2,h3⟩:=jaj hb
  exact⟨v::vs,⟨h0,h1⟩,.cons h4 h2,VL h5 h3⟩
def tupC:(i:tb.Ix)->(l:List tb.Ix)->tb.T i->Tup tb l->Tup tb (i::l)
 |_,[],a,_=>a
 |_,_::_,a,b=>(a,b)
theorem jfk {i:tb.Ix}{l:List tb.Ix}{a:tb.T i}{b:Tup tb l}:Vv (i::l) (tupC i l a b)=tb.el i a::Vv l b:=by
 cases l <;> rfl
def tupD (cx:Ctx P tb):(l:List tb.Ix)->List (SV tb)->Option (Tup tb l)
 | [],xs=>tst (isE xs) (some ())
 |i::l,xs=>match xs with
  | []=>none
  |x::xs=>got ((cx.cd i).of x) fun a=>got (tupD cx l xs) fun b=>some (tupC i l a b)
theorem jb3:∀{l:List tb.Ix} {xs a},tupD cx l xs=some a->KF (avL xs) (Vv l a)/\JS (Vv l a)=true
 | [],xs,_,h=>by
   obtain⟨h1,h⟩:=jM h
   rw[jgC h1]
   exact⟨.refl _,rfl⟩
 |i::l,[],_,h=>by cases h
 |i::l,x::xs,ab,h=>by
  obtain⟨a,ha,h⟩:=jd (show got ((cx.cd i).of x) _=some ab from h)
  obtain⟨b,hb,h⟩:=jd h
  cases h
  obtain⟨h1,h2⟩:=jb3 hb
  rw[jfk]
  exact⟨.cons ((cx.ok i).of _ _ ha) h1,VL ((cx.ok i).bare a).1 h2⟩
def jfj (cx:Ctx P tb):(l:List tb.Ix)->Tup tb l
 | []=>()
 | [i]=>(cx.cd i).inh
 |i::j::r=>((cx.cd i).inh,jfj cx (j::r))
theorem mC (cx:Ctx P tb):∀(l:List tb.Ix) (r:Tup tb l),JS (Vv l r)=true
 | [],_=>rfl
 | [i],x=>VL ((cx.ok i).bare x).1 rfl
 |i::j::l,x=>VL ((cx.ok i).bare x.1).1 (mC cx (j::l) x.2)
theorem xe (cx:Ctx P tb)(l:List tb.Ix)(r:Tup tb l):(pG l r).ZD=true:=by
 have:=mC cx l r
 unfold pG
 cases l with
 |nil=>rfl
 |cons i l=>
  cases l with
  |nil=>exact((cx.ok i).bare r).1
  |cons j l=>cases l <;> exact this
def ansV (cx:Ctx P tb)(rs:List tb.Ix)(r:Tup tb rs):SV tb:=(UL tb cx.cd [] rs r 0).1
def Vp (cx:Ctx P tb):List tb.Ix->Bool
 | []=>true
 |i::l=>match (cx.cd i).flat with|true=>Vp cx l|false=>false
theorem mB {cx:Ctx P tb}:∀{l:List tb.Ix} (r:Tup tb l),Vp cx l=true->mn (Vv l r)=true
 | [],_,_=>rfl
 | [i],x,h=>by
   unfold Vp at h
   split at h
   ·simp[Vv,mn,(cx.ok i).flat ‹_› x]
   ·cases h
 |i :: j::l,x,h=>by
  unfold Vp at h
  split at h
  ·have:=mB (l:=j::l) x.2 h
   simp[Vv,mn,(cx.ok i).flat ‹_› x.1]at this⊢
   exact this
  ·cases h
theorem mD {cx:Ctx P tb}{l:List tb.Ix}(r:Tup tb l)(h:Vp cx l=true):(pG l r).flat=true:=by
 have:=mB r h
 unfold pG
 cases l with
 |nil=>rfl
 |cons i l=>
  cases l with
  |nil=>simpa [Vv,mn,QW]using this
  |cons j l=>cases l <;> exact this
def jij (cx:Ctx P tb)(L:SLS tb)(rs:List tb.Ix)(xs:List (SV tb))(k:List (SV tb)->List Nat->Option ρ):Option ρ:=match jhE xs []with
 | []=>k xs []
 |id::r=>got (jcq L (id::r) []) fun p=>tst (Vp cx rs) <|k (uL p.1 xs) p.2
def xI (f:Nat):List (Hnd P tb)->Option (Hnd P tb)
 | []=>none
 |c::r=>match Nat.beq c.fid f with|true=>some c|false=>xI f r
theorem Pk {f:Nat}:∀{l:List (Hnd P tb)} {c},xI f l=some c->c.fid=f
 | [],_,h=>by simp[xI]at h
 |c::r,c',h=>by
  simp only[xI]at h
  split at h
  ·rename_i hb;cases h;exact Nat.eq_of_beq_eq_true hb
  ·exact Pk h
def qHand (L:SLS tb)(h:Hnd P tb)(xs:List (SV tb))(k:SV tb->List Nat->Option ρ):Option ρ:=got (h.f xs) fun y=>k y []
def jks (cx:Ctx P tb)(L:SLS tb)(G:Gd)(y:Operand)(args:Array Operand)(k:SV tb->List Nat->Option ρ):Option ρ:=
 got (opd L G y) fun c=>got (mh L G args.toList) fun xs=>match c with
 | .fn f qQ=>(match xI f cx.hnd with
 |some h=>qHand L h (xs++qQ) k
 |none=>got (wA f cx.Γ) fun c=>tst (isE c.own) <|jij cx L c.rs (xs++qQ) fun ys need=>got (jhl cx c.ps ys) fun a=>bnd G (jfj cx c.rs) (c.cf a) fun r=>k (ansV cx c.rs r) need)
 | .cl ps rs g _ _ _=>jij cx L rs xs fun ys need=>got (tupD cx ps ys) fun a=>bnd G (jfj cx rs) (g a) fun r=>k (ansV cx rs r) need
 |_=>none
theorem jjr {L:SLS tb}{rs xs}{k:List (SV tb)->List Nat->Option ρ}{r}(h:jij cx L rs xs k=some r):
 ∃ys need,k ys need=some r/\((ys=xs/\need=[])\/(Vp cx rs=true/\∃g,(∃ids,jcq L ids []=some (g,need))/\ys=uL g xs)):=by
 unfold jij at h
 split at h
 ·exact⟨_,_,h,.inl ⟨rfl,rfl⟩⟩
 ·obtain⟨p,hp,h⟩:=jd h
  obtain⟨hf,h⟩:=jM h
  exact⟨_,_,h,.inr ⟨hf,p.1,⟨_,hp⟩,rfl⟩⟩
theorem jlp {L:SLS tb}{o:Oper}{fn:Nat}{rs:List tb.Ix}{x:Tup tb rs}{xs ys:List (SV tb)}{need vs}(cx:Ctx P tb)
 (hk:(ys=xs/\need=[])\/(Vp cx rs=true/\∃g,(∃ids,jcq L ids []=some (g,need))/\ys=uL g xs))
 (hg:KF (avL ys) vs) (hbare:JS vs=true) (hf:FnR P fn vs (pG rs x) [])
 (hrun:∀{m bl a} (w:World),Reads o L.E m bl a->∃ws:List Value,(execOp a.eval o).run P w=.ok (.enter fn ws.toArray) w/\JK m bl (avL xs) ws)
 (hres:uL ([]:Gn tb) xs=xs):QEx P o L.E (qG L need) (pG rs x):=by
 rcases hk with ⟨rfl,rfl⟩|⟨hfl,g,⟨ids,hl⟩,rfl⟩
 ·refine QEx.enter (fn:=fn) (ys:=vs) (fun m bl ac w hrd=>?_) hf (xe cx _ _)
  obtain⟨ws,h1,h2⟩:=hrun w hrd
  refine⟨ws,h1,?_⟩
  have:=(hg _ _ _ h2).bare (bl':=jh)
  rwa [wJ,yz hbare]at this
 ·refine QEx.jjJ (fn:=fn) (ys:=vs) (fun B m0 h m bl ac w hws hn hrd=>?_) hf (mD x hfl)
  obtain⟨ws,h1,h2⟩:=hrun w hrd
  obtain⟨r',bl2,e1,e2,e3⟩:=XX cx hws (ids:=ids) (g:=[]) (r:=[]) (bl1:=bl) hl hn (by simp) (fun i _=>rfl) .nil (by intro p hp;cases hp)
  refine⟨r',ws,e1,e2,h1,?_⟩
  have h3:=e3 xs ws (by rw[hres];exact h2)
  have:=(hg _ _ _ h3).bare (bl':=jh)
  rwa [wJ,yz hbare]at this
theorem jh8 {L:SLS tb}{G o y args tys}{k:SV tb->List Nat->Option ρ}{r}(ho:o.op=.call {callee:=.value y,args,argTypes:=tys})(h:jks cx L G y args k=some r):QOk P L G o k r:=by
 unfold jks at h
 obtain⟨c,hc,h⟩:=jd h
 obtain⟨xs,hxs,h⟩:=jd h
 have hy:=fun u=>Jl (L:=L) (G:=G) u hc
 split at h
 ·rename_i f qQ _
  split at h
  ·rename_i hh hf
   obtain⟨x,hx,h⟩:=jd (show got (hh.f (xs++qQ)) _=some r from h)
   obtain⟨g1,g2,g3⟩:=hh.ok _ _ hx
   refine⟨_,[],h,fun u=>?_⟩
   refine QEx.enter (fn:=hh.fid) (ys:=avL (xs++qQ)) (fun m bl ac w hrd=>?_) g1 g3
   obtain⟨ws,hrun,hreps⟩:=Vx (qQ:=avL qQ) ho (by have:=hh.call;rwa [Pk hf]at this) (hy u) (vS u hxs) w hrd
   rw[Pk hf]
   refine⟨ws,hrun,?_⟩
   rw[<-Ya]at hreps
   have:=hreps.bare (bl':=jh)
   rwa [wJ,yz g2]at this
  obtain⟨c,hc,h⟩:=jd h
  obtain⟨h1,h⟩:=jM h
  obtain⟨ys,need,h,hk⟩:=jjr h
  obtain⟨a,ha,h⟩:=jd h
  obtain⟨vs,g1,g2,g3⟩:=jaj ha
  obtain⟨x,hx,h⟩:=bnd_e h
  refine⟨_,need,h,fun u=>?_⟩
  unfold ansV
  rw[(Px cx.cd cx.ok c.rs x 0).1]
  have hf:=c.ok0 (jgC h1) g1 ((c.jlo a).symm.trans (hx u.on))
  refine jlp (fn:=c.fid) cx hk g2 g3 hf (fun {m bl ac} w hrd=>?_) (Zz (wq (q:=Qh []) (fun _=>rfl) _))
  obtain⟨ws,hrun,hreps⟩:=Vx (qQ:=avL qQ) ho (by have:=c.call;rwa [vE hc]at this) (hy u) (vS u hxs) w hrd
  rw[vE hc]
  exact⟨ws,hrun,by rw[Ya];exact hreps⟩
 ·rename_i ps rs g f qQ hcl _
  obtain⟨ys,need,h,hk⟩:=jjr h
  obtain⟨a,ha,h⟩:=jd h
  obtain⟨g2,g3⟩:=jb3 ha
  obtain⟨x,hx,h⟩:=bnd_e h
  refine⟨_,need,h,fun u=>?_⟩
  unfold ansV
  rw[(Px cx.cd cx.ok rs x 0).1]
  obtain⟨q1,q2,q3⟩:=hcl
  rw[cx.hP]at q1 q3
  have hf:=q3 a x (hx u.on)
  have hbc:JS (Vv ps a++qQ)=true:=by show qI _ _=true;rw[kE];rw[show qI _ (Vv ps a)=true from g3,show qI _ qQ=true from q2];rfl
  rcases hk with ⟨rfl,rfl⟩|⟨hfl,g',⟨ids,hl⟩,rfl⟩
  ·refine QEx.enter (fn:=f) (ys:=Vv ps a++qQ) (fun m bl ac w hrd=>?_) hf (xe cx _ _)
   obtain⟨ws,hrun,hreps⟩:=Vx (qQ:=qQ) ho q1 (hy u) (vS u hxs) w hrd
   refine⟨ws,hrun,?_⟩
   have h4:KF (avL ys++qQ) (Vv ps a++qQ):=g2.append (.refl _)
   have:=(h4 _ _ _ hreps).bare (bl':=jh)
   rwa [wJ,yz hbc]at this
  ·refine QEx.jjJ (fn:=f) (ys:=Vv ps a++qQ) (fun B m0 h m bl ac w hws hn hrd=>?_) hf (mD x hfl)
   obtain⟨ws,hrun,hreps⟩:=Vx (qQ:=qQ) ho q1 (hy u) (vS u hxs) w hrd
   obtain⟨r',bl2,e1,e2,e3⟩:=XX cx hws (ids:=ids) (g:=[]) (r:=[]) (bl1:=bl) hl hn (by simp) (fun i _=>rfl) .nil (by intro p hp;cases hp)
   refine⟨r',ws,e1,e2,hrun,?_⟩
   obtain⟨w1,w2,rfl,k1,k2⟩:=JK.split hreps
   have h3:=e3 xs w1 (by rw[Zz (wq (q:=Qh []) (fun _=>rfl) _)];exact k1)
   have h5:=(g2 _ _ _ h3).bare (bl':=jh)
   rw[wJ,yz g3]at h5
   have h6:=(k2.mono (xA hws r')).bare (bl':=jh)
   rw[wJ,yz q2]at h6
   exact h5.append h6
 ·cases h
end
end
section
open Go.RowKit
variable [GlC]
section
variable {P:Program} {o:Oper} {e:Env}
def jcB:TypeDesc->Bool
 | .interface _=>true
 |_=>false
theorem jk2 {d}(h:jcB d=true):∃ms,d=.interface ms:=by unfold jcB at h;split at h;exact⟨_,rfl⟩;cases h
theorem QEx.mkIfc {t y x d}(ho:o.op=.makeInterface t y)(ht:P.underlying t=some d)(hd:jcB d=false)(hy:jK e y x):QEx P o e [] (.ifc t x):=
 .pure fun _ _ _ m bl ac w _ _ hr=>by
  have h1:=hy.rep hr (by simp[ho,Op.operands])
  refine⟨.iface t (ac.eval y),?_,.ifc h1⟩
  cases d <;> first|(cases hd;done)|simp[execOp,ho,Instr.makeInterface,je ht]
theorem xa {t ms}(ht:P.underlying t=some (.interface ms))(d t':Nat)(v:Value)(w:World):(Op.equalIn (d+1) t (.iface t' v) .nilIface).run P w=.ok false w:=by
 simp[Op.equalIn,je ht]
theorem Uq {t ms}(ht:P.underlying t=some (.interface ms))(d:Nat)(w:World):(Op.equalIn (d+1) t .nilIface .nilIface).run P w=.ok true w:=by
 simp[Op.equalIn,je ht]
theorem jec (t:TypeId)(x y:Value)(w:World)(hx:(∃t' v,x=.iface t' v)\/x=.nilIface)(hy:y=.nilIface):(binOp .eql t x y).run P w=((Op.equalIn 10000 t x y).run P w).andThen fun b w'=>.ok (.bool b) w':=by
 subst hy
 rcases hx with ⟨t',v,rfl⟩|rfl <;> simp[binOp,Op.equal,Op.maxDepth]
theorem jeb (t:TypeId)(x y:Value)(w:World)(hx:(∃t' v,x=.iface t' v)\/x=.nilIface)(hy:y=.nilIface):(binOp .neq t x y).run P w=((Op.equalIn 10000 t x y).run P w).andThen fun b w'=>.ok (.bool (!b)) w':=by
 subst hy
 rcases hx with ⟨t',v,rfl⟩|rfl <;> simp[binOp,Op.equal,Op.maxDepth]
theorem QEx.ifNil {t y yt ms x b}(neg:Bool)(ho:o.op=.binOp (if neg then .neq else .eql) t y (.const .nilIface) yt)(ht:P.underlying t=some (.interface ms))(hy:jK e y x)
 (hx:(∃t' x',x=.ifc t' x'/\b=false)\/(x=.v .nilIface/\b=true)):QEx P o e [] (.v (.bool (b != neg))):=
 .pure fun _ _ _ m bl ac w _ _ hr=>by
  have h1:=hy.rep hr (by simp[ho,Op.operands])
  have hz:ac.eval (.const .nilIface)=.nilIface:=rfl
  have key:∀v,ac.eval y=v->((∃t' v',v=.iface t' v'/\b=false)\/(v=.nilIface/\b=true))->(execOp ac.eval o).run P w=.ok (.value (.bool (b != neg))) w:=by
   intro v hv hc
   have hg:∀op,(eqGuard op t y (.const .nilIface) v .nilIface).run P w=.ok () w:=by
    intro op
    rcases hc with ⟨t',v',rfl,-⟩|⟨rfl,-⟩ <;> cases op <;> simp[eqGuard]
   have heq:(Op.equalIn 10000 t v .nilIface).run P w=.ok b w:=by
    rcases hc with ⟨t',v',rfl,rfl⟩|⟨rfl,rfl⟩
    ·exact xa ht 9999 t' v' w
    ·exact Uq ht 9999 w
   have hs:(∃t' v',v=.iface t' v')\/v=.nilIface:=by
    rcases hc with ⟨t',v',rfl,-⟩|⟨rfl,-⟩
    ·exact .inl ⟨_,_,rfl⟩
    ·exact .inr rfl
   cases neg with
   |false=>
    have h4:=jec (P:=P) t v .nilIface w hs rfl
    rw[heq]at h4
    simp only[Result.andThen_ok]at h4
    simp[execOp,ho,hv,hz,Sem.run_bind,hg,Result.andThen_ok,h4,Sem.run_pure]
   |true=>
    have h4:=jeb (P:=P) t v .nilIface w hs rfl
    rw[heq]at h4
    simp only[Result.andThen_ok]at h4
    simp[execOp,ho,hv,hz,Sem.run_bind,hg,Result.andThen_ok,h4,Sem.run_pure]
  rcases hx with ⟨t',x',rfl,hb⟩|⟨rfl,hb⟩
  ·generalize hv:ac.eval y=v at h1
   cases h1 with
   |ifc h2=>exact⟨_,key _ hv (.inl ⟨_,_,rfl,hb⟩),.v⟩
  ·have:=h1.zj
   exact⟨_,key _ this (.inr ⟨rfl,hb⟩),.v⟩
theorem QEx.ifcOut {y xt t x d}(ho:o.op=.typeAssert y xt t true)(ht:P.underlying t=some d)(hd:jcB d=false)(hy:jK e y (.ifc t x)):QEx P o e [] (.tup [x,.v (.bool true)]):=
 .pure fun _ _ _ m bl ac w _ _ hr=>by
  have h1:=hy.rep hr (by simp[ho,Op.operands])
  generalize hv:ac.eval y=v at h1
  cases h1 with
  |ifc h2=>
   rename_i v'
   refine⟨.tuple #[v',.bool true],?_,.tup (.cons h2 (.cons .v .nil))⟩
   cases d <;> first|(cases hd;done)|simp[execOp,ho,hv,Instr.typeAssert,je ht]
theorem QEx.KO {t y n E sz c l}(ho:o.op=.sliceToArrayPointer t y)(ht:P.underlying t=some (.array n E))(hy:jK e y (.sl c sz l))(hn:n<=l.length)(h0:0<n)(hs:0<sz):QEx P o e [] (.kQ ((l.take n).flatMap AV.cells)):=
 .pure fun _ _ _ m bl ac w _ _ hr=>by
  have h1:=hy.rep hr (by simp[ho,Op.operands])
  generalize hv:ac.eval y=v at h1
  cases h1 with
  |slnil=>simp at hn;omega
  |sl g1 g2 g3 g4 g5 g6 g7=>
   rename_i a cap cs
   have hcl:(l.flatMap AV.cells).length=l.length*sz:=Qu g1
   have hlen:=g2.length
   have hpos:0<cs.length:=by
    rw[<-hlen,hcl];exact Nat.mul_pos (by omega) hs
   have hsp:=g4 hpos
   have hft:(l.take n).flatMap AV.cells=(l.flatMap AV.cells).take (n*sz):=(kB n g1).symm
   refine⟨.pointer (some a),?_,?_⟩
   ·simp[execOp,ho,hv,Instr.arrayAt,je ht,Nat.not_lt.2 hn]
   ·obtain⟨b,off,sp⟩:=a
    simp only at hsp;subst hsp
    rw[hft]
    refine .kQ (g2.take _) (fun c hc=>g3 c (List.mem_of_mem_take hc)) (fun j v e=>g5 j v (Mk e))
end
section
variable {P:Program} {tb:Tb} {ρ:Type} {cx:Ctx P tb}
def jk1 (P:Program)(t:Nat):Bool:=match P.underlying t with|some d=>jcB d|none=>false
theorem jk0 {t}(h:jk1 P t=true):∃ms,P.underlying t=some (.interface ms):=by
 unfold jk1 at h
 split at h
 ·obtain⟨ms,rfl⟩:=jk2 h;exact⟨ms,‹_›⟩
 ·cases h
def jig (P:Program)(t:Nat):Bool:=match P.underlying t with|some d => !jcB d|none=>false
theorem jga {t}(h:jig P t=true):∃d,P.underlying t=some d/\jcB d=false:=by
 unfold jig at h
 split at h
 ·exact⟨_,‹_›,by simpa using h⟩
 ·cases h
def qMkI (P:Program)(L:SLS tb)(G:Gd)(t:Nat)(y:Operand)(k:SV tb->List Nat->Option ρ):Option ρ:=
 got (opd L G y) fun a=>tst (jig P t) <|k (.ifc t a) []
theorem jkj {L:SLS tb}{G o t y}{k:SV tb->List Nat->Option ρ}{r}(ho:o.op=.makeInterface t y)(h:qMkI P L G t y k=some r):QOk P L G o k r:=by
 unfold qMkI at h
 obtain⟨a,ha,h⟩:=jd h
 obtain⟨h1,h⟩:=jM h
 obtain⟨d,hd,hi⟩:=jga h1
 exact⟨_,[],h,fun u=>QEx.mkIfc ho hd hi (Jl u ha)⟩
def qOut (P:Program)(L:SLS tb)(G:Gd)(y:Operand)(t:Nat)(k:SV tb->List Nat->Option ρ):Option ρ:=
 got (opd L G y) fun a=>match a with
 | .ifc t' x=>tst (Nat.beq t' t) <|tst (jig P t) <|k (.tup [x,.con (.bool true)]) []
 |_=>none
theorem jkh {L:SLS tb}{G o y xt t}{k:SV tb->List Nat->Option ρ}{r}(ho:o.op=.typeAssert y xt t true)(h:qOut P L G y t k=some r):QOk P L G o k r:=by
 unfold qOut at h
 obtain⟨a,ha,h⟩:=jd h
 have hy:=fun u=>Jl (L:=L) (G:=G) u ha
 cases a with
 |ifc t' x=>
  obtain⟨h1,h⟩:=jM (show tst (Nat.beq t' t) _=some r from h)
  obtain⟨h2,h⟩:=jM h
  have:=Nat.eq_of_beq_eq_true h1
  rw[<-this]at ho h2
  obtain⟨d,hd,hi⟩:=jga h2
  exact⟨_,[],h,fun u=>QEx.ifcOut ho hd hi (hy u)⟩
 |_=>cases h
def jgA:Operand->Bool
 | .const .nilIface=>true
 |_=>false
theorem jiw {z:Operand}(h:jgA z=true):z=.const .nilIface:=by
 unfold jgA at h
 split at h
 ·rfl
 ·cases h
def jgI:SV tb->Option Bool
 | .ifc _ _=>some false
 | .con .nilIface=>some true
 |_=>none
theorem jiA {x:SV tb}{b}(h:jgI x=some b):(∃t' x',x.av=.ifc t' x'/\b=false)\/(x.av=.v .nilIface/\b=true):=by
 unfold jgI at h
 split at h
 ·cases h;exact .inl ⟨_,_,rfl,rfl⟩
 ·cases h;exact .inr ⟨rfl,rfl⟩
 ·cases h
def jh3 (P:Program)(L:SLS tb)(G:Gd)(neg:Bool)(t:Nat)(y:Operand)(k:SV tb->List Nat->Option ρ):Option ρ:=
 got (opd L G y) fun a=>got (jgI a) fun b=>tst (jk1 P t) <|k (.con (.bool (b != neg))) []
theorem jdl {L:SLS tb}{G o neg t y yt}{k:SV tb->List Nat->Option ρ}{r}(ho:o.op=.binOp (if neg then .neq else .eql) t y (.const .nilIface) yt)(h:jh3 P L G neg t y k=some r):QOk P L G o k r:=by
 unfold jh3 at h
 obtain⟨a,ha,h⟩:=jd h
 obtain⟨b,hb,h⟩:=jd h
 obtain⟨h1,h⟩:=jM h
 obtain⟨ms,hms⟩:=jk0 h1
 exact⟨_,[],h,fun u=>QEx.ifNil neg ho hms (Jl u ha) (jiA hb)⟩
def arrK (cx:Ctx P tb)(E:tb.Ix)(l:List (tb.T E)):Nat->Nat->List (SV tb)->(List (SV tb)->Option ρ)->Option ρ
 |_,0,a,k=>k a
 |i,n+1,a,k=>Let (ixd (cx.cd E).inh l (i:Int)) fun x=>arrK cx E l (i+1) n (a++(cx.cd E).cs x) k
theorem jjT {E:tb.Ix}{l:List (tb.T E)}:∀{n i:Nat} {a:List (SV tb)} {k:List (SV tb)->Option ρ} {r},arrK cx E l i n a k=some r->i+n<=l.length->avL a=((l.take i).map (tb.el E)).flatMap AV.cells->
 ∃b,k b=some r/\avL b=((l.take (i+n)).map (tb.el E)).flatMap AV.cells
 |0,i,a,k,r,h,_,ha=>⟨a,h,ha⟩
 |n + 1,i,a,k,r,h,hl,ha=>by
  have h:=(show arrK cx E l (i+1) n (a++(cx.cd E).cs (ixd (cx.cd E).inh l (i:Int))) k=some r from h)
  have hlt:i<l.length:=by omega
  have hg:=jcz (d:=(cx.cd E).inh) (l:=l) (i:=(i:Int)) ⟨by omega,by omega⟩
  rw[Int.toNat_natCast]at hg
  obtain⟨b,h1,h2⟩:=jjT h (by omega) (by
   rw[Ya,ha,(cx.ok E).cs,List.take_succ,hg]
   simp)
  exact⟨b,h1,by rw[h2,show i+1+n=i+(n+1) by omega]⟩
def qArr (cx:Ctx P tb)(L:SLS tb)(G:Gd)(t:Nat)(y:Operand)(k:SV tb->List Nat->Option ρ):Option ρ:=
 got (opd L G y) fun a=>got (P.underlying t) fun D=>got (jbs D) fun p=>match a with
 | .sl _ E l=>tst (Nat.ble 1 p.1) <|chk G (p.1<=l.length) <|arrK cx E l 0 p.1 [] fun b=>k (.cp b) []
 |_=>none
theorem jku {L:SLS tb}{G o t y}{k:SV tb->List Nat->Option ρ}{r}(ho:o.op=.sliceToArrayPointer t y)(h:qArr cx L G t y k=some r)(hG:G=[]):QOk P L G o k r:=by
 subst hG
 unfold qArr at h
 obtain⟨a,ha,h⟩:=jd h
 obtain⟨D,hD,h⟩:=jd h
 obtain⟨p,hp,h⟩:=jd h
 rw[xD hp]at hD
 have hy:=fun u=>Jl (L:=L) (G:=[]) u ha
 cases a with
 |sl c E l=>
  obtain⟨h1,h⟩:=jM (show tst (Nat.ble 1 p.1) _=some r from h)
  obtain⟨hc,h⟩:=kR h
  have hc:=hc rfl
  obtain⟨b,h,hb⟩:=jjT h (by omega) (by simp[avL])
  refine⟨_,[],h,fun u=>?_⟩
  have:=QEx.KO ho hD (hy u) (by rw[List.length_map];exact hc) (Nat.le_of_ble_eq_true h1) (cx.ok E).pos
  rw[<-List.map_take]at this
  simp only[SV.av]
  rw[hb,Nat.zero_add];exact this
 |_=>cases h
theorem QEx.sliceC {o:Oper}{e:Env}{t y E n sz}{l:List AV}(ho:o.op=.slice t y none none none)(hT:P.underlying t=some (.array n E))(hs:tSz P E=some sz)(hy:jK e y (.kQ (l.flatMap AV.cells)))
 (hl:l.length=n) (hc:∀x∈l,x.cells.length=sz) (h0:0<n):QEx P o e [] (.sl false sz l):=
 .pure fun _ _ _ m bl ac w _ _ hr=>by
  have h1:=hy.rep hr (by simp[ho,Op.operands])
  generalize hv:ac.eval y=v at h1
  cases h1 with
  |kQ g1 g2 g3=>
   rename_i b off cs
   have e1:(Instr.sliceBounds false n n none none none).run P w=.ok (0,n,n) w:=by simp[Instr.sliceBounds]
   refine⟨.slice (some ⟨b,off,none⟩) n n,?_,?_⟩
   ·simp only[execOp,ho,hv,Instr.sliceAt,Sem.run_bind,je hT,Result.andThen_ok,Instr.sureAddr,Option.map_none,e1,jx hs,Sem.run_pure]
    simp[Nat.ne_of_gt h0,Yc]
   ·subst hl
    exact .sl hc g1 g2 (fun _=>rfl) g3 (Nat.le_refl _) (fun h=>by cases h)
def jln (cx:Ctx P tb)(E:tb.Ix):Nat->List (SV tb)->Option (List (tb.T E))
 |0,l=>match l with| []=>some [] |_::_=>none
 |n+1,l=>got ((cx.cd E).ofC (l.take (tb.sz E))) fun z=>got (jln cx E n (l.drop (tb.sz E))) fun r=>some (z::r)
theorem jdQ {E:tb.Ix}:∀{n:Nat} {l:List (SV tb)} {r},jln cx E n l=some r->KF (avL l) (elC tb E r)/\r.length=n
 |0,l,r,h=>by
  cases l with
  |nil=>cases h;exact⟨.refl _,rfl⟩
  |cons=>cases h
 |n+1,l,r,h=>by
  obtain⟨z,hz,h⟩:=jd (show got ((cx.cd E).ofC (l.take (tb.sz E))) _=some r from h)
  obtain⟨r',hr,h⟩:=jd h
  cases h
  have h1:=((cx.ok E).ofC _ _ hz).1
  obtain⟨g1,g2⟩:=jdQ hr
  have h2:=h1.append g1
  rw[<-Ya,List.take_append_drop]at h2
  exact⟨h2,by rw[List.length_cons,g2]⟩
def jkv (cx:Ctx P tb)(L:SLS tb)(G:Gd)(t:Nat)(y:Operand)(k:SV tb->List Nat->Option ρ):Option ρ:=
 got (opd L G y) fun a=>got (P.underlying t) fun D=>got (jbs D) fun p=>got (tSz P p.2) fun n=>got (tb.look p.2) fun E=>match a with
 | .cp l=>tst (Nat.beq n (tb.sz E)) <|tst (Nat.ble 1 p.1) <|got (jln cx E p.1 l) fun r=>k (.sl false E r) []
 |_=>none
theorem jh9 {L:SLS tb}{G o t y}{k:SV tb->List Nat->Option ρ}{r}(ho:o.op=.slice t y none none none)(h:jkv cx L G t y k=some r):QOk P L G o k r:=by
 unfold jkv at h
 obtain⟨a,ha,h⟩:=jd h
 obtain⟨D,hD,h⟩:=jd h
 obtain⟨p,hp,h⟩:=jd h
 rw[xD hp]at hD
 obtain⟨n,hn,h⟩:=jd h
 obtain⟨E,hE,h⟩:=jd h
 have hy:=fun u=>Jl (L:=L) (G:=G) u ha
 cases a with
 |cp l=>
  have g1:=jM h
  have g2:=jM g1.2
  obtain⟨q,hq,g3⟩:=jd g2.2
  obtain⟨c1,c2⟩:=jdQ hq
  refine⟨_,[],g3,fun u=>?_⟩
  rw[Nat.eq_of_beq_eq_true g1.1]at hn
  have hy2:jK L.E y (.kQ ((q.map (tb.el E)).flatMap AV.cells)):=(hy u).sub (.kQ c1)
  exact QEx.sliceC ho hD hn hy2 (by rw[List.length_map];exact c2) (qc cx.ok) (Nat.le_of_ble_eq_true g2.1)
 |_=>cases h
def isCp:Option (SV tb)->Bool
 |some (.cp _)=>true
 |_=>false
end
end
section
open Go.RowKit
variable [GlC]
section
variable {P:Program} {o:Oper} {e:Env}
theorem QEx.jj7 {t y hi mx E sz by_ id k k' need}{xs:List AV}(ho:o.op=.slice t y none (some hi) (some mx))(ht:Vu P t E sz by_)(hy:jK e y (.rw id sz))(hn:(id,xs.flatMap AV.cells)∈need)(hxs:∀x∈xs,x.cells.length=sz)(hp:0<sz)
 (hhi:jK e hi (.v (.int k xs.length))) (hmx:jK e mx (.v (.int k' xs.length))):QEx P o e need (.rw id sz):=
 .pure fun _ _ _ m bl ac w hws hnd hr=>by
  have q1:=hy.rep hr (by simp[ho,Op.operands])
  have q2:=(hhi.rep hr (by simp[ho,Op.operands])).zj
  have q3:=(hmx.rep hr (by simp[ho,Op.operands])).zj
  generalize hv:ac.eval y=v at q1
  have hf:=hnd _ hn
  have hfl:=Qu hxs
  cases q1 with
  |rwnil hb=>
   rename_i ad
   have:xs=[]:=by
    rcases hws.blk id _ hf with ⟨-,g⟩|⟨b,n,arr,T,pre,rest,g1,-⟩
    ·rw[show(xs.flatMap AV.cells)=[]from g]at hfl
     rcases Nat.mul_eq_zero.1 (show xs.length*sz=0 by rw[<-hfl];rfl)with h|h
     ·exact List.eq_nil_of_length_eq_zero h
     ·omega
    ·rw[g1]at hb;cases hb
   subst this
   refine⟨.slice ad 0 0,?_,.rwnil hb⟩
   simp[execOp,ho,hv,Instr.sliceAt,je ht.under,Instr.slice,Instr.sliceBounds,q2,q3,Instr.sliceBound,asIntOf,jx ht.sz,Addr.add]
  |rw hb g1 g2 g3=>
   rename_i b n cap len
   obtain⟨arr,T,pre,rest,r1,r2,r3,r4,r5⟩:=hws.at_ hf hb
   have hn2:n.2=pre.length:=by rw[<-r2]
   have:len=xs.length:=Nat.eq_of_mul_eq_mul_right hp (by rw[g1,hn2,<-r4.length,hfl])
   subst this
   refine⟨.slice (some ⟨b,0,none⟩) xs.length xs.length,?_,.rw hb g1 (Nat.le_refl _) (Nat.le_trans (Nat.mul_le_mul_right _ g2) g3)⟩
   have hc:(xs.length:Int)<=(cap:Int):=by omega
   have h0:0<=(xs.length:Int):=by omega
   simp[execOp,ho,hv,Instr.sliceAt,je ht.under,Instr.slice,Instr.sliceBounds,q2,q3,Instr.sliceBound,asIntOf,jx ht.sz,Addr.add,h0,hc]
   try (intro h;omega)
end
section
variable {P:Program} {tb:Tb} {ρ:Type} {cx:Ctx P tb}
def jdj (L:SLS tb)(G:Gd)(t id:Nat)(E:tb.Ix)(hi mx:Operand)(P:Program)(k:SV tb->List Nat->Option ρ):Option ρ:=
 got (opd L G hi) fun b=>got (asI b) fun p=>got (opd L G mx) fun c=>got (asI c) fun q=>got (XL P t (tb.sz E)) fun _=>got (KO L id E) fun l=>chk G (p.2=(l.length:Int)/\q.2=(l.length:Int)) (k (.rw id E) [id])
def MD (cx:Ctx P tb)(L:SLS tb)(G:Gd)(t:Nat)(y hi mx:Operand)(k:SV tb->List Nat->Option ρ):Option ρ:=match opd L G y with
 |some (.rw id E)=>jdj L G t id E hi mx P k
 |_=>jce P L G t y hi mx k
theorem jcc {L:SLS tb}{G o t y hi mx}{k:SV tb->List Nat->Option ρ}{r}(ho:o.op=.slice t y none (some hi) (some mx))(h:MD cx L G t y hi mx k=some r):QOk P L G o k r:=by
 unfold MD at h
 split at h
 ·rename_i id E ha
  unfold jdj at h
  obtain⟨b,hb,h⟩:=jd h
  obtain⟨p,hp,h⟩:=jd h
  obtain⟨c,hc1,h⟩:=jd h
  obtain⟨q,hq,h⟩:=jd h
  obtain⟨ET,hE,h⟩:=jd h
  obtain⟨l,hl,h⟩:=jd h
  have hl:=zB hl
  obtain⟨hc,h⟩:=kR h
  have hy:=fun u=>Jl (L:=L) (G:=G) u ha
  have hz:=fun u=>Jl (L:=L) (G:=G) u hb
  have hw:=fun u=>Jl (L:=L) (G:=G) u hc1
  rw[vb hp]at hz
  rw[vb hq]at hw
  refine⟨_,_,h,fun u=>?_⟩
  rw[yY hl]
  obtain⟨h1,h2⟩:=hc u.on
  rw[h1]at hz
  rw[h2]at hw
  exact QEx.jj7 (xs:=l.map (tb.el E)) ho (Vk hE) (hy u) (show _∈[(id,elC tb E l)]from jhF) (qc cx.ok) (cx.ok E).pos (by rw[List.length_map];exact hz u) (by rw[List.length_map];exact hw u)
 ·exact jej ho h
end
end
section
open Go.RowKit
variable [GlC]
section
variable {P:Program} {tb:Tb} {ρ:Type} {cx:Ctx P tb}
def jhm (c:Call):Option (Operand × Nat):=match c.args.toList,c.argTypes.toList with
 | [y],[t]=>some (y,t)
 |_,_=>none
theorem jcU {c:Call}{p}(h:jhm c=some p):c.args=#[p.1]/\c.argTypes=#[p.2]:=by
 unfold jhm at h
 split at h
 ·rename_i y t h1 h2
  cases h
  exact⟨Array.toArray_toList.symm.trans (by rw[h1]),Array.toArray_toList.symm.trans (by rw[h2])⟩
 ·cases h
def my (c:Call):Option (Operand × Operand):=match c.args.toList with
 | [y,z]=>some (y,z)
 |_=>none
theorem xY {c:Call}{p}(h:my c=some p):c.args=#[p.1,p.2]:=by
 unfold my at h
 split at h
 ·rename_i y z h1
  cases h
  exact Array.toArray_toList.symm.trans (by rw[h1])
 ·cases h
def pA (c:Call):Option (Nat × Nat):=match c.argTypes.toList with
 | [y,z]=>some (y,z)
 |_=>none
theorem XT {c:Call}{p}(h:pA c=some p):c.argTypes=#[p.1,p.2]:=by
 unfold pA at h
 split at h
 ·rename_i y z h1
  cases h
  exact Array.toArray_toList.symm.trans (by rw[h1])
 ·cases h
def jfV (cx:Ctx P tb)(L:SLS tb)(G:Gd)(c:Call)(k:SV tb->List Nat->Option ρ):Option ρ:=match c.callee with
 | .value y=>jks cx L G y c.args k
 | .builtin b=>(match b with
   | .len=>got (jhm c) fun p=>jkn cx L G p.1 p.2 k
   | .cap=>got (jhm c) fun p=>qCap P L G p.1 p.2 k
   | .max=>got (my c) fun p=>qMM L G true p.1 p.2 k
   | .min=>got (my c) fun p=>qMM L G false p.1 p.2 k
   |_=>none)
 |_=>none
theorem jfU {L:SLS tb}{G o c}{k:SV tb->List Nat->Option ρ}{r}(ho:o.op=.call c)(h:jfV cx L G c k=some r):QOk P L G o k r:=by
 obtain⟨ce,ar,ty⟩:=c
 unfold jfV at h
 split at h
 ·rename_i y hy
  simp only at hy;subst hy
  exact jh8 (cx:=cx) ho h
 ·rename_i b hb
  simp only at hb;subst hb
  split at h
  ·obtain⟨p,hp,h⟩:=jd h
   obtain⟨h1,h2⟩:=jcU hp
   simp only at h1 h2;subst h1 h2
   exact jh6 (cx:=cx) ho h
  ·obtain⟨p,hp,h⟩:=jd h
   obtain⟨h1,h2⟩:=jcU hp
   simp only at h1 h2;subst h1 h2
   exact jkr ho h
  ·obtain⟨p,hp,h⟩:=jd h
   have h1:=xY hp
   simp only at h1;subst h1
   exact jjn (.inl ⟨rfl,ho⟩) h
  ·obtain⟨p,hp,h⟩:=jd h
   have h1:=xY hp
   simp only at h1;subst h1
   exact jjn (.inr ⟨rfl,ho⟩) h
  ·cases h
 ·cases h
def qop (cx:Ctx P tb)(L:SLS tb)(G:Gd)(op:Op)(k:SV tb->List Nat->Option ρ):Option ρ:=match op with
 | .move y=>jh4 L G y k
 | .assign y=>jh4 L G y k
 | .pick c y z=>jkg L G c y z k
 | .load t y=>jkl cx L G t y k
 | .nilCheck y=>qNil L G y k
 | .binOp op t y z yt=>(match jgA z with
   |true=>(match op with
    | .eql=>jh3 P L G false t y k
    | .neq=>jh3 P L G true t y k
    |_=>none)
   |false=>qBin cx L G op t y z yt k)
 | .unOp op _ y=>qUn L G op y k
 | .convert s d y=>jfT cx L G s d y k
 | .slice t y lo hi mx=>(match mx with
   |none=>(match lo,hi,isCp (opd L G y)with
    |none,none,true=>jkv cx L G t y k
    |_,_,_=>jcb cx L G t y lo hi k)
   |some m=>match lo,hi with
    |none,some h=>MD cx L G t y h m k
    |some l,some h=>ME cx L G t y l h m k
    |_,_=>none)
 | .fieldAddr t y f=>jcf P L G t y f k
 | .field t y f=>jfR P L G t y f k
 | .indexAddr t y z=>qIxA cx L G t y z k
 | .index t y z=>qIx cx L G t y z k
 | .extract y i=>qExt L G y i k
 | .build t ps=>jfX P L G t ps k
 | .buildSlice t n ps=>jcg cx L G t n ps k
 | .makeFunc fn fi ca=>qMkF L G fn fi ca k
 | .call c=>jfV cx L G c k
 | .makeInterface t y=>qMkI P L G t y k
 | .typeAssert y _ t true=>qOut P L G y t k
 | .sliceToArrayPointer t y=>(match G with
   | []=>qArr cx L [] t y k
   |_::_=>none)
 |_=>none
theorem jjk {L:SLS tb}{G o}{k:SV tb->List Nat->Option ρ}{r}(h:qop cx L G o.op k=some r):QOk P L G o k r:=by
 unfold qop at h
 split at h
 ·exact jdm (.inl ‹_›) h
 ·exact jdm (.inr ‹_›) h
 ·exact jh2 ‹_› h
 ·exact jh5 (cx:=cx) ‹_› h
 ·exact jki ‹_› h
 ·rename_i ho
  split at h
  ·rename_i hz
   rw[jiw hz]at ho
   split at h
   ·exact jdl (neg:=false) ho h
   ·exact jdl (neg:=true) ho h
   ·cases h
  ·exact jkt (cx:=cx) ho h
 ·exact qUn_ok ‹_› h
 ·exact jfS (cx:=cx) ‹_› h
 ·split at h
  ·split at h
   ·exact jh9 (cx:=cx) ‹_› h
   ·exact jei (cx:=cx) ‹_› h
  ·split at h
   ·exact jcc (cx:=cx) ‹_› h
   ·exact jcd (cx:=cx) ‹_› h
   ·cases h
 ·exact jek ‹_› h
 ·exact jfQ ‹_› h
 ·exact jko (cx:=cx) ‹_› h
 ·exact qIx_ok (cx:=cx) ‹_› h
 ·exact jkp ‹_› h
 ·exact jfW ‹_› h
 ·exact jel (cx:=cx) ‹_› h
 ·exact jkk ‹_› h
 ·exact jfU (cx:=cx) ‹_› h
 ·exact jkj ‹_› h
 ·exact jkh ‹_› h
 ·split at h
  ·exact jku (cx:=cx) ‹_› h rfl
  ·cases h
 ·cases h
structure KL where
 re:List Nat
 rh:List Nat
 we:List Nat
 wh:List Nat
 nm:List Nat
structure KOf (c:Loc)(κ:KL):Prop where
 re:∀p∈c.re,p.1∈κ.re
 rh:∀p∈c.rh,p.1∈κ.rh
 we:∀p∈c.we,p.1∈κ.we
 wh:∀p∈c.wh,p.1∈κ.wh
 nm:c.nm=κ.nm
theorem zb {e:Env}:∀{ts:List Nat},∀p∈xl e ts,p.1∈ts
 | [],p,h=>by simp[xl]at h
 |t :: ts,p,h=>by
  simp only[xl]at h
  split at h
  ·rcases List.mem_cons.1 h with rfl|h
   ·exact List.mem_cons_self
   ·exact List.mem_cons_of_mem _ (zb p h)
  ·exact List.mem_cons_of_mem _ (zb p h)
theorem uQ {L:SLS tb}:∀{ids},∀p∈qG L ids,p.1∈ids
 | [],p,h=>by simp[qG]at h
 |id::r,p,h=>by
  simp only[qG]at h
  split at h
  ·rcases List.mem_cons.1 h with rfl|h
   ·exact List.mem_cons_self
   ·exact List.mem_cons_of_mem _ (uQ p h)
  ·exact List.mem_cons_of_mem _ (uQ p h)
def RI (gs:List Nat)(e:VP tb):Prop:=∀t G x,find t e=some (.opt G x)->GD e G/\G≠[]/\∀g∈G,g.1∈gs
theorem RI.inv {gs}{e:VP tb}(h:RI gs e):GInv e:=fun t G x hf=>⟨(h t G x hf).1,(h t G x hf).2.1⟩
def Uv:SV tb->Bool
 | .opt _ _=>false
 |_=>true
def WR (d:Nat):List Nat->Bool
 | []=>false
 |x::l=>match Nat.beq d x with|true=>true|false=>WR d l
theorem Xs {d:Nat}:∀{l:List Nat},WR d l=true↔d∈l
 | []=>by simp[WR]
 |x :: l=>by
  simp only[WR,List.mem_cons]
  split
  ·rename_i h;simp[Nat.eq_of_beq_eq_true h]
  ·rename_i h
   have:d≠x:=fun e=>by subst e;rw[Nat.beq_refl]at h;cases h
   rw[Xs];simp[this]
theorem GD.put {e:VP tb}{d x}:∀{G:Gd},GD e G->(∀g∈G,g.1≠d)->GD ((d,x)::e) G
 | [],_,_=>trivial
 |(s,w,t)::G,h,hn=>by
  obtain⟨h1,y,hy,h2⟩:=h
  have hs:d≠s:=Ne.symm (hn (s,w,t) (by simp))
  refine⟨GD.put h1 fun g hg=>hn g (List.mem_cons_of_mem _ hg),y,hy,?_⟩
  rw[jk,if_neg hs]
  exact h2
theorem RI.put {gs}{e:VP tb}{d x}(h:RI gs e)(hd:WR d gs=false)(hx:Uv x=true):RI gs ((d,x)::e):=by
 have hd':∀g∈gs,g≠d:=by rintro g hg rfl;rw[Xs.2 hg]at hd;cases hd
 intro t G y hf
 rw[jk]at hf
 split at hf
 ·cases hf;cases hx
 ·obtain⟨h1,h2,h3⟩:=h t G y hf
  exact⟨h1.put fun g hg=>hd' _ (h3 g hg),h2,h3⟩
theorem RI.putG {gs}{e:VP tb}{d x s G}(h:RI gs e)(hd:WR d (s::gs)=false)(hG:GD e G)(h0:G≠[])(hs:∀g∈G,g.1∈s::gs):RI (s::gs) ((d,.opt G x)::e):=by
 have hd':∀g∈s::gs,g≠d:=by rintro g hg rfl;rw[Xs.2 hg]at hd;cases hd
 intro t G' y hf
 rw[jk]at hf
 split at hf
 ·cases hf
  exact⟨hG.put fun g hg=>hd' _ (hs g hg),h0,hs⟩
 ·obtain⟨h1,h2,h3⟩:=h t G' y hf
  have h4:∀g∈G',g.1∈s::gs:=fun g hg=>List.mem_cons_of_mem _ (h3 g hg)
  exact⟨h1.put fun g hg=>hd' _ (h4 g hg),h2,h4⟩
def LOk (P:Program)(N:Nat)(ops:Array Oper)(o:Oper)(L:SLS tb)(k:SLS tb->List Nat->KL->Option ρ)(r:ρ):Prop:=
 ∃(L':SLS tb) (gs:List Nat) (κ:KL) (c:Loc),k L' gs κ=some r/\KOf c κ/\LEx P ops N o c/\(∀p∈c.re,find p.1 L.av.e=some p.2)/\(∀p∈c.rh,find p.1 L.av.h=some p.2)/\
  (∀d∈c.nm,L.nx<=d/\d<L'.nx)/\L.nx<=L'.nx/\L'.s=L.s/\L'.gn=L.gn/\L'.av.e=c.we++L.av.e/\L'.av.h=c.wh++L.av.h/\
  (∃p,L'.e=p++L.e)/\(∃p,L'.h=p++L.h)/\RI gs L'.e
def put (N:Nat)(gs:List Nat)(L:SLS tb)(d:Nat)(x:SV tb)(k:SLS tb->Option ρ):Option ρ:=
 tst (Nat.blt d N) <|tst (!WR d gs) <|tst (x.has (Qh L.gn)) <|k {L with e:=(d,x)::L.e}
theorem me {N gs}{L:SLS tb}{d x}{k:SLS tb->Option ρ}{r}(h:put N gs L d x k=some r):d<N/\WR d gs=false/\x.res L.gn=x/\k {L with e:=(d,x)::L.e}=some r:=by
 obtain⟨h1,h⟩:=jM h
 obtain⟨h2,h⟩:=jM h
 obtain⟨h3,h⟩:=jM h
 exact⟨Nat.le_of_ble_eq_true h1,by simpa using h2,kp h3,h⟩
def lq (cx:Ctx P tb)(N:Nat)(ops:Array Oper)(L:SLS tb)(gs:List Nat)(o:Oper)(k:SLS tb->List Nat->KL->Option ρ):Option ρ:=
 qop cx L [] o.op fun x need=>match o.dst with
 |some d=>tst (Uv x) <|put N gs L d x fun L'=>k L' gs ⟨o.looksAt ops,need,[d],[],[]⟩
 |none=>k L gs ⟨o.looksAt ops,need,[],[],[]⟩
theorem Gu.nil {L:SLS tb}(h:GInv L.e):Gu L []:=⟨h,trivial,rfl⟩
theorem Kc {L:SLS tb}{need}:∀p∈Wt (qG L need),p.1∈need:=by
 intro p hp
 obtain⟨p',hp',rfl⟩:=List.mem_map.1 hp
 exact uQ p' hp'
theorem jet {N ops}{L:SLS tb}{gs o}{k:SLS tb->List Nat->KL->Option ρ}{r}(hi:RI gs L.e)(hg:o.guard=none)(h:lq cx N ops L gs o k=some r):LOk P N ops o L k r:=by
 unfold lq at h
 obtain⟨x,need,h,q⟩:=jjk (cx:=cx) h
 have q:=q (Gu.nil hi.inv)
 split at h
 ·rename_i d hd
  obtain⟨ho,h⟩:=jM h
  obtain⟨hN,hm,hx,h⟩:=me h
  refine⟨_,_,_,_,h,⟨zb,Kc,by simp,by simp,rfl⟩,LEx.q hg q hd hN,Zp.1,Qt.2 zI,by simp,Nat.le_refl _,rfl,rfl,?_,rfl,⟨[_],rfl⟩,⟨[],rfl⟩,hi.put hm ho⟩
  show(d,(x.res L.gn).av)::_=_
  rw[hx];rfl
 ·rename_i hd
  exact⟨_,_,_,_,h,⟨zb,Kc,by simp,by simp,rfl⟩,LEx.qn hg q hd,Zp.1,Qt.2 zI,by simp,Nat.le_refl _,rfl,rfl,rfl,rfl,⟨[],rfl⟩,⟨[],rfl⟩,hi⟩
def lg (cx:Ctx P tb)(N:Nat)(ops:Array Oper)(L:SLS tb)(gs:List Nat)(o:Oper)(j:Nat)(w:Bool)(k:SLS tb->List Nat->KL->Option ρ):Option ρ:=
 got o.dst fun d=>got ((ops[j]?).bind (·.dst)) fun s=>got (gdAt L.e s w) fun G=>
 qop cx L G o.op fun x need=>put N (s::gs) L d (.opt G x) fun L'=>k L' (s::gs) ⟨o.looksAt ops,need,[d],[],[]⟩
theorem jk5 {gs}{e:VP tb}{s w G}(hi:RI gs e)(h:gdAt e s w=some G):∃b G',G=(s,w,b)::G'/\GD e G/\∀g∈G,g.1∈s::gs:=by
 unfold gdAt at h
 split at h
 ·rename_i G' y hf
  split at h
  ·cases h
  ·rename_i g G'
   split at h
   ·rename_i b hb
    cases h
    obtain⟨h1,h2,h3⟩:=hi _ _ _ hf
    refine⟨b,g::G',rfl,⟨h1,y,hb,.inr ⟨hf,by simp⟩⟩,?_⟩
    intro p hp
    rcases List.mem_cons.1 hp with rfl|hp
    ·simp
    ·exact List.mem_cons_of_mem _ (h3 p hp)
   ·cases h
 ·rename_i y hne hf
  split at h
  ·rename_i b hb
   cases h
   exact⟨b,[],rfl,⟨trivial,y,hb,.inl ⟨hf,rfl⟩⟩,by simp⟩
  ·cases h
 ·cases h
theorem lg_ok {N ops}{L:SLS tb}{gs o j w}{k:SLS tb->List Nat->KL->Option ρ}{r}(hi:RI gs L.e)(hg:o.guard=some (j,w))(h:lg cx N ops L gs o j w k=some r):LOk P N ops o L k r:=by
 unfold lg at h
 obtain⟨d,hd,h⟩:=jd h
 obtain⟨s,hs,h⟩:=jd h
 obtain⟨G,hG,h⟩:=jd h
 obtain⟨x,need,h,q⟩:=jjk (cx:=cx) h
 obtain⟨hN,hm,hx,h⟩:=me h
 obtain⟨b,G',rfl,hGD,hgs⟩:=jk5 hi hG
 have hc:gc ((s,w,b)::G')=(gc G'&&(b==w)):=by rw[jeC,jeC];rfl
 refine⟨_,_,_,_,h,⟨zb,Kc,by simp,by simp,rfl⟩,LEx.g (x:=x.av) (c:=gc G') (t:=b) hg hs hGD.gv (fun hc2=>q ⟨hi.inv,hGD,by rw[hc];exact hc2⟩) hd hN,Zp.1,Qt.2 zI,by simp,Nat.le_refl _,rfl,rfl,?_,rfl,⟨[_],rfl⟩,⟨[],rfl⟩,hi.putG hm hGD (by simp) hgs⟩
 show(d,((SV.opt _ x).res L.gn).av)::_=_
 rw[hx]
 show(d,AV.opt (gc ((s,w,b)::G')) x.av)::_=_
 rw[hc];rfl
end
end
section
open Go.RowKit
variable [GlC]
theorem Vs.subB {B m0 id Z Z' h m bl w}(s:Vs B m0 ((id,.cells Z)::h) m bl w)(hs:KF Z Z'):Vs B m0 ((id,.cells Z')::h) m bl w:=by
 refine⟨s.imm,s.le,s.grow,?_,?_,s.own,s.inj,s.gl⟩
 ·intro i l hf
  rw[jk]at hf
  split at hf
  ·rename_i hi;subst hi
   cases hf
   rcases s.blk id Z (by rw[jk,if_pos rfl])with ⟨h1,h2⟩|⟨b,n,arr,T,pre,rest,g1,g2,g3,g4,g5,g6⟩
   ·refine .inl ⟨h1,?_⟩
    subst h2
    have:=hs m bl [] .nil
    cases this;rfl
   ·exact .inr ⟨b,n,arr,T,pre,rest,g1,g2,g3,g4,hs _ _ _ g5,g6⟩
  ·rename_i hi
   exact s.blk i l (by rw[jk,if_neg hi];exact hf)
 ·intro i x p hf
  rw[jk]at hf
  split at hf
  ·cases hf
  ·rename_i hi
   exact s.it i x p (by rw[jk,if_neg hi];exact hf)
theorem LEx.wsub {P ops N o re rh we id Z Z' nm}(h:LEx P ops N o ⟨re,rh,we,[(id,.cells Z)],nm⟩)(hs:KF Z Z'):LEx P ops N o ⟨re,rh,we,[(id,.cells Z')],nm⟩:=by
 intro e s h0 f f' h1 h2 h3 h4 W0 m0 sa m bl a w S next Q k
 refine h e s h0 f f' h1 h2 h3 h4 W0 m0 sa m bl a w S next Q ?_
 intro a' w' m' bl' S'
 exact k a' w' m' bl' ⟨S'.defers,S'.size,S'.below,S'.ws.subB hs,S'.env,S'.stk,S'.free⟩
section
variable {P:Program} {tb:Tb} {ρ:Type} {cx:Ctx P tb}
def jkw (L:SLS tb)(id:Nat)(c:SC tb)(k:SLS tb->Option ρ):Option ρ:=tst (Qh L.gn id) <|tst (c.has (Qh L.gn)) <|k {L with h:=(id,c)::L.h}
theorem SC.kp {g:Gn tb}{c:SC tb}(h:c.has (Qh g)=true):c.res g=c:=by
 cases c with
 |cells l=>show SC.cells _=_;rw[Zz h]
 |arr E l=>rfl
 |iter s p=>rfl
theorem pR {L:SLS tb}{id c}{k:SLS tb->Option ρ}{r}(h:jkw L id c k=some r):avH L.gn ((id,c)::L.h)=(id,c.av)::avH L.gn L.h/\k {L with h:=(id,c)::L.h}=some r:=by
 obtain⟨h1,h⟩:=jM h
 obtain⟨h2,h⟩:=jM h
 refine⟨?_,h⟩
 unfold avH
 rw[List.filter_cons,if_pos h1,List.map_cons,SC.kp h2]
def jem (N:Nat)(gs:List Nat)(L:SLS tb)(d:Nat)(x:SV tb)(c:SC tb)(k:SLS tb->Option ρ):Option ρ:=
 tst (Uv x) <|put N gs L d x fun L'=>jkw L' L.nx c fun L''=>k {L'' with nx:=L.nx+1}
def chop (cx:Ctx P tb)(E:tb.Ix):Nat->List (SV tb)->Option (List (tb.T E))
 |0,l=>tst (isE l) (some [])
 |n+1,l=>got ((cx.cd E).ofC (l.take (tb.sz E))) fun z=>got (chop cx E n (l.drop (tb.sz E))) fun r=>some (z::r)
theorem jcO {E:tb.Ix}:∀{n:Nat} {l:List (SV tb)} {r},chop cx E n l=some r->KF (avL l) (elC tb E r)
 |0,l,r,h=>by
  obtain⟨h1,h⟩:=jM h
  cases h
  rw[jgC h1];exact .refl _
 |n+1,l,r,h=>by
  obtain⟨z,hz,h⟩:=jd (show got ((cx.cd E).ofC (l.take (tb.sz E))) _=some r from h)
  obtain⟨r',hr,h⟩:=jd h
  cases h
  have h1:=((cx.ok E).ofC _ _ hz).1
  have h2:=h1.append (jcO hr)
  rw[<-Ya,List.take_append_drop]at h2
  exact h2
def bigAr:TypeDesc->Option (Nat × Nat)
 | .array n e=>match Nat.blt 4 n with|true=>some (n,e)|false=>none
 |_=>none
def someAr:TypeDesc->Option (Nat × Nat)
 | .array n e=>some (n,e)
 |_=>none
def jgo (cx:Ctx P tb)(N:Nat)(ops:Array Oper)(L:SLS tb)(gs:List Nat)(o:Oper)(T:Nat)(im:Bool)(k:SLS tb->List Nat->KL->Option ρ):Option ρ:=
 got o.dst fun d=>got (jd2 P T) fun Z=>match (P.underlying T).bind (match im with|true=>someAr|false=>bigAr)with
 |some p=>got (tb.look p.2) fun E=>got (chop cx E p.1 Z) fun l=>jem N gs L d (.ptr L.nx 0) (.arr E l) fun L'=>k L' gs ⟨o.looksAt ops,[],[d],[L.nx],[L.nx]⟩
 |none=>jem N gs L d (.ptr L.nx 0) (.cells Z) fun L'=>k L' gs ⟨o.looksAt ops,[],[d],[L.nx],[L.nx]⟩
theorem wg {N ops}{L:SLS tb}{gs o d x c Z}{rh:Hp}{k:SLS tb->List Nat->KL->Option ρ}{κ r}(hi:RI gs L.e)(hc:c.av=.cells Z)
 (hl:d<N->LEx P ops N o ⟨xl L.E (o.looksAt ops),rh,[(d,x.av)],[(L.nx,.cells Z)],[L.nx]⟩) (hrh:∀p∈rh,find p.1 L.av.h=some p.2) (hk:∀p∈rh,p.1∈κ.rh) (h1:κ.re=o.looksAt ops) (h2:κ.we=[d]) (h3:κ.wh=[L.nx]) (h4:κ.nm=[L.nx])
 (h:jem N gs L d x c (fun L'=>k L' gs κ)=some r):LOk P N ops o L k r:=by
 unfold jem at h
 obtain⟨ho,h⟩:=jM h
 obtain⟨hN,hm,hx,h⟩:=me h
 obtain⟨hh,h⟩:=pR h
 refine⟨_,_,_,_,h,⟨?_,hk,?_,?_,h4.symm⟩,hl hN,Zp.1,hrh,?_,Nat.le_succ _,rfl,rfl,?_,?_,⟨[_],rfl⟩,⟨[_],rfl⟩,hi.put hm ho⟩
 ·rw[h1];exact zb
 ·rw[h2];simp
 ·rw[h3];simp
 ·intro y hy;simp at hy;subst hy;exact⟨Nat.le_refl _,Nat.lt_succ_self _⟩
 ·show(d,(x.res L.gn).av)::_=_
  rw[hx];rfl
 ·show avH L.gn ((L.nx,c)::L.h)=_
  rw[hh,hc];rfl
theorem jgn {N ops}{L:SLS tb}{gs o T im}{k:SLS tb->List Nat->KL->Option ρ}{r}(hi:RI gs L.e)(hg:o.guard=none)(ho:o.op=.alloc T)(h:jgo cx N ops L gs o T im k=some r):LOk P N ops o L k r:=by
 unfold jgo at h
 obtain⟨d,hd,h⟩:=jd h
 obtain⟨Z,hZ,h⟩:=jd h
 split at h
 ·obtain⟨E,hE,h⟩:=jd h
  obtain⟨l,hl,h⟩:=jd h
  exact wg (rh:=[]) hi rfl (fun hN=>(LEx.alloc hg ho (UT hZ) hd hN).wsub (jcO hl)) (by simp) (by simp) rfl rfl rfl rfl h
 exact wg (rh:=[]) hi rfl (fun hN=>LEx.alloc hg ho (UT hZ) hd hN) (by simp) (by simp) rfl rfl rfl rfl h
def lBox (N:Nat)(ops:Array Oper)(L:SLS tb)(gs:List Nat)(o:Oper)(y:Operand)(im:Bool)(k:SLS tb->List Nat->KL->Option ρ):Option ρ:=
 got o.dst fun d=>got (opd L [] y) fun x=>tst (pC x) (match im with
 |true=>tst (MX (fun _=>false) (kT x)) <|put N gs L d (.cp (kT x)) fun L'=>k L' gs ⟨o.looksAt ops,[],[d],[],[]⟩
 |false=>jem N gs L d (.ptr L.nx 0) (.cells (kT x)) fun L'=>k L' gs ⟨o.looksAt ops,[],[d],[L.nx],[L.nx]⟩)
theorem jkQ {N ops}{L:SLS tb}{gs o T y im}{k:SLS tb->List Nat->KL->Option ρ}{r}(hi:RI gs L.e)(hg:o.guard=none)(ho:o.op=.box T y)(h:lBox N ops L gs o y im k=some r):LOk P N ops o L k r:=by
 unfold lBox at h
 obtain⟨d,hd,h⟩:=jd h
 obtain⟨x,hx,h⟩:=jd h
 obtain⟨hs,h⟩:=jM h
 obtain⟨g1,g2⟩:=Mm hs
 have hy:=Jl (Gu.nil hi.inv) hx
 split at h
 ·obtain⟨hb,h⟩:=jM h
  obtain⟨hN,hm,hx2,h⟩:=me h
  have hb2:=KA hb
  rw[g2]at hb2
  refine⟨_,_,_,_,h,⟨zb,by simp[Wt],by simp,by simp,rfl⟩,LEx.q hg (QEx.boxC ho hy g1 hb2) hd hN,Zp.1,by simp[Wt],by simp,Nat.le_refl _,rfl,rfl,?_,rfl,⟨[_],rfl⟩,⟨[],rfl⟩,hi.put hm rfl⟩
  show(d,AV.kQ (avL (kT x)))::_=_
  rw[g2];rfl
 ·exact wg (rh:=[]) hi (by show Mc.cells _=_;rw[g2]) (fun hN=>LEx.box hg ho hy g1 hd hN) (by simp) (by simp) rfl rfl rfl rfl h
/-! stores -/
def jgk (cx:Ctx P tb)(ops:Array Oper)(L:SLS tb)(gs:List Nat)(o:Oper)(t:Nat)(y z:Operand)(k:SLS tb->List Nat->KL->Option ρ):Option ρ:=match o.dst with
 |some _=>none
 |none=>got (opd L [] y) fun p=>got (opd L [] z) fun x=>got (tSz P t) fun n=>tst (pC x) <|tst (Nat.beq (kT x).length n) (match p with
  | .ptr id off=>got (Vl L id) fun l=>tst (Nat.ble (off+n) l.length) <|jkw L id (.cells (l.take off++kT x++l.drop (off+n))) fun L'=>k L' gs ⟨o.looksAt ops,[id],[],[id],[]⟩
  | .epr id E i fo=>got (KO L id E) fun l=>tst (Nat.ble (fo+n) (tb.sz E)) <|Chk (0<=i/\i<l.length) <|got ((cx.cd E).ofC (((cx.cd E).cs (ixd (cx.cd E).inh l i)).take fo++kT x++((cx.cd E).cs (ixd (cx.cd E).inh l i)).drop (fo+n))) fun v=>
    Let (l.set i.toNat v) fun l'=>jkw L id (.arr E l') fun L'=>k L' gs ⟨o.looksAt ops,[id],[],[id],[]⟩
  |_=>none)
theorem mA {β ρ:Type}{v:β}{k:β->Option ρ}{r:ρ}(h:Let v k=some r):k v=some r:=h
theorem XR {α:Type}{c:Prop}[Decidable c]{k:Option α}{r:α}(h:Chk c k=some r):c/\k=some r:=by
 unfold Chk at h;split at h
 ·exact⟨‹_›,h⟩
 ·cases h
theorem jgW {E:tb.Ix}:∀{l:List (tb.T E)} {i:Nat} {v:tb.T E},i<l.length->(∀x,(tb.el E x).cells.length=tb.sz E)->elC tb E (l.set i v)=(elC tb E l).take (i*tb.sz E)++(tb.el E v).cells++(elC tb E l).drop ((i+1)*tb.sz E)
 |x::l,0,v,_,hc=>by
  simp only[elC,List.set_cons_zero,List.map_cons,List.flatMap_cons,Nat.zero_mul,List.take_zero,List.nil_append,Nat.zero_add,Nat.one_mul]
  rw[<-hc x,List.drop_left]
 |x::l,i+1,v,h,hc=>by
  have ih:=jgW (l:=l) (i:=i) (v:=v) (by simpa using h) hc
  have e1:∀z,elC tb E (x::z)=(tb.el E x).cells++elC tb E z:=fun z=>rfl
  have h1:(i+1)*tb.sz E=(tb.el E x).cells.length+i*tb.sz E:=by rw[hc,Nat.add_mul];omega
  have h2:(i+1+1)*tb.sz E=(tb.el E x).cells.length+(i+1)*tb.sz E:=by rw[hc,Nat.add_mul (i+1)];omega
  rw[List.set_cons_succ,e1,e1,ih,h2,h1,List.take_length_add_append,List.drop_length_add_append]
  simp[List.append_assoc]
theorem jgj {N ops}{L:SLS tb}{gs o t y z}{k:SLS tb->List Nat->KL->Option ρ}{r}(hi:RI gs L.e)(hg:o.guard=none)(ho:o.op=.store t y z)(h:jgk cx ops L gs o t y z k=some r):LOk P N ops o L k r:=by
 unfold jgk at h
 split at h
 ·cases h
 ·rename_i hd
  obtain⟨p,hp,h⟩:=jd h
  obtain⟨x,hx,h⟩:=jd h
  obtain⟨n,hn,h⟩:=jd h
  obtain⟨hs,h⟩:=jM h
  obtain⟨hlen,h⟩:=jM h
  have hlen:=Nat.eq_of_beq_eq_true hlen
  obtain⟨g1,g2⟩:=Mm hs
  have hy:=Jl (Gu.nil hi.inv) hp
  have hz:=Jl (Gu.nil hi.inv) hx
  have hl2:x.av.cells.length=n:=by rw[<-g2,yI,hlen]
  split at h
  ·obtain⟨l,hl,h⟩:=jd h
   obtain⟨hf,h⟩:=jM h
   obtain⟨hh,h⟩:=pR h
   have hl:=vG hl
   have key:=LEx.store (l:=avL l) (ops:=ops) (N:=N) hg ho hd hn hy hz g1 hl2 (by rw[yI];exact Nat.le_of_ble_eq_true hf)
   refine⟨_,_,_,_,h,⟨zb,by simp,by simp,by simp,rfl⟩,key,Zp.1,?_,by simp,Nat.le_refl _,rfl,rfl,rfl,?_,⟨[],rfl⟩,⟨[_],rfl⟩,hi⟩
   ·intro q hq;simp at hq;subst hq;exact hl
   ·show avH L.gn _=_
    rw[hh]
    show(_,Mc.cells (avL (l.take _++kT x++l.drop _)))::_=_
    rw[Ya,Ya,KZ,va,g2];rfl
  ·rename_i id E i fo _ _ _ _
   obtain⟨l,hl,h⟩:=jd h
   obtain⟨hf,h⟩:=jM h
   have hf:=Nat.le_of_ble_eq_true hf
   obtain⟨hc,h⟩:=XR h
   obtain⟨v,hv,h⟩:=jd h
   obtain⟨hh,h⟩:=pR (mA h)
   have hl:=zB hl
   have hlt:i.toNat<l.length:=by omega
   have hm:=Nat.mul_le_mul_right (tb.sz E) (show i.toNat+1<=l.length from hlt)
   rw[Nat.add_mul,Nat.one_mul]at hm
   have key:=LEx.store (l:=elC tb E l) (ops:=ops) (N:=N) hg ho hd hn hy hz g1 hl2 (by rw[vj cx];omega)
   have hsub:=((cx.ok E).ofC _ _ hv).1
   rw[Ya,Ya,KZ,va,g2,<-jjL cx hc]at hsub
   have key:=key.wsub (Z':=elC tb E (l.set i.toNat v)) (by
    rw[jgW hlt (cx.ok E).len]
    have e1:(elC tb E l).take (i.toNat*tb.sz E+fo)=(elC tb E l).take (i.toNat*tb.sz E)++(((elC tb E l).drop (i.toNat*tb.sz E)).take (tb.sz E)).take fo:=by
     rw[List.take_take,Nat.min_eq_left (by omega),List.take_add]
    have e2:(elC tb E l).drop (i.toNat*tb.sz E+fo+n)=(((elC tb E l).drop (i.toNat*tb.sz E)).take (tb.sz E)).drop (fo+n)++(elC tb E l).drop ((i.toNat+1)*tb.sz E):=by
     rw[List.drop_take,List.drop_drop,Nat.add_mul,Nat.one_mul]
     have:=List.take_append_drop (tb.sz E - (fo+n)) ((elC tb E l).drop (i.toNat*tb.sz E+(fo+n)))
     rw[List.drop_drop]at this
     rw[show i.toNat*tb.sz E+tb.sz E=i.toNat*tb.sz E+(fo+n)+(tb.sz E - (fo+n)) by omega,this,Nat.add_assoc]
    rw[e1,e2]
    have:=((KF.refl ((elC tb E l).take (i.toNat*tb.sz E))).append hsub).append (KF.refl ((elC tb E l).drop ((i.toNat+1)*tb.sz E)))
    simpa only[List.append_assoc]using this)
   refine⟨_,_,_,_,h,⟨zb,by simp,by simp,by simp,rfl⟩,key,Zp.1,?_,by simp,Nat.le_refl _,rfl,rfl,rfl,?_,⟨[],rfl⟩,⟨[_],rfl⟩,hi⟩
   ·intro q hq;simp at hq;subst hq;exact hl
   ·show avH L.gn _=_
    rw[hh];rfl
  ·cases h
end
end
section
open Go.RowKit
variable [GlC]
section
variable {P:Program} {tb:Tb} {ρ:Type} {cx:Ctx P tb}
theorem KX {E:tb.Ix}{Z:List AV}{z:tb.T E}(h:KF Z (tb.el E z).cells):∀n,KF (List.replicate n Z).flatten (elC tb E (List.replicate n z))
 |0=>by simpa [elC]using KF.refl []
 |n+1=>by
  have:=h.append (KX h n)
  simpa [elC,List.replicate_succ]using this
def jkP (cx:Ctx P tb)(N:Nat)(ops:Array Oper)(L:SLS tb)(gs:List Nat)(o:Oper)(t:Nat)(x y:Operand)(k:SLS tb->List Nat->KL->Option ρ):Option ρ:=
 got o.dst fun d=>got (elemOf P tb t) fun p=>got (jd2 P p.2.1) fun Z=>got ((cx.cd p.1).ofC Z) fun z=>got (opd L [] x) fun a=>got (opd L [] y) fun b=>got (asI a) fun n=>got (asI b) fun c=>
 Chk (0<=n.2/\n.2<=c.2/\(p.2.2:Int)*c.2<=281474976710656/\c.2<=9223372036854775807) <|Let (List.replicate n.2.toNat z) fun l=>jem N gs L d (.rw L.nx p.1) (.arr p.1 l) fun L'=>k L' gs ⟨o.looksAt ops,[],[d],[L.nx],[L.nx]⟩
theorem jio {N ops}{L:SLS tb}{gs o t x y}{k:SLS tb->List Nat->KL->Option ρ}{r}(hi:RI gs L.e)(hg:o.guard=none)(ho:o.op=.makeSlice t x y)(h:jkP cx N ops L gs o t x y k=some r):LOk P N ops o L k r:=by
 unfold jkP at h
 obtain⟨d,hd,h⟩:=jd h
 obtain⟨p,hp,h⟩:=jd h
 obtain⟨Z,hZ,h⟩:=jd h
 obtain⟨z,hz,h⟩:=jd h
 obtain⟨a,ha,h⟩:=jd h
 obtain⟨b,hb,h⟩:=jd h
 obtain⟨n,hn,h⟩:=jd h
 obtain⟨c,hc,h⟩:=jd h
 obtain⟨⟨h1,h2,h3,h4⟩,h⟩:=XR h
 have hx:=Jl (Gu.nil hi.inv) ha
 have hy:=Jl (Gu.nil hi.inv) hb
 rw[vb hn]at hx
 rw[vb hc]at hy
 exact wg (rh:=[]) hi rfl (fun hN=>(LEx.jkF hg hd hN ho (vY hp) (UT hZ) hx hy h1 h2 h3 h4).wsub (KX ((cx.ok p.1).ofC _ _ hz).1 _)) (by simp) (by simp) rfl rfl rfl rfl (mA h)
def jcv (N:Nat)(ops:Array Oper)(L:SLS tb)(gs:List Nat)(o:Oper)(t n:Nat)(ps:Array (Nat × Operand))(k:SLS tb->List Nat->KL->Option ρ):Option ρ:=
 got o.dst fun d=>got (XL P t 1) fun _=>got tb.byte fun b=>tst (Nat.beq (tb.sz b.1) 1) <|got (jcF L [] (fun i=>some (i*1,1)) ps.toList (List.replicate (n*1) .undef)) fun Z=>
 tst (Nat.beq Z.length (n*1)) <|tst (Nat.blt 0 n) <|tst (Nat.ble (n*1) (2 ^ 24)) <|jem N gs L d (.rw L.nx b.1) (.cells Z) fun L'=>k L' gs ⟨o.looksAt ops,[],[d],[L.nx],[L.nx]⟩
theorem jcT:∀n:Nat,avL (List.replicate n (SV.undef:SV tb))=List.replicate n AV.undef
 |0=>rfl
 |n+1=>by rw[List.replicate_succ,List.replicate_succ];simp only[avL,jcT n];rfl
theorem jew {N ops}{L:SLS tb}{gs o t n ps}{k:SLS tb->List Nat->KL->Option ρ}{r}(hi:RI gs L.e)(hg:o.guard=none)(ho:o.op=.buildSlice t n ps)(h:jcv (P:=P) N ops L gs o t n ps k=some r):LOk P N ops o L k r:=by
 unfold jcv at h
 obtain⟨d,hd,h⟩:=jd h
 obtain⟨p,hp,h⟩:=jd h
 obtain⟨b,hb,h⟩:=jd h
 obtain⟨h1,h⟩:=jM h
 obtain⟨Z,hZ,h⟩:=jd h
 obtain⟨h2,h⟩:=jM h
 obtain⟨h3,h⟩:=jM h
 obtain⟨h4,h⟩:=jM h
 have hf:=UE (Gu.nil hi.inv) hZ
 rw[jcT]at hf
 refine wg (rh:=[]) hi rfl (fun hN=>?_) (by simp) (by simp) rfl rfl rfl rfl h
 have:=LEx.jdU (ops:=ops) (N:=N) (nm:=L.nx) hg hd hN ho (Vk hp) hf (by rw[yI];exact Nat.eq_of_beq_eq_true h2) (Nat.le_of_ble_eq_true h3) (Nat.le_of_ble_eq_true h4)
 have e:(SV.rw L.nx b.1:SV tb).av=.rw L.nx 1:=by show AV.rw _ _=_;rw[Nat.eq_of_beq_eq_true h1]
 rw[e];exact this
/-! appends -/
def jg9 (tb:Tb)(E:tb.Ix)(s:List UInt8):Option (List (tb.T E)):=match tb.byte with
 |some b=>(match tb.dec E b.1 with|isTrue he=>some (cast (congrArg List ((congrArg tb.T he).trans (Classical.choose b.2))).symm s)|isFalse _=>none)
 |none=>none
theorem jiR {E s l}(h:jg9 tb E s=some l):tb.sz E=1/\l.map (tb.el E)=s.map JD:=by
 unfold jg9 at h
 split at h
 ·rename_i b _
  split at h
  ·rename_i he _
   cases h
   subst he
   obtain⟨h1,h2⟩:=Classical.choose_spec b.2
   exact⟨h1,mZ (Classical.choose b.2) h2 s⟩
  ·cases h
 ·cases h
def srcK (P:Program)(L:SLS tb)(E:tb.Ix)(tz:Nat)(z:Operand)(k:List (tb.T E)->List Nat->Option ρ):Option ρ:=
 got (opd L [] z) fun x=>got (P.underlying tz) fun D=>match Wv D with
 |true=>got (asS x) fun s=>got (jg9 tb E s) fun l=>k l []
 |false=>got (ui D) fun _=>match isNil x with
  |true=>k [] []
  |false=>match x with
   | .sl _ E' l=>(match tb.dec E' E with|isTrue h=>k (h ▸ l) [] |isFalse _=>none)
   | .em _=>k [] []
   | .rw id E'=>(match tb.dec E' E with|isTrue _=>got (KO L id E) fun l=>k l [id] |isFalse _=>none)
   | .row id E' off len _=>(match tb.dec E' E with|isTrue _=>got (KO L id E) fun l=>Chk (off+len<=l.length) (Let ((l.drop off).take len) fun l'=>k l' [id])|isFalse _=>none)
   |_=>none
theorem jb7 (cx:Ctx P tb){L:SLS tb}{o E tz z}{k:List (tb.T E)->List Nat->Option ρ}{r}(hi:GInv L.e)(hm:z∈o.op.operands)(h:srcK P L E tz z k=some r):
 ∃l need,k l need=some r/\KQ P o L.E (qG L need) (tb.sz E) tz z (l.map (tb.el E))/\∀q∈qG L need,find q.1 L.av.h=some (.cells q.2):=by
 unfold srcK at h
 obtain⟨x,hx,h⟩:=jd h
 obtain⟨D,hD,h⟩:=jd h
 have hz:=Jl (Gu.nil hi) hx
 have aux:∀l need,k l need=some r->KQ P o L.E (qG L need) (tb.sz E) tz z (l.map (tb.el E))->∃l need,k l need=some r/\KQ P o L.E (qG L need) (tb.sz E) tz z (l.map (tb.el E))/\∀q∈qG L need,find q.1 L.av.h=some (.cells q.2):=
  fun l need h1 h2=>⟨l,need,h1,h2,zI⟩
 split at h
 ·rename_i hs
  rw[KV hs]at hD
  obtain⟨s,hs2,h⟩:=jd h
  obtain⟨l,hl,h⟩:=jd h
  obtain⟨g1,g2⟩:=jiR hl
  refine aux _ _ h ?_
  rw[g1,g2]
  rw[jai hs2]at hz
  exact KQ.str hm hD hz
 ·obtain⟨ET,hET,h⟩:=jd h
  rw[vA hET]at hD
  split at h
  ·rename_i hn
   exact aux _ _ h (KQ.sl (c:=true) hm hD (hz.sub (by rw[Pe hn];exact .nil)))
  ·cases x with
   |sl c E' l=>
    simp only at h
    split at h
    ·rename_i hE _
     subst hE
     exact aux _ _ h (KQ.sl hm hD hz)
    ·cases h
   |em E'=>
    refine aux _ _ h (KQ.sl (c:=false) hm hD (hz.sub ?_))
    intro m bl v rp
    cases rp with
    |slnil=>exact .slnil
    |sl g1 g2 g3 g4 g5 g6 g7=>
     simp only[List.flatMap_nil]at g2
     cases g2
     exact .sl (cs:=[]) (l:=[]) (by simp) (by simpa using JK.nil) (by simp) (by simp) (by simp) (by simp) (by simp)
   |rw id E'=>
    simp only at h
    split at h
    ·rename_i hE _
     subst hE
     obtain⟨l,hl,h⟩:=jd h
     have hl:=zB hl
     refine aux _ _ h ?_
     rw[yY hl]
     exact KQ.rw hm hD hz jhF (cx.ok E').pos (qc cx.ok) (ZZ cx l)
    ·cases h
   |row id E' off len mc=>
    simp only at h
    split at h
    ·rename_i hE _
     subst hE
     obtain⟨l,hl,h⟩:=jd h
     have hl:=zB hl
     obtain⟨hc,h⟩:=XR h
     have h:=mA h
     refine aux _ _ h ?_
     rw[yY hl]
     refine KQ.row (l:=elC tb E' l) hm hD hz jhF (by rw[List.length_map,List.length_take,List.length_drop];omega) (qc cx.ok) ?_ (ZZ cx _) ?_
     ·have h5:=vD (l:=l.map (tb.el E')) off (qc cx.ok)
      have h6:=kB (l:=(l.drop off).map (tb.el E')) len (qc cx.ok)
      unfold elC
      rw[h5,<-List.map_drop,h6,<-List.map_take]
     ·rw[vj cx,<-Nat.add_mul];exact Nat.mul_le_mul_right _ hc
    ·cases h
   |_=>cases h
def ifE (a b:tb.Ix)(k:a=b->Option ρ):Option ρ:=match tb.dec a b with|isTrue h=>k h|isFalse _=>none
theorem jgJ {a b:tb.Ix}{k:a=b->Option ρ}{r}(h:ifE a b k=some r):∃e,k e=some r:=by
 unfold ifE at h;split at h
 ·exact⟨_,h⟩
 ·cases h
def isEm:SV tb->Bool
 | .em _=>true
 | .con (.slice none 0 0)=>true
 |_=>false
theorem jjw {x:SV tb}{sz:Nat}(h:isEm x=true)(hs:∀E,x=.em E->tb.sz E=sz):Sub x.av (.sl true sz []):=by
 unfold isEm at h
 split at h
 ·rename_i E
  rw[<-hs E rfl];exact .refl _
 ·exact .nil
 ·cases h
def emOk (E:tb.Ix):SV tb->Bool
 | .em E'=>(match tb.dec E' E with|isTrue _=>true|isFalse _=>false)
 |_=>true
theorem jjK {E:tb.Ix}{x:SV tb}(h:emOk E x=true):∀E',x=.em E'->tb.sz E'=tb.sz E:=by
 rintro E' rfl
 unfold emOk at h
 simp only at h
 split at h
 ·rename_i hE _;rw[hE]
 ·cases h
def lApp (cx:Ctx P tb)(N:Nat)(ops:Array Oper)(L:SLS tb)(gs:List Nat)(o:Oper)(c:Call)(k:SLS tb->List Nat->KL->Option ρ):Option ρ:=
 got o.dst fun d=>got (my c) fun a=>got (pA c) fun t=>got (elemOf P tb t.1) fun p=>got (opd L [] a.1) fun x=>tst (Nat.ble 1 p.2.2) <|srcK P L p.1 t.2 a.2 fun l2 need=>match isEm x with
 |true=>tst (emOk p.1 x) <|Chk (l2.length*p.2.2<=140737488355328) <|jem N gs L d (.rw L.nx p.1) (.arr p.1 l2) fun L'=>k L' gs ⟨o.looksAt ops,need,[d],[L.nx],[L.nx]⟩
 |false=>match x with
  | .sl true E' l=>ifE E' p.1 fun h=>Chk ((l.length+l2.length)*p.2.2<=140737488355328) <|Let ((h ▸ l)++l2) fun l'=>put N gs L d (.sl false p.1 l') fun L'=>k L' gs ⟨o.looksAt ops,need,[d],[],[]⟩
  | .row id E' off len mc=>ifE E' p.1 fun _=>got (KO L id p.1) fun l=>Chk (off+(len+l2.length)<=l.length/\len+l2.length<=mc/\0<mc) <|Let (l.take (off+len)++l2++l.drop (off+len+l2.length)) fun l'=>
     put N gs L d (.row id p.1 off (len+l2.length) mc) fun L'=>jkw L' id (.arr p.1 l') fun L'=>k L' gs ⟨o.looksAt ops,id::need,[d],[id],[]⟩
  |_=>none
theorem jim {n b:Nat}(h1:1<=b)(h:n*b<=140737488355328):n<=9223372036854775807:=by
 have:n*1<=n*b:=Nat.mul_le_mul_left _ h1
 omega
theorem pW {L:SLS tb}{id need l}(h:find id (avH L.gn L.h)=some (.cells l)):qG L (id::need)=(id,l)::qG L need:=by
 simp[qG,h]
theorem KQ.mono {o:Oper}{e need need' sz tz z l2}(h:KQ P o e need sz tz z l2)(hs:∀p∈need,p∈need'):KQ P o e need' sz tz z l2:=
 fun B m0 hh m bl a w hws hn hr=>h B m0 hh m bl a w hws (fun p hp=>hn p (hs p hp)) hr
theorem jkR {N ops}{L:SLS tb}{gs o c}{k:SLS tb->List Nat->KL->Option ρ}{r}(hi:RI gs L.e)(hg:o.guard=none)(ho:o.op=.call c)(hb:c.callee=.builtin .append)(h:lApp cx N ops L gs o c k=some r):LOk P N ops o L k r:=by
 unfold lApp at h
 obtain⟨d,hd,h⟩:=jd h
 obtain⟨⟨y,z⟩,ha,h⟩:=jd h
 obtain⟨⟨t,tz⟩,ht,h⟩:=jd h
 obtain⟨⟨E,E0,by_⟩,hp,h⟩:=jd h
 obtain⟨x,hx,h⟩:=jd h
 obtain⟨hby,h⟩:=jM h
 have ho:o.op=.call {callee:=.builtin .append,args:=#[y,z],argTypes:=#[t,tz]}:=by
  rw[ho]
  obtain⟨c1,c2,c3⟩:=c
  have h1:=xY ha
  have h2:=XT ht
  simp only at h1 h2 hb
  rw[h1,h2,hb]
 have hET:=vY hp
 have hby2:1<=by_:=Nat.le_of_ble_eq_true hby
 have hy:=Jl (Gu.nil hi.inv) hx
 obtain⟨l2,need,h,hsrc,hnd⟩:=jb7 (o:=o) cx hi.inv (by rw[ho];simp[Op.operands,Call.operands]) h
 simp only at h hET hsrc
 split at h
 ·rename_i hem
  obtain⟨he,h⟩:=jM h
  obtain⟨hc,h⟩:=XR h
  refine wg (rh:=Wt (qG L need)) hi rfl (fun hN=>?_) (Qt.2 zI) Kc rfl rfl rfl rfl h
  exact LEx.appN hg hd hN ho hET (hy.sub (jjw hem (jjK he))) hsrc (by rw[List.length_map];exact hc) (by rw[List.length_map];exact jim hby2 hc)
 ·split at h
  ·rename_i E' l _ _ _
   ·obtain⟨hE,h⟩:=jgJ h
    subst hE
    obtain⟨hc,h⟩:=XR h
    obtain⟨hN,hm,hx2,h⟩:=me (mA h)
    have q:=QEx.appI ho hET hy hsrc (by rw[List.length_map,List.length_map];exact hc) (by rw[List.length_map,List.length_map];exact jim hby2 hc)
    refine⟨_,_,_,_,h,⟨zb,Kc,by simp,by simp,rfl⟩,LEx.q hg q hd hN,Zp.1,Qt.2 zI,by simp,Nat.le_refl _,rfl,rfl,?_,rfl,⟨[_],rfl⟩,⟨[],rfl⟩,hi.put hm rfl⟩
    show(d,AV.sl false (tb.sz E') ((l++l2).map (tb.el E')))::_=_
    rw[List.map_append];rfl
  ·rename_i id E' off len mc _ _ _
   ·obtain⟨hE,h⟩:=jgJ h
    subst hE
    obtain⟨l,hl,h⟩:=jd h
    obtain⟨⟨h1,h2,h3⟩,h⟩:=XR h
    obtain⟨hN,hm,hx2,h⟩:=me (mA h)
    obtain⟨hh,h⟩:=pR h
    have hl:=zB hl
    have hsz:((l2.map (tb.el E')).flatMap AV.cells).length=l2.length*tb.sz E':=by rw[Qu (qc cx.ok),List.length_map]
    have key:=LEx.appIn (ops:=ops) (N:=N) (l:=elC tb E' l) (need:=(id,elC tb E' l)::qG L need) (l2:=l2.map (tb.el E')) hg hd hN ho hET hy List.mem_cons_self
     (by rw[List.length_map,vj cx,<-Nat.add_mul];exact Nat.mul_le_mul_right _ h1) (by rw[List.length_map];exact h2) h3 (hsrc.mono fun p hp=>List.mem_cons_of_mem _ hp)
    refine⟨_,_,_,_,h,⟨zb,?_,by simp,by simp,rfl⟩,key,Zp.1,?_,by simp,Nat.le_refl _,rfl,rfl,?_,?_,⟨[_],rfl⟩,⟨[_],rfl⟩,hi.put hm rfl⟩
    ·rw[<-pW hl];exact Kc
    ·rw[<-pW hl];exact Qt.2 zI
    ·show(d,((SV.row id E' off (len+l2.length) mc).res L.gn).av)::_=_
     rw[hx2,List.length_map];rfl
    ·show avH L.gn _=_
     rw[hh]
     show(id,Mc.cells (elC tb E' (l.take (off+len)++l2++l.drop (off+len+l2.length))))::_=_
     have e1:∀a b:List (tb.T E'),elC tb E' (a++b)=elC tb E' a++elC tb E' b:=fun a b=>by simp[elC]
     have e2:∀n,elC tb E' (l.take n)=(elC tb E' l).take (n*tb.sz E'):=fun n=>by unfold elC;rw[kB n (qc cx.ok),List.map_take]
     have e3:∀n,elC tb E' (l.drop n)=(elC tb E' l).drop (n*tb.sz E'):=fun n=>by unfold elC;rw[vD n (qc cx.ok),List.map_drop]
     rw[e1,e1,e2,e3,hsz,Nat.add_mul,Nat.add_mul,Nat.add_mul];rfl
  ·cases h
/-! calls whose results own new blocks -/
theorem Wr {own:List Nat}{j k:Nat}{x:SV tb}{l:List (SV tb)}:kf own j k (x::l)=match own.contains j,x with
 |true,.sl _ E xs=>(.rw k E::(kf own (j+1) (k+1) l).1,(k,.arr E xs)::(kf own (j+1) (k+1) l).2)
 |_,x=>(x::(kf own (j+1) k l).1,(kf own (j+1) k l).2):=rfl
theorem jcl {own:List Nat}(b:Nat):∀{l:List (SV tb)} {j k},JS (avL l)=true->avL (kf own j (k+b) l).1=reL (fun i=>some (i+b)) (avL (kf own j k l).1)/\
 (kf own j (k+b) l).2.map (fun p=>(p.1,p.2.av))=shH b ((kf own j k l).2.map fun p=>(p.1,p.2.av))
 | [],_,_,_=>⟨rfl,rfl⟩
 |x :: l,j,k,h=>by
  have hx:x.av.ZD=true/\JS (avL l)=true:=by
   have:(AV.clean _ x.av&&qI _ (avL l))=true:=h
   simpa using this
  have gen:∀(c:Bool),(∀c' E xs,c=true->x=.sl c' E xs->False)->kf own j (k+b) (x::l)=(x::(kf own (j+1) (k+b) l).1,(kf own (j+1) (k+b) l).2)/\kf own j k (x::l)=(x::(kf own (j+1) k l).1,(kf own (j+1) k l).2) ->
   avL (kf own j (k+b) (x::l)).1=reL (fun i=>some (i+b)) (avL (kf own j k (x::l)).1)/\(kf own j (k+b) (x::l)).2.map (fun p=>(p.1,p.2.av))=shH b ((kf own j k (x::l)).2.map fun p=>(p.1,p.2.av)):=by
   intro c _ ⟨e1,e2⟩
   obtain⟨i1,i2⟩:=jcl b (l:=l) (j:=j+1) (k:=k) hx.2
   rw[e1,e2]
   exact⟨by simp only[avL,reL];rw[wI hx.1,i1],i2⟩
  cases hc:own.contains j with
  |false=>
   refine gen false (by simp) ⟨?_,?_⟩ <;> (rw[Wr,hc])
  |true=>
   cases x with
   |sl c' E xs=>
    have e1:∀k,kf own j k (SV.sl c' E xs::l)=(.rw k E::(kf own (j+1) (k+1) l).1,(k,.arr E xs)::(kf own (j+1) (k+1) l).2):=by
     intro k;rw[kf];rw[hc]
    obtain⟨i1,i2⟩:=jcl b (l:=l) (j:=j+1) (k:=k+1) hx.2
    rw[e1,e1]
    rw[show k+b+1=k+1+b by omega]
    exact⟨by simp only[avL,reL];rw[i1];rfl,by simp only[List.map_cons];rw[i2];rfl⟩
   |_=>refine gen true (by rintro _ _ _ _ h;cases h) ⟨?_,?_⟩ <;> (rw[kf];rw[hc];intros;contradiction)
end
end
section
open Go.RowKit
variable [GlC]
section
variable {P:Program}
theorem XD (w:World)(t tx ty e:TypeId)(i:TypeInfo)(z:Value)(k:IntKind)(ht:P.underlying t=some (.slice e))(hx:P.underlying tx=some (.int k))(hi:P.info? e=some i)(hz:i.zero=some z)(hp:0<i.size)(base:Option Addr)
 (hold:(Builtin.firstCells i.size 0 (.slice base 0 0)).run P w.drew=.ok #[] w.drew) (n:Int) (hn:0<n) (h63:n<=9223372036854775807) (hb:n.toNat*i.bytes<=140737488355328):
 (Builtin.append_ #[t,tx] ty #[.slice base 0 0,.int k n]).run P w=
   .ok (.slice (some ⟨w.heap.size,0,none⟩) n.toNat (grownCap w n.toNat 0 e))
    (w.drew.alloc (.cells (Builtin.zeroCells z.cells n.toNat++Builtin.zeroCells z.cells (grownCap w n.toNat 0 e - n.toNat)) e)):=by
 have hw:IntKind.i64.wrap n=n:=by simp[IntKind.wrap,IntKind.bits,IntKind.signed];omega
 have h1:¬ n<0:=by omega
 have hcast:(n.toNat:Int)=n:=by omega
 have h2:¬ (281474976710656:Int)<n*i.bytes:=by
  have:((n.toNat*i.bytes:Nat):Int)=n*i.bytes:=by rw[Int.natCast_mul,hcast]
  omega
 have h3:¬ n.toNat<=0:=by omega
 have h4:¬ (9223372036854775807:Int)<n.toNat:=by omega
 have hfit:=growslice_fits (need:=n.toNat) (bytes:=i.bytes) (old:=0) (by omega) hb
 have h5:¬ 281474976710656<Builtin.nextslicecap n.toNat 0*i.bytes:=by omega
 have h6:¬ (n.toNat=0\/i.size=0):=by omega
 have h7:¬ n<=0:=by omega
 have h8:max n 0=n:=by omega
 have h9:¬ (9223372036854775807:Int)<n:=by omega
 have h10:¬ n.toNat*i.size=0:=by rw[Nat.mul_eq_zero];exact h6
 simp[Builtin.append_,run_underlying ht,run_underlying hx,sizeOf,typeInfo,zeroValue,hi,hz,asInt,asIntOf,hw,h1,h2,h3,h4,h5,h7,h8,h9,h10,Question.forced,hold,newRow,grownCap]
theorem LEx.appZ {ops:Array Oper}{N:Nat}{o:Oper}{e:Env}{t tz y z E sz by_ d nm k n Z}(hg:o.guard=none)(hd:o.dst=some d)(hN:d<N)(ho:o.op=.call {callee:=.builtin .append,args:=#[y,z],argTypes:=#[t,tz]})(ht:Vu P t E sz by_)(hZ:jc0 P E Z)(hp:0<sz)
 (htz:P.underlying tz=some (.int k)) (hy:jK e y (.sl true sz [])) (hz:jK e z (.v (.int k n))) (h0:0<n) (hlen:n.toNat*by_<=140737488355328) (h63:n<=9223372036854775807):
 LEx P ops N o ⟨xl e (o.looksAt ops),[],[(d,.rw nm sz)],[(nm,.cells (List.replicate n.toNat Z).flatten)],[nm]⟩:=by
 refine .ofA hg (fun d' h'=>by rw[hd]at h';cases h';exact hN) ?_
 intro e2 s h f f' hre hrh hnm hf' N W0 m0 sa m bl a w S hdN next Q kk
 have hR:Reads o e m bl a:=fun t ht y hy=>S.env t y (YM hre t (Yn ht) y hy)
 obtain⟨ad,n0,cap,cs,hv,hn1,hc,el,XE,one,emp,hcap,at_⟩:=VW (hy.rep hR (by simp[ho,Op.operands,Call.operands]))
 obtain rfl:=hcap rfl
 simp only[List.length_nil]at hn1
 subst hn1
 have hzv:=(hz.rep hR (by simp[ho,Op.operands,Call.operands])).zj
 obtain⟨i,zv,hi1,hi2,hi3,hi4,hi5,hi6⟩:=ht.info
 obtain⟨zs,hz0,hzs,hz1⟩:=hZ
 have hzz:zv.cells.toList=zs:=by unfold jb4 at hz0;rw[hi1]at hz0;simp[hi2]at hz0;exact hz0
 have hzl:zs.length=sz:=by rw[<-hzz,<-hi5];simp
 have hfl:∀n:Nat,(List.replicate n zs).flatten.length=n*sz:=by intro n;simp[List.length_flatten,hzl]
 have hfree:bl nm=none:=S.free nm (hnm nm (by simp))
 unfold Oper.wp
 have hold:(Builtin.firstCells i.size 0 (.slice ad 0 0)).run P w.drew=.ok (#[]:Array Value) w.drew:=by
  cases ad with
  |none=>exact run_firstCells_none (P:=P) w.drew _ _ _ _
  |some a1=>exact run_firstCells_some (P:=P) w.drew i.size 0 a1 _ _ [] (by simp) (by simp)
 have hrun:=XD (P:=P) w t tz o.type E i zv k ht.under htz hi1 hi2 (by rw[hi3];exact hp) ad hold n h0 h63 (by rw[hi4];exact hlen)
 rw[Qy ho (v:=_) (w':=_) (by rw[hv,hzv];exact hrun),Oper.upon_value]
 generalize hcap2:grownCap w n.toNat 0 E=cap'
 have hge:n.toNat<=cap':=by rw[<-hcap2];exact grownCap_ge w _ _ E
 have hzf:∀n,(Builtin.zeroCells zv.cells n).toList=(List.replicate n zs).flatten:=fun n=>by rw[Vd,hzz]
 have hone:∀n,∀c∈(List.replicate n zs).flatten,jL c=true:=by
  intro n c hc
  obtain⟨l',hl',hc'⟩:=List.mem_flatten.1 hc
  obtain⟨-,rfl⟩:=List.mem_replicate.1 hl'
  exact List.all_eq_true.1 hz1 c hc'
 have hsz:(Builtin.zeroCells zv.cells n.toNat++Builtin.zeroCells zv.cells (cap' - n.toNat)).size=cap'*sz:=by
  rw[Array.size_append,size_zeroCells,size_zeroCells,hi5,<-Nat.add_mul];congr 1;omega
 obtain⟨q1,q2⟩:=S.ws.Uw (w':=w.drew.alloc (.cells (Builtin.zeroCells zv.cells n.toNat++Builtin.zeroCells zv.cells (cap' - n.toNat)) E)) (d:=nm) (arr:=Builtin.zeroCells zv.cells n.toNat++Builtin.zeroCells zv.cells (cap' - n.toNat)) (T:=E)
  (Z:=(List.replicate n.toNat Z).flatten) (pre:=(List.replicate n.toNat zs).flatten) (rest:=(List.replicate (cap' - n.toNat) zs).flatten) S.below.size hfree rfl (by rw[Array.toList_append,hzf,hzf]) ((hzs.XE).je7 _) (hone _)
 rw[hsz]at q1 q2
 refine kk _ _ _ m _ rfl ⟨?_,?_,((S.below.drew).alloc S.below.size _),q1,?_,S.stk.zV q2,?_⟩
 ·simp[Act.put,hd,S.defers]
 ·simp[Act.put,hd,S.size]
 ·rw[hd]
  exact qv.put (S.env.zV q2) (.rw (b:=w.heap.size) (n:=(cap'*sz,(List.replicate n.toNat zs).flatten.length)) (by simp[Xg]) (hfl _).symm hge (Nat.le_refl _)) (by rw[S.size];exact hdN d hd)
 ·intro d' hd'
  obtain⟨g1,g2⟩:=hf' d' hd'
  unfold Xg;rw[if_neg (by simpa using g2)];exact S.free d' g1
end
end
section
open Go.RowKit
variable [GlC]
section
variable {P:Program} {o:Oper} {e:Env}
theorem LEx.appC {ops:Array Oper}{N:Nat}{t tz y z E sz by_ l l2 d nm need}(hg:o.guard=none)(hd:o.dst=some d)(hN:d<N)(ho:o.op=.call {callee:=.builtin .append,args:=#[y,z],argTypes:=#[t,tz]})(ht:Vu P t E sz by_)
 (hy:jK e y (.sl true sz l)) (hz:KQ P o e need sz tz z l2) (hpos:0<l2.length) (hlen:(l.length+l2.length)*by_<=140737488355328) (h63:l.length+l2.length<=9223372036854775807):
 LEx P ops N o ⟨xl e (o.looksAt ops),Wt need,[(d,.rw nm sz)],[(nm,.cells ((l++l2).flatMap AV.cells))],[nm]⟩:=by
 refine .ofA hg (fun d' h'=>by rw[hd]at h';cases h';exact hN) ?_
 intro e2 s h f f' hre hrh hnm hf' N W0 m0 sa m bl a w S hdN next Q k
 have hR:Reads o e m bl a:=fun t ht y hy=>S.env t y (YM hre t (Yn ht) y hy)
 obtain⟨ad,n,cap,cs,hv,hn1,hc,el,XE,one,emp,hcap,at_⟩:=VW (hy.rep hR (by simp[ho,Op.operands,Call.operands]))
 obtain rfl:=hcap rfl
 subst hn1
 obtain⟨cs2,src,uf,el2⟩:=hz _ _ _ m bl a w S.ws (Qt.1 hrh) hR
 obtain⟨i,zv,hi1,hi2,hi3,hi4,hi5,hi6⟩:=ht.info
 have hfree:bl nm=none:=S.free nm (hnm nm (by simp))
 have hlen1:cs.length=l.length*sz:=by rw[<-XE.length,Qu el]
 have jid:∀c∈cs++cs2,jL c=true:=by intro x hx;rcases List.mem_append.1 hx with h|h <;> first|exact one x h|exact src.one x h
 have repsA:JK m jh ((l++l2).flatMap AV.cells) (cs++cs2):=by rw[List.flatMap_append];exact XE.append uf
 unfold Oper.wp
 have hold:(Builtin.firstCells i.size l.length (.slice ad l.length l.length)).run P w.drew=.ok cs.toArray w.drew:=by
  cases ad with
  |none=>
   obtain⟨rfl,-⟩:=emp rfl
   have:cs=[]:=List.eq_nil_of_length_eq_zero (by simpa using hlen1)
   subst this
   exact run_firstCells_none (P:=P) w.drew _ _ _ _
  |some a1=>
   obtain⟨q1,q2⟩:=at_ a1 rfl
   exact run_firstCells_some (P:=P) w.drew i.size l.length a1 _ _ cs (by rw[hi3];exact hlen1) (by simpa using pc S.ws.imm q1 q2)
 have hrun:=run_append_grow_src (P:=P) w t tz o.type E i zv ht.under hi1 hi2 ad l.length l.length cs hold (a.eval z) l2.length cs2 (by rw[hi3];exact src) (by omega) (by omega)
  (by rw[hi4];exact growslice_fits (by omega) hlen)
 rw[Qy ho (v:=_) (w':=_) (by rw[hv];exact hrun),Oper.upon_value]
 generalize hcap2:grownCap w (l.length+l2.length) l.length E=cap'
 have hge:l.length+l2.length<=cap':=by rw[<-hcap2];exact grownCap_ge w _ _ E
 have hzs:(Builtin.zeroCells zv.cells (cap' - (l.length+l2.length))).size=(cap' - (l.length+l2.length))*sz:=by rw[size_zeroCells,hi5]
 have hbare:JK m bl ((l++l2).flatMap AV.cells) (cs++cs2):=repsA.zV (by simp[jh])
 have hcl:(cs++cs2).length=(l.length+l2.length)*sz:=by rw[List.length_append,hlen1,src.newsLen,Nat.add_mul]
 have hsz:((cs++cs2).toArray++Builtin.zeroCells zv.cells (cap' - (l.length+l2.length))).size=cap'*sz:=by
  rw[Array.size_append,hzs,List.size_toArray,hcl,<-Nat.add_mul];congr 1;omega
 obtain⟨q1,q2⟩:=S.ws.Uw (w':=w.drew.alloc (.cells ((cs++cs2).toArray++Builtin.zeroCells zv.cells (cap' - (l.length+l2.length))) E)) (d:=nm) (arr:=(cs++cs2).toArray++Builtin.zeroCells zv.cells (cap' - (l.length+l2.length))) (T:=E)
  (Z:=(l++l2).flatMap AV.cells) (pre:=cs++cs2) S.below.size hfree rfl (by rw[Array.toList_append]) hbare jid
 rw[hsz]at q1 q2
 refine k _ _ _ m _ rfl ⟨?_,?_,((S.below.drew).alloc S.below.size _),q1,?_,S.stk.zV q2,?_⟩
 ·simp[Act.put,hd,S.defers]
 ·simp[Act.put,hd,S.size]
 ·rw[hd]
  exact qv.put (S.env.zV q2) (.rw (b:=w.heap.size) (n:=(cap'*sz,(cs++cs2).length)) (by simp[Xg]) hcl.symm hge (Nat.le_refl _)) (by rw[S.size];exact hdN d hd)
 ·intro d' hd'
  obtain⟨g1,g2⟩:=hf' d' hd'
  unfold Xg;rw[if_neg (by simpa using g2)];exact S.free d' g1
end
section
variable {P:Program} {tb:Tb} {ρ:Type} {cx:Ctx P tb}
def jkS (cx:Ctx P tb)(N:Nat)(ops:Array Oper)(L:SLS tb)(gs:List Nat)(o:Oper)(c:Call)(k:SLS tb->List Nat->KL->Option ρ):Option ρ:=
 got o.dst fun d=>got (my c) fun a=>got (pA c) fun t=>got (elemOf P tb t.1) fun p=>got (opd L [] a.1) fun x=>tst (Nat.ble 1 p.2.2) <|srcK P L p.1 t.2 a.2 fun l2 need=>match x with
 | .sl true E' l=>ifE E' p.1 fun h=>Chk (0<l2.length/\(l.length+l2.length)*p.2.2<=140737488355328) <|Let ((h ▸ l)++l2) fun l'=>jem N gs L d (.rw L.nx p.1) (.arr p.1 l') fun L'=>k L' gs ⟨o.looksAt ops,need,[d],[L.nx],[L.nx]⟩
 |_=>none
theorem jip {N ops}{L:SLS tb}{gs o c}{k:SLS tb->List Nat->KL->Option ρ}{r}(hi:RI gs L.e)(hg:o.guard=none)(ho:o.op=.call c)(hb:c.callee=.builtin .append)(h:jkS cx N ops L gs o c k=some r):LOk P N ops o L k r:=by
 unfold jkS at h
 obtain⟨d,hd,h⟩:=jd h
 obtain⟨⟨y,z⟩,ha,h⟩:=jd h
 obtain⟨⟨t,tz⟩,ht,h⟩:=jd h
 obtain⟨⟨E,E0,by_⟩,hp,h⟩:=jd h
 obtain⟨x,hx,h⟩:=jd h
 obtain⟨hby,h⟩:=jM h
 have ho:o.op=.call {callee:=.builtin .append,args:=#[y,z],argTypes:=#[t,tz]}:=by
  rw[ho]
  obtain⟨c1,c2,c3⟩:=c
  have h1:=xY ha
  have h2:=XT ht
  simp only at h1 h2 hb
  rw[h1,h2,hb]
 have hET:=vY hp
 have hby2:1<=by_:=Nat.le_of_ble_eq_true hby
 have hy:=Jl (Gu.nil hi.inv) hx
 obtain⟨l2,need,h,hsrc,hnd⟩:=jb7 (o:=o) cx hi.inv (by rw[ho];simp[Op.operands,Call.operands]) h
 simp only at h hET hsrc
 split at h
 ·rename_i E' l _ _
  obtain⟨hE,h⟩:=jgJ h
  subst hE
  obtain⟨⟨hpos,hc⟩,h⟩:=XR h
  have h:=mA h
  refine wg (rh:=Wt (qG L need)) hi rfl (fun hN=>?_) (Qt.2 zI) Kc rfl rfl rfl rfl h
  have key:=LEx.appC (ops:=ops) (N:=N) (nm:=L.nx) hg hd hN ho hET hy hsrc (by rw[List.length_map];exact hpos) (by rw[List.length_map,List.length_map];exact hc) (by rw[List.length_map,List.length_map];exact jim hby2 hc)
  rw[<-List.map_append]at key
  exact key
 ·cases h
end
end
section
open Go.RowKit
variable [GlC]
section
variable {P:Program} {tb:Tb} {ρ:Type} {cx:Ctx P tb}
theorem WO {own:List Nat}:∀{l:List (SV tb)} {j k},(∀p∈(kf own j k l).2,k<=p.1/\p.1<k+(kf own j k l).2.length/\∃E xs,p.2=.arr E xs)
 | [],_,_,p,hp=>by simp[kf]at hp
 |x :: l,j,k,p,hp=>by
  rw[Wr]at hp⊢
  split at hp
  ·rename_i E xs _ _
   simp only[List.mem_cons]at hp
   rcases hp with rfl|hp
   ·exact⟨Nat.le_refl _,by simp,_,_,rfl⟩
   ·obtain⟨h1,h2,h3⟩:=WO p hp
    refine⟨by omega,?_,h3⟩
    simp only[List.length_cons];omega
  ·exact WO p hp
theorem jdn {own:List Nat}:∀{l:List (SV tb)} {j k},(kf own j k l).1.length=l.length
 | [],_,_=>rfl
 |x::l,j,k=>by
  rw[Wr]
  split <;> simp[jdn]
theorem Mb {cd:(i:tb.Ix)->Cd tb i}{own rs r k}:∀p∈(UL tb cd own rs r k).2,k<=p.1/\p.1<k+(UL tb cd own rs r k).2.length/\∃E xs,p.2=.arr E xs:=by
 match rs with
 | []=>intro p hp;simp[UL]at hp
 | [i]=>
   cases own with
   |nil=>intro p hp;simp[UL]at hp
   |cons a b=>intro p hp;exact WO p hp
 |i::j::l=>intro p hp;simp[UL]at hp
theorem jdh {q:Nat->Option Nat}{x:AV}(h:x.ZD=true):x=x.re q:=(wI h).symm
theorem jeS (cx:Ctx P tb)(own rs)(r:Tup tb rs)(b:Nat):(UL tb cx.cd own rs r b).1.av=(UL tb cx.cd own rs r 0).1.av.re (fun i=>some (i+b))/\
 (UL tb cx.cd own rs r b).2.map (fun p=>(p.1,p.2.av))=shH b ((UL tb cx.cd own rs r 0).2.map fun p=>(p.1,p.2.av)):=by
 match rs with
 | []=>exact⟨rfl,rfl⟩
 | [i] =>
   cases own with
   |nil=>
    refine⟨jdh ?_,rfl⟩
    show((cx.cd i).sv r).av.ZD=true
    exact(congrArg AV.ZD ((cx.ok i).sv r)).trans ((cx.ok i).bare r).1
   |cons a t=>
    have hb:JS (avL ((cx.cd i).cs r))=true:=(congrArg JS ((cx.ok i).cs r)).trans ((cx.ok i).bare r).2
    obtain⟨h1,h2⟩:=jcl (own:=a::t) b (l:=(cx.cd i).cs r) (j:=0) (k:=0) hb
    rw[Nat.zero_add]at h1 h2
    refine⟨?_,h2⟩
    show(PM (cx.cd i) (kf (a::t) 0 b ((cx.cd i).cs r)).1).av=(PM (cx.cd i) (kf (a::t) 0 0 ((cx.cd i).cs r)).1).av.re _
    unfold PM
    split
    ·show AV.agg (avL _)=(AV.agg (avL _)).re _
     rw[h1];rfl
    ·generalize (kf (a::t) 0 b ((cx.cd i).cs r)).1=u at h1
     generalize (kf (a::t) 0 0 ((cx.cd i).cs r)).1=v at h1
     cases u with
     |nil=>cases v with
      |nil=>rfl
      |cons=>simp[avL,reL]at h1
     |cons x u=>cases v with
      |nil=>simp[avL,reL]at h1
      |cons y v=>
       simp only[avL,reL,List.cons.injEq]at h1
       exact h1.1
 |i::j::l=>
  refine⟨jdh ?_,rfl⟩
  have:=(Px cx.cd cx.ok (i::j::l) r 0).1
  show(UL tb cx.cd [] (i::j::l) r 0).1.av.ZD=true
  rw[this]
  exact xe cx _ _
theorem xX {g:Gn tb}:∀{a:SHp tb} {b},(∀p∈a,Qh g p.1=true/\∃E xs,p.2=.arr E xs)->avH g (a++b)=a.map (fun p=>(p.1,p.2.av))++avH g b
 | [],_,_=>rfl
 |(i,c)::a,b,h=>by
  obtain⟨h1,E,xs,h2⟩:=h (i,c) (by simp)
  simp only at h1 h2
  subst h2
  have ih:=xX (a:=a) (b:=b) fun p hp=>h p (List.mem_cons_of_mem _ hp)
  unfold avH at ih⊢
  rw[List.cons_append,List.filter_cons,if_pos h1,List.map_cons,ih];rfl
def jak (g:Gn tb):SHp tb->Bool
 | []=>true
 |(i,_)::r=>match Qh g i with|true=>jak g r|false=>false
theorem jbS {g:Gn tb}:∀{a:SHp tb},jak g a=true->∀p∈a,Qh g p.1=true
 | [],_,p,hp=>by cases hp
 |(i,c)::a,h,p,hp=>by
  unfold jak at h
  split at h
  ·rename_i h1
   rcases List.mem_cons.1 hp with rfl|hp
   ·exact h1
   ·exact jbS h p hp
  ·cases h
def lOwn (cx:Ctx P tb)(N:Nat)(ops:Array Oper)(L:SLS tb)(gs:List Nat)(o:Oper)(f:Nat)(xs:List (SV tb))(con:Con P tb cx.cd)(k:SLS tb->List Nat->KL->Option ρ):Option ρ:=
 got o.dst fun d=>got (jhl cx con.ps xs) fun a=>Bind (con.cf a) fun r=>
 tst (Uv (UL tb cx.cd con.own con.rs r L.nx).1) <|put N gs L d (UL tb cx.cd con.own con.rs r L.nx).1 fun L'=>tst (jak L.gn (UL tb cx.cd con.own con.rs r L.nx).2) <|
  k {L' with h:=(UL tb cx.cd con.own con.rs r L.nx).2++L.h,nx:=L.nx+(UL tb cx.cd con.own con.rs r L.nx).2.length} gs
    ⟨o.looksAt ops,[],[d],(UL tb cx.cd con.own con.rs r L.nx).2.map (·.1),(UL tb cx.cd con.own con.rs r L.nx).2.map (·.1)⟩
theorem jkO {N ops}{L:SLS tb}{gs o y args tys f qQ xs con}{k:SLS tb->List Nat->KL->Option ρ}{r}(hi:RI gs L.e)(hg:o.guard=none)(ho:o.op=.call {callee:=.value y,args,argTypes:=tys})(hy:opd L [] y=some (.fn f qQ))(hxs:mh L [] args.toList=some xs)(hcon:wA f cx.Γ=some con)
 (h:lOwn cx N ops L gs o f (xs++qQ) con k=some r):LOk P N ops o L k r:=by
 unfold lOwn at h
 obtain⟨d,hd,h⟩:=jd h
 obtain⟨a,ha,h⟩:=jd h
 obtain⟨x,hx,h⟩:=Option.bind_eq_some_iff.1 (show(con.cf a).bind _=some r from h)
 rw[con.jlo]at hx
 obtain⟨h1,h⟩:=jM h
 obtain⟨hN,hm,hx2,h⟩:=me h
 obtain⟨h3,h⟩:=jM h
 have h3:=jbS h3
 obtain⟨vs,g1,g2,g3⟩:=jaj ha
 have hf:=con.ok a vs x g1 hx
 have hn:=Mb (cd:=cx.cd) (own:=con.own) (rs:=con.rs) (r:=x) (k:=L.nx)
 obtain⟨s1,s2⟩:=jeS cx con.own con.rs x L.nx
 have key:=LEx.enterO (ops:=ops) (N:=N) (o:=o) (e:=L.E) (fn:=con.fid) (ys:=vs) (b:=L.nx) hg hd hN (fun m bl ac w hrd=>by
  obtain⟨ws,hrun,hreps⟩:=Vx (qQ:=avL qQ) ho (by have:=con.call;rwa [vE hcon]at this) (Jl (Gu.nil hi.inv) hy) (vS (Gu.nil hi.inv) hxs) w hrd
  rw[vE hcon]
  refine⟨ws,hrun,?_⟩
  rw[<-Ya]at hreps
  have:=(g2 _ _ _ hreps).bare (bl':=jh)
  rwa [wJ,yz g3]at this) hf (by
  intro p hp
  obtain⟨q,hq,rfl⟩:=List.mem_map.1 hp
  obtain⟨-,-,E,xs,hE⟩:=Mb q hq
  refine⟨elC tb E xs,by simp only[hE];rfl,ZZ cx xs⟩)
 rw[<-s1,<-s2]at key
 have e2:((UL tb cx.cd con.own con.rs x L.nx).2.map fun p=>(p.1,p.2.av)).map (·.1)=(UL tb cx.cd con.own con.rs x L.nx).2.map (·.1):=by simp
 rw[e2]at key
 refine⟨_,_,_,_,h,⟨zb,by simp,by simp,?_,rfl⟩,key,Zp.1,by simp,?_,Nat.le_add_right _ _,rfl,rfl,?_,?_,⟨[_],rfl⟩,⟨_,rfl⟩,hi.put hm h1⟩
 ·intro p hp
  obtain⟨q,hq,rfl⟩:=List.mem_map.1 hp
  exact List.mem_map.2 ⟨q,hq,rfl⟩
 ·intro y hy
  obtain⟨q,hq,rfl⟩:=List.mem_map.1 hy
  exact⟨(hn q hq).1,(hn q hq).2.1⟩
 ·show(d,((UL tb cx.cd con.own con.rs x L.nx).1.res L.gn).av)::_=_
  rw[hx2];rfl
 ·exact xX fun p hp=>⟨h3 p hp,(hn p hp).2.2⟩
def isZer (P:Program)(c:Call):Bool:=match pA c with
 |some t=>(match P.underlying t.2 with|some D=>(match Uz D with|some _=>true|none=>false)|none=>false)
 |none=>false
def lZer (cx:Ctx P tb)(N:Nat)(ops:Array Oper)(L:SLS tb)(gs:List Nat)(o:Oper)(c:Call)(k:SLS tb->List Nat->KL->Option ρ):Option ρ:=
 got o.dst fun d=>got (my c) fun y=>got (pA c) fun t=>got (elemOf P tb t.1) fun p=>got (jd2 P p.2.1) fun Z=>got ((cx.cd p.1).ofC Z) fun z=>got (P.underlying t.2) fun D=>got (Uz D) fun kd=>got (opd L [] y.1) fun x=>tst (isEm x) <|tst (emOk p.1 x) <|got (opd L [] y.2) fun b=>got (asI b) fun n=>tst (decide (n.1=kd)) <|
 Chk (0<n.2/\n.2.toNat*p.2.2<=140737488355328/\n.2<=9223372036854775807) <|Let (List.replicate n.2.toNat z) fun l=>jem N gs L d (.rw L.nx p.1) (.arr p.1 l) fun L'=>k L' gs ⟨o.looksAt ops,[],[d],[L.nx],[L.nx]⟩
theorem jkN {N ops}{L:SLS tb}{gs o c}{k:SLS tb->List Nat->KL->Option ρ}{r}(hi:RI gs L.e)(hg:o.guard=none)(ho:o.op=.call c)(hb:c.callee=.builtin .append)(h:lZer cx N ops L gs o c k=some r):LOk P N ops o L k r:=by
 unfold lZer at h
 obtain⟨d,hd,h⟩:=jd h
 obtain⟨y,hy',h⟩:=jd h
 obtain⟨t,ht',h⟩:=jd h
 obtain⟨p,hp,h⟩:=jd h
 obtain⟨Z,hZ,h⟩:=jd h
 obtain⟨z,hz,h⟩:=jd h
 obtain⟨D,hD,h⟩:=jd h
 obtain⟨kd,hkd,h⟩:=jd h
 obtain⟨x,hx,h⟩:=jd h
 obtain⟨hem,h⟩:=jM h
 obtain⟨heo,h⟩:=jM h
 obtain⟨b,hb2,h⟩:=jd h
 obtain⟨n,hn,h⟩:=jd h
 obtain⟨hk,h⟩:=jM h
 obtain⟨⟨h1,h2,h3⟩,h⟩:=XR h
 have hk:=of_decide_eq_true hk
 have ho:o.op=.call {callee:=.builtin .append,args:=#[y.1,y.2],argTypes:=#[t.1,t.2]}:=by
  rw[ho]
  obtain⟨c1,c2,c3⟩:=c
  have h1:=xY hy'
  have h2:=XT ht'
  simp only at h1 h2 hb
  rw[h1,h2,hb]
 have hxx:=(Jl (Gu.nil hi.inv) hx).sub (jjw hem (jjK heo))
 have hbb:=Jl (Gu.nil hi.inv) hb2
 rw[vb hn,hk]at hbb
 rw[WT hkd]at hD
 exact wg (rh:=[]) hi rfl (fun hN=>(LEx.appZ hg hd hN ho (vY hp) (UT hZ) (cx.ok p.1).pos hD hxx hbb h1 h2 h3).wsub (KX ((cx.ok p.1).ofC _ _ hz).1 _)) (by simp) (by simp) rfl rfl rfl rfl (mA h)
def jgm (cx:Ctx P tb)(ops:Array Oper)(L:SLS tb)(gs:List Nat)(o:Oper)(c:Call)(k:SLS tb->List Nat->KL->Option ρ):Option ρ:=match o.dst with
 |some _=>none
 |none=>got (jhm c) fun y=>got (elemOf P tb y.2) fun p=>got (jd2 P p.2.1) fun Z=>got ((cx.cd p.1).ofC Z) fun z=>got (opd L [] y.1) fun x=>match x with
  | .row id E off len mc=>ifE E p.1 fun _=>got (KO L id p.1) fun l=>Chk (off+len<=l.length/\0<mc) <|Let (l.take off++List.replicate len z++l.drop (off+len)) fun l'=>
     jkw L id (.arr p.1 l') fun L'=>k L' gs ⟨o.looksAt ops,[id],[],[id],[]⟩
  |_=>none
theorem jgl {N ops}{L:SLS tb}{gs o c}{k:SLS tb->List Nat->KL->Option ρ}{r}(hi:RI gs L.e)(hg:o.guard=none)(ho:o.op=.call c)(hb:c.callee=.builtin .clear)(h:jgm cx ops L gs o c k=some r):LOk P N ops o L k r:=by
 unfold jgm at h
 split at h
 ·cases h
 ·rename_i hd
  obtain⟨⟨y,t⟩,hy',h⟩:=jd h
  obtain⟨⟨E,E0,by_⟩,hp,h⟩:=jd h
  obtain⟨Z,hZ,h⟩:=jd h
  obtain⟨z,hz,h⟩:=jd h
  obtain⟨x,hx,h⟩:=jd h
  have ho:o.op=.call {callee:=.builtin .clear,args:=#[y],argTypes:=#[t]}:=by
   rw[ho]
   obtain⟨c1,c2,c3⟩:=c
   obtain⟨h1,h2⟩:=jcU hy'
   simp only at h1 h2 hb
   rw[h1,h2,hb]
  have hET:=vY hp
  have hy:=Jl (Gu.nil hi.inv) hx
  have hof:=(cx.ok E).ofC _ _ hz
  split at h
  ·rename_i _ id E' off len mc
   obtain⟨hE,h⟩:=jgJ h
   subst hE
   obtain⟨l,hl,h⟩:=jd h
   obtain⟨⟨h1,h3⟩,h⟩:=XR h
   obtain⟨hh,h⟩:=pR (mA h)
   have hl:=zB hl
   have hZl:(avL Z).length=tb.sz E':=by rw[yI,hof.2]
   have hfl:(List.replicate len (avL Z)).flatten.length=len*tb.sz E':=by simp[hZl]
   have e1:∀a b:List (tb.T E'),elC tb E' (a++b)=elC tb E' a++elC tb E' b:=fun a b=>by simp[elC]
   have e2:∀n,elC tb E' (l.take n)=(elC tb E' l).take (n*tb.sz E'):=fun n=>by unfold elC;rw[kB n (qc cx.ok),List.map_take]
   have e3:∀n,elC tb E' (l.drop n)=(elC tb E' l).drop (n*tb.sz E'):=fun n=>by unfold elC;rw[vD n (qc cx.ok),List.map_drop]
   have key:=LEx.clearR (ops:=ops) (N:=N) (need:=[(id,elC tb E' l)]) (l:=elC tb E' l) hg hd ho hET (UT hZ) hy (by simp)
    (by rw[hfl,vj cx,<-Nat.add_mul];exact Nat.mul_le_mul_right _ h1) h3
   have key:=key.wsub (Z':=elC tb E' (l.take off++List.replicate len z++l.drop (off+len))) (by
    rw[e1,e1,e2,e3,hfl,<-Nat.add_mul]
    exact((KF.refl _).append (KX hof.1 len)).append (KF.refl _))
   refine⟨_,_,_,_,h,⟨zb,by simp[Wt],by simp,by simp,rfl⟩,key,Zp.1,?_,by simp,Nat.le_refl _,rfl,rfl,rfl,?_,⟨[],rfl⟩,⟨[_],rfl⟩,hi⟩
   ·intro q hq
    simp[Wt]at hq
    subst hq;exact hl
   ·show avH L.gn _=_
    rw[hh];rfl
  ·cases h
def jcw (cx:Ctx P tb)(N:Nat)(ops:Array Oper)(L:SLS tb)(gs:List Nat)(o:Oper)(t n:Nat)(ps:Array (Nat × Operand))(k:SLS tb->List Nat->KL->Option ρ):Option ρ:=
 got o.dst fun d=>got (elemOf P tb t) fun p=>got (jcF L [] (fun i=>some (i*tb.sz p.1,tb.sz p.1)) ps.toList (List.replicate (n*tb.sz p.1) .undef)) fun Z=>
 tst (Nat.beq Z.length (n*tb.sz p.1)) <|tst (Nat.blt 0 n) <|tst (Nat.ble (n*tb.sz p.1) (2 ^ 24)) <|got (chop cx p.1 n Z) fun l=>jem N gs L d (.rw L.nx p.1) (.arr p.1 l) fun L'=>k L' gs ⟨o.looksAt ops,[],[d],[L.nx],[L.nx]⟩
theorem jey {N ops}{L:SLS tb}{gs o t n ps}{k:SLS tb->List Nat->KL->Option ρ}{r}(hi:RI gs L.e)(hg:o.guard=none)(ho:o.op=.buildSlice t n ps)(h:jcw cx N ops L gs o t n ps k=some r):LOk P N ops o L k r:=by
 unfold jcw at h
 obtain⟨d,hd,h⟩:=jd h
 obtain⟨p,hp,h⟩:=jd h
 obtain⟨Z,hZ,h⟩:=jd h
 obtain⟨h2,h⟩:=jM h
 obtain⟨h3,h⟩:=jM h
 obtain⟨h4,h⟩:=jM h
 obtain⟨l,hl,h⟩:=jd h
 have hf:=UE (Gu.nil hi.inv) hZ
 rw[jcT]at hf
 refine wg (rh:=[]) hi rfl (fun hN=>?_) (by simp) (by simp) rfl rfl rfl rfl h
 exact(LEx.jdU (ops:=ops) (N:=N) (nm:=L.nx) hg hd hN ho (vY hp) hf (by rw[yI];exact Nat.eq_of_beq_eq_true h2) (Nat.le_of_ble_eq_true h3) (Nat.le_of_ble_eq_true h4)).wsub (jcO hl)
def jfZ (P:Program)(tb:Tb)(t:Nat):Bool:=match ((P.underlying t).bind ui).bind tb.look with|some _=>true|none=>false
def lop (cx:Ctx P tb)(im:Nat->Bool)(N:Nat)(ops:Array Oper)(L:SLS tb)(gs:List Nat)(o:Oper)(k:SLS tb->List Nat->KL->Option ρ):Option ρ:=match o.guard with
 |some (j,w)=>lg cx N ops L gs o j w k
 |none=>match o.op with
  | .alloc T=>jgo cx N ops L gs o T (match o.dst with|some d=>im d|none=>false) k
  | .buildSlice t n ps=>(match jfZ P tb t with
    |true=>(match (match o.dst with|some d=>im d|none=>false)with|true=>jcw cx N ops L gs o t n ps k|false=>lq cx N ops L gs o k)
    |false=>jcv (P:=P) N ops L gs o t n ps k)
  | .box _ y=>lBox N ops L gs o y (match o.dst with|some d=>im d|none=>false) k
  | .store t y z=>jgk cx ops L gs o t y z k
  | .makeSlice t x y=>jkP cx N ops L gs o t x y k
  | .call c=>(match c.callee with
    | .builtin .append=>(match isZer P c with|true=>lZer cx N ops L gs o c k|false=>(match (match o.dst with|some d=>im d|none=>false)with|true=>jkS cx N ops L gs o c k|false=>lApp cx N ops L gs o c k))
    | .builtin .clear=>jgm cx ops L gs o c k
    | .value y=>(match opd L [] y with
      |some (.fn f qQ)=>(match xI f cx.hnd with
       |some _=>lq cx N ops L gs o k
       |none=>got (wA f cx.Γ) fun con=>(match con.own with
       | []=>lq cx N ops L gs o k
       |_::_=>got (mh L [] c.args.toList) fun xs=>lOwn cx N ops L gs o f (xs++qQ) con k))
      |_=>lq cx N ops L gs o k)
    |_=>lq cx N ops L gs o k)
  |_=>lq cx N ops L gs o k
theorem jjq {im N ops}{L:SLS tb}{gs o}{k:SLS tb->List Nat->KL->Option ρ}{r}(hi:RI gs L.e)(h:lop cx im N ops L gs o k=some r):LOk P N ops o L k r:=by
 unfold lop at h
 split at h
 ·exact lg_ok hi ‹_› h
 ·rename_i hg
  split at h
  ·exact jgn hi hg ‹_› h
  ·split at h
   ·split at h
    ·exact jey hi hg ‹_› h
    ·exact jet hi hg h
   ·exact jew hi hg ‹_› h
  ·exact jkQ hi hg ‹_› h
  ·exact jgj hi hg ‹_› h
  ·exact jio hi hg ‹_› h
  ·rename_i c ho
   obtain⟨ce,ar,ty⟩:=c
   split at h
   ·rename_i hce
    split at h
    ·exact jkN hi hg ho hce h
    ·split at h
     ·exact jip hi hg ho hce h
     ·exact jkR hi hg ho hce h
   ·rename_i hce
    exact jgl hi hg ho hce h
   ·rename_i y hce
    simp only at hce;subst hce
    split at h
    ·rename_i f qQ hy
     split at h
     ·exact jet hi hg h
     obtain⟨con,hcon,h⟩:=jd h
     split at h
     ·exact jet hi hg h
     ·obtain⟨xs,hxs,h⟩:=jd h
      exact jkO hi hg ho hy hxs hcon h
    ·exact jet hi hg h
   ·exact jet hi hg h
  ·exact jet hi hg h
end
end
end Go.Rx
end
