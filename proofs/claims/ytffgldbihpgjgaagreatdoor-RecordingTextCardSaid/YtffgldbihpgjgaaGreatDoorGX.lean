/- Several texts in one. No conditions. -/
import Derived.Test.YtffgldbihpgjgaaGreatDoorF47D
import Derived.Test.YtffgldbihpgjgaaGreatDoorQE
import Derived.Handy
import Derived.BigQuiet
import Derived.Defers
import Derived.Deep.Cut
import Derived.Shelf.RegionOpenPlain
import Derived.Test.YtffgldbihpgjgaaGreatDoorF47CA
import Derived.Orders
import Derived.Recover
import Derived.Tactics2
section
/- The example answers true. No conditions. -/
set_option linter.all false
set_option maxRecDepth 100000
open Go Go.Rx
namespace GoForm
theorem open47:checksum_Open exD=some (exP,0):=by kernel_rfl
theorem val47:recording_Validate [[],[exI]]=some 0:=by kernel_rfl
theorem example47:caromlaw47_example=some true:=by kernel_rfl
end GoForm
end

section
/- Walks over boxes: general rules. No conditions. -/
set_option linter.all false
set_option maxRecDepth 100000
open Go Go.Rx Go.Proofs Go.RowKit
namespace GoForm
theorem rep_agg {m bl l v} (h:Rep m bl (.agg l) v):∃ cs,v=.agg cs.toArray∧Reps m bl l cs∧∀ c∈cs,oneCell c=true:=by
  cases h with
  | agg a b=>exact ⟨_,rfl,a,b⟩
theorem repsV {m:Mem} {bl:Names}:∀ l:List Value,Reps m bl (l.map AV.v) l
  | []=>.nil
  | a::l=>.cons .v (repsV l)
theorem repsV_eq {m:Mem} {bl:Names}:∀ {l vs:List Value},Reps m bl (l.map AV.v) vs→vs=l
  | [],_,.nil=>rfl
  | a::l,_,.cons h t=>by rw [Rep.eq_v h,repsV_eq t]
theorem heap_at (w:World) (o:Obj) (b:Nat) (h:b=w.heap.size):(w.alloc o).heap[b]? = some o:=by subst h;show (w.heap.push o)[w.heap.size]? = _;simp
theorem heap_past (w:World) (o:Obj) (b:Nat) (h:b<w.heap.size):(w.alloc o).heap[b]? = w.heap[b]? := by show (w.heap.push o)[b]? = _;rw [Array.getElem?_push_lt h];simp [h]
theorem box_cell {w:World} {b:Nat} {cs:Array Value} {T:TypeId} (h:w.heap[b]? = some (.cells cs T (0,0))) (j:Nat) {v:Value} (e:cs[j]? = some v):w.cell? ⟨b,j,none⟩=some v:=by rw [cell_of_blk h];exact e
theorem box_free {w:World} {b:Nat} {cs:Array Value} {T:TypeId} (h:w.heap[b]? = some (.cells cs T (0,0))) (j:Nat):w.frozen? ⟨b,j,none⟩=false:=by unfold World.frozen?;rw [h];simp
theorem heap_set (w:World) (a:Addr) (x:Value) (b:Nat) (h:b≠a.block):(w.setCell a x).heap[b]? = w.heap[b]? := Go.RowKit.Below.heap_setCell _ _ _ _ h
theorem size_set (w:World) (a:Addr) (x:Value):(w.setCell a x).heap.size=w.heap.size:=by simp [World.setCell]
theorem heap_own {w:World} {b:Nat} {cs:Array Value} {T:TypeId} {fr} (h:w.heap[b]? = some (.cells cs T fr)) (j:Nat) (v:Value) (cs':Array Value) (e:cs.setIfInBounds j v=cs'):(w.setCell ⟨b,j,none⟩ v).heap[b]? = some (.cells cs' T fr):=by
  subst e
  unfold World.setCell
  simp [Array.getElem?_modify,h]
theorem results_box {P:Program} {fn:Func} {t:Tmp} {ty:TypeId} {b:Nat} {cs:List Value} {T:TypeId} {w:World} {tmps:Array Value} (h:fn.results=#[.cell t ty]) (ht:tmps.getD t undef=.pointer (some ⟨b,0,none⟩)) (ha:tAg P ty=some true) (hs:tSz P ty=some cs.length) (hb:w.heap[b]? = some (.cells cs.toArray T (0,0))):
    (results fn tmps).run P w=.ok (.agg cs.toArray) w:=by
  have:=run_loadVar_agg (P:=P) (ty:=ty) (w:=w) (b:=b) (o:=0) (cs:=cs) ha hs (fun j v e=>by rw [Nat.zero_add];exact box_cell hb j (by simpa using e))
  have ht:tmps[t]?.getD undef=.pointer (some ⟨b,0,none⟩):=by simpa using ht
  simp [results,h,ht,this,asAddr]
theorem _root_.Go.Rx.Reps.inv {m bl x l vs} (h:Reps m bl (x::l) vs):∃ v t,vs=v::t∧Rep m bl x v∧Reps m bl l t:=by
  cases h with
  | cons a b=>exact ⟨_,_,rfl,a,b⟩
theorem _root_.Go.Rx.Reps.inv0 {m bl vs} (h:Reps m bl [] vs):vs=[]:=by cases h;rfl
theorem _root_.Go.Rx.Reps.invV {m bl x l vs} (h:Reps m bl (.v x::l) vs):∃ t,vs=x::t∧Reps m bl l t:=by
  obtain ⟨v,t,rfl,a,b⟩:=h.inv
  exact ⟨t,by rw [Rep.eq_v a],b⟩
theorem below_grown {w w':World} (h:Below w.heap.size w w'):w.grownBy w' none:=⟨h.os,h.tape,h.output,h.size,fun k hk _=>h.block k hk⟩
theorem cells_new (w:World) (cs:List Value) (T:TypeId) (b:Nat) (hb:b=w.heap.size) (j:Nat) (u:Value) (e:cs[j]? = some u):(w.alloc (.cells cs.toArray T)).cell? ((⟨b,0,none⟩:Addr).add j)=some u:=by
  rw [addr_add,Nat.zero_add]
  exact box_cell (heap_at w _ b hb) j (by simpa using e)
section
variable {P:Program} {w:World}
theorem append_block (base:Nat) (t ty e:TypeId) (i:TypeInfo) (z:Value) (size bytes:Nat) (ht:P.underlying t=some (.slice e)) (hi:P.info? e=some i) (hz:i.zero=some z)
    (hsize:i.size=size) (hby:i.bytes=bytes)
    (v:Value) (n:Nat) (xs:List Value) (hown:w.ownsRow base e size v n xs)
    (a:Addr) (m c:Nat) (news:List Value) (hl:news.length=m*size) (hnews:∀ j u,news[j]? = some u→w.cell? (a.add j)=some u) (h1:∀ u∈news,u.oneCell'=true)
    (h63:n+m≤maxLen) (hbytes:(n+m)*bytes≤140737488355328) (hm:0<m) (v':Value) (w':World)
    (hr:(Builtin.append_ #[t,t] ty #[v,.slice (some a) m c]).run P w=.ok v' w'):v'.ownBlock=v.ownBlock∨v'.ownBlock=some w.heap.size:=by
  subst hsize
  subst hby
  simp only [maxLen] at h63
  rcases hown.2 with ⟨rfl,rfl⟩ | ⟨g,cap,cur,rfl,hbg,hg,hnc,hcm,hcs,htake⟩
  · have h:=run_append_nil (P:=P) w t ty e i z ht hi hz a m c news hl hnews hm (by omega) (by have hb:=hbytes;simp only [Nat.zero_add] at hb;omega)
    rw [hr] at h
    cases h
    exact .inr rfl
  · by_cases hroom:n+m≤cap
    · have hfit:n*i.size+news.length≤cur.size:=by rw [hl,hcs,← Nat.add_mul];exact Nat.mul_le_mul_right _ hroom
      have h:=run_append_room (P:=P) w t ty e i ht hi g n cap cur hg a m c news hl hnews h1 hroom hfit
      rw [hr] at h
      cases h
      exact .inl rfl
    · have holds:∀ j u,xs[j]? = some u→w.cell? ((⟨g,0,none⟩:Addr).add j)=some u:=hown.cells (g:=g) rfl
      have h:=run_append_grow (P:=P) w t ty e i z ht hi hz ⟨g,0,none⟩ n cap xs hown.1 holds a m c news hl hnews (by omega) (by omega) (growslice_fits (by omega) hbytes)
      rw [hr] at h
      cases h
      exact .inr rfl
theorem wpList_append_two {ops:Array Oper} {rest:List Oper} {o:Oper} {a:Act} {Q:Exit→Act→World→Prop} (hgd:o.guard=none) (s x:Operand) (t:TypeId)
    (ho:o.op=.call { callee:=.builtin .append,args:=#[s,x],argTypes:=#[t,t] })
    (base:Nat) (e:TypeId) (i:TypeInfo) (z:Value) (size bytes:Nat) (ht:P.underlying t=some (.slice e)) (hi:P.info? e=some i) (hz:i.zero=some z)
    (hsize:i.size=size) (hby:i.bytes=bytes) (hzs:z.cells.size=size) (hsz:0<size)
    (v:Value) (n:Nat) (xs:List Value) (hs:a.eval s=v) (hown:w.ownsRow base e size v n xs)
    (ad:Addr) (m c:Nat) (news:List Value) (hx:a.eval x=.slice (some ad) m c) (hl:news.length=m*size) (hnews:∀ j u,news[j]? = some u→w.cell? (ad.add j)=some u) (h1:∀ u∈news,u.oneCell'=true)
    (h63:n+m≤maxLen) (hbytes:(n+m)*bytes≤140737488355328) (hbase:base≤w.heap.size) (hm:0<m)
    (h:∀ v' w',w'.ownsRow base e size v' (n+m) (xs++news)→w.grownBy w' v.ownBlock→(v'.ownBlock=v.ownBlock∨v'.ownBlock=some w.heap.size)→wpList P ops Q rest (a.put o.dst v') w'):wpList P ops Q (o::rest) a w:=
  wpList_plain hgd fun K hK=>by
    obtain ⟨v',w',hr,h2,h3,-⟩:=run_append_own (P:=P) w base t o.type e i z size bytes ht hi hz hsize hby hzs hsz v n xs hown ad m c news hl hnews h1 h63 hbytes hbase
    have hb:=append_block (P:=P) (w:=w) base t o.type e i z size bytes ht hi hz hsize hby v n xs hown ad m c news hl hnews h1 h63 hbytes hm v' w' hr
    unfold Oper.wp execOp
    simp only [ho,resolve,invoke,builtin,Sem.run_bind,Sem.run_pure,Result.andThen_ok,List.map_toArray,List.map_cons,List.map_nil,hs,hx,hr]
    exact hK _ _ (h v' w' h2 h3 hb)
end
theorem wpList_loadat {P:Program} {ops:Array Oper} {rest:List Oper} {Q:Exit→Act→World→Prop} {o:Oper} {a:Act} {w:World} {ty:TypeId} {y:Operand} {d b off:Nat} {cs:List Value} {arr:Array Value} {T:TypeId} {fr:Nat × Nat}
    (g:o.guard=none) (e:o.op=.load ty y) (hd:o.dst=some d) (hy:a.eval y=.pointer (some ⟨b,off,none⟩)) (ha:tAg P ty=some true) (hs:tSz P ty=some cs.length)
    (hb:w.heap[b]? = some (.cells arr T fr)) (hc:∀ j v,cs[j]? = some v→arr[off+j]? = some v) (h:wpList P ops Q rest (a.put (some d) (.agg cs.toArray)) w):wpList P ops Q (o::rest) a w:=by
  have hld:=run_loadVar_agg (P:=P) (ty:=ty) (w:=w) (b:=b) (o:=off) (cs:=cs) ha hs (fun j v e=>by rw [cell_of_blk hb];exact hc j v e)
  refine wpList_plain g fun K hK=>?_
  have r1:(execOp a.eval o).run P w=.ok (.value (.agg cs.toArray)) w:=by simp [execOp,e,hy,Instr.loadAt,Instr.sureAddr,hld]
  unfold Oper.wp
  rw [r1,Oper.upon_value,hd]
  exact hK _ _ h
theorem wpList_storeat {P:Program} {ops:Array Oper} {rest:List Oper} {Q:Exit→Act→World→Prop} {o:Oper} {a:Act} {w:World} {ty:TypeId} {t z:Operand} {b off:Nat} {cs arr:List Value} {T:TypeId}
    (g:o.guard=none) (e:o.op=.store ty t z) (hd:o.dst=none) (ht:a.eval t=.pointer (some ⟨b,off,none⟩)) (hz:a.eval z=.agg cs.toArray) (hs:tSz P ty=some cs.length)
    (hb:w.heap[b]? = some (.cells arr.toArray T (0,0))) (hfit:off+cs.length≤arr.length) (h1:∀ c∈cs,c.oneCell'=true)
    (h:∀ w',w'.heap[b]? = some (.cells (arr.take off++cs++arr.drop (off+cs.length)).toArray T (0,0))→w.grownBy w' (some b)→wpList P ops Q rest a w'):wpList P ops Q (o::rest) a w:=by
  have hst:=run_storeCells_at P b off T cs 0 arr.toArray w hb (by simpa using hfit) h1
  simp only [Nat.add_zero] at hst
  refine wpList_plain g fun K hK=>?_
  have r2:(execOp a.eval o).run P w=.ok .skip (w.setRow b (arr.take off++cs++arr.drop (off+cs.length)).toArray):=by
    have hst:Sem.run P (storeCells ⟨b,off,none⟩ cs) w=Result.ok () (w.setRow b (arr.take off++cs++arr.drop (off+cs.length)).toArray):=hst
    simp [execOp,e,ht,hz,Instr.storeAt,Instr.sureAddr,storeVar,run_sizeOf_of hs,Value.cells,hst]
  unfold Oper.wp
  rw [r2,Oper.upon_skip,hd]
  exact hK _ _ (h _ (setRow_heap w b _ _ T (0,0) hb) ⟨rfl,rfl,rfl,by simp,fun k _ hk=>setRow_other w b k _ (fun e=>hk (by rw [e]))⟩)
def allM (w:World):Mem:=fun b o=>w.cell? ⟨b,o,none⟩
theorem imm_all (w:World):Imm (allM w) w:=fun _ _ _ h=>h
theorem le_all {m:Mem} {w:World} (h:Imm m w):Mem.le m (allM w):=fun b o v e=>h b o v e
theorem call_v {P:Program} {f:FuncId} {avs:List AV} {r:Value} (h:FnR P f avs (.v r) []) (w:World) (vs:List Value) (hr:Reps (allM w) noNames avs vs):
    Calls P f vs.toArray w fun e w'=>e=.returned r∧Below w.heap.size w w':=by
  refine (h w (allM w) vs trivial (imm_all w) hr).mono ?_
  rintro e w' ⟨v,m',bl',rfl,hb,-,-,hr⟩
  exact ⟨by rw [Rep.eq_v hr],hb⟩
theorem call_r {P:Program} {f:FuncId} {avs:List AV} {r:AV} (h:FnR P f avs r []) (w:World) (vs:List Value) (hr:Reps (allM w) noNames avs vs):
    Calls P f vs.toArray w fun e w'=>∃ v,e=.returned v∧Below w.heap.size w w'∧Rep (allM w') noNames r v:=by
  refine (h w (allM w) vs trivial (imm_all w) hr).mono ?_
  rintro e w' ⟨v,m',bl',rfl,hb,hws,hn,hr⟩
  have:bl'=noNames:=by funext id;exact hn id rfl
  subst this
  exact ⟨v,rfl,hb,hr.mono (le_all hws.imm)⟩
theorem quiet_callf {P:Program} {C:World→Prop} {o:Oper} {a:Act} {K:Act→Prop} {f:FuncId} {xs:Array Operand} {tys:Array TypeId} {vs:Array Value} {v:Value}
    (e:o.op=.call { callee:=.value (.func f),args:=xs,argTypes:=tys }) (hc:∀ (args:Array Value) (w:World),Sem.run P (callFunc f args) w=.ok (.enter f args) w) (hv:xs.map a.eval=vs)
    (hC:∀ w,C w→Calls P f vs w fun e w'=>e=.returned v∧C w') (hk:K (a.put o.dst v)):o.quiet P a C K:=
  ⟨v,fun w hw=>by
    have r1:(execOp a.eval o).run P w=.ok (.enter f vs) w:=by subst hv;simp [execOp,e,resolve,invoke,hc,go_sem]
    unfold Oper.quietAt
    rw [r1]
    exact ⟨rfl,hC w hw⟩,hk⟩
theorem wp_region_bel {P:Program} {id:Nat} {Q:Exit→Act→World→Prop} {a:Act} {w:World} {l:List Oper} (hm:P.follows .mixedOrders=true) (hB:Region.lexB .any l.toArray=true)
    (h:wpQuiet P l.toArray (fun w'=>Below w.heap.size w w') (fun a'=>∀ w',Below w.heap.size w w'→Q .normal a' w') l a):(Code.region id l.toArray true).wp P Q a w:=
  wp_region_quiet (C:=fun w'=>Below w.heap.size w w') hm hB ((Below.refl _ w).drew) (by simpa using h)
theorem imm_grown {m:Mem} {W W':World} {b:Nat} (h:Imm m W) (g:W.grownBy W' (some b)) (hm:∀ o,m b o=none):Imm m W':=by
  intro b' o v e
  have h1:=h b' o v e
  have hne:b'≠b:=fun e2=>by subst e2;rw [hm] at e;cases e
  have hlt:b'<W.heap.size:=by
    rcases Nat.lt_or_ge b' W.heap.size with h | h
    · exact h
    · simp [World.cell?,Array.getElem?_eq_none h] at h1
  rw [← h1]
  unfold World.cell?
  rw [g.block b' hlt (fun e=>hne (Option.some.inj e))]
theorem quiet_load1 {P:Program} {C:World→Prop} {o:Oper} {a:Act} {K:Act→Prop} {ty:TypeId} {y:Operand} {ad:Addr} {v:Value}
    (e:o.op=.load ty y) (hy:a.eval y=.pointer (some ad)) (ha:tAg P ty=some false) (hC:∀ w,C w→w.cell? ad=some v) (hk:K (a.put o.dst v)):o.quiet P a C K:=
  ⟨v,fun w hw=>by
    have hld:=run_loadVar_one (P:=P) (ty:=ty) (w:=w) (a:=ad) (v:=v) ha (hC w hw)
    have r1:(execOp a.eval o).run P w=.ok (.value v) w:=by simp [execOp,e,hy,Instr.loadAt,Instr.sureAddr,hld]
    unfold Oper.quietAt
    rw [r1]
    exact ⟨rfl,rfl⟩,hk⟩
end GoForm
end

section
/- The decoder of package snapshot where it reads what is there. No conditions. -/
set_option linter.all false
set_option maxRecDepth 100000
open Go Go.Rx Go.Proofs Go.RowKit
namespace GoForm
theorem mixed47:Tryz.prog.follows .mixedOrders=true:=by kernel_rfl
def DB (bd:Nat) (hdr:Value) (off:Int) (W:World):Prop:=W.heap[bd]? = some (.cells #[hdr,.int .i64 off] 258 (0,0))
theorem adv (hdr:Value) (off off':Int) (bd:Nat) (W:World) (hb:DB bd hdr off W):
    Calls Tryz.prog 187 #[.pointer (some ⟨bd,0,none⟩),.int .i64 off',.int .i64 0] W fun e W'=>e=.returned (.tuple #[])∧DB bd hdr off' W'∧W.grownBy W' (some bd):=by
  have hb:W.heap[bd]? = some (.cells #[hdr,.int .i64 off] 258 (0,0)):=hb
  have c1:W.cell? ⟨bd,1,none⟩=some (.int .i64 off):=box_cell hb 1 rfl
  have z1:=box_free hb 1
  have S:Hid (DB bd hdr off' (W.setCell ⟨bd,1,none⟩ (.int .i64 off'))∧W.grownBy (W.setCell ⟨bd,1,none⟩ (.int .i64 off')) (some bd)):=
    ⟨heap_own hb 1 _ _ rfl,⟨rfl,rfl,rfl,by rw [size_set];exact Nat.le_refl _,fun k _ hk=>heap_set _ _ _ _ (fun e=>hk (by rw [e]))⟩⟩
  clear hb
  go_enter Tryz.func187,Tryz.ntmps187
  go_wp2
  go_end0
  exact ⟨rfl,S.out⟩
theorem grown_trans {W W1 W2:World} {b:Nat} (h1:Below W.heap.size W W1) (h2:W1.grownBy W2 (some b)):W.grownBy W2 (some b):=
  ⟨h2.os.trans h1.os,h2.tape.trans h1.tape,h2.output.trans h1.output,Nat.le_trans h1.size h2.size,fun k hk hn=>(h2.block k (Nat.lt_of_lt_of_le hk h1.size) hn).trans (h1.block k hk)⟩
theorem grown_trans2 {W W1 W2:World} {b:Option Nat} (h1:W.grownBy W1 b) (h2:W1.grownBy W2 b):W.grownBy W2 b:=
  ⟨h2.os.trans h1.os,h2.tape.trans h1.tape,h2.output.trans h1.output,Nat.le_trans h1.size h2.size,fun k hk hn=>(h2.block k (Nat.lt_of_lt_of_le hk h1.size) hn).trans (h1.block k hk hn)⟩
structure BF (m:Mem) (buf:List UInt8) (a:Option Addr) (n c:Nat) (bd:Nat) (W:World):Prop where
  imm:Imm m W
  rep:Rep m noNames (e_sl_byte buf) (.slice a n c)
  off:∀ o,m bd o=none
  lt:bd<W.heap.size
theorem BF.grown {m buf a n c bd W W'} (h:BF m buf a n c bd W) (g:W.grownBy W' (some bd)):BF m buf a n c bd W':=⟨imm_grown h.imm g h.off,h.rep,h.off,Nat.lt_of_lt_of_le h.lt g.size⟩
theorem rep_tup {m:Mem} {bl:Names} {l:List AV} {v:Value} (h:Rep m bl (.tup l) v):∃ vs,v=.tuple vs.toArray∧Reps m bl l vs:=by
  cases h with
  | tup h=>exact ⟨_,rfl,h⟩
set_option maxHeartbeats 2000000 in
theorem dint {m:Mem} {buf:List UInt8} {a:Option Addr} {n c:Nat} {bd:Nat} {off x off':Int} {W:World} (F:BF m buf a n c bd W) (hb:DB bd (.slice a n c) off W) (h:codec_ReadInt buf off=some (x,off',0)):
    Calls Tryz.prog 169 #[.pointer (some ⟨bd,0,none⟩)] W fun e W'=>e=.returned (.int .i64 x)∧DB bd (.slice a n c) off' W'∧W.grownBy W' (some bd):=by
  have hb:W.heap[bd]? = some (.cells #[.slice a n c,.int .i64 off] 258 (0,0)):=hb
  have f0:∀ w',Below W.heap.size W w'→w'.cell? ⟨bd,0,none⟩=some (.slice a n c):=fun w' hw=>box_cell ((hw.block _ F.lt).trans hb) 0 rfl
  have f1:∀ w',Below W.heap.size W w'→w'.cell? ⟨bd,1,none⟩=some (.int .i64 off):=fun w' hw=>box_cell ((hw.block _ F.lt).trans hb) 1 rfl
  have e114:=Tryz.call114
  have e187:=Tryz.call187
  have hc:FnR Tryz.prog 114 [e_sl_byte buf,.v (.int .i64 off)] (.tup [.v (.int .i64 x),.v (.int .i64 off'),.v (.int .i64 0)]) []:=c_114.ok (buf,off,()) [e_sl_byte buf,.v (.int .i64 off)] ((x,off',(0:Int)):Int × Int × Int) ⟨rfl,rfl,trivial⟩ h
  have kc:∀ w',Below W.heap.size W w'→Calls Tryz.prog 114 #[.slice a n c,.int .i64 off] w' fun e w''=>e=.returned (.tuple #[.int .i64 x,.int .i64 off',.int .i64 0])∧Below W.heap.size W w'':=fun w' hw=>by
    refine (call_r hc w' [.slice a n c,.int .i64 off] (.cons (F.rep.mono (le_all (F.imm.below hw))) (.cons .v .nil))).mono ?_
    rintro e w'' ⟨v,rfl,hb2,hrep⟩
    obtain ⟨vs,rfl,hvs⟩:=rep_tup hrep
    have:vs=[.int .i64 x,.int .i64 off',.int .i64 0]:=repsV_eq (l:=[.int .i64 x,.int .i64 off',.int .i64 0]) hvs
    subst this
    exact ⟨rfl,hw.trans (hb2.mono hw.size)⟩
  have HB:Hid (_∧_):=⟨hb,F.lt⟩
  clear hb hc
  go_enter Tryz.func169,Tryz.ntmps169
  go_wp2
  refine wp_region_bel mixed47 (by kernel_rfl) ?_
  go_big_quiet_want
  go_big_quiet_op
  first | go_big_quiet_on | (refine ⟨_,fun _ _=>rfl,?_⟩;go_big_quiet_on)
  go_big_quiet_want
  go_big_quiet_op
  first | go_big_quiet_on | (refine ⟨_,fun _ _=>rfl,?_⟩;go_big_quiet_on)
  go_big_quiet_want
  go_big_quiet_op
  first | go_big_quiet_on | (refine ⟨_,fun _ _=>rfl,?_⟩;go_big_quiet_on)
  go_big_quiet_want
  refine quiet_load1 (ad:=⟨bd,0,none⟩) (v:=.slice a n c) rfl rfl (by kernel_rfl) (fun w' hw=>f0 w' hw) ?_
  simp only [Act.put,List.setIfInBounds_toArray,List.set_cons_succ,List.set_cons_zero]
  go_big_quiet_on
  go_big_quiet_want
  go_big_quiet_op
  first | go_big_quiet_on | (refine ⟨_,fun _ _=>rfl,?_⟩;go_big_quiet_on)
  go_big_quiet_want
  go_big_quiet_op
  first | go_big_quiet_on | (refine ⟨_,fun _ _=>rfl,?_⟩;go_big_quiet_on)
  go_big_quiet_want
  go_big_quiet_op
  first | go_big_quiet_on | (refine ⟨_,fun _ _=>rfl,?_⟩;go_big_quiet_on)
  go_big_quiet_want
  refine quiet_load1 (ad:=⟨bd,1,none⟩) (v:=.int .i64 off) rfl rfl (by kernel_rfl) (fun w' hw=>f1 w' hw) ?_
  simp only [Act.put,List.setIfInBounds_toArray,List.set_cons_succ,List.set_cons_zero]
  go_big_quiet_on
  go_big_quiet_want
  refine quiet_callf (f:=114) (xs:=#[.tmp 10,.tmp 14]) (tys:=#[24,3]) (vs:=#[.slice a n c,.int .i64 off]) (v:=.tuple #[.int .i64 x,.int .i64 off',.int .i64 0]) rfl e114 (by simp [Act.eval]) (fun w' hw'=>kc w' hw') ?_
  simp only [Act.put,List.setIfInBounds_toArray,List.set_cons_succ,List.set_cons_zero]
  go_big_quiet_on
  go_big_quiet_want
  go_big_quiet_op
  first | go_big_quiet_on | (refine ⟨_,fun _ _=>rfl,?_⟩;go_big_quiet_on)
  go_big_quiet_want
  go_big_quiet_op
  first | go_big_quiet_on | (refine ⟨_,fun _ _=>rfl,?_⟩;go_big_quiet_on)
  go_big_quiet_want
  go_big_quiet_op
  first | go_big_quiet_on | (refine ⟨_,fun _ _=>rfl,?_⟩;go_big_quiet_on)
  go_big_quiet_want
  go_big_quiet_op
  first | go_big_quiet_on | (refine ⟨_,fun _ _=>rfl,?_⟩;go_big_quiet_on)
  go_big_quiet_want
  go_big_quiet_op
  first | go_big_quiet_on | (refine ⟨_,fun _ _=>rfl,?_⟩;go_big_quiet_on)
  go_big_quiet_want
  go_big_quiet_op
  first | go_big_quiet_on | (refine ⟨_,fun _ _=>rfl,?_⟩;go_big_quiet_on)
  go_big_quiet_want
  go_big_quiet_op
  first | go_big_quiet_on | (refine ⟨_,fun _ _=>rfl,?_⟩;go_big_quiet_on)
  refine wpQuiet_nil ?_
  intro W1 hW1
  have D1:DB bd (.slice a n c) off W1:=(hW1.block _ HB.out.2).trans HB.out.1
  clear f0 f1 kc
  go_wp2_with (go_at_call 187;refine (adv (.slice a n c) off off' bd W1 D1).mono ?_;rintro e w2 ⟨rfl,hD,hg⟩;have HG:Hid (_∧_):=⟨hD,hg⟩;clear hD hg)
  go_ret
  exact ⟨rfl,HG.out.1,grown_trans hW1 HG.out.2⟩
end GoForm
end

section
/- A region that draws its order, by a table of what each operation yields; one variable is made and written on the way. No conditions. -/
set_option linter.all false
set_option maxRecDepth 100000
open Go Go.Rx Go.Proofs Go.RowKit
namespace GoForm
section
variable {P:Program}
theorem cover_step {l:List Nat} {i:Nat} (h:i∈l):(l.filter (fun j=>j != i)).length<l.length:=by
  rw [List.length_filter_lt_length_iff_exists]
  exact ⟨i,h,by simp⟩
theorem wp_any_inv {Q:Exit→Act→World→Prop} {ops:Array Oper} (I:(Nat→Bool)→Act→World→Prop)
    (hd:∀ (i:Nat) (o:Oper),ops[i]? = some o→∀ e∈o.after,Region.binds .any e=true→e.on<i)
    (hs:∀ f a w i o,I f a w→ops[i]? = some o→f i=false→(∀ e∈o.after,Region.binds .any e=true→f e.on=true)→wpOp P ops Q i (I (fun j=>if j=i then true else f j)) a w)
    (he:∀ f a w,I f a w→(∀ i,i<ops.size→f i=true)→Q .normal a w):∀ (fuel:Nat) (listed:Array Bool) (a:Act) (w:World),listed.size=ops.size→I (fun j=>listed.getD j false) a w→
      (∃ l:List Nat,l.length≤fuel∧∀ j,j<ops.size→listed.getD j false=false→j∈l)→wpAny P .any ops Q fuel listed a w:=by
  have inb:∀ (listed:Array Bool) (j:Nat) (x y:Bool),j<listed.size→listed.getD j x=listed.getD j y:=fun listed j x y h=>by
    simp only [Array.getD_eq_getD_getElem?,Array.getElem?_eq_getElem h,Option.getD_some]
  have all:∀ listed:Array Bool,listed.size=ops.size→Region.ready .any ops listed=[]→∀ i,i<ops.size→listed.getD i false=true:=by
    intro listed hz h i
    induction i using Nat.strongRecOn with
    | ind i ih=>
      intro hi
      cases hl:listed.getD i false with
      | true=>rfl
      | false=>
        have:i∈Region.ready .any ops listed:=by
          unfold Region.ready
          rw [List.mem_filter]
          refine ⟨List.mem_range.2 hi,?_⟩
          rw [inb listed i true false (by omega),hl]
          obtain ⟨o,ho⟩:∃ o,ops[i]? = some o:=⟨_,Array.getElem?_eq_getElem hi⟩
          rw [ho]
          simp only [Bool.not_false,Option.map_some,Option.getD_some,Bool.true_and,Array.all_eq_true_iff_forall_mem,Bool.or_eq_true]
          intro e hm
          cases hbd:Region.binds .any e with
          | false=>exact .inl (by simp)
          | true=>exact .inr (ih e.on (hd i o ho e hm hbd) (Nat.lt_trans (hd i o ho e hm hbd) hi))
        rw [h] at this
        cases this
  intro fuel
  induction fuel with
  | zero=>
    intro listed a w hz hI ⟨l,hl,hc⟩
    have hall:∀ j,j<ops.size→listed.getD j false=true:=fun j hj=>by
      cases e:listed.getD j false with
      | true=>rfl
      | false=>
        have:=hc j hj e
        have h0:l=[]:=List.length_eq_zero_iff.1 (by omega)
        rw [h0] at this
        cases this
    refine ⟨?_,he _ a w hI hall⟩
    unfold Region.ready
    rw [List.filter_eq_nil_iff]
    intro i hi
    have hi:=List.mem_range.1 hi
    rw [inb listed i true false (by omega),hall i hi]
    simp
  | succ fuel ih=>
    intro listed a w hz hI ⟨l,hl,hc⟩
    refine ⟨fun h=>he _ a w hI (all listed hz h),fun i hi=>?_⟩
    unfold Region.ready at hi
    rw [List.mem_filter] at hi
    obtain ⟨h1,h2⟩:=hi
    have h1:=List.mem_range.1 h1
    obtain ⟨o,ho⟩:∃ o,ops[i]? = some o:=⟨_,Array.getElem?_eq_getElem h1⟩
    rw [ho,inb listed i true false (by omega)] at h2
    simp only [Option.map_some,Option.getD_some,Bool.and_eq_true,Bool.not_eq_true',Array.all_eq_true_iff_forall_mem,Bool.or_eq_true] at h2
    have hf:(fun j=>(listed.setIfInBounds i true).getD j false)=fun j=>if j=i then true else listed.getD j false:=by
      funext j
      simp only [Array.getD_eq_getD_getElem?]
      by_cases e:j=i
      · subst e
        rw [Array.getElem?_setIfInBounds_self_of_lt (by omega)];simp
      · rw [Array.getElem?_setIfInBounds_ne (fun h=>e h.symm)];simp [e]
    refine wpOp_mono ?_ (hs _ a w i o hI ho h2.1 fun e he' hb=>?_)
    · intro a' w' hI'
      refine ih _ a' w' (by simpa using hz) (by rw [hf];exact hI') ⟨l.filter (fun j=>j != i),?_,fun j hj hju=>?_⟩
      · have:=cover_step (hc i h1 h2.1);omega
      · rw [congrFun hf j] at hju
        by_cases e:j=i
        · rw [if_pos e] at hju;cases hju
        · rw [if_neg e] at hju
          rw [List.mem_filter]
          exact ⟨hc j hj hju,by simpa using e⟩
    · rcases h2.2 e he' with h | h
      · rw [hb] at h;simp at h
      · exact h
theorem wp_region_inv {id:Nat} {Q:Exit→Act→World→Prop} {ops:Array Oper} {a:Act} {w:World} (hm:P.follows .mixedOrders=true) (I:(Nat→Bool)→Act→World→Prop)
    (hd:∀ (i:Nat) (o:Oper),ops[i]? = some o→∀ e∈o.after,Region.binds .any e=true→e.on<i)
    (h0:I (fun _=>false) a w.drew)
    (hs:∀ f a w i o,I f a w→ops[i]? = some o→f i=false→(∀ e∈o.after,Region.binds .any e=true→f e.on=true)→wpOp P ops Q i (I (fun j=>if j=i then true else f j)) a w)
    (he:∀ f a w,I f a w→(∀ i,i<ops.size→f i=true)→Q .normal a w):(Code.region id ops true).wp P Q a w:=by
  refine wp_region_any hm (wp_any_inv I hd hs he _ _ a _ (by simp) ?_ ⟨List.range ops.size,by simp,fun j hj _=>List.mem_range.2 hj⟩)
  have:(fun j=>(Array.replicate ops.size false).getD j false)=fun _=>false:=by
    funext j
    simp only [Array.getD_eq_getD_getElem?,Array.getElem?_replicate]
    split <;> rfl
  rw [this]
  exact h0
variable {ops:Array Oper} {i:Nat} {o:Oper} {Q:Exit→Act→World→Prop} {K:Act→World→Prop} {a:Act} {w:World}
theorem wpOp_of (hi:ops[i]? = some o) (g:o.guard=none) (h:o.wp P a w K Q):wpOp P ops Q i K a w:=by
  unfold wpOp
  rw [hi]
  simp only [Region.wanted,g,if_true]
  exact .inl h
theorem op_call {f:FuncId} {xs:Array Operand} {tys:Array TypeId} {vs:Array Value} (e:o.op=.call { callee:=.value (.func f),args:=xs,argTypes:=tys }) (hc:∀ (args:Array Value) (w:World),Sem.run P (callFunc f args) w=.ok (.enter f args) w)
    (hv:xs.map a.eval=vs) (h:Calls P f vs w fun e w'=>∃ v,e=.returned v∧K (a.put o.dst v) w'):o.wp P a w K Q:=by
  have r1:(execOp a.eval o).run P w=.ok (.enter f vs) w:=by subst hv;simp [execOp,e,resolve,invoke,hc,go_sem]
  unfold Oper.wp
  rw [r1]
  refine Calls.mono h ?_
  rintro _ w' ⟨v,rfl,hk⟩
  exact hk
theorem op_alloc {T:TypeId} {z:Value} (e:o.op=.alloc T) (hz:∀ w,Sem.run P (zeroValue T) w=.ok z w) (hk:K (a.put o.dst (.pointer (some ⟨w.heap.size,0,none⟩))) (w.alloc (.cells z.cells T))):o.wp P a w K Q:=by
  have r1:(execOp a.eval o).run P w=.ok (.value (.pointer (some ⟨w.heap.size,0,none⟩))) (w.alloc (.cells z.cells T)):=by simp [execOp,e,Instr.alloc,hz,newVar,newRow]
  unfold Oper.wp
  rw [r1]
  exact hk
theorem op_store {ty:TypeId} {t z:Operand} {b:Nat} {cs:List Value} {arr:Array Value} {T:TypeId} (e:o.op=.store ty t z) (ht:a.eval t=.pointer (some ⟨b,0,none⟩)) (hz:a.eval z=.agg cs.toArray) (hs:tSz P ty=some cs.length)
    (hb:w.heap[b]? = some (.cells arr T (0,0))) (hl:arr.size=cs.length) (h1:∀ c∈cs,c.oneCell'=true)
    (hk:∀ w',w'.heap[b]? = some (.cells cs.toArray T (0,0))→w.grownBy w' (some b)→K (a.put o.dst undef) w'):o.wp P a w K Q:=by
  have hst:=run_storeCells_at P b 0 T cs 0 arr w hb (by omega) h1
  have hnil:arr.toList.drop cs.length=[]:=List.drop_eq_nil_of_le (by simp [hl])
  simp only [Nat.add_zero,Nat.zero_add,List.take_zero,List.nil_append,hnil,List.append_nil] at hst
  have r2:(execOp a.eval o).run P w=.ok .skip (w.setRow b cs.toArray):=by
    have hst:Sem.run P (storeCells ⟨b,0,none⟩ cs) w=Result.ok () (w.setRow b cs.toArray):=hst
    simp [execOp,e,ht,hz,Instr.storeAt,Instr.sureAddr,storeVar,run_sizeOf_of hs,Value.cells,hst]
  unfold Oper.wp
  rw [r2]
  exact hk _ (setRow_heap w b arr cs.toArray T (0,0) hb) ⟨rfl,rfl,rfl,by simp,fun k _ hk=>setRow_other w b k _ (fun e=>hk (by rw [e]))⟩
end
theorem ev {a:Act} {t:Nat} {v:Value} (h:a.tmps[t]? = some v):a.eval (.tmp t)=v:=by
  simp [Act.eval,h]
theorem put_ne {a:Act} {d j:Nat} {v:Value} (h:j≠d):(a.put (some d) v).tmps[j]? = a.tmps[j]? := Array.getElem?_setIfInBounds_ne (fun e=>h e.symm)
theorem put_eq {a:Act} {d:Nat} {v:Value} (h:d<a.tmps.size):(a.put (some d) v).tmps[d]? = some v:=Array.getElem?_setIfInBounds_self_of_lt h
theorem put_sz {a:Act} {d:Nat} {v:Value}:(a.put (some d) v).tmps.size=a.tmps.size:=by simp [Act.put]
def Pure (n ja js i:Nat):Prop:=i<n∧i≠ja∧i≠js
structure TI (n ja js da:Nat) (ds:Nat→Nat) (val:Nat→Value) (T:TypeId) (V:List Value) (w0:World) (a0:Act) (f:Nat→Bool) (a:Act) (w:World) (b:Nat):Prop where
  sz:a.tmps.size=a0.tmps.size
  df:a.defers=a0.defers
  bel:Below w0.heap.size w0 w
  vals:∀ i,Pure n ja js i→f i=true→a.tmps[ds i]? = some (val i)
  rest:∀ j,(∀ i,Pure n ja js i→ds i≠j)→j≠da→a.tmps[j]? = a0.tmps[j]?
  ord:f js=true→f ja=true
  box:f ja=true→a.tmps[da]? = some (.pointer (some ⟨b,0,none⟩))∧w0.heap.size≤b∧b<w.heap.size∧∃ cs,w.heap[b]? = some (.cells cs T (0,0))∧cs.size=V.length∧(f js=true→cs=V.toArray)
theorem TI.world {n ja js da ds val T V w0 a0 f a w b} (h:TI n ja js da ds val T V w0 a0 f a w b) {w':World} (hb:Below w.heap.size w w'):TI n ja js da ds val T V w0 a0 f a w' b:=
  ⟨h.sz,h.df,h.bel.trans (hb.mono h.bel.size),h.vals,h.rest,h.ord,fun e=>by
    obtain ⟨h1,h2,h3,cs,h4,h5⟩:=h.box e
    exact ⟨h1,h2,Nat.lt_of_lt_of_le h3 hb.size,cs,(hb.block _ h3).trans h4,h5⟩⟩
theorem wp_region_table {P:Program} {id:Nat} {Q:Exit→Act→World→Prop} {ops:Array Oper} {a0:Act} {w:World} (hm:P.follows .mixedOrders=true)
    (n ja js jv da:Nat) (ds:Nat→Nat) (val:Nat→Value) (T ty:TypeId) (z:Value) (V:List Value) (hn:ops.size=n)
    (hback:∀ (i:Nat) (o:Oper),ops[i]? = some o→∀ e∈o.after,Region.binds .any e=true→e.on<i)
    (hp:∀ i o,Pure n ja js i→ops[i]? = some o→o.guard=none∧o.dst=some (ds i)∧ds i<a0.tmps.size∧∀ a,(∀ e∈o.after,Region.binds .any e=true→e.on≠ja→e.on≠js→a.tmps[ds e.on]? = some (val e.on))→
      (∀ j,(∀ i,Pure n ja js i→ds i≠j)→j≠da→a.tmps[j]? = a0.tmps[j]?)→∀ w',Below w.heap.size w w'→o.quietAt P a (fun w''=>Below w'.heap.size w' w'') w' (val i))
    (hinj:∀ i i',Pure n ja js i→Pure n ja js i'→ds i=ds i'→i=i') (hda:∀ i,Pure n ja js i→ds i≠da) (hdl:da<a0.tmps.size)
    (ha:∃ o,ops[ja]? = some o∧o.guard=none∧o.op=.alloc T∧o.dst=some da) (hz:∀ w,Sem.run P (zeroValue T) w=.ok z w) (hzV:z.cells.size=V.length)
    (hs:∃ o,ops[js]? = some o∧o.guard=none∧o.op=.store ty (.tmp da) (.tmp (ds jv))∧o.dst=none∧∀ f:Nat→Bool,(∀ e∈o.after,Region.binds .any e=true→f e.on=true)→f ja=true∧f jv=true)
    (hjv:Pure n ja js jv) (hjas:ja≠js) (hv:val jv=.agg V.toArray) (hVs:tSz P ty=some V.length) (h1:∀ c∈V,c.oneCell'=true)
    (hq:∀ a w' b,Below w.heap.size w w'→w.heap.size≤b→b<w'.heap.size→w'.heap[b]? = some (.cells V.toArray T (0,0))→a.defers=a0.defers→a.tmps.size=a0.tmps.size→(∀ i,Pure n ja js i→a.tmps[ds i]? = some (val i))→a.tmps[da]? = some (.pointer (some ⟨b,0,none⟩))→
      (∀ j,(∀ i,Pure n ja js i→ds i≠j)→j≠da→a.tmps[j]? = a0.tmps[j]?)→Q .normal a w'):(Code.region id ops true).wp P Q a0 w:=by
  have hdr:Below w.heap.size w w.drew:=(Below.refl _ w).drew
  refine wp_region_inv hm (fun f a w'=>∃ b,TI n ja js da ds val T V w a0 f a w' b) hback ⟨0,rfl,rfl,hdr,by simp,fun _ _ _=>rfl,by simp,by simp⟩ ?_ ?_
  · rintro f a w1 i o ⟨b,S⟩ ho hf hdep
    have hi:i<n:=by rw [← hn];exact (Array.getElem?_eq_some_iff.1 ho).1
    by_cases ea:i=ja
    · subst ea
      obtain ⟨o',q1,q2,q3,q4⟩:=ha
      rw [q1] at ho;cases ho
      have njs:f js=true→False:=fun h=>by have:=S.ord h;rw [hf] at this;cases this
      refine wpOp_of q1 q2 (op_alloc q3 hz ?_)
      rw [q4]
      have hb:Below w1.heap.size w1 (w1.alloc (.cells z.cells T)):=(Below.refl _ _).alloc (Nat.le_refl _) _
      have S1:=S.world hb
      refine ⟨w1.heap.size,put_sz.trans S1.sz,S1.df,S1.bel,fun k hk h=>?_,fun j h1 h2=>(put_ne h2).trans (S1.rest j h1 h2),fun h=>?_,fun _=>⟨put_eq (by rw [S.sz];exact hdl),S.bel.size,by simp,z.cells,heap_at _ _ _ rfl,hzV,fun h=>?_⟩⟩
      · rw [put_ne (hda k hk)]
        rw [if_neg hk.2.1] at h
        exact S1.vals k hk h
      · exact if_pos rfl
      · rw [if_neg (fun e=>hjas e.symm)] at h;exact (njs h).elim
    · by_cases es:i=js
      · subst es
        obtain ⟨o',q1,q2,q3,q4,q5⟩:=hs
        rw [q1] at ho;cases ho
        obtain ⟨fa,fv⟩:=q5 f hdep
        obtain ⟨g1,g2,g3,cs,g4,g5,-⟩:=S.box fa
        refine wpOp_of q1 q2 (op_store q3 (ev g1) ((ev (S.vals jv hjv fv)).trans hv) hVs g4 g5 h1 fun w' hh hg=>?_)
        rw [q4]
        refine ⟨b,S.sz,S.df,S.bel.grown hg S.bel.size (fun k e=>by have:=Option.some.inj e;omega),fun k hk h=>?_,S.rest,fun _=>?_,fun _=>⟨g1,g2,Nat.lt_of_lt_of_le g3 hg.size,_,hh,by simp,fun _=>rfl⟩⟩
        · rw [if_neg hk.2.2] at h
          exact S.vals k hk h
        · rw [if_neg hjas];exact fa
      · have hpi:Pure n ja js i:=⟨hi,ea,es⟩
        obtain ⟨q2,q4,q5,q6⟩:=hp i o hpi ho
        have hQ:=q6 a (fun e he hb h1 h2=>by
          have hlt:=hback i o ho e he hb
          exact S.vals e.on ⟨by omega,h1,h2⟩ (hdep e he hb)) S.rest w1 S.bel
        refine wpOp_of ho q2 ?_
        have key:∀ w2,Below w1.heap.size w1 w2→∃ b,TI n ja js da ds val T V w a0 (fun j=>if j=i then true else f j) (a.put (some (ds i)) (val i)) w2 b:=fun w2 hb=>by
          have S1:=S.world hb
          refine ⟨b,put_sz.trans S1.sz,S1.df,S1.bel,fun k hk h=>?_,fun j h1 h2=>(put_ne (fun e=>h1 i hpi e.symm)).trans (S1.rest j h1 h2),fun h=>?_,fun h=>?_⟩
          · by_cases ek:k=i
            · subst ek;exact put_eq (by rw [S.sz];exact q5)
            · rw [if_neg ek] at h
              rw [put_ne (fun e=>ek (hinj k i hk hpi e))]
              exact S1.vals k hk h
          · rw [if_neg (fun e=>es e.symm)] at h
            rw [if_neg (fun e=>ea e.symm)];exact S1.ord h
          · rw [if_neg (fun e=>ea e.symm)] at h
            rw [put_ne (fun e=>hda i hpi e.symm),if_neg (fun e=>es e.symm)]
            exact S1.box h
        rw [← q4] at key
        unfold Oper.quietAt at hQ
        unfold Oper.wp
        generalize (execOp a.eval o).run P w1=r at hQ ⊢
        cases r with
        | ok nx w'=>
          cases nx <;> simp only [Oper.quietUpon] at hQ <;> simp only [Oper.upon]
          case value u=>
            obtain ⟨e1,e2⟩:=hQ
            subst e1;subst e2
            exact key _ (Below.refl _ _)
          case skip=>
            obtain ⟨e1,e2⟩:=hQ
            subst e1
            rw [← e2]
            exact key _ (Below.refl _ _)
          case enter f args=>
            obtain ⟨e1,hc⟩:=hQ
            subst e1
            exact hc.mono fun e w'' ⟨he,hw''⟩=>by subst he;exact key _ hw''
        | halt x w'=>simp only [Oper.quietUpon] at hQ
  · rintro f a w1 ⟨b,S⟩ hall
    rw [hn] at hall
    have hja:ja<n:=by obtain ⟨o,q,-⟩:=ha;rw [← hn];exact (Array.getElem?_eq_some_iff.1 q).1
    have hjs:js<n:=by obtain ⟨o,q,-⟩:=hs;rw [← hn];exact (Array.getElem?_eq_some_iff.1 q).1
    obtain ⟨g1,g2,g3,cs,g4,-,g6⟩:=S.box (hall ja hja)
    exact hq a w1 b S.bel g2 g3 (g6 (hall js hjs) ▸ g4) S.df S.sz (fun i hi=>S.vals i hi (hall i hi.1)) g1 S.rest
theorem tmps_eq:∀ (wr:List (Nat × Value)) (t0 tm:Array Value),tm.size=t0.size→(wr.map Prod.fst).Nodup→(∀ q∈wr,tm[q.1]? = some q.2)→(∀ q∈wr,q.1<t0.size)→(∀ j,j∉wr.map Prod.fst→tm[j]? = t0[j]?)→tm=wr.foldl (fun t p=>t.setIfInBounds p.1 p.2) t0
  | [],t0,tm,_,_,_,_,hr=>Array.ext_getElem? fun j=>hr j (by simp)
  | p :: wr,t0,tm,hs,hn,h,hl,hr=>by
    rw [List.map_cons,List.nodup_cons] at hn
    refine tmps_eq wr (t0.setIfInBounds p.1 p.2) tm (by simpa using hs) hn.2 (fun q hq=>h q (by simp [hq])) (fun q hq=>by simpa using hl q (by simp [hq])) fun j hj=>?_
    by_cases e:j=p.1
    · subst e
      rw [h p (by simp),Array.getElem?_setIfInBounds_self_of_lt (hl p (by simp))]
    · rw [Array.getElem?_setIfInBounds_ne (fun e2=>e e2.symm)]
      exact hr j (by rw [List.map_cons,List.mem_cons];rintro (h | h);exact e h;exact hj h)
theorem quiet_val {P:Program} {o:Oper} {a:Act} {C:World→Prop} {w:World} {v:Value} (h:(execOp a.eval o).run P w=.ok (.value v) w):o.quietAt P a C w v:=by
  unfold Oper.quietAt
  rw [h]
  exact ⟨rfl,rfl⟩
theorem quiet_l1 {P:Program} {C:World→Prop} {o:Oper} {a:Act} {ty:TypeId} {y:Operand} {ad:Addr} {v:Value} {w:World}
    (e:o.op=.load ty y) (hy:a.eval y=.pointer (some ad)) (ha:tAg P ty=some false) (hC:w.cell? ad=some v):o.quietAt P a C w v:=
  quiet_val (by
    have hld:=run_loadVar_one (P:=P) (ty:=ty) (w:=w) (a:=ad) (v:=v) ha hC
    simp [execOp,e,hy,Instr.loadAt,Instr.sureAddr,hld])
theorem quiet_cf {P:Program} {C:World→Prop} {o:Oper} {a:Act} {w:World} {f:FuncId} {xs:Array Operand} {tys:Array TypeId} {vs:Array Value} {v:Value}
    (e:o.op=.call { callee:=.value (.func f),args:=xs,argTypes:=tys }) (hc:∀ (args:Array Value) (w:World),Sem.run P (callFunc f args) w=.ok (.enter f args) w) (hv:xs.map a.eval=vs)
    (h:Calls P f vs w fun e w'=>e=.returned v∧C w'):o.quietAt P a C w v:=by
  have r1:(execOp a.eval o).run P w=.ok (.enter f vs) w:=by subst hv;simp [execOp,e,resolve,invoke,hc,go_sem]
  unfold Oper.quietAt
  rw [r1]
  exact ⟨rfl,h⟩
theorem quiet_ct {P:Program} {C:World→Prop} {o:Oper} {a:Act} {w:World} {f:FuncId} {t:Nat} {xs:Array Operand} {tys:Array TypeId} {vs:Array Value} {v:Value}
    (e:o.op=.call { callee:=.value (.tmp t),args:=xs,argTypes:=tys }) (hf:a.tmps[t]? = some (.func (.func f) #[] #[])) (hc:∀ (args:Array Value) (w:World),Sem.run P (callFunc f args) w=.ok (.enter f args) w) (hv:xs.map a.eval=vs)
    (h:Calls P f vs w fun e w'=>e=.returned v∧C w'):o.quietAt P a C w v:=by
  have r1:(execOp a.eval o).run P w=.ok (.enter f vs) w:=by subst hv;simp [execOp,e,resolve,invoke,hc,hf,go_sem]
  unfold Oper.quietAt
  rw [r1]
  exact ⟨rfl,h⟩
def injB (n ja js:Nat) (ds:Nat→Nat):Bool:=(List.range n).all fun i=>(List.range n).all fun j=>i==ja||i==js||j==ja||j==js||ds i != ds j||i==j
theorem inj_of {n ja js:Nat} {ds:Nat→Nat} (h:injB n ja js ds=true):∀ i i',Pure n ja js i→Pure n ja js i'→ds i=ds i'→i=i':=by
  intro i j hi hj e
  have h1:=List.all_eq_true.1 h i (List.mem_range.2 hi.1)
  have h2:=List.all_eq_true.1 h1 j (List.mem_range.2 hj.1)
  simp only [Bool.or_eq_true,beq_iff_eq,bne_iff_ne,ne_eq] at h2
  rcases h2 with ((((h2 | h2) | h2) | h2) | h2) | h2
  · exact absurd h2 hi.2.1
  · exact absurd h2 hi.2.2
  · exact absurd h2 hj.2.1
  · exact absurd h2 hj.2.2
  · exact absurd e h2
  · exact h2
def AllV (tm:Array Value):List (Nat × Value)→Prop
  | []=>True
  | p::wr=>tm[p.1]? = some p.2∧AllV tm wr
theorem AllV.mem {tm:Array Value}:∀ {wr:List (Nat × Value)},AllV tm wr→∀ q∈wr,tm[q.1]? = some q.2
  | p::wr,h,q,hq=>by
    rcases List.mem_cons.1 hq with e | e
    · subst e;exact h.1
    · exact AllV.mem h.2 q e
theorem nodup_of:∀ {l:List Nat},nodupB l=true→l.Nodup
  | [],_=>List.nodup_nil
  | x::l,h=>by
    simp only [nodupB,Bool.and_eq_true,Bool.not_eq_true'] at h
    rw [List.nodup_cons]
    refine ⟨fun hm=>?_,nodup_of h.2⟩
    have:=List.contains_iff_mem.2 hm
    rw [h.1] at this
    cases this
theorem tmps_eq' (wr:List (Nat × Value)) (t0 tm:Array Value) (hs:tm.size=t0.size) (hn:nodupB (wr.map Prod.fst)=true) (hl:(wr.map Prod.fst).all (fun j=>Nat.blt j t0.size)=true) (h:AllV tm wr)
    (hr:∀ j,j∉wr.map Prod.fst→tm[j]? = t0[j]?):tm=wr.foldl (fun t p=>t.setIfInBounds p.1 p.2) t0:=
  tmps_eq wr t0 tm hs (nodup_of hn) h.mem (fun q hq=>by
    have:=List.all_eq_true.1 hl q.1 (List.mem_map.2 ⟨q,hq,rfl⟩)
    exact Nat.le_of_ble_eq_true this) hr
end GoForm
end

section
/- The decoder's vectors. No conditions. -/
set_option linter.all false
set_option maxRecDepth 100000
open Go Go.Rx Go.Proofs Go.RowKit
namespace GoForm
theorem below_grown'' {w w':World} {r:Option Nat} (h:Below w.heap.size w w'):w.grownBy w' r:=⟨h.os,h.tape,h.output,h.size,fun k hk _=>h.block k hk⟩
def dsV170:Nat→Nat
  | 0=>7
  | 1=>8
  | 2=>9
  | 3=>10
  | 4=>11
  | 5=>12
  | 6=>13
  | 7=>14
  | 8=>15
  | 9=>6
  | 10=>16
  | 11=>17
  | 12=>18
  | 15=>4
  | 16=>5
  | _=>0
def valV170 (bd:Nat) (a:Option Addr) (n c:Nat) (off off':Int) (x:Vec):Nat→Value
  | 0=>(.pointer (some ⟨bd,0,none⟩))
  | 1=>(.pointer (some ⟨bd,0,none⟩))
  | 2=>(.pointer (some ⟨bd,0,none⟩))
  | 3=>(.slice a n c)
  | 4=>(.pointer (some ⟨bd,0,none⟩))
  | 5=>(.pointer (some ⟨bd,0,none⟩))
  | 6=>(.pointer (some ⟨bd,1,none⟩))
  | 7=>(.int .i64 off)
  | 8=>(.tuple #[.agg #[.int .i64 x.X,.int .i64 x.Y],.int .i64 off',.int .i64 0])
  | 9=>(.tuple #[.agg #[.int .i64 x.X,.int .i64 x.Y],.int .i64 off',.int .i64 0])
  | 10=>(.agg #[.int .i64 x.X,.int .i64 x.Y])
  | 11=>(.int .i64 off')
  | 12=>(.int .i64 0)
  | 15=>(.int .i64 off')
  | 16=>(.int .i64 0)
  | _=>undef
set_option maxHeartbeats 2000000 in
theorem dvec {m:Mem} {buf:List UInt8} {a:Option Addr} {n c:Nat} {bd:Nat} {off off':Int} {x:Vec} {W:World} (F:BF m buf a n c bd W) (hb:DB bd (.slice a n c) off W) (h:codec_ReadVec buf off=some (x,off',0)):
    Calls Tryz.prog 170 #[.pointer (some ⟨bd,0,none⟩)] W fun e W'=>e=.returned (.agg #[.int .i64 x.X,.int .i64 x.Y])∧DB bd (.slice a n c) off' W'∧W.grownBy W' (some bd):=by
  have hb:W.heap[bd]? = some (.cells #[.slice a n c,.int .i64 off] 258 (0,0)):=hb
  have e116:=Tryz.call116
  have e187:=Tryz.call187
  have hc:FnR Tryz.prog 116 [e_sl_byte buf,.v (.int .i64 off)] (.tup [.agg [.v (.int .i64 x.X),.v (.int .i64 x.Y)],.v (.int .i64 off'),.v (.int .i64 0)]) []:=c_116.ok (buf,off,()) [e_sl_byte buf,.v (.int .i64 off)] ((x,off',(0:Int)):Vec × Int × Int) ⟨rfl,rfl,trivial⟩ h
  have kc:∀ w',Below W.heap.size W w'→Calls Tryz.prog 116 #[.slice a n c,.int .i64 off] w' fun e w''=>e=.returned (.tuple #[.agg #[.int .i64 x.X,.int .i64 x.Y],.int .i64 off',.int .i64 0])∧Below w'.heap.size w' w'':=fun w' hw=>by
    refine (call_r hc w' [.slice a n c,.int .i64 off] (.cons (F.rep.mono (le_all (F.imm.below hw))) (.cons .v .nil))).mono ?_
    rintro e w'' ⟨v,rfl,hb2,hrep⟩
    obtain ⟨vs,rfl,hvs⟩:=rep_tup hrep
    obtain ⟨v1,vs,rfl,h1,hvs⟩:=hvs.inv
    have:vs=[.int .i64 off',.int .i64 0]:=repsV_eq (l:=[.int .i64 off',.int .i64 0]) hvs
    subst this
    obtain ⟨cs,rfl,hcs,-⟩:=rep_agg h1
    have:cs=[.int .i64 x.X,.int .i64 x.Y]:=repsV_eq (l:=[.int .i64 x.X,.int .i64 x.Y]) hcs
    subst this
    exact ⟨rfl,hb2⟩
  have HB:Hid (_∧_):=⟨hb,F.lt⟩
  clear hc
  go_enter Tryz.func170,Tryz.ntmps170
  go_wp2
  obtain ⟨V,hV⟩:∃ V,V=W.alloc (.cells #[.int .i64 0,.int .i64 0] 65):=⟨_,rfl⟩
  rw [← hV]
  have bV:Below W.heap.size W V:=by rw [hV];exact (Below.refl _ _).alloc (Nat.le_refl _) _
  have kV:V.heap[W.heap.size]? = some (.cells #[.int .i64 0,.int .i64 0] 65 (0,0)):=by rw [hV];exact heap_at _ _ _ rfl
  have sV:V.heap.size=W.heap.size+1:=by rw [hV];simp
  have hbV:V.heap[bd]? = some (.cells #[.slice a n c,.int .i64 off] 258 (0,0)):=(bV.block _ F.lt).trans hb
  have lV:bd<V.heap.size:=by have:=F.lt;omega
  have HB:Hid (_∧_∧_∧_∧_∧_∧_):=⟨fun w' (hw:Below V.heap.size V w')=>box_cell ((hw.block _ lV).trans hbV) 0 rfl,fun w' (hw:Below V.heap.size V w')=>box_cell ((hw.block _ lV).trans hbV) 1 rfl,
    fun w' (hw:Below V.heap.size V w')=>kc w' (bV.trans (hw.mono (by omega))),bV,kV,sV,hbV⟩
  clear hb hbV kc hV bV kV
  refine wp_region_table mixed47 17 13 14 10 3 dsV170 (valV170 bd a n c off off' x) 65 65 _ [.int .i64 x.X,.int .i64 x.Y] rfl ?_ ?_ ?_ ?_ (by simp) ⟨_,rfl,rfl,rfl,rfl⟩ Tryz.zeroValue65 rfl ⟨_,rfl,rfl,rfl,rfl,?_⟩ ⟨by decide,by decide,by decide⟩ (by decide) rfl (by kernel_rfl) (by intro c hc;simp at hc;rcases hc with rfl | rfl <;> rfl) ?_
  · intro i o ho
    match i with
    | 0=>cases ho;simp [Region.binds]
    | 1=>cases ho;simp [Region.binds]
    | 2=>cases ho;simp [Region.binds]
    | 3=>cases ho;simp [Region.binds]
    | 4=>cases ho;simp [Region.binds]
    | 5=>cases ho;simp [Region.binds]
    | 6=>cases ho;simp [Region.binds]
    | 7=>cases ho;simp [Region.binds]
    | 8=>cases ho;simp [Region.binds]
    | 9=>cases ho;simp [Region.binds]
    | 10=>cases ho;simp [Region.binds]
    | 11=>cases ho;simp [Region.binds]
    | 12=>cases ho;simp [Region.binds]
    | 13=>cases ho;simp [Region.binds]
    | 14=>cases ho;simp [Region.binds]
    | 15=>cases ho;simp [Region.binds]
    | 16=>cases ho;simp [Region.binds]
    | j+17=>simp at ho
  · intro i o hpu ho
    obtain ⟨h1,h2,h3⟩:=hpu
    match i,h1,h2,h3 with
    | 0,_,_,_=>
      cases ho
      refine ⟨rfl,rfl,by simp [dsV170],fun ac hd hr w' hw=>?_⟩
      have r0:=((hr 0 (fun i hp=>(by decide:∀ i,i<17→i≠13→i≠14→dsV170 i≠0) i hp.1 hp.2.1 hp.2.2) (by decide)).trans rfl)
      have x0:=ev r0
      simp [Oper.quietAt,Oper.quietUpon,execOp,r0,go_sem,valV170]
    | 1,_,_,_=>
      cases ho
      refine ⟨rfl,rfl,by simp [dsV170],fun ac hd hr w' hw=>?_⟩
      have r7:ac.tmps[7]? = some (.pointer (some ⟨bd,0,none⟩)):=hd ⟨0,.data⟩ (by simp) rfl (by decide) (by decide)
      have x7:=ev r7
      simp [Oper.quietAt,Oper.quietUpon,execOp,r7,go_sem,valV170]
    | 2,_,_,_=>
      cases ho
      refine ⟨rfl,rfl,by simp [dsV170],fun ac hd hr w' hw=>?_⟩
      have r8:ac.tmps[8]? = some (.pointer (some ⟨bd,0,none⟩)):=hd ⟨1,.data⟩ (by simp) rfl (by decide) (by decide)
      have x8:=ev r8
      simp [Oper.quietAt,Oper.quietUpon,execOp,r8,go_sem,valV170]
    | 3,_,_,_=>
      cases ho
      refine ⟨rfl,rfl,by simp [dsV170],fun ac hd hr w' hw=>?_⟩
      have r9:ac.tmps[9]? = some (.pointer (some ⟨bd,0,none⟩)):=hd ⟨2,.data⟩ (by simp) rfl (by decide) (by decide)
      have x9:=ev r9
      exact quiet_l1 rfl x9 (by kernel_rfl) (HB.out.1 w' hw)
    | 4,_,_,_=>
      cases ho
      refine ⟨rfl,rfl,by simp [dsV170],fun ac hd hr w' hw=>?_⟩
      have r0:=((hr 0 (fun i hp=>(by decide:∀ i,i<17→i≠13→i≠14→dsV170 i≠0) i hp.1 hp.2.1 hp.2.2) (by decide)).trans rfl)
      have x0:=ev r0
      simp [Oper.quietAt,Oper.quietUpon,execOp,r0,go_sem,valV170]
    | 5,_,_,_=>
      cases ho
      refine ⟨rfl,rfl,by simp [dsV170],fun ac hd hr w' hw=>?_⟩
      have r11:ac.tmps[11]? = some (.pointer (some ⟨bd,0,none⟩)):=hd ⟨4,.data⟩ (by simp) rfl (by decide) (by decide)
      have x11:=ev r11
      simp [Oper.quietAt,Oper.quietUpon,execOp,r11,go_sem,valV170]
    | 6,_,_,_=>
      cases ho
      refine ⟨rfl,rfl,by simp [dsV170],fun ac hd hr w' hw=>?_⟩
      have r12:ac.tmps[12]? = some (.pointer (some ⟨bd,0,none⟩)):=hd ⟨5,.data⟩ (by simp) rfl (by decide) (by decide)
      have x12:=ev r12
      simp [Oper.quietAt,Oper.quietUpon,execOp,r12,go_sem,valV170]
    | 7,_,_,_=>
      cases ho
      refine ⟨rfl,rfl,by simp [dsV170],fun ac hd hr w' hw=>?_⟩
      have r13:ac.tmps[13]? = some (.pointer (some ⟨bd,1,none⟩)):=hd ⟨6,.data⟩ (by simp) rfl (by decide) (by decide)
      have x13:=ev r13
      exact quiet_l1 rfl x13 (by kernel_rfl) (HB.out.2.1 w' hw)
    | 8,_,_,_=>
      cases ho
      refine ⟨rfl,rfl,by simp [dsV170],fun ac hd hr w' hw=>?_⟩
      have r10:ac.tmps[10]? = some (.slice a n c):=hd ⟨3,.data⟩ (by simp) rfl (by decide) (by decide)
      have x10:=ev r10
      have r14:ac.tmps[14]? = some (.int .i64 off):=hd ⟨7,.data⟩ (by simp) rfl (by decide) (by decide)
      have x14:=ev r14
      exact quiet_cf (f:=116) (vs:=#[.slice a n c,.int .i64 off]) rfl e116 (by simp [x10,x14]) (HB.out.2.2.1 w' hw)
    | 9,_,_,_=>
      cases ho
      refine ⟨rfl,rfl,by simp [dsV170],fun ac hd hr w' hw=>?_⟩
      have r15:ac.tmps[15]? = some (.tuple #[.agg #[.int .i64 x.X,.int .i64 x.Y],.int .i64 off',.int .i64 0]):=hd ⟨8,.data⟩ (by simp) rfl (by decide) (by decide)
      have x15:=ev r15
      simp [Oper.quietAt,Oper.quietUpon,execOp,r15,go_sem,valV170]
    | 10,_,_,_=>
      cases ho
      refine ⟨rfl,rfl,by simp [dsV170],fun ac hd hr w' hw=>?_⟩
      have r6:ac.tmps[6]? = some (.tuple #[.agg #[.int .i64 x.X,.int .i64 x.Y],.int .i64 off',.int .i64 0]):=hd ⟨9,.data⟩ (by simp) rfl (by decide) (by decide)
      have x6:=ev r6
      simp [Oper.quietAt,Oper.quietUpon,execOp,r6,go_sem,valV170]
    | 11,_,_,_=>
      cases ho
      refine ⟨rfl,rfl,by simp [dsV170],fun ac hd hr w' hw=>?_⟩
      have r6:ac.tmps[6]? = some (.tuple #[.agg #[.int .i64 x.X,.int .i64 x.Y],.int .i64 off',.int .i64 0]):=hd ⟨9,.data⟩ (by simp) rfl (by decide) (by decide)
      have x6:=ev r6
      simp [Oper.quietAt,Oper.quietUpon,execOp,r6,go_sem,valV170]
    | 12,_,_,_=>
      cases ho
      refine ⟨rfl,rfl,by simp [dsV170],fun ac hd hr w' hw=>?_⟩
      have r6:ac.tmps[6]? = some (.tuple #[.agg #[.int .i64 x.X,.int .i64 x.Y],.int .i64 off',.int .i64 0]):=hd ⟨9,.data⟩ (by simp) rfl (by decide) (by decide)
      have x6:=ev r6
      simp [Oper.quietAt,Oper.quietUpon,execOp,r6,go_sem,valV170]
    | 13,_,h2,_=>exact absurd rfl h2
    | 14,_,_,h3=>exact absurd rfl h3
    | 15,_,_,_=>
      cases ho
      refine ⟨rfl,rfl,by simp [dsV170],fun ac hd hr w' hw=>?_⟩
      have r17:ac.tmps[17]? = some (.int .i64 off'):=hd ⟨11,.data⟩ (by simp) rfl (by decide) (by decide)
      have x17:=ev r17
      simp [Oper.quietAt,Oper.quietUpon,execOp,r17,go_sem,valV170]
    | 16,_,_,_=>
      cases ho
      refine ⟨rfl,rfl,by simp [dsV170],fun ac hd hr w' hw=>?_⟩
      have r18:ac.tmps[18]? = some (.int .i64 0):=hd ⟨12,.data⟩ (by simp) rfl (by decide) (by decide)
      have x18:=ev r18
      simp [Oper.quietAt,Oper.quietUpon,execOp,r18,go_sem,valV170]
    | j+17,h1,_,_=>exact absurd h1 (by omega)
  · exact inj_of (by kernel_rfl)
  · intro i hi
    exact (by decide:∀ i,i<17→i≠13→i≠14→dsV170 i≠3) i hi.1 hi.2.1 hi.2.2
  · intro f hf
    simp [Region.binds] at hf
    simp [hf]
  intro ac W1 b hW1 hb1 hb2 hbox hdf hsz hvals hda hrest
  obtain ⟨tm,dfr⟩:=ac
  have e1:dfr=[]:=hdf
  subst e1
  have e2:=tmps_eq' [(7,(.pointer (some ⟨bd,0,none⟩))),(8,(.pointer (some ⟨bd,0,none⟩))),(9,(.pointer (some ⟨bd,0,none⟩))),(10,(.slice a n c)),(11,(.pointer (some ⟨bd,0,none⟩))),(12,(.pointer (some ⟨bd,0,none⟩))),(13,(.pointer (some ⟨bd,1,none⟩))),(14,(.int .i64 off)),(15,(.tuple #[.agg #[.int .i64 x.X,.int .i64 x.Y],.int .i64 off',.int .i64 0])),(6,(.tuple #[.agg #[.int .i64 x.X,.int .i64 x.Y],.int .i64 off',.int .i64 0])),(16,(.agg #[.int .i64 x.X,.int .i64 x.Y])),(17,(.int .i64 off')),(18,(.int .i64 0)),(4,(.int .i64 off')),(5,(.int .i64 0)),(3,.pointer (some ⟨b,0,none⟩))] _ tm hsz rfl rfl ⟨hvals 0 ⟨by decide,by decide,by decide⟩,hvals 1 ⟨by decide,by decide,by decide⟩,hvals 2 ⟨by decide,by decide,by decide⟩,hvals 3 ⟨by decide,by decide,by decide⟩,hvals 4 ⟨by decide,by decide,by decide⟩,hvals 5 ⟨by decide,by decide,by decide⟩,hvals 6 ⟨by decide,by decide,by decide⟩,hvals 7 ⟨by decide,by decide,by decide⟩,hvals 8 ⟨by decide,by decide,by decide⟩,hvals 9 ⟨by decide,by decide,by decide⟩,hvals 10 ⟨by decide,by decide,by decide⟩,hvals 11 ⟨by decide,by decide,by decide⟩,hvals 12 ⟨by decide,by decide,by decide⟩,hvals 15 ⟨by decide,by decide,by decide⟩,hvals 16 ⟨by decide,by decide,by decide⟩,hda,trivial⟩ (fun j hj=>hrest j (fun i hi e=>hj (e ▸ (by decide:∀ i,i<17→i≠13→i≠14→dsV170 i∈[7,8,9,10,11,12,13,14,15,6,16,17,18,4,5,3]) i hi.1 hi.2.1 hi.2.2)) (fun e=>hj (by subst e;simp)))
  simp only [List.foldl_cons,List.foldl_nil,List.setIfInBounds_toArray,List.set_cons_succ,List.set_cons_zero] at e2
  subst e2
  have lb:bd<W.heap.size:=F.lt
  have D1:DB bd (.slice a n c) off W1:=(hW1.block _ lV).trans HB.out.2.2.2.2.2.2
  have HW:Hid (_∧_∧_∧_):=⟨hW1,hbox,hb1,hb2⟩
  clear hvals hda hrest hsz hW1 hbox hb1 hb2
  go_wp2_with (first
    | (go_at_call 187;refine (adv (.slice a n c) off off' bd W1 D1).mono ?_;rintro e w2 ⟨rfl,hD,hg⟩;have HG:Hid (_∧_):=⟨hD,hg⟩;clear hD hg)
    | (refine wpList_loadat (cs:=[.int .i64 x.X,.int .i64 x.Y]) rfl rfl rfl rfl (by kernel_rfl) (by kernel_rfl) ((HG.out.2.block _ HW.out.2.2.2 (fun e=>by have:=Option.some.inj e;have:=HW.out.2.2.1;omega)).trans HW.out.2.1) (fun j v e=>by rw [Nat.zero_add];simpa using e) ?_)
    | (refine wpList_storeat (cs:=[.int .i64 x.X,.int .i64 x.Y]) (arr:=[.int .i64 0,.int .i64 0]) rfl rfl rfl rfl rfl (by kernel_rfl) ((HG.out.2.block W.heap.size (by have:=HW.out.1.size;omega) (fun e=>by have:=Option.some.inj e;omega)).trans ((HW.out.1.block W.heap.size (by omega)).trans HB.out.2.2.2.2.1)) (by exact Nat.le_refl 2) (by intro c hc;simp at hc;rcases hc with rfl | rfl <;> rfl) ?_;intro w3 h3 g3;have HK:Hid (_∧_):=⟨h3,g3⟩;clear h3 g3))
  have r0:Tryz.f170.results=#[.cell 2 65]:=rfl
  refine bodyPost_ret (results_box (cs:=[.int .i64 x.X,.int .i64 x.Y]) r0 rfl (by kernel_rfl) (by kernel_rfl) HK.out.1) rfl ?_
  have g1:W.grownBy W1 (some bd):=below_grown'' (HB.out.2.2.2.1.trans (HW.out.1.mono (by omega)))
  have g2:=HG.out.2
  have g3:=HK.out.2
  have s1:=g1.size
  have s2:=g2.size
  refine ⟨rfl,(g3.block bd (by omega) (fun e=>by have:=Option.some.inj e;omega)).trans HG.out.1,?_⟩
  have g12:=grown_trans2 g1 g2
  exact ⟨g3.os.trans g12.os,g3.tape.trans g12.tape,g3.output.trans g12.output,Nat.le_trans g12.size g3.size,fun k hk hn=>(g3.block k (by omega) (fun e=>by have:=Option.some.inj e;omega)).trans (g12.block k hk hn)⟩
end GoForm
end

section
/- Boxes that are written field by field. No conditions. -/
set_option linter.all false
set_option maxRecDepth 100000
open Go Go.Rx Go.Proofs Go.RowKit
namespace GoForm
theorem wpList_store1 {P:Program} {ops:Array Oper} {rest:List Oper} {Q:Exit→Act→World→Prop} {o:Oper} {a:Act} {w:World} {ty:TypeId} {t z:Operand} {b off:Nat} {v:Value} {arr:List Value} {T:TypeId}
    (g:o.guard=none) (e:o.op=.store ty t z) (hd:o.dst=none) (ht:a.eval t=.pointer (some ⟨b,off,none⟩)) (hz:a.eval z=v) (hv:v.cells=#[v]) (hs:tSz P ty=some 1)
    (hb:w.heap[b]? = some (.cells arr.toArray T (0,0))) (hfit:off<arr.length) (h1:v.oneCell'=true)
    (h:∀ w',w'.heap[b]? = some (.cells (arr.set off v).toArray T (0,0))→w.grownBy w' (some b)→wpList P ops Q rest a w'):wpList P ops Q (o::rest) a w:=by
  have hst:=run_storeCells_at P b off T [v] 0 arr.toArray w hb (by simp;omega) (by simpa using h1)
  simp only [Nat.add_zero] at hst
  have he:(arr.take off++[v]++arr.drop (off+[v].length))=arr.set off v:=by
    rw [List.set_eq_take_append_cons_drop,if_pos hfit];simp
  refine wpList_plain g fun K hK=>?_
  have r2:(execOp a.eval o).run P w=.ok .skip (w.setRow b (arr.set off v).toArray):=by
    have hst:Sem.run P (storeCells ⟨b,off,none⟩ [v]) w=Result.ok () (w.setRow b (arr.set off v).toArray):=by rw [← he];exact hst
    simp [execOp,e,ht,hz,Instr.storeAt,Instr.sureAddr,storeVar,run_sizeOf_of hs,hv,hst]
  unfold Oper.wp
  rw [r2,Oper.upon_skip,hd]
  exact hK _ _ (h _ (setRow_heap w b _ _ T (0,0) hb) ⟨rfl,rfl,rfl,by simp,fun k _ hk=>setRow_other w b k _ (fun e=>hk (by rw [e]))⟩)
theorem below_grown' {w w':World} {r:Option Nat} (h:Below w.heap.size w w'):w.grownBy w' r:=⟨h.os,h.tape,h.output,h.size,fun k hk _=>h.block k hk⟩
theorem imm_none {m:Mem} {W:World} (h:Imm m W) {b:Nat} (hb:W.heap.size≤b):∀ o,m b o=none:=fun o=>by
  cases e:m b o with
  | none=>rfl
  | some v=>
    have:=h b o v e
    simp [World.cell?,Array.getElem?_eq_none hb] at this
theorem BF.below {m buf a n c bd W W'} (h:BF m buf a n c bd W) (g:Below W.heap.size W W'):BF m buf a n c bd W':=⟨h.imm.below g,h.rep,h.off,Nat.lt_of_lt_of_le h.lt g.size⟩
structure BS (m:Mem) (buf:List UInt8) (a:Option Addr) (n c bd:Nat) (W0:World) (b2 bx:Nat) (T:TypeId) (K X:List Value) (off:Int) (W:World):Prop where
  F:BF m buf a n c bd W
  D:DB bd (.slice a n c) off W
  X:W.heap[bx]? = some (.cells X.toArray T (0,0))
  K:W.heap[b2]? = some (.cells K.toArray T (0,0))
  G:W0.grownBy W (some bd)
  ne:bx≠bd∧b2≠bd∧b2≠bx
  new:W0.heap.size≤bx∧W0.heap.size≤b2
  lt:bx<W.heap.size∧b2<W.heap.size
  no:∀ o,m bx o=none
theorem BS.start {m buf a n c bd W off} (F:BF m buf a n c bd W) (D:DB bd (.slice a n c) off W) (T:TypeId) (K X:List Value):
    BS m buf a n c bd W W.heap.size (W.heap.size+1) T K X off ((W.alloc (.cells K.toArray T)).alloc (.cells X.toArray T)):=by
  have hb:Below W.heap.size W ((W.alloc (.cells K.toArray T)).alloc (.cells X.toArray T)):=((Below.refl _ _).alloc (Nat.le_refl _) _).alloc (by simp) _
  have hl:=F.lt
  exact ⟨F.below hb,(hb.block _ F.lt).trans D,heap_at _ _ _ (by simp),(heap_past _ _ _ (by simp)).trans (heap_at _ _ _ rfl),below_grown' hb,⟨by omega,by omega,by omega⟩,⟨by omega,Nat.le_refl _⟩,⟨by simp,by simp;omega⟩,imm_none F.imm (by omega)⟩
theorem BS.call {m buf a n c bd W0 b2 bx T K X off W} (h:BS m buf a n c bd W0 b2 bx T K X off W) {off':Int} {W':World} (hD:DB bd (.slice a n c) off' W') (hg:W.grownBy W' (some bd)):BS m buf a n c bd W0 b2 bx T K X off' W':=
  ⟨h.F.grown hg,hD,(hg.block _ h.lt.1 (fun e=>h.ne.1 (Option.some.inj e))).trans h.X,(hg.block _ h.lt.2 (fun e=>h.ne.2.1 (Option.some.inj e))).trans h.K,grown_trans2 h.G hg,h.ne,h.new,⟨Nat.lt_of_lt_of_le h.lt.1 hg.size,Nat.lt_of_lt_of_le h.lt.2 hg.size⟩,h.no⟩
theorem BS.store {m buf a n c bd W0 b2 bx T K X off W} (h:BS m buf a n c bd W0 b2 bx T K X off W) {X':List Value} {W':World} (hX:W'.heap[bx]? = some (.cells X'.toArray T (0,0))) (hg:W.grownBy W' (some bx)):BS m buf a n c bd W0 b2 bx T K X' off W':=
  ⟨⟨imm_grown h.F.imm hg h.no,h.F.rep,h.F.off,Nat.lt_of_lt_of_le h.F.lt hg.size⟩,(hg.block _ h.F.lt (fun e=>h.ne.1 (Option.some.inj e).symm)).trans h.D,hX,(hg.block _ h.lt.2 (fun e=>h.ne.2.2 (Option.some.inj e))).trans h.K,
    ⟨hg.os.trans h.G.os,hg.tape.trans h.G.tape,hg.output.trans h.G.output,Nat.le_trans h.G.size hg.size,fun k hk hn=>(hg.block k (Nat.lt_of_lt_of_le hk h.G.size) (fun e=>by have:=Option.some.inj e;have:=h.new.1;omega)).trans (h.G.block k hk hn)⟩,h.ne,h.new,⟨Nat.lt_of_lt_of_le h.lt.1 hg.size,Nat.lt_of_lt_of_le h.lt.2 hg.size⟩,h.no⟩
theorem BS.fin {m buf a n c bd W0 b2 bx T K X off W} (h:BS m buf a n c bd W0 b2 bx T K X off W) {W':World} (hg:W.grownBy W' (some b2)):DB bd (.slice a n c) off W'∧W0.grownBy W' (some bd):=
  ⟨(hg.block _ h.F.lt (fun e=>h.ne.2.1 (Option.some.inj e).symm)).trans h.D,
    ⟨hg.os.trans h.G.os,hg.tape.trans h.G.tape,hg.output.trans h.G.output,Nat.le_trans h.G.size hg.size,fun k hk hn=>(hg.block k (Nat.lt_of_lt_of_le hk h.G.size) (fun e=>by have:=Option.some.inj e;have:=h.new.2;omega)).trans (h.G.block k hk hn)⟩⟩
structure ZR (buf:List UInt8) (o e:Nat):Prop where
  int:∀ j:Nat,o≤j→j<e→codec_ReadInt buf (j:Int)=some (0,((j+1:Nat):Int),0)
  vec:∀ j:Nat,o≤j→j+1<e→codec_ReadVec buf (j:Int)=some (({ X:=0,Y:=0 }:Vec),((j+2:Nat):Int),0)
  bool:∀ j:Nat,o≤j→j<e→codec_ReadBool buf (j:Int)=some (false,((j+1:Nat):Int),0)
def zB:List Value:=[.int .i64 0,.int .i64 0,.int .i64 0,.int .i64 0,.int .i64 0,.int .i64 0,.int .i64 0,.int .i64 0,.int .i64 0,.int .i64 0,.int .i64 0,.int .i64 0,.int .i64 0,.int .i64 0,.bool false,.bool false,.bool false,.bool false,.int .i64 0,.slice none 0 0]
def zJ:List Value:=[.int .i64 0,.int .i64 0,.int .i64 0,.int .i64 0,.int .i64 0,.int .i64 0,.int .i64 0,.int .i64 0,.int .i64 0,.int .i64 0,.int .i64 0,.bool false,.int .i64 0,.int .i64 0,.bool false,.int .i64 0,.int .i64 0,.int .i64 0,.int .i64 0,.bool false,.int .i64 0,.int .i64 0,.int .i64 0,.int .i64 0]
theorem zB_one:∀ c∈zB,oneCell c=true:=by decide
theorem zJ_one:∀ c∈zJ,oneCell c=true:=by decide
end GoForm
end

section
/- The decoder's truth values, lengths, and slices of nothing. No conditions. -/
set_option linter.all false
set_option maxRecDepth 100000
open Go Go.Rx Go.Proofs Go.RowKit
namespace GoForm
set_option maxHeartbeats 2000000 in
theorem dbool {m:Mem} {buf:List UInt8} {a:Option Addr} {n c:Nat} {bd:Nat} {off off':Int} {x:Bool} {W:World} (F:BF m buf a n c bd W) (hb:DB bd (.slice a n c) off W) (h:codec_ReadBool buf off=some (x,off',0)):
    Calls Tryz.prog 171 #[.pointer (some ⟨bd,0,none⟩)] W fun e W'=>e=.returned (.bool x)∧DB bd (.slice a n c) off' W'∧W.grownBy W' (some bd):=by
  have hb:W.heap[bd]? = some (.cells #[.slice a n c,.int .i64 off] 258 (0,0)):=hb
  have f0:∀ w',Below W.heap.size W w'→w'.cell? ⟨bd,0,none⟩=some (.slice a n c):=fun w' hw=>box_cell ((hw.block _ F.lt).trans hb) 0 rfl
  have f1:∀ w',Below W.heap.size W w'→w'.cell? ⟨bd,1,none⟩=some (.int .i64 off):=fun w' hw=>box_cell ((hw.block _ F.lt).trans hb) 1 rfl
  have e188:=Tryz.call188
  have e187:=Tryz.call187
  have hc:FnR Tryz.prog 188 [e_sl_byte buf,.v (.int .i64 off)] (.tup [.v (.bool x),.v (.int .i64 off'),.v (.int .i64 0)]) []:=c_188.ok (buf,off,()) [e_sl_byte buf,.v (.int .i64 off)] ((x,off',(0:Int)):Bool × Int × Int) ⟨rfl,rfl,trivial⟩ h
  have kc:∀ w',Below W.heap.size W w'→Calls Tryz.prog 188 #[.slice a n c,.int .i64 off] w' fun e w''=>e=.returned (.tuple #[.bool x,.int .i64 off',.int .i64 0])∧Below W.heap.size W w'':=fun w' hw=>by
    refine (call_r hc w' [.slice a n c,.int .i64 off] (.cons (F.rep.mono (le_all (F.imm.below hw))) (.cons .v .nil))).mono ?_
    rintro e w'' ⟨v,rfl,hb2,hrep⟩
    obtain ⟨vs,rfl,hvs⟩:=rep_tup hrep
    have:vs=[.bool x,.int .i64 off',.int .i64 0]:=repsV_eq (l:=[.bool x,.int .i64 off',.int .i64 0]) hvs
    subst this
    exact ⟨rfl,hw.trans (hb2.mono hw.size)⟩
  have HB:Hid (_∧_):=⟨hb,F.lt⟩
  clear hb hc
  go_enter Tryz.func171,Tryz.ntmps171
  go_wp2
  refine wp_region_bel mixed47 (by kernel_rfl) ?_
  go_big_quiet_want
  go_big_quiet_op
  first | go_big_quiet_on | (refine ⟨_,fun _ _=>rfl,?_⟩;go_big_quiet_on)
  go_big_quiet_want
  go_big_quiet_op
  first | go_big_quiet_on | (refine ⟨_,fun _ _=>rfl,?_⟩;go_big_quiet_on)
  go_big_quiet_want
  go_big_quiet_op
  first | go_big_quiet_on | (refine ⟨_,fun _ _=>rfl,?_⟩;go_big_quiet_on)
  go_big_quiet_want
  refine quiet_load1 (ad:=⟨bd,0,none⟩) (v:=.slice a n c) rfl rfl (by kernel_rfl) (fun w' hw=>f0 w' hw) ?_
  simp only [Act.put,List.setIfInBounds_toArray,List.set_cons_succ,List.set_cons_zero]
  go_big_quiet_on
  go_big_quiet_want
  go_big_quiet_op
  first | go_big_quiet_on | (refine ⟨_,fun _ _=>rfl,?_⟩;go_big_quiet_on)
  go_big_quiet_want
  go_big_quiet_op
  first | go_big_quiet_on | (refine ⟨_,fun _ _=>rfl,?_⟩;go_big_quiet_on)
  go_big_quiet_want
  go_big_quiet_op
  first | go_big_quiet_on | (refine ⟨_,fun _ _=>rfl,?_⟩;go_big_quiet_on)
  go_big_quiet_want
  refine quiet_load1 (ad:=⟨bd,1,none⟩) (v:=.int .i64 off) rfl rfl (by kernel_rfl) (fun w' hw=>f1 w' hw) ?_
  simp only [Act.put,List.setIfInBounds_toArray,List.set_cons_succ,List.set_cons_zero]
  go_big_quiet_on
  go_big_quiet_want
  refine quiet_callf (f:=188) (xs:=#[.tmp 10,.tmp 14]) (tys:=#[24,3]) (vs:=#[.slice a n c,.int .i64 off]) (v:=.tuple #[.bool x,.int .i64 off',.int .i64 0]) rfl e188 (by simp [Act.eval]) (fun w' hw'=>kc w' hw') ?_
  simp only [Act.put,List.setIfInBounds_toArray,List.set_cons_succ,List.set_cons_zero]
  go_big_quiet_on
  go_big_quiet_want
  go_big_quiet_op
  first | go_big_quiet_on | (refine ⟨_,fun _ _=>rfl,?_⟩;go_big_quiet_on)
  go_big_quiet_want
  go_big_quiet_op
  first | go_big_quiet_on | (refine ⟨_,fun _ _=>rfl,?_⟩;go_big_quiet_on)
  go_big_quiet_want
  go_big_quiet_op
  first | go_big_quiet_on | (refine ⟨_,fun _ _=>rfl,?_⟩;go_big_quiet_on)
  go_big_quiet_want
  go_big_quiet_op
  first | go_big_quiet_on | (refine ⟨_,fun _ _=>rfl,?_⟩;go_big_quiet_on)
  go_big_quiet_want
  go_big_quiet_op
  first | go_big_quiet_on | (refine ⟨_,fun _ _=>rfl,?_⟩;go_big_quiet_on)
  go_big_quiet_want
  go_big_quiet_op
  first | go_big_quiet_on | (refine ⟨_,fun _ _=>rfl,?_⟩;go_big_quiet_on)
  go_big_quiet_want
  go_big_quiet_op
  first | go_big_quiet_on | (refine ⟨_,fun _ _=>rfl,?_⟩;go_big_quiet_on)
  refine wpQuiet_nil ?_
  intro W1 hW1
  have D1:DB bd (.slice a n c) off W1:=(hW1.block _ HB.out.2).trans HB.out.1
  clear f0 f1 kc
  go_wp2_with (go_at_call 187;refine (adv (.slice a n c) off off' bd W1 D1).mono ?_;rintro e w2 ⟨rfl,hD,hg⟩;have HG:Hid (_∧_):=⟨hD,hg⟩;clear hD hg)
  go_ret
  exact ⟨rfl,HG.out.1,grown_trans hW1 HG.out.2⟩
set_option maxHeartbeats 2000000 in
theorem dlen0 {m:Mem} {buf:List UInt8} {a:Option Addr} {n c:Nat} {bd:Nat} {off off':Int} {W:World} (F:BF m buf a n c bd W) (hb:DB bd (.slice a n c) off W) (h:codec_ReadInt buf off=some (0,off',0)):
    Calls Tryz.prog 189 #[.pointer (some ⟨bd,0,none⟩)] W fun e W'=>e=.returned (.int .i64 0)∧DB bd (.slice a n c) off' W'∧W.grownBy W' (some bd):=by
  have e169:=Tryz.call169
  go_enter Tryz.func189,Tryz.ntmps189
  go_wp2_with (go_at_call 169;refine (dint F hb h).mono ?_;rintro e w2 ⟨rfl,hD,hg⟩;have HG:Hid (_∧_):=⟨hD,hg⟩;clear hD hg)
  go_ret
  exact ⟨rfl,HG.out⟩
set_option maxHeartbeats 2000000 in
theorem dslice0 {m:Mem} {buf:List UInt8} {a:Option Addr} {n c:Nat} {bd:Nat} {off off':Int} {W:World} (F:BF m buf a n c bd W) (hb:DB bd (.slice a n c) off W) (h:codec_ReadInt buf off=some (0,off',0)) (fv:Value):
    Calls Tryz.prog 172 #[.pointer (some ⟨bd,0,none⟩),fv] W fun e W'=>e=.returned (.slice none 0 0)∧DB bd (.slice a n c) off' W'∧W.grownBy W' (some bd):=by
  have e189:=Tryz.call189
  go_enter Tryz.func172,Tryz.ntmps172
  go_wp2_with (go_at_call 189;refine (dlen0 F hb h).mono ?_;rintro e w2 ⟨rfl,hD,hg⟩;have HG:Hid (_∧_):=⟨hD,hg⟩;clear hD hg)
  refine wp_loop_rounds 1 ?_
  rw [rounds_succ]
  go_wp2
  go_ret
  exact ⟨rfl,HG.out⟩
end GoForm
end

section
/- The decoder's body and joint where zeros are read. No conditions. -/
set_option linter.all false
set_option maxRecDepth 100000
open Go Go.Rx Go.Proofs Go.RowKit
namespace GoForm
set_option maxHeartbeats 8000000 in
theorem dbody {m:Mem} {buf:List UInt8} {a:Option Addr} {n c:Nat} {bd:Nat} {o:Nat} {W:World} (F:BF m buf a n c bd W) (hb:DB bd (.slice a n c) (o:Int) W) (Z:ZR buf o (o+20)):
    Calls Tryz.prog 146 #[.pointer (some ⟨bd,0,none⟩)] W fun e W'=>e=.returned (.agg zB.toArray)∧DB bd (.slice a n c) ((o+20:Nat):Int) W'∧W.grownBy W' (some bd):=by
  have e169:=Tryz.call169
  have e170:=Tryz.call170
  have e171:=Tryz.call171
  have e172:=Tryz.call172
  have hmf:∀ (fn:Fn) (first cap:Array Value) (w:World),(Instr.makeFunc fn first cap).run Tryz.prog w=.ok (.func fn first cap) w:=fun _ _ _ _=>rfl
  have HZ:Hid (ZR buf o (o+20)):=Z
  have HS:Hid (BS m buf a n c bd W W.heap.size (W.heap.size+1) 71 zB zB (o:Int) ((W.alloc (.cells zB.toArray 71)).alloc (.cells zB.toArray 71))):=BS.start F hb 71 zB zB
  have ra:tAg Tryz.prog 71=some true:=by kernel_rfl
  have rz:tSz Tryz.prog 71=some 20:=by kernel_rfl
  have HR:Hid (_∧_):=⟨ra,rz⟩
  clear ra rz F hb Z
  go_enter Tryz.func146,Tryz.ntmps146
  go_wp2_with (first
    | (go_at_call 169;refine (dint HS.out.F HS.out.D (HZ.out.int _ (by omega) (by omega))).mono ?_;rintro e w2 ⟨rfl,hD,hg⟩;have HT:Hid (BS m buf a n c bd W W.heap.size (W.heap.size+1) 71 zB zB _ w2):=HS.out.call hD hg;clear HS hD hg;have HS:=HT;clear HT)
    | (go_at_call 170;refine (dvec HS.out.F HS.out.D (HZ.out.vec _ (by omega) (by omega))).mono ?_;rintro e w2 ⟨rfl,hD,hg⟩;have HT:Hid (BS m buf a n c bd W W.heap.size (W.heap.size+1) 71 zB zB _ w2):=HS.out.call hD hg;clear HS hD hg;have HS:=HT;clear HT)
    | (go_at_call 171;refine (dbool HS.out.F HS.out.D (HZ.out.bool _ (by omega) (by omega))).mono ?_;rintro e w2 ⟨rfl,hD,hg⟩;have HT:Hid (BS m buf a n c bd W W.heap.size (W.heap.size+1) 71 zB zB _ w2):=HS.out.call hD hg;clear HS hD hg;have HS:=HT;clear HT)
    | (go_at_call 172;refine (dslice0 HS.out.F HS.out.D (HZ.out.int _ (by omega) (by omega)) _).mono ?_;rintro e w2 ⟨rfl,hD,hg⟩;have HT:Hid (BS m buf a n c bd W W.heap.size (W.heap.size+1) 71 zB zB _ w2):=HS.out.call hD hg;clear HS hD hg;have HS:=HT;clear HT)
    | (refine wpList_store1 (arr:=zB) rfl rfl rfl rfl rfl rfl (by kernel_rfl) HS.out.X (by decide) rfl ?_;intro w2 hX hg;have HT:Hid (BS m buf a n c bd W W.heap.size (W.heap.size+1) 71 zB zB _ w2):=HS.out.store (X':=zB) hX hg;clear HS hX hg;have HS:=HT;clear HT)
    | (refine wpList_storeat (cs:=[.int .i64 0,.int .i64 0]) (arr:=zB) rfl rfl rfl rfl rfl (by kernel_rfl) HS.out.X (by decide) (by decide) ?_;intro w2 hX hg;have HT:Hid (BS m buf a n c bd W W.heap.size (W.heap.size+1) 71 zB zB _ w2):=HS.out.store (X':=zB) hX hg;clear HS hX hg;have HS:=HT;clear HT)
    | (refine wpList_loadat (cs:=zB) rfl rfl rfl rfl HR.out.1 HR.out.2 HS.out.X (fun j v e=>by rw [Nat.zero_add];simpa using e) ?_)
    | (refine wpList_storeat (cs:=zB) (arr:=zB) rfl rfl rfl rfl rfl HR.out.2 HS.out.K (by decide) zB_one ?_;intro w2 hX hg;have HK:Hid (_∧_):=⟨hX,HS.out.fin hg⟩;clear hX hg))
  have r0:Tryz.f146.results=#[.cell 2 71]:=rfl
  refine bodyPost_ret (results_box (cs:=zB) r0 rfl HR.out.1 HR.out.2 HK.out.1) rfl ?_
  exact ⟨rfl,HK.out.2⟩
end GoForm
end

section
/- The decoder's body and joint where zeros are read. No conditions. -/
set_option linter.all false
set_option maxRecDepth 100000
open Go Go.Rx Go.Proofs Go.RowKit
namespace GoForm
set_option maxHeartbeats 8000000 in
theorem djoint {m:Mem} {buf:List UInt8} {a:Option Addr} {n c:Nat} {bd:Nat} {o:Nat} {W:World} (F:BF m buf a n c bd W) (hb:DB bd (.slice a n c) (o:Int) W) (Z:ZR buf o (o+24)):
    Calls Tryz.prog 148 #[.pointer (some ⟨bd,0,none⟩)] W fun e W'=>e=.returned (.agg zJ.toArray)∧DB bd (.slice a n c) ((o+24:Nat):Int) W'∧W.grownBy W' (some bd):=by
  have e169:=Tryz.call169
  have e170:=Tryz.call170
  have e171:=Tryz.call171
  have e172:=Tryz.call172
  have hmf:∀ (fn:Fn) (first cap:Array Value) (w:World),(Instr.makeFunc fn first cap).run Tryz.prog w=.ok (.func fn first cap) w:=fun _ _ _ _=>rfl
  have HZ:Hid (ZR buf o (o+24)):=Z
  have HS:Hid (BS m buf a n c bd W W.heap.size (W.heap.size+1) 75 zJ zJ (o:Int) ((W.alloc (.cells zJ.toArray 75)).alloc (.cells zJ.toArray 75))):=BS.start F hb 75 zJ zJ
  have ra:tAg Tryz.prog 75=some true:=by kernel_rfl
  have rz:tSz Tryz.prog 75=some 24:=by kernel_rfl
  have HR:Hid (_∧_):=⟨ra,rz⟩
  clear ra rz F hb Z
  go_enter Tryz.func148,Tryz.ntmps148
  go_wp2_with (first
    | (go_at_call 169;refine (dint HS.out.F HS.out.D (HZ.out.int _ (by omega) (by omega))).mono ?_;rintro e w2 ⟨rfl,hD,hg⟩;have HT:Hid (BS m buf a n c bd W W.heap.size (W.heap.size+1) 75 zJ zJ _ w2):=HS.out.call hD hg;clear HS hD hg;have HS:=HT;clear HT)
    | (go_at_call 170;refine (dvec HS.out.F HS.out.D (HZ.out.vec _ (by omega) (by omega))).mono ?_;rintro e w2 ⟨rfl,hD,hg⟩;have HT:Hid (BS m buf a n c bd W W.heap.size (W.heap.size+1) 75 zJ zJ _ w2):=HS.out.call hD hg;clear HS hD hg;have HS:=HT;clear HT)
    | (go_at_call 171;refine (dbool HS.out.F HS.out.D (HZ.out.bool _ (by omega) (by omega))).mono ?_;rintro e w2 ⟨rfl,hD,hg⟩;have HT:Hid (BS m buf a n c bd W W.heap.size (W.heap.size+1) 75 zJ zJ _ w2):=HS.out.call hD hg;clear HS hD hg;have HS:=HT;clear HT)
    | (refine wpList_store1 (arr:=zJ) rfl rfl rfl rfl rfl rfl (by kernel_rfl) HS.out.X (by decide) rfl ?_;intro w2 hX hg;have HT:Hid (BS m buf a n c bd W W.heap.size (W.heap.size+1) 75 zJ zJ _ w2):=HS.out.store (X':=zJ) hX hg;clear HS hX hg;have HS:=HT;clear HT)
    | (refine wpList_storeat (cs:=[.int .i64 0,.int .i64 0]) (arr:=zJ) rfl rfl rfl rfl rfl (by kernel_rfl) HS.out.X (by decide) (by decide) ?_;intro w2 hX hg;have HT:Hid (BS m buf a n c bd W W.heap.size (W.heap.size+1) 75 zJ zJ _ w2):=HS.out.store (X':=zJ) hX hg;clear HS hX hg;have HS:=HT;clear HT)
    | (refine wpList_loadat (cs:=zJ) rfl rfl rfl rfl HR.out.1 HR.out.2 HS.out.X (fun j v e=>by rw [Nat.zero_add];simpa using e) ?_)
    | (refine wpList_storeat (cs:=zJ) (arr:=zJ) rfl rfl rfl rfl rfl HR.out.2 HS.out.K (by decide) zJ_one ?_;intro w2 hX hg;have HK:Hid (_∧_):=⟨hX,HS.out.fin hg⟩;clear hX hg))
  refine wp_loop_rounds 5 ?_
  rw [rounds_succ]
  go_wp2_with (first
    | (go_at_call 169;refine (dint HS.out.F HS.out.D (HZ.out.int _ (by omega) (by omega))).mono ?_;rintro e w2 ⟨rfl,hD,hg⟩;have HT:Hid (BS m buf a n c bd W W.heap.size (W.heap.size+1) 75 zJ zJ _ w2):=HS.out.call hD hg;clear HS hD hg;have HS:=HT;clear HT)
    | (go_at_call 170;refine (dvec HS.out.F HS.out.D (HZ.out.vec _ (by omega) (by omega))).mono ?_;rintro e w2 ⟨rfl,hD,hg⟩;have HT:Hid (BS m buf a n c bd W W.heap.size (W.heap.size+1) 75 zJ zJ _ w2):=HS.out.call hD hg;clear HS hD hg;have HS:=HT;clear HT)
    | (go_at_call 171;refine (dbool HS.out.F HS.out.D (HZ.out.bool _ (by omega) (by omega))).mono ?_;rintro e w2 ⟨rfl,hD,hg⟩;have HT:Hid (BS m buf a n c bd W W.heap.size (W.heap.size+1) 75 zJ zJ _ w2):=HS.out.call hD hg;clear HS hD hg;have HS:=HT;clear HT)
    | (refine wpList_store1 (arr:=zJ) rfl rfl rfl rfl rfl rfl (by kernel_rfl) HS.out.X (by decide) rfl ?_;intro w2 hX hg;have HT:Hid (BS m buf a n c bd W W.heap.size (W.heap.size+1) 75 zJ zJ _ w2):=HS.out.store (X':=zJ) hX hg;clear HS hX hg;have HS:=HT;clear HT)
    | (refine wpList_storeat (cs:=[.int .i64 0,.int .i64 0]) (arr:=zJ) rfl rfl rfl rfl rfl (by kernel_rfl) HS.out.X (by decide) (by decide) ?_;intro w2 hX hg;have HT:Hid (BS m buf a n c bd W W.heap.size (W.heap.size+1) 75 zJ zJ _ w2):=HS.out.store (X':=zJ) hX hg;clear HS hX hg;have HS:=HT;clear HT)
    | (refine wpList_loadat (cs:=zJ) rfl rfl rfl rfl HR.out.1 HR.out.2 HS.out.X (fun j v e=>by rw [Nat.zero_add];simpa using e) ?_)
    | (refine wpList_storeat (cs:=zJ) (arr:=zJ) rfl rfl rfl rfl rfl HR.out.2 HS.out.K (by decide) zJ_one ?_;intro w2 hX hg;have HK:Hid (_∧_):=⟨hX,HS.out.fin hg⟩;clear hX hg))
  rw [rounds_succ]
  go_wp2_with (first
    | (go_at_call 169;refine (dint HS.out.F HS.out.D (HZ.out.int _ (by omega) (by omega))).mono ?_;rintro e w2 ⟨rfl,hD,hg⟩;have HT:Hid (BS m buf a n c bd W W.heap.size (W.heap.size+1) 75 zJ zJ _ w2):=HS.out.call hD hg;clear HS hD hg;have HS:=HT;clear HT)
    | (go_at_call 170;refine (dvec HS.out.F HS.out.D (HZ.out.vec _ (by omega) (by omega))).mono ?_;rintro e w2 ⟨rfl,hD,hg⟩;have HT:Hid (BS m buf a n c bd W W.heap.size (W.heap.size+1) 75 zJ zJ _ w2):=HS.out.call hD hg;clear HS hD hg;have HS:=HT;clear HT)
    | (go_at_call 171;refine (dbool HS.out.F HS.out.D (HZ.out.bool _ (by omega) (by omega))).mono ?_;rintro e w2 ⟨rfl,hD,hg⟩;have HT:Hid (BS m buf a n c bd W W.heap.size (W.heap.size+1) 75 zJ zJ _ w2):=HS.out.call hD hg;clear HS hD hg;have HS:=HT;clear HT)
    | (refine wpList_store1 (arr:=zJ) rfl rfl rfl rfl rfl rfl (by kernel_rfl) HS.out.X (by decide) rfl ?_;intro w2 hX hg;have HT:Hid (BS m buf a n c bd W W.heap.size (W.heap.size+1) 75 zJ zJ _ w2):=HS.out.store (X':=zJ) hX hg;clear HS hX hg;have HS:=HT;clear HT)
    | (refine wpList_storeat (cs:=[.int .i64 0,.int .i64 0]) (arr:=zJ) rfl rfl rfl rfl rfl (by kernel_rfl) HS.out.X (by decide) (by decide) ?_;intro w2 hX hg;have HT:Hid (BS m buf a n c bd W W.heap.size (W.heap.size+1) 75 zJ zJ _ w2):=HS.out.store (X':=zJ) hX hg;clear HS hX hg;have HS:=HT;clear HT)
    | (refine wpList_loadat (cs:=zJ) rfl rfl rfl rfl HR.out.1 HR.out.2 HS.out.X (fun j v e=>by rw [Nat.zero_add];simpa using e) ?_)
    | (refine wpList_storeat (cs:=zJ) (arr:=zJ) rfl rfl rfl rfl rfl HR.out.2 HS.out.K (by decide) zJ_one ?_;intro w2 hX hg;have HK:Hid (_∧_):=⟨hX,HS.out.fin hg⟩;clear hX hg))
  rw [rounds_succ]
  go_wp2_with (first
    | (go_at_call 169;refine (dint HS.out.F HS.out.D (HZ.out.int _ (by omega) (by omega))).mono ?_;rintro e w2 ⟨rfl,hD,hg⟩;have HT:Hid (BS m buf a n c bd W W.heap.size (W.heap.size+1) 75 zJ zJ _ w2):=HS.out.call hD hg;clear HS hD hg;have HS:=HT;clear HT)
    | (go_at_call 170;refine (dvec HS.out.F HS.out.D (HZ.out.vec _ (by omega) (by omega))).mono ?_;rintro e w2 ⟨rfl,hD,hg⟩;have HT:Hid (BS m buf a n c bd W W.heap.size (W.heap.size+1) 75 zJ zJ _ w2):=HS.out.call hD hg;clear HS hD hg;have HS:=HT;clear HT)
    | (go_at_call 171;refine (dbool HS.out.F HS.out.D (HZ.out.bool _ (by omega) (by omega))).mono ?_;rintro e w2 ⟨rfl,hD,hg⟩;have HT:Hid (BS m buf a n c bd W W.heap.size (W.heap.size+1) 75 zJ zJ _ w2):=HS.out.call hD hg;clear HS hD hg;have HS:=HT;clear HT)
    | (refine wpList_store1 (arr:=zJ) rfl rfl rfl rfl rfl rfl (by kernel_rfl) HS.out.X (by decide) rfl ?_;intro w2 hX hg;have HT:Hid (BS m buf a n c bd W W.heap.size (W.heap.size+1) 75 zJ zJ _ w2):=HS.out.store (X':=zJ) hX hg;clear HS hX hg;have HS:=HT;clear HT)
    | (refine wpList_storeat (cs:=[.int .i64 0,.int .i64 0]) (arr:=zJ) rfl rfl rfl rfl rfl (by kernel_rfl) HS.out.X (by decide) (by decide) ?_;intro w2 hX hg;have HT:Hid (BS m buf a n c bd W W.heap.size (W.heap.size+1) 75 zJ zJ _ w2):=HS.out.store (X':=zJ) hX hg;clear HS hX hg;have HS:=HT;clear HT)
    | (refine wpList_loadat (cs:=zJ) rfl rfl rfl rfl HR.out.1 HR.out.2 HS.out.X (fun j v e=>by rw [Nat.zero_add];simpa using e) ?_)
    | (refine wpList_storeat (cs:=zJ) (arr:=zJ) rfl rfl rfl rfl rfl HR.out.2 HS.out.K (by decide) zJ_one ?_;intro w2 hX hg;have HK:Hid (_∧_):=⟨hX,HS.out.fin hg⟩;clear hX hg))
  rw [rounds_succ]
  go_wp2_with (first
    | (go_at_call 169;refine (dint HS.out.F HS.out.D (HZ.out.int _ (by omega) (by omega))).mono ?_;rintro e w2 ⟨rfl,hD,hg⟩;have HT:Hid (BS m buf a n c bd W W.heap.size (W.heap.size+1) 75 zJ zJ _ w2):=HS.out.call hD hg;clear HS hD hg;have HS:=HT;clear HT)
    | (go_at_call 170;refine (dvec HS.out.F HS.out.D (HZ.out.vec _ (by omega) (by omega))).mono ?_;rintro e w2 ⟨rfl,hD,hg⟩;have HT:Hid (BS m buf a n c bd W W.heap.size (W.heap.size+1) 75 zJ zJ _ w2):=HS.out.call hD hg;clear HS hD hg;have HS:=HT;clear HT)
    | (go_at_call 171;refine (dbool HS.out.F HS.out.D (HZ.out.bool _ (by omega) (by omega))).mono ?_;rintro e w2 ⟨rfl,hD,hg⟩;have HT:Hid (BS m buf a n c bd W W.heap.size (W.heap.size+1) 75 zJ zJ _ w2):=HS.out.call hD hg;clear HS hD hg;have HS:=HT;clear HT)
    | (refine wpList_store1 (arr:=zJ) rfl rfl rfl rfl rfl rfl (by kernel_rfl) HS.out.X (by decide) rfl ?_;intro w2 hX hg;have HT:Hid (BS m buf a n c bd W W.heap.size (W.heap.size+1) 75 zJ zJ _ w2):=HS.out.store (X':=zJ) hX hg;clear HS hX hg;have HS:=HT;clear HT)
    | (refine wpList_storeat (cs:=[.int .i64 0,.int .i64 0]) (arr:=zJ) rfl rfl rfl rfl rfl (by kernel_rfl) HS.out.X (by decide) (by decide) ?_;intro w2 hX hg;have HT:Hid (BS m buf a n c bd W W.heap.size (W.heap.size+1) 75 zJ zJ _ w2):=HS.out.store (X':=zJ) hX hg;clear HS hX hg;have HS:=HT;clear HT)
    | (refine wpList_loadat (cs:=zJ) rfl rfl rfl rfl HR.out.1 HR.out.2 HS.out.X (fun j v e=>by rw [Nat.zero_add];simpa using e) ?_)
    | (refine wpList_storeat (cs:=zJ) (arr:=zJ) rfl rfl rfl rfl rfl HR.out.2 HS.out.K (by decide) zJ_one ?_;intro w2 hX hg;have HK:Hid (_∧_):=⟨hX,HS.out.fin hg⟩;clear hX hg))
  rw [rounds_succ]
  go_wp2_with (first
    | (go_at_call 169;refine (dint HS.out.F HS.out.D (HZ.out.int _ (by omega) (by omega))).mono ?_;rintro e w2 ⟨rfl,hD,hg⟩;have HT:Hid (BS m buf a n c bd W W.heap.size (W.heap.size+1) 75 zJ zJ _ w2):=HS.out.call hD hg;clear HS hD hg;have HS:=HT;clear HT)
    | (go_at_call 170;refine (dvec HS.out.F HS.out.D (HZ.out.vec _ (by omega) (by omega))).mono ?_;rintro e w2 ⟨rfl,hD,hg⟩;have HT:Hid (BS m buf a n c bd W W.heap.size (W.heap.size+1) 75 zJ zJ _ w2):=HS.out.call hD hg;clear HS hD hg;have HS:=HT;clear HT)
    | (go_at_call 171;refine (dbool HS.out.F HS.out.D (HZ.out.bool _ (by omega) (by omega))).mono ?_;rintro e w2 ⟨rfl,hD,hg⟩;have HT:Hid (BS m buf a n c bd W W.heap.size (W.heap.size+1) 75 zJ zJ _ w2):=HS.out.call hD hg;clear HS hD hg;have HS:=HT;clear HT)
    | (refine wpList_store1 (arr:=zJ) rfl rfl rfl rfl rfl rfl (by kernel_rfl) HS.out.X (by decide) rfl ?_;intro w2 hX hg;have HT:Hid (BS m buf a n c bd W W.heap.size (W.heap.size+1) 75 zJ zJ _ w2):=HS.out.store (X':=zJ) hX hg;clear HS hX hg;have HS:=HT;clear HT)
    | (refine wpList_storeat (cs:=[.int .i64 0,.int .i64 0]) (arr:=zJ) rfl rfl rfl rfl rfl (by kernel_rfl) HS.out.X (by decide) (by decide) ?_;intro w2 hX hg;have HT:Hid (BS m buf a n c bd W W.heap.size (W.heap.size+1) 75 zJ zJ _ w2):=HS.out.store (X':=zJ) hX hg;clear HS hX hg;have HS:=HT;clear HT)
    | (refine wpList_loadat (cs:=zJ) rfl rfl rfl rfl HR.out.1 HR.out.2 HS.out.X (fun j v e=>by rw [Nat.zero_add];simpa using e) ?_)
    | (refine wpList_storeat (cs:=zJ) (arr:=zJ) rfl rfl rfl rfl rfl HR.out.2 HS.out.K (by decide) zJ_one ?_;intro w2 hX hg;have HK:Hid (_∧_):=⟨hX,HS.out.fin hg⟩;clear hX hg))
  have r0:Tryz.f148.results=#[.cell 2 75]:=rfl
  refine bodyPost_ret (results_box (cs:=zJ) r0 rfl HR.out.1 HR.out.2 HK.out.1) rfl ?_
  exact ⟨rfl,HK.out.2⟩
end GoForm
end

section
/- The deferred calls of snapshot.decodeAt where nothing panics. No conditions. -/
set_option linter.all false
set_option maxRecDepth 100000
open Go Go.Rx Go.Proofs Go.RowKit
namespace GoForm
set_option maxHeartbeats 4000000 in
theorem recover_idle (p:Addr) (w:World):
    CallsD Tryz.prog 168 #[.pointer (some p)] .returning w fun e u' w'=>e=.returned (.tuple #[])∧u'=.returning∧w'=w:=by
  refine callsD_of_wpS Tryz.func168 rfl fun c₀ cs hu=>?_
  apply wpS_seq
  apply wpS_region
  simp [wpOpsS,go_sem,recoverD,hu,Tryz.ntmps168,Exit.thenS]
  apply wpS_seq
  apply wpS_seq
  apply wpS_region
  simp [wpOpsS,go_sem,recoverD,hu,Exit.thenS]
  refine wpS_cond (t:=true) (by simp [Act.eval,Array.replicate]) ?_
  simp only [if_true]
  refine wpS_of_wp (wp_ret ?_)
  cases c₀
  simp_all [bodyPostS,Exit.thenS,results,Tryz.results168]
theorem closeB (p q r:Addr) (w:World) (hc:w.cell? p=some (.int .i64 0)):
    CallsD Tryz.prog 167 #[.pointer (some p),.pointer (some q),.pointer (some r)] .returning w fun e u' w'=>u'=.returning∧(e=.returned (.tuple #[])∧w'=w):=by
  go_enter_d Tryz.func167,Tryz.ntmps167
  go_wp2
  go_end0
  exact ⟨rfl,rfl⟩
theorem closeJ (p q r:Addr) (w:World) (hc:w.cell? p=some (.int .i64 0)):
    CallsD Tryz.prog 174 #[.pointer (some p),.pointer (some q),.pointer (some r)] .returning w fun e u' w'=>u'=.returning∧(e=.returned (.tuple #[])∧w'=w):=by
  go_enter_d Tryz.func174,Tryz.ntmps174
  go_wp2
  go_end0
  exact ⟨rfl,rfl⟩
end GoForm
end

section
/- A region that draws its order: pure operations by a table, stores by what they do to the world. No conditions. -/
set_option linter.all false
set_option maxRecDepth 100000
open Go Go.Rx Go.Proofs Go.RowKit
namespace GoForm
structure TJ (n:Nat) (st:Nat→Bool) (ds:Nat→Nat) (val:Nat→Value) (J:(Nat→Bool)→World→Prop) (a0:Act) (f:Nat→Bool) (a:Act) (w:World):Prop where
  sz:a.tmps.size=a0.tmps.size
  df:a.defers=a0.defers
  vals:∀ i,i<n→st i=false→f i=true→a.tmps[ds i]? = some (val i)
  rest:∀ j,(∀ i,i<n→st i=false→ds i≠j)→a.tmps[j]? = a0.tmps[j]?
  j:J f w
theorem wp_region_stores {P:Program} {id:Nat} {Q:Exit→Act→World→Prop} {ops:Array Oper} {a0:Act} {w:World} (hm:P.follows .mixedOrders=true)
    (n:Nat) (st:Nat→Bool) (ds:Nat→Nat) (val:Nat→Value) (J:(Nat→Bool)→World→Prop) (hn:ops.size=n)
    (hback:∀ (i:Nat) (o:Oper),ops[i]? = some o→∀ e∈o.after,Region.binds .any e=true→e.on<i)
    (hJ:J (fun _=>false) w.drew)
    (hp:∀ i o,i<n→st i=false→ops[i]? = some o→o.guard=none∧o.dst=some (ds i)∧ds i<a0.tmps.size∧∀ a f w',J f w'→(∀ e∈o.after,Region.binds .any e=true→st e.on=false→a.tmps[ds e.on]? = some (val e.on))→
      (∀ j,(∀ i,i<n→st i=false→ds i≠j)→a.tmps[j]? = a0.tmps[j]?)→o.quietAt P a (fun w''=>w''=w') w' (val i)∧J (fun j=>if j=i then true else f j) w')
    (hinj:∀ i i',i<n→st i=false→i'<n→st i'=false→ds i=ds i'→i=i')
    (hs:∀ i o,i<n→st i=true→ops[i]? = some o→o.guard=none∧o.dst=none∧∀ a f w',J f w'→f i=false→(∀ e∈o.after,Region.binds .any e=true→f e.on=true)→(∀ e∈o.after,Region.binds .any e=true→st e.on=false→a.tmps[ds e.on]? = some (val e.on))→
      (∀ j,(∀ i,i<n→st i=false→ds i≠j)→a.tmps[j]? = a0.tmps[j]?)→∀ (K:Act→World→Prop),(∀ w'',J (fun j=>if j=i then true else f j) w''→K (a.put o.dst undef) w'')→o.wp P a w' K Q)
    (hq:∀ a w',J (fun _=>true) w'→a.defers=a0.defers→a.tmps.size=a0.tmps.size→(∀ i,i<n→st i=false→a.tmps[ds i]? = some (val i))→(∀ j,(∀ i,i<n→st i=false→ds i≠j)→a.tmps[j]? = a0.tmps[j]?)→Q .normal a w')
    (hext:∀ f w',(∀ i,i<n→f i=true)→J f w'→J (fun _=>true) w'):(Code.region id ops true).wp P Q a0 w:=by
  refine wp_region_inv hm (fun f a w'=>TJ n st ds val J a0 f a w') hback ⟨rfl,rfl,by simp,fun _ _=>rfl,hJ⟩ ?_ ?_
  · rintro f a w1 i o S ho hf hdep
    have hi:i<n:=by rw [← hn];exact (Array.getElem?_eq_some_iff.1 ho).1
    have hdv:∀ e∈o.after,Region.binds .any e=true→st e.on=false→a.tmps[ds e.on]? = some (val e.on):=fun e he hb h=>by
      have hlt:=hback i o ho e he hb
      exact S.vals e.on (by omega) h (hdep e he hb)
    cases hst:st i with
    | true=>
      obtain ⟨q2,q4,q6⟩:=hs i o hi hst ho
      refine wpOp_of ho q2 (q6 a f w1 S.j hf hdep hdv S.rest _ fun w2 hj=>?_)
      rw [q4]
      refine ⟨S.sz,S.df,fun k hk h1 h=>?_,S.rest,hj⟩
      rw [if_neg (fun e=>by subst e;rw [hst] at h1;cases h1)] at h
      exact S.vals k hk h1 h
    | false=>
      obtain ⟨q2,q4,q5,q6⟩:=hp i o hi hst ho
      obtain ⟨hQ,hj⟩:=q6 a f w1 S.j hdv S.rest
      refine wpOp_of ho q2 ?_
      have key:TJ n st ds val J a0 (fun j=>if j=i then true else f j) (a.put (some (ds i)) (val i)) w1:=by
        refine ⟨put_sz.trans S.sz,S.df,fun k hk h1 h=>?_,fun j h1=>(put_ne (fun e=>h1 i hi hst e.symm)).trans (S.rest j h1),hj⟩
        by_cases ek:k=i
        · subst ek;exact put_eq (by rw [S.sz];exact q5)
        · rw [if_neg ek] at h
          rw [put_ne (fun e=>ek (hinj k i hk h1 hi hst e))]
          exact S.vals k hk h1 h
      rw [← q4] at key
      unfold Oper.quietAt at hQ
      unfold Oper.wp
      generalize (execOp a.eval o).run P w1=r at hQ ⊢
      cases r with
      | ok nx w'=>
        cases nx <;> simp only [Oper.quietUpon] at hQ <;> simp only [Oper.upon]
        case value u=>
          obtain ⟨e1,e2⟩:=hQ
          subst e1;subst e2
          exact key
        case skip=>
          obtain ⟨e1,e2⟩:=hQ
          subst e1
          rw [← e2]
          exact key
        case enter f args=>
          obtain ⟨e1,hc⟩:=hQ
          subst e1
          exact hc.mono fun e w'' ⟨he,hw''⟩=>by subst he;rw [hw''];exact key
      | halt x w'=>simp only [Oper.quietUpon] at hQ
  · rintro f a w1 S hall
    rw [hn] at hall
    exact hq a w1 (hext f w1 hall S.j) S.df S.sz (fun i hi h=>S.vals i hi h (hall i hi)) S.rest
end GoForm
end
