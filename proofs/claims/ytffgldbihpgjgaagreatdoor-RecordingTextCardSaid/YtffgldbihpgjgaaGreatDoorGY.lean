/- Several texts in one. No conditions. -/
import Derived.Test.YtffgldbihpgjgaaGreatDoorGX
import Derived.Test.YtffgldbihpgjgaaGreatDoorF47CA
section
/- snapshot.decodeAt where nothing panics. No conditions. -/
set_option linter.all false
set_option maxRecDepth 100000
open Go Go.Rx Go.Proofs Go.RowKit
namespace GoForm
theorem results3 {P:Program} {fn:Func} {t1 t2 t3:Tmp} {ty T2 T3:TypeId} {b1 b2 b3:Nat} {cs:List Value} {T:TypeId} {v2 v3:Value} {w:World} {tmps:Array Value} (h:fn.results=#[.cell t1 ty,.cell t2 T2,.cell t3 T3])
    (h1:tmps.getD t1 undef=.pointer (some ⟨b1,0,none⟩)) (h2:tmps.getD t2 undef=.pointer (some ⟨b2,0,none⟩)) (h3:tmps.getD t3 undef=.pointer (some ⟨b3,0,none⟩)) (ha:tAg P ty=some true) (hs:tSz P ty=some cs.length) (a2:tAg P T2=some false) (a3:tAg P T3=some false)
    (hb:w.heap[b1]? = some (.cells cs.toArray T (0,0))) (hb2:w.cell? ⟨b2,0,none⟩=some v2) (hb3:w.cell? ⟨b3,0,none⟩=some v3):
    (results fn tmps).run P w=.ok (.tuple #[.agg cs.toArray,v2,v3]) w:=by
  have l1:=run_loadVar_agg (P:=P) (ty:=ty) (w:=w) (b:=b1) (o:=0) (cs:=cs) ha hs (fun j v e=>by rw [Nat.zero_add];exact box_cell hb j (by simpa using e))
  have l2:=run_loadVar_one (P:=P) (ty:=T2) (w:=w) (a:=⟨b2,0,none⟩) (v:=v2) a2 hb2
  have l3:=run_loadVar_one (P:=P) (ty:=T3) (w:=w) (a:=⟨b3,0,none⟩) (v:=v3) a3 hb3
  have h1:tmps[t1]?.getD undef=.pointer (some ⟨b1,0,none⟩):=by simpa using h1
  have h2:tmps[t2]?.getD undef=.pointer (some ⟨b2,0,none⟩):=by simpa using h2
  have h3:tmps[t3]?.getD undef=.pointer (some ⟨b3,0,none⟩):=by simpa using h3
  simp [results,h,h1,h2,h3,l1,l2,l3,asAddr]
def dsA:Nat→Nat
  | 0=>18
  | 1=>19
  | 2=>20
  | 3=>21
  | 4=>22
  | _=>0
def valA (z:Value) (bd:Nat) (off:Int):Nat→Value
  | 0=>z
  | 1=>.pointer (some ⟨bd,0,none⟩)
  | 2=>.pointer (some ⟨bd,0,none⟩)
  | 3=>.pointer (some ⟨bd,1,none⟩)
  | 4=>.int .i64 off
  | _=>undef
theorem injA:∀ i i',i<8→(i==5||i==6||i==7)=false→i'<8→(i'==5||i'==6||i'==7)=false→dsA i=dsA i'→i=i':=by
  intro i j hi h1 hj h2 e
  have h3:i<5:=by simp at h1;omega
  have h4:j<5:=by simp at h2;omega
  match i,j,h3,h4 with
  | 0,0,_,_ | 1,1,_,_ | 2,2,_,_ | 3,3,_,_ | 4,4,_,_=>rfl
  | 0,1,_,_ | 0,2,_,_ | 0,3,_,_ | 0,4,_,_ | 1,0,_,_ | 1,2,_,_ | 1,3,_,_ | 1,4,_,_ | 2,0,_,_ | 2,1,_,_ | 2,3,_,_ | 2,4,_,_ | 3,0,_,_ | 3,1,_,_ | 3,2,_,_ | 3,4,_,_ | 4,0,_,_ | 4,1,_,_ | 4,2,_,_ | 4,3,_,_=>simp [dsA] at e
theorem memA:∀ i,i<8→(i==5||i==6||i==7)=false→dsA i∈[18,19,20,21,22]:=by
  intro i hi h1
  have h3:i<5:=by simp at h1;omega
  match i,h3 with
  | 0,_ | 1,_ | 2,_ | 3,_ | 4,_=>simp [dsA]
structure JA (B:Nat) (Z:List Value) (T:TypeId) (hdr:Value) (off:Int) (W:World) (f:Nat→Bool) (w:World):Prop where
  bel:Below W.heap.size W w
  bB:W.heap.size≤B
  b0:w.heap[B]? = some (.cells Z.toArray T (0,0))
  bd:w.heap[B+1+1+1]? = some (.cells #[hdr,.int .i64 off] 258 (0,0))
  b1:∃ x,w.heap[B+1]? = some (.cells [Value.int .i64 x].toArray 3 (0,0))∧(f 6=true→x=off)
  b2:w.heap[B+1+1]? = some (.cells [Value.int .i64 0].toArray 27 (0,0))
  lt:B+1+1+1<w.heap.size
theorem JA.nx0 {B Z T hdr off W f w} (h:JA B Z T hdr off W f w) {i:Nat} (hi:i≠6):JA B Z T hdr off W (fun j=>if j=i then true else f j) w:=
  ⟨h.bel,h.bB,h.b0,h.bd,by
    obtain ⟨x,h1,h2⟩:=h.b1
    exact ⟨x,h1,fun e=>h2 (by rw [if_neg (fun e=>hi e.symm)] at e;exact e)⟩,h.b2,h.lt⟩
theorem JA.st0 {B Z T hdr off W f w} (h:JA B Z T hdr off W f w) {w2:World} (h2:w2.heap[B]? = some (.cells Z.toArray T (0,0))) (g:w.grownBy w2 (some B)) {i:Nat} (hi:i≠6):JA B Z T hdr off W (fun j=>if j=i then true else f j) w2:=by
  have:=h.lt
  have:=g.size
  obtain ⟨x,h1,h3⟩:=h.b1
  refine ⟨h.bel.grown g h.bel.size (fun k e=>by have:=Option.some.inj e;have:=h.bB;omega),h.bB,h2,?_,⟨x,?_,fun e=>h3 (by rw [if_neg (fun e=>hi e.symm)] at e;exact e)⟩,?_,by omega⟩
  · rw [g.block _ (by omega) (fun e=>by have:=Option.some.inj e;omega)];exact h.bd
  · rw [g.block _ (by omega) (fun e=>by have:=Option.some.inj e;omega)];exact h1
  · rw [g.block _ (by omega) (fun e=>by have:=Option.some.inj e;omega)];exact h.b2
theorem JA.st1 {B Z T hdr off W f w} (h:JA B Z T hdr off W f w) {w2:World} (h2:w2.heap[B+1]? = some (.cells [Value.int .i64 off].toArray 3 (0,0))) (g:w.grownBy w2 (some (B+1))):JA B Z T hdr off W (fun j=>if j=6 then true else f j) w2:=by
  have:=h.lt
  have:=g.size
  refine ⟨h.bel.grown g h.bel.size (fun k e=>by have:=Option.some.inj e;have:=h.bB;omega),h.bB,?_,?_,⟨off,h2,fun _=>rfl⟩,?_,by omega⟩
  · rw [g.block _ (by omega) (fun e=>by have:=Option.some.inj e;omega)];exact h.b0
  · rw [g.block _ (by omega) (fun e=>by have:=Option.some.inj e;omega)];exact h.bd
  · rw [g.block _ (by omega) (fun e=>by have:=Option.some.inj e;omega)];exact h.b2
theorem JA.st2 {B Z T hdr off W f w} (h:JA B Z T hdr off W f w) {w2:World} (h2:w2.heap[B+1+1]? = some (.cells [Value.int .i64 0].toArray 27 (0,0))) (g:w.grownBy w2 (some (B+1+1))):JA B Z T hdr off W (fun j=>if j=7 then true else f j) w2:=by
  have:=h.lt
  have:=g.size
  obtain ⟨x,h1,h3⟩:=h.b1
  refine ⟨h.bel.grown g h.bel.size (fun k e=>by have:=Option.some.inj e;have:=h.bB;omega),h.bB,?_,?_,⟨x,?_,fun e=>h3 (by rw [if_neg (by decide)] at e;exact e)⟩,h2,by omega⟩
  · rw [g.block _ (by omega) (fun e=>by have:=Option.some.inj e;omega)];exact h.b0
  · rw [g.block _ (by omega) (fun e=>by have:=Option.some.inj e;omega)];exact h.bd
  · rw [g.block _ (by omega) (fun e=>by have:=Option.some.inj e;omega)];exact h1
theorem JA.start {Z T hdr off} {W w:World} (h1:DB (W.heap.size+1+1+1) hdr off w) (h2:Below W.heap.size W w) (h3:W.heap.size+1+1+1<w.heap.size) (h4:w.heap[W.heap.size]? = some (.cells Z.toArray T (0,0)))
    (h5:w.heap[W.heap.size+1]? = some (.cells #[.int .i64 0] 3 (0,0))) (h6:w.heap[W.heap.size+1+1]? = some (.cells #[.int .i64 0] 27 (0,0))):JA W.heap.size Z T hdr off W (fun _=>false) w.drew:=
  ⟨h2.drew,Nat.le_refl _,h4,h1,⟨0,h5,by simp⟩,h6,h3⟩
theorem op_store1 {P:Program} {o:Oper} {Q:Exit→Act→World→Prop} {K:Act→World→Prop} {a:Act} {w:World} {ty:TypeId} {t z:Operand} {b:Nat} {v old:Value} {T:TypeId} (e:o.op=.store ty t z) (ht:a.eval t=.pointer (some ⟨b,0,none⟩)) (hz:a.eval z=v) (hv:v.cells=#[v]) (hs:tSz P ty=some 1)
    (hb:w.heap[b]? = some (.cells [old].toArray T (0,0))) (h1:v.oneCell'=true)
    (hk:∀ w',w'.heap[b]? = some (.cells [v].toArray T (0,0))→w.grownBy w' (some b)→K (a.put o.dst undef) w'):o.wp P a w K Q:=by
  have hst:=run_storeCells_at P b 0 T [v] 0 [old].toArray w hb (by simp) (by simpa using h1)
  simp only [Nat.add_zero,Nat.zero_add,List.take_zero,List.nil_append,List.length_cons,List.length_nil,List.drop_succ_cons,List.drop_nil,List.append_nil] at hst
  have r2:(execOp a.eval o).run P w=.ok .skip (w.setRow b [v].toArray):=by
    have hst:Sem.run P (storeCells ⟨b,0,none⟩ [v]) w=Result.ok () (w.setRow b [v].toArray):=hst
    simp [execOp,e,ht,hz,Instr.storeAt,Instr.sureAddr,storeVar,run_sizeOf_of hs,hv,hst]
  unfold Oper.wp
  rw [r2]
  exact hk _ (setRow_heap w b [old].toArray [v].toArray T (0,0) hb) ⟨rfl,rfl,rfl,by simp,fun k _ hk=>setRow_other w b k _ (fun e=>hk (by rw [e]))⟩
set_option maxHeartbeats 4000000 in
theorem atB {m:Mem} {buf:List UInt8} {a:Option Addr} {n c o:Nat} {W:World} (hi:Imm m W) (hr:Rep m noNames (e_sl_byte buf) (.slice a n c)) (Z:ZR buf o (o+20)):
    Calls Tryz.prog 145 #[.slice a n c,.int .i64 (o:Int),.func (.func 146) #[] #[]] W fun e W'=>e=.returned (.tuple #[.agg zB.toArray,.int .i64 ((o+20:Nat):Int),.int .i64 0])∧Below W.heap.size W W':=by
  have HW:∀ V:World,V=(((W.alloc (.cells zB.toArray 71)).alloc (.cells #[.int .i64 0] 3)).alloc (.cells #[.int .i64 0] 27)).alloc (.cells #[.slice a n c,.int .i64 (o:Int)] 258)→
      Hid (BF m buf a n c (W.heap.size+1+1+1) V∧DB (W.heap.size+1+1+1) (.slice a n c) (o:Int) V∧V.heap[W.heap.size]? = some (.cells zB.toArray 71 (0,0))∧V.heap[W.heap.size+1]? = some (.cells #[.int .i64 0] 3 (0,0))∧V.heap[W.heap.size+1+1]? = some (.cells #[.int .i64 0] 27 (0,0))∧Below W.heap.size W V∧V.heap.size=W.heap.size+1+1+1+1):=by
    rintro V rfl
    have hb:Below W.heap.size W ((((W.alloc (.cells zB.toArray 71)).alloc (.cells #[.int .i64 0] 3)).alloc (.cells #[.int .i64 0] 27)).alloc (.cells #[.slice a n c,.int .i64 (o:Int)] 258)):=((((Below.refl _ _).alloc (Nat.le_refl _) _).alloc (by simp) _).alloc (by simp;omega) _).alloc (by simp;omega) _
    refine ⟨⟨hi.below hb,hr,imm_none hi (by omega),by simp⟩,heap_at _ _ _ (by simp),?_,?_,?_,hb,by simp⟩
    · rw [heap_past _ _ _ (by simp;omega),heap_past _ _ _ (by simp;omega),heap_past _ _ _ (by simp),heap_at _ _ _ rfl]
    · rw [heap_past _ _ _ (by simp),heap_past _ _ _ (by simp),heap_at _ _ _ (by simp)]
    · rw [heap_past _ _ _ (by simp),heap_at _ _ _ (by simp)]
  have eD:=Tryz.call146
  have ra:tAg Tryz.prog 71=some true:=by kernel_rfl
  have rz:tSz Tryz.prog 71=some 20:=by kernel_rfl
  have zz:=Tryz.sizeOf71
  have za:=Tryz.isAgg71
  have nz:zB.length=20:=rfl
  have HR:Hid (_∧_):=⟨ra,rz⟩
  have hmf:∀ (fn:Fn) (first cap:Array Value) (w:World),(Instr.makeFunc fn first cap).run Tryz.prog w=.ok (.func fn first cap) w:=fun _ _ _ _=>rfl
  have HZ:Hid (ZR buf o (o+20)):=Z
  clear ra rz Z hi hr
  go_enter_defers Tryz.func145,Tryz.ntmps145
  go_upto_region 5 with (first
    | (go_at_call 146
       have HV:=HW _ rfl
       clear HW
       refine (dbody HV.out.1 HV.out.2.1 HZ.out).mono ?_
       rintro e w2 ⟨rfl,hD,hg⟩
       have HX:Hid (DB (W.heap.size+1+1+1) (.slice a n c) ((o+20:Nat):Int) w2∧Below W.heap.size W w2∧W.heap.size+1+1+1<w2.heap.size∧w2.heap[W.heap.size]? = some (.cells zB.toArray 71 (0,0))∧w2.heap[W.heap.size+1]? = some (.cells #[.int .i64 0] 3 (0,0))∧w2.heap[W.heap.size+1+1]? = some (.cells #[.int .i64 0] 27 (0,0))):=by
         obtain ⟨-,-,y1,y2,y3,y4,y5⟩:=HV.out
         have:=hg.size
         refine ⟨hD,y4.grown hg (by omega) (fun k e=>by have:=Option.some.inj e;omega),by omega,?_,?_,?_⟩
         · rw [hg.block _ (by omega) (fun e=>by have:=Option.some.inj e;omega)];exact y1
         · rw [hg.block _ (by omega) (fun e=>by have:=Option.some.inj e;omega)];exact y2
         · rw [hg.block _ (by omega) (fun e=>by have:=Option.some.inj e;omega)];exact y3
       clear hD hg HV)
    | (refine wpList_storeat (cs:=zB) (arr:=zB) rfl rfl rfl rfl rfl HR.out.2 HX.out.2.2.2.1 (by decide) zB_one ?_
       intro w3 hX3 hg3
       have HY:Hid (DB (W.heap.size+1+1+1) (.slice a n c) ((o+20:Nat):Int) w3∧Below W.heap.size W w3∧W.heap.size+1+1+1<w3.heap.size∧w3.heap[W.heap.size]? = some (.cells zB.toArray 71 (0,0))∧w3.heap[W.heap.size+1]? = some (.cells #[.int .i64 0] 3 (0,0))∧w3.heap[W.heap.size+1+1]? = some (.cells #[.int .i64 0] 27 (0,0))):=by
         obtain ⟨y1,y2,y3,y4,y5,y6⟩:=HX.out
         have:=hg3.size
         refine ⟨?_,y2.grown hg3 (by omega) (fun k e=>by have:=Option.some.inj e;omega),by omega,hX3,?_,?_⟩
         · exact (hg3.block _ (by omega) (fun e=>by have:=Option.some.inj e;omega)).trans y1
         · rw [hg3.block _ (by omega) (fun e=>by have:=Option.some.inj e;omega)];exact y5
         · rw [hg3.block _ (by omega) (fun e=>by have:=Option.some.inj e;omega)];exact y6
       clear hX3 hg3))
  refine wp_region_stores mixed47 8 (fun i=>i==5||i==6||i==7) dsA (valA (.agg zB.toArray) (W.heap.size+1+1+1) ((o+20:Nat):Int)) (JA (W.heap.size) zB 71 (.slice a n c) ((o+20:Nat):Int) W) rfl ?_ ?_ ?_ (injA) ?_ ?_ ?_
  · intro i o ho
    match i with
    | 0=>cases ho;simp [Region.binds]
    | 1=>cases ho;simp [Region.binds]
    | 2=>cases ho;simp [Region.binds]
    | 3=>cases ho;simp [Region.binds]
    | 4=>cases ho;simp [Region.binds]
    | 5=>cases ho;simp [Region.binds]
    | 6=>cases ho;simp [Region.binds]
    | 7=>cases ho;simp [Region.binds]
    | j+8=>simp at ho
  · exact JA.start HY.out.1 HY.out.2.1 HY.out.2.2.1 HY.out.2.2.2.1 HY.out.2.2.2.2.1 HY.out.2.2.2.2.2
  · intro i op hi hst ho
    match i,hi,hst with
    | 0,_,_=>
      cases ho
      refine ⟨rfl,rfl,by simp [dsA],fun ac f w' hj hd hr=>?_⟩
      have r6:ac.tmps[6]? = some (.pointer (some ⟨W.heap.size,0,none⟩)):=(hr 6 (by decide)).trans rfl
      refine ⟨quiet_val ?_,hj.nx0 (by decide)⟩
      have hld:=run_loadVar_agg (P:=Tryz.prog) (ty:=71) (w:=w') (b:=W.heap.size) (o:=0) (cs:=zB) HR.out.1 HR.out.2 (fun j v e=>by rw [Nat.zero_add];exact box_cell hj.b0 j (by simpa using e))
      simp [execOp,ev r6,Instr.loadAt,Instr.sureAddr,hld,valA]
    | 1,_,_=>
      cases ho
      refine ⟨rfl,rfl,by simp [dsA],fun ac f w' hj hd hr=>?_⟩
      have r9:ac.tmps[9]? = some (.pointer (some ⟨W.heap.size+1+1+1,0,none⟩)):=(hr 9 (by decide)).trans rfl
      exact ⟨by simp [Oper.quietAt,Oper.quietUpon,execOp,r9,go_sem,valA],hj.nx0 (by decide)⟩
    | 2,_,_=>
      cases ho
      refine ⟨rfl,rfl,by simp [dsA],fun ac f w' hj hd hr=>?_⟩
      have r19:ac.tmps[19]? = some (.pointer (some ⟨W.heap.size+1+1+1,0,none⟩)):=hd ⟨1,.data⟩ (by simp) rfl rfl
      exact ⟨by simp [Oper.quietAt,Oper.quietUpon,execOp,r19,go_sem,valA],hj.nx0 (by decide)⟩
    | 3,_,_=>
      cases ho
      refine ⟨rfl,rfl,by simp [dsA],fun ac f w' hj hd hr=>?_⟩
      have r20:ac.tmps[20]? = some (.pointer (some ⟨W.heap.size+1+1+1,0,none⟩)):=hd ⟨2,.data⟩ (by simp) rfl rfl
      exact ⟨by simp [Oper.quietAt,Oper.quietUpon,execOp,r20,go_sem,valA],hj.nx0 (by decide)⟩
    | 4,_,_=>
      cases ho
      refine ⟨rfl,rfl,by simp [dsA],fun ac f w' hj hd hr=>?_⟩
      have r21:ac.tmps[21]? = some (.pointer (some ⟨W.heap.size+1+1+1,1,none⟩)):=hd ⟨3,.data⟩ (by simp) rfl rfl
      exact ⟨quiet_l1 rfl (ev r21) (by kernel_rfl) (box_cell hj.bd 1 rfl),hj.nx0 (by decide)⟩
    | 5,_,h=>exact absurd h (by decide)
    | 6,_,h=>exact absurd h (by decide)
    | 7,_,h=>exact absurd h (by decide)
    | j+8,h,_=>exact absurd h (by omega)
  · intro i op hi hst ho
    match i,hi,hst with
    | 0,_,h=>exact absurd h (by decide)
    | 1,_,h=>exact absurd h (by decide)
    | 2,_,h=>exact absurd h (by decide)
    | 3,_,h=>exact absurd h (by decide)
    | 4,_,h=>exact absurd h (by decide)
    | 5,_,_=>
      cases ho
      refine ⟨rfl,rfl,fun ac f w' hj hf hdp hd hr K hK=>?_⟩
      have r6:ac.tmps[6]? = some (.pointer (some ⟨W.heap.size,0,none⟩)):=(hr 6 (by decide)).trans rfl
      have r18:ac.tmps[18]? = some (.agg zB.toArray):=hd ⟨0,.data⟩ (by simp) rfl rfl
      exact op_store rfl (ev r6) (ev r18) HR.out.2 hj.b0 (by simp) zB_one fun w2 h2 g2=>hK w2 (hj.st0 h2 g2 (by decide))
    | 6,_,_=>
      cases ho
      refine ⟨rfl,rfl,fun ac f w' hj hf hdp hd hr K hK=>?_⟩
      have r7:ac.tmps[7]? = some (.pointer (some ⟨W.heap.size+1,0,none⟩)):=(hr 7 (by decide)).trans rfl
      have r22:ac.tmps[22]? = some (.int .i64 ((o+20:Nat):Int)):=hd ⟨4,.data⟩ (by simp) rfl rfl
      obtain ⟨x,hx,-⟩:=hj.b1
      exact op_store1 rfl (ev r7) (ev r22) rfl (by kernel_rfl) hx rfl fun w2 h2 g2=>hK w2 (hj.st1 h2 g2)
    | 7,_,_=>
      cases ho
      refine ⟨rfl,rfl,fun ac f w' hj hf hdp hd hr K hK=>?_⟩
      have r8:ac.tmps[8]? = some (.pointer (some ⟨W.heap.size+1+1,0,none⟩)):=(hr 8 (by decide)).trans rfl
      exact op_store1 rfl (ev r8) rfl rfl (by kernel_rfl) hj.b2 rfl fun w2 h2 g2=>hK w2 (hj.st2 h2 g2)
    | j+8,h,_=>exact absurd h (by omega)
  · intro ac w4 hj hdf hsz hvals hrest
    obtain ⟨tm,dfr⟩:=ac
    have e1:dfr=_:=hdf
    have e2:=tmps_eq' [(18,.agg zB.toArray),(19,.pointer (some ⟨W.heap.size+1+1+1,0,none⟩)),(20,.pointer (some ⟨W.heap.size+1+1+1,0,none⟩)),(21,.pointer (some ⟨W.heap.size+1+1+1,1,none⟩)),(22,.int .i64 ((o+20:Nat):Int))] _ tm hsz rfl rfl ⟨hvals 0 (by decide) rfl,hvals 1 (by decide) rfl,hvals 2 (by decide) rfl,hvals 3 (by decide) rfl,hvals 4 (by decide) rfl,trivial⟩ (fun j hj=>hrest j (fun i hi hs e=>hj (e ▸ memA i hi hs)))
    simp only [List.foldl_cons,List.foldl_nil,List.setIfInBounds_toArray,List.set_cons_succ,List.set_cons_zero] at e1 e2
    subst e1
    subst e2
    have HJ:Hid (JA (W.heap.size) zB 71 (.slice a n c) ((o+20:Nat):Int) W (fun _=>true) w4):=hj
    clear hj hvals hrest hsz hdf
    go_wp2
    refine leaves_cons (f:=168) (args:=#[.pointer (some ⟨W.heap.size+1+1,0,none⟩)]) (by simp) (by simp [go_sem]) ?_
    refine (recover_idle ⟨W.heap.size+1+1,0,none⟩ _).mono ?_
    rintro e u' w'' ⟨rfl,rfl,rfl⟩
    refine leaves_cons (f:=167) (args:=#[.pointer (some ⟨W.heap.size+1+1,0,none⟩),.pointer (some ⟨W.heap.size,0,none⟩),.pointer (some ⟨W.heap.size+1,0,none⟩)]) (by simp [settle]) (by simp [go_sem]) ?_
    refine (closeB ⟨W.heap.size+1+1,0,none⟩ ⟨W.heap.size,0,none⟩ ⟨W.heap.size+1,0,none⟩ _ (box_cell HJ.out.b2 0 rfl)).mono ?_
    rintro e u' w'' ⟨rfl,rfl,rfl⟩
    obtain ⟨x,hx,hx2⟩:=HJ.out.b1
    obtain rfl:=hx2 rfl
    have r0:Tryz.f145.results=#[.cell 6 71,.cell 7 3,.cell 8 27]:=rfl
    exact ⟨_,results3 (cs:=zB) r0 rfl rfl rfl HR.out.1 HR.out.2 (by kernel_rfl) (by kernel_rfl) HJ.out.b0 (box_cell hx 0 rfl) (box_cell HJ.out.b2 0 rfl),rfl,HJ.out.bel⟩
  · intro f w' hf h
    obtain ⟨x,h1,h2⟩:=h.b1
    exact ⟨h.bel,h.bB,h.b0,h.bd,⟨x,h1,fun _=>h2 (hf 6 (by decide))⟩,h.b2,h.lt⟩
set_option maxHeartbeats 4000000 in
theorem atJ {m:Mem} {buf:List UInt8} {a:Option Addr} {n c o:Nat} {W:World} (hi:Imm m W) (hr:Rep m noNames (e_sl_byte buf) (.slice a n c)) (Z:ZR buf o (o+24)):
    Calls Tryz.prog 147 #[.slice a n c,.int .i64 (o:Int),.func (.func 148) #[] #[]] W fun e W'=>e=.returned (.tuple #[.agg zJ.toArray,.int .i64 ((o+24:Nat):Int),.int .i64 0])∧Below W.heap.size W W':=by
  have HW:∀ V:World,V=(((W.alloc (.cells zJ.toArray 75)).alloc (.cells #[.int .i64 0] 3)).alloc (.cells #[.int .i64 0] 27)).alloc (.cells #[.slice a n c,.int .i64 (o:Int)] 258)→
      Hid (BF m buf a n c (W.heap.size+1+1+1) V∧DB (W.heap.size+1+1+1) (.slice a n c) (o:Int) V∧V.heap[W.heap.size]? = some (.cells zJ.toArray 75 (0,0))∧V.heap[W.heap.size+1]? = some (.cells #[.int .i64 0] 3 (0,0))∧V.heap[W.heap.size+1+1]? = some (.cells #[.int .i64 0] 27 (0,0))∧Below W.heap.size W V∧V.heap.size=W.heap.size+1+1+1+1):=by
    rintro V rfl
    have hb:Below W.heap.size W ((((W.alloc (.cells zJ.toArray 75)).alloc (.cells #[.int .i64 0] 3)).alloc (.cells #[.int .i64 0] 27)).alloc (.cells #[.slice a n c,.int .i64 (o:Int)] 258)):=((((Below.refl _ _).alloc (Nat.le_refl _) _).alloc (by simp) _).alloc (by simp;omega) _).alloc (by simp;omega) _
    refine ⟨⟨hi.below hb,hr,imm_none hi (by omega),by simp⟩,heap_at _ _ _ (by simp),?_,?_,?_,hb,by simp⟩
    · rw [heap_past _ _ _ (by simp;omega),heap_past _ _ _ (by simp;omega),heap_past _ _ _ (by simp),heap_at _ _ _ rfl]
    · rw [heap_past _ _ _ (by simp),heap_past _ _ _ (by simp),heap_at _ _ _ (by simp)]
    · rw [heap_past _ _ _ (by simp),heap_at _ _ _ (by simp)]
  have eD:=Tryz.call148
  have ra:tAg Tryz.prog 75=some true:=by kernel_rfl
  have rz:tSz Tryz.prog 75=some 24:=by kernel_rfl
  have zz:=Tryz.sizeOf75
  have za:=Tryz.isAgg75
  have nz:zJ.length=24:=rfl
  have HR:Hid (_∧_):=⟨ra,rz⟩
  have hmf:∀ (fn:Fn) (first cap:Array Value) (w:World),(Instr.makeFunc fn first cap).run Tryz.prog w=.ok (.func fn first cap) w:=fun _ _ _ _=>rfl
  have HZ:Hid (ZR buf o (o+24)):=Z
  clear ra rz Z hi hr
  go_enter_defers Tryz.func147,Tryz.ntmps147
  go_upto_region 5 with (first
    | (go_at_call 148
       have HV:=HW _ rfl
       clear HW
       refine (djoint HV.out.1 HV.out.2.1 HZ.out).mono ?_
       rintro e w2 ⟨rfl,hD,hg⟩
       have HX:Hid (DB (W.heap.size+1+1+1) (.slice a n c) ((o+24:Nat):Int) w2∧Below W.heap.size W w2∧W.heap.size+1+1+1<w2.heap.size∧w2.heap[W.heap.size]? = some (.cells zJ.toArray 75 (0,0))∧w2.heap[W.heap.size+1]? = some (.cells #[.int .i64 0] 3 (0,0))∧w2.heap[W.heap.size+1+1]? = some (.cells #[.int .i64 0] 27 (0,0))):=by
         obtain ⟨-,-,y1,y2,y3,y4,y5⟩:=HV.out
         have:=hg.size
         refine ⟨hD,y4.grown hg (by omega) (fun k e=>by have:=Option.some.inj e;omega),by omega,?_,?_,?_⟩
         · rw [hg.block _ (by omega) (fun e=>by have:=Option.some.inj e;omega)];exact y1
         · rw [hg.block _ (by omega) (fun e=>by have:=Option.some.inj e;omega)];exact y2
         · rw [hg.block _ (by omega) (fun e=>by have:=Option.some.inj e;omega)];exact y3
       clear hD hg HV)
    | (refine wpList_storeat (cs:=zJ) (arr:=zJ) rfl rfl rfl rfl rfl HR.out.2 HX.out.2.2.2.1 (by decide) zJ_one ?_
       intro w3 hX3 hg3
       have HY:Hid (DB (W.heap.size+1+1+1) (.slice a n c) ((o+24:Nat):Int) w3∧Below W.heap.size W w3∧W.heap.size+1+1+1<w3.heap.size∧w3.heap[W.heap.size]? = some (.cells zJ.toArray 75 (0,0))∧w3.heap[W.heap.size+1]? = some (.cells #[.int .i64 0] 3 (0,0))∧w3.heap[W.heap.size+1+1]? = some (.cells #[.int .i64 0] 27 (0,0))):=by
         obtain ⟨y1,y2,y3,y4,y5,y6⟩:=HX.out
         have:=hg3.size
         refine ⟨?_,y2.grown hg3 (by omega) (fun k e=>by have:=Option.some.inj e;omega),by omega,hX3,?_,?_⟩
         · exact (hg3.block _ (by omega) (fun e=>by have:=Option.some.inj e;omega)).trans y1
         · rw [hg3.block _ (by omega) (fun e=>by have:=Option.some.inj e;omega)];exact y5
         · rw [hg3.block _ (by omega) (fun e=>by have:=Option.some.inj e;omega)];exact y6
       clear hX3 hg3))
  refine wp_region_stores mixed47 8 (fun i=>i==5||i==6||i==7) dsA (valA (.agg zJ.toArray) (W.heap.size+1+1+1) ((o+24:Nat):Int)) (JA (W.heap.size) zJ 75 (.slice a n c) ((o+24:Nat):Int) W) rfl ?_ ?_ ?_ (injA) ?_ ?_ ?_
  · intro i o ho
    match i with
    | 0=>cases ho;simp [Region.binds]
    | 1=>cases ho;simp [Region.binds]
    | 2=>cases ho;simp [Region.binds]
    | 3=>cases ho;simp [Region.binds]
    | 4=>cases ho;simp [Region.binds]
    | 5=>cases ho;simp [Region.binds]
    | 6=>cases ho;simp [Region.binds]
    | 7=>cases ho;simp [Region.binds]
    | j+8=>simp at ho
  · exact JA.start HY.out.1 HY.out.2.1 HY.out.2.2.1 HY.out.2.2.2.1 HY.out.2.2.2.2.1 HY.out.2.2.2.2.2
  · intro i op hi hst ho
    match i,hi,hst with
    | 0,_,_=>
      cases ho
      refine ⟨rfl,rfl,by simp [dsA],fun ac f w' hj hd hr=>?_⟩
      have r6:ac.tmps[6]? = some (.pointer (some ⟨W.heap.size,0,none⟩)):=(hr 6 (by decide)).trans rfl
      refine ⟨quiet_val ?_,hj.nx0 (by decide)⟩
      have hld:=run_loadVar_agg (P:=Tryz.prog) (ty:=75) (w:=w') (b:=W.heap.size) (o:=0) (cs:=zJ) HR.out.1 HR.out.2 (fun j v e=>by rw [Nat.zero_add];exact box_cell hj.b0 j (by simpa using e))
      simp [execOp,ev r6,Instr.loadAt,Instr.sureAddr,hld,valA]
    | 1,_,_=>
      cases ho
      refine ⟨rfl,rfl,by simp [dsA],fun ac f w' hj hd hr=>?_⟩
      have r9:ac.tmps[9]? = some (.pointer (some ⟨W.heap.size+1+1+1,0,none⟩)):=(hr 9 (by decide)).trans rfl
      exact ⟨by simp [Oper.quietAt,Oper.quietUpon,execOp,r9,go_sem,valA],hj.nx0 (by decide)⟩
    | 2,_,_=>
      cases ho
      refine ⟨rfl,rfl,by simp [dsA],fun ac f w' hj hd hr=>?_⟩
      have r19:ac.tmps[19]? = some (.pointer (some ⟨W.heap.size+1+1+1,0,none⟩)):=hd ⟨1,.data⟩ (by simp) rfl rfl
      exact ⟨by simp [Oper.quietAt,Oper.quietUpon,execOp,r19,go_sem,valA],hj.nx0 (by decide)⟩
    | 3,_,_=>
      cases ho
      refine ⟨rfl,rfl,by simp [dsA],fun ac f w' hj hd hr=>?_⟩
      have r20:ac.tmps[20]? = some (.pointer (some ⟨W.heap.size+1+1+1,0,none⟩)):=hd ⟨2,.data⟩ (by simp) rfl rfl
      exact ⟨by simp [Oper.quietAt,Oper.quietUpon,execOp,r20,go_sem,valA],hj.nx0 (by decide)⟩
    | 4,_,_=>
      cases ho
      refine ⟨rfl,rfl,by simp [dsA],fun ac f w' hj hd hr=>?_⟩
      have r21:ac.tmps[21]? = some (.pointer (some ⟨W.heap.size+1+1+1,1,none⟩)):=hd ⟨3,.data⟩ (by simp) rfl rfl
      exact ⟨quiet_l1 rfl (ev r21) (by kernel_rfl) (box_cell hj.bd 1 rfl),hj.nx0 (by decide)⟩
    | 5,_,h=>exact absurd h (by decide)
    | 6,_,h=>exact absurd h (by decide)
    | 7,_,h=>exact absurd h (by decide)
    | j+8,h,_=>exact absurd h (by omega)
  · intro i op hi hst ho
    match i,hi,hst with
    | 0,_,h=>exact absurd h (by decide)
    | 1,_,h=>exact absurd h (by decide)
    | 2,_,h=>exact absurd h (by decide)
    | 3,_,h=>exact absurd h (by decide)
    | 4,_,h=>exact absurd h (by decide)
    | 5,_,_=>
      cases ho
      refine ⟨rfl,rfl,fun ac f w' hj hf hdp hd hr K hK=>?_⟩
      have r6:ac.tmps[6]? = some (.pointer (some ⟨W.heap.size,0,none⟩)):=(hr 6 (by decide)).trans rfl
      have r18:ac.tmps[18]? = some (.agg zJ.toArray):=hd ⟨0,.data⟩ (by simp) rfl rfl
      exact op_store rfl (ev r6) (ev r18) HR.out.2 hj.b0 (by simp) zJ_one fun w2 h2 g2=>hK w2 (hj.st0 h2 g2 (by decide))
    | 6,_,_=>
      cases ho
      refine ⟨rfl,rfl,fun ac f w' hj hf hdp hd hr K hK=>?_⟩
      have r7:ac.tmps[7]? = some (.pointer (some ⟨W.heap.size+1,0,none⟩)):=(hr 7 (by decide)).trans rfl
      have r22:ac.tmps[22]? = some (.int .i64 ((o+24:Nat):Int)):=hd ⟨4,.data⟩ (by simp) rfl rfl
      obtain ⟨x,hx,-⟩:=hj.b1
      exact op_store1 rfl (ev r7) (ev r22) rfl (by kernel_rfl) hx rfl fun w2 h2 g2=>hK w2 (hj.st1 h2 g2)
    | 7,_,_=>
      cases ho
      refine ⟨rfl,rfl,fun ac f w' hj hf hdp hd hr K hK=>?_⟩
      have r8:ac.tmps[8]? = some (.pointer (some ⟨W.heap.size+1+1,0,none⟩)):=(hr 8 (by decide)).trans rfl
      exact op_store1 rfl (ev r8) rfl rfl (by kernel_rfl) hj.b2 rfl fun w2 h2 g2=>hK w2 (hj.st2 h2 g2)
    | j+8,h,_=>exact absurd h (by omega)
  · intro ac w4 hj hdf hsz hvals hrest
    obtain ⟨tm,dfr⟩:=ac
    have e1:dfr=_:=hdf
    have e2:=tmps_eq' [(18,.agg zJ.toArray),(19,.pointer (some ⟨W.heap.size+1+1+1,0,none⟩)),(20,.pointer (some ⟨W.heap.size+1+1+1,0,none⟩)),(21,.pointer (some ⟨W.heap.size+1+1+1,1,none⟩)),(22,.int .i64 ((o+24:Nat):Int))] _ tm hsz rfl rfl ⟨hvals 0 (by decide) rfl,hvals 1 (by decide) rfl,hvals 2 (by decide) rfl,hvals 3 (by decide) rfl,hvals 4 (by decide) rfl,trivial⟩ (fun j hj=>hrest j (fun i hi hs e=>hj (e ▸ memA i hi hs)))
    simp only [List.foldl_cons,List.foldl_nil,List.setIfInBounds_toArray,List.set_cons_succ,List.set_cons_zero] at e1 e2
    subst e1
    subst e2
    have HJ:Hid (JA (W.heap.size) zJ 75 (.slice a n c) ((o+24:Nat):Int) W (fun _=>true) w4):=hj
    clear hj hvals hrest hsz hdf
    go_wp2
    refine leaves_cons (f:=168) (args:=#[.pointer (some ⟨W.heap.size+1+1,0,none⟩)]) (by simp) (by simp [go_sem]) ?_
    refine (recover_idle ⟨W.heap.size+1+1,0,none⟩ _).mono ?_
    rintro e u' w'' ⟨rfl,rfl,rfl⟩
    refine leaves_cons (f:=174) (args:=#[.pointer (some ⟨W.heap.size+1+1,0,none⟩),.pointer (some ⟨W.heap.size,0,none⟩),.pointer (some ⟨W.heap.size+1,0,none⟩)]) (by simp [settle]) (by simp [go_sem]) ?_
    refine (closeJ ⟨W.heap.size+1+1,0,none⟩ ⟨W.heap.size,0,none⟩ ⟨W.heap.size+1,0,none⟩ _ (box_cell HJ.out.b2 0 rfl)).mono ?_
    rintro e u' w'' ⟨rfl,rfl,rfl⟩
    obtain ⟨x,hx,hx2⟩:=HJ.out.b1
    obtain rfl:=hx2 rfl
    have r0:Tryz.f147.results=#[.cell 6 75,.cell 7 3,.cell 8 27]:=rfl
    exact ⟨_,results3 (cs:=zJ) r0 rfl rfl rfl HR.out.1 HR.out.2 (by kernel_rfl) (by kernel_rfl) HJ.out.b0 (box_cell hx 0 rfl) (box_cell HJ.out.b2 0 rfl),rfl,HJ.out.bel⟩
  · intro f w' hf h
    obtain ⟨x,h1,h2⟩:=h.b1
    exact ⟨h.bel,h.bB,h.b0,h.bd,⟨x,h1,fun _=>h2 (hf 6 (by decide))⟩,h.b2,h.lt⟩
theorem results_c {P:Program} {fn:Func} {t1 t2 t3:Tmp} {ty:TypeId} {b1:Nat} {cs:List Value} {T:TypeId} {v2 v3:Value} {w:World} {tmps:Array Value} (h:fn.results=#[.cell t1 ty,.tmp t2,.tmp t3])
    (h1:tmps.getD t1 undef=.pointer (some ⟨b1,0,none⟩)) (h2:tmps.getD t2 undef=v2) (h3:tmps.getD t3 undef=v3) (ha:tAg P ty=some true) (hs:tSz P ty=some cs.length)
    (hb:w.heap[b1]? = some (.cells cs.toArray T (0,0))):(results fn tmps).run P w=.ok (.tuple #[.agg cs.toArray,v2,v3]) w:=by
  have l1:=run_loadVar_agg (P:=P) (ty:=ty) (w:=w) (b:=b1) (o:=0) (cs:=cs) ha hs (fun j v e=>by rw [Nat.zero_add];exact box_cell hb j (by simpa using e))
  have h1:tmps[t1]?.getD undef=.pointer (some ⟨b1,0,none⟩):=by simpa using h1
  have h2:tmps[t2]?.getD undef=v2:=by simpa using h2
  have h3:tmps[t3]?.getD undef=v3:=by simpa using h3
  simp [results,h,h1,h2,h3,l1,asAddr]
set_option maxHeartbeats 4000000 in
theorem readB {m:Mem} {buf:List UInt8} {a:Option Addr} {n c o:Nat} {W:World} (hi:Imm m W) (hr:Rep m noNames (e_sl_byte buf) (.slice a n c)) (Z:ZR buf o (o+20)):
    Calls Tryz.prog 118 #[.slice a n c,.int .i64 (o:Int)] W fun e W'=>e=.returned (.tuple #[.agg zB.toArray,.int .i64 ((o+20:Nat):Int),.int .i64 0])∧Below W.heap.size W W':=by
  have eA:=Tryz.call145
  have ra:tAg Tryz.prog 71=some true:=by kernel_rfl
  have rz:tSz Tryz.prog 71=some 20:=by kernel_rfl
  have HR:Hid (_∧_):=⟨ra,rz⟩
  have hb:Below W.heap.size W (W.alloc (.cells zB.toArray 71)):=(Below.refl _ _).alloc (Nat.le_refl _) _
  have HX:Hid (_∧_∧_∧_):=⟨hi.below hb,hr,Z,hb⟩
  clear ra rz hi hr Z hb
  go_enter Tryz.func118,Tryz.ntmps118
  go_wp2_with (first
    | (go_at_call 145;refine (atB (W:=W.alloc (.cells zB.toArray 71)) HX.out.1 HX.out.2.1 HX.out.2.2.1).mono ?_;rintro e w2 ⟨rfl,hb2⟩;have HY:Hid (_∧_∧_):=⟨hb2,(hb2.block _ (by simp)).trans (heap_at W (.cells zB.toArray 71) _ rfl),HX.out.2.2.2.trans (hb2.mono (by simp))⟩;clear hb2)
    | (refine wpList_storeat (cs:=zB) (arr:=zB) rfl rfl rfl rfl rfl HR.out.2 HY.out.2.1 (by decide) zB_one ?_;intro w3 h3 g3;have HK:Hid (_∧_):=⟨h3,HY.out.2.2.grown g3 HY.out.2.2.size (fun k e=>by have:=Option.some.inj e;omega)⟩;clear h3 g3))
  have r0:Tryz.f118.results=#[.cell 4 71,.tmp 5,.tmp 6]:=rfl
  refine bodyPost_ret (results_c (cs:=zB) r0 rfl rfl rfl HR.out.1 HR.out.2 HK.out.1) rfl ?_
  exact ⟨rfl,HK.out.2⟩
set_option maxHeartbeats 4000000 in
theorem readJ {m:Mem} {buf:List UInt8} {a:Option Addr} {n c o:Nat} {W:World} (hi:Imm m W) (hr:Rep m noNames (e_sl_byte buf) (.slice a n c)) (Z:ZR buf o (o+24)):
    Calls Tryz.prog 120 #[.slice a n c,.int .i64 (o:Int)] W fun e W'=>e=.returned (.tuple #[.agg zJ.toArray,.int .i64 ((o+24:Nat):Int),.int .i64 0])∧Below W.heap.size W W':=by
  have eA:=Tryz.call147
  have ra:tAg Tryz.prog 75=some true:=by kernel_rfl
  have rz:tSz Tryz.prog 75=some 24:=by kernel_rfl
  have HR:Hid (_∧_):=⟨ra,rz⟩
  have hb:Below W.heap.size W (W.alloc (.cells zJ.toArray 75)):=(Below.refl _ _).alloc (Nat.le_refl _) _
  have HX:Hid (_∧_∧_∧_):=⟨hi.below hb,hr,Z,hb⟩
  clear ra rz hi hr Z hb
  go_enter Tryz.func120,Tryz.ntmps120
  go_wp2_with (first
    | (go_at_call 147;refine (atJ (W:=W.alloc (.cells zJ.toArray 75)) HX.out.1 HX.out.2.1 HX.out.2.2.1).mono ?_;rintro e w2 ⟨rfl,hb2⟩;have HY:Hid (_∧_∧_):=⟨hb2,(hb2.block _ (by simp)).trans (heap_at W (.cells zJ.toArray 75) _ rfl),HX.out.2.2.2.trans (hb2.mono (by simp))⟩;clear hb2)
    | (refine wpList_storeat (cs:=zJ) (arr:=zJ) rfl rfl rfl rfl rfl HR.out.2 HY.out.2.1 (by decide) zJ_one ?_;intro w3 h3 g3;have HK:Hid (_∧_):=⟨h3,HY.out.2.2.grown g3 HY.out.2.2.size (fun k e=>by have:=Option.some.inj e;omega)⟩;clear h3 g3))
  have r0:Tryz.f120.results=#[.cell 4 75,.tmp 5,.tmp 6]:=rfl
  refine bodyPost_ret (results_c (cs:=zJ) r0 rfl rfl rfl HR.out.1 HR.out.2 HK.out.1) rfl ?_
  exact ⟨rfl,HK.out.2⟩
end GoForm
end

section
/- The decoder of package recording: fields. No conditions. -/
set_option linter.all false
set_option maxRecDepth 100000
open Go Go.Rx Go.Proofs Go.RowKit
namespace GoForm
def DF (bd:Nat) (hdr:Value) (off:Int) (W:World):Prop:=W.heap[bd]? = some (.cells #[hdr,.int .i64 off,.int .i64 0] 87 (0,0))
theorem quiet_callt {P:Program} {C:World→Prop} {o:Oper} {a:Act} {K:Act→Prop} {f:FuncId} {t:Nat} {xs:Array Operand} {tys:Array TypeId} {vs:Array Value} {v:Value}
    (e:o.op=.call { callee:=.value (.tmp t),args:=xs,argTypes:=tys }) (hf:a.eval (.tmp t)=.func (.func f) #[] #[]) (hc:∀ (args:Array Value) (w:World),Sem.run P (callFunc f args) w=.ok (.enter f args) w) (hv:xs.map a.eval=vs)
    (hC:∀ w,C w→Calls P f vs w fun e w'=>e=.returned v∧C w') (hk:K (a.put o.dst v)):o.quiet P a C K:=
  ⟨v,fun w hw=>by
    have hf:a.tmps[t]?.getD undef=.func (.func f) #[] #[]:=by simpa [Act.eval] using hf
    have r1:(execOp a.eval o).run P w=.ok (.enter f vs) w:=by subst hv;simp [execOp,e,resolve,invoke,hc,hf,go_sem]
    unfold Oper.quietAt
    rw [r1]
    exact ⟨rfl,hC w hw⟩,hk⟩
def Reads (f:FuncId) (a:Option Addr) (n c:Nat) (off:Int) (v:Value) (off':Int) (W:World):Prop:=
  ∀ w',Below W.heap.size W w'→Calls Tryz.prog f #[.slice a n c,.int .i64 off] w' fun e w''=>e=.returned (.tuple #[v,.int .i64 off',.int .i64 0])∧Below w'.heap.size w' w''
set_option maxHeartbeats 2000000 in
theorem fieldI {f:FuncId} {a:Option Addr} {n c bd:Nat} {off off' x:Int} {W:World} (hf:∀ (args:Array Value) (w:World),Sem.run Tryz.prog (callFunc f args) w=.ok (.enter f args) w) (hb:DF bd (.slice a n c) off W) (hlt:bd<W.heap.size) (hR:Reads f a n c off (.int .i64 x) off' W):
    Calls Tryz.prog 113 #[.pointer (some ⟨bd,0,none⟩),.func (.func f) #[] #[]] W fun e W'=>e=.returned (.int .i64 x)∧DF bd (.slice a n c) off' W'∧W.grownBy W' (some bd):=by
  have hb:W.heap[bd]? = some (.cells #[.slice a n c,.int .i64 off,.int .i64 0] 87 (0,0)):=hb
  have f0:∀ w',Below W.heap.size W w'→w'.cell? ⟨bd,0,none⟩=some (.slice a n c):=fun w' hw=>box_cell ((hw.block _ hlt).trans hb) 0 rfl
  have f1:∀ w',Below W.heap.size W w'→w'.cell? ⟨bd,1,none⟩=some (.int .i64 off):=fun w' hw=>box_cell ((hw.block _ hlt).trans hb) 1 rfl
  have c2:W.cell? ⟨bd,2,none⟩=some (.int .i64 0):=box_cell hb 2 rfl
  have kc:∀ w',Below W.heap.size W w'→Calls Tryz.prog f #[.slice a n c,.int .i64 off] w' fun e w''=>e=.returned (.tuple #[.int .i64 x,.int .i64 off',.int .i64 0])∧Below W.heap.size W w'':=fun w' hw=>(hR w' hw).mono (by
    rintro e w'' ⟨rfl,hb2⟩
    exact ⟨rfl,hw.trans (hb2.mono hw.size)⟩)
  have HB:Hid (_∧_):=⟨hb,hlt⟩
  clear hb hR
  go_enter Tryz.func113,Tryz.ntmps113
  go_wp2
  refine wp_region_bel mixed47 (by kernel_rfl) ?_
  go_big_quiet_want
  go_big_quiet_op
  first | go_big_quiet_on | (refine ⟨_,fun _ _=>rfl,?_⟩;go_big_quiet_on)
  go_big_quiet_want
  go_big_quiet_op
  first | go_big_quiet_on | (refine ⟨_,fun _ _=>rfl,?_⟩;go_big_quiet_on)
  go_big_quiet_want
  go_big_quiet_op
  first | go_big_quiet_on | (refine ⟨_,fun _ _=>rfl,?_⟩;go_big_quiet_on)
  go_big_quiet_want
  go_big_quiet_op
  first | go_big_quiet_on | (refine ⟨_,fun _ _=>rfl,?_⟩;go_big_quiet_on)
  go_big_quiet_want
  refine quiet_load1 (ad:=⟨bd,0,none⟩) (v:=.slice a n c) rfl rfl (by kernel_rfl) (fun w' hw=>f0 w' hw) ?_
  simp only [Act.put,List.setIfInBounds_toArray,List.set_cons_succ,List.set_cons_zero]
  go_big_quiet_on
  go_big_quiet_want
  go_big_quiet_op
  first | go_big_quiet_on | (refine ⟨_,fun _ _=>rfl,?_⟩;go_big_quiet_on)
  go_big_quiet_want
  go_big_quiet_op
  first | go_big_quiet_on | (refine ⟨_,fun _ _=>rfl,?_⟩;go_big_quiet_on)
  go_big_quiet_want
  go_big_quiet_op
  first | go_big_quiet_on | (refine ⟨_,fun _ _=>rfl,?_⟩;go_big_quiet_on)
  go_big_quiet_want
  refine quiet_load1 (ad:=⟨bd,1,none⟩) (v:=.int .i64 off) rfl rfl (by kernel_rfl) (fun w' hw=>f1 w' hw) ?_
  simp only [Act.put,List.setIfInBounds_toArray,List.set_cons_succ,List.set_cons_zero]
  go_big_quiet_on
  go_big_quiet_want
  refine quiet_callt (f:=f) (t:=16) (xs:=#[.tmp 20,.tmp 24]) (tys:=#[24,3]) (vs:=#[.slice a n c,.int .i64 off]) (v:=.tuple #[.int .i64 x,.int .i64 off',.int .i64 0]) rfl (by simp [Act.eval]) hf (by simp [Act.eval]) (fun w' hw'=>kc w' hw') ?_
  simp only [Act.put,List.setIfInBounds_toArray,List.set_cons_succ,List.set_cons_zero]
  go_big_quiet_on
  go_big_quiet_want
  go_big_quiet_op
  first | go_big_quiet_on | (refine ⟨_,fun _ _=>rfl,?_⟩;go_big_quiet_on)
  go_big_quiet_want
  go_big_quiet_op
  first | go_big_quiet_on | (refine ⟨_,fun _ _=>rfl,?_⟩;go_big_quiet_on)
  go_big_quiet_want
  go_big_quiet_op
  first | go_big_quiet_on | (refine ⟨_,fun _ _=>rfl,?_⟩;go_big_quiet_on)
  go_big_quiet_want
  go_big_quiet_op
  first | go_big_quiet_on | (refine ⟨_,fun _ _=>rfl,?_⟩;go_big_quiet_on)
  go_big_quiet_want
  go_big_quiet_op
  first | go_big_quiet_on | (refine ⟨_,fun _ _=>rfl,?_⟩;go_big_quiet_on)
  go_big_quiet_want
  go_big_quiet_op
  first | go_big_quiet_on | (refine ⟨_,fun _ _=>rfl,?_⟩;go_big_quiet_on)
  go_big_quiet_want
  go_big_quiet_op
  first | go_big_quiet_on | (refine ⟨_,fun _ _=>rfl,?_⟩;go_big_quiet_on)
  refine wpQuiet_nil ?_
  intro W1 hW1
  have D1:W1.heap[bd]? = some (.cells #[.slice a n c,.int .i64 off,.int .i64 0] 87 (0,0)):=(hW1.block _ HB.out.2).trans HB.out.1
  have d1:W1.cell? ⟨bd,1,none⟩=some (.int .i64 off):=box_cell D1 1 rfl
  have z1:=box_free D1 1
  have HG:Hid (DF bd (.slice a n c) off' (W1.setCell ⟨bd,1,none⟩ (.int .i64 off'))∧W1.grownBy (W1.setCell ⟨bd,1,none⟩ (.int .i64 off')) (some bd)):=
    ⟨heap_own D1 1 _ _ rfl,⟨rfl,rfl,rfl,by rw [size_set];exact Nat.le_refl _,fun k _ hk=>heap_set _ _ _ _ (fun e=>hk (by rw [e]))⟩⟩
  clear f0 f1 kc c2 D1
  go_wp2
  go_ret
  exact ⟨rfl,HG.out.1,grown_trans hW1 HG.out.2⟩
def dsF115:Nat→Nat
  | 0=>16
  | 1=>17
  | 2=>18
  | 3=>19
  | 4=>20
  | 5=>21
  | 6=>22
  | 7=>23
  | 8=>24
  | 9=>25
  | 10=>15
  | 11=>26
  | 12=>27
  | 13=>28
  | 16=>7
  | 17=>8
  | _=>0
def valF115 (f:FuncId) (bd:Nat) (a:Option Addr) (n c:Nat) (off off':Int) (x:Vec):Nat→Value
  | 0=>(.func (.func f) #[] #[])
  | 1=>(.pointer (some ⟨bd,0,none⟩))
  | 2=>(.pointer (some ⟨bd,0,none⟩))
  | 3=>(.pointer (some ⟨bd,0,none⟩))
  | 4=>(.slice a n c)
  | 5=>(.pointer (some ⟨bd,0,none⟩))
  | 6=>(.pointer (some ⟨bd,0,none⟩))
  | 7=>(.pointer (some ⟨bd,1,none⟩))
  | 8=>(.int .i64 off)
  | 9=>(.tuple #[.agg ([Value.int .i64 x.X,Value.int .i64 x.Y]).toArray,.int .i64 off',.int .i64 0])
  | 10=>(.tuple #[.agg ([Value.int .i64 x.X,Value.int .i64 x.Y]).toArray,.int .i64 off',.int .i64 0])
  | 11=>(.agg ([Value.int .i64 x.X,Value.int .i64 x.Y]).toArray)
  | 12=>(.int .i64 off')
  | 13=>(.int .i64 0)
  | 16=>(.int .i64 off')
  | 17=>(.int .i64 0)
  | _=>undef
set_option maxHeartbeats 4000000 in
theorem fieldV {f:FuncId} {a:Option Addr} {n c bd:Nat} {off off':Int} {x:Vec} {W:World} (hf:∀ (args:Array Value) (w:World),Sem.run Tryz.prog (callFunc f args) w=.ok (.enter f args) w) (hb:DF bd (.slice a n c) off W) (hlt:bd<W.heap.size) (hR:Reads f a n c off (.agg ([Value.int .i64 x.X,Value.int .i64 x.Y]).toArray) off' W):
    Calls Tryz.prog 115 #[.pointer (some ⟨bd,0,none⟩),.func (.func f) #[] #[]] W fun e W'=>e=.returned (.agg ([Value.int .i64 x.X,Value.int .i64 x.Y]).toArray)∧DF bd (.slice a n c) off' W'∧W.grownBy W' (some bd):=by
  have hb:W.heap[bd]? = some (.cells #[.slice a n c,.int .i64 off,.int .i64 0] 87 (0,0)):=hb
  have ra:tAg Tryz.prog 65=some true:=by kernel_rfl
  have rz:tSz Tryz.prog 65=some 2:=by kernel_rfl
  have HR:Hid (_∧_):=⟨ra,rz⟩
  clear ra rz
  obtain ⟨V,hV⟩:∃ V,V=(W.alloc (.cells ([Value.int .i64 0,Value.int .i64 0]).toArray 65)).alloc (.cells ([Value.int .i64 0,Value.int .i64 0]).toArray 65):=⟨_,rfl⟩
  have bV:Below W.heap.size W V:=by rw [hV];exact ((Below.refl _ _).alloc (Nat.le_refl _) _).alloc (by simp) _
  have kV:V.heap[W.heap.size]? = some (.cells ([Value.int .i64 0,Value.int .i64 0]).toArray 65 (0,0)):=by rw [hV,heap_past _ _ _ (by simp)];exact heap_at _ _ _ rfl
  have sV:V.heap.size=W.heap.size+2:=by rw [hV];simp
  have hbV:V.heap[bd]? = some (.cells #[.slice a n c,.int .i64 off,.int .i64 0] 87 (0,0)):=(bV.block _ hlt).trans hb
  have lV:bd<V.heap.size:=by omega
  have c2:V.cell? ⟨bd,2,none⟩=some (.int .i64 0):=box_cell hbV 2 rfl
  have HB:Hid (_∧_∧_∧_∧_∧_∧_):=⟨fun w' (hw:Below V.heap.size V w')=>box_cell ((hw.block _ lV).trans hbV) 0 rfl,fun w' (hw:Below V.heap.size V w')=>box_cell ((hw.block _ lV).trans hbV) 1 rfl,
    fun w' (hw:Below V.heap.size V w')=>hR w' (bV.trans (hw.mono (by omega))),bV,kV,sV,hbV⟩
  have HV:Hid (V=(W.alloc (.cells ([Value.int .i64 0,Value.int .i64 0]).toArray 65)).alloc (.cells ([Value.int .i64 0,Value.int .i64 0]).toArray 65)):=hV
  clear hb hbV hR bV kV hV
  go_enter Tryz.func115,Tryz.ntmps115
  go_upto_region 2 with fail
  have eV:((W.alloc (.cells ([Value.int .i64 0,Value.int .i64 0]).toArray 65)).alloc (.cells ([Value.int .i64 0,Value.int .i64 0]).toArray 65))=V:=HV.out.symm
  first | rw [eV] | (simp only [[Value.int .i64 0,Value.int .i64 0],zB,zJ] at eV ⊢;rw [eV]) | (show Code.wp _ _ _ _ ((W.alloc (.cells ([Value.int .i64 0,Value.int .i64 0]).toArray 65)).alloc (.cells ([Value.int .i64 0,Value.int .i64 0]).toArray 65));rw [eV])
  clear eV
  go_wp2
  refine wp_region_table mixed47 18 14 15 11 6 dsF115 (valF115 f bd a n c off off' x) 65 65 _ [Value.int .i64 x.X,Value.int .i64 x.Y] rfl ?_ ?_ ?_ ?_ (by simp) ⟨_,rfl,rfl,rfl,rfl⟩ Tryz.zeroValue65 rfl ⟨_,rfl,rfl,rfl,rfl,?_⟩ ⟨by decide,by decide,by decide⟩ (by decide) rfl (by kernel_rfl) (by intro c hc;simp at hc;rcases hc with rfl | rfl <;> rfl) ?_
  · intro i o ho
    match i with
    | 0=>cases ho;simp [Region.binds]
    | 1=>cases ho;simp [Region.binds]
    | 2=>cases ho;simp [Region.binds]
    | 3=>cases ho;simp [Region.binds]
    | 4=>cases ho;simp [Region.binds]
    | 5=>cases ho;simp [Region.binds]
    | 6=>cases ho;simp [Region.binds]
    | 7=>cases ho;simp [Region.binds]
    | 8=>cases ho;simp [Region.binds]
    | 9=>cases ho;simp [Region.binds]
    | 10=>cases ho;simp [Region.binds]
    | 11=>cases ho;simp [Region.binds]
    | 12=>cases ho;simp [Region.binds]
    | 13=>cases ho;simp [Region.binds]
    | 14=>cases ho;simp [Region.binds]
    | 15=>cases ho;simp [Region.binds]
    | 16=>cases ho;simp [Region.binds]
    | 17=>cases ho;simp [Region.binds]
    | j+18=>simp at ho
  · intro i o hpu ho
    obtain ⟨h1,h2,h3⟩:=hpu
    match i,h1,h2,h3 with
    | 0,_,_,_=>
      cases ho
      refine ⟨rfl,rfl,by simp [dsF115],fun ac hd hr w' hw=>?_⟩
      have r1:=((hr 1 (fun i hp=>(by decide:∀ i,i<18→i≠14→i≠15→dsF115 i≠1) i hp.1 hp.2.1 hp.2.2) (by decide)).trans rfl)
      have x1:=ev r1
      simp [Oper.quietAt,Oper.quietUpon,execOp,r1,go_sem,valF115]
    | 1,_,_,_=>
      cases ho
      refine ⟨rfl,rfl,by simp [dsF115],fun ac hd hr w' hw=>?_⟩
      have r0:=((hr 0 (fun i hp=>(by decide:∀ i,i<18→i≠14→i≠15→dsF115 i≠0) i hp.1 hp.2.1 hp.2.2) (by decide)).trans rfl)
      have x0:=ev r0
      simp [Oper.quietAt,Oper.quietUpon,execOp,r0,go_sem,valF115]
    | 2,_,_,_=>
      cases ho
      refine ⟨rfl,rfl,by simp [dsF115],fun ac hd hr w' hw=>?_⟩
      have r17:ac.tmps[17]? = some (.pointer (some ⟨bd,0,none⟩)):=hd ⟨1,.data⟩ (by simp) rfl (by decide) (by decide)
      have x17:=ev r17
      simp [Oper.quietAt,Oper.quietUpon,execOp,r17,go_sem,valF115]
    | 3,_,_,_=>
      cases ho
      refine ⟨rfl,rfl,by simp [dsF115],fun ac hd hr w' hw=>?_⟩
      have r18:ac.tmps[18]? = some (.pointer (some ⟨bd,0,none⟩)):=hd ⟨2,.data⟩ (by simp) rfl (by decide) (by decide)
      have x18:=ev r18
      simp [Oper.quietAt,Oper.quietUpon,execOp,r18,go_sem,valF115]
    | 4,_,_,_=>
      cases ho
      refine ⟨rfl,rfl,by simp [dsF115],fun ac hd hr w' hw=>?_⟩
      have r19:ac.tmps[19]? = some (.pointer (some ⟨bd,0,none⟩)):=hd ⟨3,.data⟩ (by simp) rfl (by decide) (by decide)
      have x19:=ev r19
      exact quiet_l1 rfl x19 (by kernel_rfl) (HB.out.1 w' hw)
    | 5,_,_,_=>
      cases ho
      refine ⟨rfl,rfl,by simp [dsF115],fun ac hd hr w' hw=>?_⟩
      have r0:=((hr 0 (fun i hp=>(by decide:∀ i,i<18→i≠14→i≠15→dsF115 i≠0) i hp.1 hp.2.1 hp.2.2) (by decide)).trans rfl)
      have x0:=ev r0
      simp [Oper.quietAt,Oper.quietUpon,execOp,r0,go_sem,valF115]
    | 6,_,_,_=>
      cases ho
      refine ⟨rfl,rfl,by simp [dsF115],fun ac hd hr w' hw=>?_⟩
      have r21:ac.tmps[21]? = some (.pointer (some ⟨bd,0,none⟩)):=hd ⟨5,.data⟩ (by simp) rfl (by decide) (by decide)
      have x21:=ev r21
      simp [Oper.quietAt,Oper.quietUpon,execOp,r21,go_sem,valF115]
    | 7,_,_,_=>
      cases ho
      refine ⟨rfl,rfl,by simp [dsF115],fun ac hd hr w' hw=>?_⟩
      have r22:ac.tmps[22]? = some (.pointer (some ⟨bd,0,none⟩)):=hd ⟨6,.data⟩ (by simp) rfl (by decide) (by decide)
      have x22:=ev r22
      simp [Oper.quietAt,Oper.quietUpon,execOp,r22,go_sem,valF115]
    | 8,_,_,_=>
      cases ho
      refine ⟨rfl,rfl,by simp [dsF115],fun ac hd hr w' hw=>?_⟩
      have r23:ac.tmps[23]? = some (.pointer (some ⟨bd,1,none⟩)):=hd ⟨7,.data⟩ (by simp) rfl (by decide) (by decide)
      have x23:=ev r23
      exact quiet_l1 rfl x23 (by kernel_rfl) (HB.out.2.1 w' hw)
    | 9,_,_,_=>
      cases ho
      refine ⟨rfl,rfl,by simp [dsF115],fun ac hd hr w' hw=>?_⟩
      have r16:ac.tmps[16]? = some (.func (.func f) #[] #[]):=hd ⟨0,.data⟩ (by simp) rfl (by decide) (by decide)
      have x16:=ev r16
      have r20:ac.tmps[20]? = some (.slice a n c):=hd ⟨4,.data⟩ (by simp) rfl (by decide) (by decide)
      have x20:=ev r20
      have r24:ac.tmps[24]? = some (.int .i64 off):=hd ⟨8,.data⟩ (by simp) rfl (by decide) (by decide)
      have x24:=ev r24
      exact quiet_ct (f:=f) (t:=16) (vs:=#[.slice a n c,.int .i64 off]) rfl r16 hf (by simp [x20,x24]) (HB.out.2.2.1 w' hw)
    | 10,_,_,_=>
      cases ho
      refine ⟨rfl,rfl,by simp [dsF115],fun ac hd hr w' hw=>?_⟩
      have r25:ac.tmps[25]? = some (.tuple #[.agg ([Value.int .i64 x.X,Value.int .i64 x.Y]).toArray,.int .i64 off',.int .i64 0]):=hd ⟨9,.data⟩ (by simp) rfl (by decide) (by decide)
      have x25:=ev r25
      simp [Oper.quietAt,Oper.quietUpon,execOp,r25,go_sem,valF115]
    | 11,_,_,_=>
      cases ho
      refine ⟨rfl,rfl,by simp [dsF115],fun ac hd hr w' hw=>?_⟩
      have r15:ac.tmps[15]? = some (.tuple #[.agg ([Value.int .i64 x.X,Value.int .i64 x.Y]).toArray,.int .i64 off',.int .i64 0]):=hd ⟨10,.data⟩ (by simp) rfl (by decide) (by decide)
      have x15:=ev r15
      simp [Oper.quietAt,Oper.quietUpon,execOp,r15,go_sem,valF115]
    | 12,_,_,_=>
      cases ho
      refine ⟨rfl,rfl,by simp [dsF115],fun ac hd hr w' hw=>?_⟩
      have r15:ac.tmps[15]? = some (.tuple #[.agg ([Value.int .i64 x.X,Value.int .i64 x.Y]).toArray,.int .i64 off',.int .i64 0]):=hd ⟨10,.data⟩ (by simp) rfl (by decide) (by decide)
      have x15:=ev r15
      simp [Oper.quietAt,Oper.quietUpon,execOp,r15,go_sem,valF115]
    | 13,_,_,_=>
      cases ho
      refine ⟨rfl,rfl,by simp [dsF115],fun ac hd hr w' hw=>?_⟩
      have r15:ac.tmps[15]? = some (.tuple #[.agg ([Value.int .i64 x.X,Value.int .i64 x.Y]).toArray,.int .i64 off',.int .i64 0]):=hd ⟨10,.data⟩ (by simp) rfl (by decide) (by decide)
      have x15:=ev r15
      simp [Oper.quietAt,Oper.quietUpon,execOp,r15,go_sem,valF115]
    | 14,_,h2,_=>exact absurd rfl h2
    | 15,_,_,h3=>exact absurd rfl h3
    | 16,_,_,_=>
      cases ho
      refine ⟨rfl,rfl,by simp [dsF115],fun ac hd hr w' hw=>?_⟩
      have r27:ac.tmps[27]? = some (.int .i64 off'):=hd ⟨12,.data⟩ (by simp) rfl (by decide) (by decide)
      have x27:=ev r27
      simp [Oper.quietAt,Oper.quietUpon,execOp,r27,go_sem,valF115]
    | 17,_,_,_=>
      cases ho
      refine ⟨rfl,rfl,by simp [dsF115],fun ac hd hr w' hw=>?_⟩
      have r28:ac.tmps[28]? = some (.int .i64 0):=hd ⟨13,.data⟩ (by simp) rfl (by decide) (by decide)
      have x28:=ev r28
      simp [Oper.quietAt,Oper.quietUpon,execOp,r28,go_sem,valF115]
    | j+18,h1,_,_=>exact absurd h1 (by omega)
  · exact inj_of (by kernel_rfl)
  · intro i hi
    exact (by decide:∀ i,i<18→i≠14→i≠15→dsF115 i≠6) i hi.1 hi.2.1 hi.2.2
  · intro f hf
    simp [Region.binds] at hf
    simp [hf]
  intro ac W1 b hW1 hb1 hb2 hbox hdf hsz hvals hda hrest
  obtain ⟨tm,dfr⟩:=ac
  have e1:dfr=[]:=hdf
  subst e1
  have e2:=tmps_eq' [(16,(.func (.func f) #[] #[])),(17,(.pointer (some ⟨bd,0,none⟩))),(18,(.pointer (some ⟨bd,0,none⟩))),(19,(.pointer (some ⟨bd,0,none⟩))),(20,(.slice a n c)),(21,(.pointer (some ⟨bd,0,none⟩))),(22,(.pointer (some ⟨bd,0,none⟩))),(23,(.pointer (some ⟨bd,1,none⟩))),(24,(.int .i64 off)),(25,(.tuple #[.agg ([Value.int .i64 x.X,Value.int .i64 x.Y]).toArray,.int .i64 off',.int .i64 0])),(15,(.tuple #[.agg ([Value.int .i64 x.X,Value.int .i64 x.Y]).toArray,.int .i64 off',.int .i64 0])),(26,(.agg ([Value.int .i64 x.X,Value.int .i64 x.Y]).toArray)),(27,(.int .i64 off')),(28,(.int .i64 0)),(7,(.int .i64 off')),(8,(.int .i64 0)),(6,.pointer (some ⟨b,0,none⟩))] _ tm hsz rfl rfl ⟨hvals 0 ⟨by decide,by decide,by decide⟩,hvals 1 ⟨by decide,by decide,by decide⟩,hvals 2 ⟨by decide,by decide,by decide⟩,hvals 3 ⟨by decide,by decide,by decide⟩,hvals 4 ⟨by decide,by decide,by decide⟩,hvals 5 ⟨by decide,by decide,by decide⟩,hvals 6 ⟨by decide,by decide,by decide⟩,hvals 7 ⟨by decide,by decide,by decide⟩,hvals 8 ⟨by decide,by decide,by decide⟩,hvals 9 ⟨by decide,by decide,by decide⟩,hvals 10 ⟨by decide,by decide,by decide⟩,hvals 11 ⟨by decide,by decide,by decide⟩,hvals 12 ⟨by decide,by decide,by decide⟩,hvals 13 ⟨by decide,by decide,by decide⟩,hvals 16 ⟨by decide,by decide,by decide⟩,hvals 17 ⟨by decide,by decide,by decide⟩,hda,trivial⟩ (fun j hj=>hrest j (fun i hi e=>hj (e ▸ (by decide:∀ i,i<18→i≠14→i≠15→dsF115 i∈[16,17,18,19,20,21,22,23,24,25,15,26,27,28,7,8,6]) i hi.1 hi.2.1 hi.2.2)) (fun e=>hj (by subst e;simp)))
  simp only [List.foldl_cons,List.foldl_nil,List.setIfInBounds_toArray,List.set_cons_succ,List.set_cons_zero] at e2
  subst e2
  have D1:W1.heap[bd]? = some (.cells #[.slice a n c,.int .i64 off,.int .i64 0] 87 (0,0)):=(hW1.block _ lV).trans HB.out.2.2.2.2.2.2
  have d1:W1.cell? ⟨bd,1,none⟩=some (.int .i64 off):=box_cell D1 1 rfl
  have z1:=box_free D1 1
  have HG:Hid (DF bd (.slice a n c) off' (W1.setCell ⟨bd,1,none⟩ (.int .i64 off'))∧W1.grownBy (W1.setCell ⟨bd,1,none⟩ (.int .i64 off')) (some bd)):=
    ⟨heap_own D1 1 _ _ rfl,⟨rfl,rfl,rfl,by rw [size_set];exact Nat.le_refl _,fun k _ hk=>heap_set _ _ _ _ (fun e=>hk (by rw [e]))⟩⟩
  have HW:Hid (_∧_∧_∧_):=⟨hW1,hbox,hb1,hb2⟩
  have hlt2:bd<W.heap.size:=hlt
  clear hvals hda hrest hsz hW1 hbox hb1 hb2 D1 c2
  go_wp2_with (first
    | (refine wpList_loadat (cs:=[Value.int .i64 x.X,Value.int .i64 x.Y]) rfl rfl rfl rfl HR.out.1 HR.out.2 ((HG.out.2.block _ HW.out.2.2.2 (fun e=>by have:=Option.some.inj e;have:=HW.out.2.2.1;omega)).trans HW.out.2.1) (fun j v e=>by rw [Nat.zero_add];simpa using e) ?_)
    | (refine wpList_storeat (cs:=[Value.int .i64 x.X,Value.int .i64 x.Y]) (arr:=[Value.int .i64 0,Value.int .i64 0]) rfl rfl rfl rfl rfl HR.out.2 ((HG.out.2.block W.heap.size (by have:=HW.out.1.size;omega) (fun e=>by have:=Option.some.inj e;omega)).trans ((HW.out.1.block W.heap.size (by omega)).trans HB.out.2.2.2.2.1)) (by exact Nat.le_refl 2) (by intro c hc;simp at hc;rcases hc with rfl | rfl <;> rfl) ?_;intro w3 h3 g3;have HK:Hid (_∧_):=⟨h3,g3⟩;clear h3 g3))
  have r0:Tryz.f115.results=#[.cell 4 65]:=rfl
  refine bodyPost_ret (results_box (cs:=[Value.int .i64 x.X,Value.int .i64 x.Y]) r0 rfl HR.out.1 HR.out.2 HK.out.1) rfl ?_
  have g1:W.grownBy W1 (some bd):=below_grown'' (HB.out.2.2.2.1.trans (HW.out.1.mono (by omega)))
  have g2:=HG.out.2
  have g3:=HK.out.2
  have s1:=g1.size
  have s2:=g2.size
  refine ⟨rfl,(g3.block bd (by omega) (fun e=>by have:=Option.some.inj e;omega)).trans HG.out.1,?_⟩
  have g12:=grown_trans2 g1 g2
  exact ⟨g3.os.trans g12.os,g3.tape.trans g12.tape,g3.output.trans g12.output,Nat.le_trans g12.size g3.size,fun k hk hn=>(g3.block k (by omega) (fun e=>by have:=Option.some.inj e;omega)).trans (g12.block k hk hn)⟩
def dsF117:Nat→Nat
  | 0=>16
  | 1=>17
  | 2=>18
  | 3=>19
  | 4=>20
  | 5=>21
  | 6=>22
  | 7=>23
  | 8=>24
  | 9=>25
  | 10=>15
  | 11=>26
  | 12=>27
  | 13=>28
  | 16=>7
  | 17=>8
  | _=>0
def valF117 (f:FuncId) (bd:Nat) (a:Option Addr) (n c:Nat) (off off':Int):Nat→Value
  | 0=>(.func (.func f) #[] #[])
  | 1=>(.pointer (some ⟨bd,0,none⟩))
  | 2=>(.pointer (some ⟨bd,0,none⟩))
  | 3=>(.pointer (some ⟨bd,0,none⟩))
  | 4=>(.slice a n c)
  | 5=>(.pointer (some ⟨bd,0,none⟩))
  | 6=>(.pointer (some ⟨bd,0,none⟩))
  | 7=>(.pointer (some ⟨bd,1,none⟩))
  | 8=>(.int .i64 off)
  | 9=>(.tuple #[.agg (zB).toArray,.int .i64 off',.int .i64 0])
  | 10=>(.tuple #[.agg (zB).toArray,.int .i64 off',.int .i64 0])
  | 11=>(.agg (zB).toArray)
  | 12=>(.int .i64 off')
  | 13=>(.int .i64 0)
  | 16=>(.int .i64 off')
  | 17=>(.int .i64 0)
  | _=>undef
set_option maxHeartbeats 4000000 in
theorem fieldB {f:FuncId} {a:Option Addr} {n c bd:Nat} {off off':Int}  {W:World} (hf:∀ (args:Array Value) (w:World),Sem.run Tryz.prog (callFunc f args) w=.ok (.enter f args) w) (hb:DF bd (.slice a n c) off W) (hlt:bd<W.heap.size) (hR:Reads f a n c off (.agg (zB).toArray) off' W):
    Calls Tryz.prog 117 #[.pointer (some ⟨bd,0,none⟩),.func (.func f) #[] #[]] W fun e W'=>e=.returned (.agg (zB).toArray)∧DF bd (.slice a n c) off' W'∧W.grownBy W' (some bd):=by
  have hb:W.heap[bd]? = some (.cells #[.slice a n c,.int .i64 off,.int .i64 0] 87 (0,0)):=hb
  have ra:tAg Tryz.prog 71=some true:=by kernel_rfl
  have rz:tSz Tryz.prog 71=some 20:=by kernel_rfl
  have HR:Hid (_∧_):=⟨ra,rz⟩
  clear ra rz
  obtain ⟨V,hV⟩:∃ V,V=(W.alloc (.cells (zB).toArray 71)).alloc (.cells (zB).toArray 71):=⟨_,rfl⟩
  have bV:Below W.heap.size W V:=by rw [hV];exact ((Below.refl _ _).alloc (Nat.le_refl _) _).alloc (by simp) _
  have kV:V.heap[W.heap.size]? = some (.cells (zB).toArray 71 (0,0)):=by rw [hV,heap_past _ _ _ (by simp)];exact heap_at _ _ _ rfl
  have sV:V.heap.size=W.heap.size+2:=by rw [hV];simp
  have hbV:V.heap[bd]? = some (.cells #[.slice a n c,.int .i64 off,.int .i64 0] 87 (0,0)):=(bV.block _ hlt).trans hb
  have lV:bd<V.heap.size:=by omega
  have c2:V.cell? ⟨bd,2,none⟩=some (.int .i64 0):=box_cell hbV 2 rfl
  have HB:Hid (_∧_∧_∧_∧_∧_∧_):=⟨fun w' (hw:Below V.heap.size V w')=>box_cell ((hw.block _ lV).trans hbV) 0 rfl,fun w' (hw:Below V.heap.size V w')=>box_cell ((hw.block _ lV).trans hbV) 1 rfl,
    fun w' (hw:Below V.heap.size V w')=>hR w' (bV.trans (hw.mono (by omega))),bV,kV,sV,hbV⟩
  have HV:Hid (V=(W.alloc (.cells (zB).toArray 71)).alloc (.cells (zB).toArray 71)):=hV
  clear hb hbV hR bV kV hV
  go_enter Tryz.func117,Tryz.ntmps117
  go_upto_region 2 with fail
  have eV:((W.alloc (.cells (zB).toArray 71)).alloc (.cells (zB).toArray 71))=V:=HV.out.symm
  first | rw [eV] | (simp only [zB,zB,zJ] at eV ⊢;rw [eV]) | (show Code.wp _ _ _ _ ((W.alloc (.cells (zB).toArray 71)).alloc (.cells (zB).toArray 71));rw [eV])
  clear eV
  go_wp2
  refine wp_region_table mixed47 18 14 15 11 6 dsF117 (valF117 f bd a n c off off') 71 71 _ zB rfl ?_ ?_ ?_ ?_ (by simp) ⟨_,rfl,rfl,rfl,rfl⟩ Tryz.zeroValue71 rfl ⟨_,rfl,rfl,rfl,rfl,?_⟩ ⟨by decide,by decide,by decide⟩ (by decide) rfl (by kernel_rfl) zB_one ?_
  · intro i o ho
    match i with
    | 0=>cases ho;simp [Region.binds]
    | 1=>cases ho;simp [Region.binds]
    | 2=>cases ho;simp [Region.binds]
    | 3=>cases ho;simp [Region.binds]
    | 4=>cases ho;simp [Region.binds]
    | 5=>cases ho;simp [Region.binds]
    | 6=>cases ho;simp [Region.binds]
    | 7=>cases ho;simp [Region.binds]
    | 8=>cases ho;simp [Region.binds]
    | 9=>cases ho;simp [Region.binds]
    | 10=>cases ho;simp [Region.binds]
    | 11=>cases ho;simp [Region.binds]
    | 12=>cases ho;simp [Region.binds]
    | 13=>cases ho;simp [Region.binds]
    | 14=>cases ho;simp [Region.binds]
    | 15=>cases ho;simp [Region.binds]
    | 16=>cases ho;simp [Region.binds]
    | 17=>cases ho;simp [Region.binds]
    | j+18=>simp at ho
  · intro i o hpu ho
    obtain ⟨h1,h2,h3⟩:=hpu
    match i,h1,h2,h3 with
    | 0,_,_,_=>
      cases ho
      refine ⟨rfl,rfl,by simp [dsF117],fun ac hd hr w' hw=>?_⟩
      have r1:=((hr 1 (fun i hp=>(by decide:∀ i,i<18→i≠14→i≠15→dsF117 i≠1) i hp.1 hp.2.1 hp.2.2) (by decide)).trans rfl)
      have x1:=ev r1
      simp [Oper.quietAt,Oper.quietUpon,execOp,r1,go_sem,valF117]
    | 1,_,_,_=>
      cases ho
      refine ⟨rfl,rfl,by simp [dsF117],fun ac hd hr w' hw=>?_⟩
      have r0:=((hr 0 (fun i hp=>(by decide:∀ i,i<18→i≠14→i≠15→dsF117 i≠0) i hp.1 hp.2.1 hp.2.2) (by decide)).trans rfl)
      have x0:=ev r0
      simp [Oper.quietAt,Oper.quietUpon,execOp,r0,go_sem,valF117]
    | 2,_,_,_=>
      cases ho
      refine ⟨rfl,rfl,by simp [dsF117],fun ac hd hr w' hw=>?_⟩
      have r17:ac.tmps[17]? = some (.pointer (some ⟨bd,0,none⟩)):=hd ⟨1,.data⟩ (by simp) rfl (by decide) (by decide)
      have x17:=ev r17
      simp [Oper.quietAt,Oper.quietUpon,execOp,r17,go_sem,valF117]
    | 3,_,_,_=>
      cases ho
      refine ⟨rfl,rfl,by simp [dsF117],fun ac hd hr w' hw=>?_⟩
      have r18:ac.tmps[18]? = some (.pointer (some ⟨bd,0,none⟩)):=hd ⟨2,.data⟩ (by simp) rfl (by decide) (by decide)
      have x18:=ev r18
      simp [Oper.quietAt,Oper.quietUpon,execOp,r18,go_sem,valF117]
    | 4,_,_,_=>
      cases ho
      refine ⟨rfl,rfl,by simp [dsF117],fun ac hd hr w' hw=>?_⟩
      have r19:ac.tmps[19]? = some (.pointer (some ⟨bd,0,none⟩)):=hd ⟨3,.data⟩ (by simp) rfl (by decide) (by decide)
      have x19:=ev r19
      exact quiet_l1 rfl x19 (by kernel_rfl) (HB.out.1 w' hw)
    | 5,_,_,_=>
      cases ho
      refine ⟨rfl,rfl,by simp [dsF117],fun ac hd hr w' hw=>?_⟩
      have r0:=((hr 0 (fun i hp=>(by decide:∀ i,i<18→i≠14→i≠15→dsF117 i≠0) i hp.1 hp.2.1 hp.2.2) (by decide)).trans rfl)
      have x0:=ev r0
      simp [Oper.quietAt,Oper.quietUpon,execOp,r0,go_sem,valF117]
    | 6,_,_,_=>
      cases ho
      refine ⟨rfl,rfl,by simp [dsF117],fun ac hd hr w' hw=>?_⟩
      have r21:ac.tmps[21]? = some (.pointer (some ⟨bd,0,none⟩)):=hd ⟨5,.data⟩ (by simp) rfl (by decide) (by decide)
      have x21:=ev r21
      simp [Oper.quietAt,Oper.quietUpon,execOp,r21,go_sem,valF117]
    | 7,_,_,_=>
      cases ho
      refine ⟨rfl,rfl,by simp [dsF117],fun ac hd hr w' hw=>?_⟩
      have r22:ac.tmps[22]? = some (.pointer (some ⟨bd,0,none⟩)):=hd ⟨6,.data⟩ (by simp) rfl (by decide) (by decide)
      have x22:=ev r22
      simp [Oper.quietAt,Oper.quietUpon,execOp,r22,go_sem,valF117]
    | 8,_,_,_=>
      cases ho
      refine ⟨rfl,rfl,by simp [dsF117],fun ac hd hr w' hw=>?_⟩
      have r23:ac.tmps[23]? = some (.pointer (some ⟨bd,1,none⟩)):=hd ⟨7,.data⟩ (by simp) rfl (by decide) (by decide)
      have x23:=ev r23
      exact quiet_l1 rfl x23 (by kernel_rfl) (HB.out.2.1 w' hw)
    | 9,_,_,_=>
      cases ho
      refine ⟨rfl,rfl,by simp [dsF117],fun ac hd hr w' hw=>?_⟩
      have r16:ac.tmps[16]? = some (.func (.func f) #[] #[]):=hd ⟨0,.data⟩ (by simp) rfl (by decide) (by decide)
      have x16:=ev r16
      have r20:ac.tmps[20]? = some (.slice a n c):=hd ⟨4,.data⟩ (by simp) rfl (by decide) (by decide)
      have x20:=ev r20
      have r24:ac.tmps[24]? = some (.int .i64 off):=hd ⟨8,.data⟩ (by simp) rfl (by decide) (by decide)
      have x24:=ev r24
      exact quiet_ct (f:=f) (t:=16) (vs:=#[.slice a n c,.int .i64 off]) rfl r16 hf (by simp [x20,x24]) (HB.out.2.2.1 w' hw)
    | 10,_,_,_=>
      cases ho
      refine ⟨rfl,rfl,by simp [dsF117],fun ac hd hr w' hw=>?_⟩
      have r25:ac.tmps[25]? = some (.tuple #[.agg (zB).toArray,.int .i64 off',.int .i64 0]):=hd ⟨9,.data⟩ (by simp) rfl (by decide) (by decide)
      have x25:=ev r25
      simp [Oper.quietAt,Oper.quietUpon,execOp,r25,go_sem,valF117]
    | 11,_,_,_=>
      cases ho
      refine ⟨rfl,rfl,by simp [dsF117],fun ac hd hr w' hw=>?_⟩
      have r15:ac.tmps[15]? = some (.tuple #[.agg (zB).toArray,.int .i64 off',.int .i64 0]):=hd ⟨10,.data⟩ (by simp) rfl (by decide) (by decide)
      have x15:=ev r15
      simp [Oper.quietAt,Oper.quietUpon,execOp,r15,go_sem,valF117]
    | 12,_,_,_=>
      cases ho
      refine ⟨rfl,rfl,by simp [dsF117],fun ac hd hr w' hw=>?_⟩
      have r15:ac.tmps[15]? = some (.tuple #[.agg (zB).toArray,.int .i64 off',.int .i64 0]):=hd ⟨10,.data⟩ (by simp) rfl (by decide) (by decide)
      have x15:=ev r15
      simp [Oper.quietAt,Oper.quietUpon,execOp,r15,go_sem,valF117]
    | 13,_,_,_=>
      cases ho
      refine ⟨rfl,rfl,by simp [dsF117],fun ac hd hr w' hw=>?_⟩
      have r15:ac.tmps[15]? = some (.tuple #[.agg (zB).toArray,.int .i64 off',.int .i64 0]):=hd ⟨10,.data⟩ (by simp) rfl (by decide) (by decide)
      have x15:=ev r15
      simp [Oper.quietAt,Oper.quietUpon,execOp,r15,go_sem,valF117]
    | 14,_,h2,_=>exact absurd rfl h2
    | 15,_,_,h3=>exact absurd rfl h3
    | 16,_,_,_=>
      cases ho
      refine ⟨rfl,rfl,by simp [dsF117],fun ac hd hr w' hw=>?_⟩
      have r27:ac.tmps[27]? = some (.int .i64 off'):=hd ⟨12,.data⟩ (by simp) rfl (by decide) (by decide)
      have x27:=ev r27
      simp [Oper.quietAt,Oper.quietUpon,execOp,r27,go_sem,valF117]
    | 17,_,_,_=>
      cases ho
      refine ⟨rfl,rfl,by simp [dsF117],fun ac hd hr w' hw=>?_⟩
      have r28:ac.tmps[28]? = some (.int .i64 0):=hd ⟨13,.data⟩ (by simp) rfl (by decide) (by decide)
      have x28:=ev r28
      simp [Oper.quietAt,Oper.quietUpon,execOp,r28,go_sem,valF117]
    | j+18,h1,_,_=>exact absurd h1 (by omega)
  · exact inj_of (by kernel_rfl)
  · intro i hi
    exact (by decide:∀ i,i<18→i≠14→i≠15→dsF117 i≠6) i hi.1 hi.2.1 hi.2.2
  · intro f hf
    simp [Region.binds] at hf
    simp [hf]
  intro ac W1 b hW1 hb1 hb2 hbox hdf hsz hvals hda hrest
  obtain ⟨tm,dfr⟩:=ac
  have e1:dfr=[]:=hdf
  subst e1
  have e2:=tmps_eq' [(16,(.func (.func f) #[] #[])),(17,(.pointer (some ⟨bd,0,none⟩))),(18,(.pointer (some ⟨bd,0,none⟩))),(19,(.pointer (some ⟨bd,0,none⟩))),(20,(.slice a n c)),(21,(.pointer (some ⟨bd,0,none⟩))),(22,(.pointer (some ⟨bd,0,none⟩))),(23,(.pointer (some ⟨bd,1,none⟩))),(24,(.int .i64 off)),(25,(.tuple #[.agg (zB).toArray,.int .i64 off',.int .i64 0])),(15,(.tuple #[.agg (zB).toArray,.int .i64 off',.int .i64 0])),(26,(.agg (zB).toArray)),(27,(.int .i64 off')),(28,(.int .i64 0)),(7,(.int .i64 off')),(8,(.int .i64 0)),(6,.pointer (some ⟨b,0,none⟩))] _ tm hsz rfl rfl ⟨hvals 0 ⟨by decide,by decide,by decide⟩,hvals 1 ⟨by decide,by decide,by decide⟩,hvals 2 ⟨by decide,by decide,by decide⟩,hvals 3 ⟨by decide,by decide,by decide⟩,hvals 4 ⟨by decide,by decide,by decide⟩,hvals 5 ⟨by decide,by decide,by decide⟩,hvals 6 ⟨by decide,by decide,by decide⟩,hvals 7 ⟨by decide,by decide,by decide⟩,hvals 8 ⟨by decide,by decide,by decide⟩,hvals 9 ⟨by decide,by decide,by decide⟩,hvals 10 ⟨by decide,by decide,by decide⟩,hvals 11 ⟨by decide,by decide,by decide⟩,hvals 12 ⟨by decide,by decide,by decide⟩,hvals 13 ⟨by decide,by decide,by decide⟩,hvals 16 ⟨by decide,by decide,by decide⟩,hvals 17 ⟨by decide,by decide,by decide⟩,hda,trivial⟩ (fun j hj=>hrest j (fun i hi e=>hj (e ▸ (by decide:∀ i,i<18→i≠14→i≠15→dsF117 i∈[16,17,18,19,20,21,22,23,24,25,15,26,27,28,7,8,6]) i hi.1 hi.2.1 hi.2.2)) (fun e=>hj (by subst e;simp)))
  simp only [List.foldl_cons,List.foldl_nil,List.setIfInBounds_toArray,List.set_cons_succ,List.set_cons_zero] at e2
  subst e2
  have D1:W1.heap[bd]? = some (.cells #[.slice a n c,.int .i64 off,.int .i64 0] 87 (0,0)):=(hW1.block _ lV).trans HB.out.2.2.2.2.2.2
  have d1:W1.cell? ⟨bd,1,none⟩=some (.int .i64 off):=box_cell D1 1 rfl
  have z1:=box_free D1 1
  have HG:Hid (DF bd (.slice a n c) off' (W1.setCell ⟨bd,1,none⟩ (.int .i64 off'))∧W1.grownBy (W1.setCell ⟨bd,1,none⟩ (.int .i64 off')) (some bd)):=
    ⟨heap_own D1 1 _ _ rfl,⟨rfl,rfl,rfl,by rw [size_set];exact Nat.le_refl _,fun k _ hk=>heap_set _ _ _ _ (fun e=>hk (by rw [e]))⟩⟩
  have HW:Hid (_∧_∧_∧_):=⟨hW1,hbox,hb1,hb2⟩
  have hlt2:bd<W.heap.size:=hlt
  clear hvals hda hrest hsz hW1 hbox hb1 hb2 D1 c2
  go_wp2_with (first
    | (refine wpList_loadat (cs:=zB) rfl rfl rfl rfl HR.out.1 HR.out.2 ((HG.out.2.block _ HW.out.2.2.2 (fun e=>by have:=Option.some.inj e;have:=HW.out.2.2.1;omega)).trans HW.out.2.1) (fun j v e=>by rw [Nat.zero_add];simpa using e) ?_)
    | (refine wpList_storeat (cs:=zB) (arr:=zB) rfl rfl rfl rfl rfl HR.out.2 ((HG.out.2.block W.heap.size (by have:=HW.out.1.size;omega) (fun e=>by have:=Option.some.inj e;omega)).trans ((HW.out.1.block W.heap.size (by omega)).trans HB.out.2.2.2.2.1)) (by exact Nat.le_refl 20) zB_one ?_;intro w3 h3 g3;have HK:Hid (_∧_):=⟨h3,g3⟩;clear h3 g3))
  have r0:Tryz.f117.results=#[.cell 4 71]:=rfl
  refine bodyPost_ret (results_box (cs:=zB) r0 rfl HR.out.1 HR.out.2 HK.out.1) rfl ?_
  have g1:W.grownBy W1 (some bd):=below_grown'' (HB.out.2.2.2.1.trans (HW.out.1.mono (by omega)))
  have g2:=HG.out.2
  have g3:=HK.out.2
  have s1:=g1.size
  have s2:=g2.size
  refine ⟨rfl,(g3.block bd (by omega) (fun e=>by have:=Option.some.inj e;omega)).trans HG.out.1,?_⟩
  have g12:=grown_trans2 g1 g2
  exact ⟨g3.os.trans g12.os,g3.tape.trans g12.tape,g3.output.trans g12.output,Nat.le_trans g12.size g3.size,fun k hk hn=>(g3.block k (by omega) (fun e=>by have:=Option.some.inj e;omega)).trans (g12.block k hk hn)⟩
def dsF119:Nat→Nat
  | 0=>16
  | 1=>17
  | 2=>18
  | 3=>19
  | 4=>20
  | 5=>21
  | 6=>22
  | 7=>23
  | 8=>24
  | 9=>25
  | 10=>15
  | 11=>26
  | 12=>27
  | 13=>28
  | 16=>7
  | 17=>8
  | _=>0
def valF119 (f:FuncId) (bd:Nat) (a:Option Addr) (n c:Nat) (off off':Int):Nat→Value
  | 0=>(.func (.func f) #[] #[])
  | 1=>(.pointer (some ⟨bd,0,none⟩))
  | 2=>(.pointer (some ⟨bd,0,none⟩))
  | 3=>(.pointer (some ⟨bd,0,none⟩))
  | 4=>(.slice a n c)
  | 5=>(.pointer (some ⟨bd,0,none⟩))
  | 6=>(.pointer (some ⟨bd,0,none⟩))
  | 7=>(.pointer (some ⟨bd,1,none⟩))
  | 8=>(.int .i64 off)
  | 9=>(.tuple #[.agg (zJ).toArray,.int .i64 off',.int .i64 0])
  | 10=>(.tuple #[.agg (zJ).toArray,.int .i64 off',.int .i64 0])
  | 11=>(.agg (zJ).toArray)
  | 12=>(.int .i64 off')
  | 13=>(.int .i64 0)
  | 16=>(.int .i64 off')
  | 17=>(.int .i64 0)
  | _=>undef
set_option maxHeartbeats 4000000 in
theorem fieldJ {f:FuncId} {a:Option Addr} {n c bd:Nat} {off off':Int}  {W:World} (hf:∀ (args:Array Value) (w:World),Sem.run Tryz.prog (callFunc f args) w=.ok (.enter f args) w) (hb:DF bd (.slice a n c) off W) (hlt:bd<W.heap.size) (hR:Reads f a n c off (.agg (zJ).toArray) off' W):
    Calls Tryz.prog 119 #[.pointer (some ⟨bd,0,none⟩),.func (.func f) #[] #[]] W fun e W'=>e=.returned (.agg (zJ).toArray)∧DF bd (.slice a n c) off' W'∧W.grownBy W' (some bd):=by
  have hb:W.heap[bd]? = some (.cells #[.slice a n c,.int .i64 off,.int .i64 0] 87 (0,0)):=hb
  have ra:tAg Tryz.prog 75=some true:=by kernel_rfl
  have rz:tSz Tryz.prog 75=some 24:=by kernel_rfl
  have HR:Hid (_∧_):=⟨ra,rz⟩
  clear ra rz
  obtain ⟨V,hV⟩:∃ V,V=(W.alloc (.cells (zJ).toArray 75)).alloc (.cells (zJ).toArray 75):=⟨_,rfl⟩
  have bV:Below W.heap.size W V:=by rw [hV];exact ((Below.refl _ _).alloc (Nat.le_refl _) _).alloc (by simp) _
  have kV:V.heap[W.heap.size]? = some (.cells (zJ).toArray 75 (0,0)):=by rw [hV,heap_past _ _ _ (by simp)];exact heap_at _ _ _ rfl
  have sV:V.heap.size=W.heap.size+2:=by rw [hV];simp
  have hbV:V.heap[bd]? = some (.cells #[.slice a n c,.int .i64 off,.int .i64 0] 87 (0,0)):=(bV.block _ hlt).trans hb
  have lV:bd<V.heap.size:=by omega
  have c2:V.cell? ⟨bd,2,none⟩=some (.int .i64 0):=box_cell hbV 2 rfl
  have HB:Hid (_∧_∧_∧_∧_∧_∧_):=⟨fun w' (hw:Below V.heap.size V w')=>box_cell ((hw.block _ lV).trans hbV) 0 rfl,fun w' (hw:Below V.heap.size V w')=>box_cell ((hw.block _ lV).trans hbV) 1 rfl,
    fun w' (hw:Below V.heap.size V w')=>hR w' (bV.trans (hw.mono (by omega))),bV,kV,sV,hbV⟩
  have HV:Hid (V=(W.alloc (.cells (zJ).toArray 75)).alloc (.cells (zJ).toArray 75)):=hV
  clear hb hbV hR bV kV hV
  go_enter Tryz.func119,Tryz.ntmps119
  go_upto_region 2 with fail
  have eV:((W.alloc (.cells (zJ).toArray 75)).alloc (.cells (zJ).toArray 75))=V:=HV.out.symm
  first | rw [eV] | (simp only [zJ,zB,zJ] at eV ⊢;rw [eV]) | (show Code.wp _ _ _ _ ((W.alloc (.cells (zJ).toArray 75)).alloc (.cells (zJ).toArray 75));rw [eV])
  clear eV
  go_wp2
  refine wp_region_table mixed47 18 14 15 11 6 dsF119 (valF119 f bd a n c off off') 75 75 _ zJ rfl ?_ ?_ ?_ ?_ (by simp) ⟨_,rfl,rfl,rfl,rfl⟩ Tryz.zeroValue75 rfl ⟨_,rfl,rfl,rfl,rfl,?_⟩ ⟨by decide,by decide,by decide⟩ (by decide) rfl (by kernel_rfl) zJ_one ?_
  · intro i o ho
    match i with
    | 0=>cases ho;simp [Region.binds]
    | 1=>cases ho;simp [Region.binds]
    | 2=>cases ho;simp [Region.binds]
    | 3=>cases ho;simp [Region.binds]
    | 4=>cases ho;simp [Region.binds]
    | 5=>cases ho;simp [Region.binds]
    | 6=>cases ho;simp [Region.binds]
    | 7=>cases ho;simp [Region.binds]
    | 8=>cases ho;simp [Region.binds]
    | 9=>cases ho;simp [Region.binds]
    | 10=>cases ho;simp [Region.binds]
    | 11=>cases ho;simp [Region.binds]
    | 12=>cases ho;simp [Region.binds]
    | 13=>cases ho;simp [Region.binds]
    | 14=>cases ho;simp [Region.binds]
    | 15=>cases ho;simp [Region.binds]
    | 16=>cases ho;simp [Region.binds]
    | 17=>cases ho;simp [Region.binds]
    | j+18=>simp at ho
  · intro i o hpu ho
    obtain ⟨h1,h2,h3⟩:=hpu
    match i,h1,h2,h3 with
    | 0,_,_,_=>
      cases ho
      refine ⟨rfl,rfl,by simp [dsF119],fun ac hd hr w' hw=>?_⟩
      have r1:=((hr 1 (fun i hp=>(by decide:∀ i,i<18→i≠14→i≠15→dsF119 i≠1) i hp.1 hp.2.1 hp.2.2) (by decide)).trans rfl)
      have x1:=ev r1
      simp [Oper.quietAt,Oper.quietUpon,execOp,r1,go_sem,valF119]
    | 1,_,_,_=>
      cases ho
      refine ⟨rfl,rfl,by simp [dsF119],fun ac hd hr w' hw=>?_⟩
      have r0:=((hr 0 (fun i hp=>(by decide:∀ i,i<18→i≠14→i≠15→dsF119 i≠0) i hp.1 hp.2.1 hp.2.2) (by decide)).trans rfl)
      have x0:=ev r0
      simp [Oper.quietAt,Oper.quietUpon,execOp,r0,go_sem,valF119]
    | 2,_,_,_=>
      cases ho
      refine ⟨rfl,rfl,by simp [dsF119],fun ac hd hr w' hw=>?_⟩
      have r17:ac.tmps[17]? = some (.pointer (some ⟨bd,0,none⟩)):=hd ⟨1,.data⟩ (by simp) rfl (by decide) (by decide)
      have x17:=ev r17
      simp [Oper.quietAt,Oper.quietUpon,execOp,r17,go_sem,valF119]
    | 3,_,_,_=>
      cases ho
      refine ⟨rfl,rfl,by simp [dsF119],fun ac hd hr w' hw=>?_⟩
      have r18:ac.tmps[18]? = some (.pointer (some ⟨bd,0,none⟩)):=hd ⟨2,.data⟩ (by simp) rfl (by decide) (by decide)
      have x18:=ev r18
      simp [Oper.quietAt,Oper.quietUpon,execOp,r18,go_sem,valF119]
    | 4,_,_,_=>
      cases ho
      refine ⟨rfl,rfl,by simp [dsF119],fun ac hd hr w' hw=>?_⟩
      have r19:ac.tmps[19]? = some (.pointer (some ⟨bd,0,none⟩)):=hd ⟨3,.data⟩ (by simp) rfl (by decide) (by decide)
      have x19:=ev r19
      exact quiet_l1 rfl x19 (by kernel_rfl) (HB.out.1 w' hw)
    | 5,_,_,_=>
      cases ho
      refine ⟨rfl,rfl,by simp [dsF119],fun ac hd hr w' hw=>?_⟩
      have r0:=((hr 0 (fun i hp=>(by decide:∀ i,i<18→i≠14→i≠15→dsF119 i≠0) i hp.1 hp.2.1 hp.2.2) (by decide)).trans rfl)
      have x0:=ev r0
      simp [Oper.quietAt,Oper.quietUpon,execOp,r0,go_sem,valF119]
    | 6,_,_,_=>
      cases ho
      refine ⟨rfl,rfl,by simp [dsF119],fun ac hd hr w' hw=>?_⟩
      have r21:ac.tmps[21]? = some (.pointer (some ⟨bd,0,none⟩)):=hd ⟨5,.data⟩ (by simp) rfl (by decide) (by decide)
      have x21:=ev r21
      simp [Oper.quietAt,Oper.quietUpon,execOp,r21,go_sem,valF119]
    | 7,_,_,_=>
      cases ho
      refine ⟨rfl,rfl,by simp [dsF119],fun ac hd hr w' hw=>?_⟩
      have r22:ac.tmps[22]? = some (.pointer (some ⟨bd,0,none⟩)):=hd ⟨6,.data⟩ (by simp) rfl (by decide) (by decide)
      have x22:=ev r22
      simp [Oper.quietAt,Oper.quietUpon,execOp,r22,go_sem,valF119]
    | 8,_,_,_=>
      cases ho
      refine ⟨rfl,rfl,by simp [dsF119],fun ac hd hr w' hw=>?_⟩
      have r23:ac.tmps[23]? = some (.pointer (some ⟨bd,1,none⟩)):=hd ⟨7,.data⟩ (by simp) rfl (by decide) (by decide)
      have x23:=ev r23
      exact quiet_l1 rfl x23 (by kernel_rfl) (HB.out.2.1 w' hw)
    | 9,_,_,_=>
      cases ho
      refine ⟨rfl,rfl,by simp [dsF119],fun ac hd hr w' hw=>?_⟩
      have r16:ac.tmps[16]? = some (.func (.func f) #[] #[]):=hd ⟨0,.data⟩ (by simp) rfl (by decide) (by decide)
      have x16:=ev r16
      have r20:ac.tmps[20]? = some (.slice a n c):=hd ⟨4,.data⟩ (by simp) rfl (by decide) (by decide)
      have x20:=ev r20
      have r24:ac.tmps[24]? = some (.int .i64 off):=hd ⟨8,.data⟩ (by simp) rfl (by decide) (by decide)
      have x24:=ev r24
      exact quiet_ct (f:=f) (t:=16) (vs:=#[.slice a n c,.int .i64 off]) rfl r16 hf (by simp [x20,x24]) (HB.out.2.2.1 w' hw)
    | 10,_,_,_=>
      cases ho
      refine ⟨rfl,rfl,by simp [dsF119],fun ac hd hr w' hw=>?_⟩
      have r25:ac.tmps[25]? = some (.tuple #[.agg (zJ).toArray,.int .i64 off',.int .i64 0]):=hd ⟨9,.data⟩ (by simp) rfl (by decide) (by decide)
      have x25:=ev r25
      simp [Oper.quietAt,Oper.quietUpon,execOp,r25,go_sem,valF119]
    | 11,_,_,_=>
      cases ho
      refine ⟨rfl,rfl,by simp [dsF119],fun ac hd hr w' hw=>?_⟩
      have r15:ac.tmps[15]? = some (.tuple #[.agg (zJ).toArray,.int .i64 off',.int .i64 0]):=hd ⟨10,.data⟩ (by simp) rfl (by decide) (by decide)
      have x15:=ev r15
      simp [Oper.quietAt,Oper.quietUpon,execOp,r15,go_sem,valF119]
    | 12,_,_,_=>
      cases ho
      refine ⟨rfl,rfl,by simp [dsF119],fun ac hd hr w' hw=>?_⟩
      have r15:ac.tmps[15]? = some (.tuple #[.agg (zJ).toArray,.int .i64 off',.int .i64 0]):=hd ⟨10,.data⟩ (by simp) rfl (by decide) (by decide)
      have x15:=ev r15
      simp [Oper.quietAt,Oper.quietUpon,execOp,r15,go_sem,valF119]
    | 13,_,_,_=>
      cases ho
      refine ⟨rfl,rfl,by simp [dsF119],fun ac hd hr w' hw=>?_⟩
      have r15:ac.tmps[15]? = some (.tuple #[.agg (zJ).toArray,.int .i64 off',.int .i64 0]):=hd ⟨10,.data⟩ (by simp) rfl (by decide) (by decide)
      have x15:=ev r15
      simp [Oper.quietAt,Oper.quietUpon,execOp,r15,go_sem,valF119]
    | 14,_,h2,_=>exact absurd rfl h2
    | 15,_,_,h3=>exact absurd rfl h3
    | 16,_,_,_=>
      cases ho
      refine ⟨rfl,rfl,by simp [dsF119],fun ac hd hr w' hw=>?_⟩
      have r27:ac.tmps[27]? = some (.int .i64 off'):=hd ⟨12,.data⟩ (by simp) rfl (by decide) (by decide)
      have x27:=ev r27
      simp [Oper.quietAt,Oper.quietUpon,execOp,r27,go_sem,valF119]
    | 17,_,_,_=>
      cases ho
      refine ⟨rfl,rfl,by simp [dsF119],fun ac hd hr w' hw=>?_⟩
      have r28:ac.tmps[28]? = some (.int .i64 0):=hd ⟨13,.data⟩ (by simp) rfl (by decide) (by decide)
      have x28:=ev r28
      simp [Oper.quietAt,Oper.quietUpon,execOp,r28,go_sem,valF119]
    | j+18,h1,_,_=>exact absurd h1 (by omega)
  · exact inj_of (by kernel_rfl)
  · intro i hi
    exact (by decide:∀ i,i<18→i≠14→i≠15→dsF119 i≠6) i hi.1 hi.2.1 hi.2.2
  · intro f hf
    simp [Region.binds] at hf
    simp [hf]
  intro ac W1 b hW1 hb1 hb2 hbox hdf hsz hvals hda hrest
  obtain ⟨tm,dfr⟩:=ac
  have e1:dfr=[]:=hdf
  subst e1
  have e2:=tmps_eq' [(16,(.func (.func f) #[] #[])),(17,(.pointer (some ⟨bd,0,none⟩))),(18,(.pointer (some ⟨bd,0,none⟩))),(19,(.pointer (some ⟨bd,0,none⟩))),(20,(.slice a n c)),(21,(.pointer (some ⟨bd,0,none⟩))),(22,(.pointer (some ⟨bd,0,none⟩))),(23,(.pointer (some ⟨bd,1,none⟩))),(24,(.int .i64 off)),(25,(.tuple #[.agg (zJ).toArray,.int .i64 off',.int .i64 0])),(15,(.tuple #[.agg (zJ).toArray,.int .i64 off',.int .i64 0])),(26,(.agg (zJ).toArray)),(27,(.int .i64 off')),(28,(.int .i64 0)),(7,(.int .i64 off')),(8,(.int .i64 0)),(6,.pointer (some ⟨b,0,none⟩))] _ tm hsz rfl rfl ⟨hvals 0 ⟨by decide,by decide,by decide⟩,hvals 1 ⟨by decide,by decide,by decide⟩,hvals 2 ⟨by decide,by decide,by decide⟩,hvals 3 ⟨by decide,by decide,by decide⟩,hvals 4 ⟨by decide,by decide,by decide⟩,hvals 5 ⟨by decide,by decide,by decide⟩,hvals 6 ⟨by decide,by decide,by decide⟩,hvals 7 ⟨by decide,by decide,by decide⟩,hvals 8 ⟨by decide,by decide,by decide⟩,hvals 9 ⟨by decide,by decide,by decide⟩,hvals 10 ⟨by decide,by decide,by decide⟩,hvals 11 ⟨by decide,by decide,by decide⟩,hvals 12 ⟨by decide,by decide,by decide⟩,hvals 13 ⟨by decide,by decide,by decide⟩,hvals 16 ⟨by decide,by decide,by decide⟩,hvals 17 ⟨by decide,by decide,by decide⟩,hda,trivial⟩ (fun j hj=>hrest j (fun i hi e=>hj (e ▸ (by decide:∀ i,i<18→i≠14→i≠15→dsF119 i∈[16,17,18,19,20,21,22,23,24,25,15,26,27,28,7,8,6]) i hi.1 hi.2.1 hi.2.2)) (fun e=>hj (by subst e;simp)))
  simp only [List.foldl_cons,List.foldl_nil,List.setIfInBounds_toArray,List.set_cons_succ,List.set_cons_zero] at e2
  subst e2
  have D1:W1.heap[bd]? = some (.cells #[.slice a n c,.int .i64 off,.int .i64 0] 87 (0,0)):=(hW1.block _ lV).trans HB.out.2.2.2.2.2.2
  have d1:W1.cell? ⟨bd,1,none⟩=some (.int .i64 off):=box_cell D1 1 rfl
  have z1:=box_free D1 1
  have HG:Hid (DF bd (.slice a n c) off' (W1.setCell ⟨bd,1,none⟩ (.int .i64 off'))∧W1.grownBy (W1.setCell ⟨bd,1,none⟩ (.int .i64 off')) (some bd)):=
    ⟨heap_own D1 1 _ _ rfl,⟨rfl,rfl,rfl,by rw [size_set];exact Nat.le_refl _,fun k _ hk=>heap_set _ _ _ _ (fun e=>hk (by rw [e]))⟩⟩
  have HW:Hid (_∧_∧_∧_):=⟨hW1,hbox,hb1,hb2⟩
  have hlt2:bd<W.heap.size:=hlt
  clear hvals hda hrest hsz hW1 hbox hb1 hb2 D1 c2
  go_wp2_with (first
    | (refine wpList_loadat (cs:=zJ) rfl rfl rfl rfl HR.out.1 HR.out.2 ((HG.out.2.block _ HW.out.2.2.2 (fun e=>by have:=Option.some.inj e;have:=HW.out.2.2.1;omega)).trans HW.out.2.1) (fun j v e=>by rw [Nat.zero_add];simpa using e) ?_)
    | (refine wpList_storeat (cs:=zJ) (arr:=zJ) rfl rfl rfl rfl rfl HR.out.2 ((HG.out.2.block W.heap.size (by have:=HW.out.1.size;omega) (fun e=>by have:=Option.some.inj e;omega)).trans ((HW.out.1.block W.heap.size (by omega)).trans HB.out.2.2.2.2.1)) (by exact Nat.le_refl 24) zJ_one ?_;intro w3 h3 g3;have HK:Hid (_∧_):=⟨h3,g3⟩;clear h3 g3))
  have r0:Tryz.f119.results=#[.cell 4 75]:=rfl
  refine bodyPost_ret (results_box (cs:=zJ) r0 rfl HR.out.1 HR.out.2 HK.out.1) rfl ?_
  have g1:W.grownBy W1 (some bd):=below_grown'' (HB.out.2.2.2.1.trans (HW.out.1.mono (by omega)))
  have g2:=HG.out.2
  have g3:=HK.out.2
  have s1:=g1.size
  have s2:=g2.size
  refine ⟨rfl,(g3.block bd (by omega) (fun e=>by have:=Option.some.inj e;omega)).trans HG.out.1,?_⟩
  have g12:=grown_trans2 g1 g2
  exact ⟨g3.os.trans g12.os,g3.tape.trans g12.tape,g3.output.trans g12.output,Nat.le_trans g12.size g3.size,fun k hk hn=>(g3.block k (by omega) (fun e=>by have:=Option.some.inj e;omega)).trans (g12.block k hk hn)⟩
end GoForm
end

section
/- The decoder of package recording at the example's bytes: lengths and inputs. No conditions. -/
set_option linter.all false
set_option maxRecDepth 100000
open Go Go.Rx Go.Proofs Go.RowKit
namespace GoForm
structure BR (m:Mem) (buf:List UInt8) (a:Option Addr) (n c bd:Nat) (W0:World) (b2 bx:Nat) (T:TypeId) (K X:List Value) (off:Int) (W:World):Prop where
  F:BF m buf a n c bd W
  D:DF bd (.slice a n c) off W
  X:W.heap[bx]? = some (.cells X.toArray T (0,0))
  K:W.heap[b2]? = some (.cells K.toArray T (0,0))
  G:W0.grownBy W (some bd)
  ne:bx≠bd∧b2≠bd∧b2≠bx
  new:W0.heap.size≤bx∧W0.heap.size≤b2
  lt:bx<W.heap.size∧b2<W.heap.size
  no:∀ o,m bx o=none
theorem BR.start {m buf a n c bd W off} (F:BF m buf a n c bd W) (D:DF bd (.slice a n c) off W) (T:TypeId) (K X:List Value):
    BR m buf a n c bd W W.heap.size (W.heap.size+1) T K X off ((W.alloc (.cells K.toArray T)).alloc (.cells X.toArray T)):=by
  have hb:Below W.heap.size W ((W.alloc (.cells K.toArray T)).alloc (.cells X.toArray T)):=((Below.refl _ _).alloc (Nat.le_refl _) _).alloc (by simp) _
  have hl:=F.lt
  exact ⟨F.below hb,(hb.block _ F.lt).trans D,heap_at _ _ _ (by simp),(heap_past _ _ _ (by simp)).trans (heap_at _ _ _ rfl),below_grown' hb,⟨by omega,by omega,by omega⟩,⟨by omega,Nat.le_refl _⟩,⟨by simp,by simp;omega⟩,imm_none F.imm (by omega)⟩
theorem BR.call {m buf a n c bd W0 b2 bx T K X off W} (h:BR m buf a n c bd W0 b2 bx T K X off W) {off':Int} {W':World} (hD:DF bd (.slice a n c) off' W') (hg:W.grownBy W' (some bd)):BR m buf a n c bd W0 b2 bx T K X off' W':=
  ⟨h.F.grown hg,hD,(hg.block _ h.lt.1 (fun e=>h.ne.1 (Option.some.inj e))).trans h.X,(hg.block _ h.lt.2 (fun e=>h.ne.2.1 (Option.some.inj e))).trans h.K,grown_trans2 h.G hg,h.ne,h.new,⟨Nat.lt_of_lt_of_le h.lt.1 hg.size,Nat.lt_of_lt_of_le h.lt.2 hg.size⟩,h.no⟩
theorem BR.store {m buf a n c bd W0 b2 bx T K X off W} (h:BR m buf a n c bd W0 b2 bx T K X off W) {X':List Value} {W':World} (hX:W'.heap[bx]? = some (.cells X'.toArray T (0,0))) (hg:W.grownBy W' (some bx)):BR m buf a n c bd W0 b2 bx T K X' off W':=
  ⟨⟨imm_grown h.F.imm hg h.no,h.F.rep,h.F.off,Nat.lt_of_lt_of_le h.F.lt hg.size⟩,(hg.block _ h.F.lt (fun e=>h.ne.1 (Option.some.inj e).symm)).trans h.D,hX,(hg.block _ h.lt.2 (fun e=>h.ne.2.2 (Option.some.inj e))).trans h.K,
    ⟨hg.os.trans h.G.os,hg.tape.trans h.G.tape,hg.output.trans h.G.output,Nat.le_trans h.G.size hg.size,fun k hk hn=>(hg.block k (Nat.lt_of_lt_of_le hk h.G.size) (fun e=>by have:=Option.some.inj e;have:=h.new.1;omega)).trans (h.G.block k hk hn)⟩,h.ne,h.new,⟨Nat.lt_of_lt_of_le h.lt.1 hg.size,Nat.lt_of_lt_of_le h.lt.2 hg.size⟩,h.no⟩
theorem BR.fin {m buf a n c bd W0 b2 bx T K X off W} (h:BR m buf a n c bd W0 b2 bx T K X off W) {W':World} (hg:W.grownBy W' (some b2)):DF bd (.slice a n c) off W'∧W0.grownBy W' (some bd):=
  ⟨(hg.block _ h.F.lt (fun e=>h.ne.2.1 (Option.some.inj e).symm)).trans h.D,
    ⟨hg.os.trans h.G.os,hg.tape.trans h.G.tape,hg.output.trans h.G.output,Nat.le_trans h.G.size hg.size,fun k hk hn=>(hg.block k (Nat.lt_of_lt_of_le hk h.G.size) (fun e=>by have:=Option.some.inj e;have:=h.new.2;omega)).trans (h.G.block k hk hn)⟩⟩
theorem reads_int {m:Mem} {buf:List UInt8} {a:Option Addr} {n c:Nat} {off x off':Int} {W:World} (hi:Imm m W) (hr:Rep m noNames (e_sl_byte buf) (.slice a n c)) (h:codec_ReadInt buf off=some (x,off',0)):Reads 114 a n c off (.int .i64 x) off' W:=by
  have hc:FnR Tryz.prog 114 [e_sl_byte buf,.v (.int .i64 off)] (.tup [.v (.int .i64 x),.v (.int .i64 off'),.v (.int .i64 0)]) []:=c_114.ok (buf,off,()) [e_sl_byte buf,.v (.int .i64 off)] ((x,off',(0:Int)):Int × Int × Int) ⟨rfl,rfl,trivial⟩ h
  intro w' hw
  refine (call_r hc w' [.slice a n c,.int .i64 off] (.cons (hr.mono (le_all (hi.below hw))) (.cons .v .nil))).mono ?_
  rintro e w'' ⟨v,rfl,hb2,hrep⟩
  obtain ⟨vs,rfl,hvs⟩:=rep_tup hrep
  have:vs=[.int .i64 x,.int .i64 off',.int .i64 0]:=repsV_eq (l:=[.int .i64 x,.int .i64 off',.int .i64 0]) hvs
  subst this
  exact ⟨rfl,hb2⟩
theorem reads_vec {m:Mem} {buf:List UInt8} {a:Option Addr} {n c:Nat} {off off':Int} {x:Vec} {W:World} (hi:Imm m W) (hr:Rep m noNames (e_sl_byte buf) (.slice a n c)) (h:codec_ReadVec buf off=some (x,off',0)):Reads 116 a n c off (.agg [Value.int .i64 x.X,Value.int .i64 x.Y].toArray) off' W:=by
  have hc:FnR Tryz.prog 116 [e_sl_byte buf,.v (.int .i64 off)] (.tup [.agg [.v (.int .i64 x.X),.v (.int .i64 x.Y)],.v (.int .i64 off'),.v (.int .i64 0)]) []:=c_116.ok (buf,off,()) [e_sl_byte buf,.v (.int .i64 off)] ((x,off',(0:Int)):Vec × Int × Int) ⟨rfl,rfl,trivial⟩ h
  intro w' hw
  refine (call_r hc w' [.slice a n c,.int .i64 off] (.cons (hr.mono (le_all (hi.below hw))) (.cons .v .nil))).mono ?_
  rintro e w'' ⟨v,rfl,hb2,hrep⟩
  obtain ⟨vs,rfl,hvs⟩:=rep_tup hrep
  obtain ⟨v1,vs,rfl,h1,hvs⟩:=hvs.inv
  have:vs=[.int .i64 off',.int .i64 0]:=repsV_eq (l:=[.int .i64 off',.int .i64 0]) hvs
  subst this
  obtain ⟨cs,rfl,hcs,-⟩:=rep_agg h1
  have:cs=[.int .i64 x.X,.int .i64 x.Y]:=repsV_eq (l:=[.int .i64 x.X,.int .i64 x.Y]) hcs
  subst this
  exact ⟨rfl,hb2⟩
theorem reads_B {m:Mem} {buf:List UInt8} {a:Option Addr} {n c o:Nat} {W:World} (hi:Imm m W) (hr:Rep m noNames (e_sl_byte buf) (.slice a n c)) (Z:ZR buf o (o+20)):Reads 118 a n c (o:Int) (.agg zB.toArray) ((o+20:Nat):Int) W:=
  fun w' hw=>readB (hi.below hw) hr Z
theorem reads_J {m:Mem} {buf:List UInt8} {a:Option Addr} {n c o:Nat} {W:World} (hi:Imm m W) (hr:Rep m noNames (e_sl_byte buf) (.slice a n c)) (Z:ZR buf o (o+24)):Reads 120 a n c (o:Int) (.agg zJ.toArray) ((o+24:Nat):Int) W:=
  fun w' hw=>readJ (hi.below hw) hr Z
set_option maxHeartbeats 2000000 in
theorem rlen {m:Mem} {buf:List UInt8} {a:Option Addr} {n c:Nat} {bd:Nat} {off off' x:Int} {W:World} (F:BF m buf a n c bd W) (hb:DF bd (.slice a n c) off W) (h:codec_ReadInt buf off=some (x,off',0)) (h0:0≤x) (h1:x≤8192):
    Calls Tryz.prog 71 #[.pointer (some ⟨bd,0,none⟩)] W fun e W'=>e=.returned (.int .i64 x)∧DF bd (.slice a n c) off' W'∧W.grownBy W' (some bd):=by
  have e113:=Tryz.call113
  have k:=fieldI (f:=114) Tryz.call114 hb F.lt (reads_int F.imm F.rep h)
  clear hb h
  go_enter Tryz.func71,Tryz.ntmps71
  go_upto_region 2 with (first | (go_at_call 113;refine k.mono ?_;rintro e w2 ⟨rfl,hD,hg⟩;have HG:Hid (_∧_):=⟨hD,hg⟩;have hD2:w2.heap[bd]? = some (.cells #[.slice a n c,.int .i64 off',.int .i64 0] 87 (0,0)):=hD;have d2:w2.cell? ⟨bd,2,none⟩=some (.int .i64 0):=box_cell hD2 2 rfl;clear hD hg hD2 k))
  have t1:¬ x<0:=by omega
  have t2:¬ x>8192:=by omega
  go_wp2
  go_ret
  exact ⟨rfl,HG.out⟩
def inZ:List Value:=[.int .i64 0,.int .i64 0,.int .i64 0,.int .i64 0,.int .i64 0]++(zB++zJ)
def inX (k id vx vy val:Int):List Value:=[.int .i64 k,.int .i64 id,.int .i64 vx,.int .i64 vy,.int .i64 val]++(zB++zJ)
theorem inX_one (k id vx vy val:Int):∀ c∈inX k id vx vy val,oneCell c=true:=by
  intro c hc
  rcases List.mem_append.1 hc with h | h
  · simp at h;rcases h with rfl | rfl | rfl | rfl | rfl <;> rfl
  · rcases List.mem_append.1 h with h | h
    · exact zB_one c h
    · exact zJ_one c h
set_option maxHeartbeats 8000000 in
theorem rinput {m:Mem} {buf:List UInt8} {a:Option Addr} {n c:Nat} {bd:Nat} {o0 o1 o2 o3 k id val:Int} {v:Vec} {o4:Nat} {W:World} (F:BF m buf a n c bd W) (hb:DF bd (.slice a n c) o0 W)
    (h1:codec_ReadInt buf o0=some (k,o1,0)) (h2:codec_ReadInt buf o1=some (id,o2,0)) (h3:codec_ReadVec buf o2=some (v,o3,0)) (h4:codec_ReadInt buf o3=some (val,(o4:Int),0)) (hZ1:ZR buf o4 (o4+20)) (hZ2:ZR buf (o4+20) (o4+20+24)):
    Calls Tryz.prog 72 #[.pointer (some ⟨bd,0,none⟩)] W fun e W'=>e=.returned (.agg (inX k id v.X v.Y val).toArray)∧DF bd (.slice a n c) ((o4+20+24:Nat):Int) W'∧W.grownBy W' (some bd):=by
  have e113:=Tryz.call113
  have e115:=Tryz.call115
  have e117:=Tryz.call117
  have e119:=Tryz.call119
  have ra:tAg Tryz.prog 77=some true:=by kernel_rfl
  have rz:tSz Tryz.prog 77=some 49:=by kernel_rfl
  have rB:tSz Tryz.prog 71=some 20:=by kernel_rfl
  have rJ:tSz Tryz.prog 75=some 24:=by kernel_rfl
  have HR:Hid (_∧_∧_∧_):=⟨ra,rz,rB,rJ⟩
  have HZ:Hid (_∧_∧_∧_∧_∧_):=⟨h1,h2,h3,h4,hZ1,hZ2⟩
  have S0:Hid (BR m buf a n c bd W W.heap.size (W.heap.size+1) 77 inZ inZ o0 ((W.alloc (.cells inZ.toArray 77)).alloc (.cells inZ.toArray 77))):=BR.start F hb 77 inZ inZ
  clear ra rz rB rJ h1 h2 h3 h4 hZ1 hZ2 F hb
  go_enter Tryz.func72,Tryz.ntmps72
  go_upto_region 3 with (first
    | (go_at_call 113;refine (fieldI (f:=114) Tryz.call114 S0.out.D S0.out.F.lt (reads_int S0.out.F.imm S0.out.F.rep HZ.out.1)).mono ?_;rintro e w1 ⟨rfl,hD,hg⟩;have R0:Hid (BR m buf a n c bd W W.heap.size (W.heap.size+1) 77 inZ inZ o1 w1):=S0.out.call hD hg;clear hD hg S0)
    | (refine wpList_store1 (arr:=inZ) rfl rfl rfl rfl rfl rfl (by kernel_rfl) R0.out.X (by exact Nat.lt_of_sub_eq_succ rfl) rfl ?_;intro w1a hX hg;have S1:Hid (BR m buf a n c bd W W.heap.size (W.heap.size+1) 77 inZ (inX k 0 0 0 0) o1 w1a):=R0.out.store (X':=(inX k 0 0 0 0)) hX hg;clear hX hg R0))
  go_upto_region 4 with (first
    | (go_at_call 113;refine (fieldI (f:=114) Tryz.call114 S1.out.D S1.out.F.lt (reads_int S1.out.F.imm S1.out.F.rep HZ.out.2.1)).mono ?_;rintro e w2 ⟨rfl,hD,hg⟩;have R1:Hid (BR m buf a n c bd W W.heap.size (W.heap.size+1) 77 inZ (inX k 0 0 0 0) o2 w2):=S1.out.call hD hg;clear hD hg S1)
    | (refine wpList_store1 (arr:=(inX k 0 0 0 0)) rfl rfl rfl rfl rfl rfl (by kernel_rfl) R1.out.X (by exact Nat.lt_of_sub_eq_succ rfl) rfl ?_;intro w2a hX hg;have S2:Hid (BR m buf a n c bd W W.heap.size (W.heap.size+1) 77 inZ (inX k id 0 0 0) o2 w2a):=R1.out.store (X':=(inX k id 0 0 0)) hX hg;clear hX hg R1))
  go_upto_region 5 with (first
    | (go_at_call 115;refine (fieldV (f:=116) Tryz.call116 S2.out.D S2.out.F.lt (reads_vec S2.out.F.imm S2.out.F.rep HZ.out.2.2.1)).mono ?_;rintro e w3 ⟨rfl,hD,hg⟩;have R2:Hid (BR m buf a n c bd W W.heap.size (W.heap.size+1) 77 inZ (inX k id 0 0 0) o3 w3):=S2.out.call hD hg;clear hD hg S2)
    | (refine wpList_storeat (cs:=[Value.int .i64 v.X,Value.int .i64 v.Y]) (arr:=(inX k id 0 0 0)) rfl rfl rfl rfl rfl (by kernel_rfl) R2.out.X (by first | exact Nat.le_refl 49 | exact Nat.le_add_right _ _ | decide | (simp [inX,zB,zJ])) (by intro c hc;simp at hc;rcases hc with rfl | rfl <;> rfl) ?_;intro w3a hX hg;have S3:Hid (BR m buf a n c bd W W.heap.size (W.heap.size+1) 77 inZ (inX k id v.X v.Y 0) o3 w3a):=R2.out.store (X':=(inX k id v.X v.Y 0)) hX hg;clear hX hg R2))
  go_upto_region 6 with (first
    | (go_at_call 113;refine (fieldI (f:=114) Tryz.call114 S3.out.D S3.out.F.lt (reads_int S3.out.F.imm S3.out.F.rep HZ.out.2.2.2.1)).mono ?_;rintro e w4 ⟨rfl,hD,hg⟩;have R3:Hid (BR m buf a n c bd W W.heap.size (W.heap.size+1) 77 inZ (inX k id v.X v.Y 0) (o4:Int) w4):=S3.out.call hD hg;clear hD hg S3)
    | (refine wpList_store1 (arr:=(inX k id v.X v.Y 0)) rfl rfl rfl rfl rfl rfl (by kernel_rfl) R3.out.X (by exact Nat.lt_of_sub_eq_succ rfl) rfl ?_;intro w4a hX hg;have S4:Hid (BR m buf a n c bd W W.heap.size (W.heap.size+1) 77 inZ (inX k id v.X v.Y val) (o4:Int) w4a):=R3.out.store (X':=(inX k id v.X v.Y val)) hX hg;clear hX hg R3))
  go_upto_region 7 with (first
    | (go_at_call 117;refine (fieldB (f:=118) Tryz.call118 S4.out.D S4.out.F.lt (reads_B S4.out.F.imm S4.out.F.rep HZ.out.2.2.2.2.1)).mono ?_;rintro e w5 ⟨rfl,hD,hg⟩;have R4:Hid (BR m buf a n c bd W W.heap.size (W.heap.size+1) 77 inZ (inX k id v.X v.Y val) ((o4+20:Nat):Int) w5):=S4.out.call hD hg;clear hD hg S4)
    | (refine wpList_storeat (cs:=zB) (arr:=(inX k id v.X v.Y val)) rfl rfl rfl rfl rfl HR.out.2.2.1 R4.out.X (by first | exact Nat.le_refl 49 | exact Nat.le_add_right _ _ | decide | (simp [inX,zB,zJ])) zB_one ?_;intro w5a hX hg;have S5:Hid (BR m buf a n c bd W W.heap.size (W.heap.size+1) 77 inZ (inX k id v.X v.Y val) ((o4+20:Nat):Int) w5a):=R4.out.store (X':=(inX k id v.X v.Y val)) hX hg;clear hX hg R4))
  go_upto_region 8 with (first
    | (go_at_call 119;refine (fieldJ (f:=120) Tryz.call120 S5.out.D S5.out.F.lt (reads_J S5.out.F.imm S5.out.F.rep HZ.out.2.2.2.2.2)).mono ?_;rintro e w6 ⟨rfl,hD,hg⟩;have R5:Hid (BR m buf a n c bd W W.heap.size (W.heap.size+1) 77 inZ (inX k id v.X v.Y val) ((o4+20+24:Nat):Int) w6):=S5.out.call hD hg;clear hD hg S5)
    | (refine wpList_storeat (cs:=zJ) (arr:=(inX k id v.X v.Y val)) rfl rfl rfl rfl rfl HR.out.2.2.2 R5.out.X (by first | exact Nat.le_refl 49 | exact Nat.le_add_right _ _ | decide | (simp [inX,zB,zJ])) zJ_one ?_;intro w6a hX hg;have S6:Hid (BR m buf a n c bd W W.heap.size (W.heap.size+1) 77 inZ (inX k id v.X v.Y val) ((o4+20+24:Nat):Int) w6a):=R5.out.store (X':=(inX k id v.X v.Y val)) hX hg;clear hX hg R5))
  go_wp2_with (first
    | (refine wpList_loadat (cs:=inX k id v.X v.Y val) rfl rfl rfl rfl HR.out.1 HR.out.2.1 S6.out.X (fun j v e=>by rw [Nat.zero_add];simpa using e) ?_)
    | (refine wpList_storeat (cs:=inX k id v.X v.Y val) (arr:=inZ) rfl rfl rfl rfl rfl HR.out.2.1 S6.out.K (by exact Nat.le_refl 49) (inX_one k id v.X v.Y val) ?_;intro w9 hX hg;have HK:Hid (_∧_):=⟨hX,S6.out.fin hg⟩;clear hX hg))
  have r0:Tryz.f72.results=#[.cell 2 77]:=rfl
  refine bodyPost_ret (results_box (cs:=inX k id v.X v.Y val) r0 rfl HR.out.1 HR.out.2.1 HK.out.1) rfl ?_
  exact ⟨rfl,HK.out.2⟩
end GoForm
end

section
/- Results in memory that the call has made. No conditions. -/
set_option linter.all false
set_option maxRecDepth 100000
open Go Go.Rx Go.Proofs Go.RowKit
namespace GoForm
def ownN (B:Nat) (w:World):Mem:=fun b o=>if B≤b then w.cell? ⟨b,o,none⟩ else none
theorem ownN_all {B:Nat} {w:World}:Mem.le (ownN B w) (allM w):=fun b o v e=>by
  unfold ownN at e
  by_cases hb:B≤b
  · rw [if_pos hb] at e;exact e
  · rw [if_neg hb] at e;cases e
theorem FnR.ofFresh [GlC] {P:Program} {f:FuncId} {args:List AV} {r:AV}
    (H:∀ (w:World) (m:Mem) (vs:List Value),Imm m w→Reps m noNames args vs→Calls P f vs.toArray w fun e w'=>∃ v,e=.returned v∧Below w.heap.size w w'∧Rep (ownN w.heap.size w') noNames r v):FnR P f args r []:=by
  intro w m vs hgl hi hr
  refine (H w m vs hi hr).mono ?_
  rintro e w' ⟨v,he,hb,hv⟩
  have hlt:∀ b o v,m b o=some v→b<w.heap.size:=fun b o v e=>by
    have:=hi b o v e
    rcases Nat.lt_or_ge b w.heap.size with h | h
    · exact h
    · simp [World.cell?,Array.getElem?_eq_none h] at this
  refine ⟨v,fun b o=>if w.heap.size≤b then w'.cell? ⟨b,o,none⟩ else m b o,noNames,he,hb,⟨?_,?_,?_,?_,?_,?_,?_,hgl⟩,fun _ _=>rfl,hv.mono ?_⟩
  · intro b o v e
    have e:(if w.heap.size≤b then w'.cell? ⟨b,o,none⟩ else m b o)=some v:=e
    by_cases h:w.heap.size≤b
    · rw [if_pos h] at e;exact e
    · rw [if_neg h] at e;exact (hi.below hb) b o v e
  · intro b o v e
    show (if w.heap.size≤b then w'.cell? ⟨b,o,none⟩ else m b o)=some v
    rw [if_neg (by have:=hlt b o v e;omega)];exact e
  · intro b o v e
    have e:(if w.heap.size≤b then w'.cell? ⟨b,o,none⟩ else m b o)=some v:=e
    by_cases h:w.heap.size≤b
    · exact .inr h
    · rw [if_neg h] at e;exact .inl e
  · intro id l h;simp [find] at h
  · intro id s p h;simp [find] at h
  · intro id b n h;simp [noNames] at h
  · intro id id' b n n' h;simp [noNames] at h
  · intro b o v e
    unfold ownN at e
    show (if w.heap.size≤b then w'.cell? ⟨b,o,none⟩ else m b o)=some v
    by_cases h:w.heap.size≤b
    · rw [if_pos h] at e ⊢;exact e
    · rw [if_neg h] at e;cases e
theorem rep_own {w:World} {base:Nat} {e:TypeId} {size:Nat} {v:Value} {n:Nat} {xs:List Value} (h:w.ownsRow base e size v n xs) (hn:0<n) {l:List AV} (hl:l.length=n) (hsz:∀ x∈l,x.cells.length=size) (hr:Reps (ownN base w) noNames (l.flatMap AV.cells) xs) (h1:∀ c∈xs,oneCell c=true):
    Rep (ownN base w) noNames (.sl false size l) v:=by
  obtain ⟨hlen,⟨rfl,h0⟩ | ⟨g,cap,cur,rfl,q1,q2,q3,q4,q5,q6⟩⟩:=h
  · omega
  · subst hl
    refine .sl (cs:=xs) hsz hr h1 (fun _=>rfl) ?_ q3 (by simp)
    intro j x e
    show ownN base w g (0+j)=some x
    unfold ownN
    rw [if_pos q1,Nat.zero_add,cell_of_blk q2]
    have hj:j<xs.length:=(List.getElem?_eq_some_iff.1 e).1
    rw [← q6,List.getElem?_take_of_lt (by rw [← hlen];exact hj)] at e
    rw [← Array.getElem?_toList];exact e
end GoForm
end

section
/- The decoder of package recording at the example's bytes: frames. No conditions. -/
set_option linter.all false
set_option maxRecDepth 100000
open Go Go.Rx Go.Proofs Go.RowKit
namespace GoForm
theorem x0:codec_ReadInt exP ((0:Nat):Int)=some (2,((2:Nat):Int),0):=by kernel_rfl
theorem x2:codec_ReadInt exP ((2:Nat):Int)=some (0,((3:Nat):Int),0):=by kernel_rfl
theorem x3:codec_ReadInt exP ((3:Nat):Int)=some (1,((5:Nat):Int),0):=by kernel_rfl
theorem x5:codec_ReadInt exP ((5:Nat):Int)=some (1,((7:Nat):Int),0):=by kernel_rfl
theorem x7:codec_ReadInt exP ((7:Nat):Int)=some (3,((9:Nat):Int),0):=by kernel_rfl
theorem x9:codec_ReadVec exP ((9:Nat):Int)=some (({ X:=65536,Y:=0 }:Vec),((14:Nat):Int),0):=by kernel_rfl
theorem x14:codec_ReadInt exP ((14:Nat):Int)=some (0,((15:Nat):Int),0):=by kernel_rfl
noncomputable def zrB (buf:List UInt8) (o e:Nat):Bool:=
  (List.range e).all fun j=>Nat.blt j o||(decide (codec_ReadInt buf (j:Int)=some (0,((j+1:Nat):Int),0))&&decide (codec_ReadBool buf (j:Int)=some (false,((j+1:Nat):Int),0))&&(!Nat.blt (j+1) e||decide (codec_ReadVec buf (j:Int)=some (({ X:=0,Y:=0 }:Vec),((j+2:Nat):Int),0))))
theorem zr_of {buf:List UInt8} {o e:Nat} (h:zrB buf o e=true):ZR buf o e:=by
  have key:∀ j,o≤j→j<e→codec_ReadInt buf (j:Int)=some (0,((j+1:Nat):Int),0)∧codec_ReadBool buf (j:Int)=some (false,((j+1:Nat):Int),0)∧(j+1<e→codec_ReadVec buf (j:Int)=some (({ X:=0,Y:=0 }:Vec),((j+2:Nat):Int),0)):=by
    intro j h1 h2
    have h3:=List.all_eq_true.1 h j (List.mem_range.2 h2)
    have h4:Nat.blt j o=false:=by
      cases hb:Nat.blt j o with
      | false=>rfl
      | true=>have:=Nat.le_of_ble_eq_true hb;omega
    rw [h4,Bool.false_or,Bool.and_eq_true,Bool.and_eq_true] at h3
    refine ⟨of_decide_eq_true h3.1.1,of_decide_eq_true h3.1.2,fun h5=>?_⟩
    have h6:Nat.blt (j+1) e=true:=Nat.ble_eq_true_of_le h5
    have h7:=h3.2
    rw [h6] at h7
    exact of_decide_eq_true h7
  exact ⟨fun j a b=>(key j a b).1,fun j a b=>(key j a (by omega)).2.2 b,fun j a b=>(key j a b).2.1⟩
theorem zr15:ZR exP 15 35:=zr_of (by kernel_rfl)
theorem zr35:ZR exP 35 59:=zr_of (by kernel_rfl)
theorem rep_exI {m:Mem}:Rep m noNames (e_Input exI) (.agg (inX 1 3 65536 0 0).toArray):=by
  refine .agg (l:=_) ?_ (inX_one _ _ _ _ _)
  exact (repsV [.int .i64 1,.int .i64 3,.int .i64 65536,.int .i64 0,.int .i64 0]).append (((repsV (zB.take 19)).append (.cons (.slnil) .nil)).append (repsV zJ))
theorem grown_own {W W1 W2:World} {bd:Nat} {row:Option Nat} (h1:W.grownBy W1 (some bd)) (h2:W1.grownBy W2 row) (hr:∀ g,row=some g→W.heap.size≤g):W.grownBy W2 (some bd):=
  ⟨h2.os.trans h1.os,h2.tape.trans h1.tape,h2.output.trans h1.output,Nat.le_trans h1.size h2.size,fun k hk hn=>(h2.block k (Nat.lt_of_lt_of_le hk h1.size) (fun e=>by have:=hr k e.symm;omega)).trans (h1.block k hk hn)⟩
structure FS (m:Mem) (a:Option Addr) (n c bd:Nat) (W:World) (off:Int) (w:World):Prop where
  F:BF m exP a n c bd w
  D:DF bd (.slice a n c) off w
  G:W.grownBy w (some bd)
  lt:bd<W.heap.size
theorem FS.call {m a n c bd W off w} (h:FS m a n c bd W off w) {off':Int} {w':World} (hD:DF bd (.slice a n c) off' w') (hg:w.grownBy w' (some bd)):FS m a n c bd W off' w':=⟨h.F.grown hg,hD,grown_trans2 h.G hg,h.lt⟩
theorem FS.own {m a n c bd W off w} (h:FS m a n c bd W off w) {w':World} {row:Option Nat} (hg:w.grownBy w' row) (hr:∀ g,row=some g→W.heap.size≤g) (hm:∀ g,row=some g→∀ o,m g o=none):FS m a n c bd W off w':=by
  have hne:∀ g,row=some g→g≠bd:=fun g e=>by have:=hr g e;have:=h.lt;omega
  refine ⟨⟨?_,h.F.rep,h.F.off,Nat.lt_of_lt_of_le h.F.lt hg.size⟩,(hg.block bd h.F.lt (fun e=>hne bd e.symm rfl)).trans h.D,grown_own h.G hg hr,h.lt⟩
  cases row with
  | none=>exact imm_grown (b:=w.heap.size) h.F.imm ⟨hg.os,hg.tape,hg.output,hg.size,fun k hk _=>hg.block k hk (by simp)⟩ (imm_none h.F.imm (Nat.le_refl _))
  | some g=>exact imm_grown h.F.imm hg (hm g rfl)
theorem FS.alloc {m a n c bd W off w} (h:FS m a n c bd W off w) (o:Obj):FS m a n c bd W off (w.alloc o):=
  h.own (row:=none) (below_grown ((Below.refl _ _).alloc (Nat.le_refl _) _)) (by simp) (by simp)
theorem FS.code {m a n c bd W off w} (h:FS m a n c bd W off w):w.cell? ⟨bd,2,none⟩=some (.int .i64 0):=box_cell h.D 2 rfl
set_option maxHeartbeats 8000000 in
theorem rframes {m : Mem} {a:Option Addr} {n c bd:Nat} {W:World} (F:BF m exP a n c bd W) (hb:DF bd (.slice a n c) 0 W):
    Calls Tryz.prog 42 #[.pointer (some ⟨bd,0,none⟩)] W fun e W'=>∃ v,e=.returned v∧Rep (ownN W.heap.size W') noNames (e_sl_sl_Input [[],[exI]]) v∧DF bd (.slice a n c) 59 W'∧W.grownBy W' (some bd)∧bd<W'.heap.size:=by
  have e71:=Tryz.call71
  have e72:=Tryz.call72
  obtain ⟨i51,a1,a2,a3,a4⟩:=info_parts (P:=Tryz.prog) (e:=51) (z:=.slice none 0 0) (size:=1) (bytes:=24) (by kernel_rfl)
  obtain ⟨i77,b1,b2,b3,b4⟩:=info_parts (P:=Tryz.prog) (e:=77) (z:=.agg inZ.toArray) (size:=49) (bytes:=384) (by kernel_rfl)
  have H51:Hid (_∧_∧_∧_):=⟨a1,a2,a3,a4⟩
  have H77:Hid (_∧_∧_∧_):=⟨b1,b2,b3,b4⟩
  have S0:Hid (FS m a n c bd W ((0:Nat):Int) W):=⟨F,hb,⟨rfl,rfl,rfl,Nat.le_refl _,fun _ _ _=>rfl⟩,F.lt⟩
  have hno:Hid (∀ g,W.heap.size≤g→∀ o,m g o=none):=fun g hg=>imm_none F.imm hg
  clear a1 a2 a3 a4 b1 b2 b3 b4 F hb
  go_enter Tryz.func42,Tryz.ntmps42
  go_wp2_with (first | (go_at_call 71;refine (rlen S0.out.F S0.out.D x0 (by decide) (by decide)).mono ?_;rintro e w1 ⟨rfl,hD,hg⟩;have S1:Hid (FS m a n c bd W _ w1):=S0.out.call hD hg;have d1:=S1.out.code;clear hD hg))
  refine wp_loop_rounds 3 ?_
  rw [rounds_succ]
  go_wp2_with (first | (go_at_call 71;refine (rlen S1.out.F S1.out.D x2 (by decide) (by decide)).mono ?_;rintro e w2 ⟨rfl,hD,hg⟩;have S2:Hid (FS m a n c bd W _ w2):=S1.out.call hD hg;have d2:=S2.out.code;clear hD hg d1))
  refine wp_loop_rounds 1 ?_
  rw [rounds_succ]
  go_wp2_with (first
    | (at_builtin;refine wpList_append_two rfl (.tmp 38) (.tmp 40) 23 rfl W.heap.size 51 i51 (.slice none 0 0) 1 24 Tryz.underlying23 H51.out.1 H51.out.2.1 H51.out.2.2.1 H51.out.2.2.2 rfl (by decide) (.slice none 0 0) 0 [] rfl (World.ownsRow_nil _ _ _ _) ⟨w2.heap.size,0,none⟩ 1 1 [.slice none 0 0] rfl rfl (cells_new w2 [.slice none 0 0] 51 _ rfl) (by intro u hu;simp at hu;subst hu;rfl) (by decide) (by decide) (by have:=S2.out.G.size;simp;omega) (by decide) ?_
       intro v3 w3 hown3 hgrow3 hblk3
       have S3:Hid (FS m a n c bd W _ w3):=(S2.out.alloc _).own hgrow3 (by intro g e;cases e) (by intro g e;cases e)
       have O3:Hid (w3.ownsRow W.heap.size 51 1 v3 1 [.slice none 0 0]):=hown3
       have d3:=S3.out.code
       clear hown3 hgrow3 hblk3 d2))
  rw [rounds_succ]
  go_wp2_with (first | (go_at_call 71;refine (rlen S3.out.F S3.out.D x3 (by decide) (by decide)).mono ?_;rintro e w4 ⟨rfl,hD,hg⟩;have S4:Hid (FS m a n c bd W _ w4):=S3.out.call hD hg
                        have O4:Hid (w4.ownsRow W.heap.size 51 1 v3 1 [.slice none 0 0]):=World.ownsRow.kept O3.out hg (by
                          cases e:v3.ownBlock with
                          | none=>exact .inl rfl
                          | some k=>exact .inr fun e2=>by have:=(World.ownsRow.lt O3.out k e).1;have:=S3.out.lt;have:=Option.some.inj e2;omega)
                        have d4:=S4.out.code;clear hD hg d3))
  refine wp_loop_rounds 2 ?_
  rw [rounds_succ]
  go_wp2_with (first
    | (at_builtin;refine wpList_append_two rfl (.tmp 33) (.tmp 36) 51 rfl W.heap.size 77 i77 (.agg inZ.toArray) 49 384 Tryz.underlying51 H77.out.1 H77.out.2.1 H77.out.2.2.1 H77.out.2.2.2 rfl (by decide) (.slice none 0 0) 0 [] rfl (World.ownsRow_nil _ _ _ _) ⟨w5.heap.size,0,none⟩ 1 1 (inX 1 3 65536 0 0) rfl rfl (cells_new w5 (inX 1 3 65536 0 0) 77 _ rfl) (inX_one 1 3 65536 0 0) (by decide) (by decide) (by have:=S5.out.G.size;simp;omega) (by decide) ?_
       intro v6 w6 hown6 hgrow6 hblk6
       have S6:Hid (FS m a n c bd W _ w6):=(S5.out.alloc _).own hgrow6 (by intro g e;cases e) (by intro g e;cases e)
       have O6:Hid (w6.ownsRow W.heap.size 51 1 v3 1 [.slice none 0 0]):=World.ownsRow.kept (World.ownsRow.kept O5.out (below_grown (((Below.refl _ _).alloc (Nat.le_refl _) _))) (by cases v3.ownBlock <;> simp)) hgrow6 (by cases v3.ownBlock <;> simp [Value.ownBlock])
       have I6:Hid (w6.ownsRow W.heap.size 77 49 v6 1 (inX 1 3 65536 0 0)∧v6.ownBlock=some (w5.heap.size+1)):=⟨hown6,by
         rcases hblk6 with e | e
         · exfalso
           have h1:=hown6.2
           rcases h1 with ⟨-,h⟩ | ⟨g,cap,cur,e2,-⟩
           · omega
           · rw [e2] at e;cases e
         · rw [e];simp⟩
       have d6:=S6.out.code
       obtain ⟨va,vn,vc,rfl⟩:∃ a n c,v6=.slice a n c:=by
         rcases hown6.2 with ⟨e,-⟩ | ⟨g,cap,cur,e,-⟩ <;> exact ⟨_,_,_,e⟩
       clear hown6 hgrow6 hblk6 d5)
    | (go_at_call 72;refine (rinput S4.out.F S4.out.D x5 x7 x9 x14 zr15 zr35).mono ?_;rintro e w5 ⟨rfl,hD,hg⟩;have S5:Hid (FS m a n c bd W _ w5):=S4.out.call hD hg
       have O5:Hid (w5.ownsRow W.heap.size 51 1 v3 1 [.slice none 0 0]):=World.ownsRow.kept O4.out hg (by
         cases e:v3.ownBlock with
         | none=>exact .inl rfl
         | some k=>exact .inr fun e2=>by have:=(World.ownsRow.lt O4.out k e).1;have:=S4.out.lt;have:=Option.some.inj e2;omega)
       have d5:=S5.out.code;clear hD hg d4))
  rw [rounds_succ]
  go_wp2_with (first
    | (at_builtin;refine wpList_append_two rfl (.tmp 38) (.tmp 40) 23 rfl W.heap.size 51 i51 (.slice none 0 0) 1 24 Tryz.underlying23 H51.out.1 H51.out.2.1 H51.out.2.2.1 H51.out.2.2.2 rfl (by decide) v3 1 [.slice none 0 0] rfl (World.ownsRow.kept O6.out (below_grown ((Below.refl _ _).alloc (Nat.le_refl _) _)) (by cases v3.ownBlock <;> simp)) ⟨w6.heap.size,0,none⟩ 1 1 [.slice va vn vc] rfl rfl (cells_new w6 [.slice va vn vc] 51 _ rfl) (by intro u hu;simp at hu;subst hu;rfl) (by decide) (by decide) (by have:=S6.out.G.size;simp;omega) (by decide) ?_
       intro v7 w7 hown7 hgrow7 hblk7
       have S7:Hid (FS m a n c bd W _ w7):=(S6.out.alloc _).own hgrow7 (fun g e=>(World.ownsRow.lt O6.out g e).1) (fun g e=>hno.out g (World.ownsRow.lt O6.out g e).1)
       have O7:Hid (w7.ownsRow W.heap.size 51 1 v7 2 [.slice none 0 0,.slice va vn vc]):=hown7
       have I7:Hid (w7.ownsRow W.heap.size 77 49 (.slice va vn vc) 1 (inX 1 3 65536 0 0)):=World.ownsRow.kept (World.ownsRow.kept I6.out.1 (below_grown ((Below.refl _ _).alloc (Nat.le_refl _) _)) (by cases (Value.slice va vn vc).ownBlock <;> simp)) hgrow7 (by
         rw [I6.out.2]
         refine .inr fun e2=>?_
         have h7:=(World.ownsRow.lt O5.out _ e2.symm).2
         omega)
       have d7:=S7.out.code
       clear hown7 hgrow7 hblk7 d6))
  rw [rounds_succ]
  go_wp2
  go_ret
  refine ⟨v7,rfl,?_,S7.out.D,S7.out.G,S7.out.F.lt⟩
  refine rep_own O7.out (by decide) (l:=[e_sl_Input [],e_sl_Input [exI]]) rfl (by intro x hx;simp at hx;rcases hx with rfl | rfl <;> rfl) ?_ (by intro u hu;simp at hu;rcases hu with rfl | rfl <;> rfl)
  refine .cons .slnil (.cons ?_ .nil)
  exact rep_own I7.out (by decide) (l:=[e_Input exI]) rfl (by intro x hx;simp at hx;subst hx;rfl) (by
    have:=rep_exI (m:=ownN W.heap.size w7)
    obtain ⟨cs,h1,h2,-⟩:=rep_agg this
    have:cs=(inX 1 3 65536 0 0):=by
      have:=congrArg (fun v=>match v with | .agg a=>a.toList | _=>[]) h1
      simpa using this.symm
    subst this
    rw [List.flatMap_cons,List.flatMap_nil,List.append_nil];exact h2) (inX_one 1 3 65536 0 0)
end GoForm
end

section
/- Checksums. No conditions. -/
set_option linter.all false
set_option maxRecDepth 100000
open Go Go.Rx Go.Proofs Go.RowKit
namespace GoForm
noncomputable def updL (rec643:Int × Int→Option Int) (s644:Int × Int):Option Int:=
  Let (decide (s644.snd<(8:Int))) fun (x645:Bool)=>
  if x645=true then
  Join (fun (v646:Int)=>Let (IntKind.i64.wrap (s644.snd+(1:Int))) fun (x647:Int)=>rec643 (v646,x647))
  fun (j648:Int→Option Int)=>
  Let (bAnd IntKind.u32 s644.fst (1:Int)) fun (x649:Int)=>
  Let (bShr IntKind.u32 s644.fst (1:Int)) fun (x650:Int)=>
  Let (x649==(1:Int)) fun (x651:Bool)=>
  if x651=true then Let (bXor IntKind.u32 x650 (2197175160:Int)) fun (x652:Int)=>j648 x652 else j648 x650
  else some s644.fst
theorem upd_step (n k:Nat) (c:Int) (hk:k<8):LOOP updL (n+1) (c,(k:Int))=LOOP updL n (updS c,((k+1:Nat):Int)):=by
  rw [LOOP_s]
  show updL _ _=_
  unfold updL
  simp only [Let_nr,Join_nr]
  rw [if_pos (by rw [decide_eq_true (show (k:Int)<8 by omega)]),w64_s k (by omega)]
  unfold updS
  split <;> rfl
theorem upd_eq (c:Int):checksum_update c=some (updN 8 c):=by
  have h:checksum_update c=LOOP updL fuel (c,((0:Nat):Int)):=rfl
  obtain ⟨m,hm⟩:∃ m,fuel=m+9:=⟨2 ^ 70 - 9,by unfold fuel;decide⟩
  rw [h,hm,upd_step (m+8) 0 _ (by omega),upd_step (m+7) 1 _ (by omega),upd_step (m+6) 2 _ (by omega),upd_step (m+5) 3 _ (by omega),upd_step (m+4) 4 _ (by omega),upd_step (m+3) 5 _ (by omega),upd_step (m+2) 6 _ (by omega),upd_step (m+1) 7 _ (by omega),LOOP_s]
  unfold updL
  simp only [Let_nr]
  rw [if_neg (by simp)]
  rfl
theorem cells_bytes (l:List UInt8):(l.map e_byte).flatMap AV.cells=(l.map fun x:UInt8=>Value.int .u8 (x.toNat:Int)).map AV.v:=by
  induction l with
  | nil=>rfl
  | cons x l ih=>rw [List.map_cons,List.flatMap_cons,ih];rfl
theorem repBytes {m:Mem} {l:List UInt8} {v:Value} (h:Rep m noNames (e_sl_byte l) v):∃ ad cap,v=.slice ad l.length cap∧l.length≤cap∧(0<l.length→∃ blk off,ad=some ⟨blk,off,none⟩∧∀ j x,l[j]? = some x→m blk (off+j)=some (.int .u8 (x.toNat:Int))):=by
  have h:Rep m noNames (.sl false 1 (l.map e_byte)) v:=h
  generalize hl:l.map e_byte=l' at h
  cases h with
  | slnil=>
    have:l=[]:=by simpa using hl
    subst this
    exact ⟨none,0,rfl,Nat.le_refl _,fun h=>absurd h (by simp)⟩
  | @sl _ _ _ _ a cap cs h1 h2 h3 h4 h5 h6 h7=>
    have hn:l'.length=l.length:=by rw [← hl];simp
    rw [hn] at h6 ⊢
    refine ⟨some a,cap,rfl,h6,fun hp=>?_⟩
    rw [← hl] at h2
    rw [cells_bytes] at h2
    obtain rfl:=repsV_eq h2
    refine ⟨a.block,a.off,?_,fun j x e=>?_⟩
    · have:=h4 (by simp;omega)
      cases a
      simp at this
      rw [this]
    · exact h5 j _ (by simp [e])
theorem upd_fnr (c:Int):FnR Tryz.prog 112 [.v (.int .u32 c)] (.v (.int .u32 (updN 8 c))) []:=c_112.ok (c,()) [.v (.int .u32 c)] (updN 8 c) ⟨rfl,trivial⟩ (upd_eq c)
theorem crcF_succ (b:List UInt8) (i:Nat) (x:UInt8) (h:b[i]? = some x):crcF (b.take (i+1))=updN 8 (bXor .u32 (crcF (b.take i)) (x.toNat:Int)):=by
  unfold crcF
  rw [List.take_succ,h]
  simp
set_option maxHeartbeats 2000000 in
theorem crc_calls (b:List UInt8) (hl:b.length≤1099511627776) (m:Mem) (v:Value) (w:World) (hi:Imm m w) (hr:Rep m noNames (e_sl_byte b) v):
    Calls Tryz.prog 70 #[v] w fun e w'=>e=.returned (.int .u32 (crcV b))∧Below w.heap.size w w':=by
  obtain ⟨ad,cap,rfl,hcap,hm⟩:=repBytes hr
  obtain ⟨n,hn⟩:∃ n,b.length=n:=⟨_,rfl⟩
  rw [hn] at hm hcap hl ⊢
  have e112:=Tryz.call112
  clear hr
  go_enter Tryz.func70,Tryz.ntmps70
  go_wp2
  go_loopg [3,8] n (fun kx s3 s8 wr=>∃ (i:Nat),s3=.int .u32 (crcF (b.take i))∧s8=.int .i64 i∧i≤n∧n - i≤kx∧Aside (Below w.heap.size w wr))
  case atStart=>exact ⟨0,rfl,rfl,Nat.zero_le _,Nat.le_refl _,Below.refl _ _⟩
  case round=>
    obtain ⟨i,rfl,rfl,hin,hkx,S⟩:=hrel
    by_cases hlt:(i:Int)<n
    · obtain ⟨blk,off,rfl,hm2⟩:=hm (by omega)
      obtain ⟨x,hx⟩:∃ x,b[i]? = some x:=⟨_,List.getElem?_eq_getElem (by omega)⟩
      have c0:wr.cell? ⟨blk,off+i,none⟩=some (.int .u8 (x.toNat:Int)):=(hi.below S.out) _ _ _ (hm2 i x hx)
      have wi:IntKind.i64.wrap ((i:Int)+1)=((i+1:Nat):Int):=by rw [IntKind.wrap_i64];omega
      have ti:((i:Int)).toNat=i:=by omega
      have pi:(0:Int)≤(i:Int):=by omega
      have hx8:x.toNat<256:=x.toNat_lt
      have cv:IntKind.u32.wrap (x.toNat:Int)=(x.toNat:Int):=by simp [IntKind.wrap,IntKind.bits,IntKind.signed];omega
      have hN:=crcF_succ b i x hx
      obtain ⟨cN,hcN⟩:∃ cN,cN=updN 8 (bXor .u32 (crcF (b.take i)) (x.toNat:Int)):=⟨_,rfl⟩
      have hc:=upd_fnr (bXor .u32 (crcF (b.take i)) (x.toNat:Int))
      rw [← hcN] at hc hN
      have key:∀ z,z=bXor .u32 (crcF (b.take i)) (x.toNat:Int)→Calls Tryz.prog 112 #[.int .u32 z] wr fun e w'=>e=.returned (.int .u32 cN)∧Below wr.heap.size wr w':=by
        rintro z rfl
        exact call_v hc wr [_] (.cons .v .nil)
      have HX:Hid (_∧_):=⟨hN,hx⟩
      clear hc hcN hN hm2 hx
      go_wp2_with (go_at_call 112;refine (key _ (by first | rfl | (simp [bXor,bits]))).mono ?_;rintro e w2 ⟨rfl,hb2⟩;have S2:Aside (Below w.heap.size w w2):=S.out.trans (hb2.mono S.out.size);clear hb2 key)
      go_roundg (n - (i+1))
      case measure=>omega
      case rel=>exact ⟨i+1,by rw [HX.out.1],by simp,by omega,by omega,S2⟩
    · have hin':i=n:=by omega
      subst hin'
      have ht:crcF (b.take i)=crcF b:=by rw [← hn,List.take_length]
      rw [ht]
      go_wp2
      go_ret
      refine ⟨?_,S.out⟩
      show _=Ending.returned (.int .u32 (bits BinOp.xor IntKind.u32 4294967295 (crcF b)))
      rfl
end GoForm
end

section
/- Sealed buffers. No conditions. -/
set_option linter.all false
set_option maxRecDepth 100000
open Go Go.Rx Go.Proofs Go.RowKit
namespace GoForm
theorem wpList_make2 {P:Program} {w:World} {ops:Array Oper} {rest:List Oper} {o:Oper} {a:Act} {Q:Exit→Act→World→Prop}
    (hg:o.guard=none) (l c:Operand) (t:TypeId) (hop:o.op=Op.makeSlice t l c) (e:TypeId) (i:TypeInfo) (z:Value) (h1:P.underlying t=some (.slice e)) (h2:P.info? e=some i) (h3:i.zero=some z)
    (n k:Nat) (hl:a.eval l=.int .i64 (n:Int)) (hc:a.eval c=.int .i64 (k:Int)) (hnk:n≤k) (b2:(i.bytes:Int)*(k:Int)≤281474976710656) (b3:(k:Int)≤9223372036854775807)
    (hK:wpList P ops Q rest (a.put o.dst (.slice (some ⟨w.heap.size,0,none⟩) n k)) (w.alloc (.cells (madeCells z.cells (k*i.size)) e))):wpList P ops Q (o::rest) a w:=by
  refine wpList_plain hg fun K hK'=>?_
  have hrun:=run_make (P:=P) (w:=w) t e i z h1 h2 h3 .i64 .i64 (n:Int) (k:Int) (by omega) (by omega) b2 b3
  simp only [Int.toNat_natCast] at hrun
  unfold Oper.wp
  simp [execOp,hop,hl,hc,hrun,Result.andThen]
  exact hK' _ _ hK
theorem wpList_copy1 {P:Program} {w:World} {ops:Array Oper} {rest:List Oper} {o:Oper} {a:Act} {Q:Exit→Act→World→Prop}
    (hg:o.guard=none) (d s:Operand) (t:TypeId) (hop:o.op=Op.call { callee:=Callee.builtin Builtin.copy,args:=#[d,s],argTypes:=#[t,t] }) (e:TypeId) (h1:P.underlying t=some (.slice e)) (hs:∀ w,(Go.sizeOf e).run P w=.ok 1 w)
    (g n k c:Nat) (ad:Option Addr) (hd:a.eval d=.slice (some ⟨g,0,none⟩) n k) (hsv:a.eval s=.slice ad n c) (xs:List Value) (hxs:xs.length=n) (hnil:ad=none→xs=[]) (hcell:∀ b,ad=some b→∀ j v,xs[j]? = some v→w.cell? (b.add j)=some v) (h1c:∀ v∈xs,v.oneCell'=true)
    (cur:Array Value) (T:TypeId) (hb:w.heap[g]? = some (.cells cur T (0,0))) (hfit:n≤cur.size)
    (hK:∀ w',w'.heap[g]? = some (.cells (xs++cur.toList.drop n).toArray T (0,0))→w.grownBy w' (some g)→wpList P ops Q rest (a.put o.dst (.int .i64 (n:Int))) w'):wpList P ops Q (o::rest) a w:=by
  refine wpList_plain hg fun K hK'=>?_
  have hst:=run_storeCells_at P g 0 T xs 0 cur w hb (by simpa [hxs] using hfit) h1c
  simp only [Nat.add_zero,Nat.zero_add,List.take_zero,List.nil_append,hxs] at hst
  have hfc:(Builtin.firstCells 1 n (.slice ad n c)).run P w=.ok xs.toArray w:=by
    cases ad with
    | none=>rw [hnil rfl];simp [Builtin.firstCells]
    | some b=>exact run_firstCells_some (P:=P) (w:=w) 1 n b n c xs (by simpa using hxs) (hcell b rfl)
  have hrun:(Builtin.copy_ #[t,t] o.type #[.slice (some ⟨g,0,none⟩) n k,.slice ad n c]).run P w=.ok (goInt n) (w.setRow g (xs++cur.toList.drop n).toArray):=by
    simp [Builtin.copy_,underlying,h1,Builtin.lenOf,hs,hfc,hst]
  unfold Oper.wp
  simp only [execOp,hop,resolve,invoke,builtin,Sem.run_bind,Sem.run_pure,Result.andThen_ok,List.map_toArray,List.map_cons,List.map_nil,hd,hsv,hrun]
  exact hK' _ _ (hK _ (setRow_heap w g cur _ T (0,0) hb) ⟨rfl,rfl,rfl,by simp,fun k _ hk=>setRow_other w g k _ (fun e=>hk (by rw [e]))⟩)
def bC (l:List UInt8):List Value:=l.map fun x:UInt8=>.int .u8 (x.toNat:Int)
theorem bC_one (l:List UInt8):∀ v∈bC l,v.oneCell'=true:=by
  intro v hv
  obtain ⟨x,-,rfl⟩:=List.mem_map.1 hv
  rfl
theorem bC_rep {w:World} {base:Nat} {v:Value} {l:List UInt8} (h:w.ownsRow base 5 1 v l.length (bC l)) (hn:0<l.length):Rep (ownN base w) noNames (e_sl_byte l) v:=
  rep_own h hn (l:=l.map e_byte) (by simp) (by intro x hx;obtain ⟨y,-,rfl⟩:=List.mem_map.1 hx;rfl) (by rw [cells_bytes];exact repsV _) (bC_one l)
theorem toByte_nat (n:Int):((toByte n).toNat:Int)=n % 256:=by
  unfold toByte
  have h:(n % 256).toNat<256:=by omega
  rw [UInt8.toNat_ofNat']
  omega
set_option maxHeartbeats 4000000 in
theorem seal_calls (b:List UInt8) (hl:b.length≤1099511627776) (m:Mem) (v:Value) (w:World) (hi:Imm m w) (hr:Rep m noNames (e_sl_byte b) v):
    Calls Tryz.prog 40 #[v] w fun e w'=>∃ r,e=.returned r∧Below w.heap.size w w'∧Rep (ownN w.heap.size w') noNames (e_sl_byte (b++[toByte (crcV b),toByte (bShr .u32 (crcV b) 8),toByte (bShr .u32 (crcV b) 16),toByte (bShr .u32 (crcV b) 24)])) r:=by
  have hcr:=crc_calls b hl m v w hi hr
  obtain ⟨ad,cap,rfl,hcap,hm⟩:=repBytes hr
  obtain ⟨n,hn⟩:∃ n,b.length=n:=⟨_,rfl⟩
  rw [hn] at hm hcap hl hcr ⊢
  have hbc:(bC b).length=n:=by simp [bC,hn]
  have e70:=Tryz.call70
  obtain ⟨i5,a1,a2,a3,a4⟩:=info_parts (P:=Tryz.prog) (e:=5) (z:=.int .u8 0) (size:=1) (bytes:=1) (by kernel_rfl)
  have HI:Hid (_∧_∧_∧_):=⟨a1,a2,a3,a4⟩
  obtain ⟨crc,hcrc⟩:∃ crc,crc=crcV b:=⟨_,rfl⟩
  rw [← hcrc] at hcr ⊢
  have HM:Hid (_∧_∧_∧_):=⟨hm,hi,hn,hbc⟩
  have w4:IntKind.i64.wrap ((n:Int)+4)=((n+4:Nat):Int):=by rw [IntKind.wrap_i64];omega
  clear hm hi hr a1 a2 a3 a4 hcrc
  go_enter Tryz.func40,Tryz.ntmps40
  go_upto_region 3 with (first
    | (go_at_call 70;refine hcr.mono ?_;rintro e w1 ⟨rfl,hb1⟩;have HB:Hid (Below w.heap.size w w1):=hb1;clear hb1 hcr)
    | (refine wpList_make2 rfl (.tmp 8) (.tmp 11) 24 rfl 5 i5 (.int .u8 0) Tryz.underlying24 HI.out.1 HI.out.2.1 n (n+4) rfl (by first | rfl | (simp [Act.eval];omega)) (by omega) (by rw [HI.out.2.2.2];omega) (by omega) ?_))
  obtain ⟨M,hM⟩:∃ M,M=madeCells #[Value.int .u8 0] ((n+4)*i5.size):=⟨_,rfl⟩
  have hMs:M.size=n+4:=by rw [hM,size_madeCells,HI.out.2.2.1];omega
  have hnil:ad=none→bC b=[]:=fun e=>by
    rcases Nat.eq_zero_or_pos n with h | h
    · exact List.eq_nil_of_length_eq_zero (by rw [HM.out.2.2.2];exact h)
    · obtain ⟨blk,off,e2,-⟩:=HM.out.1 h
      rw [e2] at e;cases e
  have hcell:∀ p,ad=some p→∀ (j:Nat) (u:Value),(bC b)[j]? = some u→(w1.alloc (.cells M 5)).cell? (p.add j)=some u:=fun p e j u hu=>by
    have hj:j<n:=by have:=(List.getElem?_eq_some_iff.1 hu).1;rw [HM.out.2.2.2] at this;exact this
    obtain ⟨blk,off,e2,h2⟩:=HM.out.1 (by omega)
    rw [e2] at e;cases e
    obtain ⟨x,hx⟩:∃ x,b[j]? = some x:=⟨_,List.getElem?_eq_getElem (by rw [HM.out.2.2.1];exact hj)⟩
    have hu2:u=.int .u8 (x.toNat:Int):=by
      unfold bC at hu;rw [List.getElem?_map,hx] at hu;exact (Option.some.inj hu).symm
    rw [hu2,addr_add]
    exact (HM.out.2.1.below (HB.out.trans (((Below.refl _ w1).alloc (Nat.le_refl _) _).mono HB.out.size))) _ _ _ (h2 j x hx)
  have HC:Hid (_∧_∧_):=⟨hMs,hnil,hcell⟩
  rw [← hM]
  clear hMs hnil hcell hM
  go_upto_region 4 with (first
    | (refine wpList_copy1 rfl (.tmp 13) (.tmp 14) 24 rfl 5 Tryz.underlying24 Tryz.sizeOf5 w1.heap.size n (n+4) cap ad rfl rfl (bC b) HM.out.2.2.2 HC.out.2.1 HC.out.2.2 (bC_one b) M 5 (heap_at w1 (.cells M 5) _ rfl) (by rw [HC.out.1];omega) ?_
       intro w2 h2 g2
       have H2:Hid (w2.ownsRow w.heap.size 5 1 (.slice (some ⟨w1.heap.size,0,none⟩) n (n+4)) n (bC b)∧Below w.heap.size w w2∧w1.heap.size<w2.heap.size):=by
         have hsz:=HB.out.size
         have hsz2:=g2.size
         refine ⟨⟨by rw [HM.out.2.2.2,Nat.mul_one],.inr ⟨w1.heap.size,n+4,_,rfl,hsz,h2,by omega,by simp only [maxLen];omega,?_,?_⟩⟩,(HB.out.trans (((Below.refl _ w1).alloc (Nat.le_refl _) _).mono hsz)).grown g2 (by simp;omega) (fun k e=>by have:=Option.some.inj e;omega),by simp at hsz2;omega⟩
         · have:=HC.out.1
           simp [HM.out.2.2.2];omega
         · have h5:n*1=(bC b).length:=by rw [HM.out.2.2.2,Nat.mul_one]
           rw [h5];simp
       clear h2 g2))
  have hN:bC [toByte crc,toByte (bShr .u32 crc 8),toByte (bShr .u32 crc 16),toByte (bShr .u32 crc 24)]=[Value.int .u8 (crc % 256),.int .u8 (crc / 256 % 256),.int .u8 (crc / 65536 % 256),.int .u8 (crc / 16777216 % 256)]:=by
    have f:∀ k:Int,0≤k→Int.fdiv crc k=crc / k:=fun k hk=>Int.fdiv_eq_ediv_of_nonneg _ hk
    simp only [bC,List.map_cons,List.map_nil,toByte_nat,bShr]
    rw [show min (Int.toNat 8) IntKind.u32.bits=8 from rfl,show min (Int.toNat 16) IntKind.u32.bits=16 from rfl,show min (Int.toNat 24) IntKind.u32.bits=24 from rfl,f _ (by decide),f _ (by decide),f _ (by decide)]
    rfl
  go_wp2_with (first
    | (at_builtin;refine wpList_append_two rfl (.tmp 16) (.tmp 28) 24 rfl w.heap.size 5 i5 (.int .u8 0) 1 1 Tryz.underlying24 HI.out.1 HI.out.2.1 HI.out.2.2.1 HI.out.2.2.2 rfl (by decide) (.slice (some ⟨w1.heap.size,0,none⟩) n (n+4)) n (bC b) rfl (World.ownsRow.kept H2.out.1 (below_grown ((Below.refl _ _).alloc (Nat.le_refl _) _)) (by simp [Value.ownBlock])) ⟨w2.heap.size,0,none⟩ 4 4 [Value.int .u8 (crc % 256),.int .u8 (crc / 256 % 256),.int .u8 (crc / 65536 % 256),.int .u8 (crc / 16777216 % 256)] rfl rfl (cells_new w2 [Value.int .u8 (crc % 256),.int .u8 (crc / 256 % 256),.int .u8 (crc / 65536 % 256),.int .u8 (crc / 16777216 % 256)] 5 _ rfl) (by intro u hu;simp at hu;rcases hu with rfl | rfl | rfl | rfl <;> rfl) (by simp only [maxLen];omega) (by omega) (by have:=H2.out.2.1.size;simp;omega) (by decide) ?_
       intro v3 w3 hown3 hgrow3 hblk3
       have H3:Hid (_∧_):=⟨hown3,(H2.out.2.1.trans (((Below.refl _ w2).alloc (Nat.le_refl _) _).mono H2.out.2.1.size)).grown hgrow3 (by have:=H2.out.2.1.size;simp;omega) (fun k e=>by have:=HB.out.size;simp [Value.ownBlock] at e;omega)⟩
       clear hown3 hgrow3 hblk3))
  go_ret
  refine ⟨v3,rfl,H3.out.2,?_⟩
  have hlen:(b++[toByte crc,toByte (bShr .u32 crc 8),toByte (bShr .u32 crc 16),toByte (bShr .u32 crc 24)]).length=n+4:=by simp [HM.out.2.2.1]
  refine bC_rep (v:=v3) ?_ (by omega)
  rw [hlen,show bC (b++[toByte crc,toByte (bShr .u32 crc 8),toByte (bShr .u32 crc 16),toByte (bShr .u32 crc 24)])=bC b++[Value.int .u8 (crc % 256),.int .u8 (crc / 256 % 256),.int .u8 (crc / 65536 % 256),.int .u8 (crc / 16777216 % 256)] from by rw [← hN];simp [bC]]
  exact H3.out.1
end GoForm
end

section
/- Contracts of checksums. No conditions. -/
set_option linter.all false
set_option maxRecDepth 100000
open Go Go.Rx Go.Proofs Go.RowKit
namespace GoForm
variable [GlC]
theorem sealH_fnr {b r:List UInt8} (h:sealH b=some r):FnR Tryz.prog 40 [e_sl_byte b] (e_sl_byte r) []:=by
  unfold sealH at h
  split at h
  · rename_i hl
    cases h
    refine FnR.ofFresh fun w m args hi hr=>?_
    obtain ⟨v,vs,rfl,h1,hr⟩:=hr.inv
    obtain rfl:=hr.inv0
    exact seal_calls b hl m v w hi h1
  · cases h
noncomputable def c_40:Con Tryz.prog tb cd:=⟨40,[.d Ix.tsl_byte],[Ix.tsl_byte],[],fun a=>checksum_Seal a.1,Tryz.call40,fun a avs r ha hf=>by
  match avs,ha with
  | [x0],h=>obtain ⟨h0,_⟩:=h;cases h0;exact sealH_fnr hf⟩
noncomputable def c_41:Con Tryz.prog tb cd:=⟨41,[.d Ix.tsl_byte],[Ix.tsl_byte,Ix.tint],[],fun a=>checksum_Open a.1,Tryz.call41,con_ok (cx:=cx [c_40] []) (im:=fun _=>false) (bar:=barF [(4,7)]) (an:=.n) Tryz.func41 rfl rfl rfl (fun _=>rfl) (fun d=>by kernel_rfl)⟩
noncomputable def c_12:Con Tryz.prog tb cd:=⟨12,[.d Ix.tsl_sl_Input],[Ix.tsl_byte,Ix.tint],[],fun a=>recording_Encode a.1,Tryz.call12,con_ok (cx:=cx [c_18,c_36,c_37,c_38,c_39,c_40] []) (im:=fun _=>false) (bar:=barF []) (an:=(.t none .n (.t none .n (.t none .n (.t none (.t none .n (.t none (.t (some ⟨[.val 4 .tsl_byte [],.val 17 .tint []],[]⟩) (.t none .n (.t none .n (.t none (.t none (.t none .n (.t none .n (.t none .n (.t none (.t (some ⟨[.val 4 .tsl_byte [],.val 27 .tint []],[]⟩) .n .n) .n)))) .n) .n))) .n) .n)) .n))))) Tryz.func12 rfl rfl rfl (fun _=>rfl) (fun d=>by kernel_rfl)⟩
end GoForm
end

section
/- recording.Decode at the example's bytes. No conditions. -/
set_option linter.all false
set_option maxRecDepth 100000
open Go Go.Rx Go.Proofs Go.RowKit
namespace GoForm
set_option maxHeartbeats 4000000 in
theorem decode_calls (m:Mem) (v:Value) (w:World) (hi:Imm m w) (hr:Rep m noNames (e_sl_byte exD) v):
    Calls Tryz.prog 13 #[v] w fun e w'=>∃ r,e=.returned (.tuple #[r,.int .i64 0])∧Below w.heap.size w w'∧Rep (ownN w.heap.size w') noNames (e_sl_sl_Input [[],[exI]]) r:=by
  have e41:=Tryz.call41
  have e42:=Tryz.call42
  have e18:=Tryz.call18
  have h41:FnR Tryz.prog 41 [e_sl_byte exD] (.tup [e_sl_byte exP,.v (.int .i64 0)]) []:=c_41.ok (exD,()) [e_sl_byte exD] ((exP,(0:Int)):List UInt8 × Int) ⟨rfl,trivial⟩ open47
  have h18:FnR Tryz.prog 18 [e_sl_sl_Input [[],[exI]]] (.v (.int .i64 0)) []:=c_18.ok ([[],[exI]],()) [e_sl_sl_Input [[],[exI]]] (0:Int) ⟨rfl,trivial⟩ val47
  have k41:=call_r h41 w [v] (.cons (hr.mono (le_all hi)) .nil)
  clear hr hi h41
  go_enter Tryz.func13,Tryz.ntmps13
  go_upto_region 5 with (first
    | (go_at_call 41;refine k41.mono ?_
       rintro e w1 ⟨v1,rfl,hb1,hrep⟩
       obtain ⟨vs,rfl,hvs⟩:=rep_tup hrep
       obtain ⟨v2,vs,rfl,h1,hvs⟩:=hvs.inv
       have:vs=[.int .i64 0]:=repsV_eq (l:=[.int .i64 0]) hvs
       subst this
       obtain ⟨pa,pc,rfl,-,-⟩:=repBytes h1
       have h59:exP.length=59:=rfl
       rw [h59] at h1 ⊢
       have HP:Hid (Below w.heap.size w w1∧Rep (allM w1) noNames (e_sl_byte exP) (.slice pa 59 pc)):=⟨hb1,h1⟩
       clear hb1 hrep hvs h1 h59 k41))
  have hb2:Below w1.heap.size w1 (w1.alloc (.cells #[.slice pa 59 pc,.int .i64 0,.int .i64 0] 87)):=(Below.refl _ _).alloc (Nat.le_refl _) _
  have F2:BF (allM w1) exP pa 59 pc w1.heap.size (w1.alloc (.cells #[.slice pa 59 pc,.int .i64 0,.int .i64 0] 87)):=⟨(imm_all w1).below hb2,HP.out.2,imm_none (imm_all w1) (Nat.le_refl _),by simp⟩
  have D2:DF w1.heap.size (.slice pa 59 pc) 0 (w1.alloc (.cells #[.slice pa 59 pc,.int .i64 0,.int .i64 0] 87)):=heap_at _ _ _ rfl
  have k42:=rframes F2 D2
  have HB2:Hid (Below w1.heap.size w1 (w1.alloc (.cells #[.slice pa 59 pc,.int .i64 0,.int .i64 0] 87))):=hb2
  clear hb2 F2 D2
  go_wp2_with (first
    | (go_at_call 18;refine (call_v h18 w3 [r3] (.cons (HQ.out.1.mono ownN_all) .nil)).mono ?_;rintro e w4 ⟨rfl,hb4⟩;have H4:Hid (Below w3.heap.size w3 w4):=hb4;clear hb4)
    | (go_at_call 42;refine k42.mono ?_
       rintro e w3 ⟨r3,rfl,hr3,hD3,hg3,hl3⟩
       have hD:w3.heap[w1.heap.size]? = some (.cells #[.slice pa 59 pc,.int .i64 59,.int .i64 0] 87 (0,0)):=hD3
       have d1:w3.cell? ⟨w1.heap.size,1,none⟩=some (.int .i64 59):=box_cell hD 1 rfl
       have d2:w3.cell? ⟨w1.heap.size,2,none⟩=some (.int .i64 0):=box_cell hD 2 rfl
       have HQ:Hid (_∧_):=⟨hr3,(show Below w1.heap.size w1 w3 from HB2.out.grown hg3 (by simp) (fun k e=>by have:=Option.some.inj e;omega))⟩
       clear hr3 hD3 hg3 hl3 hD k42))
  go_ret2
  have b3:Below w.heap.size w w3:=HP.out.1.trans (HQ.out.2.mono HP.out.1.size)
  refine ⟨r3,rfl,b3.trans (H4.out.mono b3.size),?_⟩
  have s1:=HP.out.1.size
  refine HQ.out.1.mono fun b o u e=>?_
  unfold ownN at e ⊢
  simp only [World.size_alloc] at e
  by_cases hb:w1.heap.size+1≤b
  · rw [if_pos hb] at e
    rw [if_pos (by omega)]
    exact (imm_all w3).below H4.out b o u e
  · rw [if_neg hb] at e;cases e
theorem recDecode_fnr [GlC] {b:List UInt8} {r:List (List Input) × Int} (h:recDecode b=some r):FnR Tryz.prog 13 [e_sl_byte b] (.tup [e_sl_sl_Input r.1,.v (.int .i64 r.2)]) []:=by
  unfold recDecode at h
  split at h
  · rename_i hb
    cases h
    subst hb
    refine FnR.ofFresh fun w m args hi hr=>?_
    obtain ⟨v,vs,rfl,h1,hr⟩:=hr.inv
    obtain rfl:=hr.inv0
    refine (decode_calls m v w hi h1).mono ?_
    rintro e w' ⟨r,rfl,hb,hrep⟩
    exact ⟨_,rfl,hb,.tup (.cons hrep (.cons .v .nil))⟩
  · cases h
end GoForm
end
