/- Several texts in one. No conditions. -/
import Derived.Test.YtacajmmjdefplaaGreatKY
section
set_option linter.all false
set_option maxRecDepth 100000
open Go Go.Rx Go.Proofs Go.RowKit
namespace GoForm
theorem run_ix {P:Program} {t e:TypeId} {sz g n cap i:Nat} {w:World} (ht:P.underlying t=some (.slice e)) (hs:tSz P e=some sz) (hi:i<n):
    (Instr.indexAt t (.slice (some ⟨g,0,none⟩) n cap) (.int .i64 i)).run P w=.ok (.pointer (some ⟨g,i*sz,none⟩)) w:=by
  have h1:(i:Int)<n:=by omega
  simp [Instr.indexAt,asIntOf,run_underlying_of ht,Instr.sureAddr,h1,run_sizeOf_of hs,addr_add]
  intro h
  omega
structure WN (x:World_) (B:Nat) (M:Mem) (h0 h1 h2 h3:Value) (xb xj xc xo:List Value) (w:World):Prop where
  iM:ImF M w
  new:∀ b o u,M b o=some u→B≤b
  ob:∀ g,some g∈[rowB h0,rowB h1,rowB h2,rowB h3]→B≤g∧g<w.heap.size∧∀ o,M g o=none
  ap:Apart [rowB h0,rowB h1,rowB h2,rowB h3]
  rB:RowW w h0 x.Bodies.length 20 xb
  rJ:RowW w h1 x.Joints.length 24 xj
  rC:RowW w h2 x.Contacts.length 7 xc
  rO:RowW w h3 x.Overlaps.length 4 xo
  pB:Reps M noNames (elC tb Ix.tBody x.Bodies) xb
  pJ:Reps M noNames (elC tb Ix.tJoint x.Joints) xj
  pC:Reps M noNames (elC tb Ix.tContact x.Contacts) xc
  pO:Reps M noNames (elC tb Ix.tPairKey x.Overlaps) xo
structure Wee (x:World_):Prop where
  L:Lens x
  b:∀ b∈x.Bodies,Few2 b.Fixtures
  c:∀ c∈x.Contacts,c.Manifold.Points.length≤1099511627776
theorem mixed25:Tryz.prog.follows .mixedOrders=true:=by kernel_rfl
theorem Part.full {E sz mo M} {l:List (tb.T E)} {i xs} (h:Part E sz mo M l i xs) (hi:i=l.length):Reps M noNames (elC tb E l) xs:=by
  subst hi
  have:=h.new
  rw [List.take_length,List.take_of_length_le (by rw [h.len];exact Nat.le_refl _)] at this
  exact this
structure LpB (x:World_) (W0:World) (mo:Mem) (b0 b1:Nat) (h0 h1 h2 h3:Value) (xj xc xo:List Value) (i:Nat) (w:World) (M:Mem) (xb:List Value):Prop where
  S:CL x W0 mo M b0 b1 h0 h1 h2 h3 xb xj xc xo w
  P:Part Ix.tBody 20 mo M x.Bodies i xb
structure LpC (x:World_) (W0:World) (mo:Mem) (b0 b1:Nat) (h0 h1 h2 h3:Value) (xj xo:List Value) (i:Nat) (w:World) (M:Mem) (xb xc:List Value):Prop where
  S:CL x W0 mo M b0 b1 h0 h1 h2 h3 xb xj xc xo w
  B:Reps M noNames (elC tb Ix.tBody x.Bodies) xb
  P:Part Ix.tContact 7 mo M x.Contacts i xc
theorem row_at {arr:Array Value} {xs:List Value} {N i sz:Nat} (h:arr.toList.take N=xs):∀ j v,((xs.drop (i*sz)).take sz)[j]? = some v→arr[i*sz+j]? = some v:=by
  intro j v e
  have hj:j<sz:=by
    have:=(List.getElem?_eq_some_iff.1 e).1
    rw [List.length_take] at this;omega
  rw [List.getElem?_take_of_lt hj,List.getElem?_drop,← h] at e
  have:i*sz+j<N:=by
    rcases Nat.lt_or_ge (i*sz+j) N with h | h
    · exact h
    · rw [List.getElem?_eq_none (by rw [List.length_take];omega)] at e;cases e
  rw [List.getElem?_take_of_lt this] at e
  rw [← Array.getElem?_toList];exact e
theorem row_one {xs:List Value} {n k:Nat} (h:∀ c∈xs,oneCell c=true):∀ c∈(xs.drop n).take k,oneCell c=true:=fun c hc=>h c (List.mem_of_mem_drop (List.mem_of_mem_take hc))
def zBo:List Value:=[.int .i64 0,.int .i64 0,.int .i64 0,.int .i64 0,.int .i64 0,.int .i64 0,.int .i64 0,.int .i64 0,.int .i64 0,.int .i64 0,.int .i64 0,.int .i64 0,.int .i64 0,.int .i64 0,.bool false,.bool false,.bool false,.bool false,.int .i64 0,.slice none 0 0]
def ds5 (i:Nat):Nat:=31+i
theorem results_boxW {P:Program} {fn:Func} {t:Tmp} {ty:TypeId} {b:Nat} {cs:List Value} {w:World} {tmps:Array Value} (h:fn.results=#[.cell t ty]) (ht:tmps.getD t undef=.pointer (some ⟨b,0,none⟩)) (ha:tAg P ty=some true) (hs:tSz P ty=some cs.length) (hb:BoxW w b cs):
    (results fn tmps).run P w=.ok (.agg cs.toArray) w:=by
  have:=run_loadVar_agg (P:=P) (ty:=ty) (w:=w) (b:=b) (o:=0) (cs:=cs) ha hs (fun j v e=>by rw [Nat.zero_add];exact hb.cell j e)
  have ht:tmps[t]?.getD undef=.pointer (some ⟨b,0,none⟩):=by simpa using ht
  simp [results,h,ht,this,asAddr]
theorem wpList_copyW {P:Program} {ops:Array Oper} {Q:Exit→Act→World→Prop} {o1 o2:Oper} {a:Act} {w:World} {ty:TypeId} {y z t:Operand} {d:Nat} {b1 b2:Nat} {cs c0:List Value}
    (g1:o1.guard=none) (g2:o2.guard=none) (e1:o1.op=.load ty y) (d1:o1.dst=some d) (e2:o2.op=.store ty t z) (d2:o2.dst=none)
    (hy:a.eval y=.pointer (some ⟨b1,0,none⟩)) (ht:(a.put (some d) (.agg cs.toArray)).eval t=.pointer (some ⟨b2,0,none⟩)) (hz:(a.put (some d) (.agg cs.toArray)).eval z=.agg cs.toArray)
    (ha:tAg P ty=some true) (hs:tSz P ty=some cs.length) (hb1:BoxW w b1 cs) (hb2:BoxW w b2 c0) (hl:c0.length=cs.length) (h1:∀ c∈cs,c.oneCell'=true)
    (h:∀ w',BoxW w' b2 cs→w.grownBy w' (some b2)→Q .normal (a.put (some d) (.agg cs.toArray)) w'):wpList P ops Q [o1,o2] a w:=by
  have hld:=run_loadVar_agg (P:=P) (ty:=ty) (w:=w) (b:=b1) (o:=0) (cs:=cs) ha hs (fun j v e=>by rw [Nat.zero_add];exact hb1.cell j e)
  obtain ⟨arr,T,rest,q1,q2⟩:=hb2
  have hsz:arr.size=c0.length+rest.length:=by have:=congrArg List.length q2;simpa using this
  have hst:=run_storeCells_at P b2 0 T cs 0 arr w q1 (by omega) h1
  simp only [Nat.add_zero,Nat.zero_add,List.take_zero,List.nil_append] at hst
  refine wpList_plain g1 fun K hK=>?_
  have r1:(execOp a.eval o1).run P w=.ok (.value (.agg cs.toArray)) w:=by simp [execOp,e1,hy,Instr.loadAt,Instr.sureAddr,hld]
  unfold Oper.wp
  rw [r1,Oper.upon_value,d1]
  refine hK _ _ (wpList_plain g2 fun K2 hK2=>?_)
  have r2:(execOp (a.put (some d) (.agg cs.toArray)).eval o2).run P w=.ok .skip (w.setRow b2 (cs++arr.toList.drop cs.length).toArray):=by
    have hst:Sem.run P (storeCells ⟨b2,0,none⟩ cs) w=Result.ok () (w.setRow b2 (cs++arr.toList.drop cs.length).toArray):=hst
    simp [execOp,e2,ht,hz,Instr.storeAt,Instr.sureAddr,storeVar,run_sizeOf_of hs,Value.cells,hst]
  unfold Oper.wp
  rw [r2,Oper.upon_skip]
  refine hK2 _ _ ?_
  show Q .normal ((a.put (some d) (.agg cs.toArray)).put o2.dst undef) _
  rw [d2]
  exact h _ ⟨_,T,_,setRow_heap w b2 arr _ T (0,0) q1,rfl⟩ ⟨rfl,rfl,rfl,by simp,fun k _ hk=>setRow_other w b2 k _ (fun e=>hk (by rw [e]))⟩
def zCo:List Value:=[.int .i64 0,.int .i64 0,.int .i64 0,.int .i64 0,.int .i64 0,.int .i64 0,.slice none 0 0]
def keyC (k:PairKey):List Value:=[.int .i64 k.BodyA,.int .i64 k.FixtureA,.int .i64 k.BodyB,.int .i64 k.FixtureB]
theorem con_inv {m:Mem} {c:Contact} {A:List Value} (h:Reps m noNames (tb.el Ix.tContact c).cells A):∃ f2,A=keyC c.Key++manC c.Manifold f2∧Rep m noNames (e_sl_ContactPoint c.Manifold.Points) f2:=by
  have n1:Reps m noNames [.v (.int .i64 c.Key.BodyA),.v (.int .i64 c.Key.FixtureA),.v (.int .i64 c.Key.BodyB),.v (.int .i64 c.Key.FixtureB),.v (.int .i64 c.Manifold.Normal.X),.v (.int .i64 c.Manifold.Normal.Y),e_sl_ContactPoint c.Manifold.Points] A:=h
  obtain ⟨t1,rfl,n2⟩:=n1.invV
  obtain ⟨t2,rfl,n3⟩:=n2.invV
  obtain ⟨t3,rfl,n4⟩:=n3.invV
  obtain ⟨t4,rfl,n5⟩:=n4.invV
  obtain ⟨t5,rfl,n6⟩:=n5.invV
  obtain ⟨t6,rfl,n7⟩:=n6.invV
  obtain ⟨f2,t7,rfl,n8,n9⟩:=n7.inv
  obtain rfl:=n9.inv0
  exact ⟨f2,rfl,n8⟩
def ds10 (i:Nat):Nat:=46+i
def dep10 (i:Nat):Bool:=Nat.beq i 5
def dep5 (i:Nat):Bool:=Nat.beq i 4
def val5 (b0 g i:Nat) (h0:Value) (A:List Value) (b:Body):Value × Mem→Nat→Value
  | _,0=>.pointer (some ⟨b0,5,none⟩)
  | _,1=>h0
  | _,2=>.int .i64 i
  | _,3=>.agg A.toArray
  | V,4=>.agg (bodC b V.1).toArray
  | _,_=>.pointer (some ⟨g,i*20,none⟩)
def val10 (b0 b6 g i:Nat) (h2 f2:Value) (c:Manifold):Value × Mem→Nat→Value
  | _,0=>.pointer (some ⟨b0,7,none⟩)
  | _,1=>h2
  | _,2=>.int .i64 i
  | _,3=>.pointer (some ⟨b6,4,none⟩)
  | _,4=>.agg (manC c f2).toArray
  | V,5=>.agg (manC c V.1).toArray
  | _,6=>.pointer (some ⟨g,i*7,none⟩)
  | _,_=>.pointer (some ⟨g,i*7+4,none⟩)
theorem val10_dep {b0 b6 g i:Nat} {h2 f2:Value} {c:Manifold}:∀ k V V',dep10 k=false→val10 b0 b6 g i h2 f2 c V k=val10 b0 b6 g i h2 f2 c V' k
  | 0,_,_,_=>rfl
  | 1,_,_,_=>rfl
  | 2,_,_,_=>rfl
  | 3,_,_,_=>rfl
  | 4,_,_,_=>rfl
  | 5,_,_,h=>by cases h
  | 6,_,_,_=>rfl
  | _+7,_,_,_=>rfl
theorem quiet_la {P:Program} {C:World→Prop} {o:Oper} {a:Act} {ty:TypeId} {y:Operand} {b:Nat} {cs:List Value} {T:TypeId} {w:World}
    (e:o.op=.load ty y) (hy:a.eval y=.pointer (some ⟨b,0,none⟩)) (ha:tAg P ty=some true) (hs:tSz P ty=some cs.length) (hC:w.heap[b]? = some (.cells cs.toArray T (0,0))):o.quietAt P a C w (.agg cs.toArray):=
  quiet_val (by
    have hld:=run_loadVar_agg (P:=P) (ty:=ty) (w:=w) (b:=b) (o:=0) (cs:=cs) ha hs (fun j v e=>by rw [Nat.zero_add,cell_of_blk hC];simpa using e)
    simp [execOp,e,hy,Instr.loadAt,Instr.sureAddr,hld])
theorem quiet_lo {P:Program} {C:World→Prop} {o:Oper} {a:Act} {ty:TypeId} {y:Operand} {b off:Nat} {cs:List Value} {w:World}
    (e:o.op=.load ty y) (hy:a.eval y=.pointer (some ⟨b,off,none⟩)) (ha:tAg P ty=some true) (hs:tSz P ty=some cs.length) (hC:∀ j v,cs[j]? = some v→w.cell? ⟨b,off+j,none⟩=some v):o.quietAt P a C w (.agg cs.toArray):=
  quiet_val (by
    have hld:=run_loadVar_agg (P:=P) (ty:=ty) (w:=w) (b:=b) (o:=off) (cs:=cs) ha hs hC
    simp [execOp,e,hy,Instr.loadAt,Instr.sureAddr,hld])
theorem quiet_ix {P:Program} {C:World→Prop} {o:Oper} {a:Act} {t e:TypeId} {x y:Operand} {sz g n cap i:Nat} {w:World} (ho:o.op=.indexAddr t x y) (hx:a.eval x=.slice (some ⟨g,0,none⟩) n cap) (hy:a.eval y=.int .i64 i)
    (ht:P.underlying t=some (.slice e)) (hs:tSz P e=some sz) (hi:i<n):o.quietAt P a C w (.pointer (some ⟨g,i*sz,none⟩)):=
  quiet_val (by simp [execOp,ho,hx,hy,run_ix ht hs hi])
theorem val5_dep {b0 g i:Nat} {h0:Value} {A:List Value} {b:Body}:∀ k V V',dep5 k=false→val5 b0 g i h0 A b V k=val5 b0 g i h0 A b V' k
  | 0,_,_,_=>rfl
  | 1,_,_,_=>rfl
  | 2,_,_,_=>rfl
  | 3,_,_,_=>rfl
  | 4,_,_,h=>by cases h
  | _+5,_,_,_=>rfl
set_option maxHeartbeats 4000000 in
theorem clone_new {x:World_} (hx:Wee x) {m:Mem} {v:Value} {w:World} (hi:Imm m w) (hr:Rep m noNames (e_World_ x) v):
    Calls Tryz.prog 35 #[v] w fun e w'=>∃ h0 h1 h2 h3 M xb xj xc xo,e=.returned (.agg (worC x h0 h1 h2 h3).toArray)∧Below w.heap.size w w'∧WN x w.heap.size M h0 h1 h2 h3 xb xj xc xo w':=by
  refine calls_of_wp Tryz.func35 rfl ?_
  refine clone_head' (by kernel_rfl) hx.L hi hr ?_
  intro a w1 mo b0 b1 h0 h1 h2 h3 xb xj xc xo hdf hsz t1 t2 S hmo PB PJ PC PO
  obtain ⟨tm,df⟩:=a
  obtain rfl:df=[]:=hdf
  obtain ⟨y0,y3,y4,y5,y6,y7,y8,y9,y10,y11,y12,y13,y14,y15,y16,y17,y18,y19,y20,y21,y22,y23,y24,y25,y26,y27,y28,y29,y30,y31,y32,y33,y34,y35,y36,y37,y38,y39,y40,y41,y42,y43,y44,y45,y46,y47,y48,y49,y50,y51,y52,y53,y54,y55,rfl⟩:=arr56 hsz t1 t2
  obtain ⟨nB,hnB⟩:∃ n,x.Bodies.length=n:=⟨_,rfl⟩
  obtain ⟨ad0,cap0,rfl⟩:=S.rB.hdr
  obtain ⟨ad2,cap2,rfl⟩:=S.rC.hdr
  rw [hnB] at S
  have f5:w1.cell? ⟨b0,5,none⟩=some (.slice ad0 nB cap0):=S.box0.cell 5 rfl
  clear hsz t1 t2
  have L0:LpB x w mo b0 b1 (.slice ad0 nB cap0) h1 (.slice ad2 x.Contacts.length cap2) h3 xj xc xo 0 w1 noMem xb:=⟨S,PB⟩
  have HH:Hid (Imm m w∧Mem.le m mo∧Reps noMem noNames (elC tb Ix.tJoint x.Joints) xj∧Part Ix.tContact 7 mo noMem x.Contacts 0 xc∧Reps noMem noNames (elC tb Ix.tPairKey x.Overlaps) xo∧Wee x):=⟨hi,hmo,PJ,PC,PO,hx⟩
  clear S PB hi hmo PJ PC PO hr hx
  have HB:Hid (x.Bodies.length=nB):=hnB
  clear hnB
  have z53:=Tryz.sizeOf53
  have a53:=Tryz.isAgg53
  have HL:Aside (LpB x w mo b0 b1 (.slice ad0 nB cap0) h1 (.slice ad2 x.Contacts.length cap2) h3 xj xc xo 0 w1 noMem xb):=L0
  clear L0
  go_wp2
  go_loopg [26] nB (fun kx s26 wr=>∃ (i:Nat) (M:Mem) (xb:List Value),s26=.int .i64 i∧i≤nB∧nB - i≤kx∧Aside (LpB x w mo b0 b1 (.slice ad0 nB cap0) h1 (.slice ad2 x.Contacts.length cap2) h3 xj xc xo i wr M xb))
  case atStart=>exact ⟨0,_,_,rfl,Nat.zero_le _,Nat.le_refl _,HL⟩
  case round=>
    obtain ⟨i,M,xb,rfl,hin,hkx,SL⟩:=hrel
    by_cases hlt:(i:Int)<nB
    · obtain ⟨g,cap,arr,T,e0,eg,hrow,hnc,hcs,htk⟩:=SL.out.S.rB.blk (by have:=HB.out;omega)
      injection e0 with e1 e2 e3
      subst e1
      subst e3
      have e4:nB=x.Bodies.length:=HB.out.symm
      clear e2
      subst e4
      have hlt':i<x.Bodies.length:=by omega
      obtain ⟨b,hb⟩:∃ b,x.Bodies[i]? = some b:=⟨_,List.getElem?_eq_getElem (by have:=HB.out;omega)⟩
      obtain ⟨A,hA⟩:∃ A,A=(xb.drop (i*20)).take 20:=⟨_,rfl⟩
      obtain ⟨n1,n2⟩:=SL.out.P.next hb (fun _=>rfl)
      have hcell:=row_at (i:=i) (sz:=20) htk
      have hone:=row_one (n:=i*20) (k:=20) SL.out.S.rB.2.1
      rw [← hA] at n1 n2 hcell hone
      have f5:wr.cell? ⟨b0,5,none⟩=some (.slice (some ⟨g,0,none⟩) x.Bodies.length cap0):=SL.out.S.box0.cell 5 rfl
      have ti:((i:Int)).toNat=i:=by omega
      have pi:(0:Int)≤(i:Int):=by omega
      have ra:tAg Tryz.prog 53=some true:=by kernel_rfl
      have rz:tSz Tryz.prog 53=some A.length:=by rw [n2];kernel_rfl
      have HA:Hid (_∧_∧_∧_∧_∧_∧_∧_∧_):=⟨n1,n2,hcell,hone,ra,rz,hrow,hb,eg⟩
      clear n1 n2 hcell hone ra rz hrow hb eg hcs htk hA
      go_wp2_with (first
        | (refine wpList_loadat (cs:=A) (b:=g) (off:=i*20) rfl rfl rfl rfl HA.out.2.2.2.2.1 HA.out.2.2.2.2.2.1 HA.out.2.2.2.2.2.2.1 HA.out.2.2.1 ?_)
        | (refine wpList_storeat (cs:=A) (arr:=zBo) (off:=0) rfl rfl rfl rfl rfl HA.out.2.2.2.2.2.1 (heap_at _ _ _ rfl) (by rw [HA.out.2.1];decide) HA.out.2.2.2.1 ?_;intro w2 hw2 hg2;have H2:Hid (_∧_):=⟨hw2,hg2⟩;clear hw2 hg2))
      obtain ⟨n1,n2,hcell,hone,ra,rz,hrow,hb,eg⟩:=HA.out
      have hw2:w2.heap[wr.heap.size]? = some (.cells A.toArray 53 (0,0)):=by
        have:=H2.out.1
        rw [n2] at this
        simpa [zBo] using this
      have B2:Below wr.heap.size wr w2:=((Below.refl _ _).alloc (Nat.le_refl _) _).grown H2.out.2 (by simp) (fun k e=>by have:=Option.some.inj e;omega)
      have S2:=SL.out.S.below B2
      have P2:=SL.out.P
      have rrow:=S2.rB
      have hrow2:=(B2.block g (heap_lt hrow)).trans hrow
      have f52:∀ w',Below w2.heap.size w2 w'→w'.cell? ⟨b0,5,none⟩=some (.slice (some ⟨g,0,none⟩) x.Bodies.length cap0):=fun w' hw=>(S2.box0.below hw).cell 5 rfl
      have hrep:Rep mo noNames (e_Body b) (.agg A.toArray):=by
        show Rep mo noNames (.agg (tb.el Ix.tBody b).cells) _
        exact .agg n1 hone
      have hfew:Few2 b.Fixtures:=HH.out.2.2.2.2.2.b b (List.mem_of_getElem? hb)
      have hnb:x.Bodies.length≤549755813888:=HH.out.2.2.2.2.2.L.b
      have rz20:tSz Tryz.prog 53=some 20:=by kernel_rfl
      clear HA H2 SL f5
      refine wp_region_call mixed25 6 4 ds5 dep5 (val5 b0 g i (.slice (some ⟨g,0,none⟩) x.Bodies.length cap0) A b) (undef,noMem) (PostN (aB b) w2.heap.size) rfl ?_ ?_ ?_ val5_dep ?_ ?_ (by decide) (fun V w' w'' h hb=>h.below hb) ?_
      · intro k o ho
        match k with
        | 0=>cases ho;simp [Region.binds]
        | 1=>cases ho;simp [Region.binds]
        | 2=>cases ho;simp [Region.binds]
        | 3=>cases ho;simp [Region.binds]
        | 4=>cases ho;simp [Region.binds]
        | 5=>cases ho;simp [Region.binds]
        | 6=>cases ho;simp [Region.binds]
        | k+7=>simp at ho
      · intro V k o hk hk4 ho
        match k,hk,hk4 with
        | 0,_,_=>
          cases ho
          refine ⟨rfl,rfl,by simp [ds5],fun ac hd hr w' hw=>?_⟩
          have r1:=(hr 1 (fun j _=>by simp [ds5];omega)).trans rfl
          simp [Oper.quietAt,Oper.quietUpon,execOp,r1,go_sem,val5]
        | 1,_,_=>
          cases ho
          refine ⟨rfl,rfl,by simp [ds5],fun ac hd hr w' hw=>?_⟩
          have r31:ac.tmps[31]? = some (.pointer (some ⟨b0,5,none⟩)):=hd ⟨0,.data⟩ (by simp) rfl
          exact quiet_l1 rfl (ev r31) (by kernel_rfl) (f52 w' hw)
        | 2,_,_=>
          cases ho
          refine ⟨rfl,rfl,by simp [ds5],fun ac hd hr w' hw=>?_⟩
          have r3:=(hr 3 (fun j _=>by simp [ds5];omega)).trans rfl
          simp [Oper.quietAt,Oper.quietUpon,execOp,r3,go_sem,val5]
        | 3,_,_=>
          cases ho
          refine ⟨rfl,rfl,by simp [ds5],fun ac hd hr w' hw=>?_⟩
          have r4:=(hr 4 (fun j _=>by simp [ds5];omega)).trans rfl
          exact quiet_la rfl (ev r4) ra rz ((hw.block _ (heap_lt hw2)).trans hw2)
        | 5,_,_=>
          cases ho
          refine ⟨rfl,rfl,by simp [ds5],fun ac hd hr w' hw=>?_⟩
          have r32:ac.tmps[32]? = some (.slice (some ⟨g,0,none⟩) x.Bodies.length cap0):=hd ⟨1,.data⟩ (by simp) rfl
          have r33:ac.tmps[33]? = some (.int .i64 i):=hd ⟨2,.data⟩ (by simp) rfl
          exact quiet_ix rfl (ev r32) (ev r33) (by kernel_rfl) rz20 hlt'
        | 4,_,h=>exact absurd rfl h
        | k+6,h,_=>exact absurd h (by omega)
      · refine ⟨_,rfl,rfl,rfl,by simp [ds5],fun V ac hd hr w' hw=>?_⟩
        have r34:ac.tmps[34]? = some (.agg A.toArray):=hd ⟨3,.data⟩ (by simp) rfl
        exact ⟨63,#[.agg A.toArray],by simp [execOp,resolve,invoke,Tryz.call63,r34,go_sem],body_new b hfew mo _ w' (S2.os.io.below hw) hrep w2.heap.size hw.size⟩
      · intro k o hk hd hk4 ho
        exact absurd (Nat.eq_of_beq_eq_true hd) hk4
      · intro k k' _ _ e
        simp only [ds5] at e
        omega
      · refine ⟨_,rfl,rfl,fun f hf _ k hk=>?_,fun V ac w3 hs hd hw hv hr hpst=>?_⟩
        · simp [Region.binds] at hf
          match k,hk with
          | 0,_=>simp [hf]
          | 1,_=>simp [hf]
          | 2,_=>simp [hf]
          | 3,_=>simp [hf]
          | 4,_=>simp [hf]
          | 5,_=>simp [hf]
          | k+6,h=>exact absurd h (by omega)
        · have S3:=S2.below hw
          have hrow3:=(hw.block g (heap_lt hrow2)).trans hrow2
          have hcs:i*20+20≤arr.size:=by
            obtain ⟨-,-,⟨-,h0,-⟩ | ⟨g',cap',arr',T',e0,q1,q2,q3,q4,q5⟩⟩:=S3.rB
            · omega
            · injection e0 with e1 e2 e3
              have:g=g':=by injection e1 with e1;injection e1
              subst this
              rw [hrow3] at q2
              injection q2 with q2
              injection q2 with q2
              subst q2
              have:(i+1)*20≤cap'*20:=Nat.mul_le_mul_right _ (by omega)
              omega
          refine op_storeat (cs:=bodC b V.1) rfl (ev (hv 5 (by decide))) (ev (hv 4 (by decide))) rz20 hrow3 hcs (bodC_one hpst.2.2.2) ?_
          intro w4 hw4 hg4
          obtain ⟨S4,P4⟩:=S3.putB P2 hb hpst (fun g hg=>(S2.os.ob g hg).2.1) S2.bel.size eg hrow3 hw4 hg4
          obtain ⟨tm,df⟩:=ac
          obtain rfl:df=[]:=hd
          have e2:=tmps_eq' [(31,.pointer (some ⟨b0,5,none⟩)),(32,.slice (some ⟨g,0,none⟩) x.Bodies.length cap0),(33,.int .i64 i),(34,.agg A.toArray),(35,.agg (bodC b V.1).toArray),(36,.pointer (some ⟨g,i*20,none⟩))] _ tm hs rfl rfl ⟨hv 0 (by decide),hv 1 (by decide),hv 2 (by decide),hv 3 (by decide),hv 4 (by decide),hv 5 (by decide),trivial⟩ (fun j hj=>hr j (fun k hk e=>hj (by
            match k,hk with
            | 0,_=>rw [← e];simp [ds5]
            | 1,_=>rw [← e];simp [ds5]
            | 2,_=>rw [← e];simp [ds5]
            | 3,_=>rw [← e];simp [ds5]
            | 4,_=>rw [← e];simp [ds5]
            | 5,_=>rw [← e];simp [ds5]
            | k+6,h=>exact absurd h (by omega))))
          simp only [List.foldl_cons,List.foldl_nil,List.setIfInBounds_toArray,List.set_cons_succ,List.set_cons_zero] at e2
          subst e2
          have HS:Aside (LpB x w mo b0 b1 (.slice (some ⟨g,0,none⟩) x.Bodies.length cap0) h1 (.slice ad2 x.Contacts.length cap2) h3 xj xc xo (i+1) w4 (joinM M V.2) (xb.take (i*20)++bodC b V.1++xb.drop (i*20+(bodC b V.1).length))):=⟨S4,P4⟩
          have wi:IntKind.i64.wrap ((i:Int)+1)=((i+1:Nat):Int):=by rw [IntKind.wrap_i64];omega
          have HZ:Hid (i<x.Bodies.length):=hlt'
          clear S4 P4 S3 hrow3 hcs hw4 hg4 hs hv hr hpst hw S2 P2 rrow hrow2 f52 hrep hfew rz20 hw2 B2 n1 n2 hcell hone ra rz hrow hb eg
          go_wp2
          go_roundg (x.Bodies.length - (i+1))
          case measure=>have:=HZ.out;omega
          case rel=>exact ⟨i+1,_,_,by simp,by have:=HZ.out;omega,by omega,HS⟩
    · have e4 : nB=x.Bodies.length:=HB.out.symm
      have hin':i=nB:=by omega
      subst hin'
      have SC0:Aside (LpC x w mo b0 b1 (.slice ad0 i cap0) h1 (.slice ad2 x.Contacts.length cap2) h3 xj xo 0 wr M xb xc):=⟨SL.out.S,SL.out.P.full e4,⟨HH.out.2.2.2.1.len,by simp [elC];exact .nil,HH.out.2.2.2.1.old⟩⟩
      have f7:wr.cell? ⟨b0,7,none⟩=some (.slice ad2 x.Contacts.length cap2):=SL.out.S.box0.cell 7 rfl
      clear SL hlt hkx hin HL f5
      have HD:Hid (i=x.Bodies.length):=e4
      clear e4 HB
      obtain ⟨nC,hnC⟩:∃ n,x.Contacts.length=n:=⟨_,rfl⟩
      rw [hnC] at SC0 f7
      have z78:=Tryz.sizeOf78
      have a78:=Tryz.isAgg78
      have HC:Hid (x.Contacts.length=nC):=hnC
      clear hnC
      go_wp2
      go_loopg [41] nC (fun kx s41 wt=>∃ (k:Nat) (M:Mem) (xc:List Value),s41=.int .i64 k∧k≤nC∧nC - k≤kx∧Aside (LpC x w mo b0 b1 (.slice ad0 i cap0) h1 (.slice ad2 nC cap2) h3 xj xo k wt M xb xc))
      case atStart=>exact ⟨0,_,_,rfl,Nat.zero_le _,Nat.le_refl _,SC0⟩
      case round=>
        obtain ⟨k,M,xc,rfl,hin,hkx,SL⟩:=hrel
        by_cases hlt:(k:Int)<nC
        · obtain ⟨g,cap,arr,T,e0,eg,hrow,hnc,hcs,htk⟩:=SL.out.S.rC.blk (by have:=HC.out;omega)
          injection e0 with e1 e2 e3
          subst e1
          subst e3
          have e4:nC=x.Contacts.length:=HC.out.symm
          clear e2
          subst e4
          have hlt':k<x.Contacts.length:=by omega
          obtain ⟨c,hb⟩:∃ c,x.Contacts[k]? = some c:=⟨_,List.getElem?_eq_getElem hlt'⟩
          obtain ⟨A,hA⟩:∃ A,A=(xc.drop (k*7)).take 7:=⟨_,rfl⟩
          obtain ⟨n1,n2⟩:=SL.out.P.next hb (fun _=>rfl)
          have hcell:=row_at (i:=k) (sz:=7) htk
          have hone:=row_one (n:=k*7) (k:=7) SL.out.S.rC.2.1
          rw [← hA] at n1 n2 hcell hone
          have f7:wr.cell? ⟨b0,7,none⟩=some (.slice (some ⟨g,0,none⟩) x.Contacts.length cap2):=SL.out.S.box0.cell 7 rfl
          have ti:((k:Int)).toNat=k:=by omega
          have pi:(0:Int)≤(k:Int):=by omega
          have ra:tAg Tryz.prog 78=some true:=by kernel_rfl
          have rz:tSz Tryz.prog 78=some A.length:=by rw [n2];kernel_rfl
          have HA:Hid (_∧_∧_∧_∧_∧_∧_∧_∧_):=⟨n1,n2,hcell,hone,ra,rz,hrow,hb,eg⟩
          clear n1 n2 hcell hone ra rz hrow hb eg hcs htk hA
          go_wp2_with (first
            | (refine wpList_loadat (cs:=A) (b:=g) (off:=k*7) rfl rfl rfl rfl HA.out.2.2.2.2.1 HA.out.2.2.2.2.2.1 HA.out.2.2.2.2.2.2.1 HA.out.2.2.1 ?_)
            | (refine wpList_storeat (cs:=A) (arr:=zCo) (off:=0) rfl rfl rfl rfl rfl HA.out.2.2.2.2.2.1 (heap_at _ _ _ rfl) (by rw [HA.out.2.1];decide) HA.out.2.2.2.1 ?_;intro w2 hw2 hg2;have H2:Hid (_∧_):=⟨hw2,hg2⟩;clear hw2 hg2))
          obtain ⟨n1,n2,hcell,hone,ra,rz,hrow,hb,eg⟩:=HA.out
          have hw2:w2.heap[wr.heap.size]? = some (.cells A.toArray 78 (0,0)):=by
            have:=H2.out.1
            rw [n2] at this
            simpa [zCo] using this
          obtain ⟨f2,rfl,hf2⟩:=con_inv n1
          have B2:Below wr.heap.size wr w2:=((Below.refl _ _).alloc (Nat.le_refl _) _).grown H2.out.2 (by simp) (fun k e=>by have:=Option.some.inj e;omega)
          have S2:=SL.out.S.below B2
          have P2:=SL.out.P
          have Rb:=SL.out.B
          have hrow2:=(B2.block g (heap_lt hrow)).trans hrow
          have f72:∀ w',Below w2.heap.size w2 w'→w'.cell? ⟨b0,7,none⟩=some (.slice (some ⟨g,0,none⟩) x.Contacts.length cap2):=fun w' hw=>(S2.box0.below hw).cell 7 rfl
          have fm:∀ w',Below w2.heap.size w2 w'→∀ j v,(manC c.Manifold f2)[j]? = some v→w'.cell? ⟨wr.heap.size,4+j,none⟩=some v:=fun w' hw j v e=>by
            rw [cell_of_blk ((hw.block _ (heap_lt hw2)).trans hw2),List.getElem?_toArray,List.getElem?_append_right (by show 4≤_;omega)]
            show (manC c.Manifold f2)[4+j - 4]? = some v
            rw [show 4+j - 4=j by omega];exact e
          have hfew:c.Manifold.Points.length≤1099511627776:=HH.out.2.2.2.2.2.c c (List.mem_of_getElem? hb)
          have hnb:x.Contacts.length≤549755813888:=HH.out.2.2.2.2.2.L.c
          have ra3:tAg Tryz.prog 74=some true:=by kernel_rfl
          have rz3:tSz Tryz.prog 74=some 3:=by kernel_rfl
          clear HA H2 SL f7
          refine wp_region_call mixed25 8 5 ds10 dep10 (val10 b0 wr.heap.size g k (.slice (some ⟨g,0,none⟩) x.Contacts.length cap2) f2 c.Manifold) (undef,noMem) (PostN (aM c.Manifold) w2.heap.size) rfl ?_ ?_ ?_ val10_dep ?_ ?_ (by decide) (fun V w' w'' h hb=>h.below hb) ?_
          · intro j o ho
            match j with
            | 0=>cases ho;simp [Region.binds]
            | 1=>cases ho;simp [Region.binds]
            | 2=>cases ho;simp [Region.binds]
            | 3=>cases ho;simp [Region.binds]
            | 4=>cases ho;simp [Region.binds]
            | 5=>cases ho;simp [Region.binds]
            | 6=>cases ho;simp [Region.binds]
            | 7=>cases ho;simp [Region.binds]
            | 8=>cases ho;simp [Region.binds]
            | j+9=>simp at ho
          · intro V j o hk hk4 ho
            match j,hk,hk4 with
            | 0,_,_=>
              cases ho
              refine ⟨rfl,rfl,by simp [ds10],fun ac hd hr w' hw=>?_⟩
              have r1:=(hr 1 (fun j _=>by simp [ds10];omega)).trans rfl
              simp [Oper.quietAt,Oper.quietUpon,execOp,r1,go_sem,val10]
            | 1,_,_=>
              cases ho
              refine ⟨rfl,rfl,by simp [ds10],fun ac hd hr w' hw=>?_⟩
              have r31:ac.tmps[46]? = some (.pointer (some ⟨b0,7,none⟩)):=hd ⟨0,.data⟩ (by simp) rfl
              exact quiet_l1 rfl (ev r31) (by kernel_rfl) (f72 w' hw)
            | 2,_,_=>
              cases ho
              refine ⟨rfl,rfl,by simp [ds10],fun ac hd hr w' hw=>?_⟩
              have r3:=(hr 5 (fun j _=>by simp [ds10];omega)).trans rfl
              simp [Oper.quietAt,Oper.quietUpon,execOp,r3,go_sem,val10]
            | 3,_,_=>
              cases ho
              refine ⟨rfl,rfl,by simp [ds10],fun ac hd hr w' hw=>?_⟩
              have r4:=(hr 6 (fun j _=>by simp [ds10];omega)).trans rfl
              simp [Oper.quietAt,Oper.quietUpon,execOp,r4,go_sem,val10]
            | 4,_,_=>
              cases ho
              refine ⟨rfl,rfl,by simp [ds10],fun ac hd hr w' hw=>?_⟩
              have r4:ac.tmps[49]? = some (.pointer (some ⟨wr.heap.size,4,none⟩)):=hd ⟨3,.data⟩ (by simp) rfl
              exact quiet_lo rfl (ev r4) ra3 rz3 (fm w' hw)
            | 6,_,_=>
              cases ho
              refine ⟨rfl,rfl,by simp [ds10],fun ac hd hr w' hw=>?_⟩
              have r32:ac.tmps[47]? = some (.slice (some ⟨g,0,none⟩) x.Contacts.length cap2):=hd ⟨1,.data⟩ (by simp) rfl
              have r33:ac.tmps[48]? = some (.int .i64 k):=hd ⟨2,.data⟩ (by simp) rfl
              exact quiet_ix (e:=78) rfl (ev r32) (ev r33) (by kernel_rfl) (by kernel_rfl) hlt'
            | 7,_,_=>
              cases ho
              refine ⟨rfl,rfl,by simp [ds10],fun ac hd hr w' hw=>?_⟩
              have r4:ac.tmps[52]? = some (.pointer (some ⟨g,k*7,none⟩)):=hd ⟨6,.data⟩ (by simp) rfl
              simp [Oper.quietAt,Oper.quietUpon,execOp,r4,go_sem,val10]
            | 5,_,h=>exact absurd rfl h
            | j+8,h,_=>exact absurd h (by omega)
          · refine ⟨_,rfl,rfl,rfl,by simp [ds10],fun V ac hd hr w' hw=>?_⟩
            have r34:ac.tmps[50]? = some (.agg (manC c.Manifold f2).toArray):=hd ⟨4,.data⟩ (by simp) rfl
            exact ⟨81,#[.agg (manC c.Manifold f2).toArray],by simp [execOp,resolve,invoke,Tryz.call81,r34,go_sem],manifold_new c.Manifold hfew mo f2 w' (S2.os.io.below hw) hf2 w2.heap.size hw.size⟩
          · intro j o hk hd hk4 ho
            exact absurd (Nat.eq_of_beq_eq_true hd) hk4
          · intro j j' _ _ e
            simp only [ds10] at e
            omega
          · refine ⟨_,rfl,rfl,fun f hf hcl j hk=>?_,fun V ac w3 hs hd hw hv hr hpst=>?_⟩
            · simp [Region.binds] at hf
              match j,hk with
              | 0,_=>simp [hf]
              | 1,_=>simp [hf]
              | 2,_=>simp [hf]
              | 3,_=>simp [hf]
              | 4,_=>simp [hf]
              | 5,_=>simp [hf]
              | 6,_=>exact hcl 7 _ rfl hf.1 ⟨6,.data⟩ (by simp) rfl
              | 7,_=>simp [hf]
              | j+8,h=>exact absurd h (by omega)
            · have S3:=S2.below hw
              have hrow3:=(hw.block g (heap_lt hrow2)).trans hrow2
              have hcs:k*7+4+3≤arr.size:=by
                obtain ⟨-,-,⟨-,h0,-⟩ | ⟨g',cap',arr',T',e0,q1,q2,q3,q4,q5⟩⟩:=S3.rC
                · omega
                · injection e0 with e1 e2 e3
                  have:g=g':=by injection e1 with e1;injection e1
                  subst this
                  rw [hrow3] at q2
                  injection q2 with q2
                  injection q2 with q2
                  subst q2
                  have:(k+1)*7≤cap'*7:=Nat.mul_le_mul_right _ (by omega)
                  omega
              refine op_storeat (cs:=manC c.Manifold V.1) rfl (ev (hv 7 (by decide))) (ev (hv 5 (by decide))) rz3 hrow3 hcs (by
                intro u hu
                simp only [manC,List.mem_cons,List.not_mem_nil,or_false] at hu
                rcases hu with rfl | rfl | rfl
                · rfl
                · rfl
                · exact hpst.2.2.2) ?_
              intro w4 hw4 hg4
              obtain ⟨S4,P4⟩:=S3.putC P2 hb hpst (fun g hg=>(S2.os.ob g hg).2.1) S2.bel.size eg hrow3 hw4 hg4
              obtain ⟨tm,df⟩:=ac
              obtain rfl:df=[]:=hd
              have e2:=tmps_eq' [(46,.pointer (some ⟨b0,7,none⟩)),(47,.slice (some ⟨g,0,none⟩) x.Contacts.length cap2),(48,.int .i64 k),(49,.pointer (some ⟨wr.heap.size,4,none⟩)),(50,.agg (manC c.Manifold f2).toArray),(51,.agg (manC c.Manifold V.1).toArray),(52,.pointer (some ⟨g,k*7,none⟩)),(53,.pointer (some ⟨g,k*7+4,none⟩))] _ tm hs rfl rfl ⟨hv 0 (by decide),hv 1 (by decide),hv 2 (by decide),hv 3 (by decide),hv 4 (by decide),hv 5 (by decide),hv 6 (by decide),hv 7 (by decide),trivial⟩ (fun j hj=>hr j (fun j' hk e=>hj (by
                match j',hk with
                | 0,_=>rw [← e];simp [ds10]
                | 1,_=>rw [← e];simp [ds10]
                | 2,_=>rw [← e];simp [ds10]
                | 3,_=>rw [← e];simp [ds10]
                | 4,_=>rw [← e];simp [ds10]
                | 5,_=>rw [← e];simp [ds10]
                | 6,_=>rw [← e];simp [ds10]
                | 7,_=>rw [← e];simp [ds10]
                | j'+8,h=>exact absurd h (by omega))))
              simp only [List.foldl_cons,List.foldl_nil,List.setIfInBounds_toArray,List.set_cons_succ,List.set_cons_zero] at e2
              subst e2
              have HS:Aside (LpC x w mo b0 b1 (.slice ad0 i cap0) h1 (.slice (some ⟨g,0,none⟩) x.Contacts.length cap2) h3 xj xo (k+1) w4 (joinM M V.2) xb (xc.take (k*7+4)++manC c.Manifold V.1++xc.drop (k*7+4+(manC c.Manifold V.1).length))):=⟨S4,Rb.mono (joinM_l S3.os.iM.1 hpst.1.1),P4⟩
              have wi:IntKind.i64.wrap ((k:Int)+1)=((k+1:Nat):Int):=by rw [IntKind.wrap_i64];omega
              have HZ:Hid (k<x.Contacts.length):=hlt'
              clear S4 P4 S3 hrow3 hcs hw4 hg4 hs hv hr hpst hw S2 P2 hrow2 f72 fm hfew rz3 ra3 hw2 B2 n1 n2 hcell hone ra rz hrow hb eg Rb hf2
              go_wp2
              go_roundg (x.Contacts.length - (k+1))
              case measure=>have:=HZ.out;omega
              case rel=>exact ⟨k+1,_,_,by simp,by have:=HZ.out;omega,by omega,HS⟩
        · have hin':k=nC:=by omega
          subst hin'
          have hk:k=x.Contacts.length:=HC.out.symm
          have S:=SL.out.S
          have P:=SL.out.P
          have Rb:=SL.out.B
          have Rj:=HH.out.2.2.1
          have Ro:=HH.out.2.2.2.2.1
          have ra:tAg Tryz.prog 31=some true:=by kernel_rfl
          have rz:tSz Tryz.prog 31=some 11:=by kernel_rfl
          have hone:∀ u∈worC x (.slice ad0 i cap0) h1 (.slice ad2 k cap2) h3,u.oneCell'=true:=by
            intro u hu
            simp only [worC,List.mem_cons,List.not_mem_nil,or_false] at hu
            rcases hu with rfl | rfl | rfl | rfl | rfl | rfl | rfl | rfl | rfl | rfl | rfl <;> first | rfl | exact S.rJ.one | exact S.rO.one
          have HX:Hid (_∧_∧_∧_∧_∧_∧_∧_):=⟨S,P,Rb,Rj,Ro,ra,rz,hone⟩
          clear S P Rb Rj Ro ra rz hone SL
          go_wp2_with (refine wpList_copyW (cs:=worC x (.slice ad0 i cap0) h1 (.slice ad2 k cap2) h3) rfl rfl rfl rfl rfl rfl rfl rfl rfl HX.out.2.2.2.2.2.1 HX.out.2.2.2.2.2.2.1 HX.out.1.box0 HX.out.1.box1 rfl HX.out.2.2.2.2.2.2.2 ?_;intro wf hbx hgf;have HG:Hid (_∧_):=⟨hbx,hgf⟩;clear hbx hgf)
          obtain ⟨S,P,Rb,Rj,Ro,ra,rz,hone⟩:=HX.out
          have hgf:=HG.out.2
          have r0:Tryz.f35.results=#[.cell 2 31]:=rfl
          refine bodyPost_ret (results_boxW (cs:=worC x (.slice ad0 i cap0) h1 (.slice ad2 k cap2) h3) r0 rfl ra rz HG.out.1) rfl ?_
          have hm:some b1∈[some b0,some b1,rowB (.slice ad0 i cap0),rowB h1,rowB (.slice ad2 k cap2),rowB h3]:=by simp
          obtain ⟨a0,a1,a2⟩:=S.ap
          have O:=S.os.store hm hgf
          refine ⟨_,_,_,_,rfl,S.bel.grown hgf S.bel.size (fun k e=>by cases e;exact (S.os.ob b1 hm).1),M,xb,xj,xc,xo,?_⟩
          refine ⟨O.iM,O.new,fun g hg=>?_,a2,S.rB.grown hgf (fun g e1 e2=>?_),S.rJ.grown hgf (fun g e1 e2=>?_),S.rC.grown hgf (fun g e1 e2=>?_),S.rO.grown hgf (fun g e1 e2=>?_),Rb,Rj.mono (by intro _ _ _ e;cases e),P.full hk,Ro.mono (by intro _ _ _ e;cases e)⟩
          · obtain ⟨q1,q2,q3,-⟩:=O.ob g (List.mem_cons_of_mem _ (List.mem_cons_of_mem _ hg))
            exact ⟨q1,q2,q3⟩
          · exact a1 b1 rfl (by rw [← e2,← e1];simp)
          · exact a1 b1 rfl (by rw [← e2,← e1];simp)
          · exact a1 b1 rfl (by rw [← e2,← e1];simp)
          · exact a1 b1 rfl (by rw [← e2,← e1];simp)
end GoForm
end

section
set_option linter.all false
set_option maxRecDepth 100000
open Go Go.Rx Go.Proofs Go.RowKit
namespace GoForm
theorem WN.grown {x B M h0 h1 h2 h3 xb xj xc xo w w' b} (h:WN x B M h0 h1 h2 h3 xb xj xc xo w) (hg:w.grownBy w' (some b)) (hb:b<B):WN x B M h0 h1 h2 h3 xb xj xc xo w':=by
  have ne:∀ g,some g∈[rowB h0,rowB h1,rowB h2,rowB h3]→some g≠some b:=fun g hg e=>by
    have:=(h.ob g hg).1
    cases e;omega
  refine ⟨h.iM.grown hg (fun o=>?_),h.new,fun g hg'=>⟨(h.ob g hg').1,Nat.lt_of_lt_of_le (h.ob g hg').2.1 hg.size,(h.ob g hg').2.2⟩,h.ap,h.rB.grown hg fun g e=>ne g (by simp [e]),h.rJ.grown hg fun g e=>ne g (by simp [e]),h.rC.grown hg fun g e=>ne g (by simp [e]),h.rO.grown hg fun g e=>ne g (by simp [e]),h.pB,h.pJ,h.pC,h.pO⟩
  cases e:M b o with
  | none=>rfl
  | some u=>have:=h.new b o u e;omega
theorem worC_one {x h0 h1 h2 h3} (q0:oneCell h0=true) (q1:oneCell h1=true) (q2:oneCell h2=true) (q3:oneCell h3=true):∀ u∈worC x h0 h1 h2 h3,oneCell u=true:=by
  intro u hu
  simp only [worC,List.mem_cons,List.not_mem_nil,or_false] at hu
  rcases hu with rfl | rfl | rfl | rfl | rfl | rfl | rfl | rfl | rfl | rfl | rfl <;> first | rfl | assumption
theorem clone_reg {id:Nat} {o1 o2 o3:Oper} {tb tl tc:Nat} {Q:Exit→Act→World→Prop} {a:Act} {w:World} (g1:o1.guard=none) (g2:o2.guard=none) (g3:o3.guard=none)
    (e1:o1.op=.load 31 (.tmp tb)) (d1:o1.dst=some tl) (e2:o2.op=.call { callee:=.value (.func 35),args:=#[.tmp tl],argTypes:=#[31] }) (d2:o2.dst=some tc) (e3:o3.op=.store 31 (.tmp tb) (.tmp tc)) (d3:o3.dst=none)
    {b0:Nat} {cs:List Value} {x:World_} {m:Mem} (hx:Wee x) (hi:Imm m w) (hr:Rep m noNames (e_World_ x) (.agg cs.toArray)) (hl:cs.length=11) (ht:a.tmps[tb]? = some (.pointer (some ⟨b0,0,none⟩))) (n1:tl≠tb) (n2:tc≠tb) (l1:tl<a.tmps.size) (l2:tc<a.tmps.size) (hb:BoxW w b0 cs)
    (k:∀ w5 M h0 h1 h2 h3 xb xj xc xo,w.grownBy w5 (some b0)→BoxW w5 b0 (worC x h0 h1 h2 h3)→WN x w.heap.size M h0 h1 h2 h3 xb xj xc xo w5→Q .normal ((a.put (some tl) (.agg cs.toArray)).put (some tc) (.agg (worC x h0 h1 h2 h3).toArray)) w5):(Code.region id #[o1,o2,o3] false).wp Tryz.prog Q a w:=by
  have ra:tAg Tryz.prog 31=some true:=by kernel_rfl
  have rz:tSz Tryz.prog 31=some 11:=by kernel_rfl
  have hld:=run_loadVar_agg (P:=Tryz.prog) (ty:=31) (w:=w) (b:=b0) (o:=0) (cs:=cs) ra (by rw [hl];exact rz) (fun j v e=>by rw [Nat.zero_add];exact hb.cell j e)
  refine wp_region_lit (l:=[o1,o2,o3]) ?_
  refine wpList_plain g1 fun K hK=>?_
  have r1:(execOp a.eval o1).run Tryz.prog w=.ok (.value (.agg cs.toArray)) w:=by simp [execOp,e1,ev ht,Instr.loadAt,Instr.sureAddr,hld]
  unfold Oper.wp
  rw [r1,Oper.upon_value,d1]
  refine hK _ _ (wpList_plain g2 fun K2 hK2=>?_)
  have t1:(a.put (some tl) (.agg cs.toArray)).tmps[tl]? = some (.agg cs.toArray):=put_eq l1
  have r2:(execOp (a.put (some tl) (.agg cs.toArray)).eval o2).run Tryz.prog w=.ok (.enter 35 #[.agg cs.toArray]) w:=by
    generalize (a.put (some tl) (.agg cs.toArray))=a1 at t1
    simp [execOp,e2,resolve,invoke,Tryz.call35,t1,go_sem]
  unfold Oper.wp
  rw [r2]
  refine Calls.mono (clone_new hx hi hr) ?_
  rintro _ w4 ⟨h0,h1,h2,h3,M,xb,xj,xc,xo,rfl,hbel,W⟩
  show K2 ((a.put (some tl) (.agg cs.toArray)).put o2.dst (.agg (worC x h0 h1 h2 h3).toArray)) w4
  rw [d2]
  refine hK2 _ _ (wpList_plain g3 fun K3 hK3=>?_)
  have t2:((a.put (some tl) (.agg cs.toArray)).put (some tc) (.agg (worC x h0 h1 h2 h3).toArray)).tmps[tb]? = some (.pointer (some ⟨b0,0,none⟩)):=by
    rw [put_ne (fun e=>n2 e.symm),put_ne (fun e=>n1 e.symm)];exact ht
  have t3:((a.put (some tl) (.agg cs.toArray)).put (some tc) (.agg (worC x h0 h1 h2 h3).toArray)).tmps[tc]? = some (.agg (worC x h0 h1 h2 h3).toArray):=put_eq (by rw [put_sz];exact l2)
  obtain ⟨arr,T,rest,q1,q2⟩:=hb.below hbel
  have hsz:arr.size=cs.length+rest.length:=by have:=congrArg List.length q2;simpa using this
  have hone:=worC_one (x:=x) W.rB.one W.rJ.one W.rC.one W.rO.one
  have hst:=run_storeCells_at Tryz.prog b0 0 T (worC x h0 h1 h2 h3) 0 arr w4 q1 (by show 0+11≤_;omega) hone
  simp only [Nat.add_zero,Nat.zero_add,List.take_zero,List.nil_append] at hst
  have r3:(execOp ((a.put (some tl) (.agg cs.toArray)).put (some tc) (.agg (worC x h0 h1 h2 h3).toArray)).eval o3).run Tryz.prog w4=.ok .skip (w4.setRow b0 (worC x h0 h1 h2 h3++arr.toList.drop (worC x h0 h1 h2 h3).length).toArray):=by
    have hst:Sem.run Tryz.prog (storeCells ⟨b0,0,none⟩ (worC x h0 h1 h2 h3)) w4=Result.ok () (w4.setRow b0 (worC x h0 h1 h2 h3++arr.toList.drop (worC x h0 h1 h2 h3).length).toArray):=hst
    simp [execOp,e3,ev t2,ev t3,Instr.storeAt,Instr.sureAddr,storeVar,run_sizeOf_of rz,Value.cells,hst]
    rfl
  unfold Oper.wp
  rw [r3,Oper.upon_skip,d3]
  have hg:w4.grownBy (w4.setRow b0 (worC x h0 h1 h2 h3++arr.toList.drop (worC x h0 h1 h2 h3).length).toArray) (some b0):=⟨rfl,rfl,rfl,by simp,fun k _ hk=>setRow_other w4 b0 k _ (fun e=>hk (by rw [e]))⟩
  have hg2:=below_grown hbel
  refine hK3 _ _ (k _ M h0 h1 h2 h3 xb xj xc xo ⟨hg.os.trans hg2.os,hg.tape.trans hg2.tape,hg.output.trans hg2.output,Nat.le_trans hg2.size hg.size,fun k hk hn=>(hg.block k (Nat.lt_of_lt_of_le hk hg2.size) hn).trans (hbel.block k hk)⟩ ⟨_,T,_,setRow_heap w4 b0 arr _ T (0,0) q1,rfl⟩ (W.grown hg hb.lt))
end GoForm
end

section
set_option linter.all false
set_option maxRecDepth 100000
open Go Go.Rx Go.Proofs Go.RowKit
namespace GoForm
theorem reps_wide {m:Mem} {bl:Names} {L:List AV} {xs:List Value} (h:Reps m noNames L xs):Reps m bl L xs:=h.widen (by intro id b e;cases e)
theorem rowName {M:Mem} {w h n sz xs} (r:RowW w h n sz xs):∃ nm:Bnd,(∀ b k,nm=.blk b k→rowB h=some b)∧∀ (bl:Names) id,bl id=some nm→Rep M bl (.rw id sz) h∧∀ L,Reps M noNames L xs→((bl id=some .nil∧L=[])∨OwnAt M bl w id L):=by
  obtain ⟨h1,h2,⟨rfl,rfl,ad,rfl⟩ | ⟨g,cap,arr,T,rfl,q1,q2,q3,q4,q5⟩⟩:=r
  · refine ⟨.nil,by simp,fun bl id e=>⟨.rwnil e,fun L hL=>.inl ⟨e,?_⟩⟩⟩
    exact List.length_eq_zero_iff.1 hL.length
  · refine ⟨.blk g (arr.size,xs.length),fun b k e=>by cases e;exact rowB_some q1,fun bl id e=>⟨.rw e h1.symm q3 q4,fun L hL=>.inr ⟨g,_,arr,T,xs,arr.toList.drop (n*sz),e,q2,rfl,?_,reps_wide hL,h2⟩⟩⟩
    rw [← q5,List.take_append_drop]
theorem Apart.inj:∀ {l:List (Option Nat)},Apart l→∀ {i j:Nat} {g:Nat},l[i]? = some (some g)→l[j]? = some (some g)→i=j
  | [],_,i,j,g,h,_=>by simp at h
  | o::l,⟨h1,h2⟩,0,0,g,_,_=>rfl
  | o::l,⟨h1,h2⟩,0,j+1,g,a,b=>by
    have a:o=some g:=by simpa using a
    exact absurd (List.mem_of_getElem? (by simpa using b)) (h1 g a)
  | o::l,⟨h1,h2⟩,i+1,0,g,a,b=>by
    have b:o=some g:=by simpa using b
    exact absurd (List.mem_of_getElem? (by simpa using a)) (h1 g b)
  | o::l,⟨h1,h2⟩,i+1,j+1,g,a,b=>by
    exact congrArg (·+1) (Apart.inj h2 (g:=g) (by simpa using a) (by simpa using b))
def nm6 (n0 n1 n2 n3 n4 n5:Bnd):Names:=fun id=>[n0,n1,n2,n3,n4,n5][id]?
noncomputable def hp6 (x:World_):Hp:=[(0,.cells (worA x (.rw 2 20) (.rw 3 24) (.rw 4 7) (.rw 5 4))),(1,.cells (worZ.map AV.v)),(2,.cells (elC tb Ix.tBody x.Bodies)),(3,.cells (elC tb Ix.tJoint x.Joints)),(4,.cells (elC tb Ix.tContact x.Contacts)),(5,.cells (elC tb Ix.tPairKey x.Overlaps))]
theorem restWS {x:World_} {B:Nat} {M:Mem} {w:World} {b0 b1:Nat} {h0 h1 h2 h3:Value} {xb xj xc xo:List Value} (iM:ImF M w) (new:∀ b o u,M b o=some u→B≤b)
    (ob:∀ g,some g∈[some b0,some b1,rowB h0,rowB h1,rowB h2,rowB h3]→B≤g∧g<w.heap.size∧∀ o,M g o=none) (ap:Apart [some b0,some b1,rowB h0,rowB h1,rowB h2,rowB h3])
    (B0:BoxW w b0 (worC x h0 h1 h2 h3)) (B1:BoxW w b1 worZ) (rB:RowW w h0 x.Bodies.length 20 xb) (rJ:RowW w h1 x.Joints.length 24 xj) (rC:RowW w h2 x.Contacts.length 7 xc) (rO:RowW w h3 x.Overlaps.length 4 xo)
    (pB:Reps M noNames (elC tb Ix.tBody x.Bodies) xb) (pJ:Reps M noNames (elC tb Ix.tJoint x.Joints) xj) (pC:Reps M noNames (elC tb Ix.tContact x.Contacts) xc) (pO:Reps M noNames (elC tb Ix.tPairKey x.Overlaps) xo):
    ∃ bl:Names,WSim B noMem (hp6 x) M bl w∧(∃ k,bl 0=some (.blk b0 k))∧(∃ k,bl 1=some (.blk b1 k))∧∀ d,6≤d→bl d=none:=by
  obtain ⟨a0,T0,r0,q0,z0⟩:=B0
  obtain ⟨a1,T1,r1,q1,z1⟩:=B1
  obtain ⟨n2,u2,v2⟩:=rowName (M:=M) rB
  obtain ⟨n3,u3,v3⟩:=rowName (M:=M) rJ
  obtain ⟨n4,u4,v4⟩:=rowName (M:=M) rC
  obtain ⟨n5,u5,v5⟩:=rowName (M:=M) rO
  have key:∀ id b k,nm6 (.blk b0 (a0.size,11)) (.blk b1 (a1.size,11)) n2 n3 n4 n5 id=some (.blk b k)→[some b0,some b1,rowB h0,rowB h1,rowB h2,rowB h3][id]? = some (some b):=by
    intro id b k e
    match id,e with
    | 0,e=>cases e;rfl
    | 1,e=>cases e;rfl
    | 2,e=>exact congrArg some (u2 b k (Option.some.inj e))
    | 3,e=>exact congrArg some (u3 b k (Option.some.inj e))
    | 4,e=>exact congrArg some (u4 b k (Option.some.inj e))
    | 5,e=>exact congrArg some (u5 b k (Option.some.inj e))
    | id+6,e=>simp [nm6] at e
  refine ⟨nm6 (.blk b0 (a0.size,11)) (.blk b1 (a1.size,11)) n2 n3 n4 n5,⟨iM.1,(by intro b o u e;cases e),fun b o u e=>.inr ⟨new b o u e,iM.2 b o u e⟩,?_,?_,?_,?_,trivial⟩,⟨_,rfl⟩,⟨_,rfl⟩,?_⟩
  · intro id l hf
    match id,hf with
    | 0,hf=>
      cases hf
      refine .inr ⟨b0,_,a0,T0,worC x h0 h1 h2 h3,r0,rfl,q0,rfl,z0,?_,worC_one rB.one rJ.one rC.one rO.one⟩
      exact .cons .v (.cons .v (.cons .v (.cons .v (.cons .v (.cons (v2 _ 2 rfl).1 (.cons (v3 _ 3 rfl).1 (.cons (v4 _ 4 rfl).1 (.cons (v5 _ 5 rfl).1 (.cons .v (.cons .v .nil))))))))))
    | 1,hf=>
      cases hf
      refine .inr ⟨b1,_,a1,T1,worZ,r1,rfl,q1,rfl,z1,repsV _,by decide⟩
    | 2,hf=>cases hf;exact (v2 _ 2 rfl).2 _ pB
    | 3,hf=>cases hf;exact (v3 _ 3 rfl).2 _ pJ
    | 4,hf=>cases hf;exact (v4 _ 4 rfl).2 _ pC
    | 5,hf=>cases hf;exact (v5 _ 5 rfl).2 _ pO
    | id+6,hf=>cases hf
  · intro id s p hf
    match id,hf with
    | 0,hf=>cases hf
    | 1,hf=>cases hf
    | 2,hf=>cases hf
    | 3,hf=>cases hf
    | 4,hf=>cases hf
    | 5,hf=>cases hf
    | id+6,hf=>cases hf
  · intro id b k e
    exact ob b (List.mem_of_getElem? (key id b k e))
  · intro id id' b k k' e e'
    exact ap.inj (key id b k e) (key id' b k' e')
  · intro d hd
    exact List.getElem?_eq_none hd
section
variable {P:Program} {tb:Tb} {cx:Ctx P tb}
theorem kfin_end {rs:List tb.Ix} {vs:List ResultVar} {L:SLS tb} {r:Tup tb rs} {e:AExit} {Lf:LS} (h:EndOk L (kfin cx [] rs vs) r e Lf):(e=.normal∨e=.ret)∧∃ (Lz:LS) (xs:List AV) (L2:LS),Tells Lf Lz∧RessOk P Lz vs xs∧Tells { Lz with e:=[(0,tupleOf xs)],s:=[] } L2∧find 0 L2.e=some (resAV rs r)∧∀ d,L2.f d:=by
  obtain ⟨L',h',hi',x',ht⟩:=h
  unfold kfin at h'
  cases e with
  | exit j=>cases h'
  | _ =>
    obtain ⟨L7,h',g7⟩:=cutR_ok cx h'
    obtain ⟨xs0,hxs0,h'⟩:=got_e h'
    obtain ⟨L9,h',g9⟩:=frzK_ok cx (gs:=[]) h'
    obtain ⟨xs,hxs,h'⟩:=got_e h'
    obtain ⟨hbare,h'⟩:=tst_e h'
    obtain ⟨s1,s2⟩:=tupD_ok h'
    have hl:=tupD_len h'
    refine ⟨by simp,L9.av,avL xs,⟨[(0,resAV rs r)],[],[],fun _=>True⟩,(ht.trans g7.t).trans g9.t,resSs_ok hxs,?_,by rw [find_cons,if_pos rfl],fun _=>trivial⟩
    refine LS.ren.tells (q:=fun _=>none) (r:=fun _=>none) (nils:=fun _=>false) ⟨by simp,?_,trivial,?_,by simp,by simp⟩
    · intro t y hf
      have hf:find t [(0,resAV rs r)]=some y:=hf
      rw [find_cons] at hf
      split at hf
      · rename_i h0
        subst h0
        cases hf
        refine .inr ⟨_,by show find 0 [(0,tupleOf (avL xs))]=_;rw [find_cons,if_pos rfl],?_⟩
        have hb2:(tupleOf (avL xs)).isBare=true:=by
          have h1:=hasL_bare hbare
          cases xs with
          | nil=>rfl
          | cons x xs=>
            cases xs with
            | nil =>
              have:(AV.clean (fun _=>false) x.av&&true)=true:=h1
              rw [Bool.and_true] at this
              exact this
            | cons x2 xs=>exact h1
        show SubN _ ((tupleOf (avL xs)).re _) _
        rw [bare_of hb2]
        exact (tupleOf_sub s1 (by rw [avL_length];exact hl)).n
      · simp [find] at hf
    · intro id b hf;simp [find] at hf
theorem end_post {N:Nat} {W0:World} {m0:Mem} {rs:List tb.Ix} {fn:Func} {L:SLS tb} {r:Tup tb rs} {e:AExit} {Lf:LS} {a:Act} {w:World} {m:Mem} {bl:Names} {R:Ending→World→Prop} (h:EndOk L (kfin cx [] rs fn.results.toList) r e Lf) (s:Sim N W0 m0 Lf [] a w m bl)
    (hR:∀ v m',Below W0.heap.size W0 w→Imm m' w→(∀ b o u,m' b o=some u→m0 b o=some u∨(W0.heap.size≤b∧w.frozen? ⟨b,o,none⟩=false))→Rep m' noNames (resAV rs r) v→R (.returned v) w):bodyPost P fn R e.to a w:=by
  obtain ⟨he,Lz,xs,L2,t1,hxs,t2,h0,hf⟩:=kfin_end h
  obtain ⟨m1,bl1,s1⟩:=t1 _ _ _ _ _ _ _ _ s
  obtain ⟨v,hv1,hv2⟩:=RessOk.results s1 hxs
  have s3:Sim 1 W0 m0 { Lz with e:=[(0,tupleOf xs)],s:=[] } [] { tmps:=#[v],defers:=[] } w m1 bl1:=by
    refine ⟨rfl,rfl,s1.below,s1.ws,?_,trivial,s1.free⟩
    intro t x hx
    rw [find_cons] at hx
    split at hx
    · rename_i h0;subst h0;cases hx;simpa using hv2
    · simp [find] at hx
  obtain ⟨m2,bl2,s4⟩:=t2 _ _ _ _ _ _ _ _ s3
  have hv:=s4.env 0 _ h0
  have hb:bl2=noNames:=funext fun id=>s4.free id (hf id)
  subst hb
  have hb:bodyPost P fn R .normal a w:=⟨s1.defers,v,hv1,hR v m2 s1.below s4.ws.imm s4.ws.grow (by simpa using hv)⟩
  rcases he with rfl | rfl <;> exact hb
end
end GoForm
end

section
set_option linter.all false
set_option maxRecDepth 100000
open Go Go.Rx Go.Proofs Go.RowKit
namespace GoForm
def ownN (B:Nat) (w:World):Mem:=fun b o=>if B≤b∧w.frozen? ⟨b,o,none⟩=false then w.cell? ⟨b,o,none⟩ else none
theorem le_ownN {B:Nat} {w:World} {m:Mem} (h:Imm m w) (hn:∀ b o u,m b o=some u→B≤b∧w.frozen? ⟨b,o,none⟩=false):Mem.le m (ownN B w):=fun b o v e=>by
  unfold ownN
  rw [if_pos (hn b o v e)];exact h b o v e
def NewW (B:Nat) (w:World) (v:Value):Prop:=∃ y,Wee y∧Rep (ownN B w) noNames (e_World_ y) v
noncomputable def L6 (x:World_) (e:SEnv tb):SLS tb:=⟨e,[],[(0,.cells [.i .i64 x.Settings.TimeStep,.i .i64 x.Settings.Gravity.X,.i .i64 x.Settings.Gravity.Y,.i .i64 x.Settings.Iterations,.i .i64 x.Settings.SleepSteps,.rw 2 Ix.tBody,.rw 3 Ix.tJoint,.rw 4 Ix.tContact,.rw 5 Ix.tPairKey,.i .i64 x.NextID,.i .i64 x.Frame]),
  (1,.cells (worZ.map SV.con)),(2,.arr Ix.tBody x.Bodies),(3,.arr Ix.tJoint x.Joints),(4,.arr Ix.tContact x.Contacts),(5,.arr Ix.tPairKey x.Overlaps)],6,[]⟩
theorem L6_h (x:World_) (e:SEnv tb):avH [] (L6 x e).h=hp6 x:=by kernel_rfl
theorem worRep {x:World_} {m:Mem} {h0 h1 h2 h3:Value} (r0:Rep m noNames (e_sl_Body x.Bodies) h0) (r1:Rep m noNames (e_sl_Joint x.Joints) h1) (r2:Rep m noNames (e_sl_Contact x.Contacts) h2) (r3:Rep m noNames (e_sl_PairKey x.Overlaps) h3) (hone:∀ u∈worC x h0 h1 h2 h3,oneCell u=true):Rep m noNames (e_World_ x) (.agg (worC x h0 h1 h2 h3).toArray):=by
  have e:e_World_ x=.agg (worA x (e_sl_Body x.Bodies) (e_sl_Joint x.Joints) (e_sl_Contact x.Contacts) (e_sl_PairKey x.Overlaps)):=rfl
  rw [e]
  exact .agg (.cons .v (.cons .v (.cons .v (.cons .v (.cons .v (.cons r0 (.cons r1 (.cons r2 (.cons r3 (.cons .v (.cons .v .nil))))))))))) hone
theorem worRep_inv {x:World_} {m:Mem} {v:Value} (h:Rep m noNames (e_World_ x) v):∃ h0 h1 h2 h3,v=.agg (worC x h0 h1 h2 h3).toArray∧Rep m noNames (e_sl_Body x.Bodies) h0∧Rep m noNames (e_sl_Joint x.Joints) h1∧Rep m noNames (e_sl_Contact x.Contacts) h2∧Rep m noNames (e_sl_PairKey x.Overlaps) h3∧∀ u∈worC x h0 h1 h2 h3,oneCell u=true:=by
  have e:e_World_ x=.agg (worA x (e_sl_Body x.Bodies) (e_sl_Joint x.Joints) (e_sl_Contact x.Contacts) (e_sl_PairKey x.Overlaps)):=rfl
  rw [e] at h
  obtain ⟨cs,rfl,h1,h2⟩:=rep_agg h
  obtain ⟨h0,h1',h2',h3,rfl,q0,q1,q2,q3⟩:=worA_inv h1
  exact ⟨h0,h1',h2',h3,rfl,q0,q1,q2,q3,h2⟩
noncomputable def code21:Code:=Tryz.f21.body.getD .skip
noncomputable abbrev cx21:Ctx Tryz.prog tb:=cx [c_35,c_26] []
theorem code21_eq:code21=.seq (fstC code21) (.seq (fstC (sndC code21)) (sndC (sndC code21))):=by kernel_rfl
structure Seen21 where
  p1:Option AV
  p2:Option AV
  p4:Option AV
  h0:Option ABlk
  h1:Option ABlk
noncomputable def run21 (x:World_) (id:Int):Option Seen21:=
  exec cx21 (lvl cx21 6) (fun _=>false) (barF []) 33 (fstC code21) .n ⟨argSVs (cx [] []) [.d Ix.tWorld_,.d Ix.tint] (x,id,()) 0,[],[],0,[]⟩ fun e L=>match e with
    | .normal=>some ⟨find 1 L.av.e,find 2 L.av.e,find 4 L.av.e,find 0 L.av.h,find 1 L.av.h⟩
    | _=>none
noncomputable def worAx (x:World_):List AV:=worA x (e_sl_Body x.Bodies) (e_sl_Joint x.Joints) (e_sl_Contact x.Contacts) (e_sl_PairKey x.Overlaps)
theorem run21_eq (x:World_) (id:Int):run21 x id=some ⟨some (.v (.int .i64 id)),some (.ptr 0 0),some (.ptr 1 0),some (.cells (worAx x)),some (.cells (worZ.map AV.v))⟩:=by kernel_rfl
noncomputable def an21:An tb:=(.t (some ⟨[.arr 2 (some 5) .tBody],[]⟩) .n .n)
noncomputable def L21 (x:World_) (id:Int):SLS tb:=L6 x [(2,.ptr 0 0),(4,.ptr 1 0),(1,.i .i64 id)]
noncomputable def rest21 (x:World_) (id:Int):Option World_:=
  exec cx21 (lvl cx21 6) (fun _=>false) (barF [(4,9)]) 33 (sndC (sndC code21)) an21 (L21 x id) (kfin cx21 [] [Ix.tWorld_] Tryz.f21.results.toList)
theorem split21 (x:World_) (id:Int):world_WakeBody x id=Rx.Bind (world_Clone x) fun y=>rest21 y id:=by kernel_rfl
end GoForm
end

section
set_option linter.all false
set_option maxRecDepth 100000
open Go Go.Rx Go.Proofs Go.RowKit
namespace GoForm
noncomputable def code19:Code:=Tryz.f19.body.getD .skip
noncomputable abbrev cx19:Ctx Tryz.prog tb:=cx [c_26,c_35,c_50,c_51,c_52,c_55,c_69,c_101,c_59] [i_53,i_54,i_57,i_56,i_100,i_58]
theorem code19_eq:code19=.seq (fstC code19) (.seq (fstC (sndC code19)) (.seq (fstC (sndC (sndC code19))) (.seq (fstC (sndC (sndC (sndC code19)))) (sndC (sndC (sndC (sndC code19))))))):=by kernel_rfl
structure Seen19 where
  p2:Option AV
  p3:Option AV
  p4:Option AV
  p5:Option AV
  p6:Option AV
  h0:Option ABlk
  h1:Option ABlk
  h2:Option ABlk
noncomputable def run19 (x:World_) (id:Int):Option (Seen19 ⊕ Tup tb [Ix.tWorld_,Ix.tint]):=
  exec cx19 (lvl cx19 6) (fun _=>false) (barF []) 90 (fstC code19) .n ⟨argSVs (cx [] []) [.d Ix.tWorld_,.d Ix.tint] (x,id,()) 0,[],[],0,[]⟩ fun e L=>match e with
    | .normal=>exec cx19 (lvl cx19 6) (fun _=>false) (barF []) 90 (fstC (sndC code19)) .n L fun e L=>match e with
      | .normal=>exec cx19 (lvl cx19 6) (fun _=>false) (barF []) 90 (fstC (sndC (sndC code19))) .n L fun e L=>match e with
        | .normal=>some (.inl ⟨find 2 L.av.e,find 3 L.av.e,find 4 L.av.e,find 5 L.av.e,find 6 L.av.e,find 0 L.av.h,find 1 L.av.h,find 2 L.av.h⟩)
        | e=>(kfin cx19 [] [Ix.tWorld_,Ix.tint] Tryz.f19.results.toList e L).map .inr
      | _=>none
    | _=>none
noncomputable def zW:World_:=⟨⟨0,⟨0,0⟩,0,0⟩,[],[],[],[],0,0⟩
theorem run19_eq (x:World_) (id:Int):run19 x id=Rx.Bind (world_FindBody x id) fun at'=>Let (decide (at'<0)) fun c=>if c=true then some (.inr (zW,(8:Int))) else
    some (.inl ⟨some (.ptr 0 0),some (.ptr 1 0),some (.ptr 2 0),some (.v (.int .i64 0)),some (.v (.int .i64 at')),some (.cells (worAx x)),some (.cells [.v (.int .i64 id)]),some (.cells (worZ.map AV.v))⟩):=by kernel_rfl
noncomputable def an19:An tb:=(.t none .n (.t none .n (.t none (.t none .n (.t none (.t (some ⟨[.val 7 .tsl_int [0],.val 25 .tint []],[]⟩) (.t none .n (.t none .n (.t (some ⟨[.val 7 .tsl_int [0]],[]⟩) .n .n))) .n) .n)) (.t none (.t none .n (.t none (.t (some ⟨[.val 7 .tsl_int [0],.val 45 .tint []],[]⟩) (.t none .n (.t none .n (.t (some ⟨[.val 7 .tsl_int [0]],[]⟩) .n .n))) .n) .n)) .n))))
noncomputable def L19 (x:World_) (at' id:Int):SLS tb:=L6 x [(2,.ptr 0 0),(3,.cp [.i .i64 id]),(4,.ptr 1 0),(5,.con (.int .i64 0)),(6,.i .i64 at')]
noncomputable def rest19 (x:World_) (at' id:Int):Option (World_ × Int):=
  exec cx19 (lvl cx19 6) (fun d=>memN d [3]) (barF []) 90 (sndC (sndC (sndC (sndC code19)))) an19 (L19 x at' id) (kfin cx19 [] [Ix.tWorld_,Ix.tint] Tryz.f19.results.toList)
theorem split19 (x:World_) (id:Int):world_RemoveBody x id=Rx.Bind (world_FindBody x id) fun at'=>Let (decide (at'<0)) fun c=>if c=true then some (zW,(8:Int)) else Rx.Bind (world_Clone x) fun y=>rest19 y at' id:=by kernel_rfl
end GoForm
end

section
set_option linter.all false
set_option maxRecDepth 100000
open Go Go.Rx Go.Proofs Go.RowKit
namespace GoForm
theorem getD_some {t:Array Value} {i:Nat} {v:Value} (h:t.getD i undef=v) (hi:i<t.size):t[i]? = some v:=by
  rw [Array.getD_eq_getD_getElem?,Array.getElem?_eq_getElem hi] at h
  rw [Array.getElem?_eq_getElem hi]
  exact congrArg some h
theorem ws_clone {x:World_} {W0 w4 w5:World} {M M1:Mem} {b0 b1:Nat} {h0 h1 h2 h3:Value} {xb xj xc xo:List Value} (n0:W0.heap.size≤b0) (n1:W0.heap.size≤b1) (l0:b0<w4.heap.size) (l1:b1<w4.heap.size) (ne:b0≠b1) (hW:W0.heap.size≤w4.heap.size) (hg:w4.grownBy w5 (some b0))
    (B0:BoxW w5 b0 (worC x h0 h1 h2 h3)) (B1:BoxW w4 b1 worZ) (W:WN x w4.heap.size M h0 h1 h2 h3 xb xj xc xo w5) (i1:ImF M1 w5) (m1:∀ b o u,M1 b o=some u→W0.heap.size≤b∧b<w4.heap.size∧b≠b0∧b≠b1):
    ∃ bl:Names,WSim W0.heap.size noMem (hp6 x) (joinM M M1) bl w5∧(∃ k,bl 0=some (.blk b0 k))∧(∃ k,bl 1=some (.blk b1 k))∧∀ d,6≤d→bl d=none:=by
  have hle:=joinM_l W.iM.1 i1.1
  have lt:∀ g,some g∈[rowB h0,rowB h1,rowB h2,rowB h3]→w4.heap.size≤g:=fun g hg=>(W.ob g hg).1
  have hM:∀ b,b<w4.heap.size→∀ o,M b o=none:=fun b hb o=>by
    cases e:M b o with
    | none=>rfl
    | some u=>have:=W.new b o u e;omega
  have hj:∀ {g:Nat},(∀ o,M g o=none)→(∀ o,M1 g o=none)→∀ o,joinM M M1 g o=none:=fun a b o=>by
    unfold joinM;rw [b o];exact a o
  have hn1:∀ g,(g=b0∨g=b1∨w4.heap.size≤g)→∀ o,M1 g o=none:=fun g hg o=>by
    cases e:M1 g o with
    | none=>rfl
    | some u=>
      obtain ⟨z1,z2,z3,z4⟩:=m1 g o u e
      rcases hg with h | h | h
      · exact absurd h z3
      · exact absurd h z4
      · omega
  refine restWS (joinF W.iM i1) (fun b o u e=>(joinM_of e).elim (fun h=>Nat.le_trans hW (W.new b o u h)) (fun h=>(m1 b o u h).1)) ?_ ⟨?_,?_,W.ap⟩ B0 (B1.grown hg (by simp;omega)) W.rB W.rJ W.rC W.rO (W.pB.mono hle) (W.pJ.mono hle) (W.pC.mono hle) (W.pO.mono hle)
  · intro g hg'
    rcases List.mem_cons.1 hg' with h | hg'
    · cases h;exact ⟨n0,Nat.lt_of_lt_of_le l0 hg.size,hj (hM _ l0) (hn1 _ (.inl rfl))⟩
    rcases List.mem_cons.1 hg' with h | hg'
    · cases h;exact ⟨n1,Nat.lt_of_lt_of_le l1 hg.size,hj (hM _ l1) (hn1 _ (.inr (.inl rfl)))⟩
    · obtain ⟨z1,z2,z3⟩:=W.ob g hg'
      exact ⟨Nat.le_trans hW z1,z2,hj z3 (hn1 _ (.inr (.inr z1)))⟩
  · intro g e h
    cases e
    rcases List.mem_cons.1 h with h | h
    · exact ne (Option.some.inj h)
    · have:=lt _ h;omega
  · intro g e h
    cases e
    have:=lt _ h;omega
theorem reg21:∃ o1 o2 o3:Oper,fstC (sndC code21)=.region 1 #[o1,o2,o3] false∧o1.guard=none∧o2.guard=none∧o3.guard=none∧o1.op=.load 31 (.tmp 2)∧o1.dst=some 6∧o2.op=.call { callee:=.value (.func 35),args:=#[.tmp 6],argTypes:=#[31] }∧o2.dst=some 7∧o3.op=.store 31 (.tmp 2) (.tmp 7)∧o3.dst=none:=
  ⟨_,_,_,rfl,rfl,rfl,rfl,rfl,rfl,rfl,rfl,rfl,rfl⟩
set_option maxHeartbeats 1000000 in
theorem wake_new {x:World_} {id:Int} {r:World_} (hx:Wee x) (hcl:world_Clone x=some x) (hw:world_WakeBody x id=some r) (hwr:Wee r) {m:Mem} {v:Value} {w:World} (hi:Imm m w) (hr:Rep m noNames (e_World_ x) v):
    Calls Tryz.prog 21 #[v,.int .i64 id] w fun e w'=>∃ v',e=.returned v'∧Below w.heap.size w w'∧NewW w.heap.size w' v':=by
  have hrest:rest21 x id=some r:=by
    rw [split21,hcl] at hw
    exact hw
  refine calls_of_wp (c:=code21) Tryz.func21 (by kernel_rfl) ?_
  have hav:avE [] (argSVs (cx [] []) [.d Ix.tWorld_,.d Ix.tint] (x,id,()) 0)=envFrom 0 [e_World_ x,.v (.int .i64 id)]:=by kernel_rfl
  have s0:Sim 33 w m (⟨argSVs (cx [] []) [.d Ix.tWorld_,.d Ix.tint] (x,id,()) 0,[],[],0,[]⟩:SLS tb).av [] { tmps:=#[v,.int .i64 id]++Array.replicate (Tryz.f21.ntmps - (#[v,.int .i64 id]:Array Value).size) undef,defers:=[] } w m noNames:=
    ⟨rfl,by simp [Tryz.ntmps21],Below.refl _ _,⟨hi,Mem.le.refl m,fun _ _ _ h=>.inl h,(by intro id l h;cases h),(by intro id l p h;cases h),(by simp [noNames]),(by simp [noNames]),trivial⟩,(by
      show EnvRep m noNames (avE [] (argSVs (cx [] []) [.d Ix.tWorld_,.d Ix.tint] (x,id,()) 0)) _
      rw [hav];exact EnvRep.args (.cons hr (.cons .v .nil)) _),trivial,fun d _=>rfl⟩
  have hi0:RI [] (argSVs (cx [] []) [.d Ix.tWorld_,.d Ix.tint] (x,id,()) 0:SEnv tb):=by
    intro t G y hy
    have hk:keepE (tb:=tb) [] (argSVs (cx [] []) [.d Ix.tWorld_,.d Ix.tint] (x,id,()) 0)=true:=rfl
    have:=(keepE_e hk _ (find_mem hy)).2
    cases this
  have key:=exec_ok (lvl_ok 6) (L:=(⟨argSVs (cx [] []) [.d Ix.tWorld_,.d Ix.tint] (x,id,()) 0,[],[],0,[]⟩:SLS tb)) hi0 (run21_eq x id)
  rw [code21_eq]
  refine wp_seq (key _ _ _ _ _ _ _ s0 _ ?_)
  rintro e L' a' w4 m' bl' ⟨L1,h',hi1,x1,t1⟩ s1
  cases e with
  | exit j=>cases h'
  | ret=>cases h'
  | normal=>
    obtain ⟨m1,bl1,s⟩:=t1 _ _ _ _ _ _ _ _ s1
    have h':=Option.some.inj h'
    have p1:=congrArg Seen21.p1 h'
    have p2:=congrArg Seen21.p2 h'
    have p4:=congrArg Seen21.p4 h'
    have g0:=congrArg Seen21.h0 h'
    have g1:=congrArg Seen21.h1 h'
    obtain ⟨b0,n0,c0,v0,l0,B0,R0,O0⟩:=boxOf s.ws g0 (s.env 2 _ p2)
    obtain ⟨b1,n1,c1,v1,l1,B1,R1,O1⟩:=boxOf s.ws g1 (s.env 4 _ p4)
    obtain rfl:=repsV_eq R1
    have vid:=(s.env 1 _ p1).eq_v
    obtain ⟨z0,-,-⟩:=s.ws.own 0 b0 _ l0
    obtain ⟨z1,-,-⟩:=s.ws.own 1 b1 _ l1
    have ne:b0≠b1:=fun e=>by subst e;exact absurd (s.ws.inj 0 1 _ _ _ l0 l1) (by decide)
    have hR:Rep m1 noNames (e_World_ x) (.agg c0.toArray):=by
      have e:e_World_ x=.agg (worAx x):=rfl
      have eb:bareL (worAx x)=worAx x:=rfl
      have:=R0.bare (bl':=noNames)
      rw [eb] at this
      rw [e]
      exact .agg this O0
    have hc0:c0.length=11:=R0.length.symm
    obtain ⟨o1,o2,o3,eq,q1,q2,q3,q4,q5,q6,q7,q8,q9⟩:=reg21
    have hsz:=s.size
    rw [eq]
    refine wp_seq (clone_reg q1 q2 q3 q4 q5 q6 q7 q8 q9 hx s.ws.imm hR hc0 (getD_some v0 (by omega)) (by decide) (by decide) (by omega) (by omega) B0 ?_)
    intro w5 M h0 h1 h2 h3 xb xj xc xo hg B0' W
    obtain ⟨bl,hws,⟨k0,hk0⟩,⟨k1,hk1⟩,hfree⟩:=ws_clone (W0:=w) (M1:=noMem) z0 z1 B0.lt B1.lt ne s.below.size hg B0' B1 W ⟨(by intro b o u e;cases e),(by intro b o u e;cases e)⟩ (by intro b o u e;cases e)
    have s5:Sim 33 w noMem (L21 x id).av [] ((a'.put (some 6) (.agg c0.toArray)).put (some 7) (.agg (worC x h0 h1 h2 h3).toArray)) w5 (joinM M noMem) bl:=by
      refine ⟨s.defers,put_sz.trans (put_sz.trans hsz),s.below.grown hg s.below.size (fun k e=>by have:=Option.some.inj e;omega),?_,?_,trivial,hfree⟩
      · show WSim _ _ (avH [] (L21 x id).h) _ _ _
        rw [show (L21 x id).h=(L6 x [(2,.ptr 0 0),(4,.ptr 1 0),(1,.i .i64 id)]).h from rfl,L6_h]
        exact hws
      · have tt:∀ j,j≠6→j≠7→((a'.put (some 6) (.agg c0.toArray)).put (some 7) (.agg (worC x h0 h1 h2 h3).toArray)).tmps.getD j undef=a'.tmps.getD j undef:=fun j h6 h7=>by
          rw [Array.getD_eq_getD_getElem?,put_ne h7,put_ne h6,← Array.getD_eq_getD_getElem?]
        intro t y h
        have h:find t [(2,AV.ptr 0 0),(4,.ptr 1 0),(1,.v (.int .i64 id))]=some y:=h
        rw [find_cons] at h
        split at h
        · rename_i e;subst e;cases h;rw [tt 2 (by decide) (by decide),v0];exact .ptr hk0
        rw [find_cons] at h
        split at h
        · rename_i e;subst e;cases h;rw [tt 4 (by decide) (by decide),v1];exact .ptr hk1
        rw [find_cons] at h
        split at h
        · rename_i e;subst e;cases h;rw [tt 1 (by decide) (by decide),vid];exact .v
        cases h
    have hi2:RI [] (L21 x id).e:=by
      intro t G y hy
      have hk:keepE (tb:=tb) [] (L21 x id).e=true:=rfl
      have:=(keepE_e hk _ (find_mem hy)).2
      cases this
    have key2:=exec_ok (lvl_ok 6) (L:=L21 x id) hi2 hrest
    refine key2 _ _ _ _ _ _ _ s5 _ ?_
    rintro e Lf a6 w6 m6 bl6 hend s6
    exact end_post hend s6 (fun v m' hb hi hn hv=>⟨v,rfl,hb,r,hwr,hv.mono (le_ownN hi (fun b o u e=>(hn b o u e).elim (fun h=>by cases h) (fun h=>h)))⟩)
end GoForm
end

section
set_option linter.all false
set_option maxRecDepth 100000
open Go Go.Rx Go.Proofs Go.RowKit
namespace GoForm
theorem bind_inv {α β:Type} {m:Option α} {k:α→Option β} {r:β} (h:Rx.Bind m k=some r):∃ a,m=some a∧k a=some r:=by
  cases m with
  | none=>cases h
  | some a=>exact ⟨a,rfl,h⟩
theorem reg19:∃ o1 o2 o3:Oper,fstC (sndC (sndC (sndC code19)))=.region 4 #[o1,o2,o3] false∧o1.guard=none∧o2.guard=none∧o3.guard=none∧o1.op=.load 31 (.tmp 2)∧o1.dst=some 19∧o2.op=.call { callee:=.value (.func 35),args:=#[.tmp 19],argTypes:=#[31] }∧o2.dst=some 20∧o3.op=.store 31 (.tmp 2) (.tmp 20)∧o3.dst=none:=
  ⟨_,_,_,rfl,rfl,rfl,rfl,rfl,rfl,rfl,rfl,rfl,rfl⟩
theorem tup_inv {m bl} {a b:AV} {v:Value} (h:Rep m bl (.tup [a,b]) v):∃ x y,v=.tuple #[x,y]∧Rep m bl a x∧Rep m bl b y:=by
  cases h with
  | tup h=>
    obtain ⟨x,t,rfl,h1,h2⟩:=h.inv
    obtain ⟨y,t,rfl,h3,h4⟩:=h2.inv
    obtain rfl:=h4.inv0
    exact ⟨x,y,rfl,h1,h3⟩
theorem rep_e {m m':Mem} {c sz v} (h:Rep m noNames (.sl c sz []) v):Rep m' noNames (.sl c sz []) v:=by
  generalize hl:([]:List AV)=l at h
  cases h with
  | slnil=>exact .slnil
  | @sl _ _ _ _ a cap cs h1 h2 h3 h4 h5 h6 h7=>
    subst hl
    obtain rfl:=h2.inv0
    exact .sl h1 .nil h3 h4 (by simp) h6 h7
theorem zW_rep {m m':Mem} {v:Value} (h:Rep m noNames (e_World_ zW) v):Rep m' noNames (e_World_ zW) v:=by
  obtain ⟨h0,h1,h2,h3,rfl,q0,q1,q2,q3,q4⟩:=worRep_inv h
  exact worRep (rep_e q0) (rep_e q1) (rep_e q2) (rep_e q3) q4
def oneM (bI:Nat) (v:Value):Mem:=fun b o=>if b=bI∧o=0 then some v else none
theorem oneM_of {bI:Nat} {v:Value} {b o:Nat} {u:Value} (h:oneM bI v b o=some u):b=bI∧o=0∧u=v:=by
  unfold oneM at h
  by_cases hb:b=bI∧o=0
  · rw [if_pos hb] at h;exact ⟨hb.1,hb.2,(Option.some.inj h).symm⟩
  · rw [if_neg hb] at h;cases h
set_option maxHeartbeats 2000000 in
theorem remove_new {x:World_} {id:Int} {r:World_ × Int} (hx:Wee x) (hcl:world_Clone x=some x) (hw:world_RemoveBody x id=some r) (hwr:Wee r.1) {m:Mem} {v:Value} {w:World} (hi:Imm m w) (hr:Rep m noNames (e_World_ x) v):
    Calls Tryz.prog 19 #[v,.int .i64 id] w fun e w'=>∃ v' c,e=.returned (.tuple #[v',c])∧Below w.heap.size w w'∧NewW w.heap.size w' v':=by
  rw [split19] at hw
  obtain ⟨at',hf,hw⟩:=bind_inv hw
  have hw:(if decide (at'<0)=true then some (zW,(8:Int)) else Rx.Bind (world_Clone x) fun y=>rest19 y at' id)=some r:=hw
  have hrun:run19 x id=(if decide (at'<0)=true then some (.inr (zW,(8:Int))) else
    some (.inl ⟨some (.ptr 0 0),some (.ptr 1 0),some (.ptr 2 0),some (.v (.int .i64 0)),some (.v (.int .i64 at')),some (.cells (worAx x)),some (.cells [.v (.int .i64 id)]),some (.cells (worZ.map AV.v))⟩)):=by
    rw [run19_eq,hf];rfl
  refine calls_of_wp (c:=code19) Tryz.func19 (by kernel_rfl) ?_
  have hav:avE [] (argSVs (cx [] []) [.d Ix.tWorld_,.d Ix.tint] (x,id,()) 0)=envFrom 0 [e_World_ x,.v (.int .i64 id)]:=by kernel_rfl
  have s0:Sim 90 w m (⟨argSVs (cx [] []) [.d Ix.tWorld_,.d Ix.tint] (x,id,()) 0,[],[],0,[]⟩:SLS tb).av [] { tmps:=#[v,.int .i64 id]++Array.replicate (Tryz.f19.ntmps - (#[v,.int .i64 id]:Array Value).size) undef,defers:=[] } w m noNames:=
    ⟨rfl,by simp [Tryz.ntmps19],Below.refl _ _,⟨hi,Mem.le.refl m,fun _ _ _ h=>.inl h,(by intro id l h;cases h),(by intro id l p h;cases h),(by simp [noNames]),(by simp [noNames]),trivial⟩,(by
      show EnvRep m noNames (avE [] (argSVs (cx [] []) [.d Ix.tWorld_,.d Ix.tint] (x,id,()) 0)) _
      rw [hav];exact EnvRep.args (.cons hr (.cons .v .nil)) _),trivial,fun d _=>rfl⟩
  have hi0:RI [] (argSVs (cx [] []) [.d Ix.tWorld_,.d Ix.tint] (x,id,()) 0:SEnv tb):=by
    intro t G y hy
    have hk:keepE (tb:=tb) [] (argSVs (cx [] []) [.d Ix.tWorld_,.d Ix.tint] (x,id,()) 0)=true:=rfl
    have:=(keepE_e hk _ (find_mem hy)).2
    cases this
  obtain ⟨val,hval⟩:∃ val,run19 x id=some val:=by
    rw [hrun];split <;> exact ⟨_,rfl⟩
  rw [hval] at hrun
  have key:=exec_ok (lvl_ok 6) (L:=(⟨argSVs (cx [] []) [.d Ix.tWorld_,.d Ix.tint] (x,id,()) 0,[],[],0,[]⟩:SLS tb)) hi0 hval
  rw [code19_eq]
  refine wp_seq (key _ _ _ _ _ _ _ s0 _ ?_)
  rintro e L' a1 w1 m' bl' ⟨L1,h',hi1,x1,t1⟩ s1
  cases e with
  | exit j=>cases h'
  | ret=>cases h'
  | normal=>
  obtain ⟨m1,bl1,s1⟩:=t1 _ _ _ _ _ _ _ _ s1
  have key2:=exec_ok (lvl_ok 6) hi1 h'
  refine wp_seq (key2 _ _ _ _ _ _ _ s1 _ ?_)
  rintro e L' a2 w2 m' bl' ⟨L2,h2,hi2,x2,t2⟩ s2
  cases e with
  | exit j=>cases h2
  | ret=>cases h2
  | normal=>
  obtain ⟨m2,bl2,s2⟩:=t2 _ _ _ _ _ _ _ _ s2
  have key3:=exec_ok (lvl_ok 6) hi2 h2
  refine wp_seq (key3 _ _ _ _ _ _ _ s2 _ ?_)
  rintro e L' a' w4 m' bl' hend s3
  by_cases hc:decide (at'<0)=true
  · rw [if_pos hc] at hrun
    have hv:val=.inr (zW,(8:Int)):=Option.some.inj hrun
    subst hv
    have hend':EndOk L2 (kfin cx19 [] [Ix.tWorld_,Ix.tint] Tryz.f19.results.toList) (zW,(8:Int)) e L':=by
      obtain ⟨L3,h3,z⟩:=hend
      refine ⟨L3,?_,z⟩
      cases e with
      | normal=>cases h3
      | ret=>
        have h3:(kfin cx19 [] [Ix.tWorld_,Ix.tint] Tryz.f19.results.toList .ret L3).map (Sum.inr (α:=Seen19))=some (.inr (zW,(8:Int))):=h3
        obtain ⟨y,h4,h5⟩:=Option.map_eq_some_iff.1 h3
        rw [h4,Sum.inr.inj h5]
      | exit j=>
        have h3:(kfin cx19 [] [Ix.tWorld_,Ix.tint] Tryz.f19.results.toList (.exit j) L3).map (Sum.inr (α:=Seen19))=some (.inr (zW,(8:Int))):=h3
        obtain ⟨y,h4,h5⟩:=Option.map_eq_some_iff.1 h3
        rw [h4,Sum.inr.inj h5]
    have hn:e≠.normal:=by
      rintro rfl
      obtain ⟨L3,h3,z⟩:=hend
      cases h3
    have fin:bodyPost Tryz.prog Tryz.f19 (fun e w'=>∃ v' c,e=.returned (.tuple #[v',c])∧Below w.heap.size w w'∧NewW w.heap.size w' v') e.to a' w4:=end_post hend' s3 (fun v m' hb hi hn hv=>by
      have hv:Rep m' noNames (.tup [e_World_ zW,.v (.int .i64 8)]) v:=hv
      obtain ⟨v1,c1,rfl,q1,q2⟩:=tup_inv hv
      exact ⟨v1,c1,rfl,hb,zW,⟨⟨by simp [zW],by simp [zW],by simp [zW],by simp [zW]⟩,by simp [zW],by simp [zW]⟩,zW_rep q1⟩)
    cases e with
    | normal=>exact absurd rfl hn
    | ret=>exact fin
    | exit j=>exact fin
  · rw [if_neg hc] at hrun hw
    have hv:=Option.some.inj hrun
    subst hv
    rw [hcl] at hw
    have hrest:rest19 x at' id=some r:=hw
    obtain ⟨L3,h3,hi3,x3,t3⟩:=hend
    cases e with
    | ret=>
      have h3:(kfin cx19 [] [Ix.tWorld_,Ix.tint] Tryz.f19.results.toList .ret L3).map (Sum.inr (α:=Seen19))=some (.inl _):=h3
      obtain ⟨y,-,h5⟩:=Option.map_eq_some_iff.1 h3
      cases h5
    | exit j=>
      have h3:(kfin cx19 [] [Ix.tWorld_,Ix.tint] Tryz.f19.results.toList (.exit j) L3).map (Sum.inr (α:=Seen19))=some (.inl _):=h3
      obtain ⟨y,-,h5⟩:=Option.map_eq_some_iff.1 h3
      cases h5
    | normal=>
    obtain ⟨m4,bl4,s⟩:=t3 _ _ _ _ _ _ _ _ s3
    have h':=Sum.inl.inj (Option.some.inj h3)
    have p2:=congrArg Seen19.p2 h'
    have p3:=congrArg Seen19.p3 h'
    have p4:=congrArg Seen19.p4 h'
    have p5:=congrArg Seen19.p5 h'
    have p6:=congrArg Seen19.p6 h'
    have g0:=congrArg Seen19.h0 h'
    have g1:=congrArg Seen19.h1 h'
    have g2:=congrArg Seen19.h2 h'
    obtain ⟨b0,n0,c0,v0,l0,B0,R0,O0⟩:=boxOf s.ws g0 (s.env 2 _ p2)
    obtain ⟨bI,nI,cI,vI,lI,BI,RI',OI⟩:=boxOf s.ws g1 (s.env 3 _ p3)
    obtain ⟨b1,n1,c1,v1,l1,B1,R1,O1⟩:=boxOf s.ws g2 (s.env 4 _ p4)
    obtain rfl:=repsV_eq R1
    obtain rfl:cI=[.int .i64 id]:=repsV_eq (l:=[.int .i64 id]) RI'
    have v5:=(s.env 5 _ p5).eq_v
    have v6:=(s.env 6 _ p6).eq_v
    obtain ⟨z0,-,-⟩:=s.ws.own 0 b0 _ l0
    obtain ⟨zI,-,-⟩:=s.ws.own 1 bI _ lI
    obtain ⟨z1,-,-⟩:=s.ws.own 2 b1 _ l1
    have ne:b0≠b1:=fun e=>by subst e;exact absurd (s.ws.inj 0 2 _ _ _ l0 l1) (by decide)
    have neI:bI≠b0:=fun e=>by subst e;exact absurd (s.ws.inj 0 1 _ _ _ l0 lI) (by decide)
    have neJ:bI≠b1:=fun e=>by subst e;exact absurd (s.ws.inj 2 1 _ _ _ l1 lI) (by decide)
    have hR:Rep m4 noNames (e_World_ x) (.agg c0.toArray):=by
      have e:e_World_ x=.agg (worAx x):=rfl
      have eb:bareL (worAx x)=worAx x:=rfl
      have:=R0.bare (bl':=noNames)
      rw [eb] at this
      rw [e]
      exact .agg this O0
    have hc0:c0.length=11:=R0.length.symm
    obtain ⟨o1,o2,o3,eq,q1,q2,q3,q4,q5,q6,q7,q8,q9⟩:=reg19
    have hsz:=s.size
    rw [eq]
    refine wp_seq (clone_reg q1 q2 q3 q4 q5 q6 q7 q8 q9 hx s.ws.imm hR hc0 (getD_some v0 (by omega)) (by decide) (by decide) (by omega) (by omega) B0 ?_)
    intro w5 M h0 h1 h2 h3 xb xj xc xo hg B0' W
    have BI':=BI.grown hg (fun e=>neI (Option.some.inj e))
    obtain ⟨bl,hws,⟨k0,hk0⟩,⟨k1,hk1⟩,hfree⟩:=ws_clone (W0:=w) (M1:=oneM bI (.int .i64 id)) z0 z1 B0.lt B1.lt ne s.below.size hg B0' B1 W ⟨(by
      intro b o u e
      obtain ⟨rfl,rfl,rfl⟩:=oneM_of e
      exact BI'.cell 0 rfl),(by
      intro b o u e
      obtain ⟨rfl,rfl,rfl⟩:=oneM_of e
      obtain ⟨arr,T,rest,j1,-⟩:=BI'
      exact frozen_blk j1 0)⟩ (by
      intro b o u e
      obtain ⟨rfl,rfl,rfl⟩:=oneM_of e
      exact ⟨zI,BI.lt,neI,neJ⟩)
    have s5:Sim 90 w noMem (L19 x at' id).av [] ((a'.put (some 19) (.agg c0.toArray)).put (some 20) (.agg (worC x h0 h1 h2 h3).toArray)) w5 (joinM M (oneM bI (.int .i64 id))) bl:=by
      refine ⟨s.defers,put_sz.trans (put_sz.trans hsz),s.below.grown hg s.below.size (fun k e=>by have:=Option.some.inj e;omega),?_,?_,trivial,hfree⟩
      · show WSim _ _ (avH [] (L19 x at' id).h) _ _ _
        rw [show (L19 x at' id).h=(L6 x [(2,.ptr 0 0),(3,.cp [.i .i64 id]),(4,.ptr 1 0),(5,.con (.int .i64 0)),(6,.i .i64 at')]).h from rfl,L6_h]
        exact hws
      · have tt:∀ j,j≠19→j≠20→((a'.put (some 19) (.agg c0.toArray)).put (some 20) (.agg (worC x h0 h1 h2 h3).toArray)).tmps.getD j undef=a'.tmps.getD j undef:=fun j h6 h7=>by
          rw [Array.getD_eq_getD_getElem?,put_ne h7,put_ne h6,← Array.getD_eq_getD_getElem?]
        intro t y h
        have h:find t [(2,AV.ptr 0 0),(3,.cptr [.v (.int .i64 id)]),(4,.ptr 1 0),(5,.v (.int .i64 0)),(6,.v (.int .i64 at'))]=some y:=h
        rw [find_cons] at h
        split at h
        · rename_i e;subst e;cases h;rw [tt 2 (by decide) (by decide),v0];exact .ptr hk0
        rw [find_cons] at h
        split at h
        · rename_i e;subst e;cases h;rw [tt 3 (by decide) (by decide),vI]
          refine .cptr (cs:=[.int .i64 id]) (.cons .v .nil) (by intro u hu;cases List.mem_singleton.1 hu;rfl) (fun j u e=>joinM_r _ _ _ _ _ ?_)
          match j,e with
          | 0,e=>cases e;exact if_pos ⟨rfl,rfl⟩
          | j+1,e=>cases e
        rw [find_cons] at h
        split at h
        · rename_i e;subst e;cases h;rw [tt 4 (by decide) (by decide),v1];exact .ptr hk1
        rw [find_cons] at h
        split at h
        · rename_i e;subst e;cases h;rw [tt 5 (by decide) (by decide),v5];exact .v
        rw [find_cons] at h
        split at h
        · rename_i e;subst e;cases h;rw [tt 6 (by decide) (by decide),v6];exact .v
        cases h
    have hi2:RI [] (L19 x at' id).e:=by
      intro t G y hy
      have hk:keepE (tb:=tb) [] (L19 x at' id).e=true:=rfl
      have:=(keepE_e hk _ (find_mem hy)).2
      cases this
    have key4:=exec_ok (lvl_ok 6) (L:=L19 x at' id) hi2 hrest
    refine key4 _ _ _ _ _ _ _ s5 _ ?_
    rintro e Lf a6 w6 m6 bl6 hend s6
    exact end_post hend s6 (fun v m' hb hi hn hv=>by
      have hv:Rep m' noNames (.tup [e_World_ r.1,.v (.int .i64 r.2)]) v:=hv
      obtain ⟨v1,c1,rfl,q1,q2⟩:=tup_inv hv
      exact ⟨v1,c1,rfl,hb,r.1,hwr,q1.mono (le_ownN hi (fun b o u e=>(hn b o u e).elim (fun h=>by cases h) (fun h=>h)))⟩)
end GoForm
end

section
set_option linter.all false
set_option maxRecDepth 100000
open Go Go.Rx Go.Proofs Go.RowKit
namespace GoForm
theorem rep_row {M:Mem} {w:World} {h:Value} {E:Ix} {sz:Nat} {l:List (tb.T E)} {xs:List Value} (r:RowW w h l.length sz xs) (hz:∀ x,(tb.el E x).cells.length=sz) (hr:Reps M noNames (elC tb E l) xs) (hc:∀ g o u,rowB h=some g→w.cell? ⟨g,o,none⟩=some u→M g o=some u):Rep M noNames (.sl false sz (l.map (tb.el E))) h:=by
  obtain ⟨h1,h2,⟨rfl,h0,ad,rfl⟩ | ⟨g,cap,arr,T,rfl,q1,q2,q3,q4,q5⟩⟩:=r
  · have:l=[]:=List.length_eq_zero_iff.1 h0
    subst this
    cases ad with
    | none=>exact .slnil
    | some a=>exact .sl (l:=[]) (by simp) .nil (by simp) (by simp) (by simp) (Nat.zero_le _) (by simp)
  · have hl2:l.length=(l.map (tb.el E)).length:=by simp
    rw [hl2]
    refine .sl (cs:=xs) ?_ hr h2 (fun _=>rfl) ?_ (by rw [← hl2];exact q3) (by simp)
    · intro e he
      obtain ⟨x,-,rfl⟩:=List.mem_map.1 he
      exact hz x
    · intro j x e
      refine hc g _ x (rowB_some q1) ?_
      show w.cell? ⟨g,0+j,none⟩=some x
      rw [Nat.zero_add,cell_of_blk q2]
      have hj:j<xs.length:=(List.getElem?_eq_some_iff.1 e).1
      rw [← q5,List.getElem?_take_of_lt (by omega)] at e
      rw [← Array.getElem?_toList];exact e
theorem WN.newR {x B M h0 h1 h2 h3 xb xj xc xo w} (W:WN x B M h0 h1 h2 h3 xb xj xc xo w):Rep (ownN B w) noNames (e_World_ x) (.agg (worC x h0 h1 h2 h3).toArray):=by
  have hle:=le_ownN W.iM.1 fun b o u e=>⟨W.new b o u e,W.iM.2 b o u e⟩
  have hc:∀ h n sz xs,RowW w h n sz xs→(∀ g,rowB h=some g→some g∈[rowB h0,rowB h1,rowB h2,rowB h3])→∀ g o u,rowB h=some g→w.cell? ⟨g,o,none⟩=some u→ownN B w g o=some u:=by
    intro h n sz xs hr hm g o u hg hu
    unfold ownN
    have hB:=(W.ob g (hm g hg)).1
    obtain ⟨-,-,⟨-,-,ad,rfl⟩ | ⟨g',cap,arr,T,rfl,q1,q2,q3,q4,q5⟩⟩:=hr
    · cases ad <;> simp [rowB] at hg
    · rw [rowB_some q1] at hg;cases hg
      rw [if_pos ⟨hB,frozen_blk q2 o⟩];exact hu
  refine worRep (rep_row (E:=Ix.tBody) W.rB (fun _=>rfl) (W.pB.mono hle) (hc _ _ _ _ W.rB (by intro g e;simp [e]))) (rep_row (E:=Ix.tJoint) W.rJ (fun _=>rfl) (W.pJ.mono hle) (hc _ _ _ _ W.rJ (by intro g e;simp [e]))) (rep_row (E:=Ix.tContact) W.rC (fun _=>rfl) (W.pC.mono hle) (hc _ _ _ _ W.rC (by intro g e;simp [e]))) (rep_row (E:=Ix.tPairKey) W.rO (fun _=>rfl) (W.pO.mono hle) (hc _ _ _ _ W.rO (by intro g e;simp [e]))) (worC_one W.rB.one W.rJ.one W.rC.one W.rO.one)
theorem WN.newW {x B M h0 h1 h2 h3 xb xj xc xo w} (hx:Wee x) (W:WN x B M h0 h1 h2 h3 xb xj xc xo w):NewW B w (.agg (worC x h0 h1 h2 h3).toArray):=⟨x,hx,W.newR⟩
def TypV (u u':Value):Prop:=u'=u∨((∃ z,u=.int .i64 z)∧∃ z,u'=.int .i64 z)
structure KM (M:Mem) (B:Nat) (W0 w:World):Prop where
  typ:∀ b o u,M b o=some u→∃ u',w.cell? ⟨b,o,none⟩=some u'∧TypV u u'
  free:∀ b o u,M b o=some u→w.frozen? ⟨b,o,none⟩=false
  new:∀ b o u,M b o=some u→B≤b
  bel:Below B W0 w
  oth:∀ k,k<W0.heap.size→(∀ o,M k o=none)→w.heap[k]? = W0.heap[k]?
theorem cell_lt {w:World} {b o:Nat} {u:Value} (h:w.cell? ⟨b,o,none⟩=some u):b<w.heap.size:=by
  rcases Nat.lt_or_ge b w.heap.size with g | g
  · exact g
  · simp [World.cell?,Array.getElem?_eq_none g] at h
theorem KM.start {M B w} (h:Imm M w) (hf:∀ b o u,M b o=some u→w.frozen? ⟨b,o,none⟩=false) (hn:∀ b o u,M b o=some u→B≤b):KM M B w w:=⟨fun b o u e=>⟨u,h b o u e,.inl rfl⟩,hf,hn,Below.refl _ _,fun _ _ _=>rfl⟩
theorem KM.below {M B W0 w w'} (h:KM M B W0 w) (hB:B≤w.heap.size) (hb:Below w.heap.size w w'):KM M B W0 w':=by
  refine ⟨fun b o u e=>?_,fun b o u e=>?_,h.new,h.bel.trans (hb.mono hB),fun k hk hm=>(hb.block k (Nat.lt_of_lt_of_le hk h.bel.size)).trans (h.oth k hk hm)⟩
  · obtain ⟨u',h1,h2⟩:=h.typ b o u e
    exact ⟨u',(hb.cell (p:=⟨b,o,none⟩) (cell_lt h1)).trans h1,h2⟩
  · obtain ⟨u',h1,h2⟩:=h.typ b o u e
    exact (frozen_of (hb.block b (cell_lt h1))).trans (h.free b o u e)
theorem KM.at {M B W0 w} (h:KM M B W0 w) {b o:Nat} {u:Value} (e:M b o=some u) (hu:∀ z,u≠.int .i64 z):w.cell? ⟨b,o,none⟩=some u:=by
  obtain ⟨u',h1,rfl | ⟨⟨z,rfl⟩,-⟩⟩:=h.typ b o u e
  · exact h1
  · exact absurd rfl (hu z)
theorem KM.int {M B W0 w} (h:KM M B W0 w) {b o:Nat} {z:Int} (e:M b o=some (.int .i64 z)):∃ z',w.cell? ⟨b,o,none⟩=some (.int .i64 z'):=by
  obtain ⟨u',h1,rfl | ⟨-,⟨z',rfl⟩⟩⟩:=h.typ b o _ e <;> exact ⟨_,h1⟩
theorem set_frozen (w:World) (a:Addr) (x:Value) (b o:Nat):(w.setCell a x).frozen? ⟨b,o,none⟩=w.frozen? ⟨b,o,none⟩:=by
  exact World.frozen?_setCell w a ⟨b,o,none⟩ x
theorem set_cell (w:World) (b o:Nat) (x:Value) (b' o':Nat) (h:¬ (b'=b∧o'=o)):(w.setCell ⟨b,o,none⟩ x).cell? ⟨b',o',none⟩=w.cell? ⟨b',o',none⟩:=by
  by_cases hb:b'=b
  · subst hb
    have ho:o'≠o:=fun e=>h ⟨rfl,e⟩
    cases hh:w.heap[b']? with
    | none=>
      have:(w.setCell ⟨b',o,none⟩ x).heap[b']? = none:=by
        rw [Array.getElem?_eq_none_iff] at hh ⊢;rw [size_set];exact hh
      unfold World.cell?;simp only [hh,this]
    | some ob=>
      cases ob with
      | cells cs T fr=>
        have h':(w.setCell ⟨b',o,none⟩ x).heap[b']? = some (.cells (cs.setIfInBounds o x) T fr):=heap_own hh o x _ rfl
        unfold World.cell?;simp only [hh,h']
        rw [Array.getElem?_setIfInBounds_ne (fun e=>ho e.symm)]
      | _=>
        have:(w.setCell ⟨b',o,none⟩ x).heap[b']? = w.heap[b']? := by simp [World.setCell,Array.getElem?_modify,hh]
        unfold World.cell?;simp only [this]
  · unfold World.cell?;simp only [heap_set w ⟨b,o,none⟩ x b' hb]
theorem set_self {w:World} {b o:Nat} {u x:Value} (h:w.cell? ⟨b,o,none⟩=some u):(w.setCell ⟨b,o,none⟩ x).cell? ⟨b,o,none⟩=some x:=by
  cases hh:w.heap[b]? with
  | none=>unfold World.cell? at h;simp only [hh] at h;cases h
  | some ob=>
    cases ob with
    | cells cs T fr=>
      have h':(w.setCell ⟨b,o,none⟩ x).heap[b]? = some (.cells (cs.setIfInBounds o x) T fr):=heap_own hh o x _ rfl
      unfold World.cell? at h ⊢;simp only [hh,h'] at h ⊢
      have h:cs[o]? = some u:=h
      show (cs.setIfInBounds o x)[o]? = some x
      rw [Array.getElem?_setIfInBounds_self_of_lt (Array.getElem?_eq_some_iff.1 h).1]
    | _=>unfold World.cell? at h;simp only [hh] at h;cases h
theorem KM.set {M B W0 w} (h:KM M B W0 w) {b o:Nat} {z:Int} (e:M b o=some (.int .i64 z)) (z':Int):KM M B W0 (w.setCell ⟨b,o,none⟩ (.int .i64 z')):=by
  obtain ⟨u0,c0,-⟩:=h.typ b o _ e
  refine ⟨fun b' o' u e'=>?_,fun b' o' u e'=>(set_frozen _ _ _ _ _).trans (h.free b' o' u e'),h.new,h.bel.setCell (p:=⟨b,o,none⟩) (h.new b o _ e) _,fun k hk hm=>(heap_set _ _ _ _ (fun e2=>by have:=hm o;rw [show k=b from e2] at this;rw [this] at e;cases e)).trans (h.oth k hk hm)⟩
  by_cases hb:b'=b∧o'=o
  · obtain ⟨rfl,rfl⟩:=hb
    rw [e] at e';cases e'
    exact ⟨_,set_self c0,.inr ⟨⟨_,rfl⟩,⟨_,rfl⟩⟩⟩
  · obtain ⟨u',h1,h2⟩:=h.typ b' o' u e'
    exact ⟨u',(set_cell w b o _ b' o' hb).trans h1,h2⟩
end GoForm
end
