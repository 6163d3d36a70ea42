/- Several texts in one. No conditions. -/
import Derived.Test.YtacajmmjdefplaaGreatKZ
section
set_option linter.all false
set_option maxRecDepth 100000
open Go Go.Rx Go.Proofs Go.RowKit
namespace GoForm
theorem sl_at {E:Ix} {sz:Nat} {M:Mem} {l:List (tb.T E)} {h:Value} (hr:Rep M noNames (.sl false sz (l.map (tb.el E))) h) (hz:∀ x,(tb.el E x).cells.length=sz) {i:Nat} {x:tb.T E} (hx:l[i]? = some x) (hs:0<sz):
    ∃ blk off cap cs,h=.slice (some ⟨blk,off,none⟩) l.length cap∧Reps M noNames (tb.el E x).cells cs∧(∀ c∈cs,oneCell c=true)∧∀ j u,cs[j]? = some u→M blk (off+i*sz+j)=some u:=by
  have hi:i<l.length:=(List.getElem?_eq_some_iff.1 hx).1
  generalize hL:l.map (tb.el E)=L at hr
  cases hr with
  | slnil=>
    have:l=[]:=by simpa using hL
    subst this
    simp at hi
  | @sl _ _ _ _ a cap cs h1 h2 h3 h4 h5 h6 h7=>
    subst hL
    have h2:Reps M noNames (elC tb E l) cs:=h2
    have hl:cs.length=l.length*sz:=by rw [← h2.length,elC_len E sz l hz]
    have hm:(i+1)*sz≤l.length*sz:=Nat.mul_le_mul_right _ hi
    rw [Nat.add_mul] at hm
    obtain ⟨b,o,sp⟩:=a
    have hsp:sp=none:=h4 (by omega)
    subst hsp
    have hd:l=l.take i++(x::l.drop (i+1)):=by
      have e:=List.drop_eq_getElem_cons hi
      rw [List.getElem?_eq_getElem hi] at hx
      rw [Option.some.inj hx] at e
      rw [← e,List.take_append_drop]
    rw [hd,elC_append,elC_cons] at h2
    have ht:(elC tb E (l.take i)).length=i*sz:=by rw [elC_len E sz _ hz,List.length_take,Nat.min_eq_left (by omega)]
    have g:=(Reps.split h2).2
    rw [ht] at g
    have g2:=(Reps.split g).1
    rw [hz] at g2
    refine ⟨b,o,cap,(cs.drop (i*sz)).take sz,by rw [List.length_map],g2,fun c hc=>h3 c (List.mem_of_mem_drop (List.mem_of_mem_take hc)),fun j u e=>?_⟩
    have hj:j<sz:=by
      have:=(List.getElem?_eq_some_iff.1 e).1
      rw [List.length_take] at this;omega
    rw [List.getElem?_take_of_lt hj,List.getElem?_drop] at e
    have:=h5 _ _ e
    show M b (o+i*sz+j)=some u
    rw [Nat.add_assoc];exact this
theorem sl_hdr {E:Ix} {sz:Nat} {M:Mem} {l:List (tb.T E)} {h:Value} (hr:Rep M noNames (.sl false sz (l.map (tb.el E))) h):∃ ad cap,h=.slice ad l.length cap:=by
  generalize hL:l.map (tb.el E)=L at hr
  cases hr with
  | slnil=>
    have:l=[]:=by simpa using hL
    subst this
    exact ⟨_,_,rfl⟩
  | sl=>subst hL;exact ⟨_,_,by rw [List.length_map]⟩
structure LM (M:Mem) (B:Nat) (W0:World) (wb:Nat) (cs:List Value) (w:World):Prop where
  km:KM M B W0 w
  box:w.heap[wb]? = some (.cells cs.toArray 31 (0,0))
  nm:∀ o,M wb o=none
  hB:B≤wb
theorem LM.below {M B W0 wb cs w w'} (h:LM M B W0 wb cs w) (hb:Below w.heap.size w w'):LM M B W0 wb cs w':=
  ⟨h.km.below (by have:=heap_lt h.box;have:=h.hB;omega) hb,(hb.block _ (heap_lt h.box)).trans h.box,h.nm,h.hB⟩
theorem LM.set {M B W0 wb cs w} (h:LM M B W0 wb cs w) {b o:Nat} {z:Int} (e:M b o=some (.int .i64 z)) (z':Int):LM M B W0 wb cs (w.setCell ⟨b,o,none⟩ (.int .i64 z')):=
  ⟨h.km.set e z',(heap_set _ _ _ _ (fun e2=>by have:=h.nm o;rw [e2] at this;rw [this] at e;cases e)).trans h.box,h.nm,h.hB⟩
structure LF (M:Mem) (B:Nat) (W0:World) (wb:Nat) (cs:List Value) (b4:Nat) (P:List Value) (w:World):Prop where
  L:LM M B W0 wb cs w
  bx:w.heap[b4]? = some (.cells P.toArray 103 (0,0))
  n4:∀ o,M b4 o=none
theorem LF.set {M B W0 wb cs b4 P w} (h:LF M B W0 wb cs b4 P w) {b o:Nat} {z:Int} (e:M b o=some (.int .i64 z)) (z':Int):LF M B W0 wb cs b4 P (w.setCell ⟨b,o,none⟩ (.int .i64 z')):=
  ⟨h.L.set e z',(heap_set _ _ _ _ (fun e2=>by have:=h.n4 o;rw [e2] at this;rw [this] at e;cases e)).trans h.bx,h.n4⟩
theorem KM.cells {M B W0 w} (h:KM M B W0 w) {b o:Nat} {cs:List Value} (hc:∀ (j:Nat) (u:Value),cs[j]? = some u→M b (o+j)=some u):∃ P:List Value,P.length=cs.length∧(∀ (j:Nat) (v:Value),P[j]? = some v→w.cell? ⟨b,o+j,none⟩=some v)∧∀ (j:Nat) (u:Value),cs[j]? = some u→∃ v,P[j]? = some v∧TypV u v:=by
  refine ⟨(List.range cs.length).map fun j=>(w.cell? ⟨b,o+j,none⟩).getD undef,by simp,fun j v e=>?_,fun j u e=>?_⟩
  · have hj:j<cs.length:=by
      have:=(List.getElem?_eq_some_iff.1 e).1
      simpa using this
    obtain ⟨v',h1,-⟩:=h.typ b (o+j) _ (hc j _ (List.getElem?_eq_getElem hj))
    simp [hj,h1] at e
    rw [h1,e]
  · have hj:=(List.getElem?_eq_some_iff.1 e).1
    obtain ⟨v',h1,h2⟩:=h.typ b (o+j) _ (hc j u e)
    exact ⟨v',by simp [hj,h1],h2⟩
theorem typ_one {u v:Value} (h:TypV u v) (hu:oneCell u=true):oneCell v=true:=by
  rcases h with rfl | ⟨-,z,rfl⟩
  · exact hu
  · rfl
theorem wpList_loadc {P:Program} {ops:Array Oper} {rest:List Oper} {Q:Exit→Act→World→Prop} {o:Oper} {a:Act} {w:World} {ty:TypeId} {y:Operand} {d b off:Nat} {cs:List Value}
    (g:o.guard=none) (e:o.op=.load ty y) (hd:o.dst=some d) (hy:a.eval y=.pointer (some ⟨b,off,none⟩)) (ha:tAg P ty=some true) (hs:tSz P ty=some cs.length)
    (hc:∀ j v,cs[j]? = some v→w.cell? ⟨b,off+j,none⟩=some v) (h:wpList P ops Q rest (a.put (some d) (.agg cs.toArray)) w):wpList P ops Q (o::rest) a w:=by
  have hld:=run_loadVar_agg (P:=P) (ty:=ty) (w:=w) (b:=b) (o:=off) (cs:=cs) ha hs hc
  refine wpList_plain g fun K hK=>?_
  have r1:(execOp a.eval o).run P w=.ok (.value (.agg cs.toArray)) w:=by simp [execOp,e,hy,Instr.loadAt,Instr.sureAddr,hld]
  unfold Oper.wp
  rw [r1,Oper.upon_value,hd]
  exact hK _ _ h
def zFx:List Value:=[.int .i64 0,.int .i64 0,.slice none 0 0,.int .i64 0,.int .i64 0,.int .i64 0,.bool false,.int .i64 0,.int .i64 0,.int .i64 0]
theorem body_parts {M:Mem} {b:Body} {cs:List Value} (h:Reps M noNames (tb.el Ix.tBody b).cells cs):(∃ z,cs[0]? = some (.int .i64 z))∧∃ hF,cs[19]? = some hF∧Rep M noNames (e_sl_Fixture b.Fixtures) hF:=by
  obtain ⟨v0,h0,r0⟩:=h.get 0 (.v (.int .i64 b.ID)) rfl
  obtain ⟨v1,h1,r1⟩:=h.get 19 (e_sl_Fixture b.Fixtures) rfl
  exact ⟨⟨_,by rw [h0,r0.eq_v]⟩,v1,h1,r1⟩
theorem fix_parts {M:Mem} {f:Fixture} {cs:List Value} (h:Reps M noNames (tb.el Ix.tFixture f).cells cs):cs.length=10∧(∃ z,cs[7]? = some (.int .i64 z))∧∃ hV,cs[2]? = some hV∧Rep M noNames (e_sl_Vec f.Shape.Vertices) hV:=by
  obtain ⟨v0,h0,r0⟩:=h.get 7 (.v (.int .i64 f.Category)) rfl
  obtain ⟨v1,h1,r1⟩:=h.get 2 (e_sl_Vec f.Shape.Vertices) rfl
  exact ⟨h.length.symm,⟨_,by rw [h0,r0.eq_v]⟩,v1,h1,r1⟩
theorem vec_part {M:Mem} {f:Vec} {cs:List Value} (h:Reps M noNames (tb.el Ix.tVec f).cells cs):∃ z,cs[0]? = some (.int .i64 z):=by
  obtain ⟨v0,h0,r0⟩:=h.get 0 (.v (.int .i64 f.X)) rfl
  exact ⟨_,by rw [h0,r0.eq_v]⟩
theorem joint_part {M:Mem} {f:Joint} {cs:List Value} (h:Reps M noNames (tb.el Ix.tJoint f).cells cs):∃ z,cs[0]? = some (.int .i64 z):=by
  obtain ⟨v0,h0,r0⟩:=h.get 0 (.v (.int .i64 f.ID)) rfl
  exact ⟨_,by rw [h0,r0.eq_v]⟩
theorem key_part {M:Mem} {f:PairKey} {cs:List Value} (h:Reps M noNames (tb.el Ix.tPairKey f).cells cs):∃ z,cs[0]? = some (.int .i64 z):=by
  obtain ⟨v0,h0,r0⟩:=h.get 0 (.v (.int .i64 f.BodyA)) rfl
  exact ⟨_,by rw [h0,r0.eq_v]⟩
theorem point_part {M:Mem} {f:ContactPoint} {cs:List Value} (h:Reps M noNames (tb.el Ix.tContactPoint f).cells cs):∃ z,cs[3]? = some (.int .i64 z):=by
  obtain ⟨v0,h0,r0⟩:=h.get 3 (.v (.int .i64 f.ID)) rfl
  exact ⟨_,by rw [h0,r0.eq_v]⟩
theorem con_parts {M:Mem} {c:Contact} {cs:List Value} (h:Reps M noNames (tb.el Ix.tContact c).cells cs):(∃ z,cs[0]? = some (.int .i64 z))∧∃ hP,cs[6]? = some hP∧Rep M noNames (e_sl_ContactPoint c.Manifold.Points) hP:=by
  obtain ⟨v0,h0,r0⟩:=h.get 0 (.v (.int .i64 c.Key.BodyA)) rfl
  obtain ⟨v1,h1,r1⟩:=h.get 6 (e_sl_ContactPoint c.Manifold.Points) rfl
  exact ⟨⟨_,by rw [h0,r0.eq_v]⟩,v1,h1,r1⟩
theorem hdrB {M:Mem} {l:List Body} {h:Value} (hr:Rep M noNames (e_sl_Body l) h):∃ ad cap,h=.slice ad l.length cap:=sl_hdr (E:=Ix.tBody) hr
theorem atB {M:Mem} {l:List Body} {h:Value} (hr:Rep M noNames (e_sl_Body l) h) {i:Nat} {x:Body} (hx:l[i]? = some x):∃ blk off cap cs,h=.slice (some ⟨blk,off,none⟩) l.length cap∧Reps M noNames (tb.el Ix.tBody x).cells cs∧(∀ c∈cs,oneCell c=true)∧∀ (j:Nat) (u:Value),cs[j]? = some u→M blk (off+i*20+j)=some u:=sl_at (E:=Ix.tBody) (sz:=20) hr (fun _=>rfl) hx (by decide)
theorem hdrJ {M:Mem} {l:List Joint} {h:Value} (hr:Rep M noNames (e_sl_Joint l) h):∃ ad cap,h=.slice ad l.length cap:=sl_hdr (E:=Ix.tJoint) hr
theorem atJ {M:Mem} {l:List Joint} {h:Value} (hr:Rep M noNames (e_sl_Joint l) h) {i:Nat} {x:Joint} (hx:l[i]? = some x):∃ blk off cap cs,h=.slice (some ⟨blk,off,none⟩) l.length cap∧Reps M noNames (tb.el Ix.tJoint x).cells cs∧(∀ c∈cs,oneCell c=true)∧∀ (j:Nat) (u:Value),cs[j]? = some u→M blk (off+i*24+j)=some u:=sl_at (E:=Ix.tJoint) (sz:=24) hr (fun _=>rfl) hx (by decide)
theorem hdrC {M:Mem} {l:List Contact} {h:Value} (hr:Rep M noNames (e_sl_Contact l) h):∃ ad cap,h=.slice ad l.length cap:=sl_hdr (E:=Ix.tContact) hr
theorem atC {M:Mem} {l:List Contact} {h:Value} (hr:Rep M noNames (e_sl_Contact l) h) {i:Nat} {x:Contact} (hx:l[i]? = some x):∃ blk off cap cs,h=.slice (some ⟨blk,off,none⟩) l.length cap∧Reps M noNames (tb.el Ix.tContact x).cells cs∧(∀ c∈cs,oneCell c=true)∧∀ (j:Nat) (u:Value),cs[j]? = some u→M blk (off+i*7+j)=some u:=sl_at (E:=Ix.tContact) (sz:=7) hr (fun _=>rfl) hx (by decide)
theorem hdrO {M:Mem} {l:List PairKey} {h:Value} (hr:Rep M noNames (e_sl_PairKey l) h):∃ ad cap,h=.slice ad l.length cap:=sl_hdr (E:=Ix.tPairKey) hr
theorem atO {M:Mem} {l:List PairKey} {h:Value} (hr:Rep M noNames (e_sl_PairKey l) h) {i:Nat} {x:PairKey} (hx:l[i]? = some x):∃ blk off cap cs,h=.slice (some ⟨blk,off,none⟩) l.length cap∧Reps M noNames (tb.el Ix.tPairKey x).cells cs∧(∀ c∈cs,oneCell c=true)∧∀ (j:Nat) (u:Value),cs[j]? = some u→M blk (off+i*4+j)=some u:=sl_at (E:=Ix.tPairKey) (sz:=4) hr (fun _=>rfl) hx (by decide)
theorem hdrF {M:Mem} {l:List Fixture} {h:Value} (hr:Rep M noNames (e_sl_Fixture l) h):∃ ad cap,h=.slice ad l.length cap:=sl_hdr (E:=Ix.tFixture) hr
theorem atF {M:Mem} {l:List Fixture} {h:Value} (hr:Rep M noNames (e_sl_Fixture l) h) {i:Nat} {x:Fixture} (hx:l[i]? = some x):∃ blk off cap cs,h=.slice (some ⟨blk,off,none⟩) l.length cap∧Reps M noNames (tb.el Ix.tFixture x).cells cs∧(∀ c∈cs,oneCell c=true)∧∀ (j:Nat) (u:Value),cs[j]? = some u→M blk (off+i*10+j)=some u:=sl_at (E:=Ix.tFixture) (sz:=10) hr (fun _=>rfl) hx (by decide)
theorem hdrV {M:Mem} {l:List Vec} {h:Value} (hr:Rep M noNames (e_sl_Vec l) h):∃ ad cap,h=.slice ad l.length cap:=sl_hdr (E:=Ix.tVec) hr
theorem atV {M:Mem} {l:List Vec} {h:Value} (hr:Rep M noNames (e_sl_Vec l) h) {i:Nat} {x:Vec} (hx:l[i]? = some x):∃ blk off cap cs,h=.slice (some ⟨blk,off,none⟩) l.length cap∧Reps M noNames (tb.el Ix.tVec x).cells cs∧(∀ c∈cs,oneCell c=true)∧∀ (j:Nat) (u:Value),cs[j]? = some u→M blk (off+i*2+j)=some u:=sl_at (E:=Ix.tVec) (sz:=2) hr (fun _=>rfl) hx (by decide)
theorem hdrP {M:Mem} {l:List ContactPoint} {h:Value} (hr:Rep M noNames (e_sl_ContactPoint l) h):∃ ad cap,h=.slice ad l.length cap:=sl_hdr (E:=Ix.tContactPoint) hr
theorem atP {M:Mem} {l:List ContactPoint} {h:Value} (hr:Rep M noNames (e_sl_ContactPoint l) h) {i:Nat} {x:ContactPoint} (hx:l[i]? = some x):∃ blk off cap cs,h=.slice (some ⟨blk,off,none⟩) l.length cap∧Reps M noNames (tb.el Ix.tContactPoint x).cells cs∧(∀ c∈cs,oneCell c=true)∧∀ (j:Nat) (u:Value),cs[j]? = some u→M blk (off+i*6+j)=some u:=sl_at (E:=Ix.tContactPoint) (sz:=6) hr (fun _=>rfl) hx (by decide)
theorem ne_slice {ad n cap}:∀ z,Value.slice ad n cap≠.int .i64 z:=by intro z e;cases e
end GoForm
end

section
set_option linter.all false
set_option maxRecDepth 100000
open Go Go.Rx Go.Proofs Go.RowKit
namespace GoForm
set_option maxHeartbeats 8000000 in
theorem modify_keeps {M:Mem} {B:Nat} {W0:World} {y:World_} (hy:Wee y) {v:Value} (hr:Rep M noNames (e_World_ y) v) {w:World} (hk:KM M B W0 w) (hB:B≤w.heap.size):
    Calls Tryz.prog 37 #[v] w fun e w'=>(∃ u,e=.returned u)∧KM M B W0 w'∧w.heap.size≤w'.heap.size:=by
  obtain ⟨h0,h1,h2,h3,rfl,r0,r1,r2,r3,hone⟩:=worRep_inv hr
  obtain ⟨ad0,cap0,rfl⟩:=hdrB r0
  obtain ⟨ad1,cap1,rfl⟩:=hdrJ r1
  obtain ⟨ad2,cap2,rfl⟩:=hdrC r2
  obtain ⟨ad3,cap3,rfl⟩:=hdrO r3
  obtain ⟨nB,hnB⟩:∃ n,y.Bodies.length=n:=⟨_,rfl⟩
  obtain ⟨nJ,hnJ⟩:∃ n,y.Joints.length=n:=⟨_,rfl⟩
  obtain ⟨nC,hnC⟩:∃ n,y.Contacts.length=n:=⟨_,rfl⟩
  obtain ⟨nO,hnO⟩:∃ n,y.Overlaps.length=n:=⟨_,rfl⟩
  rw [hnB] at r0 ⊢
  rw [hnJ] at r1 ⊢
  rw [hnC] at r2 ⊢
  rw [hnO] at r3 ⊢
  have lB:nB≤549755813888:=hnB ▸ hy.L.b
  have lJ:nJ≤549755813888:=hnJ ▸ hy.L.j
  have lC:nC≤549755813888:=hnC ▸ hy.L.c
  have lO:nO≤549755813888:=hnO ▸ hy.L.o
  have hM:∀ g,w.heap.size≤g→∀ o,M g o=none:=fun g hg o=>by
    cases e:M g o with
    | none=>rfl
    | some u=>obtain ⟨u',q1,-⟩:=hk.typ g o u e;have:=cell_lt q1;omega
  obtain ⟨w1,hw1⟩:∃ w1,w1=w.alloc (.cells (worC y (.slice ad0 nB cap0) (.slice ad1 nJ cap1) (.slice ad2 nC cap2) (.slice ad3 nO cap3)).toArray 31):=⟨_,rfl⟩
  have L1:LM M B W0 w.heap.size (worC y (.slice ad0 nB cap0) (.slice ad1 nJ cap1) (.slice ad2 nC cap2) (.slice ad3 nO cap3)) w1:=by
    rw [hw1]
    exact ⟨hk.below hB ((Below.refl _ _).alloc (Nat.le_refl _) _),heap_at _ _ _ rfl,hM _ (Nat.le_refl _),hB⟩
  obtain ⟨C,hC⟩:∃ C,C=worC y (.slice ad0 nB cap0) (.slice ad1 nJ cap1) (.slice ad2 nC cap2) (.slice ad3 nO cap3):=⟨_,rfl⟩
  have hC5:C[5]? = some (.slice ad0 nB cap0):=by rw [hC];rfl
  have hC6:C[6]? = some (.slice ad1 nJ cap1):=by rw [hC];rfl
  have hC7:C[7]? = some (.slice ad2 nC cap2):=by rw [hC];rfl
  have hC8:C[8]? = some (.slice ad3 nO cap3):=by rw [hC];rfl
  have sz1:w.heap.size≤w1.heap.size:=by rw [hw1];simp
  rw [← hC] at L1 hw1 ⊢
  have HR:Hid (_∧_∧_∧_∧_∧_∧_∧_∧_):=⟨r0,r1,r2,r3,hy,hnB,hnJ,hnC,hnO⟩
  have HC:Hid (_∧_∧_∧_):=⟨hC5,hC6,hC7,hC8⟩
  have hCl:C.length=11:=by rw [hC];rfl
  have HW:Hid (w1=w.alloc (.cells C.toArray 31)):=hw1
  have HL:Aside (LM M B W0 w.heap.size C w1∧w.heap.size≤w1.heap.size):=⟨L1,sz1⟩
  clear r0 r1 r2 r3 hy hnB hnJ hnC hnO hC5 hC6 hC7 hC8 hC hw1 hk hB hr hone L1 sz1 hM hCl
  go_enter Tryz.func37,Tryz.ntmps37
  go_upto_region 1 with fail
  rw [← HW.out]
  go_wp2
  go_loopg [2] nB (fun kx s2 wr=>∃ i:Nat,s2=.int .i64 i∧i≤nB∧nB - i≤kx∧Aside (LM M B W0 w.heap.size C wr∧w.heap.size≤wr.heap.size))
  case atStart=>exact ⟨0,rfl,Nat.zero_le _,Nat.le_refl _,HL⟩
  case round=>
    clear HL
    obtain ⟨i,rfl,hin,hkx,S1⟩:=hrel
    have f5:wr.cell? ⟨w.heap.size,5,none⟩=some (.slice ad0 nB cap0):=box_cell S1.out.1.box 5 (by simpa using HC.out.1)
    by_cases hlt:(i:Int)<nB
    · obtain ⟨b,hb⟩:∃ b,y.Bodies[i]? = some b:=⟨_,List.getElem?_eq_getElem (by have:=HR.out.2.2.2.2.2.1;omega)⟩
      obtain ⟨blk,off,cp,cs,e0,rc,-,hc⟩:=atB HR.out.1 hb
      injection e0 with e1 e2 e3
      subst e1
      subst e3
      clear e2
      obtain ⟨⟨zI,cI⟩,hF,cF,rF⟩:=body_parts rc
      obtain ⟨adF,capF,rfl⟩:=hdrF rF
      obtain ⟨nF,hnF⟩:∃ n,b.Fixtures.length=n:=⟨_,rfl⟩
      have hfew:=HR.out.2.2.2.2.1.b b (List.mem_of_getElem? hb)
      have lF:nF≤1000000:=hnF ▸ hfew.1
      rw [hnF] at rF cF
      have mI:M blk (off+i*20)=some (.int .i64 zI):=hc 0 _ cI
      have mF:=hc 19 _ cF
      have wi:IntKind.i64.wrap ((i:Int)+1)=((i+1:Nat):Int):=by rw [IntKind.wrap_i64];omega
      have ti:((i:Int)).toNat=i:=by omega
      have pi:(0:Int)≤(i:Int):=by omega
      have c19:wr.cell? ⟨blk,off+i*20+19,none⟩=some (.slice adF nF capF):=S1.out.1.km.at mF ne_slice
      have HI:Hid (_∧_∧_∧_∧_):=⟨mI,mF,rF,hfew,hnF⟩
      clear mI mF rF hfew hnF hc cF cI rc hb
      go_wp2
      clear f5 c19
      go_loopg [3] nF (fun kj s3 wq=>∃ k:Nat,s3=.int .i64 k∧k≤nF∧nF - k≤kj∧Aside (LM M B W0 w.heap.size C wq∧w.heap.size≤wq.heap.size))
      case atStart=>exact ⟨0,rfl,Nat.zero_le _,Nat.le_refl _,S1⟩
      case round=>
        clear S1
        obtain ⟨k,rfl,hjn,hkj,S2⟩:=hrel
        have f5:wr.cell? ⟨w.heap.size,5,none⟩=some (.slice (some ⟨blk,off,none⟩) nB cap0):=box_cell S2.out.1.box 5 (by simpa using HC.out.1)
        by_cases hlk:(k:Int)<nF
        · have c19:wr.cell? ⟨blk,off+i*20+19,none⟩=some (.slice adF nF capF):=S2.out.1.km.at HI.out.2.1 ne_slice
          obtain ⟨f,hf⟩:∃ f,b.Fixtures[k]? = some f:=⟨_,List.getElem?_eq_getElem (by have:=HI.out.2.2.2.2;omega)⟩
          obtain ⟨bF,oF,cpF,csF,e0,rc,oneF,hcF⟩:=atF HI.out.2.2.1 hf
          injection e0 with e1 e2 e3
          subst e1
          subst e3
          clear e2
          obtain ⟨lcs,⟨zC,cC⟩,hV,cV,rV⟩:=fix_parts rc
          obtain ⟨adV,capV,rfl⟩:=hdrV rV
          obtain ⟨nV,hnV⟩:∃ n,f.Shape.Vertices.length=n:=⟨_,rfl⟩
          have lV:nV≤1099511627776:=hnV ▸ HI.out.2.2.2.1.2 f (List.mem_of_getElem? hf)
          rw [hnV] at rV cV
          have mC:M bF (oF+k*10+7)=some (.int .i64 zC):=hcF 7 _ cC
          obtain ⟨P,P1,P2,P3⟩:=S2.out.1.km.cells hcF
          have P2V:P[2]? = some (.slice adV nV capV):=by
            obtain ⟨v,q1,q2 | ⟨⟨z,q2⟩,-⟩⟩:=P3 2 _ cV
            · rw [q1,q2]
            · cases q2
          have Pone:∀ u∈P,oneCell u=true:=by
            intro u hu
            obtain ⟨j,hj,rfl⟩:=List.getElem_of_mem hu
            have hj':j<csF.length:=by omega
            obtain ⟨v,q1,q2⟩:=P3 j _ (List.getElem?_eq_getElem hj')
            rw [List.getElem?_eq_getElem hj] at q1
            cases q1
            exact typ_one q2 (oneF _ (List.getElem_mem hj'))
          have Pl:P.length=10:=P1.trans lcs
          have wk:IntKind.i64.wrap ((k:Int)+1)=((k+1:Nat):Int):=by rw [IntKind.wrap_i64];omega
          have tk:((k:Int)).toNat=k:=by omega
          have pk:(0:Int)≤(k:Int):=by omega
          have ra:tAg Tryz.prog 103=some true:=by kernel_rfl
          have rz:tSz Tryz.prog 103=some P.length:=by rw [Pl];kernel_rfl
          have HP:Hid (_∧_∧_∧_∧_∧_∧_∧_∧_):=⟨Pl,P2,P2V,Pone,ra,rz,mC,rV,hnV⟩
          clear Pl P1 P2 P3 P2V Pone ra rz mC rV hnV rc oneF hcF lcs cC cV hf
          go_wp2_with (first
            | (refine wpList_loadc (cs:=P) (b:=bF) (off:=oF+k*10) rfl rfl rfl rfl HP.out.2.2.2.2.1 HP.out.2.2.2.2.2.1 HP.out.2.1 ?_)
            | (refine wpList_storeat (cs:=P) (arr:=zFx) (off:=0) rfl rfl rfl rfl rfl HP.out.2.2.2.2.2.1 (heap_at _ _ _ rfl) (by rw [HP.out.1];decide) HP.out.2.2.2.1 ?_;intro w2 hw2 hg2;have H2:Hid (_∧_):=⟨hw2,hg2⟩;clear hw2 hg2))
          have B2:Below wr.heap.size wr w2:=((Below.refl _ _).alloc (Nat.le_refl _) _).grown H2.out.2 (by simp) (fun k e=>by have:=Option.some.inj e;omega)
          have S3:Aside (LF M B W0 w.heap.size C wr.heap.size P w2∧w.heap.size≤w2.heap.size):=⟨⟨S2.out.1.below B2,by
            have:=H2.out.1
            rw [HP.out.1] at this
            simpa [zFx] using this,fun o=>(by
            cases e:M wr.heap.size o with
            | none=>rfl
            | some u=>obtain ⟨u',q1,-⟩:=S2.out.1.km.typ _ o u e;have:=cell_lt q1;omega)⟩,Nat.le_trans S2.out.2 B2.size⟩
          clear S2 H2 B2 f5 c19
          go_loopg [5] nV (fun kv s5 wv=>∃ n:Nat,s5=.int .i64 n∧n≤nV∧nV - n≤kv∧Aside (LF M B W0 w.heap.size C wr.heap.size P wv∧w.heap.size≤wv.heap.size))
          case atStart=>exact ⟨0,rfl,Nat.zero_le _,Nat.le_refl _,S3⟩
          case round=>
            clear S3
            obtain ⟨n,rfl,hnn,hkn,S4⟩:=hrel
            have g2:=box_cell S4.out.1.bx 2 (v:=.slice adV nV capV) (by simpa using HP.out.2.2.1)
            by_cases hlv:(n:Int)<nV
            · obtain ⟨q,hq⟩:∃ q,f.Shape.Vertices[n]? = some q:=⟨_,List.getElem?_eq_getElem (by have:=HP.out.2.2.2.2.2.2.2.2;omega)⟩
              obtain ⟨bV,oV,cpV,csV,e0,rc,-,hcV⟩:=atV HP.out.2.2.2.2.2.2.2.1 hq
              injection e0 with e1 e2 e3
              subst e1
              subst e3
              clear e2
              obtain ⟨zX,cX⟩:=vec_part rc
              have mX:M bV (oV+n*2)=some (.int .i64 zX):=hcV 0 _ cX
              obtain ⟨z0,c0⟩:=S4.out.1.L.km.int mX
              have y0:wr.frozen? ⟨bV,oV+n*2,none⟩=false:=S4.out.1.L.km.free _ _ _ mX
              have S5:∀ z:Int,Aside (LF M B W0 w.heap.size C _ P (wr.setCell ⟨bV,oV+n*2,none⟩ (.int .i64 z))∧w.heap.size≤(wr.setCell ⟨bV,oV+n*2,none⟩ (.int .i64 z)).heap.size):=fun z=>⟨S4.out.1.set mX z,by rw [size_set];exact S4.out.2⟩
              have wn:IntKind.i64.wrap ((n:Int)+1)=((n+1:Nat):Int):=by rw [IntKind.wrap_i64];omega
              have tn:((n:Int)).toNat=n:=by omega
              have pn:(0:Int)≤(n:Int):=by omega
              clear S4 mX cX hcV rc hq
              go_wp2
              go_roundg (nV - (n+1))
              case measure=>omega
              case rel=>exact ⟨n+1,by simp,by omega,by omega,S5 _⟩
            · have f5:wr.cell? ⟨w.heap.size,5,none⟩=some (.slice (some ⟨blk,off,none⟩) nB cap0):=box_cell S4.out.1.L.box 5 (by simpa using HC.out.1)
              have c19:wr.cell? ⟨blk,off+i*20+19,none⟩=some (.slice (some ⟨bF,oF,none⟩) nF capF):=S4.out.1.L.km.at HI.out.2.1 ne_slice
              obtain ⟨z0,c0⟩:=S4.out.1.L.km.int HP.out.2.2.2.2.2.2.1
              have y0:wr.frozen? ⟨bF,oF+k*10+7,none⟩=false:=S4.out.1.L.km.free _ _ _ HP.out.2.2.2.2.2.2.1
              have S5:∀ z:Int,Aside (LM M B W0 w.heap.size C (wr.setCell ⟨bF,oF+k*10+7,none⟩ (.int .i64 z))∧w.heap.size≤(wr.setCell ⟨bF,oF+k*10+7,none⟩ (.int .i64 z)).heap.size):=fun z=>⟨S4.out.1.L.set HP.out.2.2.2.2.2.2.1 z,by rw [size_set];exact S4.out.2⟩
              clear S4
              go_wp2
              go_roundg (nF - (k+1))
              case measure=>omega
              case rel=>exact ⟨k+1,by simp,by omega,by omega,S5 _⟩
        · have c19:wr.cell? ⟨blk,off+i*20+19,none⟩=some (.slice adF nF capF):=S2.out.1.km.at HI.out.2.1 ne_slice
          obtain ⟨z0,c0⟩:=S2.out.1.km.int HI.out.1
          have y0:wr.frozen? ⟨blk,off+i*20,none⟩=false:=S2.out.1.km.free _ _ _ HI.out.1
          have S5:∀ z:Int,Aside (LM M B W0 w.heap.size C (wr.setCell ⟨blk,off+i*20,none⟩ (.int .i64 z))∧w.heap.size≤(wr.setCell ⟨blk,off+i*20,none⟩ (.int .i64 z)).heap.size):=fun z=>⟨S2.out.1.set HI.out.1 z,by rw [size_set];exact S2.out.2⟩
          clear S2
          go_wp2
          go_roundg (nB - (i+1))
          case measure=>omega
          case rel=>exact ⟨i+1,by simp,by omega,by omega,S5 _⟩
    · go_wp2
      clear f5
      go_loopg [6] nJ (fun kx s2 wr=>∃ i:Nat,s2=.int .i64 i∧i≤nJ∧nJ - i≤kx∧Aside (LM M B W0 w.heap.size C wr∧w.heap.size≤wr.heap.size))
      case atStart=>exact ⟨0,rfl,Nat.zero_le _,Nat.le_refl _,S1⟩
      case round=>
        clear S1
        obtain ⟨i,rfl,hin,hkx,S1⟩:=hrel
        have f6:wr.cell? ⟨w.heap.size,6,none⟩=some (.slice ad1 nJ cap1):=box_cell S1.out.1.box 6 (by simpa using HC.out.2.1)
        by_cases hlt:(i:Int)<nJ
        · obtain ⟨b,hb⟩:∃ b,y.Joints[i]? = some b:=⟨_,List.getElem?_eq_getElem (by have:=HR.out.2.2.2.2.2.2.1;omega)⟩
          obtain ⟨blk,off,cp,cs,e0,rc,-,hc⟩:=atJ HR.out.2.1 hb
          injection e0 with e1 e2 e3
          subst e1
          subst e3
          clear e2
          obtain ⟨zI,cI⟩:=joint_part rc
          have mI:M blk (off+i*24)=some (.int .i64 zI):=hc 0 _ cI
          obtain ⟨z0,c0⟩:=S1.out.1.km.int mI
          have y0:wr.frozen? ⟨blk,off+i*24,none⟩=false:=S1.out.1.km.free _ _ _ mI
          have S5:∀ z:Int,Aside (LM M B W0 w.heap.size C (wr.setCell ⟨blk,off+i*24,none⟩ (.int .i64 z))∧w.heap.size≤(wr.setCell ⟨blk,off+i*24,none⟩ (.int .i64 z)).heap.size):=fun z=>⟨S1.out.1.set mI z,by rw [size_set];exact S1.out.2⟩
          have wi:IntKind.i64.wrap ((i:Int)+1)=((i+1:Nat):Int):=by rw [IntKind.wrap_i64];omega
          have ti:((i:Int)).toNat=i:=by omega
          have pi:(0:Int)≤(i:Int):=by omega
          clear S1 mI cI hc rc hb
          go_wp2
          go_roundg (nJ - (i+1))
          case measure=>omega
          case rel=>exact ⟨i+1,by simp,by omega,by omega,S5 _⟩
        · go_wp2
          clear f6
          go_loopg [7] nC (fun kx s2 wr=>∃ i:Nat,s2=.int .i64 i∧i≤nC∧nC - i≤kx∧Aside (LM M B W0 w.heap.size C wr∧w.heap.size≤wr.heap.size))
          case atStart=>exact ⟨0,rfl,Nat.zero_le _,Nat.le_refl _,S1⟩
          case round=>
            clear S1
            obtain ⟨i,rfl,hin,hkx,S1⟩:=hrel
            have f7:wr.cell? ⟨w.heap.size,7,none⟩=some (.slice ad2 nC cap2):=box_cell S1.out.1.box 7 (by simpa using HC.out.2.2.1)
            by_cases hlt:(i:Int)<nC
            · obtain ⟨b,hb⟩:∃ b,y.Contacts[i]? = some b:=⟨_,List.getElem?_eq_getElem (by have:=HR.out.2.2.2.2.2.2.2.1;omega)⟩
              obtain ⟨blk,off,cp,cs,e0,rc,-,hc⟩:=atC HR.out.2.2.1 hb
              injection e0 with e1 e2 e3
              subst e1
              subst e3
              clear e2
              obtain ⟨⟨zI,cI⟩,hF,cF,rF⟩:=con_parts rc
              obtain ⟨adF,capF,rfl⟩:=hdrP rF
              obtain ⟨nF,hnF⟩:∃ n,b.Manifold.Points.length=n:=⟨_,rfl⟩
              have lF:nF≤1099511627776:=hnF ▸ HR.out.2.2.2.2.1.c b (List.mem_of_getElem? hb)
              rw [hnF] at rF cF
              have mI:M blk (off+i*7)=some (.int .i64 zI):=hc 0 _ cI
              have mF:=hc 6 _ cF
              have wi:IntKind.i64.wrap ((i:Int)+1)=((i+1:Nat):Int):=by rw [IntKind.wrap_i64];omega
              have ti:((i:Int)).toNat=i:=by omega
              have pi:(0:Int)≤(i:Int):=by omega
              have c6:wr.cell? ⟨blk,off+i*7+6,none⟩=some (.slice adF nF capF):=S1.out.1.km.at mF ne_slice
              have HI:Hid (_∧_∧_∧_):=⟨mI,mF,rF,hnF⟩
              clear mI mF rF hnF hc cF cI rc hb
              go_wp2
              clear f7 c6
              go_loopg [8] nF (fun kj s3 wq=>∃ k:Nat,s3=.int .i64 k∧k≤nF∧nF - k≤kj∧Aside (LM M B W0 w.heap.size C wq∧w.heap.size≤wq.heap.size))
              case atStart=>exact ⟨0,rfl,Nat.zero_le _,Nat.le_refl _,S1⟩
              case round=>
                clear S1
                obtain ⟨k,rfl,hjn,hkj,S2⟩:=hrel
                have f7:wr.cell? ⟨w.heap.size,7,none⟩=some (.slice (some ⟨blk,off,none⟩) nC cap2):=box_cell S2.out.1.box 7 (by simpa using HC.out.2.2.1)
                by_cases hlk:(k:Int)<nF
                · have c6:wr.cell? ⟨blk,off+i*7+6,none⟩=some (.slice adF nF capF):=S2.out.1.km.at HI.out.2.1 ne_slice
                  obtain ⟨f,hf⟩:∃ f,b.Manifold.Points[k]? = some f:=⟨_,List.getElem?_eq_getElem (by have:=HI.out.2.2.2;omega)⟩
                  obtain ⟨bF,oF,cpF,csF,e0,rc,-,hcF⟩:=atP HI.out.2.2.1 hf
                  injection e0 with e1 e2 e3
                  subst e1
                  subst e3
                  clear e2
                  obtain ⟨zC,cC⟩:=point_part rc
                  have mC:M bF (oF+k*6+3)=some (.int .i64 zC):=hcF 3 _ cC
                  obtain ⟨z0,c0⟩:=S2.out.1.km.int mC
                  have y0:wr.frozen? ⟨bF,oF+k*6+3,none⟩=false:=S2.out.1.km.free _ _ _ mC
                  have S5:∀ z:Int,Aside (LM M B W0 w.heap.size C (wr.setCell ⟨bF,oF+k*6+3,none⟩ (.int .i64 z))∧w.heap.size≤(wr.setCell ⟨bF,oF+k*6+3,none⟩ (.int .i64 z)).heap.size):=fun z=>⟨S2.out.1.set mC z,by rw [size_set];exact S2.out.2⟩
                  have wk:IntKind.i64.wrap ((k:Int)+1)=((k+1:Nat):Int):=by rw [IntKind.wrap_i64];omega
                  have tk:((k:Int)).toNat=k:=by omega
                  have pk:(0:Int)≤(k:Int):=by omega
                  clear S2 mC cC hcF rc hf
                  go_wp2
                  go_roundg (nF - (k+1))
                  case measure=>omega
                  case rel=>exact ⟨k+1,by simp,by omega,by omega,S5 _⟩
                · have c6:wr.cell? ⟨blk,off+i*7+6,none⟩=some (.slice adF nF capF):=S2.out.1.km.at HI.out.2.1 ne_slice
                  obtain ⟨z0,c0⟩:=S2.out.1.km.int HI.out.1
                  have y0:wr.frozen? ⟨blk,off+i*7,none⟩=false:=S2.out.1.km.free _ _ _ HI.out.1
                  have S5:∀ z:Int,Aside (LM M B W0 w.heap.size C (wr.setCell ⟨blk,off+i*7,none⟩ (.int .i64 z))∧w.heap.size≤(wr.setCell ⟨blk,off+i*7,none⟩ (.int .i64 z)).heap.size):=fun z=>⟨S2.out.1.set HI.out.1 z,by rw [size_set];exact S2.out.2⟩
                  clear S2
                  go_wp2
                  go_roundg (nC - (i+1))
                  case measure=>omega
                  case rel=>exact ⟨i+1,by simp,by omega,by omega,S5 _⟩
            · go_wp2
              clear f7
              go_loopg [9] nO (fun kx s2 wr=>∃ l:Nat,s2=.int .i64 l∧l≤nO∧nO - l≤kx∧Aside (LM M B W0 w.heap.size C wr∧w.heap.size≤wr.heap.size))
              case atStart=>exact ⟨0,rfl,Nat.zero_le _,Nat.le_refl _,S1⟩
              case round=>
                clear S1
                obtain ⟨l,rfl,hin,hkx,S1⟩:=hrel
                have f8:wr.cell? ⟨w.heap.size,8,none⟩=some (.slice ad3 nO cap3):=box_cell S1.out.1.box 8 (by simpa using HC.out.2.2.2)
                by_cases hlt:(l:Int)<nO
                · obtain ⟨b,hb⟩:∃ b,y.Overlaps[l]? = some b:=⟨_,List.getElem?_eq_getElem (by have:=HR.out.2.2.2.2.2.2.2.2;omega)⟩
                  obtain ⟨blk,off,cp,cs,e0,rc,-,hc⟩:=atO HR.out.2.2.2.1 hb
                  injection e0 with e1 e2 e3
                  subst e1
                  subst e3
                  clear e2
                  obtain ⟨zI,cI⟩:=key_part rc
                  have mI:M blk (off+l*4)=some (.int .i64 zI):=hc 0 _ cI
                  obtain ⟨z0,c0⟩:=S1.out.1.km.int mI
                  have y0:wr.frozen? ⟨blk,off+l*4,none⟩=false:=S1.out.1.km.free _ _ _ mI
                  have S5:∀ z:Int,Aside (LM M B W0 w.heap.size C (wr.setCell ⟨blk,off+l*4,none⟩ (.int .i64 z))∧w.heap.size≤(wr.setCell ⟨blk,off+l*4,none⟩ (.int .i64 z)).heap.size):=fun z=>⟨S1.out.1.set mI z,by rw [size_set];exact S1.out.2⟩
                  have wi:IntKind.i64.wrap ((l:Int)+1)=((l+1:Nat):Int):=by rw [IntKind.wrap_i64];omega
                  have ti:((l:Int)).toNat=l:=by omega
                  have pi:(0:Int)≤(l:Int):=by omega
                  clear S1 mI cI hc rc hb
                  go_wp2
                  go_roundg (nO - (l+1))
                  case measure=>omega
                  case rel=>exact ⟨l+1,by simp,by omega,by omega,S5 _⟩
                · go_wp2
                  go_end0
                  exact ⟨⟨_,rfl⟩,S1.out.1.km,S1.out.2⟩
end GoForm
end

section
set_option linter.all false
set_option maxRecDepth 100000
open Go Go.Rx Go.Proofs Go.RowKit
namespace GoForm
noncomputable def code7:Code:=Tryz.f7.body.getD .skip
noncomputable abbrev cx7:Ctx Tryz.prog tb:=cx [c_9,c_10] []
structure Seen7 where
  p2:Option AV
  p3:Option AV
  p4:Option AV
noncomputable def run7 (x y:World_) (id:Int):Option (Seen7 ⊕ Tup tb [Ix.tbool]):=
  exec cx7 (lvl cx7 6) (fun d=>memN d [3,4]) (barF []) 65 (fstC code7) .n ⟨argSVs (cx [] []) [.d Ix.tWorld_,.d Ix.tWorld_,.d Ix.tint] (x,y,id,()) 0,[],[],0,[]⟩ fun e L=>match e with
    | .normal=>exec cx7 (lvl cx7 6) (fun d=>memN d [3,4]) (barF []) 65 (fstC (sndC code7)) .n L fun e L=>match e with
      | .normal=>some (.inl ⟨find 2 L.av.e,find 3 L.av.e,find 4 L.av.e⟩)
      | e=>(kfin cx7 [] [Ix.tbool] Tryz.f7.results.toList e L).map .inr
    | _=>none
theorem run7_eq (x y:World_) (id:Int):run7 x y id=Rx.Bind (caromref25_Few x) fun r=>Let (!r) fun a=>Rx.Bind (if (a==false)=true then caromref25_Few y else some default) fun r2=>Let (!r2) fun b=>Let (bif a then true else b) fun c=>
    if c=true then Rx.Bind caromlaw25_example fun e=>some (.inr e) else some (.inl ⟨some (.v (.int .i64 id)),some (.cptr (worAx x)),some (.cptr (worAx y))⟩):=by kernel_rfl
end GoForm
end

section
set_option linter.all false
set_option maxRecDepth 100000
open Go Go.Rx Go.Proofs Go.RowKit
namespace GoForm
theorem cptr_inv {m bl l v} (h:Rep m bl (.cptr l) v):∃ b o cs,v=.pointer (some ⟨b,o,none⟩)∧Reps m noNames l cs∧(∀ c∈cs,oneCell c=true)∧∀ (j:Nat) (u:Value),cs[j]? = some u→m b (o+j)=some u:=by
  cases h with
  | cptr h1 h2 h3=>exact ⟨_,_,_,rfl,h1,h2,h3⟩
theorem wor_agg {m:Mem} {x:World_} {A:List Value} (h:Reps m noNames (worAx x) A) (h1:∀ c∈A,oneCell c=true):Rep m noNames (e_World_ x) (.agg A.toArray):=by
  have e:e_World_ x=.agg (worAx x):=rfl
  rw [e];exact .agg h h1
structure AB (mo:Mem) (x:World_) (b0 o0:Nat) (A:List Value):Prop where
  rep:Rep mo noNames (e_World_ x) (.agg A.toArray)
  len:A.length=11
  one:∀ c∈A,oneCell c=true
  at':∀ (j:Nat) (u:Value),A[j]? = some u→mo b0 (o0+j)=some u
set_option maxHeartbeats 2000000 in
theorem law_head {r0 r1 rest:Code} (hc:code7=.seq r0 (.seq r1 rest)) {x y:World_} {id:Int} {fx fy:Bool} (hx:caromref25_Few x=some fx) (hy:caromref25_Few y=some fy) (hex:caromlaw25_example=some true) {m:Mem} {v1 v2:Value} {w:World} (hi:Imm m w) (hr1:Rep m noNames (e_World_ x) v1) (hr2:Rep m noNames (e_World_ y) v2) {R:Ending→World→Prop}
    (hret:∀ w',Below w.heap.size w w'→R (.returned (.bool true)) w')
    (k:fx=true→fy=true→∀ a w2 mo b0 o0 A b1 o1 C,a.defers=[]→a.tmps.size=65→a.tmps.getD 2 undef=.int .i64 id→a.tmps.getD 3 undef=.pointer (some ⟨b0,o0,none⟩)→a.tmps.getD 4 undef=.pointer (some ⟨b1,o1,none⟩)→
      Below w.heap.size w w2→Imm mo w2→AB mo x b0 o0 A→AB mo y b1 o1 C→rest.wp Tryz.prog (bodyPost Tryz.prog Tryz.f7 R) a w2):
    (Code.seq r0 (.seq r1 rest)).wp Tryz.prog (bodyPost Tryz.prog Tryz.f7 R) { tmps:=#[v1,v2,.int .i64 id]++Array.replicate (Tryz.f7.ntmps - (#[v1,v2,.int .i64 id]:Array Value).size) undef,defers:=[] } w:=by
  obtain ⟨e1,e2,e3⟩:fstC code7=r0∧fstC (sndC code7)=r1∧sndC (sndC code7)=rest:=by rw [hc];exact ⟨rfl,rfl,rfl⟩
  have hrun:run7 x y id=(if (fx&&fy)=true then some (.inl ⟨some (.v (.int .i64 id)),some (.cptr (worAx x)),some (.cptr (worAx y))⟩) else some (.inr true)):=by
    rw [run7_eq,hx,hy,hex]
    cases fx <;> cases fy <;> rfl
  have hav:avE [] (argSVs (cx [] []) [.d Ix.tWorld_,.d Ix.tWorld_,.d Ix.tint] (x,y,id,()) 0)=envFrom 0 [e_World_ x,e_World_ y,.v (.int .i64 id)]:=by kernel_rfl
  have s0:Sim 65 w m (⟨argSVs (cx [] []) [.d Ix.tWorld_,.d Ix.tWorld_,.d Ix.tint] (x,y,id,()) 0,[],[],0,[]⟩:SLS tb).av [] { tmps:=#[v1,v2,.int .i64 id]++Array.replicate (Tryz.f7.ntmps - (#[v1,v2,.int .i64 id]:Array Value).size) undef,defers:=[] } w m noNames:=
    ⟨rfl,by simp [Tryz.ntmps7],Below.refl _ _,⟨hi,Mem.le.refl m,fun _ _ _ h=>.inl h,(by intro id l h;cases h),(by intro id l p h;cases h),(by simp [noNames]),(by simp [noNames]),trivial⟩,(by
      show EnvRep m noNames (avE [] (argSVs (cx [] []) [.d Ix.tWorld_,.d Ix.tWorld_,.d Ix.tint] (x,y,id,()) 0)) _
      rw [hav];exact EnvRep.args (.cons hr1 (.cons hr2 (.cons .v .nil))) _),trivial,fun d _=>rfl⟩
  have hi0:RI [] (argSVs (cx [] []) [.d Ix.tWorld_,.d Ix.tWorld_,.d Ix.tint] (x,y,id,()) 0:SEnv tb):=by
    intro t G z hz
    have hk:keepE (tb:=tb) [] (argSVs (cx [] []) [.d Ix.tWorld_,.d Ix.tWorld_,.d Ix.tint] (x,y,id,()) 0)=true:=rfl
    have:=(keepE_e hk _ (find_mem hz)).2
    cases this
  obtain ⟨val,hval⟩:∃ val,run7 x y id=some val:=by
    rw [hrun];split <;> exact ⟨_,rfl⟩
  rw [hval] at hrun
  have key:=exec_ok (lvl_ok 6) (L:=(⟨argSVs (cx [] []) [.d Ix.tWorld_,.d Ix.tWorld_,.d Ix.tint] (x,y,id,()) 0,[],[],0,[]⟩:SLS tb)) hi0 hval
  rw [← e1,← e2]
  refine wp_seq (key _ _ _ _ _ _ _ s0 _ ?_)
  rintro e L' a1 w1 m' bl' ⟨L1,h',hi1,x1,t1⟩ s1
  cases e with
  | exit j=>cases h'
  | ret=>cases h'
  | normal=>
  obtain ⟨m1,bl1,s1⟩:=t1 _ _ _ _ _ _ _ _ s1
  have key2:=exec_ok (lvl_ok 6) hi1 h'
  refine wp_seq (key2 _ _ _ _ _ _ _ s1 _ ?_)
  rintro e L' a' w2 m' bl' hend s2
  by_cases hc:(fx&&fy)=true
  · rw [if_pos hc] at hrun
    have hv:=Option.some.inj hrun
    subst hv
    obtain ⟨L3,h3,hi3,x3,t3⟩:=hend
    cases e with
    | ret=>
      have h3:(kfin cx7 [] [Ix.tbool] Tryz.f7.results.toList .ret L3).map (Sum.inr (α:=Seen7))=some (.inl _):=h3
      obtain ⟨y,-,h5⟩:=Option.map_eq_some_iff.1 h3
      cases h5
    | exit j=>
      have h3:(kfin cx7 [] [Ix.tbool] Tryz.f7.results.toList (.exit j) L3).map (Sum.inr (α:=Seen7))=some (.inl _):=h3
      obtain ⟨y,-,h5⟩:=Option.map_eq_some_iff.1 h3
      cases h5
    | normal=>
    obtain ⟨mo,bl4,s⟩:=t3 _ _ _ _ _ _ _ _ s2
    have h':=Sum.inl.inj (Option.some.inj h3)
    have p2:=congrArg Seen7.p2 h'
    have p3:=congrArg Seen7.p3 h'
    have p4:=congrArg Seen7.p4 h'
    obtain ⟨b0,o0,A,v3,RA,A1,A2⟩:=cptr_inv (s.env 3 _ p3)
    obtain ⟨b1,o1,C,v4,RC,C1,C2⟩:=cptr_inv (s.env 4 _ p4)
    have hxy:fx=true∧fy=true:=by simpa using hc
    exact k hxy.1 hxy.2 a' w2 mo b0 o0 A b1 o1 C s.defers s.size (s.env 2 _ p2).eq_v v3 v4 s.below s.ws.imm ⟨wor_agg RA A1,RA.length.symm,A1,A2⟩ ⟨wor_agg RC C1,RC.length.symm,C1,C2⟩
  · rw [if_neg hc] at hrun
    have hv:=Option.some.inj hrun
    subst hv
    have hend':EndOk L1 (kfin cx7 [] [Ix.tbool] Tryz.f7.results.toList) true e L':=by
      obtain ⟨L3,h3,z⟩:=hend
      refine ⟨L3,?_,z⟩
      cases e with
      | normal=>cases h3
      | ret=>
        have h3:(kfin cx7 [] [Ix.tbool] Tryz.f7.results.toList .ret L3).map (Sum.inr (α:=Seen7))=some (.inr true):=h3
        obtain ⟨y,h4,h5⟩:=Option.map_eq_some_iff.1 h3
        rw [h4,Sum.inr.inj h5]
      | exit j=>
        have h3:(kfin cx7 [] [Ix.tbool] Tryz.f7.results.toList (.exit j) L3).map (Sum.inr (α:=Seen7))=some (.inr true):=h3
        obtain ⟨y,h4,h5⟩:=Option.map_eq_some_iff.1 h3
        rw [h4,Sum.inr.inj h5]
    have hn:e≠.normal:=by
      rintro rfl
      obtain ⟨L3,h3,z⟩:=hend
      cases h3
    have fin:bodyPost Tryz.prog Tryz.f7 R e.to a' w2:=end_post hend' s2 (fun v m' hb hi hn hv=>by
      have hv:Rep m' noNames (.v (.bool true)) v:=hv
      rw [hv.eq_v]
      exact hret _ hb)
    cases e with
    | normal=>exact absurd rfl hn
    | ret=>exact fin
    | exit j=>exact fin
end GoForm
end

section
set_option linter.all false
set_option maxRecDepth 100000
open Go Go.Rx Go.Proofs Go.RowKit
namespace GoForm
theorem arr65 {tm:Array Value} (h:tm.size=65) {p q r:Value} (h1:tm.getD 2 undef=p) (h2:tm.getD 3 undef=q) (h3:tm.getD 4 undef=r):∃ y0 y1 y5 y6 y7 y8 y9 y10 y11 y12 y13 y14 y15 y16 y17 y18 y19 y20 y21 y22 y23 y24 y25 y26 y27 y28 y29 y30 y31 y32 y33 y34 y35 y36 y37 y38 y39 y40 y41 y42 y43 y44 y45 y46 y47 y48 y49 y50 y51 y52 y53 y54 y55 y56 y57 y58 y59 y60 y61 y62 y63 y64:Value,
    tm=#[y0,y1,p,q,r,y5,y6,y7,y8,y9,y10,y11,y12,y13,y14,y15,y16,y17,y18,y19,y20,y21,y22,y23,y24,y25,y26,y27,y28,y29,y30,y31,y32,y33,y34,y35,y36,y37,y38,y39,y40,y41,y42,y43,y44,y45,y46,y47,y48,y49,y50,y51,y52,y53,y54,y55,y56,y57,y58,y59,y60,y61,y62,y63,y64]:=by
  obtain ⟨l⟩:=tm
  have g:l.length=65:=h
  clear h
  obtain ⟨y0,l0,rfl,g0⟩:=len_cons g
  obtain ⟨y1,l1,rfl,g1⟩:=len_cons g0
  obtain ⟨y2,l2,rfl,g2⟩:=len_cons g1
  obtain ⟨y3,l3,rfl,g3⟩:=len_cons g2
  obtain ⟨y4,l4,rfl,g4⟩:=len_cons g3
  obtain ⟨y5,l5,rfl,g5⟩:=len_cons g4
  obtain ⟨y6,l6,rfl,g6⟩:=len_cons g5
  obtain ⟨y7,l7,rfl,g7⟩:=len_cons g6
  obtain ⟨y8,l8,rfl,g8⟩:=len_cons g7
  obtain ⟨y9,l9,rfl,g9⟩:=len_cons g8
  obtain ⟨y10,l10,rfl,g10⟩:=len_cons g9
  obtain ⟨y11,l11,rfl,g11⟩:=len_cons g10
  obtain ⟨y12,l12,rfl,g12⟩:=len_cons g11
  obtain ⟨y13,l13,rfl,g13⟩:=len_cons g12
  obtain ⟨y14,l14,rfl,g14⟩:=len_cons g13
  obtain ⟨y15,l15,rfl,g15⟩:=len_cons g14
  obtain ⟨y16,l16,rfl,g16⟩:=len_cons g15
  obtain ⟨y17,l17,rfl,g17⟩:=len_cons g16
  obtain ⟨y18,l18,rfl,g18⟩:=len_cons g17
  obtain ⟨y19,l19,rfl,g19⟩:=len_cons g18
  obtain ⟨y20,l20,rfl,g20⟩:=len_cons g19
  obtain ⟨y21,l21,rfl,g21⟩:=len_cons g20
  obtain ⟨y22,l22,rfl,g22⟩:=len_cons g21
  obtain ⟨y23,l23,rfl,g23⟩:=len_cons g22
  obtain ⟨y24,l24,rfl,g24⟩:=len_cons g23
  obtain ⟨y25,l25,rfl,g25⟩:=len_cons g24
  obtain ⟨y26,l26,rfl,g26⟩:=len_cons g25
  obtain ⟨y27,l27,rfl,g27⟩:=len_cons g26
  obtain ⟨y28,l28,rfl,g28⟩:=len_cons g27
  obtain ⟨y29,l29,rfl,g29⟩:=len_cons g28
  obtain ⟨y30,l30,rfl,g30⟩:=len_cons g29
  obtain ⟨y31,l31,rfl,g31⟩:=len_cons g30
  obtain ⟨y32,l32,rfl,g32⟩:=len_cons g31
  obtain ⟨y33,l33,rfl,g33⟩:=len_cons g32
  obtain ⟨y34,l34,rfl,g34⟩:=len_cons g33
  obtain ⟨y35,l35,rfl,g35⟩:=len_cons g34
  obtain ⟨y36,l36,rfl,g36⟩:=len_cons g35
  obtain ⟨y37,l37,rfl,g37⟩:=len_cons g36
  obtain ⟨y38,l38,rfl,g38⟩:=len_cons g37
  obtain ⟨y39,l39,rfl,g39⟩:=len_cons g38
  obtain ⟨y40,l40,rfl,g40⟩:=len_cons g39
  obtain ⟨y41,l41,rfl,g41⟩:=len_cons g40
  obtain ⟨y42,l42,rfl,g42⟩:=len_cons g41
  obtain ⟨y43,l43,rfl,g43⟩:=len_cons g42
  obtain ⟨y44,l44,rfl,g44⟩:=len_cons g43
  obtain ⟨y45,l45,rfl,g45⟩:=len_cons g44
  obtain ⟨y46,l46,rfl,g46⟩:=len_cons g45
  obtain ⟨y47,l47,rfl,g47⟩:=len_cons g46
  obtain ⟨y48,l48,rfl,g48⟩:=len_cons g47
  obtain ⟨y49,l49,rfl,g49⟩:=len_cons g48
  obtain ⟨y50,l50,rfl,g50⟩:=len_cons g49
  obtain ⟨y51,l51,rfl,g51⟩:=len_cons g50
  obtain ⟨y52,l52,rfl,g52⟩:=len_cons g51
  obtain ⟨y53,l53,rfl,g53⟩:=len_cons g52
  obtain ⟨y54,l54,rfl,g54⟩:=len_cons g53
  obtain ⟨y55,l55,rfl,g55⟩:=len_cons g54
  obtain ⟨y56,l56,rfl,g56⟩:=len_cons g55
  obtain ⟨y57,l57,rfl,g57⟩:=len_cons g56
  obtain ⟨y58,l58,rfl,g58⟩:=len_cons g57
  obtain ⟨y59,l59,rfl,g59⟩:=len_cons g58
  obtain ⟨y60,l60,rfl,g60⟩:=len_cons g59
  obtain ⟨y61,l61,rfl,g61⟩:=len_cons g60
  obtain ⟨y62,l62,rfl,g62⟩:=len_cons g61
  obtain ⟨y63,l63,rfl,g63⟩:=len_cons g62
  obtain ⟨y64,l64,rfl,g64⟩:=len_cons g63
  obtain rfl:=List.length_eq_zero_iff.1 g64
  obtain rfl:y2=p:=by simpa using h1
  obtain rfl:y3=q:=by simpa using h2
  obtain rfl:y4=r:=by simpa using h3
  exact ⟨y0,y1,y5,y6,y7,y8,y9,y10,y11,y12,y13,y14,y15,y16,y17,y18,y19,y20,y21,y22,y23,y24,y25,y26,y27,y28,y29,y30,y31,y32,y33,y34,y35,y36,y37,y38,y39,y40,y41,y42,y43,y44,y45,y46,y47,y48,y49,y50,y51,y52,y53,y54,y55,y56,y57,y58,y59,y60,y61,y62,y63,y64,rfl⟩
theorem own34 (x:World_):(ansS tb cd [5,6,7,8] [Ix.tWorld_] x 0).1.av=.agg (worA x (.rw 0 20) (.rw 1 24) (.rw 2 7) (.rw 3 4))∧((ansS tb cd [5,6,7,8] [Ix.tWorld_] x 0).2.map fun p=>(p.1,p.2.av))=[(0,.cells (elC tb Ix.tBody x.Bodies)),(1,.cells (elC tb Ix.tJoint x.Joints)),(2,.cells (elC tb Ix.tContact x.Contacts)),(3,.cells (elC tb Ix.tPairKey x.Overlaps))]:=⟨by kernel_rfl,by kernel_rfl⟩
theorem bare_all {E:Ix} {m:Mem} {bl:Names} {w:World} (hi:Imm m w) {l:List (tb.T E)} {xs:List Value} (h:Reps m bl (elC tb E l) xs):Reps (memA w) noNames (elC tb E l) xs:=by
  have:=h.bare (bl':=noNames)
  rw [elC_bare E l] at this
  exact this.mono (le_all hi)
theorem refclone {x:World_} (hcl:caromref25_Clone x=some x) {m:Mem} {v:Value} {w:World} (hi:Imm m w) (hr:Rep m noNames (e_World_ x) v):
    Calls Tryz.prog 34 #[v] w fun e w'=>∃ D:List Value,e=.returned (.agg D.toArray)∧Below w.heap.size w w'∧Rep (memA w') noNames (e_World_ x) (.agg D.toArray)∧D.length=11∧∀ c∈D,oneCell c=true:=by
  have h:=c_34.ok (x,()) [e_World_ x] x ⟨rfl,trivial⟩ hcl
  have h:FnR Tryz.prog 34 [e_World_ x] (.agg (worA x (.rw 0 20) (.rw 1 24) (.rw 2 7) (.rw 3 4))) [(0,.cells (elC tb Ix.tBody x.Bodies)),(1,.cells (elC tb Ix.tJoint x.Joints)),(2,.cells (elC tb Ix.tContact x.Contacts)),(3,.cells (elC tb Ix.tPairKey x.Overlaps))]:=by
    have e1:=(own34 x).1
    have e2:=(own34 x).2
    rw [← e1,← e2]
    exact h
  refine (h w m [v] trivial hi (.cons hr .nil)).mono ?_
  rintro e w' ⟨v1,m',bl',rfl,hb,hws,-,hrep⟩
  obtain ⟨cs,rfl,q1,q2⟩:=rep_agg hrep
  obtain ⟨h0,h1,h2,h3,rfl,a0,a1,a2,a3⟩:=worA_inv q1
  obtain ⟨xb,rB,pB,-⟩:=rowOf hws (id:=0) rfl a0 (n:=x.Bodies.length) (elC_len Ix.tBody 20 _ fun _=>rfl) (by decide)
  obtain ⟨xj,rJ,pJ,-⟩:=rowOf hws (id:=1) rfl a1 (n:=x.Joints.length) (elC_len Ix.tJoint 24 _ fun _=>rfl) (by decide)
  obtain ⟨xc,rC,pC,-⟩:=rowOf hws (id:=2) rfl a2 (n:=x.Contacts.length) (elC_len Ix.tContact 7 _ fun _=>rfl) (by decide)
  obtain ⟨xo,rO,pO,-⟩:=rowOf hws (id:=3) rfl a3 (n:=x.Overlaps.length) (elC_len Ix.tPairKey 4 _ fun _=>rfl) (by decide)
  refine ⟨_,rfl,hb,worRep (rep_row (E:=Ix.tBody) rB (fun _=>rfl) (bare_all hws.imm pB) (fun _ _ _ _ h=>h)) (rep_row (E:=Ix.tJoint) rJ (fun _=>rfl) (bare_all hws.imm pJ) (fun _ _ _ _ h=>h)) (rep_row (E:=Ix.tContact) rC (fun _=>rfl) (bare_all hws.imm pC) (fun _ _ _ _ h=>h)) (rep_row (E:=Ix.tPairKey) rO (fun _=>rfl) (bare_all hws.imm pO) (fun _ _ _ _ h=>h)) q2,rfl,q2⟩
theorem quiet_loadc {P:Program} {C:World→Prop} {o:Oper} {a:Act} {K:Act→Prop} {ty:TypeId} {y:Operand} {b off:Nat} {cs:List Value}
    (e:o.op=.load ty y) (hy:a.eval y=.pointer (some ⟨b,off,none⟩)) (ha:tAg P ty=some true) (hs:tSz P ty=some cs.length)
    (hC:∀ w,C w→∀ (j:Nat) (v:Value),cs[j]? = some v→w.cell? ⟨b,off+j,none⟩=some v) (hk:K (a.put o.dst (.agg cs.toArray))):o.quiet P a C K:=
  ⟨_,fun w hw=>by
    have hld:=run_loadVar_agg (P:=P) (ty:=ty) (w:=w) (b:=b) (o:=off) (cs:=cs) ha hs (hC w hw)
    have r1:(execOp a.eval o).run P w=.ok (.value (.agg cs.toArray)) w:=by simp [execOp,e,hy,Instr.loadAt,Instr.sureAddr,hld]
    unfold Oper.quietAt
    rw [r1]
    exact ⟨rfl,rfl⟩,hk⟩
theorem call_c {f:FuncId} {avs:List AV} {r:Value} (h:FnR Tryz.prog f avs (.v r) []) (w6:World) (vs:List Value) (hr:Reps (memA w6) noNames avs vs) (w:World) (hw:Below w6.heap.size w6 w):
    Calls Tryz.prog f vs.toArray w fun e w'=>e=.returned r∧Below w6.heap.size w6 w':=by
  refine (call_v h w vs (hr.mono (le_all ((imm_all w6).below hw)))).mono ?_
  rintro e w' ⟨rfl,hb⟩
  exact ⟨rfl,hw.trans (hb.mono hw.size)⟩
def exM (l:List Nat) (m:Mem):Mem:=fun b o=>if b∈l then none else m b o
theorem exM_of {l:List Nat} {m:Mem} {b o:Nat} {u:Value} (h:exM l m b o=some u):b∉l∧m b o=some u:=by
  unfold exM at h
  by_cases hb:b∈l
  · rw [if_pos hb] at h;cases h
  · rw [if_neg hb] at h;exact ⟨hb,h⟩
theorem ownN_of {B:Nat} {w:World} {b o:Nat} {u:Value} (h:ownN B w b o=some u):B≤b∧w.frozen? ⟨b,o,none⟩=false∧w.cell? ⟨b,o,none⟩=some u:=by
  unfold ownN at h
  by_cases hb:B≤b∧w.frozen? ⟨b,o,none⟩=false
  · rw [if_pos hb] at h;exact ⟨hb.1,hb.2,h⟩
  · rw [if_neg hb] at h;cases h
theorem ownN_ex {B0 B:Nat} {w0 w:World} {l:List Nat} (hB:B≤B0) (hb:Below w0.heap.size w0 w) (hl:∀ k∈l,k<B0∨w0.heap.size≤k):Mem.le (ownN B0 w0) (exM l (ownN B w)):=by
  intro b o u e
  obtain ⟨e1,e2,e3⟩:=ownN_of e
  have hlt:=cell_lt e3
  have hn:b∉l:=fun h=>by rcases hl b h with h | h <;> omega
  unfold exM
  rw [if_neg hn]
  unfold ownN
  rw [if_pos ⟨by omega,(frozen_of (hb.block b hlt)).trans e2⟩]
  exact (hb.cell (p:=⟨b,o,none⟩) hlt).trans e3
theorem exM_KM {B:Nat} {w:World} {l:List Nat}:KM (exM l (ownN B w)) B w w:=
  KM.start (fun b o u e=>(ownN_of (exM_of e).2).2.2) (fun b o u e=>(ownN_of (exM_of e).2).2.1) (fun b o u e=>(ownN_of (exM_of e).2).1)
theorem exM_none {m:Mem} {l:List Nat} {k:Nat} (h:k∈l):∀ o,exM l m k o=none:=fun o=>if_pos h
theorem NewW.inv {B w v} (h:NewW B w v):∃ (y:World_) (F:List Value),Wee y∧v=.agg F.toArray∧F.length=11∧(∀ c∈F,oneCell c=true)∧Rep (ownN B w) noNames (e_World_ y) (.agg F.toArray):=by
  obtain ⟨y,hy,r⟩:=h
  obtain ⟨h0,h1,h2,h3,rfl,-,-,-,-,q⟩:=worRep_inv r
  exact ⟨y,_,hy,rfl,rfl,q,r⟩
theorem box_load {w:World} {b:Nat} {cs:List Value} {T:TypeId} (h:w.heap[b]? = some (.cells cs.toArray T (0,0))) (j:Nat) (v:Value) (e:cs[j]? = some v):w.cell? ⟨b,0+j,none⟩=some v:=by
  rw [Nat.zero_add];exact box_cell h j (by simpa using e)
end GoForm
end

section
set_option linter.all false
set_option maxRecDepth 100000
open Go Go.Rx Go.Proofs Go.RowKit
namespace GoForm
theorem ownN_imm {B:Nat} {w:World}:Imm (ownN B w) w:=fun b o u e=>(ownN_of e).2.2
theorem ImmN.below {B:Nat} {w w':World} (hb:Below w.heap.size w w'):Imm (ownN B w) w':=ownN_imm.below hb
structure LH (x y:World_) (id:Int) (q:Bool) (r:World_ × Int) (g:World_):Prop where
  wx:Wee x
  cr:caromref25_Clone x=some x
  cw:world_Clone x=some x
  q1:world_Equal x y=some q
  q2:caromref25_Equal x y=some q
  q3:caromref25_Equal x x=some true
  q4:world_Equal x x=some true
  rm:world_RemoveBody x id=some r
  wr:Wee r.1
  wk:world_WakeBody x id=some g
  wg:Wee g
theorem fnr36 {x y:World_} {q:Bool} (h:world_Equal x y=some q):FnR Tryz.prog 36 [e_World_ x,e_World_ y] (.v (.bool q)) []:=c_36.ok (x,y,()) [e_World_ x,e_World_ y] q ⟨rfl,rfl,trivial⟩ h
theorem fnr17 {x y:World_} {q:Bool} (h:caromref25_Equal x y=some q):FnR Tryz.prog 17 [e_World_ x,e_World_ y] (.v (.bool q)) []:=c_17.ok (x,y,()) [e_World_ x,e_World_ y] q ⟨rfl,rfl,trivial⟩ h
theorem fnr10 (h:caromlaw25_example=some true):FnR Tryz.prog 10 [] (.v (.bool true)) []:=c_10.ok () [] true trivial h
set_option maxHeartbeats 16000000 in
theorem law_core {x y:World_} {id:Int} {fx fy:Bool} (hx:caromref25_Few x=some fx) (hy:caromref25_Few y=some fy) (hex:caromlaw25_example=some true) {q:Bool} {r:World_ × Int} {g:World_} (hP:fx=true→fy=true→LH x y id q r g)
    {m:Mem} {v1 v2:Value} {w:World} (hi:Imm m w) (hr1:Rep m noNames (e_World_ x) v1) (hr2:Rep m noNames (e_World_ y) v2):
    Calls Tryz.prog 7 #[v1,v2,.int .i64 id] w fun e w'=>e=.returned (.bool true)∧Below w.heap.size w w':=by
  refine calls_of_wp Tryz.func7 rfl ?_
  refine law_head (by kernel_rfl) hx hy hex hi hr1 hr2 (fun w' hb=>⟨rfl,hb⟩) ?_
  intro hfx hfy a w2 mo b0 o0 A b1 o1 C hdf hsz t2 t3 t4 hb2 him HA HC
  have H:=hP hfx hfy
  clear hP hfx hfy hx hy hr1 hr2 hi
  obtain ⟨tm,df⟩:=a
  obtain rfl:df=[]:=hdf
  obtain ⟨y0,y1,y5,y6,y7,y8,y9,y10,y11,y12,y13,y14,y15,y16,y17,y18,y19,y20,y21,y22,y23,y24,y25,y26,y27,y28,y29,y30,y31,y32,y33,y34,y35,y36,y37,y38,y39,y40,y41,y42,y43,y44,y45,y46,y47,y48,y49,y50,y51,y52,y53,y54,y55,y56,y57,y58,y59,y60,y61,y62,y63,y64,rfl⟩:=arr65 hsz t2 t3 t4
  clear hsz t2 t3 t4
  have ra:tAg Tryz.prog 31=some true:=by kernel_rfl
  have rz:tSz Tryz.prog 31=some 11:=by kernel_rfl
  have ldA:∀ w',Below w2.heap.size w2 w'→∀ (j:Nat) (u:Value),A[j]? = some u→w'.cell? ⟨b0,o0+j,none⟩=some u:=fun w' hb j u e=>(him.below hb) _ _ _ (HA.at' j u e)
  have ldC:∀ w',Below w2.heap.size w2 w'→∀ (j:Nat) (u:Value),C[j]? = some u→w'.cell? ⟨b1,o1+j,none⟩=some u:=fun w' hb j u e=>(him.below hb) _ _ _ (HC.at' j u e)
  have rpA:∀ w',Below w2.heap.size w2 w'→Rep (memA w') noNames (e_World_ x) (.agg A.toArray):=fun w' hb=>HA.rep.mono (le_all (him.below hb))
  have rpC:∀ w',Below w2.heap.size w2 w'→Rep (memA w') noNames (e_World_ y) (.agg C.toArray):=fun w' hb=>HC.rep.mono (le_all (him.below hb))
  have lA:A.length=11:=HA.len
  have lC:C.length=11:=HC.len
  have rzA:tSz Tryz.prog 31=some A.length:=by rw [lA];exact rz
  have rzC:tSz Tryz.prog 31=some C.length:=by rw [lC];exact rz
  have HR:Hid (_∧_∧_∧_):=⟨ra,rz,rzA,rzC⟩
  have HL:Hid (_∧_∧_∧_):=⟨ldA,ldC,rpA,rpC⟩
  have HX:Hid (_∧_∧_):=⟨H,hex,hb2⟩
  clear ra rz rzA rzC ldA ldC rpA rpC H hex HA HC him lA lC hb2
  have S2:Hid (Below w2.heap.size w2 w2):=Below.refl _ _
  go_wp2_with (first
    | (refine wpList_loadc (cs:=A) rfl rfl rfl rfl HR.out.1 HR.out.2.2.1 (HL.out.1 _ S2.out) ?_)
    | (go_at_call 34;refine (refclone HX.out.1.cr (imm_all w2) (HL.out.2.2.1 _ S2.out)).mono ?_
       rintro _ w3 ⟨D,rfl,hb3,hD1,hD2,hD3⟩
       have S3:Hid (Below w2.heap.size w2 w3):=hb3
       have rzD:tSz Tryz.prog 31=some D.length:=by rw [hD2];exact HR.out.2.1
       have TD:Hid (_∧_∧_∧_):=⟨hD1,hD2,hD3,rzD⟩
       clear hb3 hD1 hD2 hD3 rzD)
    | (refine wpList_storeat (cs:=D) (arr:=worZ) (off:=0) rfl rfl rfl rfl rfl TD.out.2.2.2 (heap_at _ _ _ rfl) (by rw [TD.out.2.1];decide) TD.out.2.2.1 ?_
       intro w4 hw4 hg4
       have B4:Below w3.heap.size w3 w4:=((Below.refl _ _).alloc (Nat.le_refl _) _).grown hg4 (by simp) (fun k e=>by have:=Option.some.inj e;omega)
       have X4:Hid (w4.heap[w3.heap.size]? = some (.cells D.toArray 31 (0,0))∧Below w3.heap.size w3 w4):=⟨by
         rw [TD.out.2.1] at hw4
         simpa [worZ] using hw4,B4⟩
       have S4:Hid (Below w2.heap.size w2 w4):=S3.out.trans (B4.mono S3.out.size)
       clear hw4 hg4 B4)
    | (refine wpList_loadc (cs:=A) rfl rfl rfl rfl HR.out.1 HR.out.2.2.1 (HL.out.1 _ S4.out) ?_)
    | (go_at_call 35;refine (clone_new HX.out.1.wx (imm_all w4) (HL.out.2.2.1 _ S4.out)).mono ?_
       rintro _ w5 ⟨h0,h1,h2,h3,M,xb,xj,xc,xo,rfl,hb5,W⟩
       obtain ⟨E,hE⟩:∃ E,E=worC x h0 h1 h2 h3:=⟨_,rfl⟩
       have hE1:=W.newW HX.out.1.wx
       have hE2:E.length=11:=by rw [hE];rfl
       have hE3:∀ c∈E,oneCell c=true:=by rw [hE];exact worC_one W.rB.one W.rJ.one W.rC.one W.rO.one
       have rzE:tSz Tryz.prog 31=some E.length:=by rw [hE2];exact HR.out.2.1
       have hE4:Rep (ownN w4.heap.size w5) noNames (e_World_ x) (.agg E.toArray):=by
         rw [hE];exact W.newR
       rw [← hE]
       have TE:Hid (_∧_∧_∧_∧_):=⟨hE4,hE2,hE3,rzE,hb5⟩
       clear hb5 hE hE1 hE2 hE3 hE4 rzE W)
    | (refine wpList_storeat (cs:=E) (arr:=worZ) (off:=0) rfl rfl rfl rfl rfl TE.out.2.2.2.1 (heap_at _ _ _ rfl) (by rw [TE.out.2.1];decide) TE.out.2.2.1 ?_
       intro w6 hw6 hg6
       have B6:Below w5.heap.size w5 w6:=((Below.refl _ _).alloc (Nat.le_refl _) _).grown hg6 (by simp) (fun k e=>by have:=Option.some.inj e;omega)
       have X6:Hid (w6.heap[w5.heap.size]? = some (.cells E.toArray 31 (0,0))∧Below w5.heap.size w5 w6):=⟨by
         rw [TE.out.2.1] at hw6
         simpa [worZ] using hw6,B6⟩
       have S6:Hid (Below w2.heap.size w2 w6∧Below w4.heap.size w4 w6):=⟨S4.out.trans ((TE.out.2.2.2.2.trans (B6.mono TE.out.2.2.2.2.size)).mono S4.out.size),TE.out.2.2.2.2.trans (B6.mono TE.out.2.2.2.2.size)⟩
       clear hw6 hg6 B6))
  refine wp_region_bel mixed25 (by kernel_rfl) ?_
  have rE6:Hid (Rep (memA w6) noNames (e_World_ x) (.agg E.toArray)):=TE.out.1.mono (le_all (ImmN.below X6.out.2))
  have k1:=fun w' hw'=>call_c (fnr36 HX.out.1.q1) w6 [.agg A.toArray,.agg C.toArray] (.cons (HL.out.2.2.1 _ S6.out.1) (.cons (HL.out.2.2.2 _ S6.out.1) .nil)) w' hw'
  have k2:=fun w' hw'=>call_c (fnr17 HX.out.1.q2) w6 [.agg A.toArray,.agg C.toArray] (.cons (HL.out.2.2.1 _ S6.out.1) (.cons (HL.out.2.2.2 _ S6.out.1) .nil)) w' hw'
  have k3:=fun w' hw'=>call_c (fnr17 HX.out.1.q3) w6 [.agg E.toArray,.agg A.toArray] (.cons rE6.out (.cons (HL.out.2.2.1 _ S6.out.1) .nil)) w' hw'
  have k4:=fun w' hw'=>call_c (fnr36 HX.out.1.q4) w6 [.agg A.toArray,.agg E.toArray] (.cons (HL.out.2.2.1 _ S6.out.1) (.cons rE6.out .nil)) w' hw'
  go_big_quiet_want
  refine quiet_loadc (cs:=A) (b:=b0) (off:=o0) rfl rfl HR.out.1 HR.out.2.2.1 (fun w' hw=>HL.out.1 w' (S6.out.1.trans (hw.mono S6.out.1.size))) ?_
  simp only [Act.put,List.setIfInBounds_toArray,List.set_cons_succ,List.set_cons_zero]
  go_big_quiet_on
  go_big_quiet_want
  refine quiet_loadc (cs:=C) (b:=b1) (off:=o1) rfl rfl HR.out.1 HR.out.2.2.2 (fun w' hw=>HL.out.2.1 w' (S6.out.1.trans (hw.mono S6.out.1.size))) ?_
  simp only [Act.put,List.setIfInBounds_toArray,List.set_cons_succ,List.set_cons_zero]
  go_big_quiet_on
  go_big_quiet_want
  refine quiet_callf (f:=36) (xs:=#[.tmp 25,.tmp 26]) (tys:=#[31,31]) (vs:=#[.agg A.toArray,.agg C.toArray]) (v:=.bool q) rfl Tryz.call36 (by simp [Act.eval]) (fun w' hw'=>k1 w' hw') ?_
  simp only [Act.put,List.setIfInBounds_toArray,List.set_cons_succ,List.set_cons_zero]
  go_big_quiet_on
  go_big_quiet_want
  refine quiet_loadc (cs:=A) (b:=b0) (off:=o0) rfl rfl HR.out.1 HR.out.2.2.1 (fun w' hw=>HL.out.1 w' (S6.out.1.trans (hw.mono S6.out.1.size))) ?_
  simp only [Act.put,List.setIfInBounds_toArray,List.set_cons_succ,List.set_cons_zero]
  go_big_quiet_on
  go_big_quiet_want
  refine quiet_loadc (cs:=C) (b:=b1) (off:=o1) rfl rfl HR.out.1 HR.out.2.2.2 (fun w' hw=>HL.out.2.1 w' (S6.out.1.trans (hw.mono S6.out.1.size))) ?_
  simp only [Act.put,List.setIfInBounds_toArray,List.set_cons_succ,List.set_cons_zero]
  go_big_quiet_on
  go_big_quiet_want
  refine quiet_callf (f:=17) (xs:=#[.tmp 28,.tmp 29]) (tys:=#[31,31]) (vs:=#[.agg A.toArray,.agg C.toArray]) (v:=.bool q) rfl Tryz.call17 (by simp [Act.eval]) (fun w' hw'=>k2 w' hw') ?_
  simp only [Act.put,List.setIfInBounds_toArray,List.set_cons_succ,List.set_cons_zero]
  go_big_quiet_on
  go_big_quiet_want
  go_big_quiet_op
  first | go_big_quiet_on | (refine ⟨_,fun _ _=>rfl,?_⟩;go_big_quiet_on)
  go_big_quiet_want
  go_big_quiet_op
  first | go_big_quiet_on | (refine ⟨_,fun _ _=>rfl,?_⟩;go_big_quiet_on)
  go_big_quiet_want
  refine quiet_loadc (cs:=E) (b:=w5.heap.size) (off:=0) rfl rfl HR.out.1 TE.out.2.2.2.1 (fun w' hw=>box_load ((hw.block _ (heap_lt X6.out.1)).trans X6.out.1)) ?_
  simp only [Act.put,List.setIfInBounds_toArray,List.set_cons_succ,List.set_cons_zero]
  go_big_quiet_on
  go_big_quiet_want
  refine quiet_loadc (cs:=A) (b:=b0) (off:=o0) rfl rfl HR.out.1 HR.out.2.2.1 (fun w' hw=>HL.out.1 w' (S6.out.1.trans (hw.mono S6.out.1.size))) ?_
  simp only [Act.put,List.setIfInBounds_toArray,List.set_cons_succ,List.set_cons_zero]
  go_big_quiet_on
  go_big_quiet_want
  refine quiet_callf (f:=17) (xs:=#[.tmp 33,.tmp 34]) (tys:=#[31,31]) (vs:=#[.agg E.toArray,.agg A.toArray]) (v:=.bool true) rfl Tryz.call17 (by simp [Act.eval]) (fun w' hw'=>k3 w' hw') ?_
  simp only [Act.put,List.setIfInBounds_toArray,List.set_cons_succ,List.set_cons_zero]
  go_big_quiet_on
  go_big_quiet_want
  go_big_quiet_op
  first | go_big_quiet_on | (refine ⟨_,fun _ _=>rfl,?_⟩;go_big_quiet_on)
  go_big_quiet_want
  go_big_quiet_op
  first | go_big_quiet_on | (refine ⟨_,fun _ _=>rfl,?_⟩;go_big_quiet_on)
  go_big_quiet_want
  go_big_quiet_op
  first | go_big_quiet_on | (refine ⟨_,fun _ _=>rfl,?_⟩;go_big_quiet_on)
  go_big_quiet_want
  refine quiet_loadc (cs:=A) (b:=b0) (off:=o0) rfl rfl HR.out.1 HR.out.2.2.1 (fun w' hw=>HL.out.1 w' (S6.out.1.trans (hw.mono S6.out.1.size))) ?_
  simp only [Act.put,List.setIfInBounds_toArray,List.set_cons_succ,List.set_cons_zero]
  go_big_quiet_on
  go_big_quiet_want
  refine quiet_loadc (cs:=E) (b:=w5.heap.size) (off:=0) rfl rfl HR.out.1 TE.out.2.2.2.1 (fun w' hw=>box_load ((hw.block _ (heap_lt X6.out.1)).trans X6.out.1)) ?_
  simp only [Act.put,List.setIfInBounds_toArray,List.set_cons_succ,List.set_cons_zero]
  go_big_quiet_on
  go_big_quiet_want
  refine quiet_callf (f:=36) (xs:=#[.tmp 39,.tmp 40]) (tys:=#[31,31]) (vs:=#[.agg A.toArray,.agg E.toArray]) (v:=.bool true) rfl Tryz.call36 (by simp [Act.eval]) (fun w' hw'=>k4 w' hw') ?_
  simp only [Act.put,List.setIfInBounds_toArray,List.set_cons_succ,List.set_cons_zero]
  go_big_quiet_on
  go_big_quiet_want
  go_big_quiet_op
  first | go_big_quiet_on | (refine ⟨_,fun _ _=>rfl,?_⟩;go_big_quiet_on)
  go_big_quiet_want
  go_big_quiet_op
  first | go_big_quiet_on | (refine ⟨_,fun _ _=>rfl,?_⟩;go_big_quiet_on)
  refine wpQuiet_nil ?_
  intro w7 hw7
  have S7:Hid (Below w2.heap.size w2 w7∧Below w4.heap.size w4 w7∧Below w6.heap.size w6 w7):=⟨S6.out.1.trans (hw7.mono S6.out.1.size),S6.out.2.trans (hw7.mono S6.out.2.size),hw7⟩
  clear k1 k2 k3 k4 hw7
  go_wp2_with (first
    | (go_at_call 10;refine (call_v (fnr10 HX.out.2.1) w15 [] .nil).mono ?_
       rintro _ w16 ⟨rfl,hb16⟩
       have S16:Hid (Below w2.heap.size w2 w16):=S15.out.trans (hb16.mono S15.out.size)
       clear hb16)
    | (go_at_call 17;refine (call_v (fnr17 HX.out.1.q3) w14 [.agg A.toArray,.agg D.toArray] (.cons (HL.out.2.2.1 _ S14.out.1) (.cons (TD.out.1.mono (le_all ((imm_all w3).below S14.out.2))) .nil))).mono ?_
       rintro _ w15 ⟨rfl,hb15⟩
       have S15:Hid (Below w2.heap.size w2 w15):=S14.out.1.trans (hb15.mono S14.out.1.size)
       clear hb15)
    | (refine wpList_loadc (cs:=D) (off:=0) rfl rfl rfl rfl HR.out.1 TD.out.2.2.2 (box_load X14.out) ?_)
    | (refine wpList_loadc (cs:=A) rfl rfl rfl rfl HR.out.1 HR.out.2.2.1 (HL.out.1 _ S14.out.1) ?_)
    | (go_at_call 37;refine (modify_keeps TG.out.2.2.2.2.2 HM.out.2.2.1 K13.out.1 K13.out.2).mono ?_
       rintro _ w14 ⟨⟨u14,rfl⟩,hk14,hs14⟩
       have B414:Below w4.heap.size w4 w14:=HM.out.2.2.2.2.trans hk14.bel
       have S14:Hid (Below w2.heap.size w2 w14∧Below w3.heap.size w3 w14):=⟨S4.out.trans (B414.mono S4.out.size),X4.out.2.trans (B414.mono X4.out.2.size)⟩
       have X14:Hid (w14.heap[w3.heap.size]? = some (.cells D.toArray 31 (0,0))):=(B414.block _ (heap_lt X4.out.1)).trans X4.out.1
       clear hk14 hs14 B414)
    | (refine wpList_loadc (cs:=G) (off:=0) rfl rfl rfl rfl HR.out.1 TG.out.2.2.2.1 (box_load (HB.out _ K13.out.1).2.2) ?_)
    | (go_at_call 37;refine (modify_keeps TF.out.2.2.2.2.2 HM.out.2.1 K12.out.1 K12.out.2).mono ?_
       rintro _ w13 ⟨⟨u13,rfl⟩,hk13,hs13⟩
       have K13:Hid (KM MM w4.heap.size w11 w13∧w4.heap.size≤w13.heap.size):=⟨hk13,Nat.le_trans K12.out.2 hs13⟩
       clear hk13 hs13)
    | (refine wpList_loadc (cs:=F) (off:=0) rfl rfl rfl rfl HR.out.1 TF.out.2.2.2.1 (box_load (HB.out _ K12.out.1).2.1) ?_)
    | (go_at_call 37;refine (modify_keeps HX.out.1.wx HM.out.1 K11.out HM.out.2.2.2.1).mono ?_
       rintro _ w12 ⟨⟨u12,rfl⟩,hk12,hs12⟩
       have K12:Hid (KM MM w4.heap.size w11 w12∧w4.heap.size≤w12.heap.size):=⟨hk12,Nat.le_trans HM.out.2.2.2.1 hs12⟩
       clear hk12 hs12)
    | (refine wpList_loadc (cs:=E) (off:=0) rfl rfl rfl rfl HR.out.1 TE.out.2.2.2.1 (box_load (HB.out _ K11.out).1) ?_)
    | (refine wpList_storeat (cs:=G) (arr:=worZ) (off:=0) rfl rfl rfl rfl rfl TG.out.2.2.2.1 (heap_at _ _ _ rfl) (by rw [TG.out.2.1];decide) TG.out.2.2.1 ?_
       intro w11 hw11 hg11
       have B11:Below w10.heap.size w10 w11:=((Below.refl _ _).alloc (Nat.le_refl _) _).grown hg11 (by simp) (fun k e=>by have:=Option.some.inj e;omega)
       have q11:w11.heap[w10.heap.size]? = some (.cells G.toArray 31 (0,0)):=by
         rw [TG.out.2.1] at hw11
         simpa [worZ] using hw11
       have B911:Below w9.heap.size w9 w11:=TG.out.2.2.2.2.1.trans (B11.mono TG.out.2.2.2.2.1.size)
       have B811:Below w8.heap.size w8 w11:=X9.out.2.trans (B911.mono X9.out.2.size)
       have B611:Below w6.heap.size w6 w11:=S9.out.2.2.1.trans (B911.mono S9.out.2.2.1.size)
       have B511:Below w5.heap.size w5 w11:=X6.out.2.trans (B611.mono X6.out.2.size)
       have B411:Below w4.heap.size w4 w11:=S9.out.2.1.trans (B911.mono S9.out.2.1.size)
       have q9:w11.heap[w8.heap.size]? = some (.cells F.toArray 31 (0,0)):=(B911.block _ (heap_lt X9.out.1)).trans X9.out.1
       have q6:w11.heap[w5.heap.size]? = some (.cells E.toArray 31 (0,0)):=(B611.block _ (heap_lt X6.out.1)).trans X6.out.1
       have z45:=TE.out.2.2.2.2.size
       have z56:=heap_lt X6.out.1
       have z67:=S7.out.2.2.size
       have z78:=TF.out.2.2.2.2.1.size
       have z89:=heap_lt X9.out.1
       have z910:=TG.out.2.2.2.2.1.size
       have z1011:=heap_lt q11
       have rE:Rep (exM [w5.heap.size,w8.heap.size,w10.heap.size] (ownN w4.heap.size w11)) noNames (e_World_ x) (.agg E.toArray):=TE.out.1.mono (ownN_ex (Nat.le_refl _) B511 (by intro k hk;simp at hk;omega))
       have rF:Rep (exM [w5.heap.size,w8.heap.size,w10.heap.size] (ownN w4.heap.size w11)) noNames (e_World_ yd) (.agg F.toArray):=TF.out.1.mono (ownN_ex (by omega) B811 (by intro k hk;simp at hk;omega))
       have rG:Rep (exM [w5.heap.size,w8.heap.size,w10.heap.size] (ownN w4.heap.size w11)) noNames (e_World_ ye) (.agg G.toArray):=TG.out.1.mono (ownN_ex (by omega) B11 (by intro k hk;simp at hk;omega))
       obtain ⟨MM,hMM⟩:∃ MM,MM=exM [w5.heap.size,w8.heap.size,w10.heap.size] (ownN w4.heap.size w11):=⟨_,rfl⟩
       have K11:Hid (KM MM w4.heap.size w11 w11):=by rw [hMM];exact exM_KM
       have N5:∀ o,MM w5.heap.size o=none:=by rw [hMM];exact exM_none (by simp)
       have N8:∀ o,MM w8.heap.size o=none:=by rw [hMM];exact exM_none (by simp)
       have N10:∀ o,MM w10.heap.size o=none:=by rw [hMM];exact exM_none (by simp)
       have HB:Hid (∀ w',KM MM w4.heap.size w11 w'→w'.heap[w5.heap.size]? = some (.cells E.toArray 31 (0,0))∧w'.heap[w8.heap.size]? = some (.cells F.toArray 31 (0,0))∧w'.heap[w10.heap.size]? = some (.cells G.toArray 31 (0,0))):=fun w' hk=>
         ⟨(hk.oth _ (heap_lt q6) N5).trans q6,(hk.oth _ (heap_lt q9) N8).trans q9,(hk.oth _ (heap_lt q11) N10).trans q11⟩
       rw [← hMM] at rE rF rG
       have HM:Hid (_∧_∧_∧w4.heap.size≤w11.heap.size∧Below w4.heap.size w4 w11):=⟨rE,rF,rG,by omega,B411⟩
       clear hw11 hg11 B11 B911 B811 B611 B511 B411 q11 q9 q6 z45 z56 z67 z78 z89 z910 z1011 rE rF rG hMM N5 N8 N10)
    | (go_at_call 21;refine (wake_new HX.out.1.wx HX.out.1.cw HX.out.1.wk HX.out.1.wg (imm_all w9) (HL.out.2.2.1 _ S9.out.1)).mono ?_
       rintro _ w10 ⟨v',rfl,hb10,hN⟩
       obtain ⟨ye,G,hG1,rfl,hG2,hG3,hG4⟩:=hN.inv
       have rzG:tSz Tryz.prog 31=some G.length:=by rw [hG2];exact HR.out.2.1
       have TG:Hid (_∧_∧_∧_∧_∧_):=⟨hG4,hG2,hG3,rzG,hb10,hG1⟩
       clear hb10 hN hG1 hG2 hG3 hG4 rzG)
    | (refine wpList_loadc (cs:=A) rfl rfl rfl rfl HR.out.1 HR.out.2.2.1 (HL.out.1 _ S9.out.1) ?_)
    | (refine wpList_storeat (cs:=F) (arr:=worZ) (off:=0) rfl rfl rfl rfl rfl TF.out.2.2.2.1 (heap_at _ _ _ rfl) (by rw [TF.out.2.1];decide) TF.out.2.2.1 ?_
       intro w9 hw9 hg9
       have B9:Below w8.heap.size w8 w9:=((Below.refl _ _).alloc (Nat.le_refl _) _).grown hg9 (by simp) (fun k e=>by have:=Option.some.inj e;omega)
       have X9:Hid (w9.heap[w8.heap.size]? = some (.cells F.toArray 31 (0,0))∧Below w8.heap.size w8 w9):=⟨by
         rw [TF.out.2.1] at hw9
         simpa [worZ] using hw9,B9⟩
       have B79:Below w7.heap.size w7 w9:=TF.out.2.2.2.2.1.trans (B9.mono TF.out.2.2.2.2.1.size)
       have S9:Hid (Below w2.heap.size w2 w9∧Below w4.heap.size w4 w9∧Below w6.heap.size w6 w9∧Below w7.heap.size w7 w9):=⟨S7.out.1.trans (B79.mono S7.out.1.size),S7.out.2.1.trans (B79.mono S7.out.2.1.size),S7.out.2.2.trans (B79.mono S7.out.2.2.size),B79⟩
       clear hw9 hg9 B9 B79)
    | (go_at_call 19;refine (remove_new HX.out.1.wx HX.out.1.cw HX.out.1.rm HX.out.1.wr (imm_all w7) (HL.out.2.2.1 _ S7.out.1)).mono ?_
       rintro _ w8 ⟨v',cc,rfl,hb8,hN⟩
       obtain ⟨yd,F,hF1,rfl,hF2,hF3,hF4⟩:=hN.inv
       have rzF:tSz Tryz.prog 31=some F.length:=by rw [hF2];exact HR.out.2.1
       have TF:Hid (_∧_∧_∧_∧_∧_):=⟨hF4,hF2,hF3,rzF,hb8,hF1⟩
       clear hb8 hN hF1 hF2 hF3 hF4 rzF)
    | (refine wpList_loadc (cs:=A) rfl rfl rfl rfl HR.out.1 HR.out.2.2.1 (HL.out.1 _ S7.out.1) ?_))
  go_ret
  exact ⟨rfl,HX.out.2.2.trans (S16.out.mono HX.out.2.2.size)⟩
end GoForm
end
