/- Several texts in one. No conditions. -/
import Derived.Test.YtelkhkmeoahhlaaGreatDoorGY
section
set_option linter.all false
set_option maxRecDepth 100000
open Go Go.Rx Go.Proofs Go.RowKit
namespace GoForm
def oneA:AV->Bool
 | .v u=>oneCell u
 | .sl _ _ _=>true
 | _=>false
theorem one_of {m:Mem} {bl:Names}:∀ {l:List AV} {vs:List Value},Reps m bl l vs->l.all oneA=true->∀ c∈vs,oneCell c=true:=by
 intro l
 induction l with
 | nil=>
   intro vs h _ c hc
   cases h;cases hc
 | cons a l ih=>
   intro vs h ha c hc
   rw [List.all_cons,Bool.and_eq_true] at ha
   cases h with
   | cons h1 h2=>
     rcases List.mem_cons.1 hc with rfl | hc
     ·cases h1 <;> simp_all [oneA,oneCell,Value.oneCell']
     ·exact ih h2 ha.2 c hc
theorem elC_one {E:Ix} (h:∀ x:tb.T E,(tb.el E x).cells.all oneA=true):∀ l:List (tb.T E),(elC tb E l).all oneA=true
 | []=>rfl
 | x::l=>by rw [elC_cons,List.all_append,h x,elC_one h l];rfl
section
variable {W0:World} {x:World_} {sec:Int} {M M':Mem} {bp:Nat} {h0 h1 h2 h3 hF hP:Value} {nF nP:Nat} {xb xj xc xo xf xp:List Value} {w w1 w2:World}
theorem PS.start {w':World} (hb:Below W0.heap.size W0 w') (hp:W0.heap.size<=bp) (hx:w'.heap[bp]? = some (.cells (worC noW (.slice none 0 0) (.slice none 0 0) (.slice none 0 0) (.slice none 0 0)++[Value.int .i64 0]).toArray 147 (0,0))):
 PS W0 noW 0 (fun _ _=>none) bp (.slice none 0 0) (.slice none 0 0) (.slice none 0 0) (.slice none 0 0) (.slice none 0 0) (.slice none 0 0) 0 0 [] [] [] [] [] [] w':=by
 refine ⟨⟨hb,fun _ _ _ e=>by (cases e),fun _ _ _ e=>by (cases e),hx,⟨hp,fun _=>rfl⟩,?_,?_,?_⟩,.inl ⟨rfl,rfl,rfl,rfl,rfl⟩,.nil,.inl ⟨rfl,rfl,rfl,rfl,rfl⟩,.nil,by simp,by simp⟩
 ·intro r hr
  simp only [psRows,noW,List.length_nil,List.mem_cons,List.not_mem_nil,or_false] at hr
  rcases hr with rfl | rfl | rfl | rfl | rfl | rfl <;> exact World.ownsRow_nil _ _ _ _
 ·intro r hr g hg
  simp only [psRows,List.mem_cons,List.not_mem_nil,or_false] at hr
  rcases hr with rfl | rfl | rfl | rfl | rfl | rfl <;> cases hg
 ·simp [psRows,Apart,Value.ownBlock]
theorem worA_mk {m bl} {x:World_} {h0 h1 h2 h3:Value} (r0:Rep m bl (e_sl_Body x.Bodies) h0) (r1:Rep m bl (e_sl_Joint x.Joints) h1) (r2:Rep m bl (e_sl_Contact x.Contacts) h2) (r3:Rep m bl (e_sl_PairKey x.Overlaps) h3):
 Reps m bl (tb.el Ix.tWorld_ x).cells (worC x h0 h1 h2 h3):=
 .cons .v (.cons .v (.cons .v (.cons .v (.cons .v (.cons r0 (.cons r1 (.cons r2 (.cons r3 (.cons .v (.cons .v .nil))))))))))
theorem OR.frz {W0 M bp T K rs w} (h:OR W0 M bp T K rs w) {r:Row} (hr:r∈rs) {E:Ix} {l:List (tb.T E)} (hz:∀ x,(tb.el E x).cells.length=r.size) (ho:∀ x:tb.T E,(tb.el E x).cells.all oneA=true) (hl:l.length=r.n) {M':Mem} (hx:Reps M' noNames (elC tb E l) r.xs) (m2:Mem.le (rowM r.v w) M'):Rep M' noNames (.sl false r.size (l.map (tb.el E))) r.v:=
 GoForm.frz (h.rows r hr) hz hl hx (one_of hx (elC_one ho l)) (fun _ _ _ e=>e) m2
def rowsM (rs:List Row) (M:Mem) (w:World):Mem:=rs.foldl (fun m r=>joinM m (rowM r.v w)) M
theorem rowsM_imm {M:Mem} {w:World} (hi:Imm M w):∀ rs:List Row,∀ M0:Mem,Imm M0 w->Imm (rowsM rs M0 w) w
 | [],_,h=>h
 | r::rs,M0,h=>rowsM_imm hi rs _ (fun b o u e=>(joinM_of e).elim (h b o u) (rowM_imm b o u))
theorem rowsM_le {w:World}:∀ (rs:List Row) (M0:Mem),Imm M0 w->Mem.le M0 (rowsM rs M0 w)
 | [],_,_=>fun _ _ _ e=>e
 | r::rs,M0,h=>fun b o u e=>rowsM_le rs (joinM M0 (rowM r.v w)) (fun b o u e=>(joinM_of e).elim (h b o u) (rowM_imm b o u)) b o u (joinM_l h rowM_imm b o u e)
theorem rowsM_row {w:World}:∀ (rs:List Row) (M0:Mem),Imm M0 w->∀ r∈rs,Mem.le (rowM r.v w) (rowsM rs M0 w)
 | [],_,_,r,h=>by cases h
 | q::rs,M0,h,r,hr=>by
   have hi:Imm (joinM M0 (rowM q.v w)) w:=fun b o u e=>(joinM_of e).elim (h b o u) (rowM_imm b o u)
   rcases List.mem_cons.1 hr with rfl | hr
   ·exact fun b o u e=>rowsM_le rs _ hi b o u (joinM_r _ _ b o u e)
   ·exact rowsM_row rs _ hi r hr
theorem rowsM_of {w:World} {b o:Nat} {u:Value}:∀ (rs:List Row) (M0:Mem),rowsM rs M0 w b o=some u->M0 b o=some u\/∃ r∈rs,r.v.ownBlock=some b
 | [],_,e=>.inl e
 | q :: rs,M0,e=>by
   rcases rowsM_of rs _ e with e | ⟨r,hr,e⟩
   ·rcases joinM_of e with e | e
    ·exact .inl e
    ·exact .inr ⟨q,List.mem_cons_self,(rowM_of e).1⟩
   ·exact .inr ⟨r,List.mem_cons_of_mem _ hr,e⟩
theorem PS.out (h:PS W0 x sec M bp h0 h1 h2 h3 hF hP nF nP xb xj xc xo xf xp w):∃ M',Imm M' w/\(∀ b o u,M' b o=some u->W0.heap.size<=b)/\Reps M' noNames (tb.el Ix.tWorld_ x).cells (worC x h0 h1 h2 h3):=by
 have hI:=h.o.iM
 have hle:=rowsM_le (psRows x h0 h1 h2 h3 hF hP nF nP xb xj xc xo xf xp) M hI
 have hrow:=rowsM_row (psRows x h0 h1 h2 h3 hF hP nF nP xb xj xc xo xf xp) M hI
 refine ⟨rowsM (psRows x h0 h1 h2 h3 hF hP nF nP xb xj xc xo xf xp) M w,rowsM_imm hI _ M hI,?_,?_⟩
 ·intro b o u e
  rcases rowsM_of _ _ e with e | ⟨r,hr,e⟩
  ·exact h.o.new b o u e
  ·exact ((h.o.rows r hr).lt b e).1
 generalize hN:rowsM (psRows x h0 h1 h2 h3 hF hP nF nP xb xj xc xo xf xp) M w=N at hle hrow
 have rB:(⟨56,20,x.Bodies.length,h0,xb⟩:Row)∈psRows x h0 h1 h2 h3 hF hP nF nP xb xj xc xo xf xp:=by simp [psRows]
 have rJ:(⟨75,24,x.Joints.length,h1,xj⟩:Row)∈psRows x h0 h1 h2 h3 hF hP nF nP xb xj xc xo xf xp:=by simp [psRows]
 have rC:(⟨88,7,x.Contacts.length,h2,xc⟩:Row)∈psRows x h0 h1 h2 h3 hF hP nF nP xb xj xc xo xf xp:=by simp [psRows]
 have rO:(⟨86,4,x.Overlaps.length,h3,xo⟩:Row)∈psRows x h0 h1 h2 h3 hF hP nF nP xb xj xc xo xf xp:=by simp [psRows]
 have rF:(⟨67,10,nF,hF,xf⟩:Row)∈psRows x h0 h1 h2 h3 hF hP nF nP xb xj xc xo xf xp:=by simp [psRows]
 have rP:(⟨131,6,nP,hP,xp⟩:Row)∈psRows x h0 h1 h2 h3 hF hP nF nP xb xj xc xo xf xp:=by simp [psRows]
 refine worA_mk ?_ ?_ ?_ ?_
 ·refine h.o.frz rB (E:=Ix.tBody) (l:=x.Bodies) (fun _=>rfl) (fun _=>rfl) rfl ?_ (hrow _ rB)
  rcases h.cB with ⟨e1,e2,e3,e4,e5⟩ | ⟨init,last,xi,e1,e2,e3,e4,e5⟩
  ·show Reps N noNames (elC tb Ix.tBody x.Bodies) xb
   rw [e1,e4];exact .nil
  ·show Reps N noNames (elC tb Ix.tBody x.Bodies) xb
   rw [e1,e2]
   have q1:Reps N noNames (tb.el Ix.tBody last).cells (bodC last hF):=bodA_mk (h.o.frz rF (E:=Ix.tFixture) (l:=last.Fixtures) (fun _=>rfl) (fun _=>rfl) e4.symm (e5.mono hle) (hrow _ rF))
   have q:=(e3.mono hle).append q1
   rw [<- elC_snoc Ix.tBody init last] at q
   exact q
 ·exact h.o.frz rJ (E:=Ix.tJoint) (l:=x.Joints) (fun _=>rfl) (fun _=>rfl) rfl (h.cJ.mono hle) (hrow _ rJ)
 ·refine h.o.frz rC (E:=Ix.tContact) (l:=x.Contacts) (fun _=>rfl) (fun _=>rfl) rfl ?_ (hrow _ rC)
  rcases h.cC with ⟨e1,e2,e3,e4,e5⟩ | ⟨init,last,xi,e1,e2,e3,e4,e5⟩
  ·show Reps N noNames (elC tb Ix.tContact x.Contacts) xc
   rw [e1,e4];exact .nil
  ·show Reps N noNames (elC tb Ix.tContact x.Contacts) xc
   rw [e1,e2]
   have q1:Reps N noNames (tb.el Ix.tContact last).cells (conC last hP):=conA_mk (h.o.frz rP (E:=Ix.tContactPoint) (l:=last.Manifold.Points) (fun _=>rfl) (fun _=>rfl) e4.symm (e5.mono hle) (hrow _ rP))
   have q:=(e3.mono hle).append q1
   rw [<- elC_snoc Ix.tContact init last] at q
   exact q
 ·exact h.o.frz rO (E:=Ix.tPairKey) (l:=x.Overlaps) (fun _=>rfl) (fun _=>rfl) rfl (h.cO.mono hle) (hrow _ rO)
end
theorem fields_any {f:List UInt8} {l:List (List UInt8)} {c:Int} (h:format_Fields f=some (l,c)) {M:Mem} {w:World} (hi:Imm M w):
 Calls Tryz.prog 77 #[.string ⟨f.toArray⟩] w fun e w'=>∃ ad cap M',e=.returned (.tuple #[.slice ad l.length cap,.int .i64 c])/\NewM M w M' w'/\Rep M' noNames (e_sl_str l) (.slice ad l.length cap):=by
 have hc:FnR Tryz.prog 77 [e_str f] (.tup [e_sl_str l,.v (.int .i64 c)]) []:=c_77.ok (f,()) [e_str f] ((l,c):List (List UInt8) × Int) ⟨rfl,trivial⟩ h
 refine (call_new hc (fun _=>trivial) hi (vs:=[.string ⟨f.toArray⟩]) (.cons .v .nil)).mono ?_
 rintro e w' ⟨u,M',rfl,h1,h2,h3,h4,h5⟩
 obtain ⟨vs,rfl,hvs⟩:=rep_tup h5
 obtain ⟨u,vs,rfl,h6,hvs⟩:=hvs.inv
 have:vs=[.int .i64 c]:=repsV_eq (l:=[.int .i64 c]) hvs
 subst this
 obtain ⟨ad,cap,rfl,-⟩:=repStrs h6
 exact ⟨ad,cap,M',rfl,⟨h1,h2,h3,h4⟩,h6⟩
def errL (n:Int):Value:=if n=0 then .nilIface else .iface 104 (.agg #[.int .i64 n,.iface 102 (.agg #[])])
def PLQ (w:World) (y:World_) (n:Int) (e:Ending) (w':World):Prop:=
 ∃ A M',e=.returned (.tuple #[.agg (List.toArray A),errL n])/\Below w.heap.size w w'/\Imm M' w'/\(∀ b o u,M' b o=some u->w.heap.size<=b)/\Reps M' noNames (tb.el Ix.tWorld_ y).cells A/\A.length=11/\∀ c∈A,oneCell c=true
def worZ:List Value:=worC noW (.slice none 0 0) (.slice none 0 0) (.slice none 0 0) (.slice none 0 0)
theorem results_box2 {P:Program} {fn:Func} {t s:Tmp} {ty:TypeId} {b:Nat} {cs:List Value} {T:TypeId} {w:World} {tmps:Array Value} {v:Value} (h:fn.results=#[.cell t ty,.tmp s]) (ht:tmps.getD t undef=.pointer (some ⟨b,0,none⟩)) (hv:tmps[s]? = some v) (ha:tAg P ty=some true) (hs:tSz P ty=some cs.length) (hb:w.heap[b]? = some (.cells cs.toArray T (0,0))):
 (results fn tmps).run P w=.ok (.tuple #[.agg cs.toArray,v]) w:=by
 have:=run_loadVar_agg (P:=P) (ty:=ty) (w:=w) (b:=b) (o:=0) (cs:=cs) ha hs (fun j v e=>by rw [Nat.zero_add];exact box_cell hb j (by simpa using e))
 have ht:tmps[t]?.getD undef=.pointer (some ⟨b,0,none⟩):=by simpa using ht
 simp [results,h,ht,hv,this,asAddr]
theorem results_box3 {P:Program} {fn:Func} {t s r:Tmp} {ty:TypeId} {b:Nat} {cs:List Value} {T:TypeId} {w:World} {tmps:Array Value} {v u:Value} (h:fn.results=#[.cell t ty,.tmp s,.tmp r]) (ht:tmps.getD t undef=.pointer (some ⟨b,0,none⟩)) (hv:tmps[s]? = some v) (hu:tmps[r]? = some u) (ha:tAg P ty=some true) (hs:tSz P ty=some cs.length) (hb:w.heap[b]? = some (.cells cs.toArray T (0,0))):
 (results fn tmps).run P w=.ok (.tuple #[.agg cs.toArray,v,u]) w:=by
 have:=run_loadVar_agg (P:=P) (ty:=ty) (w:=w) (b:=b) (o:=0) (cs:=cs) ha hs (fun j v e=>by rw [Nat.zero_add];exact box_cell hb j (by simpa using e))
 have ht:tmps[t]?.getD undef=.pointer (some ⟨b,0,none⟩):=by simpa using ht
 simp [results,h,ht,hv,hu,this,asAddr]
theorem worZ_out:Reps (fun _ _=>none) noNames (tb.el Ix.tWorld_ noW).cells worZ:=worA_mk .slnil .slnil .slnil .slnil
theorem worZ_one:∀ c∈worZ,oneCell c=true:=worC_one rfl rfl rfl rfl
set_option maxHeartbeats 4000000 in
theorem plines_calls {lines:List (List UInt8)} (hl:lines.length<1048576) {y:World_} {n:Int} (hx:linesP lines 0 noW 0=some (y,n)) {M:Mem} {v:Value} {w:World} (hi:Imm M w) (hr:Rep M noNames (e_sl_str lines) v):
 Calls Tryz.prog 38 #[v] w (PLQ w y n):=by
 obtain ⟨ad,cap,rfl,hm⟩:=repStrs hr
 obtain ⟨N,hN⟩:∃ N,lines.length=N:=⟨_,rfl⟩
 have e77:=Tryz.call77
 have e78:=Tryz.call78
 rw [hN] at hm hl ⊢
 have HM:Hid (_):=hm
 have HI0:Hid (Imm M w):=hi
 have ra:tAg Tryz.prog 31=some true:=by kernel_rfl
 have rz:tSz Tryz.prog 31=some 11:=by kernel_rfl
 have HR:Hid (_/\_):=⟨ra,rz⟩
 have r0:Tryz.f38.results=#[.cell 2 31,.tmp 3]:=rfl
 clear hr hm ra rz
 obtain ⟨K0,hK0⟩:∃ K0,K0=PX (w.alloc (.cells worZ.toArray 31)):=⟨_,rfl⟩
 go_enter Tryz.func38,Tryz.ntmps38
 go_wp2
 go_loopg [14] N (fun kx s14 wr=>∃ (i:Nat) (x:World_) (sec:Int),s14=.int .i64 i/\i<=N/\N - i<=kx/\linesP (lines.drop i) i x sec=some (y,n)/\Aside (K0 x sec (w.heap.size+1) wr))
 case atStart=>
  subst hK0
  refine ⟨0,noW,0,rfl,Nat.zero_le _,Nat.le_refl _,hx,PS.px (PS.start ((Below.refl _ _).alloc (Nat.le_refl _) _) (by simp) ?_)⟩
  exact heap_at _ _ _ (by simp)
 case round =>
  obtain ⟨i,x,sec,rfl,hin,hkx,hrec,S⟩:=hrel
  subst hK0
  obtain ⟨M0,h0,h1,h2,h3,hF,hP,nF,nP,xb,xj,xc,xo,xf,xp,S⟩:=S
  have S0:Hid (_):=S
  clear S hx hi
  by_cases hlt:(i:Int)<N
  ·obtain ⟨blk,off,rfl,hcm⟩:=HM.out (by omega)
   obtain ⟨line,hli⟩:∃ s,lines[i]? = some s:=⟨_,List.getElem?_eq_getElem (by omega)⟩
   have hdrop:lines.drop i=line::lines.drop (i+1):=by
    have h:=(List.getElem?_eq_some_iff.1 hli)
    rw [List.drop_eq_getElem_cons h.1,h.2]
   have B0:Below w.heap.size w wr:=((Below.refl w.heap.size w).alloc (Nat.le_refl _) _).trans (S0.out.o.bel.mono (by simp))
   have c0:wr.cell? ⟨blk,off+i,none⟩=some (.string ⟨line.toArray⟩):=HI0.out.below B0 _ _ _ (hcm _ _ hli)
   have wi:IntKind.i64.wrap ((i:Int)+1)=((i+1:Nat):Int):=by rw [IntKind.wrap_i64];omega
   have pi:(0:Int)<=(i:Int):=by omega
   rw [hdrop] at hrec
   unfold linesP at hrec
   obtain ⟨⟨f,code⟩,hf,hrec1⟩:=bind_e hrec
   obtain ⟨⟨x2,s2,ok⟩,hst,hrec2⟩:=bind_e hrec1
   dsimp only at hst hrec2
   have k77:=fields_any hf S0.out.o.iM
   have HB:Hid (Below w.heap.size w wr):=B0
   clear hdrop hli hcm hf B0 hrec hrec1
   cases ok with
   | true=>
     by_cases hc0:code=0
     ·subst hc0
      rw [if_pos rfl] at hst hrec2
      have HT:Hid (_):=hst
      have HX:Hid (_):=hrec2
      clear hst hrec2
      go_wp2_with (first
       | (go_at_call 78;refine (add_calls HT.out S2.out.1 S2.out.2).mono ?_;rintro e w3 ⟨hq1,hq2⟩
          simp at hq1
          subst hq1
          have S3:Hid (_):=hq2
          clear hq2)
       | (go_at_call 77;refine k77.mono ?_;rintro e w2 ⟨fa,fc,M1,rfl,hn2,hr2⟩
          have S2:Hid (_/\_):=⟨S0.out.call hn2,hr2.mono (joinM_r M0 _)⟩
          clear hn2 hr2 k77 c0))
      go_roundg (N - (i+1))
      case measure=>omega
      case rel=>exact ⟨i+1,x2,s2,by simp,by omega,by omega,HX.out,S3.out.2 (by first | trivial | rfl)⟩
     ·rw [if_neg hc0] at hst
      cases hst
   | false=>
     have e0:(noW,(i:Int)+1)=(y,n):=Option.some.inj hrec2
     clear hrec2
     cases e0
     have hE:errL ((i:Int)+1)=.iface 104 (.agg #[.int .i64 ((i:Int)+1),.iface 102 (.agg #[])]):=by unfold errL;rw [if_neg (by omega)]
     have HE:Hid (_):=hE
     clear hE
     by_cases hc0:code=0
     ·subst hc0
      rw [if_pos rfl] at hst
      have HT:Hid (_):=hst
      clear hst
      go_wp2_with (first
      | (refine wpList_storeat (cs:=worZ) (arr:=worZ) rfl rfl rfl rfl rfl HR.out.2 ((S3.out.1.block w.heap.size (by simp)).trans (heap_at w _ _ rfl)) (by exact Nat.le_refl 11) worZ_one ?_
         intro w4 hz hg
         have S4:Hid (_/\_):=⟨hz,hg⟩
         clear hz hg)
      | (go_at_call 78;refine (add_calls HT.out S2.out.1 S2.out.2).mono ?_;rintro e w3 ⟨hq1,hq2⟩
         simp at hq1
         subst hq1
         have S3:Hid (_):=hq2
         clear hq2)
      | (go_at_call 77;refine k77.mono ?_;rintro e w2 ⟨fa,fc,M1,rfl,hn2,hr2⟩
         have S2:Hid (_/\_):=⟨S0.out.call hn2,hr2.mono (joinM_r M0 _)⟩
         clear hn2 hr2 k77 c0))
      have hE:=HE.out
      refine bodyPost_ret (results_box2 (cs:=worZ) r0 rfl rfl HR.out.1 HR.out.2 S4.out.1) rfl ?_
      refine ⟨worZ,fun _ _=>none,by rw [hE];rfl,((Below.refl w.heap.size w).alloc (Nat.le_refl _) _).trans (S3.out.1.mono (by simp)) |>.grown S4.out.2 ?_ (fun k e=>by have:=Option.some.inj e;omega),fun _ _ _ e=>by (cases e),fun _ _ _ e=>by (cases e),worZ_out,rfl,worZ_one⟩
      have q:=S3.out.1.size
      simp at q
      omega
     ·rw [if_neg hc0] at hst
      have HT:Hid (_):=hst
      clear hst
      have hc1:(code==0)=false:=by rw [beq_eq_false_iff_ne];exact hc0
      have hc2:(code != 0)=true:=by rw [bne_iff_ne];exact hc0
      clear hc0
      go_wp2_with (first
      | (refine wpList_storeat (cs:=worZ) (arr:=worZ) rfl rfl rfl rfl rfl HR.out.2 ((S3.out.1.block w.heap.size (by simp)).trans (heap_at w _ _ rfl)) (by exact Nat.le_refl 11) worZ_one ?_
         intro w4 hz hg
         have S4:Hid (_/\_):=⟨hz,hg⟩
         clear hz hg)
      | (go_at_call 78;refine (add_calls HT.out S2.out.1 S2.out.2).mono ?_;rintro e w3 ⟨hq1,hq2⟩
         simp at hq1
         subst hq1
         have S3:Hid (_):=hq2
         clear hq2)
      | (go_at_call 77;refine k77.mono ?_;rintro e w2 ⟨fa,fc,M1,rfl,hn2,hr2⟩
         have S2:Hid (_/\_):=⟨S0.out.call hn2,(.slnil:Rep (joinM M0 M1) noNames (e_sl_str []) (.slice none 0 0))⟩
         clear hn2 hr2 k77 c0))
      have hE:=HE.out
      refine bodyPost_ret (results_box2 (cs:=worZ) r0 rfl rfl HR.out.1 HR.out.2 S4.out.1) rfl ?_
      refine ⟨worZ,fun _ _=>none,by rw [hE];rfl,((Below.refl w.heap.size w).alloc (Nat.le_refl _) _).trans (S3.out.1.mono (by simp)) |>.grown S4.out.2 ?_ (fun k e=>by have:=Option.some.inj e;omega),fun _ _ _ e=>by (cases e),fun _ _ _ e=>by (cases e),worZ_out,rfl,worZ_one⟩
      have q:=S3.out.1.size
      simp at q
      omega
  ·have hin':i=N:=by omega
   subst hin'
   have hdr:lines.drop i=[]:=List.drop_eq_nil_of_le (by omega)
   rw [hdr] at hrec
   have c11:wr.cell? ⟨w.heap.size+1,11,none⟩=some (.int .i64 sec):=box_cell S0.out.o.box 11 rfl
   have wi:IntKind.i64.wrap ((i:Int)+1)=((i+1:Nat):Int):=by rw [IntKind.wrap_i64];omega
   have e0:(if sec=0 then (noW,(i:Int)+1) else (x,0))=(y,n):=Option.some.inj hrec
   clear hrec hdr
   by_cases hs:sec=0
   ·subst hs
    rw [if_pos rfl] at e0
    cases e0
    have hE:errL ((i:Int)+1)=.iface 104 (.agg #[.int .i64 ((i:Int)+1),.iface 102 (.agg #[])]):=by unfold errL;rw [if_neg (by omega)]
    have HE:Hid (_):=hE
    clear hE
    go_wp2_with (first
     | (refine wpList_storeat (cs:=worZ) (arr:=worZ) rfl rfl rfl rfl rfl HR.out.2 ((S0.out.o.bel.block w.heap.size (by simp)).trans (heap_at w _ _ rfl)) (by exact Nat.le_refl 11) worZ_one ?_
        intro w4 hz hg
        have S4:Hid (_/\_):=⟨hz,hg⟩
        clear hz hg))
    have hE:=HE.out
    refine bodyPost_ret (results_box2 (cs:=worZ) r0 rfl rfl HR.out.1 HR.out.2 S4.out.1) rfl ?_
    refine ⟨worZ,fun _ _=>none,by rw [hE];rfl,((Below.refl w.heap.size w).alloc (Nat.le_refl _) _).trans (S0.out.o.bel.mono (by simp)) |>.grown S4.out.2 ?_ (fun k e=>by have:=Option.some.inj e;omega),fun _ _ _ e=>by (cases e),fun _ _ _ e=>by (cases e),worZ_out,rfl,worZ_one⟩
    have q:=S0.out.o.bel.size
    simp at q
    omega
   ·rw [if_neg hs] at e0
    obtain ⟨e1,e2⟩:=Prod.mk.inj e0
    subst e1
    subst e2
    clear e0
    have hs1:(sec==0)=false:=by rw [beq_eq_false_iff_ne];exact hs
    clear hs
    have Z1:∀ r∈psRows x h0 h1 h2 h3 hF hP nF nP xb xj xc xo xf xp,r.v.oneCell'=true:=fun r hr=>(own_val (S0.out.o.rows r hr)).2
    have HW:Hid (_):=worC_one (x:=x) (Z1 ⟨56,20,x.Bodies.length,h0,xb⟩ (by simp [psRows])) (Z1 ⟨75,24,x.Joints.length,h1,xj⟩ (by simp [psRows])) (Z1 ⟨88,7,x.Contacts.length,h2,xc⟩ (by simp [psRows])) (Z1 ⟨86,4,x.Overlaps.length,h3,xo⟩ (by simp [psRows]))
    clear Z1
    go_wp2_with (first
     | (refine wpList_storeat (cs:=worC x h0 h1 h2 h3) (arr:=worZ) rfl rfl rfl rfl rfl HR.out.2 ((S0.out.o.bel.block w.heap.size (by simp)).trans (heap_at w _ _ rfl)) (by exact Nat.le_refl 11) HW.out ?_
        intro w4 hz hg
        have S4:Hid (_/\_):=⟨hz,hg⟩
        clear hz hg)
     | (refine wpList_loadat (cs:=worC x h0 h1 h2 h3) rfl rfl rfl rfl HR.out.1 HR.out.2 S0.out.o.box (fun j v e=>by rw [Nat.zero_add];simpa [worC] using List.getElem?_append_left (l₂:=[Value.int .i64 sec]) (List.getElem?_eq_some_iff.1 e).1 |>.trans e) ?_))
    refine bodyPost_ret (results_box2 (cs:=worC x h0 h1 h2 h3) r0 rfl rfl HR.out.1 HR.out.2 S4.out.1) rfl ?_
    obtain ⟨M',m1,m2,m3⟩:=S0.out.out
    have hg:=S4.out.2
    refine ⟨worC x h0 h1 h2 h3,M',rfl,((Below.refl w.heap.size w).alloc (Nat.le_refl _) _).trans (S0.out.o.bel.mono (by simp)) |>.grown hg ?_ (fun k e=>by have:=Option.some.inj e;omega),imm_grown m1 hg (fun o=>?_),fun b o u e=>by have:=m2 b o u e;simp at this;omega,m3,rfl,HW.out⟩
    ·have q:=S0.out.o.bel.size
     simp at q
     omega
    ·cases e:M' w.heap.size o with
     | none=>rfl
     | some u=>have:=m2 _ _ _ e;simp at this;omega
structure TS (ops:Array Oper) (n s:Nat) (ds:Nat->Nat) (val:Nat->Value) (C:Bool->World->Prop) (a0:Act) (f:Nat->Bool) (a:Act) (w:World):Prop where
 sz:a.tmps.size=a0.tmps.size
 df:a.defers=a0.defers
 vals:∀ i,i<n->i≠s->f i=true->a.tmps[ds i]? = some (val i)
 rest:∀ j,(∀ i,i<n->i≠s->ds i≠j)->a.tmps[j]? = a0.tmps[j]?
 inv:C (f s) w
 cl:∀ i o,ops[i]? = some o->f i=true->∀ e∈o.after,Region.binds .any e=true->f e.on=true
theorem wp_region_st {P:Program} {id:Nat} {Q:Exit->Act->World->Prop} {ops:Array Oper} {a0:Act} {w:World} (hm:P.follows .mixedOrders=true)
 (n s:Nat) (ds:Nat->Nat) (val:Nat->Value) (C:Bool->World->Prop) (hn:ops.size=n+1) (hsn:s<n)
 (hback:∀ (i:Nat) (o:Oper),ops[i]? = some o->∀ e∈o.after,Region.binds .any e=true->e.on<i)
 (h0:C false w.drew)
 (hp:∀ i o,i<n->i≠s->ops[i]? = some o->o.guard=none/\o.dst=some (ds i)/\ds i<a0.tmps.size/\∀ b w' (a:Act),C b w'->(∀ e∈o.after,Region.binds .any e=true->e.on≠s->a.tmps[ds e.on]? = some (val e.on))->
   (∀ j,(∀ i,i<n->i≠s->ds i≠j)->a.tmps[j]? = a0.tmps[j]?)->o.quietAt P a (fun w''=>w''=w') w' (val i))
 (hst:∃ o,ops[s]? = some o/\o.guard=none/\∀ w' (a:Act),C false w'->(∀ e∈o.after,Region.binds .any e=true->e.on≠s->a.tmps[ds e.on]? = some (val e.on))->
   (∀ j,(∀ i,i<n->i≠s->ds i≠j)->a.tmps[j]? = a0.tmps[j]?)->o.wp P a w' (fun a' w''=>a'=a/\C true w'') Q)
 (hinj:∀ i i',i<n->i≠s->i'<n->i'≠s->ds i=ds i'->i=i')
 (hl:∃ o,ops[n]? = some o/\o.guard=none/\(∀ f:Nat->Bool,(∀ e∈o.after,Region.binds .any e=true->f e.on=true)->(∀ i o,ops[i]? = some o->f i=true->∀ e∈o.after,Region.binds .any e=true->f e.on=true)->∀ i,i<n->f i=true)/\∀ (a:Act) w',a.tmps.size=a0.tmps.size->a.defers=a0.defers->(∀ i,i<n->i≠s->a.tmps[ds i]? = some (val i))->
   (∀ j,(∀ i,i<n->i≠s->ds i≠j)->a.tmps[j]? = a0.tmps[j]?)->C true w'->o.wp P a w' (fun a' w''=>Q .normal a' w'') Q):(Code.region id ops true).wp P Q a0 w:=by
 refine wp_region_inv hm (fun f a w'=>(f n=true/\(∀ i,i<n->f i=true)/\Q .normal a w')\/(f n=false/\TS ops n s ds val C a0 f a w')) hback (.inr ⟨rfl,rfl,rfl,by simp,fun _ _=>rfl,h0,by simp⟩) ?_ ?_
 ·rintro f a w1 i o hI ho hf hdp
  have hin:i<n+1:=by rw [<- hn];exact (Array.getElem?_eq_some_iff.1 ho).1
  rcases hI with ⟨h1,h2,-⟩ | ⟨hfn,S⟩
  ·exfalso
   by_cases e:i=n
   ·rw [e,h1] at hf;cases hf
   ·rw [h2 i (by omega)] at hf;cases hf
  have clx:∀ j oj,ops[j]? = some oj->(if j=i then true else f j)=true->∀ e∈oj.after,Region.binds .any e=true->(if e.on=i then true else f e.on)=true:=fun j oj hj hfj e he hb=>by
   by_cases ej:e.on=i
   ·exact if_pos ej
   ·rw [if_neg ej]
    by_cases ei:j=i
    ·rw [ei,ho] at hj;cases hj;exact hdp e he hb
    ·rw [if_neg ei] at hfj
     exact S.cl j oj hj hfj e he hb
  by_cases en:i=n
  ·obtain ⟨o',q1,q2,q3,q4⟩:=hl
   rw [en] at ho
   rw [q1] at ho;cases ho
   have hall:=q3 f hdp S.cl
   refine wpOp_of (i:=i) (by rw [en];exact q1) q2 ?_
   have:=q4 a w1 S.sz S.df (fun j hj hjs=>S.vals j hj hjs (hall j hj)) S.rest (by have:=S.inv;rwa [hall s hsn] at this)
   exact Oper.wp_mono (fun a' w'' hq=>.inl ⟨if_pos en.symm,fun j hj=>(by show (if j=i then true else f j)=true;rw [if_neg (by omega)];exact hall j hj),hq⟩) this
  ·have hi:i<n:=by omega
   have hdv:∀ e∈o.after,Region.binds .any e=true->e.on≠s->a.tmps[ds e.on]? = some (val e.on):=fun e he hb hs=>S.vals e.on (by have:=hback i o ho e he hb;omega) hs (hdp e he hb)
   by_cases es:i=s
   ·subst es
    obtain ⟨o',q1,q2,q6⟩:=hst
    rw [q1] at ho;cases ho
    refine wpOp_of q1 q2 (Oper.wp_mono ?_ (q6 w1 a (by have:=S.inv;rwa [hf] at this) hdv S.rest))
    rintro a' w'' ⟨rfl,h1⟩
    refine .inr ⟨(if_neg (fun e=>en e.symm)).trans hfn,S.sz,S.df,fun j hj hjs h=>?_,S.rest,by rw [if_pos rfl];exact h1,clx⟩
    rw [if_neg hjs] at h
    exact S.vals j hj hjs h
   ·obtain ⟨q2,q4,q5,q6⟩:=hp i o hi es ho
    have hQ:=q6 _ w1 a S.inv hdv S.rest
    have key:∀ u,u=val i->((fun j=>if j=i then true else f j) n=true/\(∀ k,k<n->(fun j=>if j=i then true else f j) k=true)/\Q .normal (a.put o.dst u) w1)\/((fun j=>if j=i then true else f j) n=false/\TS ops n s ds val C a0 (fun j=>if j=i then true else f j) (a.put o.dst u) w1):=by
     rintro u rfl
     rw [q4]
     refine .inr ⟨(if_neg (fun e=>en e.symm)).trans hfn,put_sz.trans S.sz,S.df,fun j hj hjs h=>?_,fun j h1=>(put_ne (fun e=>h1 i hi es e.symm)).trans (S.rest j h1),by rw [if_neg (fun e=>es e.symm)];exact S.inv,clx⟩
     by_cases ej:j=i
     ·subst ej;exact put_eq (by rw [S.sz];exact q5)
     ·rw [if_neg ej] at h
      rw [put_ne (fun e=>ej (hinj j i hj hjs hi es e)),S.vals j hj hjs h]
    refine wpOp_of ho q2 ?_
    unfold Oper.quietAt at hQ
    unfold Oper.wp
    generalize (execOp a.eval o).run P w1=r at hQ ⊢
    cases r with
    | ok nx w'=>
      cases nx <;> simp only [Oper.quietUpon] at hQ <;> simp only [Oper.upon]
      case value u=>
       obtain ⟨e1,e2⟩:=hQ
       subst e1
       exact key _ e2
      case skip=>
       obtain ⟨e1,e2⟩:=hQ
       subst e1
       exact key _ e2.symm
      case enter g args=>
       obtain ⟨e1,hcl⟩:=hQ
       subst e1
       exact hcl.mono fun e w'' ⟨he,hw''⟩=>by subst he;rw [hw''];exact key _ rfl
    | halt x w'=>simp only [Oper.quietUpon] at hQ
 ·rintro f a w1 hI hall
  rw [hn] at hall
  rcases hI with ⟨_,_,h⟩ | ⟨h,_⟩
  ·exact h
  ·rw [hall n (by omega)] at h;cases h
theorem split_any {f:List UInt8} {l:List (List UInt8)} {c:Int} (h:format_SplitLines f=some (l,c)) (w:World):
 Calls Tryz.prog 37 #[.string ⟨f.toArray⟩] w fun e w'=>∃ v M',e=.returned (.tuple #[v,.int .i64 c])/\NewM (fun _ _=>none) w M' w'/\Rep M' noNames (e_sl_str l) v:=by
 have hc:FnR Tryz.prog 37 [e_str f] (.tup [e_sl_str l,.v (.int .i64 c)]) []:=c_37.ok (f,()) [e_str f] ((l,c):List (List UInt8) × Int) ⟨rfl,trivial⟩ h
 refine (call_new hc (fun _=>trivial) (M:=fun _ _=>none) (fun _ _ _ e=>by (cases e)) (vs:=[.string ⟨f.toArray⟩]) (.cons .v .nil)).mono ?_
 rintro e w' ⟨u,M',rfl,h1,h2,h3,h4,h5⟩
 obtain ⟨vs,rfl,hvs⟩:=rep_tup h5
 obtain ⟨u,vs,rfl,h6,hvs⟩:=hvs.inv
 have:vs=[.int .i64 c]:=repsV_eq (l:=[.int .i64 c]) hvs
 subst this
 exact ⟨u,M',rfl,⟨h1,h2,h3,h4⟩,h6⟩
theorem validate_any {x:World_} {c:Int} (h:world_Validate x=some c) {M:Mem} {A:List Value} {w:World} (hi:Imm M w) (hr:Reps M noNames (tb.el Ix.tWorld_ x).cells A) (h1:∀ u∈A,oneCell u=true):
 Calls Tryz.prog 12 #[.agg A.toArray] w fun e w'=>e=.returned (.int .i64 c)/\Below w.heap.size w w':=by
 have hc:FnR Tryz.prog 12 [e_World_ x] (.v (.int .i64 c)) []:=c_12.ok (x,()) [e_World_ x] (c:Int) ⟨rfl,trivial⟩ h
 refine (call_new hc (fun _=>trivial) hi (vs:=[.agg A.toArray]) (.cons (.agg hr h1) .nil)).mono ?_
 rintro e w' ⟨u,M',rfl,h1,h2,h3,h4,h5⟩
 exact ⟨by rw [Rep.eq_v h5],h1⟩
theorem assert104 (v:Value) (w:World):(Instr.typeAssert (.iface 104 v) 97 104 true).run Tryz.prog w=.ok (.tuple #[v,.bool true]) w:=by kernel_rfl
theorem quiet_asn {P:Program} {o:Oper} {a:Act} {w:World} {x:Operand} {v:Value} (e:o.op=.assign x) (hx:a.eval x=v):o.quietAt P a (fun w''=>w''=w) w v:=quiet_eq (by simp [execOp,e,hx])
def PQ (w:World) (y:World_) (n c:Int) (e:Ending) (w':World):Prop:=
 ∃ A M',e=.returned (.tuple #[.agg (List.toArray A),.int .i64 n,.int .i64 c])/\Below w.heap.size w w'/\Imm M' w'/\(∀ b o u,M' b o=some u->w.heap.size<=b)/\Reps M' noNames (tb.el Ix.tWorld_ y).cells A/\∀ c∈A,oneCell c=true
set_option maxHeartbeats 4000000 in
theorem parse_calls {s:List UInt8} {y:World_} {n c:Int} (h:scene_Parse s=some (y,n,c)) (w:World):
 Calls Tryz.prog 13 #[.string ⟨s.toArray⟩] w (PQ w y n c):=by
 unfold scene_Parse at h
 obtain ⟨⟨lines,code⟩,hs,h⟩:=bind_e h
 dsimp only at h
 have k37:=split_any hs (w.alloc (.cells worZ.toArray 31))
 have hwz:(w.alloc (.cells worZ.toArray 31)).heap.size=w.heap.size+1:=by simp
 have HZ:Hid (_):=hwz
 clear hwz
 have e37:=Tryz.call37
 have e38:=Tryz.call38
 have e39:=Tryz.call39
 have e12:=Tryz.call12
 have ra:tAg Tryz.prog 31=some true:=by kernel_rfl
 have rz:tSz Tryz.prog 31=some 11:=by kernel_rfl
 have HR:Hid (_/\_):=⟨ra,rz⟩
 have r0:Tryz.f13.results=#[.cell 2 31,.tmp 3,.tmp 4]:=rfl
 clear ra rz hs
 by_cases hc0:code=0
 ·subst hc0
  rw [if_neg (by simp)] at h
  split at h
  ·rename_i hl
   obtain ⟨⟨y1,n1⟩,hx,h⟩:=bind_e h
   dsimp only at h
   have HL:Hid (_/\_):=⟨hl,hx⟩
   clear hl hx
   by_cases hn1:n1=0
   ·subst hn1
    rw [if_neg (by simp)] at h
    obtain ⟨v,hv,h⟩:=bind_e h
    have HV:Hid (_):=hv
    have HE:Hid (errL 0=.nilIface):=rfl
    clear hv
    by_cases hv0:v=0
    ·subst hv0
     rw [if_neg (by simp)] at h
     cases h
     go_enter Tryz.func13,Tryz.ntmps13
     go_wp2_with (first
     | (refine wpList_storeat (cs:=A) (arr:=worZ) rfl rfl rfl rfl rfl (by rw [S2.out.2.2.2.2.1];exact HR.out.2) ((S5.out.1.block w.heap.size (by simp)).trans (heap_at w _ _ rfl)) (by rw [S2.out.2.2.2.2.1];exact Nat.le_refl 11) S2.out.2.2.2.2.2 ?_
        intro w6 hz hg
        have hz2:w6.heap[w.heap.size]? = some (.cells A.toArray 31 (0,0)):=by
         rw [hz,List.take_zero,Nat.zero_add,List.nil_append,List.drop_eq_nil_of_le (by rw [S2.out.2.2.2.2.1];exact Nat.le_refl 11),List.append_nil]
        have S6:Hid (_/\_):=⟨hz2,hg⟩
        clear hz hg hz2)
     | (refine wpList_loadat (cs:=A) rfl rfl rfl rfl HR.out.1 (by rw [S2.out.2.2.2.2.1];exact HR.out.2) S5.out.2.1 (fun j v e=>by rw [Nat.zero_add];simpa using e) ?_)
     | (go_at_call 12;refine (validate_any HV.out (S2.out.2.1.below S3.out.2.2) S2.out.2.2.2.1 S2.out.2.2.2.2.2).mono ?_;rintro e w5 ⟨rfl,hb⟩
        have S5:Hid (_/\_/\_):=⟨S3.out.1.trans (hb.mono S3.out.1.size),(hb.block _ (heap_lt S3.out.2.1)).trans S3.out.2.1,S3.out.2.2.trans (hb.mono S3.out.2.2.size)⟩
        clear hb)
     | (refine wpList_loadat (cs:=A) rfl rfl rfl rfl HR.out.1 (by rw [S2.out.2.2.2.2.1];exact HR.out.2) S3.out.2.1 (fun j v e=>by rw [Nat.zero_add];simpa using e) ?_)
     | (go_at_call 39;refine (is_nil (.agg #[]) w3).mono ?_;rintro e w4 ⟨rfl,rfl⟩)
     | (refine wpList_storeat (cs:=A) (arr:=worZ) rfl rfl rfl rfl rfl (by rw [S2.out.2.2.2.2.1];exact HR.out.2) (heap_at w2 _ _ rfl) (by rw [S2.out.2.2.2.2.1];exact Nat.le_refl 11) S2.out.2.2.2.2.2 ?_
        intro w3 hz hg
        have hz2:w3.heap[w2.heap.size]? = some (.cells A.toArray 31 (0,0)):=by
         rw [hz,List.take_zero,Nat.zero_add,List.nil_append,List.drop_eq_nil_of_le (by rw [S2.out.2.2.2.2.1];exact Nat.le_refl 11),List.append_nil]
        have hb2:Below w2.heap.size w2 w3:=((Below.refl w2.heap.size w2).alloc (Nat.le_refl _) _).grown hg (by simp) (fun k e=>by have:=Option.some.inj e;omega)
        have S3:Hid (_/\_/\_):=⟨T2.out.trans (hb2.mono T2.out.size),hz2,hb2⟩
        clear hz hg hz2 hb2)
     | (go_at_call 38;refine (plines_calls HL.out.1 HL.out.2 S1.out.1.2.1 S1.out.2).mono ?_;rintro e w2 ⟨A,M2,rfl,hq⟩
        rw [HE.out]
        have S2:Hid (_):=hq
        have T2:Hid (_):=S1.out.1.1.trans (hq.1.mono S1.out.1.1.size)
        clear hq)
     | (go_at_call 37;refine k37.mono ?_;rintro e w1 ⟨v1,M1,rfl,hn1,hr1⟩
        have S1:Hid (_/\_):=⟨hn1,hr1⟩
        clear hn1 hr1 k37))
     refine bodyPost_ret (results_box3 (cs:=A) r0 rfl rfl rfl HR.out.1 (by rw [S2.out.2.2.2.2.1];exact HR.out.2) S6.out.1) rfl ?_
     have q:=HZ.out
     have q1:=S1.out.1.1.size
     have q5:=S5.out.1.size
     have qn:∀ b o u,M2 b o=some u->w.heap.size<b:=fun b o u e=>by have:=S2.out.2.2.1 b o u e;omega
     refine ⟨A,M2,rfl,(((Below.refl w.heap.size w).alloc (Nat.le_refl _) _).trans (S5.out.1.mono (by simp))).grown S6.out.2 (by omega) (fun k e=>by have:=Option.some.inj e;omega),imm_grown (S2.out.2.1.below S5.out.2.2) S6.out.2 (fun o=>?_),fun b o u e=>Nat.le_of_lt (qn b o u e),S2.out.2.2.2.1,S2.out.2.2.2.2.2⟩
     cases e:M2 w.heap.size o with
     | none=>rfl
     | some u=>have:=qn _ _ _ e;omega
    ·rw [if_pos hv0] at h
     cases h
     have hv1:(v==0)=false:=by rw [beq_eq_false_iff_ne];exact hv0
     have hv2:(v != 0)=true:=by rw [bne_iff_ne];exact hv0
     clear hv0
     go_enter Tryz.func13,Tryz.ntmps13
     go_wp2_with (first
     | (refine wpList_storeat (cs:=worZ) (arr:=worZ) rfl rfl rfl rfl rfl HR.out.2 ((S5.out.1.block w.heap.size (by simp)).trans (heap_at w _ _ rfl)) (by exact Nat.le_refl 11) worZ_one ?_
        intro w6 hz hg
        have S6:Hid (_/\_):=⟨hz,hg⟩
        clear hz hg)
     | (go_at_call 12;refine (validate_any HV.out (S2.out.2.1.below S3.out.2.2) S2.out.2.2.2.1 S2.out.2.2.2.2.2).mono ?_;rintro e w5 ⟨rfl,hb⟩
        have S5:Hid (_/\_/\_):=⟨S3.out.1.trans (hb.mono S3.out.1.size),(hb.block _ (heap_lt S3.out.2.1)).trans S3.out.2.1,S3.out.2.2.trans (hb.mono S3.out.2.2.size)⟩
        clear hb)
     | (refine wpList_loadat (cs:=A) rfl rfl rfl rfl HR.out.1 (by rw [S2.out.2.2.2.2.1];exact HR.out.2) S3.out.2.1 (fun j v e=>by rw [Nat.zero_add];simpa using e) ?_)
     | (go_at_call 39;refine (is_nil (.agg #[]) w3).mono ?_;rintro e w4 ⟨rfl,rfl⟩)
     | (refine wpList_storeat (cs:=A) (arr:=worZ) rfl rfl rfl rfl rfl (by rw [S2.out.2.2.2.2.1];exact HR.out.2) (heap_at w2 _ _ rfl) (by rw [S2.out.2.2.2.2.1];exact Nat.le_refl 11) S2.out.2.2.2.2.2 ?_
        intro w3 hz hg
        have hz2:w3.heap[w2.heap.size]? = some (.cells A.toArray 31 (0,0)):=by
         rw [hz,List.take_zero,Nat.zero_add,List.nil_append,List.drop_eq_nil_of_le (by rw [S2.out.2.2.2.2.1];exact Nat.le_refl 11),List.append_nil]
        have hb2:Below w2.heap.size w2 w3:=((Below.refl w2.heap.size w2).alloc (Nat.le_refl _) _).grown hg (by simp) (fun k e=>by have:=Option.some.inj e;omega)
        have S3:Hid (_/\_/\_):=⟨T2.out.trans (hb2.mono T2.out.size),hz2,hb2⟩
        clear hz hg hz2 hb2)
     | (go_at_call 38;refine (plines_calls HL.out.1 HL.out.2 S1.out.1.2.1 S1.out.2).mono ?_;rintro e w2 ⟨A,M2,rfl,hq⟩
        rw [HE.out]
        have S2:Hid (_):=hq
        have T2:Hid (_):=S1.out.1.1.trans (hq.1.mono S1.out.1.1.size)
        clear hq)
     | (go_at_call 37;refine k37.mono ?_;rintro e w1 ⟨v1,M1,rfl,hn1,hr1⟩
        have S1:Hid (_/\_):=⟨hn1,hr1⟩
        clear hn1 hr1 k37))
     refine bodyPost_ret (results_box3 (cs:=worZ) r0 rfl rfl rfl HR.out.1 HR.out.2 S6.out.1) rfl ?_
     have q:=HZ.out
     have q5:=S5.out.1.size
     exact ⟨worZ,fun _ _=>none,rfl,(((Below.refl w.heap.size w).alloc (Nat.le_refl _) _).trans (S5.out.1.mono (by simp))).grown S6.out.2 (by omega) (fun k e=>by have:=Option.some.inj e;omega),fun _ _ _ e=>by (cases e),fun _ _ _ e=>by (cases e),worZ_out,worZ_one⟩
   ·rw [if_pos hn1] at h
    cases h
    have HE:Hid (errL n=.iface 104 (.agg #[.int .i64 n,.iface 102 (.agg #[])])):=by
     unfold errL
     rw [if_neg hn1]
     trivial
    have tA:=assert104 (.agg #[.int .i64 n,.iface 102 (.agg #[])])
    go_enter Tryz.func13,Tryz.ntmps13
    go_wp2_with (first
     | (go_at_call 39;refine (is_same n w3).mono ?_;rintro e w4 ⟨rfl,hb4⟩
        have S4:Hid (_):=S3.out.trans (hb4.mono S3.out.size)
        clear hb4)
     | (refine wpList_storeat (cs:=A) (arr:=worZ) rfl rfl rfl rfl rfl (by rw [S2.out.2.2.2.2.1];exact HR.out.2) (heap_at w2 _ _ rfl) (by rw [S2.out.2.2.2.2.1];exact Nat.le_refl 11) S2.out.2.2.2.2.2 ?_
        intro w3 hz hg
        have S3:Hid (_):=(T2.out.alloc T2.out.size _).grown hg (Nat.le_trans T2.out.size (by simp)) (fun k e=>by have:=Option.some.inj e;have:=T2.out.size;omega)
        clear hz hg)
     | (go_at_call 38;refine (plines_calls HL.out.1 HL.out.2 S1.out.1.2.1 S1.out.2).mono ?_;rintro e w2 ⟨A,M2,rfl,hq⟩
        rw [HE.out]
        have S2:Hid (_):=hq
        have T2:Hid (_):=S1.out.1.1.trans (hq.1.mono S1.out.1.1.size)
        clear hq)
     | (go_at_call 37;refine k37.mono ?_;rintro e w1 ⟨v1,M1,rfl,hn1,hr1⟩
        have S1:Hid (_/\_):=⟨hn1,hr1⟩
        clear hn1 hr1 k37))
    have T5:Below (w.alloc (.cells worZ.toArray 31)).heap.size (w.alloc (.cells worZ.toArray 31)) (w4.alloc (.cells #[.int .i64 n,.iface 102 (.agg #[])] 104)):=S4.out.alloc S4.out.size _
    have h2z:(w4.alloc (.cells #[.int .i64 n,.iface 102 (.agg #[])] 104)).heap[w.heap.size]? = some (.cells worZ.toArray 31 (0,0)):=(T5.block w.heap.size (by simp)).trans (heap_at w _ _ rfl)
    have h9z:(w4.alloc (.cells #[.int .i64 n,.iface 102 (.agg #[])] 104)).heap[w4.heap.size]? = some (.cells #[.int .i64 n,.iface 102 (.agg #[])] 104 (0,0)):=heap_at w4 _ _ rfl
    have B5:Below w.heap.size w (w4.alloc (.cells #[.int .i64 n,.iface 102 (.agg #[])] 104)):=((Below.refl w.heap.size w).alloc (Nat.le_refl _) _).trans (T5.mono (by simp))
    have q24:w.heap.size≠w4.heap.size:=by have:=S4.out.size;have:=HZ.out;omega
    generalize w4.alloc (.cells #[.int .i64 n,.iface 102 (.agg #[])] 104)=w5 at h2z h9z B5 ⊢
    refine wp_region_st mixed52 5 3 (fun i=>if i=4 then 3 else 34+i) (fun i=>([.agg worZ.toArray,.pointer (some ⟨w4.heap.size,0,none⟩),.int .i64 n,undef,.int .i64 n]:List Value).getD i undef) (fun _ w'=>Below w.heap.size w w'/\w'.heap[w.heap.size]? = some (.cells worZ.toArray 31 (0,0))/\w'.heap[w4.heap.size]? = some (.cells #[.int .i64 n,.iface 102 (.agg #[])] 104 (0,0))) rfl (by decide) (back_of rfl) ⟨B5.trans ((Below.refl _ w5).drew.mono B5.size),h2z,h9z⟩ ?_ ?_ ?_ ?_
    ·intro i o hi his ho
     match i,hi,his with
     | 0,_,_=>
       cases ho
       exact ⟨rfl,rfl,by simp,fun b w' a hC hd hr=>quiet_bld (parts:=[]) rfl (by simp) (by kernel_rfl)⟩
     | 1,_,_=>
       cases ho
       exact ⟨rfl,rfl,by simp,fun b w' a hC hd hr=>quiet_fld (fo:=0) rfl (ev ((hr 9 (by intro i _ _;show (if i=4 then 3 else 34+i)≠9;split <;> omega)).trans rfl)) (by kernel_rfl)⟩
     | 2,_,_=>
       cases ho
       exact ⟨rfl,rfl,by simp,fun b w' a hC hd hr=>quiet_ld1 rfl (ev (hd ⟨1,.data⟩ (by simp) rfl (by decide))) (by kernel_rfl) (box_cell hC.2.2 0 rfl)⟩
     | 3,_,h=>exact absurd rfl h
     | 4,_,_=>
       cases ho
       exact ⟨rfl,rfl,by simp,fun b w' a hC hd hr=>quiet_asn rfl (ev (hd ⟨2,.data⟩ (by simp) rfl (by decide)))⟩
     | j+5,h,_=>exact absurd h (by omega)
    ·refine ⟨_,rfl,rfl,fun w' a hC hd hr=>?_⟩
     refine op_storeat (cs:=worZ) (arr:=worZ) rfl rfl (ev ((hr 2 (by intro i _ _;show (if i=4 then 3 else 34+i)≠2;split <;> omega)).trans rfl)) (ev (hd ⟨0,.data⟩ (by simp) rfl (by decide))) HR.out.2 hC.2.1 (by exact Nat.le_refl 11) worZ_one ?_
     intro w6 hz hg
     exact ⟨rfl,hC.1.grown hg hC.1.size (fun k e=>by have:=Option.some.inj e;omega),hz,(hg.block _ (heap_lt hC.2.2) (by simpa using fun e:w4.heap.size=w.heap.size=>q24 e.symm)).trans hC.2.2⟩
    ·intro i i' hi his hi' his' h
     have h:(if i=4 then 3 else 34+i)=(if i'=4 then 3 else 34+i'):=h
     split at h <;> split at h <;> omega
    ·refine ⟨_,rfl,rfl,?_,?_⟩
     ·intro f h1 h2
      have t0:f 0=true:=h1 ⟨0,.phase⟩ (by simp) rfl
      have t1:f 1=true:=h1 ⟨1,.phase⟩ (by simp) rfl
      have t2:f 2=true:=h1 ⟨2,.phase⟩ (by simp) rfl
      have t3:f 3=true:=h1 ⟨3,.phase⟩ (by simp) rfl
      have t4:f 4=true:=h1 ⟨4,.phase⟩ (by simp) rfl
      intro i hi
      match i,hi with
      | 0,_=>exact t0
      | 1,_=>exact t1
      | 2,_=>exact t2
      | 3,_=>exact t3
      | 4,_=>exact t4
      | j+5,h=>exact absurd h (by omega)
     ·intro a w' hsz hdf hv hr hC
      refine op_assign rfl rfl rfl ?_
      simp only [Exit.then]
      rename_i hK
      refine hK _ _ (wp_ret ?_)
      have e2:(a.put (some 4) (.int .i64 27)).tmps[2]? = some (.pointer (some ⟨w.heap.size,0,none⟩)):=(put_ne (by decide)).trans ((hr 2 (by intro i _ _;show (if i=4 then 3 else 34+i)≠2;split <;> omega)).trans rfl)
      have e3:(a.put (some 4) (.int .i64 27)).tmps[3]? = some (.int .i64 n):=(put_ne (by decide)).trans (hv 4 (by decide) (by decide))
      have e4:(a.put (some 4) (.int .i64 27)).tmps[4]? = some (.int .i64 27):=put_eq (by rw [hsz];simp)
      simp only [Exit.then]
      refine bodyPost_ret (results_box3 (cs:=worZ) r0 (by rw [Array.getD_eq_getD_getElem?];exact congrArg (fun z=>Option.getD z undef) e2) e3 e4 HR.out.1 HR.out.2 hC.2.1) hdf ?_
      exact ⟨worZ,fun _ _=>none,rfl,hC.1,fun _ _ _ e=>by (cases e),fun _ _ _ e=>by (cases e),worZ_out,worZ_one⟩
  ·cases h
 ·rw [if_pos hc0] at h
  cases h
  have hc1:(c==0)=false:=by rw [beq_eq_false_iff_ne];exact hc0
  have hc2:(c != 0)=true:=by rw [bne_iff_ne];exact hc0
  clear hc0
  go_enter Tryz.func13,Tryz.ntmps13
  go_wp2_with (first
   | (refine wpList_storeat (cs:=worZ) (arr:=worZ) rfl rfl rfl rfl rfl HR.out.2 ((S1.out.1.1.block w.heap.size (by simp)).trans (heap_at w _ _ rfl)) (by exact Nat.le_refl 11) worZ_one ?_
      intro w6 hz hg
      have S6:Hid (_/\_):=⟨hz,hg⟩
      clear hz hg)
   | (go_at_call 37;refine k37.mono ?_;rintro e w1 ⟨v1,M1,rfl,hn1,hr1⟩
      have S1:Hid (_/\_):=⟨hn1,hr1⟩
      clear hn1 hr1 k37))
  refine bodyPost_ret (results_box3 (cs:=worZ) r0 rfl rfl rfl HR.out.1 HR.out.2 S6.out.1) rfl ?_
  have q:=HZ.out
  have q5:=S1.out.1.1.size
  exact ⟨worZ,fun _ _=>none,rfl,(((Below.refl w.heap.size w).alloc (Nat.le_refl _) _).trans (S1.out.1.1.mono (by simp))).grown S6.out.2 (by omega) (fun k e=>by have:=Option.some.inj e;omega),fun _ _ _ e=>by (cases e),fun _ _ _ e=>by (cases e),worZ_out,worZ_one⟩
theorem sceneParse_fnr {s:List UInt8} {r:World_ × Int × Int} (h:scene_Parse s=some r):FnR Tryz.prog 13 [e_str s] (.tup [e_World_ r.1,.v (.int .i64 r.2.1),.v (.int .i64 r.2.2)]) []:=by
 obtain ⟨y,n,c⟩:=r
 intro w m vs hgl hi hr
 have hr:Reps m noNames [AV.v (.string ⟨s.toArray⟩)] vs:=hr
 obtain ⟨t,rfl,hr2⟩:=hr.invV
 obtain rfl:=hr2.inv0
 refine (parse_calls h w).mono ?_
 rintro e w' ⟨A,M',rfl,hb,hi',hn,hv,h1⟩
 have hm:Imm m w':=hi.below hb
 refine ⟨_,joinM m M',noNames,rfl,hb,⟨fun b o u e=>(joinM_of e).elim (hm b o u) (hi' b o u),joinM_l hm hi',?_,by simp [find],by simp [find],by simp [noNames],by simp [noNames],trivial⟩,fun _ _=>rfl,.tup (.cons (.agg (hv.mono (joinM_r _ _)) h1) (.cons .v (.cons .v .nil)))⟩
 intro b o v e
 rcases joinM_of e with e | e
 ·exact .inl e
 ·exact .inr (hn b o v e)
noncomputable def c_13:Con Tryz.prog tb cd:=⟨13,[.d Ix.tstr],[Ix.tWorld_,Ix.tint,Ix.tint],[],fun a=>scene_Parse a.1,Tryz.call13,fun a avs r ha hf=>by
 match avs,ha with
 | [x0],h=>obtain ⟨h0,_⟩:=h;cases h0;exact sceneParse_fnr hf⟩
end GoForm
end
