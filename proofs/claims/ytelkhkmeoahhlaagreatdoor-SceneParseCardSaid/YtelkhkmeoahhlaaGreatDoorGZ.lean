/- Several texts in one. No conditions. -/
import Derived.Test.YtelkhkmeoahhlaaGreatDoorGY
section
set_option linter.all false
set_option maxRecDepth 100000
open Go Go.Rx Go.Proofs Go.RowKit
namespace GoForm
def jid:AV->Bool
 | .v u=>jL u
 | .sl _ _ _=>true
 |_=>false
theorem one_of {m:Mem}{bl:Names}:∀{l:List AV} {vs:List Value},JK m bl l vs->l.all jid=true->∀c∈vs,jL c=true:=by
 intro l
 induction l with
 |nil=>
  intro vs h _ c hc
  cases h;cases hc
 |cons a l ih=>
  intro vs h ha c hc
  rw[List.all_cons,Bool.and_eq_true]at ha
  cases h with
  |cons h1 h2=>
   rcases List.mem_cons.1 hc with rfl|hc
   ·cases h1 <;> simp_all [jid,jL,Value.oneCell']
   ·exact ih h2 ha.2 c hc
theorem jab {E:Ix}(h:∀x:tb.T E,(tb.el E x).cells.all jid=true):∀l:List (tb.T E),(elC tb E l).all jid=true
 | []=>rfl
 |x::l=>by rw[jdJ,List.all_append,h x,jab h l];rfl
section
variable {W0:World} {x:jo} {sec:Int} {T:TypeId} {tl:List Value} {M M':Mem} {bp:Nat} {h0 h1 h2 h3 hF hP:Value} {nF nP:Nat} {xb xj xc xo xf xp:List Value} {w w1 w2:World}
theorem PS.start {w':World}(hb:Below W0.heap.size W0 w')(hp:W0.heap.size<=bp)(hx:w'.heap[bp]? = some (.cells (YB noW (.slice none 0 0) (.slice none 0 0) (.slice none 0 0) (.slice none 0 0)++[Value.int .i64 0]).toArray 147 (0,0))):
 PS W0 noW 0 (fun _ _=>none) bp (.slice none 0 0) (.slice none 0 0) (.slice none 0 0) (.slice none 0 0) (.slice none 0 0) (.slice none 0 0) 0 0 [] [] [] [] [] [] w':=by
 refine⟨⟨hb,fun _ _ _ e=>by(cases e),fun _ _ _ e=>by(cases e),hx,⟨hp,fun _=>rfl⟩,?_,?_,?_⟩,.inl ⟨rfl,rfl,rfl,rfl,rfl⟩,.nil,.inl ⟨rfl,rfl,rfl,rfl,rfl⟩,.nil,by simp,by simp⟩
 ·intro r hr
  simp only[jG,noW,List.length_nil,List.mem_cons,List.not_mem_nil,or_false]at hr
  rcases hr with rfl|rfl|rfl|rfl|rfl|rfl <;> exact World.ownsRow_nil _ _ _ _
 ·intro r hr g hg
  simp only[jG,List.mem_cons,List.not_mem_nil,or_false]at hr
  rcases hr with rfl|rfl|rfl|rfl|rfl|rfl <;> cases hg
 ·simp[jG,Ul,Value.ownBlock]
theorem je9 {m bl}{x:jo}{h0 h1 h2 h3:Value}(r0:Rep m bl (jbH x.ji) h0)(r1:Rep m bl (mT x.jP) h1)(r2:Rep m bl (Xw x.jc) h2)(r3:Rep m bl (Va x.Overlaps) h3):
 JK m bl (tb.el Ix.tWorld_ x).cells (YB x h0 h1 h2 h3):=
 .cons .v (.cons .v (.cons .v (.cons .v (.cons .v (.cons r0 (.cons r1 (.cons r2 (.cons r3 (.cons .v (.cons .v .nil))))))))))
theorem OR.frz {W0 M bp T K rs w}(h:OR W0 M bp T K rs w){r:Row}(hr:r∈rs){E:Ix}{l:List (tb.T E)}(hz:∀x,(tb.el E x).cells.length=r.size)(ho:∀x:tb.T E,(tb.el E x).cells.all jid=true)(hl:l.length=r.n){M':Mem}(hx:JK M' jh (elC tb E l) r.xs)(m2:Mem.le (Mw r.v w) M'):Rep M' jh (.sl false r.size (l.map (tb.el E))) r.v:=
 GoForm.frz (h.rows r hr) hz hl hx (one_of hx (jab ho l)) (fun _ _ _ e=>e) m2
def jed (rs:List Row)(M:Mem)(w:World):Mem:=rs.foldl (fun m r=>zr m (Mw r.v w)) M
theorem jaM {M:Mem}{w:World}(hi:Imm M w):∀rs:List Row,∀M0:Mem,Imm M0 w->Imm (jed rs M0 w) w
 | [],_,h=>h
 |r::rs,M0,h=>jaM hi rs _ (fun b o u e=>(Kq e).elim (h b o u) (KT b o u))
theorem Mu {w:World}:∀(rs:List Row) (M0:Mem),Imm M0 w->Mem.le M0 (jed rs M0 w)
 | [],_,_=>fun _ _ _ e=>e
 |r::rs,M0,h=>fun b o u e=>Mu rs (zr M0 (Mw r.v w)) (fun b o u e=>(Kq e).elim (h b o u) (KT b o u)) b o u (Wu h KT b o u e)
theorem jaL {w:World}:∀(rs:List Row) (M0:Mem),Imm M0 w->∀r∈rs,Mem.le (Mw r.v w) (jed rs M0 w)
 | [],_,_,r,h=>by cases h
 |q::rs,M0,h,r,hr=>by
  have hi:Imm (zr M0 (Mw q.v w)) w:=fun b o u e=>(Kq e).elim (h b o u) (KT b o u)
  rcases List.mem_cons.1 hr with rfl|hr
  ·exact fun b o u e=>Mu rs _ hi b o u (zc _ _ b o u e)
  ·exact jaL rs _ hi r hr
theorem jdd {w:World}{b o:Nat}{u:Value}:∀(rs:List Row) (M0:Mem),jed rs M0 w b o=some u->M0 b o=some u\/∃r∈rs,r.v.ownBlock=some b
 | [],_,e=>.inl e
 |q :: rs,M0,e=>by
  rcases jdd rs _ e with e|⟨r,hr,e⟩
  ·rcases Kq e with e|e
   ·exact .inl e
   ·exact .inr ⟨q,List.mem_cons_self,(pF e).1⟩
  ·exact .inr ⟨r,List.mem_cons_of_mem _ hr,e⟩
theorem PG.out (h:PG W0 x T tl M bp h0 h1 h2 h3 hF hP nF nP xb xj xc xo xf xp w):∃M',Imm M' w/\(∀b o u,M' b o=some u->W0.heap.size<=b)/\JK M' jh (tb.el Ix.tWorld_ x).cells (YB x h0 h1 h2 h3):=by
 have hI:=h.o.iM
 have hle:=Mu (jG x h0 h1 h2 h3 hF hP nF nP xb xj xc xo xf xp) M hI
 have hrow:=jaL (jG x h0 h1 h2 h3 hF hP nF nP xb xj xc xo xf xp) M hI
 refine⟨jed (jG x h0 h1 h2 h3 hF hP nF nP xb xj xc xo xf xp) M w,jaM hI _ M hI,?_,?_⟩
 ·intro b o u e
  rcases jdd _ _ e with e|⟨r,hr,e⟩
  ·exact h.o.new b o u e
  ·exact((h.o.rows r hr).lt b e).1
 generalize hN:jed (jG x h0 h1 h2 h3 hF hP nF nP xb xj xc xo xf xp) M w=N at hle hrow
 have rB:(⟨56,20,x.ji.length,h0,xb⟩:Row)∈jG x h0 h1 h2 h3 hF hP nF nP xb xj xc xo xf xp:=by simp[jG]
 have rJ:(⟨75,24,x.jP.length,h1,xj⟩:Row)∈jG x h0 h1 h2 h3 hF hP nF nP xb xj xc xo xf xp:=by simp[jG]
 have rC:(⟨88,7,x.jc.length,h2,xc⟩:Row)∈jG x h0 h1 h2 h3 hF hP nF nP xb xj xc xo xf xp:=by simp[jG]
 have rO:(⟨86,4,x.Overlaps.length,h3,xo⟩:Row)∈jG x h0 h1 h2 h3 hF hP nF nP xb xj xc xo xf xp:=by simp[jG]
 have rF:(⟨67,10,nF,hF,xf⟩:Row)∈jG x h0 h1 h2 h3 hF hP nF nP xb xj xc xo xf xp:=by simp[jG]
 have rP:(⟨131,6,nP,hP,xp⟩:Row)∈jG x h0 h1 h2 h3 hF hP nF nP xb xj xc xo xf xp:=by simp[jG]
 refine je9 ?_ ?_ ?_ ?_
 ·refine h.o.frz rB (E:=Ix.tBody) (l:=x.ji) (fun _=>rfl) (fun _=>rfl) rfl ?_ (hrow _ rB)
  rcases h.cB with ⟨e1,e2,e3,e4,e5⟩|⟨init,last,xi,e1,e2,e3,e4,e5⟩
  ·show JK N jh (elC tb Ix.tBody x.ji) xb
   rw[e1,e4];exact .nil
  ·show JK N jh (elC tb Ix.tBody x.ji) xb
   rw[e1,e2]
   have q1:JK N jh (tb.el Ix.tBody last).cells (UK last hF):=jha (h.o.frz rF (E:=Ix.tFixture) (l:=last.jf) (fun _=>rfl) (fun _=>rfl) e4.symm (e5.mono hle) (hrow _ rF))
   have q:=(e3.mono hle).append q1
   rw[<-vZ Ix.tBody init last]at q
   exact q
 ·exact h.o.frz rJ (E:=Ix.tJoint) (l:=x.jP) (fun _=>rfl) (fun _=>rfl) rfl (h.cJ.mono hle) (hrow _ rJ)
 ·refine h.o.frz rC (E:=Ix.tContact) (l:=x.jc) (fun _=>rfl) (fun _=>rfl) rfl ?_ (hrow _ rC)
  rcases h.cC with ⟨e1,e2,e3,e4,e5⟩|⟨init,last,xi,e1,e2,e3,e4,e5⟩
  ·show JK N jh (elC tb Ix.tContact x.jc) xc
   rw[e1,e4];exact .nil
  ·show JK N jh (elC tb Ix.tContact x.jc) xc
   rw[e1,e2]
   have q1:JK N jh (tb.el Ix.tContact last).cells (je5 last hP):=jg4 (h.o.frz rP (E:=Ix.tContactPoint) (l:=last.jt.jY) (fun _=>rfl) (fun _=>rfl) e4.symm (e5.mono hle) (hrow _ rP))
   have q:=(e3.mono hle).append q1
   rw[<-vZ Ix.tContact init last]at q
   exact q
 ·exact h.o.frz rO (E:=Ix.tPairKey) (l:=x.Overlaps) (fun _=>rfl) (fun _=>rfl) rfl (h.cO.mono hle) (hrow _ rO)
end
theorem jeG {f:List UInt8}{l:List (List UInt8)}{c:Int}(h:zu f=some (l,c)){M:Mem}{w:World}(hi:Imm M w):
 Calls Tryz.prog 77 #[.string ⟨f.toArray⟩] w fun e w'=>∃ad cap M',e=.returned (.tuple #[.slice ad l.length cap,.int .i64 c])/\jbZ M w M' w'/\Rep M' jh (jQ l) (.slice ad l.length cap):=by
 have hc:FnR Tryz.prog 77 [KY f] (.tup [jQ l,.v (.int .i64 c)]) []:=c_77.ok (f,()) [KY f] ((l,c):List (List UInt8) × Int) ⟨rfl,trivial⟩ h
 refine(zS hc (fun _=>trivial) hi (vs:=[.string ⟨f.toArray⟩]) (.cons .v .nil)).mono ?_
 rintro e w' ⟨u,M',rfl,h1,h2,h3,h4,h5⟩
 obtain⟨vs,rfl,hvs⟩:=KJ h5
 obtain⟨u,vs,rfl,h6,hvs⟩:=hvs.inv
 have:vs=[.int .i64 c]:=qZ (l:=[.int .i64 c]) hvs
 subst this
 obtain⟨ad,cap,rfl,-⟩:=YW h6
 exact⟨ad,cap,M',rfl,⟨h1,h2,h3,h4⟩,h6⟩
def jjG (n:Int):Value:=if n=0 then .nilIface else .iface 104 (.agg #[.int .i64 n,.iface 102 (.agg #[])])
def PLQ (w:World)(y:jo)(n:Int)(e:Ending)(w':World):Prop:=
 ∃A M',e=.returned (.tuple #[.agg (List.toArray A),jjG n])/\Below w.heap.size w w'/\Imm M' w'/\(∀b o u,M' b o=some u->w.heap.size<=b)/\JK M' jh (tb.el Ix.tWorld_ y).cells A/\A.length=11/\∀c∈A,jL c=true
def zp:List Value:=YB noW (.slice none 0 0) (.slice none 0 0) (.slice none 0 0) (.slice none 0 0)
theorem Za {P:Program}{fn:Func}{t s:Tmp}{ty:TypeId}{b:Nat}{cs:List Value}{T:TypeId}{w:World}{tmps:Array Value}{v:Value}(h:fn.results=#[.cell t ty,.tmp s])(ht:tmps.getD t undef=.pointer (some ⟨b,0,none⟩))(hv:tmps[s]? = some v)(ha:tAg P ty=some true)(hs:tSz P ty=some cs.length)(hb:w.heap[b]? = some (.cells cs.toArray T (0,0))):
 (results fn tmps).run P w=.ok (.tuple #[.agg cs.toArray,v]) w:=by
 have:=qS (P:=P) (ty:=ty) (w:=w) (b:=b) (o:=0) (cs:=cs) ha hs (fun j v e=>by rw[Nat.zero_add];exact Jq hb j (by simpa using e))
 have ht:tmps[t]?.getD undef=.pointer (some ⟨b,0,none⟩):=by simpa using ht
 simp[results,h,ht,hv,this,asAddr]
theorem Yv {P:Program}{fn:Func}{t s r:Tmp}{ty:TypeId}{b:Nat}{cs:List Value}{T:TypeId}{w:World}{tmps:Array Value}{v u:Value}(h:fn.results=#[.cell t ty,.tmp s,.tmp r])(ht:tmps.getD t undef=.pointer (some ⟨b,0,none⟩))(hv:tmps[s]? = some v)(hu:tmps[r]? = some u)(ha:tAg P ty=some true)(hs:tSz P ty=some cs.length)(hb:w.heap[b]? = some (.cells cs.toArray T (0,0))):
 (results fn tmps).run P w=.ok (.tuple #[.agg cs.toArray,v,u]) w:=by
 have:=qS (P:=P) (ty:=ty) (w:=w) (b:=b) (o:=0) (cs:=cs) ha hs (fun j v e=>by rw[Nat.zero_add];exact Jq hb j (by simpa using e))
 have ht:tmps[t]?.getD undef=.pointer (some ⟨b,0,none⟩):=by simpa using ht
 simp[results,h,ht,hv,hu,this,asAddr]
theorem VS:JK (fun _ _=>none) jh (tb.el Ix.tWorld_ noW).cells zp:=je9 .slnil .slnil .slnil .slnil
theorem qf:∀c∈zp,jL c=true:=XS rfl rfl rfl rfl
set_option maxHeartbeats 4000000 in
theorem Wq {lines:List (List UInt8)}(hl:lines.length<1048576){y:jo}{n:Int}(hx:vU lines 0 noW 0=some (y,n)){M:Mem}{v:Value}{w:World}(hi:Imm M w)(hr:Rep M jh (jQ lines) v):
 Calls Tryz.prog 38 #[v] w (PLQ w y n):=by
 obtain⟨ad,cap,rfl,hm⟩:=YW hr
 obtain⟨N,hN⟩:∃N,lines.length=N:=⟨_,rfl⟩
 have e77:=Tryz.call77
 have e78:=Tryz.call78
 rw[hN]at hm hl⊢
 have HM:Hid (_):=hm
 have HI0:Hid (Imm M w):=hi
 have ra:tAg Tryz.prog 31=some true:=by kernel_rfl
 have rz:tSz Tryz.prog 31=some 11:=by kernel_rfl
 have HR:Hid (_/\_):=⟨ra,rz⟩
 have r0:Tryz.f38.results=#[.cell 2 31,.tmp 3]:=rfl
 clear hr hm ra rz
 obtain⟨K0,hK0⟩:∃K0,K0=PX (w.alloc (.cells zp.toArray 31)):=⟨_,rfl⟩
 go_enter Tryz.func38,Tryz.ntmps38
 go_wp2
 go_loopg [14] N (fun kx s14 wr=>∃(i:Nat) (x:jo) (sec:Int),s14=.int .i64 i/\i<=N/\N - i<=kx/\vU (lines.drop i) i x sec=some (y,n)/\Aside (K0 x sec (w.heap.size+1) wr))
 case atStart=>
  subst hK0
  refine⟨0,noW,0,rfl,Nat.zero_le _,Nat.le_refl _,hx,PG.px (PS.start ((Below.refl _ _).alloc (Nat.le_refl _) _) (by simp) ?_)⟩
  exact yy _ _ _ (by simp)
 case round =>
  obtain⟨i,x,sec,rfl,hin,hkx,hrec,S⟩:=hrel
  subst hK0
  obtain⟨M0,h0,h1,h2,h3,hF,hP,nF,nP,xb,xj,xc,xo,xf,xp,S⟩:=S
  have S0:Hid (_):=S
  clear S hx hi
  by_cases hlt:(i:Int)<N
  ·obtain⟨blk,off,rfl,hcm⟩:=HM.out (by omega)
   obtain⟨line,hli⟩:∃s,lines[i]? = some s:=⟨_,List.getElem?_eq_getElem (by omega)⟩
   have hdrop:lines.drop i=line::lines.drop (i+1):=by
    have h:=(List.getElem?_eq_some_iff.1 hli)
    rw[List.drop_eq_getElem_cons h.1,h.2]
   have B0:Below w.heap.size w wr:=((Below.refl w.heap.size w).alloc (Nat.le_refl _) _).trans (S0.out.o.bel.mono (by simp))
   have c0:wr.cell? ⟨blk,off+i,none⟩=some (.string ⟨line.toArray⟩):=HI0.out.below B0 _ _ _ (hcm _ _ hli)
   have wi:IntKind.i64.wrap ((i:Int)+1)=((i+1:Nat):Int):=by rw[IntKind.wrap_i64];omega
   have pi:(0:Int)<=(i:Int):=by omega
   rw[hdrop]at hrec
   unfold vU at hrec
   obtain⟨⟨f,code⟩,hf,hrec1⟩:=zl hrec
   obtain⟨⟨x2,s2,ok⟩,hst,hrec2⟩:=zl hrec1
   dsimp only at hst hrec2
   have k77:=jeG hf S0.out.o.iM
   have HB:Hid (Below w.heap.size w wr):=B0
   clear hdrop hli hcm hf B0 hrec hrec1
   cases ok with
   |true=>
    by_cases hc0:code=0
    ·subst hc0
     rw[if_pos rfl]at hst hrec2
     have HT:Hid (_):=hst
     have HX:Hid (_):=hrec2
     clear hst hrec2
     go_wp2_with (first
      |(go_at_call 78;refine(PC HT.out S2.out.1 S2.out.2).mono ?_;rintro e w3 ⟨hq1,hq2⟩
        simp at hq1
        subst hq1
        have S3:Hid (_):=hq2
        clear hq2)
      |(go_at_call 77;refine k77.mono ?_;rintro e w2 ⟨fa,fc,M1,rfl,hn2,hr2⟩
        have S2:Hid (_/\_):=⟨S0.out.call hn2,hr2.mono (zc M0 _)⟩
        clear hn2 hr2 k77 c0))
     go_roundg (N - (i+1))
     case measure=>omega
     case rel=>exact⟨i+1,x2,s2,by simp,by omega,by omega,HX.out,S3.out.2 (by first|trivial|rfl)⟩
    ·rw[if_neg hc0]at hst
     cases hst
   |false=>
    have e0:(noW,(i:Int)+1)=(y,n):=Option.some.inj hrec2
    clear hrec2
    cases e0
    have hE:jjG ((i:Int)+1)=.iface 104 (.agg #[.int .i64 ((i:Int)+1),.iface 102 (.agg #[])]):=by unfold jjG;rw[if_neg (by omega)]
    have HE:Hid (_):=hE
    clear hE
    by_cases hc0:code=0
    ·subst hc0
     rw[if_pos rfl]at hst
     have HT:Hid (_):=hst
     clear hst
     go_wp2_with (first
     |(refine jA (cs:=zp) (arr:=zp) rfl rfl rfl rfl rfl HR.out.2 ((S3.out.1.block w.heap.size (by simp)).trans (yy w _ _ rfl)) (by exact Nat.le_refl 11) qf ?_
       intro w4 hz hg
       have S4:Hid (_/\_):=⟨hz,hg⟩
       clear hz hg)
     |(go_at_call 78;refine(PC HT.out S2.out.1 S2.out.2).mono ?_;rintro e w3 ⟨hq1,hq2⟩
       simp at hq1
       subst hq1
       have S3:Hid (_):=hq2
       clear hq2)
     |(go_at_call 77;refine k77.mono ?_;rintro e w2 ⟨fa,fc,M1,rfl,hn2,hr2⟩
       have S2:Hid (_/\_):=⟨S0.out.call hn2,hr2.mono (zc M0 _)⟩
       clear hn2 hr2 k77 c0))
     have hE:=HE.out
     refine bodyPost_ret (Za (cs:=zp) r0 rfl rfl HR.out.1 HR.out.2 S4.out.1) rfl ?_
     refine⟨zp,fun _ _=>none,by rw[hE];rfl,((Below.refl w.heap.size w).alloc (Nat.le_refl _) _).trans (S3.out.1.mono (by simp))|>.grown S4.out.2 ?_ (fun k e=>by have:=Option.some.inj e;omega),fun _ _ _ e=>by(cases e),fun _ _ _ e=>by(cases e),VS,rfl,qf⟩
     have q:=S3.out.1.size
     simp at q
     omega
    ·rw[if_neg hc0]at hst
     have HT:Hid (_):=hst
     clear hst
     have hc1:(code==0)=false:=by rw[beq_eq_false_iff_ne];exact hc0
     have hc2:(code != 0)=true:=by rw[bne_iff_ne];exact hc0
     clear hc0
     go_wp2_with (first
     |(refine jA (cs:=zp) (arr:=zp) rfl rfl rfl rfl rfl HR.out.2 ((S3.out.1.block w.heap.size (by simp)).trans (yy w _ _ rfl)) (by exact Nat.le_refl 11) qf ?_
       intro w4 hz hg
       have S4:Hid (_/\_):=⟨hz,hg⟩
       clear hz hg)
     |(go_at_call 78;refine(PC HT.out S2.out.1 S2.out.2).mono ?_;rintro e w3 ⟨hq1,hq2⟩
       simp at hq1
       subst hq1
       have S3:Hid (_):=hq2
       clear hq2)
     |(go_at_call 77;refine k77.mono ?_;rintro e w2 ⟨fa,fc,M1,rfl,hn2,hr2⟩
       have S2:Hid (_/\_):=⟨S0.out.call hn2,(.slnil:Rep (zr M0 M1) jh (jQ []) (.slice none 0 0))⟩
       clear hn2 hr2 k77 c0))
     have hE:=HE.out
     refine bodyPost_ret (Za (cs:=zp) r0 rfl rfl HR.out.1 HR.out.2 S4.out.1) rfl ?_
     refine⟨zp,fun _ _=>none,by rw[hE];rfl,((Below.refl w.heap.size w).alloc (Nat.le_refl _) _).trans (S3.out.1.mono (by simp))|>.grown S4.out.2 ?_ (fun k e=>by have:=Option.some.inj e;omega),fun _ _ _ e=>by(cases e),fun _ _ _ e=>by(cases e),VS,rfl,qf⟩
     have q:=S3.out.1.size
     simp at q
     omega
  ·have hin':i=N:=by omega
   subst hin'
   have hdr:lines.drop i=[]:=List.drop_eq_nil_of_le (by omega)
   rw[hdr]at hrec
   have c11:wr.cell? ⟨w.heap.size+1,11,none⟩=some (.int .i64 sec):=Jq S0.out.o.box 11 rfl
   have wi:IntKind.i64.wrap ((i:Int)+1)=((i+1:Nat):Int):=by rw[IntKind.wrap_i64];omega
   have e0:(if sec=0 then(noW,(i:Int)+1)else(x,0))=(y,n):=Option.some.inj hrec
   clear hrec hdr
   by_cases hs:sec=0
   ·subst hs
    rw[if_pos rfl]at e0
    cases e0
    have hE:jjG ((i:Int)+1)=.iface 104 (.agg #[.int .i64 ((i:Int)+1),.iface 102 (.agg #[])]):=by unfold jjG;rw[if_neg (by omega)]
    have HE:Hid (_):=hE
    clear hE
    go_wp2_with (first
     |(refine jA (cs:=zp) (arr:=zp) rfl rfl rfl rfl rfl HR.out.2 ((S0.out.o.bel.block w.heap.size (by simp)).trans (yy w _ _ rfl)) (by exact Nat.le_refl 11) qf ?_
       intro w4 hz hg
       have S4:Hid (_/\_):=⟨hz,hg⟩
       clear hz hg))
    have hE:=HE.out
    refine bodyPost_ret (Za (cs:=zp) r0 rfl rfl HR.out.1 HR.out.2 S4.out.1) rfl ?_
    refine⟨zp,fun _ _=>none,by rw[hE];rfl,((Below.refl w.heap.size w).alloc (Nat.le_refl _) _).trans (S0.out.o.bel.mono (by simp))|>.grown S4.out.2 ?_ (fun k e=>by have:=Option.some.inj e;omega),fun _ _ _ e=>by(cases e),fun _ _ _ e=>by(cases e),VS,rfl,qf⟩
    have q:=S0.out.o.bel.size
    simp at q
    omega
   ·rw[if_neg hs]at e0
    obtain⟨e1,e2⟩:=Prod.mk.inj e0
    subst e1
    subst e2
    clear e0
    have hs1:(sec==0)=false:=by rw[beq_eq_false_iff_ne];exact hs
    clear hs
    have Z1:∀r∈jG x h0 h1 h2 h3 hF hP nF nP xb xj xc xo xf xp,r.v.oneCell'=true:=fun r hr=>(Yd (S0.out.o.rows r hr)).2
    have HW:Hid (_):=XS (x:=x) (Z1 ⟨56,20,x.ji.length,h0,xb⟩ (by simp[jG])) (Z1 ⟨75,24,x.jP.length,h1,xj⟩ (by simp[jG])) (Z1 ⟨88,7,x.jc.length,h2,xc⟩ (by simp[jG])) (Z1 ⟨86,4,x.Overlaps.length,h3,xo⟩ (by simp[jG]))
    clear Z1
    go_wp2_with (first
     |(refine jA (cs:=YB x h0 h1 h2 h3) (arr:=zp) rfl rfl rfl rfl rfl HR.out.2 ((S0.out.o.bel.block w.heap.size (by simp)).trans (yy w _ _ rfl)) (by exact Nat.le_refl 11) HW.out ?_
       intro w4 hz hg
       have S4:Hid (_/\_):=⟨hz,hg⟩
       clear hz hg)
     |(refine yv (cs:=YB x h0 h1 h2 h3) rfl rfl rfl rfl HR.out.1 HR.out.2 S0.out.o.box (fun j v e=>by rw[Nat.zero_add];simpa [YB]using List.getElem?_append_left (l₂:=[Value.int .i64 sec]) (List.getElem?_eq_some_iff.1 e).1|>.trans e) ?_))
    refine bodyPost_ret (Za (cs:=YB x h0 h1 h2 h3) r0 rfl rfl HR.out.1 HR.out.2 S4.out.1) rfl ?_
    obtain⟨M',m1,m2,m3⟩:=S0.out.out
    have hg:=S4.out.2
    refine⟨YB x h0 h1 h2 h3,M',rfl,((Below.refl w.heap.size w).alloc (Nat.le_refl _) _).trans (S0.out.o.bel.mono (by simp))|>.grown hg ?_ (fun k e=>by have:=Option.some.inj e;omega),Kz m1 hg (fun o=>?_),fun b o u e=>by have:=m2 b o u e;simp at this;omega,m3,rfl,HW.out⟩
    ·have q:=S0.out.o.bel.size
     simp at q
     omega
    ·cases e:M' w.heap.size o with
     |none=>rfl
     |some u=>have:=m2 _ _ _ e;simp at this;omega
structure TS (ops:Array Oper)(n s:Nat)(ds:Nat->Nat)(val:Nat->Value)(C:Bool->World->Prop)(a0:Act)(f:Nat->Bool)(a:Act)(w:World):Prop where
 sz:a.tmps.size=a0.tmps.size
 df:a.defers=a0.defers
 Zy:∀i,i<n->i≠s->f i=true->a.tmps[ds i]? = some (val i)
 rest:∀j,(∀i,i<n->i≠s->ds i≠j)->a.tmps[j]? = a0.tmps[j]?
 inv:C (f s) w
 cl:∀i o,ops[i]? = some o->f i=true->∀e∈o.after,Region.binds .any e=true->f e.on=true
theorem jau {P:Program}{id:Nat}{Q:Exit->Act->World->Prop}{ops:Array Oper}{a0:Act}{w:World}(hm:P.follows .mixedOrders=true)
 (n s:Nat) (ds:Nat->Nat) (val:Nat->Value) (C:Bool->World->Prop) (hn:ops.size=n+1) (hsn:s<n)
 (hback:∀(i:Nat) (o:Oper),ops[i]? = some o->∀e∈o.after,Region.binds .any e=true->e.on<i)
 (h0:C false w.drew)
 (hp:∀i o,i<n->i≠s->ops[i]? = some o->o.guard=none/\o.dst=some (ds i)/\ds i<a0.tmps.size/\∀b w' (a:Act),C b w'->(∀e∈o.after,Region.binds .any e=true->e.on≠s->a.tmps[ds e.on]? = some (val e.on))->
   (∀j,(∀i,i<n->i≠s->ds i≠j)->a.tmps[j]? = a0.tmps[j]?)->o.quietAt P a (fun w''=>w''=w') w' (val i))
 (hst:∃o,ops[s]? = some o/\o.guard=none/\∀w' (a:Act),C false w'->(∀e∈o.after,Region.binds .any e=true->e.on≠s->a.tmps[ds e.on]? = some (val e.on))->
   (∀j,(∀i,i<n->i≠s->ds i≠j)->a.tmps[j]? = a0.tmps[j]?)->o.wp P a w' (fun a' w''=>a'=a/\C true w'') Q)
 (hinj:∀i i',i<n->i≠s->i'<n->i'≠s->ds i=ds i'->i=i')
 (hl:∃o,ops[n]? = some o/\o.guard=none/\(∀f:Nat->Bool,(∀e∈o.after,Region.binds .any e=true->f e.on=true)->(∀i o,ops[i]? = some o->f i=true->∀e∈o.after,Region.binds .any e=true->f e.on=true)->∀i,i<n->f i=true)/\∀(a:Act) w',a.tmps.size=a0.tmps.size->a.defers=a0.defers->(∀i,i<n->i≠s->a.tmps[ds i]? = some (val i))->
   (∀j,(∀i,i<n->i≠s->ds i≠j)->a.tmps[j]? = a0.tmps[j]?)->C true w'->o.wp P a w' (fun a' w''=>Q .normal a' w'') Q):(Code.region id ops true).wp P Q a0 w:=by
 refine VQ hm (fun f a w'=>(f n=true/\(∀i,i<n->f i=true)/\Q .normal a w')\/(f n=false/\TS ops n s ds val C a0 f a w')) hback (.inr ⟨rfl,rfl,rfl,by simp,fun _ _=>rfl,h0,by simp⟩) ?_ ?_
 ·rintro f a w1 i o hI ho hf hdp
  have hin:i<n+1:=by rw[<-hn];exact(Array.getElem?_eq_some_iff.1 ho).1
  rcases hI with ⟨h1,h2,-⟩|⟨hfn,S⟩
  ·exfalso
   by_cases e:i=n
   ·rw[e,h1]at hf;cases hf
   ·rw[h2 i (by omega)]at hf;cases hf
  have clx:∀j oj,ops[j]? = some oj->(if j=i then true else f j)=true->∀e∈oj.after,Region.binds .any e=true->(if e.on=i then true else f e.on)=true:=fun j oj hj hfj e he hb=>by
   by_cases ej:e.on=i
   ·exact if_pos ej
   ·rw[if_neg ej]
    by_cases ei:j=i
    ·rw[ei,ho]at hj;cases hj;exact hdp e he hb
    ·rw[if_neg ei]at hfj
     exact S.cl j oj hj hfj e he hb
  by_cases en:i=n
  ·obtain⟨o',q1,q2,q3,q4⟩:=hl
   rw[en]at ho
   rw[q1]at ho;cases ho
   have hall:=q3 f hdp S.cl
   refine uB (i:=i) (by rw[en];exact q1) q2 ?_
   have:=q4 a w1 S.sz S.df (fun j hj hjs=>S.Zy j hj hjs (hall j hj)) S.rest (by have:=S.inv;rwa [hall s hsn]at this)
   exact Oper.wp_mono (fun a' w'' hq=>.inl ⟨if_pos en.symm,fun j hj=>(by show(if j=i then true else f j)=true;rw[if_neg (by omega)];exact hall j hj),hq⟩) this
  ·have hi:i<n:=by omega
   have hdv:∀e∈o.after,Region.binds .any e=true->e.on≠s->a.tmps[ds e.on]? = some (val e.on):=fun e he hb hs=>S.Zy e.on (by have:=hback i o ho e he hb;omega) hs (hdp e he hb)
   by_cases es:i=s
   ·subst es
    obtain⟨o',q1,q2,q6⟩:=hst
    rw[q1]at ho;cases ho
    refine uB q1 q2 (Oper.wp_mono ?_ (q6 w1 a (by have:=S.inv;rwa [hf]at this) hdv S.rest))
    rintro a' w'' ⟨rfl,h1⟩
    refine .inr ⟨(if_neg (fun e=>en e.symm)).trans hfn,S.sz,S.df,fun j hj hjs h=>?_,S.rest,by rw[if_pos rfl];exact h1,clx⟩
    rw[if_neg hjs]at h
    exact S.Zy j hj hjs h
   ·obtain⟨q2,q4,q5,q6⟩:=hp i o hi es ho
    have hQ:=q6 _ w1 a S.inv hdv S.rest
    have key:∀u,u=val i->((fun j=>if j=i then true else f j) n=true/\(∀k,k<n->(fun j=>if j=i then true else f j) k=true)/\Q .normal (a.put o.dst u) w1)\/((fun j=>if j=i then true else f j) n=false/\TS ops n s ds val C a0 (fun j=>if j=i then true else f j) (a.put o.dst u) w1):=by
     rintro u rfl
     rw[q4]
     refine .inr ⟨(if_neg (fun e=>en e.symm)).trans hfn,Zc.trans S.sz,S.df,fun j hj hjs h=>?_,fun j h1=>(qh (fun e=>h1 i hi es e.symm)).trans (S.rest j h1),by rw[if_neg (fun e=>es e.symm)];exact S.inv,clx⟩
     by_cases ej:j=i
     ·subst ej;exact put_eq (by rw[S.sz];exact q5)
     ·rw[if_neg ej]at h
      rw[qh (fun e=>ej (hinj j i hj hjs hi es e)),S.Zy j hj hjs h]
    refine uB ho q2 ?_
    unfold Oper.quietAt at hQ
    unfold Oper.wp
    generalize (execOp a.eval o).run P w1=r at hQ⊢
    cases r with
    |ok nx w'=>
     cases nx <;> simp only[Oper.quietUpon]at hQ <;> simp only[Oper.upon]
     case value u=>
      obtain⟨e1,e2⟩:=hQ
      subst e1
      exact key _ e2
     case skip=>
      obtain⟨e1,e2⟩:=hQ
      subst e1
      exact key _ e2.symm
     case enter g args=>
      obtain⟨e1,hcl⟩:=hQ
      subst e1
      exact hcl.mono fun e w'' ⟨he,hw''⟩=>by subst he;rw[hw''];exact key _ rfl
    |halt x w'=>simp only[Oper.quietUpon]at hQ
 ·rintro f a w1 hI hall
  rw[hn]at hall
  rcases hI with ⟨_,_,h⟩|⟨h,_⟩
  ·exact h
  ·rw[hall n (by omega)]at h;cases h
theorem jfq {f:List UInt8}{l:List (List UInt8)}{c:Int}(h:zd f=some (l,c))(w:World):
 Calls Tryz.prog 37 #[.string ⟨f.toArray⟩] w fun e w'=>∃v M',e=.returned (.tuple #[v,.int .i64 c])/\jbZ (fun _ _=>none) w M' w'/\Rep M' jh (jQ l) v:=by
 have hc:FnR Tryz.prog 37 [KY f] (.tup [jQ l,.v (.int .i64 c)]) []:=c_37.ok (f,()) [KY f] ((l,c):List (List UInt8) × Int) ⟨rfl,trivial⟩ h
 refine(zS hc (fun _=>trivial) (M:=fun _ _=>none) (fun _ _ _ e=>by(cases e)) (vs:=[.string ⟨f.toArray⟩]) (.cons .v .nil)).mono ?_
 rintro e w' ⟨u,M',rfl,h1,h2,h3,h4,h5⟩
 obtain⟨vs,rfl,hvs⟩:=KJ h5
 obtain⟨u,vs,rfl,h6,hvs⟩:=hvs.inv
 have:vs=[.int .i64 c]:=qZ (l:=[.int .i64 c]) hvs
 subst this
 exact⟨u,M',rfl,⟨h1,h2,h3,h4⟩,h6⟩
theorem Xe {x:jo}{c:Int}(h:zF x=some c){M:Mem}{A:List Value}{w:World}(hi:Imm M w)(hr:JK M jh (tb.el Ix.tWorld_ x).cells A)(h1:∀u∈A,jL u=true):
 Calls Tryz.prog 12 #[.agg A.toArray] w fun e w'=>e=.returned (.int .i64 c)/\Below w.heap.size w w':=by
 have hc:FnR Tryz.prog 12 [wB x] (.v (.int .i64 c)) []:=c_12.ok (x,()) [wB x] (c:Int) ⟨rfl,trivial⟩ h
 refine(zS hc (fun _=>trivial) hi (vs:=[.agg A.toArray]) (.cons (.agg hr h1) .nil)).mono ?_
 rintro e w' ⟨u,M',rfl,h1,h2,h3,h4,h5⟩
 exact⟨by rw[Rep.zj h5],h1⟩
theorem jhk (v:Value)(w:World):(Instr.typeAssert (.iface 104 v) 97 104 true).run Tryz.prog w=.ok (.tuple #[v,.bool true]) w:=by kernel_rfl
theorem jfM {P:Program}{o:Oper}{a:Act}{w:World}{x:Operand}{v:Value}(e:o.op=.assign x)(hx:a.eval x=v):o.quietAt P a (fun w''=>w''=w) w v:=Kn (by simp[execOp,e,hx])
def PQ (w:World)(y:jo)(n c:Int)(e:Ending)(w':World):Prop:=
 ∃A M',e=.returned (.tuple #[.agg (List.toArray A),.int .i64 n,.int .i64 c])/\Below w.heap.size w w'/\Imm M' w'/\(∀b o u,M' b o=some u->w.heap.size<=b)/\JK M' jh (tb.el Ix.tWorld_ y).cells A/\∀c∈A,jL c=true
set_option maxHeartbeats 4000000 in
theorem jcj {s : List UInt8}{y:jo}{n c:Int}(h:zq s=some (y,n,c))(w:World):
 Calls Tryz.prog 13 #[.string ⟨s.toArray⟩] w (PQ w y n c):=by
 unfold zq at h
 obtain⟨⟨lines,code⟩,hs,h⟩:=zl h
 dsimp only at h
 have k37:=jfq hs (w.alloc (.cells zp.toArray 31))
 have hwz:(w.alloc (.cells zp.toArray 31)).heap.size=w.heap.size+1:=by simp
 have HZ:Hid (_):=hwz
 clear hwz
 have e37:=Tryz.call37
 have e38:=Tryz.call38
 have e39:=Tryz.call39
 have e12:=Tryz.call12
 have ra:tAg Tryz.prog 31=some true:=by kernel_rfl
 have rz:tSz Tryz.prog 31=some 11:=by kernel_rfl
 have HR:Hid (_/\_):=⟨ra,rz⟩
 have r0:Tryz.f13.results=#[.cell 2 31,.tmp 3,.tmp 4]:=rfl
 clear ra rz hs
 by_cases hc0:code=0
 ·subst hc0
  rw[if_neg (by simp)]at h
  split at h
  ·rename_i hl
   obtain⟨⟨y1,n1⟩,hx,h⟩:=zl h
   dsimp only at h
   have HL:Hid (_/\_):=⟨hl,hx⟩
   clear hl hx
   by_cases hn1:n1=0
   ·subst hn1
    rw[if_neg (by simp)]at h
    obtain⟨v,hv,h⟩:=zl h
    have HV:Hid (_):=hv
    have HE:Hid (jjG 0=.nilIface):=rfl
    clear hv
    by_cases hv0:v=0
    ·subst hv0
     rw[if_neg (by simp)]at h
     cases h
     go_enter Tryz.func13,Tryz.ntmps13
     go_wp2_with (first
     |(refine jA (cs:=A) (arr:=zp) rfl rfl rfl rfl rfl (by rw[S2.out.2.2.2.2.1];exact HR.out.2) ((S5.out.1.block w.heap.size (by simp)).trans (yy w _ _ rfl)) (by rw[S2.out.2.2.2.2.1];exact Nat.le_refl 11) S2.out.2.2.2.2.2 ?_
       intro w6 hz hg
       have hz2:w6.heap[w.heap.size]? = some (.cells A.toArray 31 (0,0)):=by
        rw[hz,List.take_zero,Nat.zero_add,List.nil_append,List.drop_eq_nil_of_le (by rw[S2.out.2.2.2.2.1];exact Nat.le_refl 11),List.append_nil]
       have S6:Hid (_/\_):=⟨hz2,hg⟩
       clear hz hg hz2)
     |(refine yv (cs:=A) rfl rfl rfl rfl HR.out.1 (by rw[S2.out.2.2.2.2.1];exact HR.out.2) S5.out.2.1 (fun j v e=>by rw[Nat.zero_add];simpa using e) ?_)
     |(go_at_call 12;refine(Xe HV.out (S2.out.2.1.below S3.out.2.2) S2.out.2.2.2.1 S2.out.2.2.2.2.2).mono ?_;rintro e w5 ⟨rfl,hb⟩
       have S5:Hid (_/\_/\_):=⟨S3.out.1.trans (hb.mono S3.out.1.size),(hb.block _ (Jr S3.out.2.1)).trans S3.out.2.1,S3.out.2.2.trans (hb.mono S3.out.2.2.size)⟩
       clear hb)
     |(refine yv (cs:=A) rfl rfl rfl rfl HR.out.1 (by rw[S2.out.2.2.2.2.1];exact HR.out.2) S3.out.2.1 (fun j v e=>by rw[Nat.zero_add];simpa using e) ?_)
     |(go_at_call 39;refine(jgy (.agg #[]) w3).mono ?_;rintro e w4 ⟨rfl,rfl⟩)
     |(refine jA (cs:=A) (arr:=zp) rfl rfl rfl rfl rfl (by rw[S2.out.2.2.2.2.1];exact HR.out.2) (yy w2 _ _ rfl) (by rw[S2.out.2.2.2.2.1];exact Nat.le_refl 11) S2.out.2.2.2.2.2 ?_
       intro w3 hz hg
       have hz2:w3.heap[w2.heap.size]? = some (.cells A.toArray 31 (0,0)):=by
        rw[hz,List.take_zero,Nat.zero_add,List.nil_append,List.drop_eq_nil_of_le (by rw[S2.out.2.2.2.2.1];exact Nat.le_refl 11),List.append_nil]
       have hb2:Below w2.heap.size w2 w3:=((Below.refl w2.heap.size w2).alloc (Nat.le_refl _) _).grown hg (by simp) (fun k e=>by have:=Option.some.inj e;omega)
       have S3:Hid (_/\_/\_):=⟨T2.out.trans (hb2.mono T2.out.size),hz2,hb2⟩
       clear hz hg hz2 hb2)
     |(go_at_call 38;refine(Wq HL.out.1 HL.out.2 S1.out.1.2.1 S1.out.2).mono ?_;rintro e w2 ⟨A,M2,rfl,hq⟩
       rw[HE.out]
       have S2:Hid (_):=hq
       have T2:Hid (_):=S1.out.1.1.trans (hq.1.mono S1.out.1.1.size)
       clear hq)
     |(go_at_call 37;refine k37.mono ?_;rintro e w1 ⟨v1,M1,rfl,hn1,hr1⟩
       have S1:Hid (_/\_):=⟨hn1,hr1⟩
       clear hn1 hr1 k37))
     refine bodyPost_ret (Yv (cs:=A) r0 rfl rfl rfl HR.out.1 (by rw[S2.out.2.2.2.2.1];exact HR.out.2) S6.out.1) rfl ?_
     have q:=HZ.out
     have q1:=S1.out.1.1.size
     have q5:=S5.out.1.size
     have qn:∀b o u,M2 b o=some u->w.heap.size<b:=fun b o u e=>by have:=S2.out.2.2.1 b o u e;omega
     refine⟨A,M2,rfl,(((Below.refl w.heap.size w).alloc (Nat.le_refl _) _).trans (S5.out.1.mono (by simp))).grown S6.out.2 (by omega) (fun k e=>by have:=Option.some.inj e;omega),Kz (S2.out.2.1.below S5.out.2.2) S6.out.2 (fun o=>?_),fun b o u e=>Nat.le_of_lt (qn b o u e),S2.out.2.2.2.1,S2.out.2.2.2.2.2⟩
     cases e:M2 w.heap.size o with
     |none=>rfl
     |some u=>have:=qn _ _ _ e;omega
    ·rw[if_pos hv0]at h
     cases h
     have hv1:(v==0)=false:=by rw[beq_eq_false_iff_ne];exact hv0
     have hv2:(v != 0)=true:=by rw[bne_iff_ne];exact hv0
     clear hv0
     go_enter Tryz.func13,Tryz.ntmps13
     go_wp2_with (first
     |(refine jA (cs:=zp) (arr:=zp) rfl rfl rfl rfl rfl HR.out.2 ((S5.out.1.block w.heap.size (by simp)).trans (yy w _ _ rfl)) (by exact Nat.le_refl 11) qf ?_
       intro w6 hz hg
       have S6:Hid (_/\_):=⟨hz,hg⟩
       clear hz hg)
     |(go_at_call 12;refine(Xe HV.out (S2.out.2.1.below S3.out.2.2) S2.out.2.2.2.1 S2.out.2.2.2.2.2).mono ?_;rintro e w5 ⟨rfl,hb⟩
       have S5:Hid (_/\_/\_):=⟨S3.out.1.trans (hb.mono S3.out.1.size),(hb.block _ (Jr S3.out.2.1)).trans S3.out.2.1,S3.out.2.2.trans (hb.mono S3.out.2.2.size)⟩
       clear hb)
     |(refine yv (cs:=A) rfl rfl rfl rfl HR.out.1 (by rw[S2.out.2.2.2.2.1];exact HR.out.2) S3.out.2.1 (fun j v e=>by rw[Nat.zero_add];simpa using e) ?_)
     |(go_at_call 39;refine(jgy (.agg #[]) w3).mono ?_;rintro e w4 ⟨rfl,rfl⟩)
     |(refine jA (cs:=A) (arr:=zp) rfl rfl rfl rfl rfl (by rw[S2.out.2.2.2.2.1];exact HR.out.2) (yy w2 _ _ rfl) (by rw[S2.out.2.2.2.2.1];exact Nat.le_refl 11) S2.out.2.2.2.2.2 ?_
       intro w3 hz hg
       have hz2:w3.heap[w2.heap.size]? = some (.cells A.toArray 31 (0,0)):=by
        rw[hz,List.take_zero,Nat.zero_add,List.nil_append,List.drop_eq_nil_of_le (by rw[S2.out.2.2.2.2.1];exact Nat.le_refl 11),List.append_nil]
       have hb2:Below w2.heap.size w2 w3:=((Below.refl w2.heap.size w2).alloc (Nat.le_refl _) _).grown hg (by simp) (fun k e=>by have:=Option.some.inj e;omega)
       have S3:Hid (_/\_/\_):=⟨T2.out.trans (hb2.mono T2.out.size),hz2,hb2⟩
       clear hz hg hz2 hb2)
     |(go_at_call 38;refine(Wq HL.out.1 HL.out.2 S1.out.1.2.1 S1.out.2).mono ?_;rintro e w2 ⟨A,M2,rfl,hq⟩
       rw[HE.out]
       have S2:Hid (_):=hq
       have T2:Hid (_):=S1.out.1.1.trans (hq.1.mono S1.out.1.1.size)
       clear hq)
     |(go_at_call 37;refine k37.mono ?_;rintro e w1 ⟨v1,M1,rfl,hn1,hr1⟩
       have S1:Hid (_/\_):=⟨hn1,hr1⟩
       clear hn1 hr1 k37))
     refine bodyPost_ret (Yv (cs:=zp) r0 rfl rfl rfl HR.out.1 HR.out.2 S6.out.1) rfl ?_
     have q:=HZ.out
     have q5:=S5.out.1.size
     exact⟨zp,fun _ _=>none,rfl,(((Below.refl w.heap.size w).alloc (Nat.le_refl _) _).trans (S5.out.1.mono (by simp))).grown S6.out.2 (by omega) (fun k e=>by have:=Option.some.inj e;omega),fun _ _ _ e=>by(cases e),fun _ _ _ e=>by(cases e),VS,qf⟩
   ·rw[if_pos hn1]at h
    cases h
    have HE:Hid (jjG n=.iface 104 (.agg #[.int .i64 n,.iface 102 (.agg #[])])):=by
     unfold jjG
     rw[if_neg hn1]
     trivial
    have tA:=jhk (.agg #[.int .i64 n,.iface 102 (.agg #[])])
    go_enter Tryz.func13,Tryz.ntmps13
    go_wp2_with (first
     |(go_at_call 39;refine(jgx n w3).mono ?_;rintro e w4 ⟨rfl,hb4⟩
       have S4:Hid (_):=S3.out.trans (hb4.mono S3.out.size)
       clear hb4)
     |(refine jA (cs:=A) (arr:=zp) rfl rfl rfl rfl rfl (by rw[S2.out.2.2.2.2.1];exact HR.out.2) (yy w2 _ _ rfl) (by rw[S2.out.2.2.2.2.1];exact Nat.le_refl 11) S2.out.2.2.2.2.2 ?_
       intro w3 hz hg
       have S3:Hid (_):=(T2.out.alloc T2.out.size _).grown hg (Nat.le_trans T2.out.size (by simp)) (fun k e=>by have:=Option.some.inj e;have:=T2.out.size;omega)
       clear hz hg)
     |(go_at_call 38;refine(Wq HL.out.1 HL.out.2 S1.out.1.2.1 S1.out.2).mono ?_;rintro e w2 ⟨A,M2,rfl,hq⟩
       rw[HE.out]
       have S2:Hid (_):=hq
       have T2:Hid (_):=S1.out.1.1.trans (hq.1.mono S1.out.1.1.size)
       clear hq)
     |(go_at_call 37;refine k37.mono ?_;rintro e w1 ⟨v1,M1,rfl,hn1,hr1⟩
       have S1:Hid (_/\_):=⟨hn1,hr1⟩
       clear hn1 hr1 k37))
    have T5:Below (w.alloc (.cells zp.toArray 31)).heap.size (w.alloc (.cells zp.toArray 31)) (w4.alloc (.cells #[.int .i64 n,.iface 102 (.agg #[])] 104)):=S4.out.alloc S4.out.size _
    have h2z:(w4.alloc (.cells #[.int .i64 n,.iface 102 (.agg #[])] 104)).heap[w.heap.size]? = some (.cells zp.toArray 31 (0,0)):=(T5.block w.heap.size (by simp)).trans (yy w _ _ rfl)
    have h9z:(w4.alloc (.cells #[.int .i64 n,.iface 102 (.agg #[])] 104)).heap[w4.heap.size]? = some (.cells #[.int .i64 n,.iface 102 (.agg #[])] 104 (0,0)):=yy w4 _ _ rfl
    have B5:Below w.heap.size w (w4.alloc (.cells #[.int .i64 n,.iface 102 (.agg #[])] 104)):=((Below.refl w.heap.size w).alloc (Nat.le_refl _) _).trans (T5.mono (by simp))
    have q24:w.heap.size≠w4.heap.size:=by have:=S4.out.size;have:=HZ.out;omega
    generalize w4.alloc (.cells #[.int .i64 n,.iface 102 (.agg #[])] 104)=w5 at h2z h9z B5⊢
    refine jau zJ 5 3 (fun i=>if i=4 then 3 else 34+i) (fun i=>([.agg zp.toArray,.pointer (some ⟨w4.heap.size,0,none⟩),.int .i64 n,undef,.int .i64 n]:List Value).getD i undef) (fun _ w'=>Below w.heap.size w w'/\w'.heap[w.heap.size]? = some (.cells zp.toArray 31 (0,0))/\w'.heap[w4.heap.size]? = some (.cells #[.int .i64 n,.iface 102 (.agg #[])] 104 (0,0))) rfl (by decide) (zL rfl) ⟨B5.trans ((Below.refl _ w5).drew.mono B5.size),h2z,h9z⟩ ?_ ?_ ?_ ?_
    ·intro i o hi his ho
     match i,hi,his with
     |0,_,_=>
      cases ho
      exact⟨rfl,rfl,by simp,fun b w' a hC hd hr=>qb (parts:=[]) rfl (by simp) (by kernel_rfl)⟩
     |1,_,_=>
      cases ho
      exact⟨rfl,rfl,by simp,fun b w' a hC hd hr=>jN (fo:=0) rfl (ev ((hr 9 (by intro i _ _;show(if i=4 then 3 else 34+i)≠9;split <;> omega)).trans rfl)) (by kernel_rfl)⟩
     |2,_,_=>
      cases ho
      exact⟨rfl,rfl,by simp,fun b w' a hC hd hr=>jF rfl (ev (hd ⟨1,.data⟩ (by simp) rfl (by decide))) (by kernel_rfl) (Jq hC.2.2 0 rfl)⟩
     |3,_,h=>exact absurd rfl h
     |4,_,_=>
      cases ho
      exact⟨rfl,rfl,by simp,fun b w' a hC hd hr=>jfM rfl (ev (hd ⟨2,.data⟩ (by simp) rfl (by decide)))⟩
     |j+5,h,_=>exact absurd h (by omega)
    ·refine⟨_,rfl,rfl,fun w' a hC hd hr=>?_⟩
     refine xx (cs:=zp) (arr:=zp) rfl rfl (ev ((hr 2 (by intro i _ _;show(if i=4 then 3 else 34+i)≠2;split <;> omega)).trans rfl)) (ev (hd ⟨0,.data⟩ (by simp) rfl (by decide))) HR.out.2 hC.2.1 (by exact Nat.le_refl 11) qf ?_
     intro w6 hz hg
     exact⟨rfl,hC.1.grown hg hC.1.size (fun k e=>by have:=Option.some.inj e;omega),hz,(hg.block _ (Jr hC.2.2) (by simpa using fun e:w4.heap.size=w.heap.size=>q24 e.symm)).trans hC.2.2⟩
    ·intro i i' hi his hi' his' h
     have h:(if i=4 then 3 else 34+i)=(if i'=4 then 3 else 34+i'):=h
     split at h <;> split at h <;> omega
    ·refine⟨_,rfl,rfl,?_,?_⟩
     ·intro f h1 h2
      have t0:f 0=true:=h1 ⟨0,.phase⟩ (by simp) rfl
      have t1:f 1=true:=h1 ⟨1,.phase⟩ (by simp) rfl
      have t2:f 2=true:=h1 ⟨2,.phase⟩ (by simp) rfl
      have t3:f 3=true:=h1 ⟨3,.phase⟩ (by simp) rfl
      have t4:f 4=true:=h1 ⟨4,.phase⟩ (by simp) rfl
      intro i hi
      match i,hi with
      |0,_=>exact t0
      |1,_=>exact t1
      |2,_=>exact t2
      |3,_=>exact t3
      |4,_=>exact t4
      |j+5,h=>exact absurd h (by omega)
     ·intro a w' hsz hdf hv hr hC
      refine Ws rfl rfl rfl ?_
      simp only[Exit.then]
      rename_i hK
      refine hK _ _ (wp_ret ?_)
      have e2:(a.put (some 4) (.int .i64 27)).tmps[2]? = some (.pointer (some ⟨w.heap.size,0,none⟩)):=(qh (by decide)).trans ((hr 2 (by intro i _ _;show(if i=4 then 3 else 34+i)≠2;split <;> omega)).trans rfl)
      have e3:(a.put (some 4) (.int .i64 27)).tmps[3]? = some (.int .i64 n):=(qh (by decide)).trans (hv 4 (by decide) (by decide))
      have e4:(a.put (some 4) (.int .i64 27)).tmps[4]? = some (.int .i64 27):=put_eq (by rw[hsz];simp)
      simp only[Exit.then]
      refine bodyPost_ret (Yv (cs:=zp) r0 (by rw[Array.getD_eq_getD_getElem?];exact congrArg (fun z=>Option.getD z undef) e2) e3 e4 HR.out.1 HR.out.2 hC.2.1) hdf ?_
      exact⟨zp,fun _ _=>none,rfl,hC.1,fun _ _ _ e=>by(cases e),fun _ _ _ e=>by(cases e),VS,qf⟩
  ·cases h
 ·rw[if_pos hc0]at h
  cases h
  have hc1:(c==0)=false:=by rw[beq_eq_false_iff_ne];exact hc0
  have hc2:(c != 0)=true:=by rw[bne_iff_ne];exact hc0
  clear hc0
  go_enter Tryz.func13,Tryz.ntmps13
  go_wp2_with (first
   |(refine jA (cs:=zp) (arr:=zp) rfl rfl rfl rfl rfl HR.out.2 ((S1.out.1.1.block w.heap.size (by simp)).trans (yy w _ _ rfl)) (by exact Nat.le_refl 11) qf ?_
     intro w6 hz hg
     have S6:Hid (_/\_):=⟨hz,hg⟩
     clear hz hg)
   |(go_at_call 37;refine k37.mono ?_;rintro e w1 ⟨v1,M1,rfl,hn1,hr1⟩
     have S1:Hid (_/\_):=⟨hn1,hr1⟩
     clear hn1 hr1 k37))
  refine bodyPost_ret (Yv (cs:=zp) r0 rfl rfl rfl HR.out.1 HR.out.2 S6.out.1) rfl ?_
  have q:=HZ.out
  have q5:=S1.out.1.1.size
  exact⟨zp,fun _ _=>none,rfl,(((Below.refl w.heap.size w).alloc (Nat.le_refl _) _).trans (S1.out.1.1.mono (by simp))).grown S6.out.2 (by omega) (fun k e=>by have:=Option.some.inj e;omega),fun _ _ _ e=>by(cases e),fun _ _ _ e=>by(cases e),VS,qf⟩
theorem PO {s:List UInt8}{r:jo × Int × Int}(h:zq s=some r):FnR Tryz.prog 13 [KY s] (.tup [wB r.1,.v (.int .i64 r.2.1),.v (.int .i64 r.2.2)]) []:=by
 obtain⟨y,n,c⟩:=r
 intro w m vs hgl hi hr
 have hr:JK m jh [AV.v (.string ⟨s.toArray⟩)] vs:=hr
 obtain⟨t,rfl,hr2⟩:=hr.invV
 obtain rfl:=hr2.inv0
 refine(jcj h w).mono ?_
 rintro e w' ⟨A,M',rfl,hb,hi',hn,hv,h1⟩
 have hm:Imm m w':=hi.below hb
 refine⟨_,zr m M',jh,rfl,hb,⟨fun b o u e=>(Kq e).elim (hm b o u) (hi' b o u),Wu hm hi',?_,by simp[find],by simp[find],by simp[jh],by simp[jh],trivial⟩,fun _ _=>rfl,.tup (.cons (.agg (hv.mono (zc _ _)) h1) (.cons .v (.cons .v .nil)))⟩
 intro b o v e
 rcases Kq e with e|e
 ·exact .inl e
 ·exact .inr (hn b o v e)
noncomputable def c_13:Con Tryz.prog tb cd:=⟨13,[.d Ix.tstr],[Ix.tWorld_,Ix.tint,Ix.tint],[],fun a=>zq a.1,Tryz.call13,fun a avs r ha hf=>by
 match avs,ha with
 | [x0],h=>obtain⟨h0,_⟩:=h;cases h0;exact PO hf⟩
end GoForm
end
