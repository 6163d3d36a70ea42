/- Several texts in one. No conditions. -/
import Derived.Test.YtelkhkmeoahhlaaGreatDoorF52C2
section
set_option linter.all false
set_option maxRecDepth 100000
open Go Go.Rx Go.Proofs Go.RowKit
namespace GoForm
theorem KU {f:List (List UInt8)}{k:List UInt8}{n:Int}{l:List Int}{c:Int}(h:jB f k n false []=some (l,c)){M:Mem}{w:World}{v:Value}(hi:Imm M w)(hr:Rep M jh (jQ f) v):
 Calls Tryz.prog 53 #[v,.string ⟨k.toArray⟩,.int .i64 n,.bool false,.slice none 0 0] w fun e w'=>∃u M',e=.returned (.tuple #[u,.int .i64 c])/\jbZ M w M' w'/\Rep M' jh (Zr l) u:=by
 have hc:FnR Tryz.prog 53 [jQ f,KY k,.v (.int .i64 n),.v (.bool false),Zr []] (.tup [Zr l,.v (.int .i64 c)]) []:=c_53.ok (f,k,n,false,[],()) [jQ f,KY k,.v (.int .i64 n),.v (.bool false),Zr []] ((l,c):List Int × Int) ⟨rfl,rfl,rfl,rfl,rfl,trivial⟩ h
 refine(zS hc (fun _=>trivial) hi (vs:=[v,.string ⟨k.toArray⟩,.int .i64 n,.bool false,.slice none 0 0]) (.cons hr (.cons .v (.cons .v (.cons .v (.cons .slnil .nil)))))).mono ?_
 rintro e w' ⟨u,M',rfl,h1,h2,h3,h4,h5⟩
 obtain⟨vs,rfl,hvs⟩:=KJ h5
 obtain⟨u,vs,rfl,h6,hvs⟩:=hvs.inv
 have:vs=[.int .i64 c]:=qZ (l:=[.int .i64 c]) hvs
 subst this
 exact⟨u,M',rfl,⟨h1,h2,h3,h4⟩,h6⟩
theorem WQ {f:List (List UInt8)}{kw:List UInt8}{n:Int}{l:List Int}(h:jB f kw n false []=some (l,0)){k:Nat}(hk:l.length=k)(hk0:0<k){M:Mem}{w:World}{v:Value}(hi:Imm M w)(hr:Rep M jh (jQ f) v):
 Calls Tryz.prog 53 #[v,.string ⟨kw.toArray⟩,.int .i64 n,.bool false,.slice none 0 0] w fun e w'=>∃ib io ic M',e=.returned (.tuple #[.slice (some ⟨ib,io,none⟩) k ic,.int .i64 0])/\jbZ M w M' w'/\(∀(j:Nat) (x:Int),l[j]? = some x->zr M M' ib (io+j)=some (.int .i64 x))/\Rep (zr M M') jh (Zr l) (.slice (some ⟨ib,io,none⟩) k ic):=by
 refine(KU h hi hr).mono ?_
 rintro e w' ⟨u,M',rfl,hn,hu⟩
 have hu2:=hu.mono (zc M M')
 obtain⟨ad,cap,rfl,hm⟩:=jfF hu
 obtain⟨blk,off,rfl,hm2⟩:=hm (by omega)
 rw[hk]at hu2⊢
 exact⟨blk,off,cap,M',rfl,hn,fun j x e=>zc _ _ _ _ _ (hm2 j x e),hu2⟩
theorem jfc {l:List Int}{k:Int}{r:Vec}(h:Jv l k=some r){M:Mem}{w:World}{v:Value}(hi:Imm M w)(hr:Rep M jh (Zr l) v):
 Calls Tryz.prog 54 #[v,.int .i64 k] w fun e w'=>e=.returned (.agg #[.int .i64 r.X,.int .i64 r.Y])/\Below w.heap.size w w':=by
 have hc:FnR Tryz.prog 54 [Zr l,.v (.int .i64 k)] (jeI r) []:=c_54.ok (l,k,()) [Zr l,.v (.int .i64 k)] (r:Vec) ⟨rfl,rfl,trivial⟩ h
 refine(zS hc (fun _=>trivial) hi (vs:=[v,.int .i64 k]) (.cons hr (.cons .v .nil))).mono ?_
 rintro e w' ⟨u,M',rfl,h1,h2,h3,h4,h5⟩
 have h5:Rep M' jh (.agg ([.int .i64 r.X,.int .i64 r.Y].map AV.v)) u:=h5
 obtain⟨cs,rfl,h6,-⟩:=uM h5
 have:=qZ h6
 subst this
 exact⟨rfl,h1⟩
theorem pQ {l:List Int}{k:Int}{r:Vec}(h:Jv l k=some r){o:Oper}{a:Act}{w:World}{M:Mem}{v:Value}{t:Operand}{tys:Array TypeId}(e:o.op=.call {callee:=.value (.func 54),args:=#[t,.const (.int .i64 k)],argTypes:=tys})(ht:a.eval t=v)(hi:Imm M w)(hr:Rep M jh (Zr l) v):
 o.quietAt Tryz.prog a (fun w''=>Below w.heap.size w w'') w (.agg #[.int .i64 r.X,.int .i64 r.Y]):=
 jh1 e Tryz.call54 (vs:=#[v,.int .i64 k]) (by rw[<-ht];simp;rfl) (jfc h hi hr)
theorem jch {f:List (List UInt8)}{x:jT}{c:Int}(h:JR f=some (x,c)){M:Mem}{w:World}{v:Value}(hi:Imm M w)(hr:Rep M jh (jQ f) v):
 Calls Tryz.prog 24 #[v] w fun e w'=>∃A M',e=.returned (.tuple #[.agg (List.toArray A),.int .i64 c])/\jbZ M w M' w'/\JK M' jh (tb.el Ix.tFixture x).cells A/\∀u∈A,jL u=true:=by
 have hc:FnR Tryz.prog 24 [jQ f] (.tup [VJ x,.v (.int .i64 c)]) []:=c_24.ok (f,()) [jQ f] ((x,c):jT × Int) ⟨rfl,trivial⟩ h
 refine(zS hc (fun _=>trivial) hi (vs:=[v]) (.cons hr .nil)).mono ?_
 rintro e w' ⟨u,M',rfl,h1,h2,h3,h4,h5⟩
 obtain⟨vs,rfl,hvs⟩:=KJ h5
 obtain⟨u,vs,rfl,h6,hvs⟩:=hvs.inv
 have:vs=[.int .i64 c]:=qZ (l:=[.int .i64 c]) hvs
 subst this
 obtain⟨A,rfl,h7,h8⟩:=uM (l:=(tb.el Ix.tFixture x).cells) h6
 exact⟨A,M',rfl,⟨h1,h2,h3,h4⟩,h7,h8⟩
theorem MK {f:List (List UInt8)}{x:yP}{c:Int}(h:yi f=some (x,c)){M:Mem}{w:World}{v:Value}(hi:Imm M w)(hr:Rep M jh (jQ f) v):
 Calls Tryz.prog 26 #[v] w fun e w'=>∃A M',e=.returned (.tuple #[.agg (List.toArray A),.int .i64 c])/\jbZ M w M' w'/\JK M' jh (tb.el Ix.tJoint x).cells A/\∀u∈A,jL u=true:=by
 have hc:FnR Tryz.prog 26 [jQ f] (.tup [uV x,.v (.int .i64 c)]) []:=c_26.ok (f,()) [jQ f] ((x,c):yP × Int) ⟨rfl,trivial⟩ h
 refine(zS hc (fun _=>trivial) hi (vs:=[v]) (.cons hr .nil)).mono ?_
 rintro e w' ⟨u,M',rfl,h1,h2,h3,h4,h5⟩
 obtain⟨vs,rfl,hvs⟩:=KJ h5
 obtain⟨u,vs,rfl,h6,hvs⟩:=hvs.inv
 have:vs=[.int .i64 c]:=qZ (l:=[.int .i64 c]) hvs
 subst this
 obtain⟨A,rfl,h7,h8⟩:=uM (l:=(tb.el Ix.tJoint x).cells) h6
 exact⟨A,M',rfl,⟨h1,h2,h3,h4⟩,h7,h8⟩
theorem jn {M M1:Mem}{b:Nat}(h:∀o,M b o=none)(h1:∀o,M1 b o=none):∀o,zr M M1 b o=none:=fun o=>by unfold zr;rw[h1 o];exact h o
theorem rn {v:Value}{w:World}{b:Nat}(h:v.ownBlock≠some b):∀o,Mw v w b o=none:=fun o=>if_neg h
theorem nn {M M':Mem}{w w':World}{b:Nat}(hn:jbZ M w M' w')(h:∀o,M b o=none)(hb:b<w.heap.size):∀o,M' b o=none:=fun o=>by
 cases e:M' b o with
 |none=>rfl
 |some u=>
  rcases hn.2.2.2 b o u e with e|e
  ·rw[h o]at e;cases e
  ·omega
theorem Vj {M M1:Mem}{w w':World}(hn:jbZ M w M1 w'):Mem.le M (zr M M1):=fun b o u e=>zc _ _ _ _ _ (hn.2.2.1 b o u e)
def Xa (b:Nat)(h0 h1 h2 h3 hF hP:Value):Prop:=h0.ownBlock≠some b/\h1.ownBlock≠some b/\h2.ownBlock≠some b/\h3.ownBlock≠some b/\hF.ownBlock≠some b/\hP.ownBlock≠some b
theorem KM {v v':Value}{b s:Nat}(h:v.ownBlock≠some b)(hk:v'.ownBlock=v.ownBlock\/v'.ownBlock=some s)(hb:b<s):v'.ownBlock≠some b:=by
 rcases hk with hk|hk
 ·rw[hk];exact h
 ·rw[hk];intro e;have:=Option.some.inj e;omega
section
variable {W0:World} {x:jo} {T T':TypeId} {tl tl':List Value} {M M':Mem} {bp bp' b:Nat} {h0 h1 h2 h3 hF hP:Value} {nF nP:Nat} {xb xj xc xo xf xp:List Value} {w w' w1 w2:World}
theorem Xa.rows (h:Xa b h0 h1 h2 h3 hF hP):∀r∈jG x h0 h1 h2 h3 hF hP nF nP xb xj xc xo xf xp,r.v.ownBlock≠some b:=by
 obtain⟨a0,a1,a2,a3,a4,a5⟩:=h
 intro r hr
 simp only[jG,List.mem_cons,List.not_mem_nil,or_false]at hr
 rcases hr with rfl|rfl|rfl|rfl|rfl|rfl <;> assumption
theorem PG.off (h:PG W0 x T tl M bp h0 h1 h2 h3 hF hP nF nP xb xj xc xo xf xp w)(hb:w.heap.size<=b):Xa b h0 h1 h2 h3 hF hP:=by
 have q:∀r∈jG x h0 h1 h2 h3 hF hP nF nP xb xj xc xo xf xp,r.v.ownBlock≠some b:=fun r hr e=>by have:=((h.o.rows r hr).lt b e).2;omega
 exact⟨q ⟨56,20,x.ji.length,h0,xb⟩ (by simp[jG]),q ⟨75,24,x.jP.length,h1,xj⟩ (by simp[jG]),q ⟨88,7,x.jc.length,h2,xc⟩ (by simp[jG]),q ⟨86,4,x.Overlaps.length,h3,xo⟩ (by simp[jG]),q ⟨67,10,nF,hF,xf⟩ (by simp[jG]),q ⟨131,6,nP,hP,xp⟩ (by simp[jG])⟩
theorem PG.rebox (h:PG W0 x T tl M bp h0 h1 h2 h3 hF hP nF nP xb xj xc xo xf xp w)(hb:Below w.heap.size w w')(hx:w'.heap[bp']? = some (.cells (YB x h0 h1 h2 h3++tl').toArray T' (0,0)))(hge:w.heap.size<=bp'):
 PG W0 x T' tl' M bp' h0 h1 h2 h3 hF hP nF nP xb xj xc xo xf xp w':=by
 have h':=h.below hb
 refine⟨⟨h'.o.bel,h'.o.iM,h'.o.new,hx,⟨Nat.le_trans h.o.bel.size hge,MV h.o.iM hge⟩,h'.o.rows,h'.o.nr,⟨fun g e hm=>?_,h'.o.ap.2⟩⟩,h.cB,h.cJ,h.cC,h.cO,h.f1,h.p1⟩
 cases e
 obtain⟨r,hr,e2⟩:=List.mem_map.1 hm
 exact(h.off hge).rows r hr e2
theorem PG.beside (h:PG W0 x T tl M bp h0 h1 h2 h3 hF hP nF nP xb xj xc xo xf xp w)(hg:w.grownBy w' (some b))(hb:W0.heap.size<=b)(hne:b≠bp)(ho:Xa b h0 h1 h2 h3 hF hP)(hM:∀o,M b o=none):PG W0 x T tl M bp h0 h1 h2 h3 hF hP nF nP xb xj xc xo xf xp w':=
 ⟨⟨h.o.bel.grown hg h.o.bel.size (fun k e=>by have:=Option.some.inj e;omega),Kz h.o.iM hg hM,h.o.new,(hg.block bp (Jr h.o.box) (fun e=>hne (Option.some.inj e).symm)).trans h.o.box,h.o.hp,fun r hr=>vz (h.o.rows r hr) hg (fun g e e2=>ho.rows r hr (e.trans e2.symm)),h.o.nr,h.o.ap⟩,h.cB,h.cJ,h.cC,h.cO,h.f1,h.p1⟩
theorem PG.one (h:PG W0 x T tl M bp h0 h1 h2 h3 hF hP nF nP xb xj xc xo xf xp w):∀u∈YB x h0 h1 h2 h3,jL u=true:=by
 have q:∀r∈jG x h0 h1 h2 h3 hF hP nF nP xb xj xc xo xf xp,jL r.v=true:=fun r hr=>(Yd (h.o.rows r hr)).2
 exact XS (q ⟨56,20,x.ji.length,h0,xb⟩ (by simp[jG])) (q ⟨75,24,x.jP.length,h1,xj⟩ (by simp[jG])) (q ⟨88,7,x.jc.length,h2,xc⟩ (by simp[jG])) (q ⟨86,4,x.Overlaps.length,h3,xo⟩ (by simp[jG]))
def Mh (w:World)(L:List Value):World:=(w.alloc (.cells L.toArray 31)).alloc (.cells zp.toArray 31)
theorem yB (w:World)(L:List Value):(Mh w L).heap.size=w.heap.size+2:=by simp[Mh]
theorem YC {w:World}{L:List Value}{b:Nat}{o:Obj}(h:w.heap[b]? = some o):(Mh w L).heap[b]? = some o:=by
 have hlt:=Jr h
 exact(UB _ _ _ (by simp;omega)).trans ((UB _ _ _ hlt).trans h)
structure En (W0:World)(x:jo)(M:Mem)(h0 h1 h2 h3 hF hP:Value)(nF nP:Nat)(xb xj xc xo xf xp:List Value)(w:World):Prop where
 pg:PG W0 x 31 [] M w.heap.size h0 h1 h2 h3 hF hP nF nP xb xj xc xo xf xp (Mh w (YB x h0 h1 h2 h3))
 b4:(Mh w (YB x h0 h1 h2 h3)).heap[w.heap.size+1]? = some (.cells zp.toArray 31 (0,0))
 off:Xa (w.heap.size+1) h0 h1 h2 h3 hF hP
 m4:∀o,M (w.heap.size+1) o=none
 le:W0.heap.size<=w.heap.size
theorem PG.en (h:PG W0 x T tl M bp h0 h1 h2 h3 hF hP nF nP xb xj xc xo xf xp w):En W0 x M h0 h1 h2 h3 hF hP nF nP xb xj xc xo xf xp w:=by
 refine⟨h.rebox (((Below.refl _ _).alloc (Nat.le_refl _) _).alloc (by simp) _) ?_ (Nat.le_refl _),yy _ _ _ (by simp),h.off (by omega),MV h.o.iM (by omega),h.o.bel.size⟩
 rw[List.append_nil]
 exact(UB _ _ _ (by simp)).trans (yy _ _ _ rfl)
theorem jkG {b:Nat}{Z:List Value}{TB:TypeId}{o:Obj}(hg:(w.alloc (.cells Z.toArray TB)).grownBy w' (some w.heap.size))(h:w.heap[b]? = some o):w'.heap[b]? = some o:=by
 have hlt:=Jr h
 exact(hg.block b (by simp;omega) (by simp;omega)).trans ((UB _ _ _ hlt).trans h)
end
def RA (W0:World)(S:Nat->Prop)(w0:World)(Mi:Mem)(y:jo)(A:List Value)(w:World):Prop:=∃M bp h0 h1 h2 h3 hF hP nF nP xb xj xc xo xf xp,A=YB y h0 h1 h2 h3/\PG W0 y 31 [] M bp h0 h1 h2 h3 hF hP nF nP xb xj xc xo xf xp w/\Mem.le Mi M/\∀b,S b->Xa b h0 h1 h2 h3 hF hP/\(∀o,M b o=none)/\b≠bp/\∀o,w0.heap[b]? = some o->w.heap[b]? = some o
section
variable {P:Program} {Q:Exit->Act->World->Prop} {K:Act->World->Prop} {o:Oper} {a:Act} {w:World}
theorem jky {x:Operand}{v:Value}{d:Nat}(e:o.op=.move x)(hd:o.dst=some d)(hx:a.eval x=v)(h:K (a.put (some d) v) w):o.wp P a w K Q:=by
 have r:(execOp a.eval o).run P w=.ok (.value v) w:=by simp[execOp,e,hx]
 unfold Oper.wp
 rw[r,Oper.upon_value,hd]
 exact h
theorem jkz {x:Operand}{c:Int}{d:Nat}(e:o.op=.binOp .eql 3 x (.const (.int .i64 0)) 3)(hd:o.dst=some d)(hx:a.eval x=.int .i64 c)(h:K (a.put (some d) (.bool (c==0))) w):o.wp Tryz.prog a w K Q:=by
 have r:(execOp a.eval o).run Tryz.prog w=.ok (.value (.bool (c==0))) w:=by
  have u3:=Tryz.underlying3
  unfold execOp
  simp only[e,hx]
  simp[go_sem,u3,Act.eval]
 unfold Oper.wp
 rw[r,Oper.upon_value,hd]
 exact h
end
theorem PG.finR {W0:World}{y:jo}{M:Mem}{bp b4:Nat}{h0 h1 h2 h3 hF hP:Value}{nF nP:Nat}{xb xj xc xo xf xp:List Value}{w:World}(Z:PG W0 y 31 [] M bp h0 h1 h2 h3 hF hP nF nP xb xj xc xo xf xp w)(hz:w.heap[b4]? = some (.cells zp.toArray 31 (0,0)))(hO:Xa b4 h0 h1 h2 h3 hF hP)(hM:∀o,M b4 o=none)(hle:W0.heap.size<=b4)(hne:b4≠bp){S:Nat->Prop}{w0:World}{Mi:Mem}(hMi:Mem.le Mi M)(hS2:∀b,S b->Xa b h0 h1 h2 h3 hF hP/\(∀o,M b o=none)/\(b≠b4/\b≠bp)/\∀o,w0.heap[b]? = some o->w.heap[b]? = some o)
 {fn:Func} {R:Ending->World->Prop} {Q:Exit->Act->World->Prop} {a:Act} {id t0:Nat} {o0 o1 o2:Oper} {bl:Bool} (hr:fn.results=#[.cell 4 31,.tmp 5]) (hQ:∀a w,bodyPost Tryz.prog fn R .ret a w->Q .normal a w)
 (g0:o0.guard=none) (e0:o0.op=.load 31 (.tmp 2)) (d0:o0.dst=some t0) (g1:o1.guard=none) (e1:o1.op=.store 31 (.tmp 4) (.tmp t0)) (d1:o1.dst=none) (g2:o2.guard=none) (e2:o2.op=.assign (.const (.bool bl))) (d2:o2.dst=some 5)
 (n4:4≠t0) (hsz:t0<a.tmps.size/\5<a.tmps.size) (h2':a.tmps[2]? = some (.pointer (some ⟨bp,0,none⟩))) (h4:a.tmps[4]? = some (.pointer (some ⟨b4,0,none⟩))) (hdf:a.defers=[])
 (H:∀w' A,RA W0 S w0 Mi y A w'->R (.returned (.tuple #[.agg (List.toArray A),.bool bl])) w'):(Code.region id #[o0,o1,o2] false).wp Tryz.prog Q a w:=by
 have ra:tAg Tryz.prog 31=some true:=by kernel_rfl
 have rz:tSz Tryz.prog 31=some 11:=by kernel_rfl
 have hb:=Z.o.box
 rw[List.append_nil]at hb
 have hone:=Z.one
 refine wp_region_list ?_
 refine yv (cs:=YB y h0 h1 h2 h3) g0 e0 d0 (ev h2') ra rz hb (fun j v e=>by rw[Nat.zero_add];simpa using e) ?_
 refine jA (cs:=YB y h0 h1 h2 h3) (arr:=zp) g1 e1 d1 (ev ((qh n4).trans h4)) (ev (put_eq hsz.1)) rz hz (by exact Nat.le_refl 11) hone ?_
 intro w' hz' hg
 have hz':w'.heap[b4]? = some (.cells (YB y h0 h1 h2 h3).toArray 31 (0,0)):=hz'
 refine wpList_plain g2 fun K hK=>Ws e2 d2 rfl (hK _ _ (wpList_nil ?_))
 have q4:((a.put (some t0) (.agg (YB y h0 h1 h2 h3).toArray)).put (some 5) (.bool bl)).tmps[4]? = some (.pointer (some ⟨b4,0,none⟩)):=(qh (by decide)).trans ((qh n4).trans h4)
 exact hQ _ _ (bodyPost_ret (Za (cs:=YB y h0 h1 h2 h3) hr (by rw[Array.getD_eq_getD_getElem?];exact congrArg (fun z=>Option.getD z undef) q4) (put_eq (by rw[Zc];exact hsz.2)) ra rz hz') hdf (H _ _ ⟨_,_,_,_,_,_,_,_,_,_,_,_,_,_,_,_,rfl,Z.beside hg hle hne hO hM,hMi,fun b hb=>⟨(hS2 b hb).1,(hS2 b hb).2.1,(hS2 b hb).2.2.1.2,fun o ho=>have q:=(hS2 b hb).2.2.2 o ho;(hg.block b (Jr q) (fun e=>(hS2 b hb).2.2.1.1 (Option.some.inj e))).trans q⟩⟩))
theorem PG.finT {W0:World}{y:jo}{M:Mem}{bp b4:Nat}{h0 h1 h2 h3 hF hP:Value}{nF nP:Nat}{xb xj xc xo xf xp:List Value}{w:World}(Z:PG W0 y 31 [] M bp h0 h1 h2 h3 hF hP nF nP xb xj xc xo xf xp w)(hz:w.heap[b4]? = some (.cells zp.toArray 31 (0,0)))(hO:Xa b4 h0 h1 h2 h3 hF hP)(hM:∀o,M b4 o=none)(hle:W0.heap.size<=b4)(hne:b4≠bp){S:Nat->Prop}{w0:World}{Mi:Mem}(hMi:Mem.le Mi M)(hS2:∀b,S b->Xa b h0 h1 h2 h3 hF hP/\(∀o,M b o=none)/\(b≠b4/\b≠bp)/\∀o,w0.heap[b]? = some o->w.heap[b]? = some o)
 {fn:Func} {R:Ending->World->Prop} {Q:Exit->Act->World->Prop} {a:Act} {id t0:Nat} {o0 o1 o2:Oper} {bl:Bool} (hr:fn.results=#[.cell 4 31,.tmp 5]) (hQ:∀a w,bodyPost Tryz.prog fn R .ret a w->Q .ret a w)
 (g0:o0.guard=none) (e0:o0.op=.load 31 (.tmp 2)) (d0:o0.dst=some t0) (g1:o1.guard=none) (e1:o1.op=.store 31 (.tmp 4) (.tmp t0)) (d1:o1.dst=none) (g2:o2.guard=none) (e2:o2.op=.assign (.const (.bool bl))) (d2:o2.dst=some 5)
 (n4:4≠t0) (hsz:t0<a.tmps.size/\5<a.tmps.size) (h2':a.tmps[2]? = some (.pointer (some ⟨bp,0,none⟩))) (h4:a.tmps[4]? = some (.pointer (some ⟨b4,0,none⟩))) (hdf:a.defers=[])
 (H:∀w' A,RA W0 S w0 Mi y A w'->R (.returned (.tuple #[.agg (List.toArray A),.bool bl])) w'):(Code.seq (.region id #[o0,o1,o2] false) .ret).wp Tryz.prog Q a w:=
 wp_seq (Z.finR hz hO hM hle hne hMi hS2 hr (fun a w h=>wp_ret (hQ a w h)) g0 e0 d0 g1 e1 d1 g2 e2 d2 n4 hsz h2' h4 hdf H)
theorem PG.finE {W0:World}{y:jo}{M:Mem}{bp b4:Nat}{h0 h1 h2 h3 hF hP:Value}{nF nP:Nat}{xb xj xc xo xf xp:List Value}{w:World}(Z:PG W0 y 31 [] M bp h0 h1 h2 h3 hF hP nF nP xb xj xc xo xf xp w)(hz:w.heap[b4]? = some (.cells zp.toArray 31 (0,0)))(hO:Xa b4 h0 h1 h2 h3 hF hP)(hM:∀o,M b4 o=none)(hle:W0.heap.size<=b4)(hne:b4≠bp){S:Nat->Prop}{w0:World}{Mi:Mem}(hMi:Mem.le Mi M)(hS2:∀b,S b->Xa b h0 h1 h2 h3 hF hP/\(∀o,M b o=none)/\(b≠b4/\b≠bp)/\∀o,w0.heap[b]? = some o->w.heap[b]? = some o)
 {fn:Func} {R:Ending->World->Prop} {Q:Exit->Act->World->Prop} {a:Act} {id t0 te t1 t2:Nat} {o0 o1 o2 o3 o4:Oper} {c:Int} (hr:fn.results=#[.cell 4 31,.tmp 5]) (hQ:∀a w,bodyPost Tryz.prog fn R .ret a w->Q .ret a w)
 (g0:o0.guard=none) (e0:o0.op=.load 31 (.tmp 2)) (d0:o0.dst=some t0) (ga:o1.guard=none) (ea:o1.op=.move (.tmp te)) (da:o1.dst=some t1) (gb:o2.guard=none) (eb:o2.op=.binOp .eql 3 (.tmp t1) (.const (.int .i64 0)) 3) (db:o2.dst=some t2)
 (g1:o3.guard=none) (e1:o3.op=.store 31 (.tmp 4) (.tmp t0)) (d1:o3.dst=none) (g2:o4.guard=none) (e2:o4.op=.assign (.tmp t2)) (d2:o4.dst=some 5)
 (n4:4≠t0/\4≠t1/\4≠t2/\t0≠t1/\t0≠t2/\te≠t0) (hsz:t0<a.tmps.size/\t1<a.tmps.size/\t2<a.tmps.size/\5<a.tmps.size) (h2':a.tmps[2]? = some (.pointer (some ⟨bp,0,none⟩))) (h4:a.tmps[4]? = some (.pointer (some ⟨b4,0,none⟩))) (he:a.tmps[te]? = some (.int .i64 c)) (hdf:a.defers=[])
 (H:∀w' A,RA W0 S w0 Mi y A w'->R (.returned (.tuple #[.agg (List.toArray A),.bool (c==0)])) w'):(Code.seq (.region id #[o0,o1,o2,o3,o4] false) .ret).wp Tryz.prog Q a w:=by
 have ra:tAg Tryz.prog 31=some true:=by kernel_rfl
 have rz:tSz Tryz.prog 31=some 11:=by kernel_rfl
 have hb:=Z.o.box
 rw[List.append_nil]at hb
 have hone:=Z.one
 obtain⟨n0,n1,n2,n3,n5,n6⟩:=n4
 obtain⟨s0,s1,s2,s5⟩:=hsz
 refine wp_seq (wp_region_list ?_)
 refine yv (cs:=YB y h0 h1 h2 h3) g0 e0 d0 (ev h2') ra rz hb (fun j v e=>by rw[Nat.zero_add];simpa using e) ?_
 refine wpList_plain ga fun K hK=>jky ea da (ev ((qh n6).trans he)) (hK _ _ ?_)
 refine wpList_plain gb fun K hK=>jkz eb db (ev (put_eq (by rw[Zc];exact s1))) (hK _ _ ?_)
 refine jA (cs:=YB y h0 h1 h2 h3) (arr:=zp) g1 e1 d1 (ev ((qh n2).trans ((qh n1).trans ((qh n0).trans h4)))) (ev ((qh n5).trans ((qh n3).trans (put_eq s0)))) rz hz (by exact Nat.le_refl 11) hone ?_
 intro w' hz' hg
 have hz':w'.heap[b4]? = some (.cells (YB y h0 h1 h2 h3).toArray 31 (0,0)):=hz'
 refine wpList_plain g2 fun K hK=>Ws e2 d2 (ev (put_eq (by rw[Zc,Zc];exact s2))) (hK _ _ (wpList_nil (wp_ret ?_)))
 have q4:((((a.put (some t0) (.agg (YB y h0 h1 h2 h3).toArray)).put (some t1) (.int .i64 c)).put (some t2) (.bool (c==0))).put (some 5) (.bool (c==0))).tmps[4]? = some (.pointer (some ⟨b4,0,none⟩)):=(qh (by decide)).trans ((qh n2).trans ((qh n1).trans ((qh n0).trans h4)))
 exact hQ _ _ (bodyPost_ret (Za (cs:=YB y h0 h1 h2 h3) hr (by rw[Array.getD_eq_getD_getElem?];exact congrArg (fun z=>Option.getD z undef) q4) (put_eq (by rw[Zc,Zc,Zc];exact s5)) ra rz hz') hdf (H _ _ ⟨_,_,_,_,_,_,_,_,_,_,_,_,_,_,_,_,rfl,Z.beside hg hle hne hO hM,hMi,fun b hb=>⟨(hS2 b hb).1,(hS2 b hb).2.1,(hS2 b hb).2.2.1.2,fun o ho=>have q:=(hS2 b hb).2.2.2 o ho;(hg.block b (Jr q) (fun e=>(hS2 b hb).2.2.1.1 (Option.some.inj e))).trans q⟩⟩))
theorem PG.Mn {W0:World}{x:jo}{T:TypeId}{tl:List Value}{M:Mem}{bp:Nat}{h0 h1 h2 h3 hF hP:Value}{nF nP:Nat}{xb xj xc xo xf xp:List Value}{w w':World}{s:jH}{n f:Int}(h:PG W0 x T tl M bp h0 h1 h2 h3 hF hP nF nP xb xj xc xo xf xp w)
 (hb:w'.heap[bp]? = some (.cells (YB {x with jH:=s,yM:=n,Frame:=f} h0 h1 h2 h3++tl).toArray T (0,0))) (hg:w.grownBy w' (some bp)):PG W0 {x with jH:=s,yM:=n,Frame:=f} T tl M bp h0 h1 h2 h3 hF hP nF nP xb xj xc xo xf xp w':=
 ⟨h.o.put hb hg,h.cB,h.cJ,h.cC,h.cO,h.f1,h.p1⟩
theorem XV {P:Program}{o:Oper}{Q:Exit->Act->World->Prop}{K:Act->World->Prop}{a:Act}{w:World}{v:Value}{d:Nat}(h:o.quietAt P a (fun w''=>w''=w) w v)(hd:o.dst=some d)(hk:K (a.put (some d) v) w):o.wp P a w K Q:=by
 unfold Oper.quietAt at h
 unfold Oper.wp
 rw[<-hd]at hk
 generalize (execOp a.eval o).run P w=r at h⊢
 cases r with
 |ok nx w'=>
  cases nx <;> simp only[Oper.quietUpon]at h <;> simp only[Oper.upon]
  case value u=>
   obtain⟨e1,e2⟩:=h
   subst e1;subst e2
   exact hk
  case skip=>
   obtain⟨e1,e2⟩:=h
   subst e1
   rw[<-e2]
   exact hk
  case enter g args=>
   obtain⟨e1,hc⟩:=h
   subst e1
   exact hc.mono fun e w'' ⟨he,hw''⟩=>by subst he;rw[hw''];exact hk
 |halt x w'=>simp only[Oper.quietUpon]at h
theorem jfG {Q:Exit->Act->World->Prop}{a:Act}{w:World}{id t0 t1 t2 t3 s f fo bp ib io ic n:Nat}{k:Int}{o0 o1 o2 o3 o4:Oper}{x:Int}{L:List Value}{T:TypeId}{u:Value}
 (g0:o0.guard=none) (e0:o0.op=.move (.tmp s)) (d0:o0.dst=some t0) (g1:o1.guard=none) (e1:o1.op=.indexAddr 41 (.tmp t0) (.const (.int .i64 k))) (d1:o1.dst=some t1)
 (g2:o2.guard=none) (e2:o2.op=.load 3 (.tmp t1)) (d2:o2.dst=some t2) (g3:o3.guard=none) (e3:o3.op=.fieldAddr 31 (.tmp 2) f) (d3:o3.dst=some t3) (g4:o4.guard=none) (e4:o4.op=.store 3 (.tmp t3) (.tmp t2)) (d4:o4.dst=none)
 (hn:t2≠t3/\2≠t0/\2≠t1/\2≠t2) (hsz:t0<a.tmps.size/\t1<a.tmps.size/\t2<a.tmps.size/\t3<a.tmps.size)
 (r2:a.tmps[2]? = some (.pointer (some ⟨bp,0,none⟩))) (rs:a.tmps[s]? = some (.slice (some ⟨ib,io,none⟩) n ic)) (hk:0<=k/\k<n) (hf:fldO Tryz.prog 31 f=some fo)
 (hc:w.cell? ⟨ib,io+k.toNat,none⟩=some (.int .i64 x)) (hb:w.heap[bp]? = some (.cells L.toArray T (0,0))) (hu:L.toArray[fo]? = some u)
 (H:∀a',(∀j,j≠t0->j≠t1->j≠t2->j≠t3->a'.tmps[j]? = a.tmps[j]?)->a'.tmps.size=a.tmps.size->a'.defers=a.defers->Q .normal a' (w.setCell ⟨bp,fo,none⟩ (.int .i64 x))):(Code.region id #[o0,o1,o2,o3,o4] false).wp Tryz.prog Q a w:=by
 obtain⟨s0,s1,s2,s3⟩:=hsz
 obtain⟨n1,n2,n3,n4⟩:=hn
 refine wp_region_list ?_
 refine wpList_plain g0 fun K hK=>XV (quiet_move e0 (ev rs)) d0 (hK _ _ ?_)
 refine wpList_plain g1 fun K hK=>XV (Jb (sz:=1) e1 (ev (put_eq s0)) (by exact rfl) (by kernel_rfl) hk.1 hk.2) d1 (hK _ _ ?_)
 refine wpList_plain g2 fun K hK=>XV (jF e2 (ev (put_eq (by rw[Zc];exact s1))) (by kernel_rfl) (by rw[Nat.mul_one];exact hc)) d2 (hK _ _ ?_)
 refine wpList_plain g3 fun K hK=>XV (jN (fo:=fo) e3 (ev ((qh n4).trans ((qh n3).trans ((qh n2).trans r2)))) hf) d3 (hK _ _ ?_)
 rw[Nat.zero_add]
 refine wpList_plain g4 fun K hK=>Kb e4 d4 (ev (put_eq (by rw[Zc,Zc,Zc];exact s3))) (ev ((qh n1).trans (put_eq (by rw[Zc,Zc];exact s2)))) rfl (by kernel_rfl) (Jq hb fo hu) (kM hb fo) rfl (hK _ _ (wpList_nil (H _ (fun j q0 q1 q2 q3=>(qh q3).trans ((qh q2).trans ((qh q1).trans (qh q0)))) (by rw[Zc,Zc,Zc,Zc]) rfl)))
noncomputable def jjO:Code:=Tryz.f21.body.getD .skip
noncomputable abbrev cx21:Ctx Tryz.prog tb:=cx [c_53,c_54] []
noncomputable def jj9 (f:List (List UInt8)):Option (List AV):=
 exec cx21 (lvl cx21 6) (fun _=>false) (JJ [(4,33)]) 74 jjO .n ⟨ZK (cx [] []) [.d Ix.tsl_str] (f,()) 0,[],[],0,[]⟩ fun e L=>match e with
  | .exit _=>none
  |_=>got (Ur Tryz.prog L Tryz.f21.results.toList) fun xs=>some (avL xs)
theorem jhV (fields0:List (List UInt8)):jj9 fields0=
 Rx.Bind
 (jB fields0 #[(98:UInt8),(111:UInt8),(100:UInt8),(121:UInt8)].toList (19:Int) false
 [(14:Int),(15:Int),(16:Int),(17:Int)])
 fun(r2273:List Int × Int)=>
 Let (r2273.snd != (0:Int)) fun(x2274:Bool)=>
 if x2274=true then
 some (PN {ID:=(0:Int),Kind:=(0:Int),Transform:={Position:={X:=(0:Int),Y:=(0:Int):Vec},Zg:=(0:Int):Transform},jX:={X:=(0:Int),Y:=(0:Int):Vec},jm:=(0:Int),qu:={X:=(0:Int),Y:=(0:Int):Vec},Yq:=(0:Int),jR:=(0:Int),jJ:=(0:Int),jW:=(0:Int),QH:=false,Jf:=false,QG:=false,qe:=false,JC:=(0:Int),jf:=[]:Body} r2273.snd)
 else
 Chk ((0:Int)<=(0:Int)/\(0:Int)<(↑(List.length r2273.fst):Int))
 (Let (ix r2273.fst (0:Int)) fun(x2275:Int)=>
 Chk ((0:Int)<=(1:Int)/\(1:Int)<(↑(List.length r2273.fst):Int))
 (Let (ix r2273.fst (1:Int)) fun(x2276:Int)=>
 Rx.Bind (Jv r2273.fst (2:Int)) fun(r2277:Vec)=>
 Chk ((0:Int)<=(4:Int)/\(4:Int)<(↑(List.length r2273.fst):Int))
 (Let (ix r2273.fst (4:Int)) fun(x2278:Int)=>
 Rx.Bind (Jv r2273.fst (5:Int)) fun(r2279:Vec)=>
 Chk ((0:Int)<=(7:Int)/\(7:Int)<(↑(List.length r2273.fst):Int))
 (Let (ix r2273.fst (7:Int)) fun(x2280:Int)=>
 Rx.Bind (Jv r2273.fst (8:Int)) fun(r2281:Vec)=>
 Chk ((0:Int)<=(10:Int)/\(10:Int)<(↑(List.length r2273.fst):Int))
 (Let (ix r2273.fst (10:Int)) fun(x2282:Int)=>
 Chk ((0:Int)<=(11:Int)/\(11:Int)<(↑(List.length r2273.fst):Int))
 (Let (ix r2273.fst (11:Int)) fun(x2283:Int)=>
 Chk ((0:Int)<=(12:Int)/\(12:Int)<(↑(List.length r2273.fst):Int))
 (Let (ix r2273.fst (12:Int)) fun(x2284:Int)=>
 Chk ((0:Int)<=(13:Int)/\(13:Int)<(↑(List.length r2273.fst):Int))
 (Let (ix r2273.fst (13:Int)) fun(x2285:Int)=>
 Chk ((0:Int)<=(14:Int)/\(14:Int)<(↑(List.length r2273.fst):Int))
 (Let (ix r2273.fst (14:Int)) fun(x2286:Int)=>
 Let (x2286==(1:Int)) fun(x2287:Bool)=>
 Chk ((0:Int)<=(15:Int)/\(15:Int)<(↑(List.length r2273.fst):Int))
 (Let (ix r2273.fst (15:Int)) fun(x2288:Int)=>
 Let (x2288==(1:Int)) fun(x2289:Bool)=>
 Chk ((0:Int)<=(16:Int)/\(16:Int)<(↑(List.length r2273.fst):Int))
 (Let (ix r2273.fst (16:Int)) fun(x2290:Int)=>
 Let (x2290==(1:Int)) fun(x2291:Bool)=>
 Chk ((0:Int)<=(17:Int)/\(17:Int)<(↑(List.length r2273.fst):Int))
 (Let (ix r2273.fst (17:Int)) fun(x2292:Int)=>
 Let (x2292==(1:Int)) fun(x2293:Bool)=>
 Chk ((0:Int)<=(18:Int)/\(18:Int)<(↑(List.length r2273.fst):Int))
 (Let (ix r2273.fst (18:Int)) fun(x2294:Int)=>
 some (PN {ID:=x2275,Kind:=x2276,Transform:={Position:=r2277,Zg:=x2278:Transform},jX:=r2279,jm:=x2280,qu:=r2281,Yq:=x2282,jR:=x2283,jJ:=x2284,jW:=x2285,QH:=x2287,Jf:=x2289,QG:=x2291,qe:=x2293,JC:=x2294,jf:=[]:Body} (0:Int))))))))))))))):=by kernel_rfl
theorem jfA (f:List (List UInt8)):jj9 f=(ya f).map fun r=>PN r.1 r.2:=by
 rw[jhV]
 unfold ya
 simp only[jdt,jgd,jgc,jge,Option.map_some]
theorem ja7 {f:List (List UInt8)}{b:Body}{c:Int}(h:ya f=some (b,c)){M:Mem}{w:World}{v:Value}(hi:Imm M w)(hr:Rep M jh (jQ f) v):
 Calls Tryz.prog 21 #[v] w fun e w'=>e=.returned (.tuple #[.agg (UK b (.slice none 0 0)).toArray,.int .i64 c])/\Below w.heap.size w w':=by
 have hrun:jj9 f=some (PN b c):=by rw[jfA,h];rfl
 have hav:avE [] (ZK (cx [] []) [.d Ix.tsl_str] (f,()) 0)=QE 0 [jQ f]:=by kernel_rfl
 have hi0:RI [] (ZK (cx [] []) [.d Ix.tsl_str] (f,()) 0:VP tb):=by
  intro t G z hz
  have hk:jcx (tb:=tb) [] (ZK (cx [] []) [.d Ix.tsl_str] (f,()) 0)=true:=rfl
  have:=(Pa hk _ (ZO hz)).2
  cases this
 have key:=Zv (jbf 6) (L:=(⟨ZK (cx [] []) [.d Ix.tsl_str] (f,()) 0,[],[],0,[]⟩:SLS tb)) hi0 hrun
 refine calls_of_wp (fn:=Tryz.f21) (c:=jjO) Tryz.func21 (by kernel_rfl) ?_
 have hN:Tryz.f21.ntmps=74:=by kernel_rfl
 rw[hN]
 refine key _ _ _ _ _ _ _ (sim0 (vs:=[v]) (by simp) hi hav (.cons hr .nil)) _ ?_
 rintro e L' a1 w1 m1 bl1 ⟨Lz,h',hi1,x1,t1⟩ s1
 obtain⟨m2,bl2,s2⟩:=t1 _ _ _ _ _ _ _ _ s1
 have key2:∀xs,Ur Tryz.prog Lz Tryz.f21.results.toList=some xs->avL xs=PN b c->bodyPost Tryz.prog Tryz.f21 (fun e w'=>e=.returned (.tuple #[.agg (UK b (.slice none 0 0)).toArray,.int .i64 c])/\Below w.heap.size w w') .ret a1 w1:=by
  intro xs hxs hx
  obtain⟨u,hv1,hv2⟩:=kX.results s2 (VX hxs)
  rw[hx]at hv2
  have hv2:Rep m2 bl2 (.tup [.agg (jlx b),.v (.int .i64 c)]) u:=hv2
  obtain⟨vs,rfl,hvs⟩:=KJ hv2
  obtain⟨u1,vs,rfl,h1,hvs⟩:=hvs.inv
  have:vs=[.int .i64 c]:=qZ (l:=[.int .i64 c]) hvs
  subst this
  obtain⟨cs,rfl,h3,-⟩:=uM h1
  have:=qZ h3
  subst this
  exact⟨s2.defers,_,hv1,rfl,s2.below⟩
 cases e with
 |exit j=>cases h'
 |normal=>
  obtain⟨xs,hxs,h'⟩:=jd h'
  exact key2 xs hxs (Option.some.inj h')
 |ret=>
  obtain⟨xs,hxs,h'⟩:=jd h'
  exact key2 xs hxs (Option.some.inj h')
section
variable {W0:World} {x:jo} {T:TypeId} {tl:List Value} {M M':Mem} {bp:Nat} {h0 h1 h2 h3 hF hP:Value} {nF nP:Nat} {xb xj xc xo xf xp:List Value} {w w1 w2:World}
set_option maxHeartbeats 4000000 in
theorem jfK {rest:List (List UInt8)}{vf:Value}{S:Nat->Prop}(hS:PG W0 x T tl M bp h0 h1 h2 h3 hF hP nF nP xb xj xc xo xf xp w)(hSb:∀b,S b->b<w.heap.size/\Xa b h0 h1 h2 h3 hF hP/\∀o,M b o=none)(hr:Rep M jh (jQ ([98,111,100,121]::rest)) vf){b:Body}{c:Int}(h:ya ([98,111,100,121]::rest)=some (b,c))(hbF:b.jf=[])(hlen:x.ji.length<1048576):
 Calls Tryz.prog 50 #[.agg (YB x h0 h1 h2 h3).toArray,vf] w fun e w'=>∃A,e=.returned (.tuple #[.agg (List.toArray A),.bool (c==0)])/\RA W0 S w M {x with ji:=x.ji++[b]} A w':=by
 have HP:Hid (_):=hS.en
 have HS:Hid (_):=hSb
 clear hSb
 obtain⟨ad,cap,rfl,hm⟩:=YW hr
 obtain⟨blk,off,rfl,hm2⟩:=hm (by simp)
 have c0:((w.alloc (.cells (YB x h0 h1 h2 h3).toArray 31)).alloc (.cells #[Value.int .i64 0,Value.int .i64 0,Value.int .i64 0,Value.int .i64 0,Value.int .i64 0,Value.slice none 0 0,Value.slice none 0 0,Value.slice none 0 0,Value.slice none 0 0,Value.int .i64 0,Value.int .i64 0] 31)).cell? ⟨blk,off,none⟩=some (.string ⟨List.toArray [98,111,100,121]⟩):=HP.out.pg.o.iM _ _ _ (hm2 0 _ rfl)
 have hr0:Hid (Rep M jh _ _):=hr
 obtain⟨n,hn⟩:∃n,(([98,111,100,121]:List UInt8)::rest).length=n:=⟨_,rfl⟩
 rw[hn]at hr0⊢
 have hn0:(0:Int)<(n:Int):=by rw[<-hn];simp
 have kk:=ja7 h HP.out.pg.o.iM hr
 rw[hn]at kk
 have ek:=Tryz.call21
 obtain⟨iE,a1,a2,a3,a4⟩:=info_parts (P:=Tryz.prog) (e:=56) (z:=.agg je6.toArray) (size:=20) (bytes:=152) (by kernel_rfl)
 have HI:Hid (_/\_/\_/\_):=⟨a1,a2,a3,a4⟩
 clear a1 a2 a3 a4
 have ra:tSz Tryz.prog 56=some 20:=by kernel_rfl
 have HR:Hid (_):=ra
 clear hr hm hm2 hS hn ra h
 go_enter Tryz.func50,Tryz.ntmps50
 go_upto_region 4 with (first
  |(go_at_call 21;refine kk.mono ?_;rintro e w1 ⟨rfl,hn⟩
    have S1:Hid (_/\_):=⟨HP.out.pg.below hn,(fun b o h=>(hn.block _ (Jr h)).trans h:∀b o,(Mh w (YB x h0 h1 h2 h3)).heap[b]? = some o->w1.heap[b]? = some o)⟩
    clear hn kk c0)
  |(refine jA (cs:=(UK b (.slice none 0 0))) (arr:=je6) rfl rfl rfl rfl rfl (by exact HR.out) (yy w1 _ _ rfl) (by exact Nat.le_refl 20) (ua b rfl) ?_
    intro w3 hz hg
    have S3:Hid (_/\_):=⟨S1.out.1.made (A:=(UK b (.slice none 0 0))) (Z:=je6) (k:=20) (rfl) rfl hz hg,fun b o h=>jkG hg (S1.out.2 b o h)⟩
    clear hz hg))
 refine yO zJ 6 3 4 (fun i=>25+i) (fun i=>([.pointer (some ⟨w.heap.size,5,none⟩),h0,.agg (List.toArray (UK b (.slice none 0 0))),undef,undef,.pointer (some ⟨w.heap.size,5,none⟩)]:List Value).getD i undef) (fun w'=>w'.heap[w.heap.size]? = some (.cells (YB x h0 h1 h2 h3++[]).toArray 31 (0,0))/\w'.heap[w1.heap.size]? = some (.cells (List.toArray (UK b (.slice none 0 0))) 56 (0,0))) W0.heap.size 26 56 iE (.agg je6.toArray) 20 152 Tryz.underlying26 HI.out.1 HI.out.2.1 HI.out.2.2.1 HI.out.2.2.2 rfl (by decide) h0 x.ji.length xb (UK b (.slice none 0 0)) (S3.out.1.1.o.rows ⟨56,20,x.ji.length,h0,xb⟩ (by simp[jG])) (rfl) (ua b rfl) (by simp[maxLen];omega) (by omega) (S3.out.1.1.o.bel.size) rfl (zL rfl) (fun i i' _ _ h=>by omega) (by decide) (fun w1 w2 b1 b2=>(⟨(S3.out.1.1.o.base (r:=⟨56,20,x.ji.length,h0,xb⟩) (by simp[jG]) b1 b2).1,S3.out.1.2.base (r:=⟨56,20,x.ji.length,h0,xb⟩) (by simp[jG]) b1 b2⟩:_/\_)) ?_ ?_ ?_ ?_
 ·intro i o hi n1 n2 ho
  match i,hi,n1,n2 with
  |0,_,_,_=>
   cases ho
   exact⟨rfl,rfl,by simp,fun a w' hb hd hr=>jN (fo:=5) rfl (ev ((hr 2 (by intro i _;show 25+i≠2;omega)).trans rfl)) (by kernel_rfl)⟩
  |1,_,_,_=>
   cases ho
   exact⟨rfl,rfl,by simp,fun a w' hb hd hr=>jF rfl (ev (hd ⟨0,.data⟩ (by simp) rfl (by decide) (by decide))) (by kernel_rfl) (Jq hb.1 5 rfl)⟩
  |2,_,_,_=>
   cases ho
   exact⟨rfl,rfl,by simp,fun a w' hb hd hr=>vw rfl (ev ((hr 6 (by intro i _;show 25+i≠6;omega)).trans rfl)) (by kernel_rfl) (by exact HR.out) (hb.2)⟩
  |3,_,h,_=>exact absurd rfl h
  |4,_,_,h=>exact absurd rfl h
  |5,_,_,_=>
   cases ho
   exact⟨rfl,rfl,by simp,fun a w' hb hd hr=>jN (fo:=5) rfl (ev ((hr 2 (by intro i _;show 25+i≠2;omega)).trans rfl)) (by kernel_rfl)⟩
  |j+6,h,_,_=>exact absurd h (by omega)
 ·exact⟨_,_,rfl,rfl,rfl,by simp,rfl,fun a hd=>ev (hd ⟨2,.data⟩ (by simp) rfl (by decide) (by decide))⟩
 ·exact⟨_,_,rfl,rfl,rfl,by simp,rfl,⟨⟨3,.data⟩,by simp,rfl,rfl⟩,fun a hd=>ev (hd ⟨1,.data⟩ (by simp) rfl (by decide) (by decide))⟩
 ·refine⟨_,rfl,rfl,fun f h1 h2=>by
   have t5:f 5=true:=h1 ⟨5,.data⟩ (by simp) rfl
   have t4:f 4=true:=h1 ⟨4,.data⟩ (by simp) rfl
   have t0:f 0=true:=h1 ⟨0,.phase⟩ (by simp) rfl
   have t1:f 1=true:=h1 ⟨1,.phase⟩ (by simp) rfl
   have t2:f 2=true:=h1 ⟨2,.phase⟩ (by simp) rfl
   have t3:f 3=true:=h1 ⟨3,.phase⟩ (by simp) rfl
   intro i hi
   match i,hi with
   |0,_=>exact t0
   |1,_=>exact t1
   |2,_=>exact t2
   |3,_=>exact t3
   |4,_=>exact t4
   |5,_=>exact t5
   |j+6,h=>exact absurd h (by omega),?_⟩
  intro v6 w5 w6 a g1 g2 g3 g4 hsz hdf hv hA hr
  have hb:=(⟨(S3.out.1.1.o.base (r:=⟨56,20,x.ji.length,h0,xb⟩) (by simp[jG]) g1 g2).1,S3.out.1.2.base (r:=⟨56,20,x.ji.length,h0,xb⟩) (by simp[jG]) g1 g2⟩:_/\_)
  refine Kb rfl rfl (ev (hv 5 (by decide) (by decide) (by decide))) (ev hA) (Yd g3).1 (by kernel_rfl) (Jq hb.1 5 rfl) (kM hb.1 5) (Yd g3).2 ?_
  rename_i hK
  refine hK _ _ ?_
  have lt3:=Jr (S3.out.2 _ _ HP.out.b4)
  have lt4:w.heap.size+1<w5.heap.size:=Nat.lt_of_lt_of_le lt3 g1.size
  have ltS:∀b,S b->b<w5.heap.size:=fun b hb=>by have:=(HS.out b hb).1;omega
  have Z:=(S3.out.1.1.below g1).body hbF g3 g2 g4
  exact Z.finE (b4:=w.heap.size+1) ((heap_set _ _ _ _ (by show w.heap.size+1≠w.heap.size;omega)).trans ((g2.block _ lt4 (HP.out.off.1).symm).trans ((g1.block _ lt3).trans (S3.out.2 _ _ HP.out.b4)))) ⟨KM (HP.out.off.1) g4 lt4,HP.out.off.2.1,HP.out.off.2.2.1,HP.out.off.2.2.2.1,(fun e=>by cases e),HP.out.off.2.2.2.2.2⟩ (jn HP.out.m4 (rn (HP.out.off.2.2.2.2.1))) (by have:=HP.out.le;omega) (by omega) (Wu (S3.out.1.1.below g1).o.iM KT) (fun b hb=>⟨⟨KM ((HS.out b hb).2.1.1) g4 (ltS b hb),(HS.out b hb).2.1.2.1,(HS.out b hb).2.1.2.2.1,(HS.out b hb).2.1.2.2.2.1,(fun e=>by cases e),(HS.out b hb).2.1.2.2.2.2.2⟩,jn (HS.out b hb).2.2 (rn ((HS.out b hb).2.1.2.2.2.2.1)),by have:=(HS.out b hb).1;exact⟨by omega,by omega⟩,fun o ho=>(heap_set _ _ _ _ (by have:=(HS.out b hb).1;show b≠w.heap.size;omega)).trans ((g2.block _ (ltS b hb) ((HS.out b hb).2.1.1).symm).trans ((g1.block _ (Jr (S3.out.2 b o (YC ho)))).trans (S3.out.2 b o (YC ho))))⟩) (fn:=Tryz.f50) (R:=fun e w9=>∃A,e=.returned (.tuple #[.agg (List.toArray A),.bool (c==0)])/\RA W0 S w M {x with ji:=x.ji++[b]} A w9) (te:=7) rfl (fun _ _ h=>h) rfl rfl rfl rfl rfl rfl rfl rfl rfl rfl rfl rfl rfl rfl rfl (by decide) (by rw[hsz];simp) ((hr 2 (by intro i _;show 25+i≠2;omega)).trans rfl) ((hr 4 (by intro i _;show 25+i≠4;omega)).trans rfl) ((hr 7 (by intro i _;show 25+i≠7;omega)).trans rfl) hdf (fun w8 A h=>⟨A,rfl,h⟩)
end
section
variable {W0:World} {x:jo} {T:TypeId} {tl:List Value} {M M':Mem} {bp:Nat} {h0 h1 h2 h3 hF hP:Value} {nF nP:Nat} {xb xj xc xo xf xp:List Value} {w w1 w2:World}
set_option maxHeartbeats 4000000 in
theorem jeh {rest:List (List UInt8)}{vf:Value}{S:Nat->Prop}(hS:PG W0 x T tl M bp h0 h1 h2 h3 hF hP nF nP xb xj xc xo xf xp w)(hSb:∀b,S b->b<w.heap.size/\Xa b h0 h1 h2 h3 hF hP/\∀o,M b o=none)(hr:Rep M jh (jQ ([106,111,105,110,116]::rest)) vf){j:yP}{c:Int}(h:yi ([106,111,105,110,116]::rest)=some (j,c))(hlen:x.jP.length<1048576):
 Calls Tryz.prog 50 #[.agg (YB x h0 h1 h2 h3).toArray,vf] w fun e w'=>∃A,e=.returned (.tuple #[.agg (List.toArray A),.bool (c==0)])/\RA W0 S w M {x with jP:=x.jP++[j]} A w':=by
 have HP:Hid (_):=hS.en
 have HS:Hid (_):=hSb
 clear hSb
 obtain⟨ad,cap,rfl,hm⟩:=YW hr
 obtain⟨blk,off,rfl,hm2⟩:=hm (by simp)
 have c0:((w.alloc (.cells (YB x h0 h1 h2 h3).toArray 31)).alloc (.cells #[Value.int .i64 0,Value.int .i64 0,Value.int .i64 0,Value.int .i64 0,Value.int .i64 0,Value.slice none 0 0,Value.slice none 0 0,Value.slice none 0 0,Value.slice none 0 0,Value.int .i64 0,Value.int .i64 0] 31)).cell? ⟨blk,off,none⟩=some (.string ⟨List.toArray [106,111,105,110,116]⟩):=HP.out.pg.o.iM _ _ _ (hm2 0 _ rfl)
 have hr0:Hid (Rep M jh _ _):=hr
 obtain⟨n,hn⟩:∃n,(([106,111,105,110,116]:List UInt8)::rest).length=n:=⟨_,rfl⟩
 rw[hn]at hr0⊢
 have hn0:(0:Int)<(n:Int):=by rw[<-hn];simp
 have kk:=MK h HP.out.pg.o.iM hr
 rw[hn]at kk
 have ek:=Tryz.call26
 obtain⟨iE,a1,a2,a3,a4⟩:=info_parts (P:=Tryz.prog) (e:=75) (z:=.agg je2.toArray) (size:=24) (bytes:=192) (by kernel_rfl)
 have HI:Hid (_/\_/\_/\_):=⟨a1,a2,a3,a4⟩
 clear a1 a2 a3 a4
 have ra:tSz Tryz.prog 75=some 24:=by kernel_rfl
 have HR:Hid (_):=ra
 clear hr hm hm2 hS hn ra h
 go_enter Tryz.func50,Tryz.ntmps50
 go_upto_region 13 with (first
  |(go_at_call 26;refine kk.mono ?_;rintro e w1 ⟨A,M1,rfl,hn,hA,hA1⟩
    have S1:Hid (_/\_/\_/\_/\_):=⟨HP.out.pg.call hn,(fun b o h=>(hn.1.block _ (Jr h)).trans h:∀b o,(Mh w (YB x h0 h1 h2 h3)).heap[b]? = some o->w1.heap[b]? = some o),hn,hA,hA1⟩
    clear hn hA hA1 kk c0)
  |(refine jA (cs:=A) (arr:=je2) rfl rfl rfl rfl rfl (by rw[<-S1.out.2.2.2.1.length];exact HR.out) (yy w1 _ _ rfl) (by rw[<-S1.out.2.2.2.1.length];exact Nat.le_refl 24) (S1.out.2.2.2.2) ?_
    intro w3 hz hg
    have S3:Hid (_/\_):=⟨S1.out.1.made (A:=A) (Z:=je2) (k:=24) (S1.out.2.2.2.1.length.symm) rfl hz hg,fun b o h=>jkG hg (S1.out.2.1 b o h)⟩
    clear hz hg))
 refine yO zJ 6 3 4 (fun i=>69+i) (fun i=>([.pointer (some ⟨w.heap.size,6,none⟩),h1,.agg (List.toArray A),undef,undef,.pointer (some ⟨w.heap.size,6,none⟩)]:List Value).getD i undef) (fun w'=>w'.heap[w.heap.size]? = some (.cells (YB x h0 h1 h2 h3++[]).toArray 31 (0,0))/\w'.heap[w1.heap.size]? = some (.cells (List.toArray A) 75 (0,0))) W0.heap.size 27 75 iE (.agg je2.toArray) 24 192 Tryz.underlying27 HI.out.1 HI.out.2.1 HI.out.2.2.1 HI.out.2.2.2 rfl (by decide) h1 x.jP.length xj A (S3.out.1.1.o.rows ⟨75,24,x.jP.length,h1,xj⟩ (by simp[jG])) (S1.out.2.2.2.1.length.symm) (S1.out.2.2.2.2) (by simp[maxLen];omega) (by omega) (S3.out.1.1.o.bel.size) rfl (zL rfl) (fun i i' _ _ h=>by omega) (by decide) (fun w1 w2 b1 b2=>(⟨(S3.out.1.1.o.base (r:=⟨75,24,x.jP.length,h1,xj⟩) (by simp[jG]) b1 b2).1,S3.out.1.2.base (r:=⟨75,24,x.jP.length,h1,xj⟩) (by simp[jG]) b1 b2⟩:_/\_)) ?_ ?_ ?_ ?_
 ·intro i o hi n1 n2 ho
  match i,hi,n1,n2 with
  |0,_,_,_=>
   cases ho
   exact⟨rfl,rfl,by simp,fun a w' hb hd hr=>jN (fo:=6) rfl (ev ((hr 2 (by intro i _;show 69+i≠2;omega)).trans rfl)) (by kernel_rfl)⟩
  |1,_,_,_=>
   cases ho
   exact⟨rfl,rfl,by simp,fun a w' hb hd hr=>jF rfl (ev (hd ⟨0,.data⟩ (by simp) rfl (by decide) (by decide))) (by kernel_rfl) (Jq hb.1 6 rfl)⟩
  |2,_,_,_=>
   cases ho
   exact⟨rfl,rfl,by simp,fun a w' hb hd hr=>vw rfl (ev ((hr 11 (by intro i _;show 69+i≠11;omega)).trans rfl)) (by kernel_rfl) (by rw[<-S1.out.2.2.2.1.length];exact HR.out) (hb.2)⟩
  |3,_,h,_=>exact absurd rfl h
  |4,_,_,h=>exact absurd rfl h
  |5,_,_,_=>
   cases ho
   exact⟨rfl,rfl,by simp,fun a w' hb hd hr=>jN (fo:=6) rfl (ev ((hr 2 (by intro i _;show 69+i≠2;omega)).trans rfl)) (by kernel_rfl)⟩
  |j+6,h,_,_=>exact absurd h (by omega)
 ·exact⟨_,_,rfl,rfl,rfl,by simp,rfl,fun a hd=>ev (hd ⟨2,.data⟩ (by simp) rfl (by decide) (by decide))⟩
 ·exact⟨_,_,rfl,rfl,rfl,by simp,rfl,⟨⟨3,.data⟩,by simp,rfl,rfl⟩,fun a hd=>ev (hd ⟨1,.data⟩ (by simp) rfl (by decide) (by decide))⟩
 ·refine⟨_,rfl,rfl,fun f h1 h2=>by
   have t5:f 5=true:=h1 ⟨5,.data⟩ (by simp) rfl
   have t4:f 4=true:=h1 ⟨4,.data⟩ (by simp) rfl
   have t0:f 0=true:=h1 ⟨0,.phase⟩ (by simp) rfl
   have t1:f 1=true:=h1 ⟨1,.phase⟩ (by simp) rfl
   have t2:f 2=true:=h1 ⟨2,.phase⟩ (by simp) rfl
   have t3:f 3=true:=h1 ⟨3,.phase⟩ (by simp) rfl
   intro i hi
   match i,hi with
   |0,_=>exact t0
   |1,_=>exact t1
   |2,_=>exact t2
   |3,_=>exact t3
   |4,_=>exact t4
   |5,_=>exact t5
   |j+6,h=>exact absurd h (by omega),?_⟩
  intro v6 w5 w6 a g1 g2 g3 g4 hsz hdf hv hA hr
  have hb:=(⟨(S3.out.1.1.o.base (r:=⟨75,24,x.jP.length,h1,xj⟩) (by simp[jG]) g1 g2).1,S3.out.1.2.base (r:=⟨75,24,x.jP.length,h1,xj⟩) (by simp[jG]) g1 g2⟩:_/\_)
  refine Kb rfl rfl (ev (hv 5 (by decide) (by decide) (by decide))) (ev hA) (Yd g3).1 (by kernel_rfl) (Jq hb.1 6 rfl) (kM hb.1 6) (Yd g3).2 ?_
  rename_i hK
  refine hK _ _ ?_
  have lt3:=Jr (S3.out.2 _ _ HP.out.b4)
  have lt4:w.heap.size+1<w5.heap.size:=Nat.lt_of_lt_of_le lt3 g1.size
  have ltS:∀b,S b->b<w5.heap.size:=fun b hb=>by have:=(HS.out b hb).1;omega
  have Z:=(S3.out.1.1.below g1).jis (S1.out.2.2.2.1.mono (zc _ _)) g3 g2 g4
  exact Z.finE (b4:=w.heap.size+1) ((heap_set _ _ _ _ (by show w.heap.size+1≠w.heap.size;omega)).trans ((g2.block _ lt4 (HP.out.off.2.1).symm).trans ((g1.block _ lt3).trans (S3.out.2 _ _ HP.out.b4)))) ⟨HP.out.off.1,KM (HP.out.off.2.1) g4 lt4,HP.out.off.2.2.1,HP.out.off.2.2.2.1,HP.out.off.2.2.2.2.1,HP.out.off.2.2.2.2.2⟩ (jn HP.out.m4 (nn S1.out.2.2.1 HP.out.m4 (by rw[yB];omega))) (by have:=HP.out.le;omega) (by omega) (Vj S1.out.2.2.1) (fun b hb=>⟨⟨(HS.out b hb).2.1.1,KM ((HS.out b hb).2.1.2.1) g4 (ltS b hb),(HS.out b hb).2.1.2.2.1,(HS.out b hb).2.1.2.2.2.1,(HS.out b hb).2.1.2.2.2.2.1,(HS.out b hb).2.1.2.2.2.2.2⟩,jn (HS.out b hb).2.2 (nn S1.out.2.2.1 (HS.out b hb).2.2 (by rw[yB];have:=(HS.out b hb).1;omega)),by have:=(HS.out b hb).1;exact⟨by omega,by omega⟩,fun o ho=>(heap_set _ _ _ _ (by have:=(HS.out b hb).1;show b≠w.heap.size;omega)).trans ((g2.block _ (ltS b hb) ((HS.out b hb).2.1.2.1).symm).trans ((g1.block _ (Jr (S3.out.2 b o (YC ho)))).trans (S3.out.2 b o (YC ho))))⟩) (fn:=Tryz.f50) (R:=fun e w9=>∃A,e=.returned (.tuple #[.agg (List.toArray A),.bool (c==0)])/\RA W0 S w M {x with jP:=x.jP++[j]} A w9) (te:=12) rfl (fun _ _ h=>h) rfl rfl rfl rfl rfl rfl rfl rfl rfl rfl rfl rfl rfl rfl rfl (by decide) (by rw[hsz];simp) ((hr 2 (by intro i _;show 69+i≠2;omega)).trans rfl) ((hr 4 (by intro i _;show 69+i≠4;omega)).trans rfl) ((hr 12 (by intro i _;show 69+i≠12;omega)).trans rfl) hdf (fun w8 A h=>⟨A,rfl,h⟩)
end
section
variable {W0:World} {x:jo} {T:TypeId} {tl:List Value} {M M':Mem} {bp:Nat} {h0 h1 h2 h3 hF hP:Value} {nF nP:Nat} {xb xj xc xo xf xp:List Value} {w w1 w2:World}
set_option maxHeartbeats 4000000 in
theorem ja2 {rest:List (List UInt8)}{vf:Value}{S:Nat->Prop}(hS:PG W0 x T tl M bp h0 h1 h2 h3 hF hP nF nP xb xj xc xo xf xp w)(hSb:∀b,S b->b<w.heap.size/\Xa b h0 h1 h2 h3 hF hP/\∀o,M b o=none)(hr:Rep M jh (jQ ([99,111,110,116,97,99,116]::rest)) vf){l:List Int}(h:jB ([99,111,110,116,97,99,116]::rest) [99,111,110,116,97,99,116] 6 false []=some (l,0))(hl:l.length=6)(hlen:x.jc.length<1048576):
 Calls Tryz.prog 97 #[.agg (YB x h0 h1 h2 h3).toArray,vf] w fun e w'=>∃A,e=.returned (.tuple #[.agg (List.toArray A),.bool (true)])/\RA W0 S w M {x with jc:=x.jc++[Qv l]} A w':=by
 have HP:Hid (_):=hS.en
 have HS:Hid (_):=hSb
 clear hSb
 obtain⟨ad,cap,rfl,hm⟩:=YW hr
 obtain⟨blk,off,rfl,hm2⟩:=hm (by simp)
 have c0:((w.alloc (.cells (YB x h0 h1 h2 h3).toArray 31)).alloc (.cells #[Value.int .i64 0,Value.int .i64 0,Value.int .i64 0,Value.int .i64 0,Value.int .i64 0,Value.slice none 0 0,Value.slice none 0 0,Value.slice none 0 0,Value.slice none 0 0,Value.int .i64 0,Value.int .i64 0] 31)).cell? ⟨blk,off,none⟩=some (.string ⟨List.toArray [99,111,110,116,97,99,116]⟩):=HP.out.pg.o.iM _ _ _ (hm2 0 _ rfl)
 have HM:Hid (_):=hm2
 have hr0:Hid (Rep M jh _ _):=hr
 obtain⟨n,hn⟩:∃n,(([99,111,110,116,97,99,116]:List UInt8)::rest).length=n:=⟨_,rfl⟩
 rw[hn]at hr0⊢
 have hn0:(0:Int)<(n:Int):=by rw[<-hn];simp
 obtain⟨iE,a1,a2,a3,a4⟩:=info_parts (P:=Tryz.prog) (e:=88) (z:=.agg conZ.toArray) (size:=7) (bytes:=72) (by kernel_rfl)
 have HI:Hid (_/\_/\_/\_):=⟨a1,a2,a3,a4⟩
 clear a1 a2 a3 a4
 obtain⟨a0,a1,a2,a3,a4,a5,rfl⟩:=len6 hl
 have kk:=WQ h (k:=6) rfl (by decide) HP.out.pg.o.iM hr0.out
 have ek:=Tryz.call53
 clear hr hm hm2 hS hn h hl
 go_enter Tryz.func97,Tryz.ntmps97
 go_upto_region 9 with (first
  |(go_at_call 53;refine kk.mono ?_;rintro e w1 ⟨ib,io,ic,M1,rfl,hn,hv,hu⟩
    have S1:Hid (_/\_/\_):=⟨HP.out.pg.call hn,(fun b o h=>(hn.1.block _ (Jr h)).trans h:∀b o,(Mh w (YB x h0 h1 h2 h3)).heap[b]? = some o->w1.heap[b]? = some o),hn⟩
    have HV:Hid (_):=hv
    have HU:Hid (_):=hu
    have c1:w1.cell? ⟨blk,off,none⟩=some (.string ⟨List.toArray [99,111,110,116,97,99,116]⟩):=hn.2.1 _ _ _ (hn.2.2.1 _ _ _ (HM.out 0 _ rfl))
    clear hn hv hu kk c0))
 refine yO zJ 22 19 20 (fun i=>32+i) (fun i=>([.pointer (some ⟨w.heap.size,7,none⟩),h2,.slice (some ⟨ib,io,none⟩) 6 ic,.pointer (some ⟨ib,io+0,none⟩),.int .i64 a0,.slice (some ⟨ib,io,none⟩) 6 ic,.pointer (some ⟨ib,io+1,none⟩),.int .i64 a1,.slice (some ⟨ib,io,none⟩) 6 ic,.pointer (some ⟨ib,io+2,none⟩),.int .i64 a2,.slice (some ⟨ib,io,none⟩) 6 ic,.pointer (some ⟨ib,io+3,none⟩),.int .i64 a3,.agg (List.toArray [.int .i64 a0,.int .i64 a1,.int .i64 a2,.int .i64 a3]),.slice (some ⟨ib,io,none⟩) 6 ic,.agg (List.toArray [.int .i64 a4,.int .i64 a5]),.agg (List.toArray [.int .i64 a4,.int .i64 a5,.slice none 0 0]),.agg (List.toArray [.int .i64 a0,.int .i64 a1,.int .i64 a2,.int .i64 a3,.int .i64 a4,.int .i64 a5,.slice none 0 0]),undef,undef,.pointer (some ⟨w.heap.size,7,none⟩)]:List Value).getD i undef) (fun w'=>w'.heap[w.heap.size]? = some (.cells (YB x h0 h1 h2 h3++[]).toArray 31 (0,0))/\Imm (zr M M1) w') W0.heap.size 28 88 iE (.agg conZ.toArray) 7 72 Tryz.underlying28 HI.out.1 HI.out.2.1 HI.out.2.2.1 HI.out.2.2.2 rfl (by decide) h2 x.jc.length xc (je5 (Qv [a0,a1,a2,a3,a4,a5]) (.slice none 0 0)) (S1.out.1.o.rows ⟨88,7,x.jc.length,h2,xc⟩ (by simp[jG])) (rfl) (jdN (Qv [a0,a1,a2,a3,a4,a5]) rfl) (by simp[maxLen];omega) (by omega) (S1.out.1.o.bel.size) rfl (zL rfl) (fun i i' _ _ h=>by omega) (by decide) (fun w1 w2 b1 b2=>(S1.out.1.o.base (r:=⟨88,7,x.jc.length,h2,xc⟩) (by simp[jG]) b1 b2)) ?_ ?_ ?_ ?_
 ·intro i o hi n1 n2 ho
  match i,hi,n1,n2 with
  |0,_,_,_=>
   cases ho
   exact⟨rfl,rfl,by simp,fun a w' hb hd hr=>jN (fo:=7) rfl (ev ((hr 2 (by intro i _;show 32+i≠2;omega)).trans rfl)) (by kernel_rfl)⟩
  |1,_,_,_=>
   cases ho
   exact⟨rfl,rfl,by simp,fun a w' hb hd hr=>jF rfl (ev (hd ⟨0,.data⟩ (by simp) rfl (by decide) (by decide))) (by kernel_rfl) (Jq hb.1 7 rfl)⟩
  |2,_,_,_=>
   cases ho
   exact⟨rfl,rfl,by simp,fun a w' hb hd hr=>quiet_move rfl (ev ((hr 7 (by intro i _;show 32+i≠7;omega)).trans rfl))⟩
  |3,_,_,_=>
   cases ho
   exact⟨rfl,rfl,by simp,fun a w' hb hd hr=>Jb (i:=0) (sz:=1) rfl (ev (hd ⟨2,.data⟩ (by simp) rfl (by decide) (by decide))) (by exact rfl) (by kernel_rfl) (by decide) (by decide)⟩
  |4,_,_,_=>
   cases ho
   exact⟨rfl,rfl,by simp,fun a w' hb hd hr=>jF rfl (ev (hd ⟨3,.data⟩ (by simp) rfl (by decide) (by decide))) (by kernel_rfl) (hb.2 _ _ _ (HV.out 0 _ rfl))⟩
  |5,_,_,_=>
   cases ho
   exact⟨rfl,rfl,by simp,fun a w' hb hd hr=>quiet_move rfl (ev ((hr 7 (by intro i _;show 32+i≠7;omega)).trans rfl))⟩
  |6,_,_,_=>
   cases ho
   exact⟨rfl,rfl,by simp,fun a w' hb hd hr=>Jb (i:=1) (sz:=1) rfl (ev (hd ⟨5,.data⟩ (by simp) rfl (by decide) (by decide))) (by exact rfl) (by kernel_rfl) (by decide) (by decide)⟩
  |7,_,_,_=>
   cases ho
   exact⟨rfl,rfl,by simp,fun a w' hb hd hr=>jF rfl (ev (hd ⟨6,.data⟩ (by simp) rfl (by decide) (by decide))) (by kernel_rfl) (hb.2 _ _ _ (HV.out 1 _ rfl))⟩
  |8,_,_,_=>
   cases ho
   exact⟨rfl,rfl,by simp,fun a w' hb hd hr=>quiet_move rfl (ev ((hr 7 (by intro i _;show 32+i≠7;omega)).trans rfl))⟩
  |9,_,_,_=>
   cases ho
   exact⟨rfl,rfl,by simp,fun a w' hb hd hr=>Jb (i:=2) (sz:=1) rfl (ev (hd ⟨8,.data⟩ (by simp) rfl (by decide) (by decide))) (by exact rfl) (by kernel_rfl) (by decide) (by decide)⟩
  |10,_,_,_=>
   cases ho
   exact⟨rfl,rfl,by simp,fun a w' hb hd hr=>jF rfl (ev (hd ⟨9,.data⟩ (by simp) rfl (by decide) (by decide))) (by kernel_rfl) (hb.2 _ _ _ (HV.out 2 _ rfl))⟩
  |11,_,_,_=>
   cases ho
   exact⟨rfl,rfl,by simp,fun a w' hb hd hr=>quiet_move rfl (ev ((hr 7 (by intro i _;show 32+i≠7;omega)).trans rfl))⟩
  |12,_,_,_=>
   cases ho
   exact⟨rfl,rfl,by simp,fun a w' hb hd hr=>Jb (i:=3) (sz:=1) rfl (ev (hd ⟨11,.data⟩ (by simp) rfl (by decide) (by decide))) (by exact rfl) (by kernel_rfl) (by decide) (by decide)⟩
  |13,_,_,_=>
   cases ho
   exact⟨rfl,rfl,by simp,fun a w' hb hd hr=>jF rfl (ev (hd ⟨12,.data⟩ (by simp) rfl (by decide) (by decide))) (by kernel_rfl) (hb.2 _ _ _ (HV.out 3 _ rfl))⟩
  |14,_,_,_=>
   cases ho
   exact⟨rfl,rfl,by simp,fun a w' hb hd hr=>qb (parts:=[(0,.int .i64 a0),(1,.int .i64 a1),(2,.int .i64 a2),(3,.int .i64 a3)]) rfl (by simp;exact⟨ev (hd ⟨4,.data⟩ (by simp) rfl (by decide) (by decide)),ev (hd ⟨7,.data⟩ (by simp) rfl (by decide) (by decide)),ev (hd ⟨10,.data⟩ (by simp) rfl (by decide) (by decide)),ev (hd ⟨13,.data⟩ (by simp) rfl (by decide) (by decide))⟩) (by kernel_rfl)⟩
  |15,_,_,_=>
   cases ho
   exact⟨rfl,rfl,by simp,fun a w' hb hd hr=>quiet_move rfl (ev ((hr 7 (by intro i _;show 32+i≠7;omega)).trans rfl))⟩
  |16,_,_,_=>
   cases ho
   exact⟨rfl,rfl,by simp,fun a w' hb hd hr=>pQ (l:=[a0,a1,a2,a3,a4,a5]) (k:=4) (r:=⟨a4,a5⟩) (by kernel_rfl) rfl (ev (hd ⟨15,.data⟩ (by simp) rfl (by decide) (by decide))) (hb.2) HU.out⟩
  |17,_,_,_=>
   cases ho
   exact⟨rfl,rfl,by simp,fun a w' hb hd hr=>qb (parts:=[(0,.agg (List.toArray [.int .i64 a4,.int .i64 a5]))]) rfl (by simp;exact ev (hd ⟨16,.data⟩ (by simp) rfl (by decide) (by decide))) (by kernel_rfl)⟩
  |18,_,_,_=>
   cases ho
   exact⟨rfl,rfl,by simp,fun a w' hb hd hr=>qb (parts:=[(0,.agg (List.toArray [.int .i64 a0,.int .i64 a1,.int .i64 a2,.int .i64 a3])),(1,.agg (List.toArray [.int .i64 a4,.int .i64 a5,.slice none 0 0]))]) rfl (by simp;exact⟨ev (hd ⟨14,.data⟩ (by simp) rfl (by decide) (by decide)),ev (hd ⟨17,.data⟩ (by simp) rfl (by decide) (by decide))⟩) (by kernel_rfl)⟩
  |19,_,h,_=>exact absurd rfl h
  |20,_,_,h=>exact absurd rfl h
  |21,_,_,_=>
   cases ho
   exact⟨rfl,rfl,by simp,fun a w' hb hd hr=>jN (fo:=7) rfl (ev ((hr 2 (by intro i _;show 32+i≠2;omega)).trans rfl)) (by kernel_rfl)⟩
  |j+22,h,_,_=>exact absurd h (by omega)
 ·exact⟨_,_,rfl,rfl,rfl,by simp,rfl,fun a hd=>ev (hd ⟨18,.data⟩ (by simp) rfl (by decide) (by decide))⟩
 ·exact⟨_,_,rfl,rfl,rfl,by simp,rfl,⟨⟨19,.data⟩,by simp,rfl,rfl⟩,fun a hd=>ev (hd ⟨1,.data⟩ (by simp) rfl (by decide) (by decide))⟩
 ·refine⟨_,rfl,rfl,fun f h1 h2=>by
   have t21:f 21=true:=h1 ⟨21,.data⟩ (by simp) rfl
   have t20:f 20=true:=h1 ⟨20,.data⟩ (by simp) rfl
   have t0:f 0=true:=h1 ⟨0,.phase⟩ (by simp) rfl
   have t1:f 1=true:=h1 ⟨1,.phase⟩ (by simp) rfl
   have t2:f 2=true:=h1 ⟨2,.phase⟩ (by simp) rfl
   have t3:f 3=true:=h1 ⟨3,.phase⟩ (by simp) rfl
   have t4:f 4=true:=h1 ⟨4,.phase⟩ (by simp) rfl
   have t5:f 5=true:=h1 ⟨5,.phase⟩ (by simp) rfl
   have t6:f 6=true:=h1 ⟨6,.phase⟩ (by simp) rfl
   have t7:f 7=true:=h1 ⟨7,.phase⟩ (by simp) rfl
   have t8:f 8=true:=h1 ⟨8,.phase⟩ (by simp) rfl
   have t9:f 9=true:=h1 ⟨9,.phase⟩ (by simp) rfl
   have t10:f 10=true:=h1 ⟨10,.phase⟩ (by simp) rfl
   have t11:f 11=true:=h1 ⟨11,.phase⟩ (by simp) rfl
   have t12:f 12=true:=h1 ⟨12,.phase⟩ (by simp) rfl
   have t13:f 13=true:=h1 ⟨13,.phase⟩ (by simp) rfl
   have t14:f 14=true:=h1 ⟨14,.phase⟩ (by simp) rfl
   have t15:f 15=true:=h1 ⟨15,.phase⟩ (by simp) rfl
   have t16:f 16=true:=h1 ⟨16,.phase⟩ (by simp) rfl
   have t17:f 17=true:=h1 ⟨17,.phase⟩ (by simp) rfl
   have t18:f 18=true:=h1 ⟨18,.phase⟩ (by simp) rfl
   have t19:f 19=true:=h1 ⟨19,.phase⟩ (by simp) rfl
   intro i hi
   match i,hi with
   |0,_=>exact t0
   |1,_=>exact t1
   |2,_=>exact t2
   |3,_=>exact t3
   |4,_=>exact t4
   |5,_=>exact t5
   |6,_=>exact t6
   |7,_=>exact t7
   |8,_=>exact t8
   |9,_=>exact t9
   |10,_=>exact t10
   |11,_=>exact t11
   |12,_=>exact t12
   |13,_=>exact t13
   |14,_=>exact t14
   |15,_=>exact t15
   |16,_=>exact t16
   |17,_=>exact t17
   |18,_=>exact t18
   |19,_=>exact t19
   |20,_=>exact t20
   |21,_=>exact t21
   |j+22,h=>exact absurd h (by omega),?_⟩
  intro v6 w5 w6 a g1 g2 g3 g4 hsz hdf hv hA hr
  have hb:=(S1.out.1.o.base (r:=⟨88,7,x.jc.length,h2,xc⟩) (by simp[jG]) g1 g2)
  refine Kb rfl rfl (ev (hv 21 (by decide) (by decide) (by decide))) (ev hA) (Yd g3).1 (by kernel_rfl) (Jq hb.1 7 rfl) (kM hb.1 7) (Yd g3).2 ?_
  rename_i hK
  refine hK _ _ ?_
  have lt3:=Jr (S1.out.2.1 _ _ HP.out.b4)
  have lt4:w.heap.size+1<w5.heap.size:=Nat.lt_of_lt_of_le lt3 g1.size
  have ltS:∀b,S b->b<w5.heap.size:=fun b hb=>by have:=(HS.out b hb).1;omega
  have Z:=(S1.out.1.below g1).jag (b:=Qv [a0,a1,a2,a3,a4,a5]) rfl g3 g2 g4
  exact Z.finT (b4:=w.heap.size+1) ((heap_set _ _ _ _ (by show w.heap.size+1≠w.heap.size;omega)).trans ((g2.block _ lt4 (HP.out.off.2.2.1).symm).trans ((g1.block _ lt3).trans (S1.out.2.1 _ _ HP.out.b4)))) ⟨HP.out.off.1,HP.out.off.2.1,KM (HP.out.off.2.2.1) g4 lt4,HP.out.off.2.2.2.1,HP.out.off.2.2.2.2.1,(fun e=>by cases e)⟩ (jn (jn HP.out.m4 (nn S1.out.2.2 HP.out.m4 (by rw[yB];omega))) (rn (HP.out.off.2.2.2.2.2))) (by have:=HP.out.le;omega) (by omega) (fun b o u e=>Wu (S1.out.1.below g1).o.iM KT b o u (Vj S1.out.2.2 b o u e)) (fun b hb=>⟨⟨(HS.out b hb).2.1.1,(HS.out b hb).2.1.2.1,KM ((HS.out b hb).2.1.2.2.1) g4 (ltS b hb),(HS.out b hb).2.1.2.2.2.1,(HS.out b hb).2.1.2.2.2.2.1,(fun e=>by cases e)⟩,jn (jn (HS.out b hb).2.2 (nn S1.out.2.2 (HS.out b hb).2.2 (by rw[yB];have:=(HS.out b hb).1;omega))) (rn ((HS.out b hb).2.1.2.2.2.2.2)),by have:=(HS.out b hb).1;exact⟨by omega,by omega⟩,fun o ho=>(heap_set _ _ _ _ (by have:=(HS.out b hb).1;show b≠w.heap.size;omega)).trans ((g2.block _ (ltS b hb) ((HS.out b hb).2.1.2.2.1).symm).trans ((g1.block _ (Jr (S1.out.2.1 b o (YC ho)))).trans (S1.out.2.1 b o (YC ho))))⟩) (fn:=Tryz.f97) (R:=fun e w9=>∃A,e=.returned (.tuple #[.agg (List.toArray A),.bool true])/\RA W0 S w M {x with jc:=x.jc++[Qv [a0,a1,a2,a3,a4,a5]]} A w9) rfl (fun _ _ h=>h) rfl rfl rfl rfl rfl rfl rfl rfl rfl (by decide) (by rw[hsz];simp) ((hr 2 (by intro i _;show 32+i≠2;omega)).trans rfl) ((hr 4 (by intro i _;show 32+i≠4;omega)).trans rfl) hdf (fun w8 A h=>⟨A,rfl,h⟩)
end
section
variable {W0:World} {x:jo} {T:TypeId} {tl:List Value} {M M':Mem} {bp:Nat} {h0 h1 h2 h3 hF hP:Value} {nF nP:Nat} {xb xj xc xo xf xp:List Value} {w w1 w2:World}
set_option maxHeartbeats 4000000 in
theorem ja0 {rest:List (List UInt8)}{vf:Value}{S:Nat->Prop}(hS:PG W0 x T tl M bp h0 h1 h2 h3 hF hP nF nP xb xj xc xo xf xp w)(hSb:∀b,S b->b<w.heap.size/\Xa b h0 h1 h2 h3 hF hP/\∀o,M b o=none)(hr:Rep M jh (jQ ([111,118,101,114,108,97,112]::rest)) vf){l:List Int}(h:jB ([111,118,101,114,108,97,112]::rest) [111,118,101,114,108,97,112] 4 false []=some (l,0))(hl:l.length=4)(hlen:x.Overlaps.length<1048576):
 Calls Tryz.prog 97 #[.agg (YB x h0 h1 h2 h3).toArray,vf] w fun e w'=>∃A,e=.returned (.tuple #[.agg (List.toArray A),.bool (true)])/\RA W0 S w M {x with Overlaps:=x.Overlaps++[keyOf l]} A w':=by
 have HP:Hid (_):=hS.en
 have HS:Hid (_):=hSb
 clear hSb
 obtain⟨ad,cap,rfl,hm⟩:=YW hr
 obtain⟨blk,off,rfl,hm2⟩:=hm (by simp)
 have c0:((w.alloc (.cells (YB x h0 h1 h2 h3).toArray 31)).alloc (.cells #[Value.int .i64 0,Value.int .i64 0,Value.int .i64 0,Value.int .i64 0,Value.int .i64 0,Value.slice none 0 0,Value.slice none 0 0,Value.slice none 0 0,Value.slice none 0 0,Value.int .i64 0,Value.int .i64 0] 31)).cell? ⟨blk,off,none⟩=some (.string ⟨List.toArray [111,118,101,114,108,97,112]⟩):=HP.out.pg.o.iM _ _ _ (hm2 0 _ rfl)
 have HM:Hid (_):=hm2
 have hr0:Hid (Rep M jh _ _):=hr
 obtain⟨n,hn⟩:∃n,(([111,118,101,114,108,97,112]:List UInt8)::rest).length=n:=⟨_,rfl⟩
 rw[hn]at hr0⊢
 have hn0:(0:Int)<(n:Int):=by rw[<-hn];simp
 obtain⟨iE,a1,a2,a3,a4⟩:=info_parts (P:=Tryz.prog) (e:=86) (z:=.agg i4Z.toArray) (size:=4) (bytes:=32) (by kernel_rfl)
 have HI:Hid (_/\_/\_/\_):=⟨a1,a2,a3,a4⟩
 clear a1 a2 a3 a4
 obtain⟨a0,a1,a2,a3,rfl⟩:=len4 hl
 have kk:=WQ h (k:=4) rfl (by decide) HP.out.pg.o.iM hr0.out
 have ek:=Tryz.call53
 clear hr hm hm2 hS hn h hl
 go_enter Tryz.func97,Tryz.ntmps97
 go_upto_region 15 with (first
  |(go_at_call 53;refine kk.mono ?_;rintro e w1 ⟨ib,io,ic,M1,rfl,hn,hv,hu⟩
    have S1:Hid (_/\_/\_):=⟨HP.out.pg.call hn,(fun b o h=>(hn.1.block _ (Jr h)).trans h:∀b o,(Mh w (YB x h0 h1 h2 h3)).heap[b]? = some o->w1.heap[b]? = some o),hn⟩
    have HV:Hid (_):=hv
    have HU:Hid (_):=hu
    have c1:w1.cell? ⟨blk,off,none⟩=some (.string ⟨List.toArray [111,118,101,114,108,97,112]⟩):=hn.2.1 _ _ _ (hn.2.2.1 _ _ _ (HM.out 0 _ rfl))
    clear hn hv hu kk c0))
 refine yO zJ 18 15 16 (fun i=>93+i) (fun i=>([.pointer (some ⟨w.heap.size,8,none⟩),h3,.slice (some ⟨ib,io,none⟩) 4 ic,.pointer (some ⟨ib,io+0,none⟩),.int .i64 a0,.slice (some ⟨ib,io,none⟩) 4 ic,.pointer (some ⟨ib,io+1,none⟩),.int .i64 a1,.slice (some ⟨ib,io,none⟩) 4 ic,.pointer (some ⟨ib,io+2,none⟩),.int .i64 a2,.slice (some ⟨ib,io,none⟩) 4 ic,.pointer (some ⟨ib,io+3,none⟩),.int .i64 a3,.agg (List.toArray [.int .i64 a0,.int .i64 a1,.int .i64 a2,.int .i64 a3]),undef,undef,.pointer (some ⟨w.heap.size,8,none⟩)]:List Value).getD i undef) (fun w'=>w'.heap[w.heap.size]? = some (.cells (YB x h0 h1 h2 h3++[]).toArray 31 (0,0))/\Imm (zr M M1) w') W0.heap.size 29 86 iE (.agg i4Z.toArray) 4 32 Tryz.underlying29 HI.out.1 HI.out.2.1 HI.out.2.2.1 HI.out.2.2.2 rfl (by decide) h3 x.Overlaps.length xo [Value.int .i64 a0,Value.int .i64 a1,Value.int .i64 a2,Value.int .i64 a3] (S1.out.1.o.rows ⟨86,4,x.Overlaps.length,h3,xo⟩ (by simp[jG])) (rfl) (vV [a0,a1,a2,a3]) (by simp[maxLen];omega) (by omega) (S1.out.1.o.bel.size) rfl (zL rfl) (fun i i' _ _ h=>by omega) (by decide) (fun w1 w2 b1 b2=>(S1.out.1.o.base (r:=⟨86,4,x.Overlaps.length,h3,xo⟩) (by simp[jG]) b1 b2)) ?_ ?_ ?_ ?_
 ·intro i o hi n1 n2 ho
  match i,hi,n1,n2 with
  |0,_,_,_=>
   cases ho
   exact⟨rfl,rfl,by simp,fun a w' hb hd hr=>jN (fo:=8) rfl (ev ((hr 2 (by intro i _;show 93+i≠2;omega)).trans rfl)) (by kernel_rfl)⟩
  |1,_,_,_=>
   cases ho
   exact⟨rfl,rfl,by simp,fun a w' hb hd hr=>jF rfl (ev (hd ⟨0,.data⟩ (by simp) rfl (by decide) (by decide))) (by kernel_rfl) (Jq hb.1 8 rfl)⟩
  |2,_,_,_=>
   cases ho
   exact⟨rfl,rfl,by simp,fun a w' hb hd hr=>quiet_move rfl (ev ((hr 7 (by intro i _;show 93+i≠7;omega)).trans rfl))⟩
  |3,_,_,_=>
   cases ho
   exact⟨rfl,rfl,by simp,fun a w' hb hd hr=>Jb (i:=0) (sz:=1) rfl (ev (hd ⟨2,.data⟩ (by simp) rfl (by decide) (by decide))) (by exact rfl) (by kernel_rfl) (by decide) (by decide)⟩
  |4,_,_,_=>
   cases ho
   exact⟨rfl,rfl,by simp,fun a w' hb hd hr=>jF rfl (ev (hd ⟨3,.data⟩ (by simp) rfl (by decide) (by decide))) (by kernel_rfl) (hb.2 _ _ _ (HV.out 0 _ rfl))⟩
  |5,_,_,_=>
   cases ho
   exact⟨rfl,rfl,by simp,fun a w' hb hd hr=>quiet_move rfl (ev ((hr 7 (by intro i _;show 93+i≠7;omega)).trans rfl))⟩
  |6,_,_,_=>
   cases ho
   exact⟨rfl,rfl,by simp,fun a w' hb hd hr=>Jb (i:=1) (sz:=1) rfl (ev (hd ⟨5,.data⟩ (by simp) rfl (by decide) (by decide))) (by exact rfl) (by kernel_rfl) (by decide) (by decide)⟩
  |7,_,_,_=>
   cases ho
   exact⟨rfl,rfl,by simp,fun a w' hb hd hr=>jF rfl (ev (hd ⟨6,.data⟩ (by simp) rfl (by decide) (by decide))) (by kernel_rfl) (hb.2 _ _ _ (HV.out 1 _ rfl))⟩
  |8,_,_,_=>
   cases ho
   exact⟨rfl,rfl,by simp,fun a w' hb hd hr=>quiet_move rfl (ev ((hr 7 (by intro i _;show 93+i≠7;omega)).trans rfl))⟩
  |9,_,_,_=>
   cases ho
   exact⟨rfl,rfl,by simp,fun a w' hb hd hr=>Jb (i:=2) (sz:=1) rfl (ev (hd ⟨8,.data⟩ (by simp) rfl (by decide) (by decide))) (by exact rfl) (by kernel_rfl) (by decide) (by decide)⟩
  |10,_,_,_=>
   cases ho
   exact⟨rfl,rfl,by simp,fun a w' hb hd hr=>jF rfl (ev (hd ⟨9,.data⟩ (by simp) rfl (by decide) (by decide))) (by kernel_rfl) (hb.2 _ _ _ (HV.out 2 _ rfl))⟩
  |11,_,_,_=>
   cases ho
   exact⟨rfl,rfl,by simp,fun a w' hb hd hr=>quiet_move rfl (ev ((hr 7 (by intro i _;show 93+i≠7;omega)).trans rfl))⟩
  |12,_,_,_=>
   cases ho
   exact⟨rfl,rfl,by simp,fun a w' hb hd hr=>Jb (i:=3) (sz:=1) rfl (ev (hd ⟨11,.data⟩ (by simp) rfl (by decide) (by decide))) (by exact rfl) (by kernel_rfl) (by decide) (by decide)⟩
  |13,_,_,_=>
   cases ho
   exact⟨rfl,rfl,by simp,fun a w' hb hd hr=>jF rfl (ev (hd ⟨12,.data⟩ (by simp) rfl (by decide) (by decide))) (by kernel_rfl) (hb.2 _ _ _ (HV.out 3 _ rfl))⟩
  |14,_,_,_=>
   cases ho
   exact⟨rfl,rfl,by simp,fun a w' hb hd hr=>qb (parts:=[(0,.int .i64 a0),(1,.int .i64 a1),(2,.int .i64 a2),(3,.int .i64 a3)]) rfl (by simp;exact⟨ev (hd ⟨4,.data⟩ (by simp) rfl (by decide) (by decide)),ev (hd ⟨7,.data⟩ (by simp) rfl (by decide) (by decide)),ev (hd ⟨10,.data⟩ (by simp) rfl (by decide) (by decide)),ev (hd ⟨13,.data⟩ (by simp) rfl (by decide) (by decide))⟩) (by kernel_rfl)⟩
  |15,_,h,_=>exact absurd rfl h
  |16,_,_,h=>exact absurd rfl h
  |17,_,_,_=>
   cases ho
   exact⟨rfl,rfl,by simp,fun a w' hb hd hr=>jN (fo:=8) rfl (ev ((hr 2 (by intro i _;show 93+i≠2;omega)).trans rfl)) (by kernel_rfl)⟩
  |j+18,h,_,_=>exact absurd h (by omega)
 ·exact⟨_,_,rfl,rfl,rfl,by simp,rfl,fun a hd=>ev (hd ⟨14,.data⟩ (by simp) rfl (by decide) (by decide))⟩
 ·exact⟨_,_,rfl,rfl,rfl,by simp,rfl,⟨⟨15,.data⟩,by simp,rfl,rfl⟩,fun a hd=>ev (hd ⟨1,.data⟩ (by simp) rfl (by decide) (by decide))⟩
 ·refine⟨_,rfl,rfl,fun f h1 h2=>by
   have t17:f 17=true:=h1 ⟨17,.data⟩ (by simp) rfl
   have t16:f 16=true:=h1 ⟨16,.data⟩ (by simp) rfl
   have t0:f 0=true:=h1 ⟨0,.phase⟩ (by simp) rfl
   have t1:f 1=true:=h1 ⟨1,.phase⟩ (by simp) rfl
   have t2:f 2=true:=h1 ⟨2,.phase⟩ (by simp) rfl
   have t3:f 3=true:=h1 ⟨3,.phase⟩ (by simp) rfl
   have t4:f 4=true:=h1 ⟨4,.phase⟩ (by simp) rfl
   have t5:f 5=true:=h1 ⟨5,.phase⟩ (by simp) rfl
   have t6:f 6=true:=h1 ⟨6,.phase⟩ (by simp) rfl
   have t7:f 7=true:=h1 ⟨7,.phase⟩ (by simp) rfl
   have t8:f 8=true:=h1 ⟨8,.phase⟩ (by simp) rfl
   have t9:f 9=true:=h1 ⟨9,.phase⟩ (by simp) rfl
   have t10:f 10=true:=h1 ⟨10,.phase⟩ (by simp) rfl
   have t11:f 11=true:=h1 ⟨11,.phase⟩ (by simp) rfl
   have t12:f 12=true:=h1 ⟨12,.phase⟩ (by simp) rfl
   have t13:f 13=true:=h1 ⟨13,.phase⟩ (by simp) rfl
   have t14:f 14=true:=h1 ⟨14,.phase⟩ (by simp) rfl
   have t15:f 15=true:=h1 ⟨15,.phase⟩ (by simp) rfl
   intro i hi
   match i,hi with
   |0,_=>exact t0
   |1,_=>exact t1
   |2,_=>exact t2
   |3,_=>exact t3
   |4,_=>exact t4
   |5,_=>exact t5
   |6,_=>exact t6
   |7,_=>exact t7
   |8,_=>exact t8
   |9,_=>exact t9
   |10,_=>exact t10
   |11,_=>exact t11
   |12,_=>exact t12
   |13,_=>exact t13
   |14,_=>exact t14
   |15,_=>exact t15
   |16,_=>exact t16
   |17,_=>exact t17
   |j+18,h=>exact absurd h (by omega),?_⟩
  intro v6 w5 w6 a g1 g2 g3 g4 hsz hdf hv hA hr
  have hb:=(S1.out.1.o.base (r:=⟨86,4,x.Overlaps.length,h3,xo⟩) (by simp[jG]) g1 g2)
  refine Kb rfl rfl (ev (hv 17 (by decide) (by decide) (by decide))) (ev hA) (Yd g3).1 (by kernel_rfl) (Jq hb.1 8 rfl) (kM hb.1 8) (Yd g3).2 ?_
  rename_i hK
  refine hK _ _ ?_
  have lt3:=Jr (S1.out.2.1 _ _ HP.out.b4)
  have lt4:w.heap.size+1<w5.heap.size:=Nat.lt_of_lt_of_le lt3 g1.size
  have ltS:∀b,S b->b<w5.heap.size:=fun b hb=>by have:=(HS.out b hb).1;omega
  have Z:=(S1.out.1.below g1).key (j:=keyOf [a0,a1,a2,a3]) (jfE [Value.int .i64 a0,Value.int .i64 a1,Value.int .i64 a2,Value.int .i64 a3]) g3 g2 g4
  exact Z.finT (b4:=w.heap.size+1) ((heap_set _ _ _ _ (by show w.heap.size+1≠w.heap.size;omega)).trans ((g2.block _ lt4 (HP.out.off.2.2.2.1).symm).trans ((g1.block _ lt3).trans (S1.out.2.1 _ _ HP.out.b4)))) ⟨HP.out.off.1,HP.out.off.2.1,HP.out.off.2.2.1,KM (HP.out.off.2.2.2.1) g4 lt4,HP.out.off.2.2.2.2.1,HP.out.off.2.2.2.2.2⟩ (jn HP.out.m4 (nn S1.out.2.2 HP.out.m4 (by rw[yB];omega))) (by have:=HP.out.le;omega) (by omega) (Vj S1.out.2.2) (fun b hb=>⟨⟨(HS.out b hb).2.1.1,(HS.out b hb).2.1.2.1,(HS.out b hb).2.1.2.2.1,KM ((HS.out b hb).2.1.2.2.2.1) g4 (ltS b hb),(HS.out b hb).2.1.2.2.2.2.1,(HS.out b hb).2.1.2.2.2.2.2⟩,jn (HS.out b hb).2.2 (nn S1.out.2.2 (HS.out b hb).2.2 (by rw[yB];have:=(HS.out b hb).1;omega)),by have:=(HS.out b hb).1;exact⟨by omega,by omega⟩,fun o ho=>(heap_set _ _ _ _ (by have:=(HS.out b hb).1;show b≠w.heap.size;omega)).trans ((g2.block _ (ltS b hb) ((HS.out b hb).2.1.2.2.2.1).symm).trans ((g1.block _ (Jr (S1.out.2.1 b o (YC ho)))).trans (S1.out.2.1 b o (YC ho))))⟩) (fn:=Tryz.f97) (R:=fun e w9=>∃A,e=.returned (.tuple #[.agg (List.toArray A),.bool true])/\RA W0 S w M {x with Overlaps:=x.Overlaps++[keyOf [a0,a1,a2,a3]]} A w9) rfl (fun _ _ h=>h) rfl rfl rfl rfl rfl rfl rfl rfl rfl (by decide) (by rw[hsz];simp) ((hr 2 (by intro i _;show 93+i≠2;omega)).trans rfl) ((hr 4 (by intro i _;show 93+i≠4;omega)).trans rfl) hdf (fun w8 A h=>⟨A,rfl,h⟩)
end
section
variable {W0:World} {x:jo} {T:TypeId} {tl:List Value} {M M':Mem} {bp:Nat} {h0 h1 h2 h3 hF hP:Value} {nF nP:Nat} {xb xj xc xo xf xp:List Value} {w w1 w2:World}
set_option maxHeartbeats 4000000 in
theorem jef {rest:List (List UInt8)}{vf:Value}{S:Nat->Prop}(hS:PG W0 x T tl M bp h0 h1 h2 h3 hF hP nF nP xb xj xc xo xf xp w)(hSb:∀b,S b->b<w.heap.size/\Xa b h0 h1 h2 h3 hF hP/\∀o,M b o=none)(hr:Rep M jh (jQ ([119,111,114,108,100]::rest)) vf){l:List Int}(h:jB ([119,111,114,108,100]::rest) [119,111,114,108,100] 7 false []=some (l,0))(hl:l.length=7):
 Calls Tryz.prog 50 #[.agg (YB x h0 h1 h2 h3).toArray,vf] w fun e w'=>∃A,e=.returned (.tuple #[.agg (List.toArray A),.bool (true)])/\RA W0 S w M {x with jH:=(JU l).jH,yM:=(JU l).yM,Frame:=(JU l).Frame} A w':=by
 have HP:Hid (_):=hS.en
 have HS:Hid (_):=hSb
 clear hSb
 obtain⟨ad,cap,rfl,hm⟩:=YW hr
 obtain⟨blk,off,rfl,hm2⟩:=hm (by simp)
 have c0:((w.alloc (.cells (YB x h0 h1 h2 h3).toArray 31)).alloc (.cells #[Value.int .i64 0,Value.int .i64 0,Value.int .i64 0,Value.int .i64 0,Value.int .i64 0,Value.slice none 0 0,Value.slice none 0 0,Value.slice none 0 0,Value.slice none 0 0,Value.int .i64 0,Value.int .i64 0] 31)).cell? ⟨blk,off,none⟩=some (.string ⟨List.toArray [119,111,114,108,100]⟩):=HP.out.pg.o.iM _ _ _ (hm2 0 _ rfl)
 have hr0:Hid (Rep M jh _ _):=hr
 obtain⟨n,hn⟩:∃n,(([119,111,114,108,100]:List UInt8)::rest).length=n:=⟨_,rfl⟩
 rw[hn]at hr0⊢
 have hn0:(0:Int)<(n:Int):=by rw[<-hn];simp
 obtain⟨a0,a1,a2,a3,a4,a5,a6,rfl⟩:=len7 hl
 have kk:=WQ h (k:=7) rfl (by decide) HP.out.pg.o.iM hr0.out
 have ek:=Tryz.call53
 clear hr hm hm2 hS hn h hl
 go_enter Tryz.func50,Tryz.ntmps50
 go_upto_region 19 with (first
  |(go_at_call 53;refine kk.mono ?_;rintro e w1 ⟨ib,io,ic,M1,rfl,hn,hv,hu⟩
    have S1:Hid (_/\_/\_):=⟨HP.out.pg.call hn,(fun b o h=>(hn.1.block _ (Jr h)).trans h:∀b o,(Mh w (YB x h0 h1 h2 h3)).heap[b]? = some o->w1.heap[b]? = some o),hn⟩
    have HV:Hid (_):=hv
    have HU:Hid (_):=hu
    clear hn hv hu kk c0))
 refine Kk zJ 13 (fun i=>88+i) (fun i=>([.slice (some ⟨ib,io,none⟩) 7 ic,.pointer (some ⟨ib,io+0,none⟩),.int .i64 a0,.slice (some ⟨ib,io,none⟩) 7 ic,.agg (List.toArray [.int .i64 a1,.int .i64 a2]),.slice (some ⟨ib,io,none⟩) 7 ic,.pointer (some ⟨ib,io+3,none⟩),.int .i64 a3,.slice (some ⟨ib,io,none⟩) 7 ic,.pointer (some ⟨ib,io+4,none⟩),.int .i64 a4,.agg (List.toArray [.int .i64 a0,.int .i64 a1,.int .i64 a2,.int .i64 a3,.int .i64 a4]),.pointer (some ⟨w.heap.size,0,none⟩)]:List Value).getD i undef) rfl (zL rfl) (fun i i' _ _ h=>by omega) ?_ ?_
 ·intro i o hi ho
  match i,hi with
  |0,_=>
   cases ho
   refine⟨rfl,rfl,by simp,fun a w' hb0 hd hr=>?_⟩
   have hb:=(⟨(S1.out.1.below hb0).o.box,(S1.out.1.below hb0).o.iM⟩:_/\_)
   exact quiet_move rfl (ev ((hr 13 (by intro i _;show 88+i≠13;omega)).trans rfl))
  |1,_=>
   cases ho
   refine⟨rfl,rfl,by simp,fun a w' hb0 hd hr=>?_⟩
   have hb:=(⟨(S1.out.1.below hb0).o.box,(S1.out.1.below hb0).o.iM⟩:_/\_)
   exact Jb (i:=0) (sz:=1) rfl (ev (hd ⟨0,.data⟩ (by simp) rfl)) (by exact rfl) (by kernel_rfl) (by decide) (by decide)
  |2,_=>
   cases ho
   refine⟨rfl,rfl,by simp,fun a w' hb0 hd hr=>?_⟩
   have hb:=(⟨(S1.out.1.below hb0).o.box,(S1.out.1.below hb0).o.iM⟩:_/\_)
   exact jF rfl (ev (hd ⟨1,.data⟩ (by simp) rfl)) (by kernel_rfl) (hb.2 _ _ _ (HV.out 0 _ rfl))
  |3,_=>
   cases ho
   refine⟨rfl,rfl,by simp,fun a w' hb0 hd hr=>?_⟩
   have hb:=(⟨(S1.out.1.below hb0).o.box,(S1.out.1.below hb0).o.iM⟩:_/\_)
   exact quiet_move rfl (ev ((hr 13 (by intro i _;show 88+i≠13;omega)).trans rfl))
  |4,_=>
   cases ho
   refine⟨rfl,rfl,by simp,fun a w' hb0 hd hr=>?_⟩
   have hb:=(⟨(S1.out.1.below hb0).o.box,(S1.out.1.below hb0).o.iM⟩:_/\_)
   exact pQ (l:=[a0,a1,a2,a3,a4,a5,a6]) (k:=1) (r:=⟨a1,a2⟩) (by kernel_rfl) rfl (ev (hd ⟨3,.data⟩ (by simp) rfl)) (hb.2) HU.out
  |5,_=>
   cases ho
   refine⟨rfl,rfl,by simp,fun a w' hb0 hd hr=>?_⟩
   have hb:=(⟨(S1.out.1.below hb0).o.box,(S1.out.1.below hb0).o.iM⟩:_/\_)
   exact quiet_move rfl (ev ((hr 13 (by intro i _;show 88+i≠13;omega)).trans rfl))
  |6,_=>
   cases ho
   refine⟨rfl,rfl,by simp,fun a w' hb0 hd hr=>?_⟩
   have hb:=(⟨(S1.out.1.below hb0).o.box,(S1.out.1.below hb0).o.iM⟩:_/\_)
   exact Jb (i:=3) (sz:=1) rfl (ev (hd ⟨5,.data⟩ (by simp) rfl)) (by exact rfl) (by kernel_rfl) (by decide) (by decide)
  |7,_=>
   cases ho
   refine⟨rfl,rfl,by simp,fun a w' hb0 hd hr=>?_⟩
   have hb:=(⟨(S1.out.1.below hb0).o.box,(S1.out.1.below hb0).o.iM⟩:_/\_)
   exact jF rfl (ev (hd ⟨6,.data⟩ (by simp) rfl)) (by kernel_rfl) (hb.2 _ _ _ (HV.out 3 _ rfl))
  |8,_=>
   cases ho
   refine⟨rfl,rfl,by simp,fun a w' hb0 hd hr=>?_⟩
   have hb:=(⟨(S1.out.1.below hb0).o.box,(S1.out.1.below hb0).o.iM⟩:_/\_)
   exact quiet_move rfl (ev ((hr 13 (by intro i _;show 88+i≠13;omega)).trans rfl))
  |9,_=>
   cases ho
   refine⟨rfl,rfl,by simp,fun a w' hb0 hd hr=>?_⟩
   have hb:=(⟨(S1.out.1.below hb0).o.box,(S1.out.1.below hb0).o.iM⟩:_/\_)
   exact Jb (i:=4) (sz:=1) rfl (ev (hd ⟨8,.data⟩ (by simp) rfl)) (by exact rfl) (by kernel_rfl) (by decide) (by decide)
  |10,_=>
   cases ho
   refine⟨rfl,rfl,by simp,fun a w' hb0 hd hr=>?_⟩
   have hb:=(⟨(S1.out.1.below hb0).o.box,(S1.out.1.below hb0).o.iM⟩:_/\_)
   exact jF rfl (ev (hd ⟨9,.data⟩ (by simp) rfl)) (by kernel_rfl) (hb.2 _ _ _ (HV.out 4 _ rfl))
  |11,_=>
   cases ho
   refine⟨rfl,rfl,by simp,fun a w' hb0 hd hr=>?_⟩
   have hb:=(⟨(S1.out.1.below hb0).o.box,(S1.out.1.below hb0).o.iM⟩:_/\_)
   exact qb (parts:=[(0,.int .i64 a0),(1,.agg (List.toArray [.int .i64 a1,.int .i64 a2])),(2,.int .i64 a3),(3,.int .i64 a4)]) rfl (by simp;exact⟨ev (hd ⟨2,.data⟩ (by simp) rfl),ev (hd ⟨4,.data⟩ (by simp) rfl),ev (hd ⟨7,.data⟩ (by simp) rfl),ev (hd ⟨10,.data⟩ (by simp) rfl)⟩) (by kernel_rfl)
  |12,_=>
   cases ho
   refine⟨rfl,rfl,by simp,fun a w' hb0 hd hr=>?_⟩
   have hb:=(⟨(S1.out.1.below hb0).o.box,(S1.out.1.below hb0).o.iM⟩:_/\_)
   exact jN (fo:=0) rfl (ev ((hr 2 (by intro i _;show 88+i≠2;omega)).trans rfl)) (by kernel_rfl)
  |j+13,h=>exact absurd h (by omega)
 ·refine⟨_,rfl,rfl,fun f h1 h2=>by
   have t12:f 12=true:=h1 ⟨12,.data⟩ (by simp) rfl
   have t11:f 11=true:=h1 ⟨11,.data⟩ (by simp) rfl
   have t4:f 4=true:=h1 ⟨4,.chain⟩ (by simp) rfl
   have t0:f 0=true:=h1 ⟨0,.phase⟩ (by simp) rfl
   have t1:f 1=true:=h1 ⟨1,.phase⟩ (by simp) rfl
   have t2:f 2=true:=h1 ⟨2,.phase⟩ (by simp) rfl
   have t3:f 3=true:=h1 ⟨3,.phase⟩ (by simp) rfl
   have t5:f 5=true:=h1 ⟨5,.phase⟩ (by simp) rfl
   have t6:f 6=true:=h1 ⟨6,.phase⟩ (by simp) rfl
   have t7:f 7=true:=h1 ⟨7,.phase⟩ (by simp) rfl
   have t8:f 8=true:=h1 ⟨8,.phase⟩ (by simp) rfl
   have t9:f 9=true:=h1 ⟨9,.phase⟩ (by simp) rfl
   have t10:f 10=true:=h1 ⟨10,.phase⟩ (by simp) rfl
   intro i hi
   match i,hi with
   |0,_=>exact t0
   |1,_=>exact t1
   |2,_=>exact t2
   |3,_=>exact t3
   |4,_=>exact t4
   |5,_=>exact t5
   |6,_=>exact t6
   |7,_=>exact t7
   |8,_=>exact t8
   |9,_=>exact t9
   |10,_=>exact t10
   |11,_=>exact t11
   |12,_=>exact t12
   |j+13,h=>exact absurd h (by omega),?_⟩
  intro w6 a g1 hsz hdf hv hr
  refine xx (cs:=[Value.int .i64 a0,Value.int .i64 a1,Value.int .i64 a2,Value.int .i64 a3,Value.int .i64 a4]) (arr:=YB x h0 h1 h2 h3++[]) rfl rfl (ev (hv 12 (by decide))) (ev (hv 11 (by decide))) (by kernel_rfl) (S1.out.1.below g1).o.box (by exact(by decide:5<=11)) (vV [a0,a1,a2,a3,a4]) ?_
  intro w7 hb7 hg7
  have r2:a.tmps[2]? = some (.pointer (some ⟨w.heap.size,0,none⟩)):=(hr 2 (by intro i _;show 88+i≠2;omega)).trans rfl
  have r4:a.tmps[4]? = some (.pointer (some ⟨w.heap.size+1,0,none⟩)):=(hr 4 (by intro i _;show 88+i≠4;omega)).trans rfl
  have r13:a.tmps[13]? = some (.slice (some ⟨ib,io,none⟩) 7 ic):=(hr 13 (by intro i _;show 88+i≠13;omega)).trans rfl
  have hc7:w7.heap[w.heap.size]? = some (.cells (YB {x with jH:=(JU [a0,a1,a2,a3,a4,a5,a6]).jH} h0 h1 h2 h3++[]).toArray 31 (0,0)):=hb7
  have Z7:=(S1.out.1.below g1).Mn (s:=(JU [a0,a1,a2,a3,a4,a5,a6]).jH) (n:=x.yM) (f:=x.Frame) hc7 hg7
  have h4z:∀b o,b≠w.heap.size->(Mh w (YB x h0 h1 h2 h3)).heap[b]? = some o->w7.heap[b]? = some o:=fun b o hne h=>(hg7.block _ (Nat.lt_of_lt_of_le (Jr (S1.out.2.1 b o h)) g1.size) (fun e=>hne (Option.some.inj e))).trans ((g1.block _ (Jr (S1.out.2.1 b o h))).trans (S1.out.2.1 b o h))
  clear hv hr hb7
  rename_i hK
  refine hK _ _ (wp_seq ?_)
  have q5:=Z7.o.iM _ _ _ (HV.out 5 _ rfl)
  refine jfG (x:=a5) (s:=13) (fo:=9) rfl rfl rfl rfl rfl rfl rfl rfl rfl rfl rfl rfl rfl rfl rfl (by decide) (by rw[hsz];simp) r2 r13 (by decide) (by kernel_rfl) q5 hc7 rfl ?_
  intro a8 u8 z8 f8
  have hb8:=vW hc7 9 (.int .i64 a5) _ rfl
  have Z8:=Z7.Mn (s:=(JU [a0,a1,a2,a3,a4,a5,a6]).jH) (n:=(JU [a0,a1,a2,a3,a4,a5,a6]).yM) (f:=x.Frame) hb8 (VF _ _ _)
  have h4y:∀b o,b≠w.heap.size->(Mh w (YB x h0 h1 h2 h3)).heap[b]? = some o->(w7.setCell ⟨w.heap.size,9,none⟩ (.int .i64 a5)).heap[b]? = some o:=fun b o hne h=>(heap_set w7 ⟨w.heap.size,9,none⟩ (.int .i64 a5) _ hne).trans (h4z b o hne h)
  refine wp_seq ?_
  have q6:=Z8.o.iM _ _ _ (HV.out 6 _ rfl)
  refine jfG (x:=a6) (s:=13) (fo:=10) rfl rfl rfl rfl rfl rfl rfl rfl rfl rfl rfl rfl rfl rfl rfl (by decide) (by rw[z8,hsz];simp) ((u8 2 (by decide) (by decide) (by decide) (by decide)).trans r2) ((u8 13 (by decide) (by decide) (by decide) (by decide)).trans r13) (by decide) (by kernel_rfl) q6 hb8 rfl ?_
  intro a9 u9 z9 f9
  have hb9:=vW hb8 10 (.int .i64 a6) _ rfl
  have Z:=Z8.Mn (s:=(JU [a0,a1,a2,a3,a4,a5,a6]).jH) (n:=(JU [a0,a1,a2,a3,a4,a5,a6]).yM) (f:=(JU [a0,a1,a2,a3,a4,a5,a6]).Frame) hb9 (VF _ _ _)
  exact Z.finT (b4:=w.heap.size+1) ((heap_set _ ⟨w.heap.size,10,none⟩ _ _ (by show w.heap.size+1≠w.heap.size;omega)).trans (h4y _ _ (by omega) HP.out.b4)) ⟨HP.out.off.1,HP.out.off.2.1,HP.out.off.2.2.1,HP.out.off.2.2.2.1,HP.out.off.2.2.2.2.1,HP.out.off.2.2.2.2.2⟩ (jn HP.out.m4 (nn S1.out.2.2 HP.out.m4 (by rw[yB];omega))) (by have:=HP.out.le;omega) (by omega) (Vj S1.out.2.2) (fun b hb=>⟨⟨(HS.out b hb).2.1.1,(HS.out b hb).2.1.2.1,(HS.out b hb).2.1.2.2.1,(HS.out b hb).2.1.2.2.2.1,(HS.out b hb).2.1.2.2.2.2.1,(HS.out b hb).2.1.2.2.2.2.2⟩,jn (HS.out b hb).2.2 (nn S1.out.2.2 (HS.out b hb).2.2 (by rw[yB];have:=(HS.out b hb).1;omega)),by have:=(HS.out b hb).1;exact⟨by omega,by omega⟩,fun o ho=>(heap_set _ ⟨w.heap.size,10,none⟩ _ _ (by have:=(HS.out b hb).1;show b≠w.heap.size;omega)).trans (h4y b o (by have:=(HS.out b hb).1;omega) (YC ho))⟩) (fn:=Tryz.f50) (R:=fun e w9=>∃A,e=.returned (.tuple #[.agg (List.toArray A),.bool true])/\RA W0 S w M {x with jH:=(JU [a0,a1,a2,a3,a4,a5,a6]).jH,yM:=(JU [a0,a1,a2,a3,a4,a5,a6]).yM,Frame:=(JU [a0,a1,a2,a3,a4,a5,a6]).Frame} A w9) rfl (fun _ _ h=>h) rfl rfl rfl rfl rfl rfl rfl rfl rfl (by decide) (by rw[z9,z8,hsz];simp) ((u9 2 (by decide) (by decide) (by decide) (by decide)).trans ((u8 2 (by decide) (by decide) (by decide) (by decide)).trans r2)) ((u9 4 (by decide) (by decide) (by decide) (by decide)).trans ((u8 4 (by decide) (by decide) (by decide) (by decide)).trans r4)) (f9.trans (f8.trans hdf)) (fun w8 A h=>⟨A,rfl,h⟩)
end
section
variable {W0:World} {x:jo} {T:TypeId} {tl:List Value} {M M':Mem} {bp:Nat} {h0 h1 h2 h3 hF hP:Value} {nF nP:Nat} {xb xj xc xo xf xp:List Value} {w w1 w2:World}
set_option maxHeartbeats 4000000 in
theorem ja1 {rest:List (List UInt8)}{vf:Value}{S:Nat->Prop}(hS:PG W0 x T tl M bp h0 h1 h2 h3 hF hP nF nP xb xj xc xo xf xp w)(hSb:∀b,S b->b<w.heap.size/\Xa b h0 h1 h2 h3 hF hP/\∀o,M b o=none)(hr:Rep M jh (jQ ([102,105,120,116,117,114,101]::rest)) vf){f:jT}{c:Int}{init:List Body}{last:Body}(h:JR ([102,105,120,116,117,114,101]::rest)=some (f,c))(hxb:x.ji=init++[last])(hlb:init.length<1048576)(hlen:last.jf.length<1048576):
 Calls Tryz.prog 50 #[.agg (YB x h0 h1 h2 h3).toArray,vf] w fun e w'=>∃A,e=.returned (.tuple #[.agg (List.toArray A),.bool (c==0)])/\RA W0 S w M {x with ji:=init++[{last with jf:=last.jf++[f]}]} A w':=by
 have hpos:0<x.ji.length:=by rw[hxb];simp
 obtain⟨gB,cB,hgb⟩:∃g cap,h0=.slice (some ⟨g,0,none⟩) x.ji.length cap:=Mv (hS.o.rows ⟨56,20,x.ji.length,h0,xb⟩ (by simp[jG])) hpos
 subst hgb
 have HC:Hid (_/\_):=hS.fcell hxb
 have nB:x.ji.length=init.length+1:=by rw[hxb];simp
 have wk:IntKind.i64.wrap ((x.ji.length:Int) - 1)=(init.length:Int):=by rw[nB,IntKind.wrap_i64];omega
 have NB:Hid (_/\_):=⟨nB,hxb⟩
 clear nB hxb
 have HP:Hid (_):=hS.en
 have HS:Hid (_):=hSb
 clear hSb
 obtain⟨ad,cap,rfl,hm⟩:=YW hr
 obtain⟨blk,off,rfl,hm2⟩:=hm (by simp)
 have c0:((w.alloc (.cells (YB x (.slice (some ⟨gB,0,none⟩) x.ji.length cB) h1 h2 h3).toArray 31)).alloc (.cells #[Value.int .i64 0,Value.int .i64 0,Value.int .i64 0,Value.int .i64 0,Value.int .i64 0,Value.slice none 0 0,Value.slice none 0 0,Value.slice none 0 0,Value.slice none 0 0,Value.int .i64 0,Value.int .i64 0] 31)).cell? ⟨blk,off,none⟩=some (.string ⟨List.toArray [102,105,120,116,117,114,101]⟩):=HP.out.pg.o.iM _ _ _ (hm2 0 _ rfl)
 have hr0:Hid (Rep M jh _ _):=hr
 obtain⟨n,hn⟩:∃n,(([102,105,120,116,117,114,101]:List UInt8)::rest).length=n:=⟨_,rfl⟩
 rw[hn]at hr0⊢
 have hn0:(0:Int)<(n:Int):=by rw[<-hn];simp
 have kk:=jch h HP.out.pg.o.iM hr
 rw[hn]at kk
 have ek:=Tryz.call24
 obtain⟨iE,a1,a2,a3,a4⟩:=info_parts (P:=Tryz.prog) (e:=67) (z:=.agg je4.toArray) (size:=10) (bytes:=96) (by kernel_rfl)
 have HI:Hid (_/\_/\_/\_):=⟨a1,a2,a3,a4⟩
 clear a1 a2 a3 a4
 have ra:tSz Tryz.prog 67=some 10:=by kernel_rfl
 have HR:Hid (_):=ra
 clear hr hm hm2 hS hn ra h
 go_enter Tryz.func50,Tryz.ntmps50
 go_upto_region 9 with (first
  |(go_at_call 24;refine kk.mono ?_;rintro e w1 ⟨A,M1,rfl,hn,hA,hA1⟩
    have S1:Hid (_/\_/\_/\_/\_):=⟨HP.out.pg.call hn,(fun b o h=>(hn.1.block _ (Jr h)).trans h:∀b o,(Mh w (YB x (.slice (some ⟨gB,0,none⟩) x.ji.length cB) h1 h2 h3)).heap[b]? = some o->w1.heap[b]? = some o),hn,hA,hA1⟩
    clear hn hA hA1 kk c0)
  |(refine jA (cs:=A) (arr:=je4) rfl rfl rfl rfl rfl (by rw[<-S1.out.2.2.2.1.length];exact HR.out) (yy w1 _ _ rfl) (by rw[<-S1.out.2.2.2.1.length];exact Nat.le_refl 10) S1.out.2.2.2.2 ?_
    intro w3 hz hg
    have S3:Hid (_/\_):=⟨S1.out.1.made (A:=A) (Z:=je4) (k:=10) S1.out.2.2.2.1.length.symm rfl hz hg,fun b o h=>jkG hg (S1.out.2.1 b o h)⟩
    have c5:w3.cell? ⟨w.heap.size,5,none⟩=some (.slice (some ⟨gB,0,none⟩) x.ji.length cB):=Jq S3.out.1.1.o.box 5 rfl
    clear hz hg))
 refine yO zJ 14 10 11 (fun i=>45+i) (fun i=>([.pointer (some ⟨w.heap.size,5,none⟩),.slice (some ⟨gB,0,none⟩) x.ji.length cB,.int .i64 (init.length:Int),.pointer (some ⟨w.heap.size,5,none⟩),.slice (some ⟨gB,0,none⟩) x.ji.length cB,.int .i64 (init.length:Int),.pointer (some ⟨gB,init.length*20,none⟩),.pointer (some ⟨gB,init.length*20+19,none⟩),hF,.agg (List.toArray A),undef,undef,.pointer (some ⟨gB,init.length*20,none⟩),.pointer (some ⟨gB,init.length*20+19,none⟩)]:List Value).getD i undef) (fun w'=>w'.heap[w.heap.size]? = some (.cells (YB x (.slice (some ⟨gB,0,none⟩) x.ji.length cB) h1 h2 h3++[]).toArray 31 (0,0))/\w'.ownsRow W0.heap.size 56 20 (.slice (some ⟨gB,0,none⟩) x.ji.length cB) x.ji.length xb/\w'.heap[w1.heap.size]? = some (.cells (List.toArray A) 67 (0,0))) W0.heap.size 54 67 iE (.agg je4.toArray) 10 96 Tryz.underlying54 HI.out.1 HI.out.2.1 HI.out.2.2.1 HI.out.2.2.2 rfl (by decide) hF nF xf A (S3.out.1.1.o.rows ⟨67,10,nF,hF,xf⟩ (by simp[jG])) (S1.out.2.2.2.1.length.symm) (S1.out.2.2.2.2) (by have:=HC.out.2;simp[maxLen];omega) (by have:=HC.out.2;omega) (S3.out.1.1.o.bel.size) rfl (zL rfl) (fun i i' _ _ h=>by omega) (by decide) (fun w1 w2 b1 b2=>(⟨(S3.out.1.1.o.base (r:=⟨67,10,nF,hF,xf⟩) (by simp[jG]) b1 b2).1,S3.out.1.1.o.other (i:=4) (j:=0) (r:=⟨67,10,nF,hF,xf⟩) rfl rfl (by decide) b1 b2,S3.out.1.2.base (r:=⟨67,10,nF,hF,xf⟩) (by simp[jG]) b1 b2⟩:_/\_/\_)) ?_ ?_ ?_ ?_
 ·intro i o hi n1 n2 ho
  match i,hi,n1,n2 with
  |0,_,_,_=>
   cases ho
   exact⟨rfl,rfl,by simp,fun a w' hb hd hr=>jN (fo:=5) rfl (ev ((hr 2 (by intro i _;show 45+i≠2;omega)).trans rfl)) (by kernel_rfl)⟩
  |1,_,_,_=>
   cases ho
   exact⟨rfl,rfl,by simp,fun a w' hb hd hr=>jF rfl (ev (hd ⟨0,.data⟩ (by simp) rfl (by decide) (by decide))) (by kernel_rfl) (Jq hb.1 5 rfl)⟩
  |2,_,_,_=>
   cases ho
   exact⟨rfl,rfl,by simp,fun a w' hb hd hr=>quiet_move rfl (ev ((hr 10 (by intro i _;show 45+i≠10;omega)).trans rfl))⟩
  |3,_,_,_=>
   cases ho
   exact⟨rfl,rfl,by simp,fun a w' hb hd hr=>jN (fo:=5) rfl (ev ((hr 2 (by intro i _;show 45+i≠2;omega)).trans rfl)) (by kernel_rfl)⟩
  |4,_,_,_=>
   cases ho
   exact⟨rfl,rfl,by simp,fun a w' hb hd hr=>jF rfl (ev (hd ⟨3,.data⟩ (by simp) rfl (by decide) (by decide))) (by kernel_rfl) (Jq hb.1 5 rfl)⟩
  |5,_,_,_=>
   cases ho
   exact⟨rfl,rfl,by simp,fun a w' hb hd hr=>quiet_move rfl (ev ((hr 10 (by intro i _;show 45+i≠10;omega)).trans rfl))⟩
  |6,_,_,_=>
   cases ho
   exact⟨rfl,rfl,by simp,fun a w' hb hd hr=>vg (sz:=20) rfl (ev (hd ⟨4,.data⟩ (by simp) rfl (by decide) (by decide))) (ev (hd ⟨5,.data⟩ (by simp) rfl (by decide) (by decide))) (by kernel_rfl) (by have:=NB.out.1;omega)⟩
  |7,_,_,_=>
   cases ho
   exact⟨rfl,rfl,by simp,fun a w' hb hd hr=>jN (fo:=19) rfl (ev (hd ⟨6,.data⟩ (by simp) rfl (by decide) (by decide))) (by kernel_rfl)⟩
  |8,_,_,_=>
   cases ho
   exact⟨rfl,rfl,by simp,fun a w' hb hd hr=>jF rfl (ev (hd ⟨7,.data⟩ (by simp) rfl (by decide) (by decide))) (by kernel_rfl) ((ZM hb.2.1 HC.out.1 hpos).1)⟩
  |9,_,_,_=>
   cases ho
   exact⟨rfl,rfl,by simp,fun a w' hb hd hr=>vw rfl (ev ((hr 8 (by intro i _;show 45+i≠8;omega)).trans rfl)) (by kernel_rfl) (by rw[<-S1.out.2.2.2.1.length];exact HR.out) (hb.2.2)⟩
  |10,_,h,_=>exact absurd rfl h
  |11,_,_,h=>exact absurd rfl h
  |12,_,_,_=>
   cases ho
   exact⟨rfl,rfl,by simp,fun a w' hb hd hr=>vg (sz:=20) rfl (ev (hd ⟨1,.data⟩ (by simp) rfl (by decide) (by decide))) (ev (hd ⟨2,.data⟩ (by simp) rfl (by decide) (by decide))) (by kernel_rfl) (by have:=NB.out.1;omega)⟩
  |13,_,_,_=>
   cases ho
   exact⟨rfl,rfl,by simp,fun a w' hb hd hr=>jN (fo:=19) rfl (ev (hd ⟨12,.data⟩ (by simp) rfl (by decide) (by decide))) (by kernel_rfl)⟩
  |j+14,h,_,_=>exact absurd h (by omega)
 ·exact⟨_,_,rfl,rfl,rfl,by simp,rfl,fun a hd=>ev (hd ⟨9,.data⟩ (by simp) rfl (by decide) (by decide))⟩
 ·exact⟨_,_,rfl,rfl,rfl,by simp,rfl,⟨⟨10,.data⟩,by simp,rfl,rfl⟩,fun a hd=>ev (hd ⟨8,.data⟩ (by simp) rfl (by decide) (by decide))⟩
 ·refine⟨_,rfl,rfl,fun f h1 h2=>by
   have t13:f 13=true:=h1 ⟨13,.data⟩ (by simp) rfl
   have t11:f 11=true:=h1 ⟨11,.data⟩ (by simp) rfl
   have t0:f 0=true:=h1 ⟨0,.phase⟩ (by simp) rfl
   have t1:f 1=true:=h1 ⟨1,.phase⟩ (by simp) rfl
   have t2:f 2=true:=h1 ⟨2,.phase⟩ (by simp) rfl
   have t3:f 3=true:=h1 ⟨3,.phase⟩ (by simp) rfl
   have t4:f 4=true:=h1 ⟨4,.phase⟩ (by simp) rfl
   have t5:f 5=true:=h1 ⟨5,.phase⟩ (by simp) rfl
   have t6:f 6=true:=h1 ⟨6,.phase⟩ (by simp) rfl
   have t7:f 7=true:=h1 ⟨7,.phase⟩ (by simp) rfl
   have t8:f 8=true:=h1 ⟨8,.phase⟩ (by simp) rfl
   have t9:f 9=true:=h1 ⟨9,.phase⟩ (by simp) rfl
   have t10:f 10=true:=h1 ⟨10,.phase⟩ (by simp) rfl
   have t12:f 12=true:=h2 13 _ rfl t13 ⟨12,.data⟩ (by simp) rfl
   intro i hi
   match i,hi with
   |0,_=>exact t0
   |1,_=>exact t1
   |2,_=>exact t2
   |3,_=>exact t3
   |4,_=>exact t4
   |5,_=>exact t5
   |6,_=>exact t6
   |7,_=>exact t7
   |8,_=>exact t8
   |9,_=>exact t9
   |10,_=>exact t10
   |11,_=>exact t11
   |12,_=>exact t12
   |13,_=>exact t13
   |j+14,h=>exact absurd h (by omega),?_⟩
  intro v6 w5 w6 a g1 g2 g3 g4 hsz hdf hv hA hr
  have hb:=(⟨(S3.out.1.1.o.base (r:=⟨67,10,nF,hF,xf⟩) (by simp[jG]) g1 g2).1,S3.out.1.1.o.other (i:=4) (j:=0) (r:=⟨67,10,nF,hF,xf⟩) rfl rfl (by decide) g1 g2,S3.out.1.2.base (r:=⟨67,10,nF,hF,xf⟩) (by simp[jG]) g1 g2⟩:_/\_/\_)
  refine Kb rfl rfl (ev (hv 13 (by decide) (by decide) (by decide))) (ev hA) (Yd g3).1 (by kernel_rfl) (ZM hb.2.1 HC.out.1 hpos).1 (ZM hb.2.1 HC.out.1 hpos).2 (Yd g3).2 ?_
  rename_i hK
  refine hK _ _ ?_
  have lt3:=Jr (S3.out.2 _ _ HP.out.b4)
  have lt4:w.heap.size+1<w5.heap.size:=Nat.lt_of_lt_of_le lt3 g1.size
  have ltS:∀b,S b->b<w5.heap.size:=fun b hb=>by have:=(HS.out b hb).1;omega
  obtain⟨xq,Z⟩:=(S3.out.1.1.below g1).Pj NB.out.2 rfl (S1.out.2.2.2.1.mono (zc _ _)) S1.out.2.2.2.2 g3 g2 g4 (Yd g3).2
  exact Z.finE (b4:=w.heap.size+1) ((heap_set _ ⟨gB,init.length*20+19,none⟩ _ _ (fun e=>HP.out.off.1 (congrArg some e.symm))).trans ((g2.block _ lt4 (HP.out.off.2.2.2.2.1).symm).trans ((g1.block _ lt3).trans (S3.out.2 _ _ HP.out.b4)))) ⟨HP.out.off.1,HP.out.off.2.1,HP.out.off.2.2.1,HP.out.off.2.2.2.1,KM (HP.out.off.2.2.2.2.1) g4 lt4,HP.out.off.2.2.2.2.2⟩ (jn HP.out.m4 (nn S1.out.2.2.1 HP.out.m4 (by rw[yB];omega))) (by have:=HP.out.le;omega) (by omega) (Vj S1.out.2.2.1) (fun b hb=>⟨⟨(HS.out b hb).2.1.1,(HS.out b hb).2.1.2.1,(HS.out b hb).2.1.2.2.1,(HS.out b hb).2.1.2.2.2.1,KM ((HS.out b hb).2.1.2.2.2.2.1) g4 (ltS b hb),(HS.out b hb).2.1.2.2.2.2.2⟩,jn (HS.out b hb).2.2 (nn S1.out.2.2.1 (HS.out b hb).2.2 (by rw[yB];have:=(HS.out b hb).1;omega)),by have:=(HS.out b hb).1;exact⟨by omega,by omega⟩,fun o ho=>(heap_set _ ⟨gB,init.length*20+19,none⟩ _ _ (fun e=>(HS.out b hb).2.1.1 (congrArg some e.symm))).trans ((g2.block _ (ltS b hb) ((HS.out b hb).2.1.2.2.2.2.1).symm).trans ((g1.block _ (Jr (S3.out.2 b o (YC ho)))).trans (S3.out.2 b o (YC ho))))⟩) (fn:=Tryz.f50) (R:=fun e w9=>∃A,e=.returned (.tuple #[.agg (List.toArray A),.bool (c==0)])/\RA W0 S w M {x with ji:=init++[{last with jf:=last.jf++[f]}]} A w9) (te:=9) rfl (fun _ _ h=>h) rfl rfl rfl rfl rfl rfl rfl rfl rfl rfl rfl rfl rfl rfl rfl (by decide) (by rw[hsz];simp) ((hr 2 (by intro i _;show 45+i≠2;omega)).trans rfl) ((hr 4 (by intro i _;show 45+i≠4;omega)).trans rfl) ((hr 9 (by intro i _;show 45+i≠9;omega)).trans rfl) hdf (fun w8 A h=>⟨A,rfl,h⟩)
end
section
variable {W0:World} {x:jo} {T:TypeId} {tl:List Value} {M M':Mem} {bp:Nat} {h0 h1 h2 h3 hF hP:Value} {nF nP:Nat} {xb xj xc xo xf xp:List Value} {w w1 w2:World}
set_option maxHeartbeats 4000000 in
theorem jeg {rest:List (List UInt8)}{vf:Value}{S:Nat->Prop}(hS:PG W0 x T tl M bp h0 h1 h2 h3 hF hP nF nP xb xj xc xo xf xp w)(hSb:∀b,S b->b<w.heap.size/\Xa b h0 h1 h2 h3 hF hP/\∀o,M b o=none)(hr:Rep M jh (jQ ([112,111,105,110,116]::rest)) vf){l:List Int}{init:List JL}{last:JL}(h:jB ([112,111,105,110,116]::rest) [112,111,105,110,116] 6 false []=some (l,0))(hl:l.length=6)(hxb:x.jc=init++[last])(hlb:init.length<1048576)(hlen:last.jt.jY.length<1048576):
 Calls Tryz.prog 97 #[.agg (YB x h0 h1 h2 h3).toArray,vf] w fun e w'=>∃A,e=.returned (.tuple #[.agg (List.toArray A),.bool (true)])/\RA W0 S w M {x with jc:=init++[{last with jt:={last.jt with jY:=last.jt.jY++[kv l]}}]} A w':=by
 have hpos:0<x.jc.length:=by rw[hxb];simp
 obtain⟨gB,cB,hgb⟩:∃g cap,h2=.slice (some ⟨g,0,none⟩) x.jc.length cap:=Mv (hS.o.rows ⟨88,7,x.jc.length,h2,xc⟩ (by simp[jG])) hpos
 subst hgb
 have HC:Hid (_/\_):=hS.pcell hxb
 have nB:x.jc.length=init.length+1:=by rw[hxb];simp
 have wk:IntKind.i64.wrap ((x.jc.length:Int) - 1)=(init.length:Int):=by rw[nB,IntKind.wrap_i64];omega
 have NB:Hid (_/\_):=⟨nB,hxb⟩
 clear nB hxb
 have HP:Hid (_):=hS.en
 have HS:Hid (_):=hSb
 clear hSb
 obtain⟨ad,cap,rfl,hm⟩:=YW hr
 obtain⟨blk,off,rfl,hm2⟩:=hm (by simp)
 have c0:((w.alloc (.cells (YB x h0 h1 (.slice (some ⟨gB,0,none⟩) x.jc.length cB) h3).toArray 31)).alloc (.cells #[Value.int .i64 0,Value.int .i64 0,Value.int .i64 0,Value.int .i64 0,Value.int .i64 0,Value.slice none 0 0,Value.slice none 0 0,Value.slice none 0 0,Value.slice none 0 0,Value.int .i64 0,Value.int .i64 0] 31)).cell? ⟨blk,off,none⟩=some (.string ⟨List.toArray [112,111,105,110,116]⟩):=HP.out.pg.o.iM _ _ _ (hm2 0 _ rfl)
 have HM:Hid (_):=hm2
 have hr0:Hid (Rep M jh _ _):=hr
 obtain⟨n,hn⟩:∃n,(([112,111,105,110,116]:List UInt8)::rest).length=n:=⟨_,rfl⟩
 rw[hn]at hr0⊢
 have hn0:(0:Int)<(n:Int):=by rw[<-hn];simp
 obtain⟨iE,a1,a2,a3,a4⟩:=info_parts (P:=Tryz.prog) (e:=131) (z:=.agg i6Z.toArray) (size:=6) (bytes:=48) (by kernel_rfl)
 have HI:Hid (_/\_/\_/\_):=⟨a1,a2,a3,a4⟩
 clear a1 a2 a3 a4
 obtain⟨a0,a1,a2,a3,a4,a5,rfl⟩:=len6 hl
 have kk:=WQ h (k:=6) rfl (by decide) HP.out.pg.o.iM hr0.out
 have ek:=Tryz.call53
 clear hr hm hm2 hS hn h hl
 go_enter Tryz.func97,Tryz.ntmps97
 go_upto_region 12 with (first
  |(go_at_call 53;refine kk.mono ?_;rintro e w1 ⟨ib,io,ic,M1,rfl,hn,hv,hu⟩
    have S1:Hid (_/\_/\_):=⟨HP.out.pg.call hn,(fun b o h=>(hn.1.block _ (Jr h)).trans h:∀b o,(Mh w (YB x h0 h1 (.slice (some ⟨gB,0,none⟩) x.jc.length cB) h3)).heap[b]? = some o->w1.heap[b]? = some o),hn⟩
    have HV:Hid (_):=hv
    have HU:Hid (_):=hu
    have c1:w1.cell? ⟨blk,off,none⟩=some (.string ⟨List.toArray [112,111,105,110,116]⟩):=hn.2.1 _ _ _ (hn.2.2.1 _ _ _ (HM.out 0 _ rfl))
    have c7:w1.cell? ⟨w.heap.size,7,none⟩=some (.slice (some ⟨gB,0,none⟩) x.jc.length cB):=Jq S1.out.1.o.box 7 rfl
    clear hn hv hu kk c0))
 refine pk zJ 17 15 16 14 10 (fun i=>60+i) (fun i=>([.slice (some ⟨ib,io,none⟩) 6 ic,.agg (List.toArray [.int .i64 a0,.int .i64 a1]),.slice (some ⟨ib,io,none⟩) 6 ic,.pointer (some ⟨ib,io+2,none⟩),.int .i64 a2,.slice (some ⟨ib,io,none⟩) 6 ic,.pointer (some ⟨ib,io+3,none⟩),.int .i64 a3,.slice (some ⟨ib,io,none⟩) 6 ic,.pointer (some ⟨ib,io+4,none⟩),.int .i64 a4,.slice (some ⟨ib,io,none⟩) 6 ic,.pointer (some ⟨ib,io+5,none⟩),.int .i64 a5,.agg (List.toArray [.int .i64 a0,.int .i64 a1,.int .i64 a2,.int .i64 a3,.int .i64 a4,.int .i64 a5])]:List Value).getD i undef) 131 131 _ [Value.int .i64 a0,Value.int .i64 a1,Value.int .i64 a2,Value.int .i64 a3,Value.int .i64 a4,Value.int .i64 a5] rfl (zL rfl) ?_ (fun i i' _ _ h=>by omega) (fun i hp=>by have:=hp.1;show 60+i≠10;omega) (by simp) ⟨_,rfl,rfl,rfl,rfl⟩ Tryz.zeroValue131 rfl ⟨_,rfl,rfl,rfl,rfl,fun f h=>⟨h ⟨15,.data⟩ (by simp) rfl,h ⟨14,.data⟩ (by simp) rfl⟩⟩ ⟨by decide,by decide,by decide⟩ (by decide) rfl (by kernel_rfl) (vV [a0,a1,a2,a3,a4,a5]) ?_
 ·intro i o hpu ho
  obtain⟨q1,q2,q3⟩:=hpu
  match i,q1,q2,q3 with
  |0,_,_,_=>
   cases ho
   refine⟨rfl,rfl,by simp,fun a hd hr w' hb0=>?_⟩
   have hb:=(⟨(S1.out.1.below hb0).o.box,(S1.out.1.below hb0).o.iM⟩:_/\_)
   exact quiet_move rfl (ev ((hr 7 (by intro i _;show 60+i≠7;omega) (by decide)).trans rfl))
  |1,_,_,_=>
   cases ho
   refine⟨rfl,rfl,by simp,fun a hd hr w' hb0=>?_⟩
   have hb:=(⟨(S1.out.1.below hb0).o.box,(S1.out.1.below hb0).o.iM⟩:_/\_)
   exact pQ (l:=[a0,a1,a2,a3,a4,a5]) (k:=0) (r:=⟨a0,a1⟩) (by kernel_rfl) rfl (ev (hd ⟨0,.data⟩ (by simp) rfl (by decide) (by decide))) (hb.2) HU.out
  |2,_,_,_=>
   cases ho
   refine⟨rfl,rfl,by simp,fun a hd hr w' hb0=>?_⟩
   have hb:=(⟨(S1.out.1.below hb0).o.box,(S1.out.1.below hb0).o.iM⟩:_/\_)
   exact quiet_move rfl (ev ((hr 7 (by intro i _;show 60+i≠7;omega) (by decide)).trans rfl))
  |3,_,_,_=>
   cases ho
   refine⟨rfl,rfl,by simp,fun a hd hr w' hb0=>?_⟩
   have hb:=(⟨(S1.out.1.below hb0).o.box,(S1.out.1.below hb0).o.iM⟩:_/\_)
   exact Jb (i:=2) (sz:=1) rfl (ev (hd ⟨2,.data⟩ (by simp) rfl (by decide) (by decide))) (by exact rfl) (by kernel_rfl) (by decide) (by decide)
  |4,_,_,_=>
   cases ho
   refine⟨rfl,rfl,by simp,fun a hd hr w' hb0=>?_⟩
   have hb:=(⟨(S1.out.1.below hb0).o.box,(S1.out.1.below hb0).o.iM⟩:_/\_)
   exact jF rfl (ev (hd ⟨3,.data⟩ (by simp) rfl (by decide) (by decide))) (by kernel_rfl) (hb.2 _ _ _ (HV.out 2 _ rfl))
  |5,_,_,_=>
   cases ho
   refine⟨rfl,rfl,by simp,fun a hd hr w' hb0=>?_⟩
   have hb:=(⟨(S1.out.1.below hb0).o.box,(S1.out.1.below hb0).o.iM⟩:_/\_)
   exact quiet_move rfl (ev ((hr 7 (by intro i _;show 60+i≠7;omega) (by decide)).trans rfl))
  |6,_,_,_=>
   cases ho
   refine⟨rfl,rfl,by simp,fun a hd hr w' hb0=>?_⟩
   have hb:=(⟨(S1.out.1.below hb0).o.box,(S1.out.1.below hb0).o.iM⟩:_/\_)
   exact Jb (i:=3) (sz:=1) rfl (ev (hd ⟨5,.data⟩ (by simp) rfl (by decide) (by decide))) (by exact rfl) (by kernel_rfl) (by decide) (by decide)
  |7,_,_,_=>
   cases ho
   refine⟨rfl,rfl,by simp,fun a hd hr w' hb0=>?_⟩
   have hb:=(⟨(S1.out.1.below hb0).o.box,(S1.out.1.below hb0).o.iM⟩:_/\_)
   exact jF rfl (ev (hd ⟨6,.data⟩ (by simp) rfl (by decide) (by decide))) (by kernel_rfl) (hb.2 _ _ _ (HV.out 3 _ rfl))
  |8,_,_,_=>
   cases ho
   refine⟨rfl,rfl,by simp,fun a hd hr w' hb0=>?_⟩
   have hb:=(⟨(S1.out.1.below hb0).o.box,(S1.out.1.below hb0).o.iM⟩:_/\_)
   exact quiet_move rfl (ev ((hr 7 (by intro i _;show 60+i≠7;omega) (by decide)).trans rfl))
  |9,_,_,_=>
   cases ho
   refine⟨rfl,rfl,by simp,fun a hd hr w' hb0=>?_⟩
   have hb:=(⟨(S1.out.1.below hb0).o.box,(S1.out.1.below hb0).o.iM⟩:_/\_)
   exact Jb (i:=4) (sz:=1) rfl (ev (hd ⟨8,.data⟩ (by simp) rfl (by decide) (by decide))) (by exact rfl) (by kernel_rfl) (by decide) (by decide)
  |10,_,_,_=>
   cases ho
   refine⟨rfl,rfl,by simp,fun a hd hr w' hb0=>?_⟩
   have hb:=(⟨(S1.out.1.below hb0).o.box,(S1.out.1.below hb0).o.iM⟩:_/\_)
   exact jF rfl (ev (hd ⟨9,.data⟩ (by simp) rfl (by decide) (by decide))) (by kernel_rfl) (hb.2 _ _ _ (HV.out 4 _ rfl))
  |11,_,_,_=>
   cases ho
   refine⟨rfl,rfl,by simp,fun a hd hr w' hb0=>?_⟩
   have hb:=(⟨(S1.out.1.below hb0).o.box,(S1.out.1.below hb0).o.iM⟩:_/\_)
   exact quiet_move rfl (ev ((hr 7 (by intro i _;show 60+i≠7;omega) (by decide)).trans rfl))
  |12,_,_,_=>
   cases ho
   refine⟨rfl,rfl,by simp,fun a hd hr w' hb0=>?_⟩
   have hb:=(⟨(S1.out.1.below hb0).o.box,(S1.out.1.below hb0).o.iM⟩:_/\_)
   exact Jb (i:=5) (sz:=1) rfl (ev (hd ⟨11,.data⟩ (by simp) rfl (by decide) (by decide))) (by exact rfl) (by kernel_rfl) (by decide) (by decide)
  |13,_,_,_=>
   cases ho
   refine⟨rfl,rfl,by simp,fun a hd hr w' hb0=>?_⟩
   have hb:=(⟨(S1.out.1.below hb0).o.box,(S1.out.1.below hb0).o.iM⟩:_/\_)
   exact jF rfl (ev (hd ⟨12,.data⟩ (by simp) rfl (by decide) (by decide))) (by kernel_rfl) (hb.2 _ _ _ (HV.out 5 _ rfl))
  |14,_,_,_=>
   cases ho
   refine⟨rfl,rfl,by simp,fun a hd hr w' hb0=>?_⟩
   have hb:=(⟨(S1.out.1.below hb0).o.box,(S1.out.1.below hb0).o.iM⟩:_/\_)
   exact qb (parts:=[(0,.agg (List.toArray [.int .i64 a0,.int .i64 a1])),(1,.int .i64 a2),(2,.int .i64 a3),(3,.int .i64 a4),(4,.int .i64 a5)]) rfl (by simp;exact⟨ev (hd ⟨1,.data⟩ (by simp) rfl (by decide) (by decide)),ev (hd ⟨4,.data⟩ (by simp) rfl (by decide) (by decide)),ev (hd ⟨7,.data⟩ (by simp) rfl (by decide) (by decide)),ev (hd ⟨10,.data⟩ (by simp) rfl (by decide) (by decide)),ev (hd ⟨13,.data⟩ (by simp) rfl (by decide) (by decide))⟩) (by kernel_rfl)
  |15,_,h,_=>exact absurd rfl h
  |16,_,_,h=>exact absurd rfl h
  |j+17,h,_,_=>exact absurd h (by omega)
 ·intro aQ w2 b1 e1 e2 e3 e4 hdf2 hsz2 hv2 r10 hr2
  have r2:aQ.tmps[2]? = some (.pointer (some ⟨w.heap.size,0,none⟩)):=(hr2 2 (by intro i _;show 60+i≠2;omega) (by decide)).trans rfl
  have r4:aQ.tmps[4]? = some (.pointer (some ⟨w.heap.size+1,0,none⟩)):=(hr2 4 (by intro i _;show 60+i≠4;omega) (by decide)).trans rfl
  have r9:aQ.tmps[9]? = some (.int .i64 (init.length:Int)):=(hr2 9 (by intro i _;show 60+i≠9;omega) (by decide)).trans rfl
  have S2:Hid (_/\_/\_/\_):=⟨S1.out.1.below e1,S1.out.1.side e4 e2,fun b o h=>(e1.block _ (Jr (S1.out.2.1 b o h))).trans (S1.out.2.1 b o h),e1⟩
  clear hv2 hr2
  rename_i hK2 KK hK
  refine hK _ _ ?_
  refine yO zJ 16 11 12 (fun i=>75+i) (fun i=>([.pointer (some ⟨w.heap.size,7,none⟩),.slice (some ⟨gB,0,none⟩) x.jc.length cB,.int .i64 (init.length:Int),.pointer (some ⟨w.heap.size,7,none⟩),.slice (some ⟨gB,0,none⟩) x.jc.length cB,.int .i64 (init.length:Int),.pointer (some ⟨gB,init.length*7,none⟩),.pointer (some ⟨gB,init.length*7+4,none⟩),.pointer (some ⟨gB,init.length*7+4+2,none⟩),hP,.agg (List.toArray [Value.int .i64 a0,Value.int .i64 a1,Value.int .i64 a2,Value.int .i64 a3,Value.int .i64 a4,Value.int .i64 a5]),undef,undef,.pointer (some ⟨gB,init.length*7,none⟩),.pointer (some ⟨gB,init.length*7+4,none⟩),.pointer (some ⟨gB,init.length*7+4+2,none⟩)]:List Value).getD i undef) (fun w'=>w'.heap[w.heap.size]? = some (.cells (YB x h0 h1 (.slice (some ⟨gB,0,none⟩) x.jc.length cB) h3++[]).toArray 31 (0,0))/\w'.ownsRow W0.heap.size 88 7 (.slice (some ⟨gB,0,none⟩) x.jc.length cB) x.jc.length xc/\w'.heap[b1]? = some (.cells (List.toArray [Value.int .i64 a0,Value.int .i64 a1,Value.int .i64 a2,Value.int .i64 a3,Value.int .i64 a4,Value.int .i64 a5]) 131 (0,0))) W0.heap.size 82 131 iE (.agg i6Z.toArray) 6 48 Tryz.underlying82 HI.out.1 HI.out.2.1 HI.out.2.2.1 HI.out.2.2.2 rfl (by decide) hP nP xp [Value.int .i64 a0,Value.int .i64 a1,Value.int .i64 a2,Value.int .i64 a3,Value.int .i64 a4,Value.int .i64 a5] (S2.out.1.o.rows ⟨131,6,nP,hP,xp⟩ (by simp[jG])) (rfl) (vV [a0,a1,a2,a3,a4,a5]) (by have:=HC.out.2;simp[maxLen];omega) (by have:=HC.out.2;omega) (S2.out.1.o.bel.size) rfl (zL rfl) (fun i i' _ _ h=>by omega) (by decide) (fun w1 w2 b1 b2=>(⟨(S2.out.1.o.base (r:=⟨131,6,nP,hP,xp⟩) (by simp[jG]) b1 b2).1,S2.out.1.o.other (i:=5) (j:=2) (r:=⟨131,6,nP,hP,xp⟩) rfl rfl (by decide) b1 b2,S2.out.2.1.base (r:=⟨131,6,nP,hP,xp⟩) (by simp[jG]) b1 b2⟩:_/\_/\_)) ?_ ?_ ?_ ?_
  ·intro i o hi n1 n2 ho
   match i,hi,n1,n2 with
   |0,_,_,_=>
    cases ho
    exact⟨rfl,rfl,(by show(_:Nat)<aQ.tmps.size;rw[hsz2];simp),fun a w' hb hd hr=>jN (fo:=7) rfl (ev ((hr 2 (by intro i _;show 75+i≠2;omega)).trans r2)) (by kernel_rfl)⟩
   |1,_,_,_=>
    cases ho
    exact⟨rfl,rfl,(by show(_:Nat)<aQ.tmps.size;rw[hsz2];simp),fun a w' hb hd hr=>jF rfl (ev (hd ⟨0,.data⟩ (by simp) rfl (by decide) (by decide))) (by kernel_rfl) (Jq hb.1 7 rfl)⟩
   |2,_,_,_=>
    cases ho
    exact⟨rfl,rfl,(by show(_:Nat)<aQ.tmps.size;rw[hsz2];simp),fun a w' hb hd hr=>quiet_move rfl (ev ((hr 9 (by intro i _;show 75+i≠9;omega)).trans r9))⟩
   |3,_,_,_=>
    cases ho
    exact⟨rfl,rfl,(by show(_:Nat)<aQ.tmps.size;rw[hsz2];simp),fun a w' hb hd hr=>jN (fo:=7) rfl (ev ((hr 2 (by intro i _;show 75+i≠2;omega)).trans r2)) (by kernel_rfl)⟩
   |4,_,_,_=>
    cases ho
    exact⟨rfl,rfl,(by show(_:Nat)<aQ.tmps.size;rw[hsz2];simp),fun a w' hb hd hr=>jF rfl (ev (hd ⟨3,.data⟩ (by simp) rfl (by decide) (by decide))) (by kernel_rfl) (Jq hb.1 7 rfl)⟩
   |5,_,_,_=>
    cases ho
    exact⟨rfl,rfl,(by show(_:Nat)<aQ.tmps.size;rw[hsz2];simp),fun a w' hb hd hr=>quiet_move rfl (ev ((hr 9 (by intro i _;show 75+i≠9;omega)).trans r9))⟩
   |6,_,_,_=>
    cases ho
    exact⟨rfl,rfl,(by show(_:Nat)<aQ.tmps.size;rw[hsz2];simp),fun a w' hb hd hr=>vg (sz:=7) rfl (ev (hd ⟨4,.data⟩ (by simp) rfl (by decide) (by decide))) (ev (hd ⟨5,.data⟩ (by simp) rfl (by decide) (by decide))) (by kernel_rfl) (by have:=NB.out.1;omega)⟩
   |7,_,_,_=>
    cases ho
    exact⟨rfl,rfl,(by show(_:Nat)<aQ.tmps.size;rw[hsz2];simp),fun a w' hb hd hr=>jN (fo:=4) rfl (ev (hd ⟨6,.data⟩ (by simp) rfl (by decide) (by decide))) (by kernel_rfl)⟩
   |8,_,_,_=>
    cases ho
    exact⟨rfl,rfl,(by show(_:Nat)<aQ.tmps.size;rw[hsz2];simp),fun a w' hb hd hr=>jN (fo:=2) rfl (ev (hd ⟨7,.data⟩ (by simp) rfl (by decide) (by decide))) (by kernel_rfl)⟩
   |9,_,_,_=>
    cases ho
    exact⟨rfl,rfl,(by show(_:Nat)<aQ.tmps.size;rw[hsz2];simp),fun a w' hb hd hr=>jF rfl (ev (hd ⟨8,.data⟩ (by simp) rfl (by decide) (by decide))) (by kernel_rfl) ((ZM hb.2.1 HC.out.1 hpos).1)⟩
   |10,_,_,_=>
    cases ho
    exact⟨rfl,rfl,(by show(_:Nat)<aQ.tmps.size;rw[hsz2];simp),fun a w' hb hd hr=>vw rfl (ev ((hr 10 (by intro i _;show 75+i≠10;omega)).trans r10)) (by kernel_rfl) (by kernel_rfl) (hb.2.2)⟩
   |11,_,h,_=>exact absurd rfl h
   |12,_,_,h=>exact absurd rfl h
   |13,_,_,_=>
    cases ho
    exact⟨rfl,rfl,(by show(_:Nat)<aQ.tmps.size;rw[hsz2];simp),fun a w' hb hd hr=>vg (sz:=7) rfl (ev (hd ⟨1,.data⟩ (by simp) rfl (by decide) (by decide))) (ev (hd ⟨2,.data⟩ (by simp) rfl (by decide) (by decide))) (by kernel_rfl) (by have:=NB.out.1;omega)⟩
   |14,_,_,_=>
    cases ho
    exact⟨rfl,rfl,(by show(_:Nat)<aQ.tmps.size;rw[hsz2];simp),fun a w' hb hd hr=>jN (fo:=4) rfl (ev (hd ⟨13,.data⟩ (by simp) rfl (by decide) (by decide))) (by kernel_rfl)⟩
   |15,_,_,_=>
    cases ho
    exact⟨rfl,rfl,(by show(_:Nat)<aQ.tmps.size;rw[hsz2];simp),fun a w' hb hd hr=>jN (fo:=2) rfl (ev (hd ⟨14,.data⟩ (by simp) rfl (by decide) (by decide))) (by kernel_rfl)⟩
   |j+16,h,_,_=>exact absurd h (by omega)
  ·exact⟨_,_,rfl,rfl,rfl,(by show(_:Nat)<aQ.tmps.size;rw[hsz2];simp),rfl,fun a hd=>ev (hd ⟨10,.data⟩ (by simp) rfl (by decide) (by decide))⟩
  ·exact⟨_,_,rfl,rfl,rfl,(by show(_:Nat)<aQ.tmps.size;rw[hsz2];simp),rfl,⟨⟨11,.data⟩,by simp,rfl,rfl⟩,fun a hd=>ev (hd ⟨9,.data⟩ (by simp) rfl (by decide) (by decide))⟩
  ·refine⟨_,rfl,rfl,fun f h1 h2=>by
    have t15:f 15=true:=h1 ⟨15,.data⟩ (by simp) rfl
    have t12:f 12=true:=h1 ⟨12,.data⟩ (by simp) rfl
    have t0:f 0=true:=h1 ⟨0,.phase⟩ (by simp) rfl
    have t1:f 1=true:=h1 ⟨1,.phase⟩ (by simp) rfl
    have t2:f 2=true:=h1 ⟨2,.phase⟩ (by simp) rfl
    have t3:f 3=true:=h1 ⟨3,.phase⟩ (by simp) rfl
    have t4:f 4=true:=h1 ⟨4,.phase⟩ (by simp) rfl
    have t5:f 5=true:=h1 ⟨5,.phase⟩ (by simp) rfl
    have t6:f 6=true:=h1 ⟨6,.phase⟩ (by simp) rfl
    have t7:f 7=true:=h1 ⟨7,.phase⟩ (by simp) rfl
    have t8:f 8=true:=h1 ⟨8,.phase⟩ (by simp) rfl
    have t9:f 9=true:=h1 ⟨9,.phase⟩ (by simp) rfl
    have t10:f 10=true:=h1 ⟨10,.phase⟩ (by simp) rfl
    have t11:f 11=true:=h1 ⟨11,.phase⟩ (by simp) rfl
    have t14:f 14=true:=h2 15 _ rfl t15 ⟨14,.data⟩ (by simp) rfl
    have t13:f 13=true:=h2 14 _ rfl t14 ⟨13,.data⟩ (by simp) rfl
    intro i hi
    match i,hi with
    |0,_=>exact t0
    |1,_=>exact t1
    |2,_=>exact t2
    |3,_=>exact t3
    |4,_=>exact t4
    |5,_=>exact t5
    |6,_=>exact t6
    |7,_=>exact t7
    |8,_=>exact t8
    |9,_=>exact t9
    |10,_=>exact t10
    |11,_=>exact t11
    |12,_=>exact t12
    |13,_=>exact t13
    |14,_=>exact t14
    |15,_=>exact t15
    |j+16,h=>exact absurd h (by omega),?_⟩
   intro v6 w5 w6 a g1 g2 g3 g4 hsz hdf hv hA hr
   have hb:=(⟨(S2.out.1.o.base (r:=⟨131,6,nP,hP,xp⟩) (by simp[jG]) g1 g2).1,S2.out.1.o.other (i:=5) (j:=2) (r:=⟨131,6,nP,hP,xp⟩) rfl rfl (by decide) g1 g2,S2.out.2.1.base (r:=⟨131,6,nP,hP,xp⟩) (by simp[jG]) g1 g2⟩:_/\_/\_)
   refine Kb rfl rfl (ev (hv 15 (by decide) (by decide) (by decide))) (ev hA) (Yd g3).1 (by kernel_rfl) (ZM hb.2.1 HC.out.1 hpos).1 (ZM hb.2.1 HC.out.1 hpos).2 (Yd g3).2 ?_
   refine hK2 _ _ ?_
   have lt3:=Jr (S2.out.2.2.1 _ _ HP.out.b4)
   have lt4:w.heap.size+1<w5.heap.size:=Nat.lt_of_lt_of_le lt3 g1.size
   have ltS:∀b,S b->b<w5.heap.size:=fun b hb=>by have:=(HS.out b hb).1;omega
   obtain⟨xq,Z⟩:=(S2.out.1.below g1).jfY (f:=kv [a0,a1,a2,a3,a4,a5]) NB.out.2 rfl (jfE [Value.int .i64 a0,Value.int .i64 a1,Value.int .i64 a2,Value.int .i64 a3,Value.int .i64 a4,Value.int .i64 a5]) (vV [a0,a1,a2,a3,a4,a5]) g3 g2 g4 (Yd g3).2
   exact Z.finT (b4:=w.heap.size+1) ((heap_set _ ⟨gB,init.length*7+6,none⟩ _ _ (fun e=>HP.out.off.2.2.1 (congrArg some e.symm))).trans ((g2.block _ lt4 (HP.out.off.2.2.2.2.2).symm).trans ((g1.block _ lt3).trans (S2.out.2.2.1 _ _ HP.out.b4)))) ⟨HP.out.off.1,HP.out.off.2.1,HP.out.off.2.2.1,HP.out.off.2.2.2.1,HP.out.off.2.2.2.2.1,KM (HP.out.off.2.2.2.2.2) g4 lt4⟩ (jn HP.out.m4 (nn S1.out.2.2 HP.out.m4 (by rw[yB];omega))) (by have:=HP.out.le;omega) (by omega) (Vj S1.out.2.2) (fun b hb=>⟨⟨(HS.out b hb).2.1.1,(HS.out b hb).2.1.2.1,(HS.out b hb).2.1.2.2.1,(HS.out b hb).2.1.2.2.2.1,(HS.out b hb).2.1.2.2.2.2.1,KM ((HS.out b hb).2.1.2.2.2.2.2) g4 (ltS b hb)⟩,jn (HS.out b hb).2.2 (nn S1.out.2.2 (HS.out b hb).2.2 (by rw[yB];have:=(HS.out b hb).1;omega)),by have:=(HS.out b hb).1;exact⟨by omega,by omega⟩,fun o ho=>(heap_set _ ⟨gB,init.length*7+6,none⟩ _ _ (fun e=>(HS.out b hb).2.1.2.2.1 (congrArg some e.symm))).trans ((g2.block _ (ltS b hb) ((HS.out b hb).2.1.2.2.2.2.2).symm).trans ((g1.block _ (Jr (S2.out.2.2.1 b o (YC ho)))).trans (S2.out.2.2.1 b o (YC ho))))⟩) (fn:=Tryz.f97) (R:=fun e w9=>∃A,e=.returned (.tuple #[.agg (List.toArray A),.bool true])/\RA W0 S w M {x with jc:=init++[{last with jt:={last.jt with jY:=last.jt.jY++[kv [a0,a1,a2,a3,a4,a5]]}}]} A w9) rfl (fun _ _ h=>h) rfl rfl rfl rfl rfl rfl rfl rfl rfl (by decide) (by rw[hsz,hsz2];simp) ((hr 2 (by intro i _;show 75+i≠2;omega)).trans r2) ((hr 4 (by intro i _;show 75+i≠4;omega)).trans r4) (hdf.trans hdf2) (fun w8 A h=>⟨A,rfl,h⟩)
end
end GoForm
end
