/- Several texts in one. No conditions. -/
import Derived.Test.YtffgldbihpgjgaaGreatDoorGV
import Derived.Test.YtffgldbihpgjgaaGreatDoorGW
section
set_option linter.all false
set_option maxRecDepth 100000
open Go Go.Rx Go.Proofs Go.RowKit
namespace GoForm
structure PX (w:World) (cs:List Value) (W:World):Prop where
 bel:Below w.heap.size w W
 z:W.heap[w.heap.size]? = some (.cells inZ.toArray 77 (0,0))
 x:W.heap[w.heap.size+1]? = some (.cells cs.toArray 77 (0,0))
 lt:w.heap.size+2<=W.heap.size
theorem PX.go {w cs W} (h:PX w cs W) {W':World} (hb:Below W.heap.size W W'):PX w cs W':=
 ⟨h.bel.trans (hb.mono h.bel.size),(hb.block _ (by have:=h.lt;omega)).trans h.z,(hb.block _ (by have:=h.lt;omega)).trans h.x,Nat.le_trans h.lt hb.size⟩
theorem PX.store {w cs W} (h:PX w cs W) {cs':List Value} {W':World} (hx:W'.heap[w.heap.size+1]? = some (.cells cs'.toArray 77 (0,0))) (hg:W.grownBy W' (some (w.heap.size+1))):PX w cs' W':=
 ⟨h.bel.grown hg h.bel.size (fun g e=>by have:=Option.some.inj e;omega),(hg.block _ (by have:=h.lt;omega) (fun e=>by have:=Option.some.inj e;omega)).trans h.z,hx,Nat.le_trans h.lt hg.size⟩
theorem PX.start (w:World):PX w inZ ((w.alloc (.cells inZ.toArray 77)).alloc (.cells inZ.toArray 77)):=
 ⟨((Below.refl _ w).alloc (Nat.le_refl _) _).alloc (by simp) _,(jU _ _ _ (by simp)).trans (Jh _ _ _ rfl),(Jh _ _ _ (by simp)),by simp⟩
theorem PX.grow {w cs W} (h:PX w cs W) {W':World} {b:Option Nat} (hg:W.grownBy W' b) (hb:∀ g,b=some g->w.heap.size+2<=g):PX w cs W':=
 ⟨h.bel.grown hg h.bel.size (fun g e=>by have:=hb g e;omega),(hg.block _ (by have:=h.lt;omega) (fun e=>by have:=hb _ e.symm;omega)).trans h.z,(hg.block _ (by have:=h.lt;omega) (fun e=>by have:=hb _ e.symm;omega)).trans h.x,Nat.le_trans h.lt hg.size⟩
def ptX (w:World) (o:Nat):Value:=.pointer (some ⟨w.heap.size+1,o,none⟩)
structure PT (w:World) (cs:List Value) (v:Value) (offs:List Nat) (W:World):Prop where
 px:PX w cs W
 row:W.ownsRow (w.heap.size+2) 185 1 v offs.length (offs.map (ptX w))
theorem PT.new {w cs W} (h:PX w cs W):PT w cs (.slice (some ⟨W.heap.size,0,none⟩) 1 1) [1] (W.alloc (.cells #[.pointer (some ⟨w.heap.size+1,1,none⟩)] 185)):=
 ⟨h.go ((Below.refl _ _).alloc (Nat.le_refl _) _),⟨rfl,.inr ⟨W.heap.size,1,#[.pointer (some ⟨w.heap.size+1,1,none⟩)],rfl,h.lt,Jh _ _ _ rfl,Nat.le_refl 1,by decide,rfl,rfl⟩⟩⟩
theorem PT.go {w cs v offs W} (h:PT w cs v offs W) {W':World} (hb:Below W.heap.size W W'):PT w cs v offs W':=
 ⟨h.px.go hb,World.ownsRow.kept h.row (yD hb) (by cases v.ownBlock <;> simp)⟩
theorem PT.app {w cs v offs W} (h:PT w cs v offs W) {v':Value} {W':World} {more:List Nat} (hown:W'.ownsRow (w.heap.size+2) 185 1 v' (offs.length+more.length) (offs.map (ptX w)++more.map (ptX w))) (hg:W.grownBy W' v.ownBlock):PT w cs v' (offs++more) W':=
 ⟨h.px.grow hg (fun g e=>(World.ownsRow.lt h.row g e).1),by simpa using hown⟩
theorem PT.store {w cs v offs W} (h:PT w cs v offs W) {cs':List Value} {W':World} (hx:W'.heap[w.heap.size+1]? = some (.cells cs'.toArray 77 (0,0))) (hg:W.grownBy W' (some (w.heap.size+1))):PT w cs' v offs W':=
 ⟨h.px.store hx hg,World.ownsRow.kept h.row hg (.inr (fun e=>by have:=(World.ownsRow.lt h.row _ e).1;omega))⟩
theorem PT.cell {w cs v offs W} (h:PT w cs v offs W) {i o:Nat} (hi:offs[i]? = some o):∃ g c,v=.slice (some ⟨g,0,none⟩) offs.length c/\W.cell? ⟨g,i,none⟩=some (ptX w o):=by
 have hlt:=(List.getElem?_eq_some_iff.1 hi).1
 rcases h.row.2 with ⟨-,e0⟩ | ⟨g,cap,cur,e,h1,h2,h3,h4,h5,h6⟩
 ·omega
 ·refine ⟨g,cap,e,?_⟩
  rw [Ji h2,<- Array.getElem?_toList]
  have:(offs.map (ptX w))[i]? = some (ptX w o):=by rw [List.getElem?_map,hi];rfl
  rw [<- h6,List.getElem?_take_of_lt (by simpa using hlt)] at this
  exact this
theorem PT.slice {w cs v offs W} (h:PT w cs v offs W) (hp:0<offs.length):∃ g c,v=.slice (some ⟨g,0,none⟩) offs.length c:=by
 obtain ⟨o,ho⟩:∃ o,offs[0]? = some o:=⟨_,List.getElem?_eq_getElem hp⟩
 obtain ⟨g,c,e,-⟩:=h.cell ho
 exact ⟨g,c,e⟩
def Ki (cs:List Value):List Nat->List Int->List Value
 | o::os,n::ns=>Ki (cs.set o (.int .i64 n)) os ns
 | _,_=>cs
theorem kj (o:Nat) (n:Int):∀ (os:List Nat) (ns:List Int) (cs:List Value),os.length=ns.length->Ki cs (os++[o]) (ns++[n])=(Ki cs os ns).set o (.int .i64 n)
 | [],[],cs,_=>rfl
 | a::os,b::ns,cs,h=>by
   show Ki (cs.set a (.int .i64 b)) (os++[o]) (ns++[n])=(Ki (cs.set a (.int .i64 b)) os ns).set o (.int .i64 n)
   exact kj o n os ns _ (by simpa using h)
 | [],_::_,_,h=>by simp at h
 | _::_,[],_,h=>by simp at h
theorem KS:∀ (os:List Nat) (ns:List Int) (cs:List Value),(Ki cs os ns).length=cs.length
 | [],_,cs=>by cases ‹List Int› <;> rfl
 | a::os,[],cs=>rfl
 | a::os,b::ns,cs=>by
   show (Ki (cs.set a (.int .i64 b)) os ns).length=_
   rw [KS os ns,List.length_set]
theorem kT (kind:Int) (vec value:Bool) (l:List Int) (hl:l.length=(WT vec value).length):∃ id vx vy val,Ki (inX kind 0 0 0 0) (WT vec value) l=inX kind id vx vy val/\qu kind vec value l={ Kind:=kind,ID:=id,Vec:=⟨vx,vy⟩,Value:=val,Body:=exB,jn:=exJ }:=by
 cases vec <;> cases value <;> simp [WT] at hl
 ·obtain ⟨a,rfl⟩:=List.length_eq_one_iff.1 hl
  exact ⟨a,0,0,0,rfl,rfl⟩
 ·match l,hl with
  | [a,b],_=>exact ⟨a,0,0,b,rfl,rfl⟩
 ·match l,hl with
  | [a,b,c],_=>exact ⟨a,b,c,0,rfl,rfl⟩
 ·match l,hl with
  | [a,b,c,d],_=>exact ⟨a,b,c,d,rfl,rfl⟩
theorem words:∀ k:Nat,1<=k->k<=12->∃ s,jm (k:Int)=some s:=fun k h1 h2=>let ⟨s,h,_⟩:=wordF k h1 h2;⟨s,h⟩
theorem MK (k:Int):∃ u,jT k=some u:=by
 unfold jT
 have ZG:∀ {α:Type} {p:Prop} [Decidable p] (a b:α),(if p then some a else some b)=some (if p then a else b):=by intro α p _ a b;split <;> rfl
 simp only [JD,QQ,ZG]
 exact ⟨_,rfl⟩
set_option maxHeartbeats 40000000 in
theorem jfz (f0 : List UInt8) (rest:List (List UInt8)) (x:Input × Bool) (hx:jP (f0::rest)=some x) (v:Value) (w:World) (hr:Rep (allM w) je (qZ (f0::rest)) v):
 Calls Tryz.prog 80 #[v] w fun e w'=>∃ cs,e=.returned (.tuple #[.agg cs.toArray,.bool x.2])/\Below w.heap.size w w'/\∃ k id vx vy val,cs=inX k id vx vy val/\x.1={ Kind:=k,ID:=id,Vec:=⟨vx,vy⟩,Value:=val,Body:=exB,jn:=exJ }:=by
 obtain ⟨ad,cap,rfl,hcap,hm⟩:=Xi hr
 obtain ⟨blk,off,rfl,hm2⟩:=hm (by simp)
 have c0:w.cell? ⟨blk,off,none⟩=some (.string ⟨f0.toArray⟩):=hm2 0 _ rfl
 have e43:=Tryz.call43
 have e74:=Tryz.call74
 have S0:Hid (PX w (inX 0 0 0 0 0) ((w.alloc (.cells inZ.toArray 77)).alloc (.cells inZ.toArray 77))):=PX.start w
 have HM:Hid (∀ j x,(f0::rest)[j]? = some x->w.cell? ⟨blk,off+j,none⟩=some (.string ⟨x.toArray⟩)):=hm2
 have HX:Hid (wL jm jT jt jl (f0::rest)=some x):=hx
 clear hr hm hm2 hx
 have HC:Hid (w.cell? ⟨blk,off,none⟩=some (.string ⟨f0.toArray⟩)):=c0
 clear c0
 obtain ⟨W0,hW0⟩:∃ W0,W0=((w.alloc (.cells inZ.toArray 77)).alloc (.cells inZ.toArray 77)):=⟨_,rfl⟩
 go_enter Tryz.func80,Tryz.ntmps80
 go_wp2
 go_loopg [5] 12 (fun kx s5 wr=>∃ (i:Nat),s5=.int .i64 ((i:Int)+1)/\i<=12/\12 - i<=kx/\Aside (PX w (inX (qV jm f0 i) 0 0 0 0) wr))
 case atStart=>exact ⟨0,rfl,by omega,by omega,S0.out⟩
 case round =>
  obtain ⟨i,rfl,hi13,hkx,S⟩:=hrel
  by_cases hlt:(i:Int)+1<=12
  ·obtain ⟨s,hs⟩:=words (i+1) (by omega) (by omega)
   have wi:IntKind.i64.wrap ((i:Int)+1+1)=(i:Int)+1+1:=by rw [IntKind.wrap_i64];omega
   have hs':jm ((i:Int)+1)=some s:=hs
   have hc:FnR Tryz.prog 43 [.v (.int .i64 ((i:Int)+1))] (.v (.string ⟨s.toArray⟩)) []:=c_43.ok ((i:Int)+1,()) [.v (.int .i64 ((i:Int)+1))] s ⟨rfl,trivial⟩ hs'
   have kc:∀ w',Below wr.heap.size wr w'->Calls Tryz.prog 43 #[.int .i64 ((i:Int)+1)] w' fun e w''=>e=.returned (.string ⟨s.toArray⟩)/\Below wr.heap.size wr w'':=fun w' hw=>by
    refine (Zv hc w' [.int .i64 ((i:Int)+1)] (.cons .v .nil)).mono ?_
    rintro e w'' ⟨rfl,hb2⟩
    exact ⟨rfl,hw.trans (hb2.mono hw.size)⟩
   have f0c:∀ w',Below wr.heap.size wr w'->w'.cell? ⟨blk,off,none⟩=some (.string ⟨f0.toArray⟩):=fun w' hw=>((Zd w).below (S.out.go hw).bel) _ _ _ HC.out
   have HS:Hid (jm ((i:Int)+1)=some s):=hs'
   clear hc hs hs'
   go_wp2
   refine qk qT (by kernel_rfl) ?_
   go_big_quiet_want
   go_big_quiet_op
   first | go_big_quiet_on | (refine ⟨_,fun _ _=>rfl,?_⟩;go_big_quiet_on)
   go_big_quiet_want
   refine Ku (f:=43) (xs:=#[.tmp 19]) (tys:=#[63]) (vs:=#[.int .i64 ((i:Int)+1)]) (v:=.string ⟨s.toArray⟩) rfl e43 (by simp [Act.eval]) (fun w' hw'=>kc w' hw') ?_
   simp only [Act.put,List.setIfInBounds_toArray,List.set_cons_succ,List.set_cons_zero]
   go_big_quiet_on
   go_big_quiet_want
   go_big_quiet_op
   first | go_big_quiet_on | (refine ⟨_,fun _ _=>rfl,?_⟩;go_big_quiet_on)
   go_big_quiet_want
   go_big_quiet_op
   first | go_big_quiet_on | (refine ⟨_,fun _ _=>rfl,?_⟩;go_big_quiet_on)
   go_big_quiet_want
   refine Yn (ad:=⟨blk,off,none⟩) (v:=.string ⟨f0.toArray⟩) rfl rfl (by kernel_rfl) (fun w' hw=>f0c w' hw) ?_
   simp only [Act.put,List.setIfInBounds_toArray,List.set_cons_succ,List.set_cons_zero]
   go_big_quiet_on
   go_big_quiet_want
   go_big_quiet_op
   first | go_big_quiet_on | (refine ⟨_,fun _ _=>rfl,?_⟩;go_big_quiet_on)
   refine wpQuiet_nil ?_
   intro W1 hW1
   have S1:Hid (PX w (inX (qV jm f0 i) 0 0 0 0) W1):=S.out.go hW1
   clear kc f0c S hW1
   by_cases h1:s=f0
   ·have hq:(s==f0)=true:=by rw [beq_iff_eq];exact h1
    rw [hq]
    have hk:qV jm f0 (i+1)=(i:Int)+1:=by
     show (if jm ((i:Int)+1)=some f0 then (i:Int)+1 else qV jm f0 i)=_
     rw [HS.out,h1,if_pos rfl]
    go_wp2_with (first
     | (refine JE (arr:=inX (qV jm f0 i) 0 0 0 0) rfl rfl rfl rfl rfl rfl (by kernel_rfl) S1.out.x (by exact Nat.lt_of_sub_eq_succ rfl) rfl ?_;intro W2 hX hg;have S2:Aside (PX w (inX ((i:Int)+1) 0 0 0 0) W2):=S1.out.store hX hg;clear hX hg))
    go_roundg (12 - (i+1))
    case measure=>omega
    case rel=>exact ⟨i+1,by simp,by omega,by omega,by rw [hk];exact S2⟩
   ·have hq:(s==f0)=false:=by rw [beq_eq_false_iff_ne];exact h1
    rw [hq]
    have hk:qV jm f0 (i+1)=qV jm f0 i:=by
     show (if jm ((i:Int)+1)=some f0 then (i:Int)+1 else qV jm f0 i)=_
     rw [HS.out,if_neg (fun e=>h1 (Option.some.inj e))]
    have S2:Aside (PX w (inX (qV jm f0 i) 0 0 0 0) W1):=S1.out
    clear S1
    go_wp2
    go_roundg (12 - (i+1))
    case measure=>omega
    case rel=>exact ⟨i+1,by simp,by omega,by omega,by rw [hk];exact S2⟩
  ·have hi : i = 12 := by omega
   subst hi
   obtain ⟨kind,hkind⟩:∃ kind,kind=qV jm f0 12:=⟨_,rfl⟩
   have S1:Hid (PX w (inX kind 0 0 0 0) wr):=by rw [hkind];exact S
   obtain ⟨⟨u1,vec,value⟩,hu⟩:=MK kind
   have HX2:Hid ((if kind=0\/rest.length≠(WT vec value).length then some (qu 0 false false [],false) else match KY jt jl 0 rest with
    | none=>none
    | some none=>some (qu 0 false false [],false)
    | some (some l)=>some (qu kind vec value l,true))=some x):=by
    subst hkind
    have hu':jT (qV jm f0 12)=some (u1,vec,value):=hu
    have:=HX.out
    unfold wL at this
    dsimp only at this
    rw [hu'] at this
    exact this
   clear S S0 HX hW0 hkind hlt hkx
   have d1:wr.cell? ⟨w.heap.size+1,0,none⟩=some (.int .i64 kind):=jD S1.out.x 0 rfl
   have k74:=QE (c_74.ok (kind,()) [.v (.int .i64 kind)] ((u1,vec,value):Bool × Bool × Bool) ⟨rfl,trivial⟩ hu) wr [.int .i64 kind] (.cons .v .nil)
   obtain ⟨i185,a1,a2,a3,a4⟩:=info_parts (P:=Tryz.prog) (e:=185) (z:=.pointer none) (size:=1) (bytes:=8) (by kernel_rfl)
   have HI:Hid (_/\_/\_/\_):=⟨a1,a2,a3,a4⟩
   have ra:tAg Tryz.prog 77=some true:=by kernel_rfl
   have rz:tSz Tryz.prog 77=some 49:=by kernel_rfl
   have HR:Hid (_/\_):=⟨ra,rz⟩
   clear a1 a2 a3 a4 ra rz hu
   cases vec <;> cases value
   all_goals go_upto_region 13 with (first
    | (go_at_call 74;refine k74.mono ?_;rintro e w3 ⟨v,rfl,hb,hrep⟩
       obtain ⟨vs,rfl,hvs⟩:=qe hrep
       first
        | obtain rfl:vs=[.bool u1,.bool false,.bool false]:=Jz (l:=[.bool u1,.bool false,.bool false]) hvs
        | obtain rfl:vs=[.bool u1,.bool false,.bool true]:=Jz (l:=[.bool u1,.bool false,.bool true]) hvs
        | obtain rfl:vs=[.bool u1,.bool true,.bool false]:=Jz (l:=[.bool u1,.bool true,.bool false]) hvs
        | obtain rfl:vs=[.bool u1,.bool true,.bool true]:=Jz (l:=[.bool u1,.bool true,.bool true]) hvs
       have T1:Hid (PT w (inX kind 0 0 0 0) (.slice (some ⟨w3.heap.size,0,none⟩) 1 1) [1] (w3.alloc (.cells #[.pointer (some ⟨w.heap.size+1,1,none⟩)] 185))):=PT.new (S1.out.go hb)
       clear hb hvs hrep k74 d1)
    | (at_builtin;refine Jc rfl (.tmp 37) (.tmp 42) 186 rfl (w.heap.size+2) 185 i185 (.pointer none) 1 8 Tryz.underlying186 HI.out.1 HI.out.2.1 HI.out.2.2.1 HI.out.2.2.2 rfl (by decide) (.slice (some ⟨w3.heap.size,0,none⟩) 1 1) 1 [ptX w 1] rfl (T1.out.go ((Below.refl _ _).alloc (Nat.le_refl _) _)).row ⟨w3.heap.size+1,0,none⟩ 2 2 [.pointer (some ⟨w.heap.size+1,2,none⟩),.pointer (some ⟨w.heap.size+1,3,none⟩)] rfl rfl (Yy _ [.pointer (some ⟨w.heap.size+1,2,none⟩),.pointer (some ⟨w.heap.size+1,3,none⟩)] 185 _ (by simp)) (by intro u hu;simp at hu;rcases hu with rfl | rfl <;> rfl) (by decide) (by decide) (by have:=T1.out.px.lt;simp at this ⊢;omega) (by decide) ?_
       intro v4 w4 hown4 hgrow4 hblk4
       have T2:Hid (PT w (inX kind 0 0 0 0) v4 [1,2,3] w4):=(T1.out.go ((Below.refl _ _).alloc (Nat.le_refl _) _)).app (more:=[2,3]) hown4 hgrow4
       obtain ⟨va,vc,rfl⟩:∃ a c,v4=.slice (some ⟨a,0,none⟩) 3 c:=T2.out.slice (by decide)
       clear hown4 hgrow4 hblk4)
    | (at_builtin;refine Jc rfl (.tmp 45) (.tmp 47) 186 rfl (w.heap.size+2) 185 i185 (.pointer none) 1 8 Tryz.underlying186 HI.out.1 HI.out.2.1 HI.out.2.2.1 HI.out.2.2.2 rfl (by decide) (.slice (some ⟨va,0,none⟩) 3 vc) 3 [ptX w 1,ptX w 2,ptX w 3] rfl (T2.out.go ((Below.refl _ _).alloc (Nat.le_refl _) _)).row ⟨w4.heap.size,0,none⟩ 1 1 [.pointer (some ⟨w.heap.size+1,4,none⟩)] rfl rfl (Yy _ [.pointer (some ⟨w.heap.size+1,4,none⟩)] 185 _ rfl) (by intro u hu;simp at hu;subst hu;rfl) (by decide) (by decide) (by have:=T2.out.px.lt;simp at this ⊢;omega) (by decide) ?_
       intro v5 w5 hown5 hgrow5 hblk5
       have T3:Hid (PT w (inX kind 0 0 0 0) v5 [1,2,3,4] w5):=(T2.out.go ((Below.refl _ _).alloc (Nat.le_refl _) _)).app (more:=[4]) hown5 hgrow5
       obtain ⟨vb,vd,rfl⟩:∃ a c,v5=.slice (some ⟨a,0,none⟩) 4 c:=T3.out.slice (by decide)
       clear hown5 hgrow5 hblk5)
    | (at_builtin;refine Jc rfl (.tmp 45) (.tmp 47) 186 rfl (w.heap.size+2) 185 i185 (.pointer none) 1 8 Tryz.underlying186 HI.out.1 HI.out.2.1 HI.out.2.2.1 HI.out.2.2.2 rfl (by decide) (.slice (some ⟨w3.heap.size,0,none⟩) 1 1) 1 [ptX w 1] rfl (T1.out.go ((Below.refl _ _).alloc (Nat.le_refl _) _)).row ⟨w3.heap.size+1,0,none⟩ 1 1 [.pointer (some ⟨w.heap.size+1,4,none⟩)] rfl rfl (Yy _ [.pointer (some ⟨w.heap.size+1,4,none⟩)] 185 _ (by simp)) (by intro u hu;simp at hu;subst hu;rfl) (by decide) (by decide) (by have:=T1.out.px.lt;simp at this ⊢;omega) (by decide) ?_
       intro v5 w5 hown5 hgrow5 hblk5
       have T3:Hid (PT w (inX kind 0 0 0 0) v5 [1,4] w5):=(T1.out.go ((Below.refl _ _).alloc (Nat.le_refl _) _)).app (more:=[4]) hown5 hgrow5
       obtain ⟨vb,vd,rfl⟩:∃ a c,v5=.slice (some ⟨a,0,none⟩) 2 c:=T3.out.slice (by decide)
       clear hown5 hgrow5 hblk5))
   ·generalize hW5 : w3.alloc (.cells #[.pointer (some ⟨w.heap.size+1,1,none⟩)] 185)=W5 at T1 ⊢
    have T:Hid (PT w (inX kind 0 0 0 0) (.slice (some ⟨w3.heap.size,0,none⟩) 1 1) [1] W5):=T1
    have HX3:Hid ((if kind=0\/rest.length≠1 then some (qu 0 false false [],false) else match KY jt jl 0 rest with
     | none=>none
     | some none=>some (qu 0 false false [],false)
     | some (some l)=>some (qu kind false false l,true))=some x):=HX2.out
    have d2:W5.cell? ⟨w.heap.size+1,0,none⟩=some (.int .i64 kind):=jD T.out.px.x 0 rfl
    by_cases hk0:kind=0
    ·subst hk0
     have ex:(qu 0 false false [],false)=x:=Option.some.inj ((if_pos (.inl rfl)).symm.trans HX3.out)
     go_wp2_with (first
      | (refine jL (cs:=inZ) (arr:=inZ) rfl rfl rfl rfl rfl (by kernel_rfl) T.out.px.z (by exact Nat.le_refl 49) (Yv 0 0 0 0 0) ?_;intro w6 hz hg
         have R5:Hid (w6.heap[w.heap.size]? = some (.cells inZ.toArray 77 (0,0))/\Below w.heap.size w w6):=⟨hz,T.out.px.bel.grown hg T.out.px.bel.size (fun g e=>by have:=Option.some.inj e;omega)⟩;clear hz hg))
     have r0:Tryz.f80.results=#[.cell 2 77,.tmp 3]:=rfl
     refine bodyPost_ret (JB (cs:=inZ) r0 rfl rfl HR.out.1 HR.out.2 R5.out.1) rfl ?_
     subst ex
     exact ⟨inZ,rfl,R5.out.2,0,0,0,0,0,rfl,rfl⟩
    ·by_cases hlen : rest.length=1
     ·have hk1 : (kind==0)=false:=by rw [beq_eq_false_iff_ne];exact hk0
      have hN3:((rest.length:Int)+1 != 2)=false:=by rw [bne_eq_false_iff_eq];omega
      have HX4:Hid ((match KY jt jl 0 rest with
       | none=>none
       | some none=>some (qu 0 false false [],false)
       | some (some l)=>some (qu kind false false l,true))=some x):=(if_neg (by rintro (h | h);exact hk0 h;exact h hlen)).symm.trans HX3.out
      have hl1:rest.length<=1:=by omega
      have hl2:1<=rest.length:=by omega
      clear hlen
      have e124:=Tryz.call124
      have e125:=Tryz.call125
      go_wp2
      go_loopg [63] 1 (fun kx s63 wr=>∃ (i:Nat) (vs:List Int),s63=.int .i64 i/\i<=1/\1 - i<=kx/\vs.length=i/\(match KY jt jl i (rest.drop i) with
       | none=>none
       | some none=>some (qu 0 false false [],false)
       | some (some l)=>some (qu kind false false (vs++l),true))=some x/\Aside (PT w (Ki (inX kind 0 0 0 0) (([1]:List Nat).take i) vs) (.slice (some ⟨w3.heap.size,0,none⟩) 1 1) [1] wr))
      case atStart=>exact ⟨0,[],rfl,by omega,by omega,rfl,HX4.out,T.out⟩
      case round =>
       obtain ⟨i,vs,rfl,him,hkx,hvs,hpar,SL⟩:=hrel
       have S4:Hid (PT w (Ki (inX kind 0 0 0 0) (([1]:List Nat).take i) vs) (.slice (some ⟨w3.heap.size,0,none⟩) 1 1) [1] wr):=SL
       clear SL
       by_cases hlt:(i:Int)<1
       ·obtain ⟨o, ho⟩:∃ o,([1]:List Nat)[i]? = some o:=⟨_,List.getElem?_eq_getElem (by simp;omega)⟩
        obtain ⟨g',c',eg,hcell⟩:=S4.out.cell ho
        have ho5:o<5:=by have:=List.mem_of_getElem? ho;simp at this;omega
        cases eg
        unfold ptX at hcell
        obtain ⟨s,hs⟩:∃ s,rest[i]? = some s:=⟨_,List.getElem?_eq_getElem (by omega)⟩
        have hdrop:rest.drop i=s::rest.drop (i+1):=by
         have h:=(List.getElem?_eq_some_iff.1 hs)
         rw [List.drop_eq_getElem_cons h.1,h.2]
        have cs0:wr.cell? ⟨blk,off+(i+1),none⟩=some (.string ⟨s.toArray⟩):=((Zd w).below S4.out.px.bel) _ _ _ (HM.out (i+1) s (by simpa using hs))
        have w1:IntKind.i64.wrap (1+(i:Int))=((i+1:Nat):Int):=by rw [IntKind.wrap_i64];omega
        have w2:IntKind.i64.wrap ((i:Int)+1)=((i+1:Nat):Int):=by rw [IntKind.wrap_i64];omega
        have pi1:(0:Int)<=((i+1:Nat):Int):=by omega
        have pi2:((i+1:Nat):Int)<(rest.length:Int)+1:=by omega
        have pi3:(0:Int)<=(i:Int):=by omega
        rw [hdrop] at hpar
        cases hp:(if i=0 then jt s else jl s) with
        | none=>rw [KY,hp] at hpar;cases hpar
        | some q =>
          obtain ⟨n,c⟩:=q
          rw [KY,hp] at hpar
          dsimp only at hpar
          have HP:Hid (_):=hpar
          have HD:Hid (_/\_):=⟨ho,ho5⟩
          rcases Decidable.em (i=0) with hi0 | hi0
          all_goals (first
           | (have hp':jt s=some (n,c):=hp.symm.trans (if_pos hi0) |>.symm
              have hbI:((i:Int)==0)=true:=by rw [beq_iff_eq];omega
              have hc:FnR Tryz.prog 125 [qY s] (.tup [.v (.int .i64 n),.v (.int .i64 c)]) []:=jdS.ok (s,()) [qY s] ((n,c):Int × Int) ⟨rfl,trivial⟩ hp'
              have kP:Calls Tryz.prog 125 #[.string ⟨s.toArray⟩] wr fun e w'=>e=.returned (.tuple #[.int .i64 n,.int .i64 c])/\Below wr.heap.size wr w':=by
               refine (QE hc wr [.string ⟨s.toArray⟩] (.cons .v .nil)).mono ?_
               rintro e w' ⟨v,rfl,hb,hrep⟩
               obtain ⟨vs',rfl,hvs'⟩:=qe hrep
               obtain rfl:vs'=[.int .i64 n,.int .i64 c]:=Jz (l:=[.int .i64 n,.int .i64 c]) hvs'
               exact ⟨rfl,hb⟩
              clear hp hp' hc hpar ho ho5 hdrop hs hi0)
           | (have hp':jl s=some (n,c):=hp.symm.trans (if_neg hi0) |>.symm
              have hbI:((i:Int)==0)=false:=by rw [beq_eq_false_iff_ne];omega
              have hc:FnR Tryz.prog 124 [qY s] (.tup [.v (.int .i64 n),.v (.int .i64 c)]) []:=jdT.ok (s,()) [qY s] ((n,c):Int × Int) ⟨rfl,trivial⟩ hp'
              have kP:Calls Tryz.prog 124 #[.string ⟨s.toArray⟩] wr fun e w'=>e=.returned (.tuple #[.int .i64 n,.int .i64 c])/\Below wr.heap.size wr w':=by
               refine (QE hc wr [.string ⟨s.toArray⟩] (.cons .v .nil)).mono ?_
               rintro e w' ⟨v,rfl,hb,hrep⟩
               obtain ⟨vs',rfl,hvs'⟩:=qe hrep
               obtain rfl:vs'=[.int .i64 n,.int .i64 c]:=Jz (l:=[.int .i64 n,.int .i64 c]) hvs'
               exact ⟨rfl,hb⟩
              clear hp hp' hc hpar ho ho5 hdrop hs hi0))
          all_goals
           by_cases hc0:c=0
           ·subst hc0
            go_wp2_with (first
             | (first | go_at_call 125 | go_at_call 124
                refine kP.mono ?_;rintro e w6 ⟨rfl,hb6⟩
                have S5:Hid (PT w (Ki (inX kind 0 0 0 0) (([1]:List Nat).take i) vs) (.slice (some ⟨w3.heap.size,0,none⟩) 1 1) [1] w6):=S4.out.go hb6
                clear hb6 kP)
             | (refine JE (b:=w.heap.size+1) (off:=o) (v:=.int .i64 n) (arr:=Ki (inX kind 0 0 0 0) (([1]:List Nat).take i) vs) rfl rfl rfl rfl rfl rfl (by kernel_rfl) S5.out.px.x (by rw [KS];exact Nat.lt_of_lt_of_le HD.out.2 (by exact Nat.le_of_sub_eq_zero rfl)) rfl ?_
                intro w7 hX7 hg7
                have S6:Hid (PT w ((Ki (inX kind 0 0 0 0) (([1]:List Nat).take i) vs).set o (.int .i64 n)) (.slice (some ⟨w3.heap.size,0,none⟩) 1 1) [1] w7):=S5.out.store hX7 hg7
                clear hX7 hg7))
            go_roundg (1 - (i+1))
            case measure=>omega
            case rel=>
             have ht:([1]:List Nat).take (i+1)=([1]:List Nat).take i++[o]:=by rw [List.take_succ,HD.out.1];rfl
             refine ⟨i+1,vs++[n],by simp,by omega,by omega,by simp [hvs],?_,?_⟩
             ·have hq:=HP.out
              rw [if_neg (by simp)] at hq
              revert hq
              cases KY jt jl (i+1) (rest.drop (i+1)) with
              | none=>exact id
              | some y=>cases y with
                | none=>exact id
                | some l=>intro hq;show some (qu _ _ _ (vs++[n]++l),true)=some x;rw [List.append_assoc];exact hq
             ·rw [ht,kj o n _ vs _ (by rw [List.length_take,hvs];simp;omega)]
              exact S6.out
           ·have hc1:(c==0)=false:=by rw [beq_eq_false_iff_ne];exact hc0
            have hc2:(c != 0)=true:=by rw [bne_iff_ne];exact hc0
            have ex:(qu 0 false false [],false)=x:=by
             have hq:=HP.out
             rw [if_pos hc0] at hq
             exact Option.some.inj hq
            go_wp2_with (first
             | (first | go_at_call 125 | go_at_call 124
                refine kP.mono ?_;rintro e w6 ⟨rfl,hb6⟩
                have S5:Hid (PT w (Ki (inX kind 0 0 0 0) (([1]:List Nat).take i) vs) (.slice (some ⟨w3.heap.size,0,none⟩) 1 1) [1] w6):=S4.out.go hb6
                clear hb6 kP)
             | (refine jL (cs:=inZ) (arr:=inZ) rfl rfl rfl rfl rfl (by kernel_rfl) S5.out.px.z (by exact Nat.le_refl 49) (Yv 0 0 0 0 0) ?_;intro w7 hz hg
                have R5:Hid (w7.heap[w.heap.size]? = some (.cells inZ.toArray 77 (0,0))/\Below w.heap.size w w7):=⟨hz,S5.out.px.bel.grown hg S5.out.px.bel.size (fun g e=>by have:=Option.some.inj e;omega)⟩;clear hz hg))
            have r0:Tryz.f80.results=#[.cell 2 77,.tmp 3]:=rfl
            refine bodyPost_ret (JB (cs:=inZ) r0 rfl rfl HR.out.1 HR.out.2 R5.out.1) rfl ?_
            subst ex
            exact ⟨inZ,rfl,R5.out.2,0,0,0,0,0,rfl,rfl⟩
       ·have hi:i=1:=by omega
        subst hi
        have hdr:rest.drop 1=[]:=List.drop_eq_nil_of_le (by omega)
        rw [hdr] at hpar
        have ex:(qu kind false false (vs++[]),true)=x:=Option.some.inj hpar
        rw [List.append_nil] at ex
        obtain ⟨id_,vx,vy,val_,hcs,hmk⟩:=kT kind false false vs (by rw [hvs];rfl)
        have S5:Hid (PT w (inX kind id_ vx vy val_) (.slice (some ⟨w3.heap.size,0,none⟩) 1 1) [1] wr):=by rw [<- hcs];exact S4.out
        clear S4 hpar
        go_wp2_with (first
         | (refine YB (b:=w.heap.size+1) (off:=0) (cs:=inX kind id_ vx vy val_) (arr:=(inX kind id_ vx vy val_).toArray) rfl rfl rfl rfl HR.out.1 HR.out.2 S5.out.px.x (fun j v e=>by rw [Nat.zero_add];simpa using e) ?_)
         | (refine jL (cs:=inX kind id_ vx vy val_) (arr:=inZ) rfl rfl rfl rfl rfl (by kernel_rfl) S5.out.px.z (by exact Nat.le_refl 49) (Yv _ _ _ _ _) ?_;intro w7 hz hg
            have R5:Hid (w7.heap[w.heap.size]? = some (.cells (inX kind id_ vx vy val_).toArray 77 (0,0))/\Below w.heap.size w w7):=⟨hz,S5.out.px.bel.grown hg S5.out.px.bel.size (fun g e=>by have:=Option.some.inj e;omega)⟩;clear hz hg))
        have r0:Tryz.f80.results=#[.cell 2 77,.tmp 3]:=rfl
        refine bodyPost_ret (JB (cs:=inX kind id_ vx vy val_) r0 rfl rfl HR.out.1 HR.out.2 R5.out.1) rfl ?_
        subst ex
        exact ⟨_,rfl,R5.out.2,kind,id_,vx,vy,val_,rfl,hmk⟩
     ·have hN3:((rest.length:Int)+1 != 2)=true:=by rw [bne_iff_ne];omega
      have hk1:(kind==0)=false:=by rw [beq_eq_false_iff_ne];exact hk0
      have ex:(qu 0 false false [],false)=x:=Option.some.inj ((if_pos (.inr (by omega))).symm.trans HX3.out)
      go_wp2_with (first
       | (refine jL (cs:=inZ) (arr:=inZ) rfl rfl rfl rfl rfl (by kernel_rfl) T.out.px.z (by exact Nat.le_refl 49) (Yv 0 0 0 0 0) ?_;intro w6 hz hg
          have R5:Hid (w6.heap[w.heap.size]? = some (.cells inZ.toArray 77 (0,0))/\Below w.heap.size w w6):=⟨hz,T.out.px.bel.grown hg T.out.px.bel.size (fun g e=>by have:=Option.some.inj e;omega)⟩;clear hz hg))
      have r0:Tryz.f80.results=#[.cell 2 77,.tmp 3]:=rfl
      refine bodyPost_ret (JB (cs:=inZ) r0 rfl rfl HR.out.1 HR.out.2 R5.out.1) rfl ?_
      subst ex
      exact ⟨inZ,rfl,R5.out.2,0,0,0,0,0,rfl,rfl⟩
   ·have T : Hid (PT w (inX kind 0 0 0 0) (.slice (some ⟨vb,0,none⟩) 2 vd) [1,4] w5):=T3
    have HX3:Hid ((if kind=0\/rest.length≠2 then some (qu 0 false false [],false) else match KY jt jl 0 rest with
     | none=>none
     | some none=>some (qu 0 false false [],false)
     | some (some l)=>some (qu kind false true l,true))=some x):=HX2.out
    have d2:w5.cell? ⟨w.heap.size+1,0,none⟩=some (.int .i64 kind):=jD T.out.px.x 0 rfl
    by_cases hk0:kind=0
    ·subst hk0
     have ex:(qu 0 false false [],false)=x:=Option.some.inj ((if_pos (.inl rfl)).symm.trans HX3.out)
     go_wp2_with (first
      | (refine jL (cs:=inZ) (arr:=inZ) rfl rfl rfl rfl rfl (by kernel_rfl) T.out.px.z (by exact Nat.le_refl 49) (Yv 0 0 0 0 0) ?_;intro w6 hz hg
         have R5:Hid (w6.heap[w.heap.size]? = some (.cells inZ.toArray 77 (0,0))/\Below w.heap.size w w6):=⟨hz,T.out.px.bel.grown hg T.out.px.bel.size (fun g e=>by have:=Option.some.inj e;omega)⟩;clear hz hg))
     have r0:Tryz.f80.results=#[.cell 2 77,.tmp 3]:=rfl
     refine bodyPost_ret (JB (cs:=inZ) r0 rfl rfl HR.out.1 HR.out.2 R5.out.1) rfl ?_
     subst ex
     exact ⟨inZ,rfl,R5.out.2,0,0,0,0,0,rfl,rfl⟩
    ·by_cases hlen : rest.length=2
     ·have hk1 : (kind==0)=false:=by rw [beq_eq_false_iff_ne];exact hk0
      have hN3:((rest.length:Int)+1 != 3)=false:=by rw [bne_eq_false_iff_eq];omega
      have HX4:Hid ((match KY jt jl 0 rest with
       | none=>none
       | some none=>some (qu 0 false false [],false)
       | some (some l)=>some (qu kind false true l,true))=some x):=(if_neg (by rintro (h | h);exact hk0 h;exact h hlen)).symm.trans HX3.out
      have hl1:rest.length<=2:=by omega
      have hl2:2<=rest.length:=by omega
      clear hlen
      have e124:=Tryz.call124
      have e125:=Tryz.call125
      go_wp2
      go_loopg [63] 2 (fun kx s63 wr=>∃ (i:Nat) (vs:List Int),s63=.int .i64 i/\i<=2/\2 - i<=kx/\vs.length=i/\(match KY jt jl i (rest.drop i) with
       | none=>none
       | some none=>some (qu 0 false false [],false)
       | some (some l)=>some (qu kind false true (vs++l),true))=some x/\Aside (PT w (Ki (inX kind 0 0 0 0) (([1,4]:List Nat).take i) vs) (.slice (some ⟨vb,0,none⟩) 2 vd) [1,4] wr))
      case atStart=>exact ⟨0,[],rfl,by omega,by omega,rfl,HX4.out,T.out⟩
      case round =>
       obtain ⟨i,vs,rfl,him,hkx,hvs,hpar,SL⟩:=hrel
       have S4:Hid (PT w (Ki (inX kind 0 0 0 0) (([1,4]:List Nat).take i) vs) (.slice (some ⟨vb,0,none⟩) 2 vd) [1,4] wr):=SL
       clear SL
       by_cases hlt:(i:Int)<2
       ·obtain ⟨o, ho⟩:∃ o,([1,4]:List Nat)[i]? = some o:=⟨_,List.getElem?_eq_getElem (by simp;omega)⟩
        obtain ⟨g',c',eg,hcell⟩:=S4.out.cell ho
        have ho5:o<5:=by have:=List.mem_of_getElem? ho;simp at this;omega
        cases eg
        unfold ptX at hcell
        obtain ⟨s,hs⟩:∃ s,rest[i]? = some s:=⟨_,List.getElem?_eq_getElem (by omega)⟩
        have hdrop:rest.drop i=s::rest.drop (i+1):=by
         have h:=(List.getElem?_eq_some_iff.1 hs)
         rw [List.drop_eq_getElem_cons h.1,h.2]
        have cs0:wr.cell? ⟨blk,off+(i+1),none⟩=some (.string ⟨s.toArray⟩):=((Zd w).below S4.out.px.bel) _ _ _ (HM.out (i+1) s (by simpa using hs))
        have w1:IntKind.i64.wrap (1+(i:Int))=((i+1:Nat):Int):=by rw [IntKind.wrap_i64];omega
        have w2:IntKind.i64.wrap ((i:Int)+1)=((i+1:Nat):Int):=by rw [IntKind.wrap_i64];omega
        have pi1:(0:Int)<=((i+1:Nat):Int):=by omega
        have pi2:((i+1:Nat):Int)<(rest.length:Int)+1:=by omega
        have pi3:(0:Int)<=(i:Int):=by omega
        rw [hdrop] at hpar
        cases hp:(if i=0 then jt s else jl s) with
        | none=>rw [KY,hp] at hpar;cases hpar
        | some q =>
          obtain ⟨n,c⟩:=q
          rw [KY,hp] at hpar
          dsimp only at hpar
          have HP:Hid (_):=hpar
          have HD:Hid (_/\_):=⟨ho,ho5⟩
          rcases Decidable.em (i=0) with hi0 | hi0
          all_goals (first
           | (have hp':jt s=some (n,c):=hp.symm.trans (if_pos hi0) |>.symm
              have hbI:((i:Int)==0)=true:=by rw [beq_iff_eq];omega
              have hc:FnR Tryz.prog 125 [qY s] (.tup [.v (.int .i64 n),.v (.int .i64 c)]) []:=jdS.ok (s,()) [qY s] ((n,c):Int × Int) ⟨rfl,trivial⟩ hp'
              have kP:Calls Tryz.prog 125 #[.string ⟨s.toArray⟩] wr fun e w'=>e=.returned (.tuple #[.int .i64 n,.int .i64 c])/\Below wr.heap.size wr w':=by
               refine (QE hc wr [.string ⟨s.toArray⟩] (.cons .v .nil)).mono ?_
               rintro e w' ⟨v,rfl,hb,hrep⟩
               obtain ⟨vs',rfl,hvs'⟩:=qe hrep
               obtain rfl:vs'=[.int .i64 n,.int .i64 c]:=Jz (l:=[.int .i64 n,.int .i64 c]) hvs'
               exact ⟨rfl,hb⟩
              clear hp hp' hc hpar ho ho5 hdrop hs hi0)
           | (have hp':jl s=some (n,c):=hp.symm.trans (if_neg hi0) |>.symm
              have hbI:((i:Int)==0)=false:=by rw [beq_eq_false_iff_ne];omega
              have hc:FnR Tryz.prog 124 [qY s] (.tup [.v (.int .i64 n),.v (.int .i64 c)]) []:=jdT.ok (s,()) [qY s] ((n,c):Int × Int) ⟨rfl,trivial⟩ hp'
              have kP:Calls Tryz.prog 124 #[.string ⟨s.toArray⟩] wr fun e w'=>e=.returned (.tuple #[.int .i64 n,.int .i64 c])/\Below wr.heap.size wr w':=by
               refine (QE hc wr [.string ⟨s.toArray⟩] (.cons .v .nil)).mono ?_
               rintro e w' ⟨v,rfl,hb,hrep⟩
               obtain ⟨vs',rfl,hvs'⟩:=qe hrep
               obtain rfl:vs'=[.int .i64 n,.int .i64 c]:=Jz (l:=[.int .i64 n,.int .i64 c]) hvs'
               exact ⟨rfl,hb⟩
              clear hp hp' hc hpar ho ho5 hdrop hs hi0))
          all_goals
           by_cases hc0:c=0
           ·subst hc0
            go_wp2_with (first
             | (first | go_at_call 125 | go_at_call 124
                refine kP.mono ?_;rintro e w6 ⟨rfl,hb6⟩
                have S5:Hid (PT w (Ki (inX kind 0 0 0 0) (([1,4]:List Nat).take i) vs) (.slice (some ⟨vb,0,none⟩) 2 vd) [1,4] w6):=S4.out.go hb6
                clear hb6 kP)
             | (refine JE (b:=w.heap.size+1) (off:=o) (v:=.int .i64 n) (arr:=Ki (inX kind 0 0 0 0) (([1,4]:List Nat).take i) vs) rfl rfl rfl rfl rfl rfl (by kernel_rfl) S5.out.px.x (by rw [KS];exact Nat.lt_of_lt_of_le HD.out.2 (by exact Nat.le_of_sub_eq_zero rfl)) rfl ?_
                intro w7 hX7 hg7
                have S6:Hid (PT w ((Ki (inX kind 0 0 0 0) (([1,4]:List Nat).take i) vs).set o (.int .i64 n)) (.slice (some ⟨vb,0,none⟩) 2 vd) [1,4] w7):=S5.out.store hX7 hg7
                clear hX7 hg7))
            go_roundg (2 - (i+1))
            case measure=>omega
            case rel=>
             have ht:([1,4]:List Nat).take (i+1)=([1,4]:List Nat).take i++[o]:=by rw [List.take_succ,HD.out.1];rfl
             refine ⟨i+1,vs++[n],by simp,by omega,by omega,by simp [hvs],?_,?_⟩
             ·have hq:=HP.out
              rw [if_neg (by simp)] at hq
              revert hq
              cases KY jt jl (i+1) (rest.drop (i+1)) with
              | none=>exact id
              | some y=>cases y with
                | none=>exact id
                | some l=>intro hq;show some (qu _ _ _ (vs++[n]++l),true)=some x;rw [List.append_assoc];exact hq
             ·rw [ht,kj o n _ vs _ (by rw [List.length_take,hvs];simp;omega)]
              exact S6.out
           ·have hc1:(c==0)=false:=by rw [beq_eq_false_iff_ne];exact hc0
            have hc2:(c != 0)=true:=by rw [bne_iff_ne];exact hc0
            have ex:(qu 0 false false [],false)=x:=by
             have hq:=HP.out
             rw [if_pos hc0] at hq
             exact Option.some.inj hq
            go_wp2_with (first
             | (first | go_at_call 125 | go_at_call 124
                refine kP.mono ?_;rintro e w6 ⟨rfl,hb6⟩
                have S5:Hid (PT w (Ki (inX kind 0 0 0 0) (([1,4]:List Nat).take i) vs) (.slice (some ⟨vb,0,none⟩) 2 vd) [1,4] w6):=S4.out.go hb6
                clear hb6 kP)
             | (refine jL (cs:=inZ) (arr:=inZ) rfl rfl rfl rfl rfl (by kernel_rfl) S5.out.px.z (by exact Nat.le_refl 49) (Yv 0 0 0 0 0) ?_;intro w7 hz hg
                have R5:Hid (w7.heap[w.heap.size]? = some (.cells inZ.toArray 77 (0,0))/\Below w.heap.size w w7):=⟨hz,S5.out.px.bel.grown hg S5.out.px.bel.size (fun g e=>by have:=Option.some.inj e;omega)⟩;clear hz hg))
            have r0:Tryz.f80.results=#[.cell 2 77,.tmp 3]:=rfl
            refine bodyPost_ret (JB (cs:=inZ) r0 rfl rfl HR.out.1 HR.out.2 R5.out.1) rfl ?_
            subst ex
            exact ⟨inZ,rfl,R5.out.2,0,0,0,0,0,rfl,rfl⟩
       ·have hi:i=2:=by omega
        subst hi
        have hdr:rest.drop 2=[]:=List.drop_eq_nil_of_le (by omega)
        rw [hdr] at hpar
        have ex:(qu kind false true (vs++[]),true)=x:=Option.some.inj hpar
        rw [List.append_nil] at ex
        obtain ⟨id_,vx,vy,val_,hcs,hmk⟩:=kT kind false true vs (by rw [hvs];rfl)
        have S5:Hid (PT w (inX kind id_ vx vy val_) (.slice (some ⟨vb,0,none⟩) 2 vd) [1,4] wr):=by rw [<- hcs];exact S4.out
        clear S4 hpar
        go_wp2_with (first
         | (refine YB (b:=w.heap.size+1) (off:=0) (cs:=inX kind id_ vx vy val_) (arr:=(inX kind id_ vx vy val_).toArray) rfl rfl rfl rfl HR.out.1 HR.out.2 S5.out.px.x (fun j v e=>by rw [Nat.zero_add];simpa using e) ?_)
         | (refine jL (cs:=inX kind id_ vx vy val_) (arr:=inZ) rfl rfl rfl rfl rfl (by kernel_rfl) S5.out.px.z (by exact Nat.le_refl 49) (Yv _ _ _ _ _) ?_;intro w7 hz hg
            have R5:Hid (w7.heap[w.heap.size]? = some (.cells (inX kind id_ vx vy val_).toArray 77 (0,0))/\Below w.heap.size w w7):=⟨hz,S5.out.px.bel.grown hg S5.out.px.bel.size (fun g e=>by have:=Option.some.inj e;omega)⟩;clear hz hg))
        have r0:Tryz.f80.results=#[.cell 2 77,.tmp 3]:=rfl
        refine bodyPost_ret (JB (cs:=inX kind id_ vx vy val_) r0 rfl rfl HR.out.1 HR.out.2 R5.out.1) rfl ?_
        subst ex
        exact ⟨_,rfl,R5.out.2,kind,id_,vx,vy,val_,rfl,hmk⟩
     ·have hN3:((rest.length:Int)+1 != 3)=true:=by rw [bne_iff_ne];omega
      have hk1:(kind==0)=false:=by rw [beq_eq_false_iff_ne];exact hk0
      have ex:(qu 0 false false [],false)=x:=Option.some.inj ((if_pos (.inr (by omega))).symm.trans HX3.out)
      go_wp2_with (first
       | (refine jL (cs:=inZ) (arr:=inZ) rfl rfl rfl rfl rfl (by kernel_rfl) T.out.px.z (by exact Nat.le_refl 49) (Yv 0 0 0 0 0) ?_;intro w6 hz hg
          have R5:Hid (w6.heap[w.heap.size]? = some (.cells inZ.toArray 77 (0,0))/\Below w.heap.size w w6):=⟨hz,T.out.px.bel.grown hg T.out.px.bel.size (fun g e=>by have:=Option.some.inj e;omega)⟩;clear hz hg))
      have r0:Tryz.f80.results=#[.cell 2 77,.tmp 3]:=rfl
      refine bodyPost_ret (JB (cs:=inZ) r0 rfl rfl HR.out.1 HR.out.2 R5.out.1) rfl ?_
      subst ex
      exact ⟨inZ,rfl,R5.out.2,0,0,0,0,0,rfl,rfl⟩
   ·have T : Hid (PT w (inX kind 0 0 0 0) (.slice (some ⟨va,0,none⟩) 3 vc) [1,2,3] w4):=T2
    have HX3:Hid ((if kind=0\/rest.length≠3 then some (qu 0 false false [],false) else match KY jt jl 0 rest with
     | none=>none
     | some none=>some (qu 0 false false [],false)
     | some (some l)=>some (qu kind true false l,true))=some x):=HX2.out
    have d2:w4.cell? ⟨w.heap.size+1,0,none⟩=some (.int .i64 kind):=jD T.out.px.x 0 rfl
    by_cases hk0:kind=0
    ·subst hk0
     have ex:(qu 0 false false [],false)=x:=Option.some.inj ((if_pos (.inl rfl)).symm.trans HX3.out)
     go_wp2_with (first
      | (refine jL (cs:=inZ) (arr:=inZ) rfl rfl rfl rfl rfl (by kernel_rfl) T.out.px.z (by exact Nat.le_refl 49) (Yv 0 0 0 0 0) ?_;intro w6 hz hg
         have R5:Hid (w6.heap[w.heap.size]? = some (.cells inZ.toArray 77 (0,0))/\Below w.heap.size w w6):=⟨hz,T.out.px.bel.grown hg T.out.px.bel.size (fun g e=>by have:=Option.some.inj e;omega)⟩;clear hz hg))
     have r0:Tryz.f80.results=#[.cell 2 77,.tmp 3]:=rfl
     refine bodyPost_ret (JB (cs:=inZ) r0 rfl rfl HR.out.1 HR.out.2 R5.out.1) rfl ?_
     subst ex
     exact ⟨inZ,rfl,R5.out.2,0,0,0,0,0,rfl,rfl⟩
    ·by_cases hlen : rest.length=3
     ·have hk1 : (kind==0)=false:=by rw [beq_eq_false_iff_ne];exact hk0
      have hN3:((rest.length:Int)+1 != 4)=false:=by rw [bne_eq_false_iff_eq];omega
      have HX4:Hid ((match KY jt jl 0 rest with
       | none=>none
       | some none=>some (qu 0 false false [],false)
       | some (some l)=>some (qu kind true false l,true))=some x):=(if_neg (by rintro (h | h);exact hk0 h;exact h hlen)).symm.trans HX3.out
      have hl1:rest.length<=3:=by omega
      have hl2:3<=rest.length:=by omega
      clear hlen
      have e124:=Tryz.call124
      have e125:=Tryz.call125
      go_wp2
      go_loopg [63] 3 (fun kx s63 wr=>∃ (i:Nat) (vs:List Int),s63=.int .i64 i/\i<=3/\3 - i<=kx/\vs.length=i/\(match KY jt jl i (rest.drop i) with
       | none=>none
       | some none=>some (qu 0 false false [],false)
       | some (some l)=>some (qu kind true false (vs++l),true))=some x/\Aside (PT w (Ki (inX kind 0 0 0 0) (([1,2,3]:List Nat).take i) vs) (.slice (some ⟨va,0,none⟩) 3 vc) [1,2,3] wr))
      case atStart=>exact ⟨0,[],rfl,by omega,by omega,rfl,HX4.out,T.out⟩
      case round =>
       obtain ⟨i,vs,rfl,him,hkx,hvs,hpar,SL⟩:=hrel
       have S4:Hid (PT w (Ki (inX kind 0 0 0 0) (([1,2,3]:List Nat).take i) vs) (.slice (some ⟨va,0,none⟩) 3 vc) [1,2,3] wr):=SL
       clear SL
       by_cases hlt:(i:Int)<3
       ·obtain ⟨o, ho⟩:∃ o,([1,2,3]:List Nat)[i]? = some o:=⟨_,List.getElem?_eq_getElem (by simp;omega)⟩
        obtain ⟨g',c',eg,hcell⟩:=S4.out.cell ho
        have ho5:o<5:=by have:=List.mem_of_getElem? ho;simp at this;omega
        cases eg
        unfold ptX at hcell
        obtain ⟨s,hs⟩:∃ s,rest[i]? = some s:=⟨_,List.getElem?_eq_getElem (by omega)⟩
        have hdrop:rest.drop i=s::rest.drop (i+1):=by
         have h:=(List.getElem?_eq_some_iff.1 hs)
         rw [List.drop_eq_getElem_cons h.1,h.2]
        have cs0:wr.cell? ⟨blk,off+(i+1),none⟩=some (.string ⟨s.toArray⟩):=((Zd w).below S4.out.px.bel) _ _ _ (HM.out (i+1) s (by simpa using hs))
        have w1:IntKind.i64.wrap (1+(i:Int))=((i+1:Nat):Int):=by rw [IntKind.wrap_i64];omega
        have w2:IntKind.i64.wrap ((i:Int)+1)=((i+1:Nat):Int):=by rw [IntKind.wrap_i64];omega
        have pi1:(0:Int)<=((i+1:Nat):Int):=by omega
        have pi2:((i+1:Nat):Int)<(rest.length:Int)+1:=by omega
        have pi3:(0:Int)<=(i:Int):=by omega
        rw [hdrop] at hpar
        cases hp:(if i=0 then jt s else jl s) with
        | none=>rw [KY,hp] at hpar;cases hpar
        | some q =>
          obtain ⟨n,c⟩:=q
          rw [KY,hp] at hpar
          dsimp only at hpar
          have HP:Hid (_):=hpar
          have HD:Hid (_/\_):=⟨ho,ho5⟩
          rcases Decidable.em (i=0) with hi0 | hi0
          all_goals (first
           | (have hp':jt s=some (n,c):=hp.symm.trans (if_pos hi0) |>.symm
              have hbI:((i:Int)==0)=true:=by rw [beq_iff_eq];omega
              have hc:FnR Tryz.prog 125 [qY s] (.tup [.v (.int .i64 n),.v (.int .i64 c)]) []:=jdS.ok (s,()) [qY s] ((n,c):Int × Int) ⟨rfl,trivial⟩ hp'
              have kP:Calls Tryz.prog 125 #[.string ⟨s.toArray⟩] wr fun e w'=>e=.returned (.tuple #[.int .i64 n,.int .i64 c])/\Below wr.heap.size wr w':=by
               refine (QE hc wr [.string ⟨s.toArray⟩] (.cons .v .nil)).mono ?_
               rintro e w' ⟨v,rfl,hb,hrep⟩
               obtain ⟨vs',rfl,hvs'⟩:=qe hrep
               obtain rfl:vs'=[.int .i64 n,.int .i64 c]:=Jz (l:=[.int .i64 n,.int .i64 c]) hvs'
               exact ⟨rfl,hb⟩
              clear hp hp' hc hpar ho ho5 hdrop hs hi0)
           | (have hp':jl s=some (n,c):=hp.symm.trans (if_neg hi0) |>.symm
              have hbI:((i:Int)==0)=false:=by rw [beq_eq_false_iff_ne];omega
              have hc:FnR Tryz.prog 124 [qY s] (.tup [.v (.int .i64 n),.v (.int .i64 c)]) []:=jdT.ok (s,()) [qY s] ((n,c):Int × Int) ⟨rfl,trivial⟩ hp'
              have kP:Calls Tryz.prog 124 #[.string ⟨s.toArray⟩] wr fun e w'=>e=.returned (.tuple #[.int .i64 n,.int .i64 c])/\Below wr.heap.size wr w':=by
               refine (QE hc wr [.string ⟨s.toArray⟩] (.cons .v .nil)).mono ?_
               rintro e w' ⟨v,rfl,hb,hrep⟩
               obtain ⟨vs',rfl,hvs'⟩:=qe hrep
               obtain rfl:vs'=[.int .i64 n,.int .i64 c]:=Jz (l:=[.int .i64 n,.int .i64 c]) hvs'
               exact ⟨rfl,hb⟩
              clear hp hp' hc hpar ho ho5 hdrop hs hi0))
          all_goals
           by_cases hc0:c=0
           ·subst hc0
            go_wp2_with (first
             | (first | go_at_call 125 | go_at_call 124
                refine kP.mono ?_;rintro e w6 ⟨rfl,hb6⟩
                have S5:Hid (PT w (Ki (inX kind 0 0 0 0) (([1,2,3]:List Nat).take i) vs) (.slice (some ⟨va,0,none⟩) 3 vc) [1,2,3] w6):=S4.out.go hb6
                clear hb6 kP)
             | (refine JE (b:=w.heap.size+1) (off:=o) (v:=.int .i64 n) (arr:=Ki (inX kind 0 0 0 0) (([1,2,3]:List Nat).take i) vs) rfl rfl rfl rfl rfl rfl (by kernel_rfl) S5.out.px.x (by rw [KS];exact Nat.lt_of_lt_of_le HD.out.2 (by exact Nat.le_of_sub_eq_zero rfl)) rfl ?_
                intro w7 hX7 hg7
                have S6:Hid (PT w ((Ki (inX kind 0 0 0 0) (([1,2,3]:List Nat).take i) vs).set o (.int .i64 n)) (.slice (some ⟨va,0,none⟩) 3 vc) [1,2,3] w7):=S5.out.store hX7 hg7
                clear hX7 hg7))
            go_roundg (3 - (i+1))
            case measure=>omega
            case rel=>
             have ht:([1,2,3]:List Nat).take (i+1)=([1,2,3]:List Nat).take i++[o]:=by rw [List.take_succ,HD.out.1];rfl
             refine ⟨i+1,vs++[n],by simp,by omega,by omega,by simp [hvs],?_,?_⟩
             ·have hq:=HP.out
              rw [if_neg (by simp)] at hq
              revert hq
              cases KY jt jl (i+1) (rest.drop (i+1)) with
              | none=>exact id
              | some y=>cases y with
                | none=>exact id
                | some l=>intro hq;show some (qu _ _ _ (vs++[n]++l),true)=some x;rw [List.append_assoc];exact hq
             ·rw [ht,kj o n _ vs _ (by rw [List.length_take,hvs];simp;omega)]
              exact S6.out
           ·have hc1:(c==0)=false:=by rw [beq_eq_false_iff_ne];exact hc0
            have hc2:(c != 0)=true:=by rw [bne_iff_ne];exact hc0
            have ex:(qu 0 false false [],false)=x:=by
             have hq:=HP.out
             rw [if_pos hc0] at hq
             exact Option.some.inj hq
            go_wp2_with (first
             | (first | go_at_call 125 | go_at_call 124
                refine kP.mono ?_;rintro e w6 ⟨rfl,hb6⟩
                have S5:Hid (PT w (Ki (inX kind 0 0 0 0) (([1,2,3]:List Nat).take i) vs) (.slice (some ⟨va,0,none⟩) 3 vc) [1,2,3] w6):=S4.out.go hb6
                clear hb6 kP)
             | (refine jL (cs:=inZ) (arr:=inZ) rfl rfl rfl rfl rfl (by kernel_rfl) S5.out.px.z (by exact Nat.le_refl 49) (Yv 0 0 0 0 0) ?_;intro w7 hz hg
                have R5:Hid (w7.heap[w.heap.size]? = some (.cells inZ.toArray 77 (0,0))/\Below w.heap.size w w7):=⟨hz,S5.out.px.bel.grown hg S5.out.px.bel.size (fun g e=>by have:=Option.some.inj e;omega)⟩;clear hz hg))
            have r0:Tryz.f80.results=#[.cell 2 77,.tmp 3]:=rfl
            refine bodyPost_ret (JB (cs:=inZ) r0 rfl rfl HR.out.1 HR.out.2 R5.out.1) rfl ?_
            subst ex
            exact ⟨inZ,rfl,R5.out.2,0,0,0,0,0,rfl,rfl⟩
       ·have hi:i=3:=by omega
        subst hi
        have hdr:rest.drop 3=[]:=List.drop_eq_nil_of_le (by omega)
        rw [hdr] at hpar
        have ex:(qu kind true false (vs++[]),true)=x:=Option.some.inj hpar
        rw [List.append_nil] at ex
        obtain ⟨id_,vx,vy,val_,hcs,hmk⟩:=kT kind true false vs (by rw [hvs];rfl)
        have S5:Hid (PT w (inX kind id_ vx vy val_) (.slice (some ⟨va,0,none⟩) 3 vc) [1,2,3] wr):=by rw [<- hcs];exact S4.out
        clear S4 hpar
        go_wp2_with (first
         | (refine YB (b:=w.heap.size+1) (off:=0) (cs:=inX kind id_ vx vy val_) (arr:=(inX kind id_ vx vy val_).toArray) rfl rfl rfl rfl HR.out.1 HR.out.2 S5.out.px.x (fun j v e=>by rw [Nat.zero_add];simpa using e) ?_)
         | (refine jL (cs:=inX kind id_ vx vy val_) (arr:=inZ) rfl rfl rfl rfl rfl (by kernel_rfl) S5.out.px.z (by exact Nat.le_refl 49) (Yv _ _ _ _ _) ?_;intro w7 hz hg
            have R5:Hid (w7.heap[w.heap.size]? = some (.cells (inX kind id_ vx vy val_).toArray 77 (0,0))/\Below w.heap.size w w7):=⟨hz,S5.out.px.bel.grown hg S5.out.px.bel.size (fun g e=>by have:=Option.some.inj e;omega)⟩;clear hz hg))
        have r0:Tryz.f80.results=#[.cell 2 77,.tmp 3]:=rfl
        refine bodyPost_ret (JB (cs:=inX kind id_ vx vy val_) r0 rfl rfl HR.out.1 HR.out.2 R5.out.1) rfl ?_
        subst ex
        exact ⟨_,rfl,R5.out.2,kind,id_,vx,vy,val_,rfl,hmk⟩
     ·have hN3:((rest.length:Int)+1 != 4)=true:=by rw [bne_iff_ne];omega
      have hk1:(kind==0)=false:=by rw [beq_eq_false_iff_ne];exact hk0
      have ex:(qu 0 false false [],false)=x:=Option.some.inj ((if_pos (.inr (by omega))).symm.trans HX3.out)
      go_wp2_with (first
       | (refine jL (cs:=inZ) (arr:=inZ) rfl rfl rfl rfl rfl (by kernel_rfl) T.out.px.z (by exact Nat.le_refl 49) (Yv 0 0 0 0 0) ?_;intro w6 hz hg
          have R5:Hid (w6.heap[w.heap.size]? = some (.cells inZ.toArray 77 (0,0))/\Below w.heap.size w w6):=⟨hz,T.out.px.bel.grown hg T.out.px.bel.size (fun g e=>by have:=Option.some.inj e;omega)⟩;clear hz hg))
      have r0:Tryz.f80.results=#[.cell 2 77,.tmp 3]:=rfl
      refine bodyPost_ret (JB (cs:=inZ) r0 rfl rfl HR.out.1 HR.out.2 R5.out.1) rfl ?_
      subst ex
      exact ⟨inZ,rfl,R5.out.2,0,0,0,0,0,rfl,rfl⟩
   ·have T : Hid (PT w (inX kind 0 0 0 0) (.slice (some ⟨vb,0,none⟩) 4 vd) [1,2,3,4] w5):=T3
    have HX3:Hid ((if kind=0\/rest.length≠4 then some (qu 0 false false [],false) else match KY jt jl 0 rest with
     | none=>none
     | some none=>some (qu 0 false false [],false)
     | some (some l)=>some (qu kind true true l,true))=some x):=HX2.out
    have d2:w5.cell? ⟨w.heap.size+1,0,none⟩=some (.int .i64 kind):=jD T.out.px.x 0 rfl
    by_cases hk0:kind=0
    ·subst hk0
     have ex:(qu 0 false false [],false)=x:=Option.some.inj ((if_pos (.inl rfl)).symm.trans HX3.out)
     go_wp2_with (first
      | (refine jL (cs:=inZ) (arr:=inZ) rfl rfl rfl rfl rfl (by kernel_rfl) T.out.px.z (by exact Nat.le_refl 49) (Yv 0 0 0 0 0) ?_;intro w6 hz hg
         have R5:Hid (w6.heap[w.heap.size]? = some (.cells inZ.toArray 77 (0,0))/\Below w.heap.size w w6):=⟨hz,T.out.px.bel.grown hg T.out.px.bel.size (fun g e=>by have:=Option.some.inj e;omega)⟩;clear hz hg))
     have r0:Tryz.f80.results=#[.cell 2 77,.tmp 3]:=rfl
     refine bodyPost_ret (JB (cs:=inZ) r0 rfl rfl HR.out.1 HR.out.2 R5.out.1) rfl ?_
     subst ex
     exact ⟨inZ,rfl,R5.out.2,0,0,0,0,0,rfl,rfl⟩
    ·by_cases hlen : rest.length=4
     ·have hk1 : (kind==0)=false:=by rw [beq_eq_false_iff_ne];exact hk0
      have hN3:((rest.length:Int)+1 != 5)=false:=by rw [bne_eq_false_iff_eq];omega
      have HX4:Hid ((match KY jt jl 0 rest with
       | none=>none
       | some none=>some (qu 0 false false [],false)
       | some (some l)=>some (qu kind true true l,true))=some x):=(if_neg (by rintro (h | h);exact hk0 h;exact h hlen)).symm.trans HX3.out
      have hl1:rest.length<=4:=by omega
      have hl2:4<=rest.length:=by omega
      clear hlen
      have e124:=Tryz.call124
      have e125:=Tryz.call125
      go_wp2
      go_loopg [63] 4 (fun kx s63 wr=>∃ (i:Nat) (vs:List Int),s63=.int .i64 i/\i<=4/\4 - i<=kx/\vs.length=i/\(match KY jt jl i (rest.drop i) with
       | none=>none
       | some none=>some (qu 0 false false [],false)
       | some (some l)=>some (qu kind true true (vs++l),true))=some x/\Aside (PT w (Ki (inX kind 0 0 0 0) (([1,2,3,4]:List Nat).take i) vs) (.slice (some ⟨vb,0,none⟩) 4 vd) [1,2,3,4] wr))
      case atStart=>exact ⟨0,[],rfl,by omega,by omega,rfl,HX4.out,T.out⟩
      case round =>
       obtain ⟨i,vs,rfl,him,hkx,hvs,hpar,SL⟩:=hrel
       have S4:Hid (PT w (Ki (inX kind 0 0 0 0) (([1,2,3,4]:List Nat).take i) vs) (.slice (some ⟨vb,0,none⟩) 4 vd) [1,2,3,4] wr):=SL
       clear SL
       by_cases hlt:(i:Int)<4
       ·obtain ⟨o, ho⟩:∃ o,([1,2,3,4]:List Nat)[i]? = some o:=⟨_,List.getElem?_eq_getElem (by simp;omega)⟩
        obtain ⟨g',c',eg,hcell⟩:=S4.out.cell ho
        have ho5:o<5:=by have:=List.mem_of_getElem? ho;simp at this;omega
        cases eg
        unfold ptX at hcell
        obtain ⟨s,hs⟩:∃ s,rest[i]? = some s:=⟨_,List.getElem?_eq_getElem (by omega)⟩
        have hdrop:rest.drop i=s::rest.drop (i+1):=by
         have h:=(List.getElem?_eq_some_iff.1 hs)
         rw [List.drop_eq_getElem_cons h.1,h.2]
        have cs0:wr.cell? ⟨blk,off+(i+1),none⟩=some (.string ⟨s.toArray⟩):=((Zd w).below S4.out.px.bel) _ _ _ (HM.out (i+1) s (by simpa using hs))
        have w1:IntKind.i64.wrap (1+(i:Int))=((i+1:Nat):Int):=by rw [IntKind.wrap_i64];omega
        have w2:IntKind.i64.wrap ((i:Int)+1)=((i+1:Nat):Int):=by rw [IntKind.wrap_i64];omega
        have pi1:(0:Int)<=((i+1:Nat):Int):=by omega
        have pi2:((i+1:Nat):Int)<(rest.length:Int)+1:=by omega
        have pi3:(0:Int)<=(i:Int):=by omega
        rw [hdrop] at hpar
        cases hp:(if i=0 then jt s else jl s) with
        | none=>rw [KY,hp] at hpar;cases hpar
        | some q =>
          obtain ⟨n,c⟩:=q
          rw [KY,hp] at hpar
          dsimp only at hpar
          have HP:Hid (_):=hpar
          have HD:Hid (_/\_):=⟨ho,ho5⟩
          rcases Decidable.em (i=0) with hi0 | hi0
          all_goals (first
           | (have hp':jt s=some (n,c):=hp.symm.trans (if_pos hi0) |>.symm
              have hbI:((i:Int)==0)=true:=by rw [beq_iff_eq];omega
              have hc:FnR Tryz.prog 125 [qY s] (.tup [.v (.int .i64 n),.v (.int .i64 c)]) []:=jdS.ok (s,()) [qY s] ((n,c):Int × Int) ⟨rfl,trivial⟩ hp'
              have kP:Calls Tryz.prog 125 #[.string ⟨s.toArray⟩] wr fun e w'=>e=.returned (.tuple #[.int .i64 n,.int .i64 c])/\Below wr.heap.size wr w':=by
               refine (QE hc wr [.string ⟨s.toArray⟩] (.cons .v .nil)).mono ?_
               rintro e w' ⟨v,rfl,hb,hrep⟩
               obtain ⟨vs',rfl,hvs'⟩:=qe hrep
               obtain rfl:vs'=[.int .i64 n,.int .i64 c]:=Jz (l:=[.int .i64 n,.int .i64 c]) hvs'
               exact ⟨rfl,hb⟩
              clear hp hp' hc hpar ho ho5 hdrop hs hi0)
           | (have hp':jl s=some (n,c):=hp.symm.trans (if_neg hi0) |>.symm
              have hbI:((i:Int)==0)=false:=by rw [beq_eq_false_iff_ne];omega
              have hc:FnR Tryz.prog 124 [qY s] (.tup [.v (.int .i64 n),.v (.int .i64 c)]) []:=jdT.ok (s,()) [qY s] ((n,c):Int × Int) ⟨rfl,trivial⟩ hp'
              have kP:Calls Tryz.prog 124 #[.string ⟨s.toArray⟩] wr fun e w'=>e=.returned (.tuple #[.int .i64 n,.int .i64 c])/\Below wr.heap.size wr w':=by
               refine (QE hc wr [.string ⟨s.toArray⟩] (.cons .v .nil)).mono ?_
               rintro e w' ⟨v,rfl,hb,hrep⟩
               obtain ⟨vs',rfl,hvs'⟩:=qe hrep
               obtain rfl:vs'=[.int .i64 n,.int .i64 c]:=Jz (l:=[.int .i64 n,.int .i64 c]) hvs'
               exact ⟨rfl,hb⟩
              clear hp hp' hc hpar ho ho5 hdrop hs hi0))
          all_goals
           by_cases hc0:c=0
           ·subst hc0
            go_wp2_with (first
             | (first | go_at_call 125 | go_at_call 124
                refine kP.mono ?_;rintro e w6 ⟨rfl,hb6⟩
                have S5:Hid (PT w (Ki (inX kind 0 0 0 0) (([1,2,3,4]:List Nat).take i) vs) (.slice (some ⟨vb,0,none⟩) 4 vd) [1,2,3,4] w6):=S4.out.go hb6
                clear hb6 kP)
             | (refine JE (b:=w.heap.size+1) (off:=o) (v:=.int .i64 n) (arr:=Ki (inX kind 0 0 0 0) (([1,2,3,4]:List Nat).take i) vs) rfl rfl rfl rfl rfl rfl (by kernel_rfl) S5.out.px.x (by rw [KS];exact Nat.lt_of_lt_of_le HD.out.2 (by exact Nat.le_of_sub_eq_zero rfl)) rfl ?_
                intro w7 hX7 hg7
                have S6:Hid (PT w ((Ki (inX kind 0 0 0 0) (([1,2,3,4]:List Nat).take i) vs).set o (.int .i64 n)) (.slice (some ⟨vb,0,none⟩) 4 vd) [1,2,3,4] w7):=S5.out.store hX7 hg7
                clear hX7 hg7))
            go_roundg (4 - (i+1))
            case measure=>omega
            case rel=>
             have ht:([1,2,3,4]:List Nat).take (i+1)=([1,2,3,4]:List Nat).take i++[o]:=by rw [List.take_succ,HD.out.1];rfl
             refine ⟨i+1,vs++[n],by simp,by omega,by omega,by simp [hvs],?_,?_⟩
             ·have hq:=HP.out
              rw [if_neg (by simp)] at hq
              revert hq
              cases KY jt jl (i+1) (rest.drop (i+1)) with
              | none=>exact id
              | some y=>cases y with
                | none=>exact id
                | some l=>intro hq;show some (qu _ _ _ (vs++[n]++l),true)=some x;rw [List.append_assoc];exact hq
             ·rw [ht,kj o n _ vs _ (by rw [List.length_take,hvs];simp;omega)]
              exact S6.out
           ·have hc1:(c==0)=false:=by rw [beq_eq_false_iff_ne];exact hc0
            have hc2:(c != 0)=true:=by rw [bne_iff_ne];exact hc0
            have ex:(qu 0 false false [],false)=x:=by
             have hq:=HP.out
             rw [if_pos hc0] at hq
             exact Option.some.inj hq
            go_wp2_with (first
             | (first | go_at_call 125 | go_at_call 124
                refine kP.mono ?_;rintro e w6 ⟨rfl,hb6⟩
                have S5:Hid (PT w (Ki (inX kind 0 0 0 0) (([1,2,3,4]:List Nat).take i) vs) (.slice (some ⟨vb,0,none⟩) 4 vd) [1,2,3,4] w6):=S4.out.go hb6
                clear hb6 kP)
             | (refine jL (cs:=inZ) (arr:=inZ) rfl rfl rfl rfl rfl (by kernel_rfl) S5.out.px.z (by exact Nat.le_refl 49) (Yv 0 0 0 0 0) ?_;intro w7 hz hg
                have R5:Hid (w7.heap[w.heap.size]? = some (.cells inZ.toArray 77 (0,0))/\Below w.heap.size w w7):=⟨hz,S5.out.px.bel.grown hg S5.out.px.bel.size (fun g e=>by have:=Option.some.inj e;omega)⟩;clear hz hg))
            have r0:Tryz.f80.results=#[.cell 2 77,.tmp 3]:=rfl
            refine bodyPost_ret (JB (cs:=inZ) r0 rfl rfl HR.out.1 HR.out.2 R5.out.1) rfl ?_
            subst ex
            exact ⟨inZ,rfl,R5.out.2,0,0,0,0,0,rfl,rfl⟩
       ·have hi:i=4:=by omega
        subst hi
        have hdr:rest.drop 4=[]:=List.drop_eq_nil_of_le (by omega)
        rw [hdr] at hpar
        have ex:(qu kind true true (vs++[]),true)=x:=Option.some.inj hpar
        rw [List.append_nil] at ex
        obtain ⟨id_,vx,vy,val_,hcs,hmk⟩:=kT kind true true vs (by rw [hvs];rfl)
        have S5:Hid (PT w (inX kind id_ vx vy val_) (.slice (some ⟨vb,0,none⟩) 4 vd) [1,2,3,4] wr):=by rw [<- hcs];exact S4.out
        clear S4 hpar
        go_wp2_with (first
         | (refine YB (b:=w.heap.size+1) (off:=0) (cs:=inX kind id_ vx vy val_) (arr:=(inX kind id_ vx vy val_).toArray) rfl rfl rfl rfl HR.out.1 HR.out.2 S5.out.px.x (fun j v e=>by rw [Nat.zero_add];simpa using e) ?_)
         | (refine jL (cs:=inX kind id_ vx vy val_) (arr:=inZ) rfl rfl rfl rfl rfl (by kernel_rfl) S5.out.px.z (by exact Nat.le_refl 49) (Yv _ _ _ _ _) ?_;intro w7 hz hg
            have R5:Hid (w7.heap[w.heap.size]? = some (.cells (inX kind id_ vx vy val_).toArray 77 (0,0))/\Below w.heap.size w w7):=⟨hz,S5.out.px.bel.grown hg S5.out.px.bel.size (fun g e=>by have:=Option.some.inj e;omega)⟩;clear hz hg))
        have r0:Tryz.f80.results=#[.cell 2 77,.tmp 3]:=rfl
        refine bodyPost_ret (JB (cs:=inX kind id_ vx vy val_) r0 rfl rfl HR.out.1 HR.out.2 R5.out.1) rfl ?_
        subst ex
        exact ⟨_,rfl,R5.out.2,kind,id_,vx,vy,val_,rfl,hmk⟩
     ·have hN3:((rest.length:Int)+1 != 5)=true:=by rw [bne_iff_ne];omega
      have hk1:(kind==0)=false:=by rw [beq_eq_false_iff_ne];exact hk0
      have ex:(qu 0 false false [],false)=x:=Option.some.inj ((if_pos (.inr (by omega))).symm.trans HX3.out)
      go_wp2_with (first
       | (refine jL (cs:=inZ) (arr:=inZ) rfl rfl rfl rfl rfl (by kernel_rfl) T.out.px.z (by exact Nat.le_refl 49) (Yv 0 0 0 0 0) ?_;intro w6 hz hg
          have R5:Hid (w6.heap[w.heap.size]? = some (.cells inZ.toArray 77 (0,0))/\Below w.heap.size w w6):=⟨hz,T.out.px.bel.grown hg T.out.px.bel.size (fun g e=>by have:=Option.some.inj e;omega)⟩;clear hz hg))
      have r0:Tryz.f80.results=#[.cell 2 77,.tmp 3]:=rfl
      refine bodyPost_ret (JB (cs:=inZ) r0 rfl rfl HR.out.1 HR.out.2 R5.out.1) rfl ?_
      subst ex
      exact ⟨inZ,rfl,R5.out.2,0,0,0,0,0,rfl,rfl⟩
theorem wR (fs:List (List UInt8)) (hne:fs≠[]) (x:Input × Bool) (hx:jP fs=some x) (v:Value) (w:World) (hr:Rep (allM w) je (qZ fs) v):
 Calls Tryz.prog 80 #[v] w fun e w'=>∃ cs,e=.returned (.tuple #[.agg cs.toArray,.bool x.2])/\Below w.heap.size w w'/\∃ k id vx vy val,cs=inX k id vx vy val/\x.1={ Kind:=k,ID:=id,Vec:=⟨vx,vy⟩,Value:=val,Body:=exB,jn:=exJ }:=by
 cases fs with
 | nil=>exact absurd rfl hne
 | cons f0 rest=>exact jfz f0 rest x hx v w hr
theorem jfc {M:Mem} (k id vx vy val:Int):Jq M je (qC { Kind:=k,ID:=id,Vec:=⟨vx,vy⟩,Value:=val,Body:=exB,jn:=exJ }) (inX k id vx vy val):=
 (Ke [.int .i64 k,.int .i64 id,.int .i64 vx,.int .i64 vy,.int .i64 val]).append (((Ke (zB.take 19)).append (.cons (.slnil) .nil)).append (Ke zJ))
theorem IR.one {B:Nat} {M:Mem} {x:Input} {cs:List Value} {w:World} (hB:B<=w.heap.size) (hr:Jq M je (qC x) cs) (h1:∀ c∈cs,jA c=true) (hl:cs.length=49) (hi:Imm M w):IR B M [x] (.slice (some ⟨w.heap.size,0,none⟩) 1 1) (w.alloc (.cells cs.toArray 77)):=by
 refine ⟨⟨cs,⟨by rw [hl];rfl,.inr ⟨w.heap.size,1,cs.toArray,rfl,hB,Jh _ _ _ rfl,Nat.le_refl 1,by decide,by simp [hl],by simp;exact List.take_of_length_le (by omega)⟩⟩,by simpa using hr,h1⟩,fun g e=>?_⟩
 have:=Option.some.inj e
 subst this
 exact yi hi (Nat.le_refl _)
structure J13 (w:World) (M:Mem) (R:List (List Input)) (V:Value) (Jp:List Value) (M':Mem) (k:Nat) (fr:List Input) (x:Input) (cs:List Value) (b9:Nat) (f:Nat->Bool) (a:Act) (wd:World):Prop where
 o1:f 12=true->f 11=true
 o2:f 14=true->f 12=true
 o4:f 11=true->f 10=true
 o5:f 12=true->f 9=true
 A:f 11=false->KL w M R V Jp wd M'/\wd.heap[b9]? = some (.cells cs.toArray 77 (0,0))
 B:f 11=true->f 12=false->KL w M R V Jp wd M'/\∃ b B,a.tmps[68]? = some (.slice (some ⟨b,0,none⟩) 1 1)/\IR B M' [x] (.slice (some ⟨b,0,none⟩) 1 1) wd
 C:f 12=true->f 14=false->∃ y,a.tmps[69]? = some y/\y.oneCell'=true/\y.cells=#[y]/\KF w M (R.set k (fr++[x])) V (Jp.set k y) wd M'/\wd.ownsRow w.heap.size 51 1 V R.length Jp
 D:f 14=true->∃ y,KL w M (R.set k (fr++[x])) V (Jp.set k y) wd M'
theorem J13.act {w M R V Jp M' k fr x cs b9 f a wd} (h:J13 w M R V Jp M' k fr x cs b9 f a wd) {a':Act} (h1:a.tmps[68]? = a'.tmps[68]?) (h2:a.tmps[69]? = a'.tmps[69]?):J13 w M R V Jp M' k fr x cs b9 f a' wd:=
 ⟨h.o1,h.o2,h.o4,h.o5,h.A,fun x y=>by rw [<- h1];exact h.B x y,fun x y=>by rw [<- h2];exact h.C x y,h.D⟩
theorem J13.pure {w M R V Jp M' k fr x cs b9 f a wd} (h:J13 w M R V Jp M' k fr x cs b9 f a wd) (i:Nat) (h1:i≠11) (h2:i≠12) (h3:i≠14):J13 w M R V Jp M' k fr x cs b9 (fun j=>if j=i then true else f j) a wd:=by
 have e1:(if 11=i then true else f 11)=f 11:=if_neg (fun e=>h1 e.symm)
 have e2:(if 12=i then true else f 12)=f 12:=if_neg (fun e=>h2 e.symm)
 have e3:(if 14=i then true else f 14)=f 14:=if_neg (fun e=>h3 e.symm)
 have up:∀ j,f j=true->(if j=i then true else f j)=true:=fun j e=>by rw [e];split <;> rfl
 refine ⟨fun x=>up 11 (h.o1 (e2.symm.trans x)),fun x=>up 12 (h.o2 (e3.symm.trans x)),fun x=>up 10 (h.o4 (e1.symm.trans x)),fun x=>up 9 (h.o5 (e2.symm.trans x)),fun x=>h.A (e1.symm.trans x),fun x y=>h.B (e1.symm.trans x) (e2.symm.trans y),fun x y=>h.C (e2.symm.trans x) (e3.symm.trans y),fun x=>h.D (e3.symm.trans x)⟩
theorem Mk (s:List UInt8) (l:List (List UInt8)) (c:Int) (h:Jv s=some (l,c)) (w:World):Calls Tryz.prog 79 #[.string ⟨s.toArray⟩] w fun e w'=>∃ ad cap,e=.returned (.tuple #[.slice ad l.length cap,.int .i64 c])/\Below w.heap.size w w'/\Rep (allM w') je (qZ l) (.slice ad l.length cap):=by
 have hc:FnR Tryz.prog 79 [qY s] (.tup [qZ l,.v (.int .i64 c)]) []:=c_79.ok (s,()) [qY s] ((l,c):List (List UInt8) × Int) ⟨rfl,trivial⟩ h
 refine (QE hc w [.string ⟨s.toArray⟩] (.cons .v .nil)).mono ?_
 rintro e w' ⟨v,rfl,hb,hrep⟩
 obtain ⟨u,rfl,h1⟩:=jd6 hrep
 obtain ⟨ad,cap,rfl,-⟩:=Xi h1
 exact ⟨ad,cap,rfl,hb,h1⟩
def PLpost (w:World) (M:Mem) (res:List (List Input) × Nat) (e:Ending) (w':World):Prop:=
 (res.2=0/\∃ v Jp M',e=.returned (.tuple #[v,.nilIface])/\KL w M res.1 v Jp w' M')\/
 (res.2≠0/\∃ b,e=.returned (.tuple #[.slice none 0 0,.iface 98 (.pointer (some ⟨b,0,none⟩))])/\Below w.heap.size w w'/\w'.cell? ⟨b,0,none⟩=some (.int .i64 (res.2:Int))/\b<w'.heap.size)
theorem jcQ {P:Program} {C:World->Prop} {o:Oper} {a:Act} {ty:TypeId} {y:Operand} {b:Nat} {cs:List Value} {T:TypeId} {fr:Nat × Nat} {w:World}
 (e:o.op=.load ty y) (hy:a.eval y=.pointer (some ⟨b,0,none⟩)) (ha:tAg P ty=some true) (hs:tSz P ty=some cs.length)
 (hC:w.heap[b]? = some (.cells cs.toArray T fr)):o.quietAt P a C w (.agg cs.toArray):=
 KX (by
  have hld:=Jw (P:=P) (ty:=ty) (w:=w) (b:=b) (o:=0) (cs:=cs) ha hs (fun j v e=>by rw [Nat.zero_add,Ji hC];simpa using e)
  simp [execOp,e,hy,Instr.loadAt,Instr.sureAddr,hld])
theorem Pw:∀ (cs:List Value) (k:Nat) (z:Array Value),z.size=k+cs.length->(cs.zipIdx k).foldl (fun (c:Array Value) (x:Value × Nat)=>c.setIfInBounds x.2 x.1) z=(z.toList.take k++cs).toArray
 | [],k,z,h=>by
   have h:z.size=k:=h
   rw [List.append_nil,List.take_of_length_le (by simp [h])];rfl
 | c :: t,k,z,h=>by
   have h:z.size=k+(t.length+1):=h
   rw [List.zipIdx_cons,List.foldl_cons,Pw t (k+1) _ (by simp [h];omega)]
   have:(z.setIfInBounds k c).toList.take (k+1)=z.toList.take k++[c]:=by
    rw [Array.toList_setIfInBounds,List.set_eq_take_append_cons_drop,if_pos (by simp [h])]
    rw [List.take_append,List.length_take,Array.length_toList]
    have h1:min k z.size=k:=by omega
    rw [h1,List.take_of_length_le (by simp;omega),Nat.add_sub_cancel_left];rfl
   show ((z.setIfInBounds k c).toList.take (k+1)++t).toArray=_
   rw [this,List.append_assoc];rfl
theorem jaQ {P:Program} {o:Oper} {Q:Exit->Act->World->Prop} {K:Act->World->Prop} {a:Act} {w:World} {t e:TypeId} {x:Operand} {i:TypeInfo} {z:Value} {cs:List Value}
 (ho:o.op=.buildSlice t 1 #[(0,x)]) (hx:a.eval x=.agg cs.toArray) (ht:P.underlying t=some (.slice e)) (hi:P.info? e=some i) (hz:i.zero=some z) (hs:i.size=cs.length) (h1:z.cells.size=cs.length)
 (hp:0<cs.length) (hlim:cs.length<=16777216)
 (h:K (a.put o.dst (.slice (some ⟨w.heap.size,0,none⟩) 1 1)) (w.alloc (.cells cs.toArray e))):o.wp P a w K Q:=by
 have hsz:tSz P e=some cs.length:=by simp [tSz,hi,hs]
 have hrun:(execOp a.eval o).run P w=.ok (.value (.slice (some ⟨w.heap.size,0,none⟩) 1 1)) (w.alloc (.cells cs.toArray e)):=by
  have hlim':¬ (16777216<cs.length):=by omega
  have h0:¬ (1*cs.length=0):=by omega
  have hne:¬ cs=[]:=fun h=>by rw [h] at hp;simp at hp
  have hc:(Value.agg cs.toArray).cells=cs.toArray:=rfl
  have hcs:cs.toArray.size=cs.length:=by simp
  simp only [execOp,ho,Instr.buildSlice,Sem.run_bind,ji ht,Result.andThen_ok,jr hsz]
  simp only [List.map_toArray,List.map_cons,List.map_nil,hx]
  simp [hlim',hne,zeroValue,typeInfo,hi,hz,Instr.fill,newRow,hc]
  rw [show cs.zipIdx=cs.zipIdx 0 from rfl,Pw cs 0 _ (by simp)]
  simp
 unfold Oper.wp
 rw [hrun,Oper.upon_value]
 exact h
set_option maxHeartbeats 16000000 in
theorem kv (lines : List (List UInt8)) (hl:lines.length<=1048576) (res:List (List Input) × Nat) (hx:Yt Jv jP lines 0 []=some res) (M:Mem) (v:Value) (w:World) (hi:Imm M w) (hr:Rep M je (qZ lines) v):
 Calls Tryz.prog 46 #[v] w (PLpost w M res):=by
 obtain ⟨ad,cap,rfl,hcap,hm⟩:=Xi hr
 obtain ⟨n,hn⟩:∃ n,lines.length=n:=⟨_,rfl⟩
 have e79:=Tryz.call79
 have e80:=Tryz.call80
 have e18:=Tryz.call18
 rw [hn] at hm hl ⊢
 obtain ⟨i51,a1,a2,a3,a4⟩:=info_parts (P:=Tryz.prog) (e:=51) (z:=.slice none 0 0) (size:=1) (bytes:=24) (by kernel_rfl)
 obtain ⟨i77,b1,b2,b3,b4⟩:=info_parts (P:=Tryz.prog) (e:=77) (z:=.agg inZ.toArray) (size:=49) (bytes:=384) (by kernel_rfl)
 have HI:Hid (_/\_/\_/\_):=⟨a1,a2,a3,a4⟩
 have H77:Hid (_/\_/\_/\_):=⟨b1,b2,b3,b4⟩
 have ra:tAg Tryz.prog 77=some true:=by kernel_rfl
 have rz:tSz Tryz.prog 77=some 49:=by kernel_rfl
 have HR:Hid (_/\_):=⟨ra,rz⟩
 have HM:Hid (_):=hm
 have HI0:Hid (Imm M w):=hi
 clear a1 a2 a3 a4 b1 b2 b3 b4 hr hm ra rz
 obtain ⟨K0,hK0⟩:∃ K0,K0=KL w M:=⟨_,rfl⟩
 go_enter Tryz.func46,Tryz.ntmps46
 go_wp2
 go_loopg [4,13] n (fun kx s4 s13 wr=>∃ (i:Nat) (r:List (List Input)) (Jp:List Value) (M':Mem) (a:Option Addr) (c:Nat),s13=.int .i64 i/\s4=.slice a r.length c/\i<=n/\n - i<=kx/\r.length<=i/\(∀ f∈r,f.length<=i)/\Yt Jv jP (lines.drop i) i r=some res/\Aside (K0 r s4 Jp wr M'))
 case atStart=>
  subst hK0
  exact ⟨0,[],[],M,none,0,rfl,rfl,Nat.zero_le _,Nat.le_refl _,Nat.le_refl _,by simp,hx,KL.start w M hi⟩
 case round=>
  obtain ⟨i,r,Jp,M',a,c,rfl,rfl,hin,hkx,hrl,hfl,hrec,S⟩:=hrel
  subst hK0
  have S0:Hid (KL w M r (.slice a r.length c) Jp wr M'):=S
  clear S hx hi
  by_cases hlt:(i:Int)<n
  ·obtain ⟨blk, off, rfl,hcm⟩:=HM.out (by omega)
   obtain ⟨line,hli⟩:∃ s,lines[i]? = some s:=⟨_,List.getElem?_eq_getElem (by omega)⟩
   have hdrop:lines.drop i=line::lines.drop (i+1):=by
    have h:=(List.getElem?_eq_some_iff.1 hli)
    rw [List.drop_eq_getElem_cons h.1,h.2]
   have c0:wr.cell? ⟨blk,off+i,none⟩=some (.string ⟨line.toArray⟩):=S0.out.imm _ _ _ (S0.out.le _ _ _ (hcm _ _ hli))
   have wi:IntKind.i64.wrap ((i:Int)+1)=((i+1:Nat):Int):=by rw [IntKind.wrap_i64];omega
   have pi:(0:Int)<=(i:Int):=by omega
   rw [hdrop] at hrec
   cases hf:Jv line with
   | none=>rw [Yt,hf] at hrec;cases hrec
   | some q=>
     obtain ⟨fs,code⟩:=q
     rw [Yt,hf] at hrec
     dsimp only at hrec
     have k79:=Mk line fs code hf wr
     by_cases hbad:code≠0\/fs=[]
     ·have ex:([],i+1)=res:=Option.some.inj ((if_pos hbad).symm.trans hrec)
      have hB:(if code=0 then fs.length=0 else True):=by
       rcases hbad with h | h
       ·rw [if_neg h];trivial
       ·split
        ·rw [h];rfl
        ·trivial
      clear hrec hbad hcm hli hdrop hf
      by_cases hc0:code=0
      ·subst hc0
       rw [if_pos rfl] at hB
       have hB1:((fs.length:Int)==0)=true:=by rw [beq_iff_eq];omega
       clear hB
       go_wp2_with (first
        | (go_at_call 79;refine k79.mono ?_;rintro e w2 ⟨fa,fc,rfl,hb2,hr2⟩
           have S2:Hid (Below w.heap.size w w2):=S0.out.bel.trans (hb2.mono S0.out.bel.size)
           clear hb2 hr2 k79 c0))
       go_ret2
       subst ex
       refine .inr ⟨by simp,w2.heap.size,rfl,S2.out.alloc S2.out.size _,?_,by simp⟩
       simp
      ·have hB1:(code==0)=false:=by rw [beq_eq_false_iff_ne];exact hc0
       have hB2:(code != 0)=true:=by rw [bne_iff_ne];exact hc0
       clear hB
       go_wp2_with (first
        | (go_at_call 79;refine k79.mono ?_;rintro e w2 ⟨fa,fc,rfl,hb2,hr2⟩
           have S2:Hid (Below w.heap.size w w2):=S0.out.bel.trans (hb2.mono S0.out.bel.size)
           clear hb2 hr2 k79 c0))
       go_ret2
       subst ex
       refine .inr ⟨by simp,w2.heap.size,rfl,S2.out.alloc S2.out.size _,?_,by simp⟩
       simp
     ·have hc0:code=0:=by
       rcases Decidable.em (code=0) with h | h
       ·exact h
       ·exact absurd (.inl h) hbad
      have hne:fs≠[]:=fun h=>hbad (.inr h)
      have hrec1:(if line=zp then Yt Jv jP (lines.drop (i+1)) (i+1) (r++[[]])
       else match jP fs with
        | none=>none
        | some x=>if x.2=false\/r=[] then some ([],i+1) else Yt Jv jP (lines.drop (i+1)) (i+1) (r.set (r.length - 1) (r.getD (r.length - 1) []++[x.1])))=some res:=(if_neg hbad).symm.trans hrec
      subst hc0
      have hB1:((fs.length:Int)==0)=false:=by
       rw [beq_eq_false_iff_ne]
       intro h
       exact hne (List.eq_nil_of_length_eq_zero (by omega))
      clear hbad hdrop hf hcm hli
      by_cases hfr:line=zp
      ·have hrec2:=(if_pos hfr).symm.trans hrec1
       have hfr2:(line==[102,114,97,109,101])=true:=by rw [beq_iff_eq];exact hfr
       have HX:Hid (_):=hrec2
       clear hrec hrec1 hrec2 hfr
       go_wp2_with (first
        | (go_at_call 79;refine k79.mono ?_;rintro e w2 ⟨fa,fc,rfl,hb2,hr2⟩
           have S2:Hid (KL w M r (.slice a r.length c) Jp w2 M'):=S0.out.Xa hb2
           clear hb2 hr2 k79 c0)
        | (at_builtin
           refine Jc rfl (.tmp 37) (.tmp 38) 23 rfl w.heap.size 51 i51 (.slice none 0 0) 1 24 Tryz.underlying23 HI.out.1 HI.out.2.1 HI.out.2.2.1 HI.out.2.2.2 rfl (by decide) (.slice a r.length c) r.length Jp rfl (vu S2.out.row ((Below.refl _ _).alloc (Nat.le_refl _) _)) ⟨w2.heap.size,0,none⟩ 1 1 [.slice none 0 0] rfl rfl (Yy w2 [.slice none 0 0] 51 _ rfl) (by intro u hu;simp at hu;subst hu;rfl) (by simp [maxLen];omega) (by omega) (by have:=S2.out.bel.size;simp;omega) (by decide) ?_
           intro v6 w6 hown6 hgrow6 hblk6
           have S6:Hid (KL w M (r++[[]]) v6 (Jp++[.slice none 0 0]) w6 M'):=S2.out.append (IR.nil _ _ _) (by simp [Value.ownBlock]) hown6 hgrow6 hblk6
           clear hown6 hgrow6 hblk6))
       go_roundg (n - (i+1))
       case measure=>omega
       case rel=>
        obtain ⟨a6,c6,h6⟩:=S6.out.slice
        refine ⟨i+1,r++[[]],Jp++[.slice none 0 0],M',a6,c6,by simp,h6,by omega,by omega,by rw [List.length_append];simp;omega,?_,HX.out,?_⟩
        ·intro f hf
         rcases List.mem_append.1 hf with h | h
         ·exact Nat.le_succ_of_le (hfl f h)
         ·simp at h;subst h;simp
        ·exact S6.out
      ·have hrec2 := (if_neg hfr).symm.trans hrec1
       have hfr2:(line==[102,114,97,109,101])=false:=by rw [beq_eq_false_iff_ne];exact hfr
       cases hp:jP fs with
       | none=>rw [hp] at hrec2;cases hrec2
       | some x=>
         rw [hp] at hrec2
         dsimp only at hrec2
         have HP:Hid (_/\_):=⟨hne,hp⟩
         clear hrec hrec1 hfr hne hp
         by_cases hbad:x.2=false\/r=[]
         ·have ex:([],i+1)=res:=Option.some.inj ((if_pos hbad).symm.trans hrec2)
          clear hrec2
          have arms:True:=trivial
          cases hx2:x.2 with
          | false=>
            go_wp2_with (first
             | (go_at_call 79;refine k79.mono ?_;rintro e w2 ⟨fa,fc,rfl,hb2,hr2⟩
                have S2:Hid (Below w.heap.size w w2):=S0.out.bel.trans (hb2.mono S0.out.bel.size)
                have k80:=wR fs HP.out.1 x HP.out.2 (.slice fa fs.length fc) w2 hr2
                rw [hx2] at k80
                clear hb2 hr2 k79 c0)
             | (go_at_call 80;refine k80.mono ?_;rintro e w3 ⟨cs,rfl,hb3,kk,id_,vx,vy,val_,rfl,hxe⟩
                have S3:Hid (Below w.heap.size w w3):=S2.out.trans (hb3.mono S2.out.size)
                clear hb3 k80)
             | (refine jL (cs:=inX kk id_ vx vy val_) (arr:=inZ) rfl rfl rfl rfl rfl HR.out.2 (Jh w3 _ _ rfl) (by exact Nat.le_refl 49) (Yv _ _ _ _ _) ?_
                intro w4 hz hg
                have S4:Hid (Below w.heap.size w w4):=(S3.out.alloc S3.out.size _).grown hg (by have:=S3.out.size;simp;omega) (fun g e=>by have:=Option.some.inj e;have:=S3.out.size;omega)
                clear hz hg))
            go_ret2
            subst ex
            refine .inr ⟨by simp,w4.heap.size,rfl,S4.out.alloc S4.out.size _,?_,by simp⟩
            simp
          | true =>
            have hr0:r.length<=0:=by
             rcases hbad with h | h
             ·rw [hx2] at h;cases h
             ·rw [h];exact Nat.le_refl 0
            have hrB:((r.length:Int)==0)=true:=by rw [beq_iff_eq];omega
            clear hr0 hbad
            go_wp2_with (first
             | (go_at_call 79;refine k79.mono ?_;rintro e w2 ⟨fa,fc,rfl,hb2,hr2⟩
                have S2:Hid (Below w.heap.size w w2):=S0.out.bel.trans (hb2.mono S0.out.bel.size)
                have k80:=wR fs HP.out.1 x HP.out.2 (.slice fa fs.length fc) w2 hr2
                rw [hx2] at k80
                clear hb2 hr2 k79 c0)
             | (go_at_call 80;refine k80.mono ?_;rintro e w3 ⟨cs,rfl,hb3,kk,id_,vx,vy,val_,rfl,hxe⟩
                have S3:Hid (Below w.heap.size w w3):=S2.out.trans (hb3.mono S2.out.size)
                clear hb3 k80)
             | (refine jL (cs:=inX kk id_ vx vy val_) (arr:=inZ) rfl rfl rfl rfl rfl HR.out.2 (Jh w3 _ _ rfl) (by exact Nat.le_refl 49) (Yv _ _ _ _ _) ?_
                intro w4 hz hg
                have S4:Hid (Below w.heap.size w w4):=(S3.out.alloc S3.out.size _).grown hg (by have:=S3.out.size;simp;omega) (fun g e=>by have:=Option.some.inj e;have:=S3.out.size;omega)
                clear hz hg))
            go_ret2
            subst ex
            refine .inr ⟨by simp,w4.heap.size,rfl,S4.out.alloc S4.out.size _,?_,by simp⟩
            simp
         ·have hrec3:=(if_neg hbad).symm.trans hrec2
          have hx2:x.2=true:=by
           cases h:x.2 with
           | true=>rfl
           | false=>exact absurd (.inl h) hbad
          have hr1:0<r.length:=List.length_pos_iff.2 (fun h=>hbad (.inr h))
          have hrB:((r.length:Int)==0)=false:=by rw [beq_eq_false_iff_ne];omega
          have HX:Hid (_):=hrec3
          clear hrec2 hrec3 hbad
          have b9:=S0.out.row
          go_upto_region 13 with (first
           | (go_at_call 79;refine k79.mono ?_;rintro e w2 ⟨fa,fc,rfl,hb2,hr2⟩
              have S2:Hid (KL w M r (.slice a r.length c) Jp w2 M'):=S0.out.Xa hb2
              have k80:=wR fs HP.out.1 x HP.out.2 (.slice fa fs.length fc) w2 hr2
              rw [hx2] at k80
              clear hb2 hr2 k79 c0)
           | (go_at_call 80;refine k80.mono ?_;rintro e w3 ⟨cs,rfl,hb3,kk,id_,vx,vy,val_,rfl,hxe⟩
              have S3:Hid (KL w M r (.slice a r.length c) Jp w3 M'):=S2.out.Xa hb3
              clear hb3 k80)
           | (refine jL (cs:=inX kk id_ vx vy val_) (arr:=inZ) rfl rfl rfl rfl rfl HR.out.2 (Jh w3 _ _ rfl) (by exact Nat.le_refl 49) (Yv _ _ _ _ _) ?_
              intro w4 hz hg
              have S4:Hid (KL w M r (.slice a r.length c) Jp w4 M'/\w4.heap[w3.heap.size]? = some (.cells (inX kk id_ vx vy val_).toArray 77 (0,0))):=⟨S3.out.Xa (((Below.refl _ w3).alloc (Nat.le_refl _) _).grown hg (by simp) (fun g e=>by have:=Option.some.inj e;omega)),hz⟩
              clear hz hg))
          obtain ⟨k,hk⟩:∃ k,r.length=k+1:=⟨r.length - 1,by omega⟩
          have hkr:k<r.length:=by omega
          obtain ⟨fr,hfr1⟩:∃ fr,r[k]? = some fr:=⟨_,List.getElem?_eq_getElem hkr⟩
          have hlen2:=S4.out.1.len
          obtain ⟨xv,hxv⟩:∃ xv,Jp[k]? = some xv:=⟨_,List.getElem?_eq_getElem (by omega)⟩
          obtain ⟨g,rfl,hgB⟩:∃ g,a=some ⟨g,0,none⟩/\w.heap.size<=g:=by
           rcases S4.out.1.row.2 with ⟨-,e0⟩ | ⟨g,cap,cur,e,h1,h2,h3,-⟩
           ·omega
           ·cases e;exact ⟨g,rfl,h1⟩
          have hfrl:fr.length<=i:=hfl fr (List.mem_of_getElem? hfr1)
          have hrm:r.getD (r.length - 1) []=fr:=by rw [hk,Nat.add_sub_cancel,List.getD_eq_getElem?_getD,hfr1];rfl
          have hXk:Yt Jv jP (lines.drop (i+1)) (i+1) (r.set k (fr++[x.1]))=some res:=by
           have:=HX.out
           rw [hrm,hk,Nat.add_sub_cancel] at this
           exact this
          have HK:Hid (_/\_/\_/\_/\_/\_):=⟨hfr1,hxv,hXk,hfrl,hrl,hfl⟩
          have HL:Hid (r.length=k+1):=hk
          have S5:Hid (KL w M r (.slice (some ⟨g,0,none⟩) (k+1) c) Jp w4 M'):=by rw [<- hk];exact S4.out.1
          have Hb:Hid (w4.heap[w3.heap.size]? = some (.cells (inX kk id_ vx vy val_).toArray 77 (0,0))):=S4.out.2
          have hxr:Jq M' je (qC x.1) (inX kk id_ vx vy val_):=by rw [hxe];exact jfc _ _ _ _ _
          have HXR:Hid (_):=hxr
          have u51:=Tryz.underlying51
          have u23:=Tryz.underlying23
          have z51:=Tryz.sizeOf51
          have wk:IntKind.i64.wrap (((k:Int)+1) - 1)=(k:Int):=by rw [IntKind.wrap_i64];omega
          have pk:(0:Int)<=(k:Int):=by omega
          have wk0:IntKind.i64.wrap (k:Int)=(k:Int):=by rw [IntKind.wrap_i64];omega
          have pk1:(k:Int)<(k:Int)+1:=by omega
          have HE:Hid (_/\_):=⟨HI.out,H77.out⟩
          clear hfr1 hxv hXk hfrl hrl hfl hrm HX S4 hxe hxr hlen2 hr1 hrB S0 hkr hx2 HP b9
          rw [hk]
          clear hk
          refine KQ qT 15 (fun i=>i==11||i==12||i==14) (fun i=>57+i) (fun i=>match i with | 0=>.slice (some ⟨g,0,none⟩) (k+1) c | 1=>.slice (some ⟨g,0,none⟩) (k+1) c | 2=>.int .i64 ((k:Int)+1) | 3=>.int .i64 (k:Int) | 4=>.slice (some ⟨g,0,none⟩) (k+1) c | 5=>.slice (some ⟨g,0,none⟩) (k+1) c | 6=>.int .i64 ((k:Int)+1) | 7=>.int .i64 (k:Int) | 8=>.pointer (some ⟨g,k,none⟩) | 9=>xv | 10=>.agg (inX kk id_ vx vy val_).toArray | 13=>.pointer (some ⟨g,k,none⟩) | _=>undef) (J13 w M r (.slice (some ⟨g,0,none⟩) (k+1) c) Jp M' k fr x.1 (inX kk id_ vx vy val_) w3.heap.size) rfl ?_ ?_ ?_ ?_ ?_ ?_ ?_
          ·intro i o ho
           match i with
           | 0=>cases ho;simp [Region.binds]
           | 1=>cases ho;simp [Region.binds]
           | 2=>cases ho;simp [Region.binds]
           | 3=>cases ho;simp [Region.binds]
           | 4=>cases ho;simp [Region.binds]
           | 5=>cases ho;simp [Region.binds]
           | 6=>cases ho;simp [Region.binds]
           | 7=>cases ho;simp [Region.binds]
           | 8=>cases ho;simp [Region.binds]
           | 9=>cases ho;simp [Region.binds]
           | 10=>cases ho;simp [Region.binds]
           | 11=>cases ho;simp [Region.binds]
           | 12=>cases ho;simp [Region.binds]
           | 13=>cases ho;simp [Region.binds]
           | 14=>cases ho;simp [Region.binds]
           | j+15=>simp at ho
          ·have hd:Below w4.heap.size w4 w4.drew:=(Below.refl _ _).drew
           exact ⟨by simp,by simp,by simp,by simp,fun _=>⟨S5.out.Xa hd,(hd.block _ (Array.getElem?_eq_some_iff.1 Hb.out).1).trans Hb.out⟩,by simp,by simp,by simp⟩
          ·intro f a a' w' h hj
           exact hj.act (h 11 (by decide) rfl) (h 12 (by decide) rfl)
          ·intro i op hi hst ho
           match i,hi,hst with
           | 0,_,_=>
             cases ho
             refine ⟨rfl,rfl,by simp,fun ac f w' hj hf hdp hd hr=>?_⟩
             have r4:ac.tmps[4]? = some (.slice (some ⟨g,0,none⟩) (k+1) c):=(hr 4 (by intro i _;show 57+i≠4;omega)).trans rfl
             exact ⟨by simp [Oper.quietAt,Oper.quietUpon,execOp,r4,go_sem],hj.pure 0 (by decide) (by decide) (by decide)⟩
           | 1,_,_=>
             cases ho
             refine ⟨rfl,rfl,by simp,fun ac f w' hj hf hdp hd hr=>?_⟩
             have r4:ac.tmps[4]? = some (.slice (some ⟨g,0,none⟩) (k+1) c):=(hr 4 (by intro i _;show 57+i≠4;omega)).trans rfl
             exact ⟨by simp [Oper.quietAt,Oper.quietUpon,execOp,r4,go_sem],hj.pure 1 (by decide) (by decide) (by decide)⟩
           | 2,_,_=>
             cases ho
             refine ⟨rfl,rfl,by simp,fun ac f w' hj hf hdp hd hr=>?_⟩
             have r58:ac.tmps[58]? = some (.slice (some ⟨g,0,none⟩) (k+1) c):=hd ⟨1,.data⟩ (by simp) rfl rfl
             exact ⟨by simp [Oper.quietAt,Oper.quietUpon,execOp,r58,go_sem],hj.pure 2 (by decide) (by decide) (by decide)⟩
           | 3,_,_=>
             cases ho
             refine ⟨rfl,rfl,by simp,fun ac f w' hj hf hdp hd hr=>?_⟩
             have r59:ac.tmps[59]? = some (.int .i64 ((k:Int)+1)):=hd ⟨2,.data⟩ (by simp) rfl rfl
             exact ⟨by simp [Oper.quietAt,Oper.quietUpon,execOp,r59,go_sem,wk,wk0],hj.pure 3 (by decide) (by decide) (by decide)⟩
           | 4,_,_=>
             cases ho
             refine ⟨rfl,rfl,by simp,fun ac f w' hj hf hdp hd hr=>?_⟩
             have r4:ac.tmps[4]? = some (.slice (some ⟨g,0,none⟩) (k+1) c):=(hr 4 (by intro i _;show 57+i≠4;omega)).trans rfl
             exact ⟨by simp [Oper.quietAt,Oper.quietUpon,execOp,r4,go_sem],hj.pure 4 (by decide) (by decide) (by decide)⟩
           | 5,_,_=>
             cases ho
             refine ⟨rfl,rfl,by simp,fun ac f w' hj hf hdp hd hr=>?_⟩
             have r4:ac.tmps[4]? = some (.slice (some ⟨g,0,none⟩) (k+1) c):=(hr 4 (by intro i _;show 57+i≠4;omega)).trans rfl
             exact ⟨by simp [Oper.quietAt,Oper.quietUpon,execOp,r4,go_sem],hj.pure 5 (by decide) (by decide) (by decide)⟩
           | 6,_,_=>
             cases ho
             refine ⟨rfl,rfl,by simp,fun ac f w' hj hf hdp hd hr=>?_⟩
             have r62:ac.tmps[62]? = some (.slice (some ⟨g,0,none⟩) (k+1) c):=hd ⟨5,.data⟩ (by simp) rfl rfl
             exact ⟨by simp [Oper.quietAt,Oper.quietUpon,execOp,r62,go_sem],hj.pure 6 (by decide) (by decide) (by decide)⟩
           | 7,_,_=>
             cases ho
             refine ⟨rfl,rfl,by simp,fun ac f w' hj hf hdp hd hr=>?_⟩
             have r63:ac.tmps[63]? = some (.int .i64 ((k:Int)+1)):=hd ⟨6,.data⟩ (by simp) rfl rfl
             exact ⟨by simp [Oper.quietAt,Oper.quietUpon,execOp,r63,go_sem,wk,wk0],hj.pure 7 (by decide) (by decide) (by decide)⟩
           | 8,_,_=>
             cases ho
             refine ⟨rfl,rfl,by simp,fun ac f w' hj hf hdp hd hr=>?_⟩
             have r61:ac.tmps[61]? = some (.slice (some ⟨g,0,none⟩) (k+1) c):=hd ⟨4,.data⟩ (by simp) rfl rfl
             have r64:ac.tmps[64]? = some (.int .i64 (k:Int)):=hd ⟨7,.data⟩ (by simp) rfl rfl
             exact ⟨by simp [Oper.quietAt,Oper.quietUpon,execOp,r61,r64,go_sem,u23,z51,pk,pk1],hj.pure 8 (by decide) (by decide) (by decide)⟩
           | 9,_,_=>
             cases ho
             refine ⟨rfl,rfl,by simp,fun ac f w' hj hf hdp hd hr=>?_⟩
             have r65:ac.tmps[65]? = some (.pointer (some ⟨g,k,none⟩)):=hd ⟨8,.data⟩ (by simp) rfl rfl
             have hrow:w'.ownsRow w.heap.size 51 1 (.slice (some ⟨g,0,none⟩) (k+1) c) r.length Jp:=by
              have h12:f 12=false:=by
               cases e:f 12 with
               | false=>rfl
               | true=>have:=hj.o5 e;have hf:f 9=false:=hf;rw [hf] at this;cases this
              cases e11:f 11 with
              | false=>exact (hj.A e11).1.row
              | true=>exact (hj.B e11 h12).1.row
             have hcl:w'.cell? ⟨g,k,none⟩=some xv:=by
              rcases hrow.2 with ⟨e,-⟩ | ⟨g',cap,cur,e,h1,h2,h3,h4,h5,h6⟩
              ·cases e
              ·simp only [Value.slice.injEq,Option.some.injEq,Addr.mk.injEq] at e
               obtain ⟨⟨rfl,-,-⟩,-,rfl⟩:=e
               rw [Ji h2,<- Array.getElem?_toList]
               have:=HK.out.2.1
               rw [<- h6,List.getElem?_take_of_lt (by rw [HL.out];omega)] at this
               exact this
             exact ⟨qz rfl (ev r65) (by kernel_rfl) hcl,hj.pure 9 (by decide) (by decide) (by decide)⟩
           | 10,_,_=>
             cases ho
             refine ⟨rfl,rfl,by simp,fun ac f w' hj hf hdp hd hr=>?_⟩
             have f11:f 11=false:=by
              cases e:f 11 with
              | false=>rfl
              | true=>have:=hj.o4 e;have hf:f 10=false:=hf;rw [hf] at this;cases this
             have r9:ac.tmps[9]? = some (.pointer (some ⟨w3.heap.size,0,none⟩)):=(hr 9 (by intro i _;show 57+i≠9;omega)).trans rfl
             have hbx:=(hj.A f11).2
             exact ⟨jcQ rfl (ev r9) HR.out.1 HR.out.2 hbx,hj.pure 10 (by decide) (by decide) (by decide)⟩
           | 13,_,_=>
             cases ho
             refine ⟨rfl,rfl,by simp,fun ac f w' hj hf hdp hd hr=>?_⟩
             have r57:ac.tmps[57]? = some (.slice (some ⟨g,0,none⟩) (k+1) c):=hd ⟨0,.data⟩ (by simp) rfl rfl
             have r60:ac.tmps[60]? = some (.int .i64 (k:Int)):=hd ⟨3,.data⟩ (by simp) rfl rfl
             exact ⟨by simp [Oper.quietAt,Oper.quietUpon,execOp,r57,r60,go_sem,u23,z51,pk,pk1],hj.pure 13 (by decide) (by decide) (by decide)⟩
           | 11,_,h=>exact absurd h (by decide)
           | 12,_,h=>exact absurd h (by decide)
           | 14,_,h=>exact absurd h (by decide)
           | j+15,h,_=>exact absurd h (by omega)
          ·intro i i' _ _ h
           have h:57+i=57+i':=h
           omega
          ·intro i op hi hst ho
           match i,hi,hst with
           | 11,_,_=>
             cases ho
             refine ⟨rfl,.inl rfl,fun ac f w' hsz hj hf hdp hd hr K hK=>?_⟩
             have f10:f 10=true:=hdp ⟨10,.data⟩ (by simp) rfl
             have r67:ac.tmps[67]? = some (.agg (inX kk id_ vx vy val_).toArray):=hd 10 (by decide) rfl f10
             obtain ⟨hA,-⟩:=hj.A hf
             have h12:f 12=false:=by
              cases e:f 12 with
              | false=>rfl
              | true=>have:=hj.o1 e;have hf:f 11=false:=hf;rw [hf] at this;cases this
             have hb:Below w'.heap.size w' (w'.alloc (.cells (inX kk id_ vx vy val_).toArray 77)):=(Below.refl _ _).alloc (Nat.le_refl _) _
             have hI:IR w.heap.size M' [x.1] (.slice (some ⟨w'.heap.size,0,none⟩) 1 1) (w'.alloc (.cells (inX kk id_ vx vy val_).toArray 77)):=IR.one hA.bel.size HXR.out (Yv _ _ _ _ _) rfl hA.imm
             refine jaQ rfl (ev r67) u51 H77.out.1 H77.out.2.1 H77.out.2.2.1 rfl (by exact Nat.lt_of_sub_eq_succ rfl) (by have h:(inX kk id_ vx vy val_).length=49:=rfl;omega) (hK _ _ ⟨?_,?_,fun _=>f10,?_,?_,?_,?_,?_⟩)
             ·intro h;have h:f 12=true:=h;rw [h12] at h;cases h
             ·intro h;have h:f 14=true:=h;have:=hj.o2 h;rw [h12] at this;cases this
             ·intro h;have h:f 12=true:=h;rw [h12] at h;cases h
             ·intro h;cases h
             ·intro _ _
              exact ⟨hA.Xa hb,w'.heap.size,_,put_eq (by rw [hsz];simp),hI⟩
             ·intro h;have h:f 12=true:=h;rw [h12] at h;cases h
             ·intro h;have h:f 14=true:=h;have:=hj.o2 h;rw [h12] at this;cases this
           | 12,_,_=>
             cases ho
             refine ⟨rfl,.inl rfl,fun ac f w' hsz hj hf hdp hd hr K hK=>?_⟩
             have f9:f 9=true:=hdp ⟨9,.data⟩ (by simp) rfl
             have f11:f 11=true:=hdp ⟨11,.data⟩ (by simp) rfl
             have r66:ac.tmps[66]? = some xv:=hd 9 (by decide) rfl f9
             obtain ⟨hB,bb,BB,r68,hIR⟩:=hj.B f11 hf
             have h14:f 14=false:=by
              cases e:f 14 with
              | false=>rfl
              | true=>have:=hj.o2 e;have hf:f 12=false:=hf;rw [hf] at this;cases this
             obtain ⟨y,w2,hrun,hy,hg2,hblk,him⟩:=KU (P:=Tryz.prog) i77 u51 HE.out.2.1 HE.out.2.2.1 HE.out.2.2.2.1 HE.out.2.2.2.2 (hB.fr k fr xv HK.out.1 HK.out.2.1) hIR hB.imm (by have:=HK.out.2.2.2.1;simp;omega) hB.bel.size
             obtain ⟨hk1,hk2⟩:=hB.upd HK.out.1 HK.out.2.1 hy hg2 hblk him
             obtain ⟨ya,yn,yc,rfl⟩:=hy.slice
             refine xh rfl (ev r66) (ev r68) hrun (hK _ w2 ⟨fun _=>f11,?_,fun _=>hj.o4 f11,fun _=>f9,?_,?_,?_,?_⟩)
             ·intro h;have h:f 14=true:=h;rw [h14] at h;cases h
             ·intro h;have h:f 11=false:=h;rw [f11] at h;cases h
             ·intro _ h;cases h
             ·intro _ _
              exact ⟨_,put_eq (by rw [hsz];simp),rfl,rfl,hk1,hk2⟩
             ·intro h;have h:f 14=true:=h;rw [h14] at h;cases h
           | 14, _,_=>
             cases ho
             refine ⟨rfl,.inr rfl,fun ac f w' hsz hj hf hdp hd hr K hK=>?_⟩
             have f12:f 12=true:=hdp ⟨12,.data⟩ (by simp) rfl
             have r70:ac.tmps[70]? = some (.pointer (some ⟨g,k,none⟩)):=hd 13 (by decide) rfl (hdp ⟨13,.data⟩ (by simp) rfl)
             obtain ⟨y,r69,y1,y2,hk1,hk2⟩:=hj.C f12 hf
             rcases hk2.2 with ⟨e,-⟩ | ⟨g',cap,cur,e,h1,h2,h3,h4,h5,h6⟩
             ·cases e
             ·simp only [Value.slice.injEq,Option.some.injEq,Addr.mk.injEq] at e
              obtain ⟨⟨rfl,-,-⟩,-,rfl⟩:=e
              have hcl:k<cur.toList.length:=by rw [Array.length_toList,h5];have:=HL.out;omega
              refine wS (arr:=cur.toList) rfl (ev r70) (ev r69) y2 (by kernel_rfl) (by simpa using h2) hcl y1 fun w2 hw2 hg2=>hK _ w2 ?_
              have hkf:=hk1.store (g:=g) rfl hg2 h1
              have hown:w2.ownsRow w.heap.size 51 1 (.slice (some ⟨g,0,none⟩) (k+1) c) (r.set k (fr++[x.1])).length (Jp.set k y):=by
               have hk2':=hk2
               refine ⟨by rw [List.length_set,List.length_set];exact hk2.1,.inr ⟨g,c,(cur.toList.set k y).toArray,by rw [List.length_set,HL.out],h1,hw2,by rw [List.length_set];exact h3,h4,by simpa using h5,?_⟩⟩
               rw [List.length_set]
               show (cur.toList.set k y).take _=_
               rw [List.take_set,h6]
              refine ⟨fun _=>hj.o1 f12,fun _=>f12,fun _=>hj.o4 (hj.o1 f12),fun _=>hj.o5 f12,?_,?_,?_,fun _=>⟨y,hkf.kl hown⟩⟩
              ·intro h;have h:f 11=false:=h;rw [hj.o1 f12] at h;cases h
              ·intro _ h;have h:f 12=false:=h;rw [f12] at h;cases h
              ·intro _ h;cases h
           | 0,_,h=>exact absurd h (by decide)
           | 1,_,h=>exact absurd h (by decide)
           | 2,_,h=>exact absurd h (by decide)
           | 3,_,h=>exact absurd h (by decide)
           | 4,_,h=>exact absurd h (by decide)
           | 5,_,h=>exact absurd h (by decide)
           | 6,_,h=>exact absurd h (by decide)
           | 7,_,h=>exact absurd h (by decide)
           | 8,_,h=>exact absurd h (by decide)
           | 9,_,h=>exact absurd h (by decide)
           | 10,_,h=>exact absurd h (by decide)
           | 13,_,h=>exact absurd h (by decide)
           | j+15,h,_=>exact absurd h (by omega)
          ·intro f ac w5 hj hall hdf hsz hvals hrest
           obtain ⟨tm,dfr⟩:=ac
           have e1:dfr=_:=hdf
           have hsz':tm.size=73:=hsz
           obtain ⟨u68,h68⟩:∃ u,tm[68]? = some u:=⟨_,Array.getElem?_eq_getElem (by omega)⟩
           obtain ⟨u69,h69⟩:∃ u,tm[69]? = some u:=⟨_,Array.getElem?_eq_getElem (by omega)⟩
           obtain ⟨u71,h71⟩:∃ u,tm[71]? = some u:=⟨_,Array.getElem?_eq_getElem (by omega)⟩
           have e2:=zM [(57,.slice (some ⟨g,0,none⟩) (k+1) c),(58,.slice (some ⟨g,0,none⟩) (k+1) c),(59,.int .i64 ((k:Int)+1)),(60,.int .i64 (k:Int)),(61,.slice (some ⟨g,0,none⟩) (k+1) c),(62,.slice (some ⟨g,0,none⟩) (k+1) c),(63,.int .i64 ((k:Int)+1)),(64,.int .i64 (k:Int)),(65,.pointer (some ⟨g,k,none⟩)),(66,xv),(67,.agg (inX kk id_ vx vy val_).toArray),(68,u68),(69,u69),(70,.pointer (some ⟨g,k,none⟩)),(71,u71)] _ tm hsz rfl rfl
            ⟨hvals 0 (by decide) rfl,hvals 1 (by decide) rfl,hvals 2 (by decide) rfl,hvals 3 (by decide) rfl,hvals 4 (by decide) rfl,hvals 5 (by decide) rfl,hvals 6 (by decide) rfl,hvals 7 (by decide) rfl,hvals 8 (by decide) rfl,hvals 9 (by decide) rfl,hvals 10 (by decide) rfl,h68,h69,hvals 13 (by decide) rfl,h71,trivial⟩ (fun j hj=>hrest j (fun i hi e=>hj (by
              have e:57+i=j:=e
              subst e
              simp
              omega)))
           simp only [List.foldl_cons,List.foldl_nil,List.setIfInBounds_toArray,List.set_cons_succ,List.set_cons_zero] at e1 e2
           subst e1
           subst e2
           obtain ⟨y,hK⟩:=hj.D (hall 14 (by decide))
           have HK2:Hid (_):=hK
           clear hj hall hvals hrest hsz hdf hsz' h68 h69 h71 hK
           go_wp2
           go_roundg (n - (i+1))
           case measure=>omega
           case rel=>
            refine ⟨i+1,r.set k (fr++[x.1]),Jp.set k y,M',some ⟨g,0,none⟩,c,by simp,by rw [List.length_set,HL.out],by omega,by omega,by rw [List.length_set];have:=HK.out.2.2.2.2.1;omega,?_,HK.out.2.2.1,?_⟩
            ·intro f hf
             rcases List.mem_or_eq_of_mem_set hf with h | h
             ·exact Nat.le_succ_of_le (HK.out.2.2.2.2.2 f h)
             ·rw [h,List.length_append];have:=HK.out.2.2.2.1;simp;omega
            ·exact HK2.out
  ·have hin':i=n:=by omega
   subst hin'
   have hdr:lines.drop i=[]:=List.drop_eq_nil_of_le (by omega)
   rw [hdr] at hrec
   have ex:(r,0)=res:=Option.some.inj hrec
   go_wp2
   go_ret2
   subst ex
   exact .inl ⟨rfl,_,Jp,M',rfl,S0.out⟩
theorem MW (s:List UInt8) (l:List (List UInt8)) (c:Int) (h:JW s=some (l,c)) (w:World) (M:Mem) (hi:Imm M w):Calls Tryz.prog 45 #[.string ⟨s.toArray⟩] w fun e w'=>∃ u M',e=.returned (.tuple #[u,.int .i64 c])/\Below w.heap.size w w'/\Imm M' w'/\Mem.le M M'/\JG M M' w.heap.size/\Rep M' je (qZ l) u:=by
 have hc:FnR Tryz.prog 45 [qY s] (.tup [qZ l,.v (.int .i64 c)]) []:=c_45.ok (s,()) [qY s] ((l,c):List (List UInt8) × Int) ⟨rfl,trivial⟩ h
 refine (jb1 hc w M [.string ⟨s.toArray⟩] hi (.cons .v .nil)).mono ?_
 rintro e w' ⟨v,M',rfl,hb,him,hle,hn,hrep⟩
 obtain ⟨u,rfl,h1⟩:=jd6 hrep
 exact ⟨u,M',rfl,hb,him,hle,hn,h1⟩
theorem jeO (t:Value) (w:World):Calls Tryz.prog 47 #[.nilIface,t] w fun e w'=>e=.returned (.bool false)/\w'=w:=by
 go_enter Tryz.func47,Tryz.ntmps47
 go_wp2
 go_ret
 exact ⟨rfl,rfl⟩
theorem XJ {B:Nat} {M:Mem} {w:World} (h:Imm M w):Imm (Uf B M w) w:=by
 intro b o v e
 unfold Uf at e
 split at e
 ·exact e
 ·exact h b o v e
def PApost (w:World) (M:Mem) (r:List (List Input) × Int × Int) (e:Ending) (w':World):Prop:=
 ∃ v,e=.returned (.tuple #[v,.int .i64 r.2.1,.int .i64 r.2.2])/\∃ M',Below w.heap.size w w'/\Imm M' w'/\Mem.le M M'/\JG M M' w.heap.size/\Rep (Uf w.heap.size M' w') je (jw r.1) v
set_option maxHeartbeats 8000000 in
theorem jaJ (s : List UInt8) (r:List (List Input) × Int × Int) (hr:yx s=some r) (M:Mem) (w:World) (hi:Imm M w) (hg:M 0 0=some (.iface 190 (.agg #[.pointer (some ⟨4,95,none⟩)]))):
 Calls Tryz.prog 16 #[.string ⟨s.toArray⟩] w (PApost w M r):=by
 have hr:kr JW Jv jP jy s=some r:=hr
 unfold kr at hr
 have e45:=Tryz.call45
 have e46:=Tryz.call46
 have e47:=Tryz.call47
 have e18:=Tryz.call18
 cases hq:JW s with
 | none=>rw [hq] at hr;cases hr
 | some q =>
   obtain ⟨lines,code⟩:=q
   rw [hq] at hr
   dsimp only at hr
   have k45:=MW s lines code hq w M hi
   clear hq
   have HI0:Hid (Imm M w/\M 0 0=some (.iface 190 (.agg #[.pointer (some ⟨4,95,none⟩)]))):=⟨hi,hg⟩
   clear hi hg
   by_cases hc:code≠0
   ·have ex:([],0,code)=r:=Option.some.inj ((if_pos hc).symm.trans hr)
    have hc1:(code != 0)=true:=by rw [bne_iff_ne];exact hc
    clear hr
    go_enter Tryz.func16,Tryz.ntmps16
    go_wp2_with (first
     | (go_at_call 45;refine k45.mono ?_;rintro e w1 ⟨u,M1,rfl,hb1,hi1,hle1,hn1,hr1⟩
        have S1:Hid (Below w.heap.size w w1/\Imm M1 w1/\Mem.le M M1/\JG M M1 w.heap.size):=⟨hb1,hi1,hle1,hn1⟩
        clear hb1 hi1 hle1 hn1 hr1 k45))
    go_ret3
    subst ex
    exact ⟨_,rfl,M1,S1.out.1,S1.out.2.1,S1.out.2.2.1,S1.out.2.2.2,.slnil⟩
   ·have hr := (if_neg hc).symm.trans hr
    have hc0:code=0:=by
     rcases Decidable.em (code=0) with h | h
     ·exact h
     ·exact absurd h hc
    subst hc0
    by_cases hl:lines.length<=1048576
    ·have hr := (if_pos hl).symm.trans hr
     cases hy:Yt Jv jP lines 0 [] with
     | none=>rw [hy] at hr;cases hr
     | some y =>
       rw [hy] at hr
       dsimp only at hr
       obtain ⟨rr,num⟩:=y
       dsimp only at hr
       by_cases hn0:num≠0
       ·have ex:([],(num:Int),27)=r:=Option.some.inj ((if_pos hn0).symm.trans hr)
        have HL:Hid (_/\_):=⟨hl,hy⟩
        clear hr hl hy hc
        go_enter Tryz.func16,Tryz.ntmps16
        go_upto_region 6 with (first
         | (go_at_call 45;refine k45.mono ?_;rintro e w1 ⟨u,M1,rfl,hb1,hi1,hle1,hn1,hr1⟩
            have S1:Hid (Below w.heap.size w w1/\Imm M1 w1/\Mem.le M M1/\JG M M1 w.heap.size):=⟨hb1,hi1,hle1,hn1⟩
            have k46:=kv lines HL.out.1 (rr,num) HL.out.2 M1 u w1 hi1 hr1
            clear hb1 hi1 hle1 hn1 hr1 k45)
         | (go_at_call 46;refine k46.mono ?_;rintro e w2 (⟨h0,-⟩ | ⟨-,b,rfl,hb2,hcl,hbl⟩)
            ·exact absurd h0 hn0
            have S2:Hid (Below w.heap.size w w2/\Below w1.heap.size w1 w2):=⟨S1.out.1.trans (hb2.mono S1.out.1.size),hb2⟩
            have HC:Hid (w2.cell? ⟨b,0,none⟩=some (.int .i64 (num:Int))/\b<w2.heap.size):=⟨hcl,hbl⟩
            clear hb2 hcl hbl k46))
        have b2:Below w2.heap.size w2 (w2.alloc (.cells #[.pointer none] 98)):=(Below.refl _ _).alloc (Nat.le_refl _) _
        have h1:(w2.alloc (.cells #[.pointer none] 98)).cell? ⟨0,0,none⟩=some (.iface 190 (.agg #[.pointer (some ⟨4,95,none⟩)])):=(HI0.out.1.below (S2.out.1.trans (b2.mono S2.out.1.size))) 0 0 _ HI0.out.2
        have t2:(w2.alloc (.cells #[.pointer none] 98)).heap[w2.heap.size]? = some (.cells #[.pointer none] 98 (0,0)):=Jh _ _ _ rfl
        have k47:=as_hit ⟨b,0,none⟩ ⟨w2.heap.size,0,none⟩ (.pointer none) (w2.alloc (.cells #[.pointer none] 98)) h1 (jD t2 0 rfl) (qp t2 0)
        have k48:Calls Tryz.prog 47 #[.iface 98 (.pointer (some ⟨b,0,none⟩)),.iface 100 (.pointer (some ⟨w2.heap.size,0,none⟩))] (w2.alloc (.cells #[.pointer none] 98)) fun ev w7=>ev=.returned (.bool true)/\w7.cell? ⟨w2.heap.size,0,none⟩=some (.pointer (some ⟨b,0,none⟩))/\w7.cell? ⟨b,0,none⟩=some (.int .i64 (num:Int))/\Below w.heap.size w w7/\Below w1.heap.size w1 w7:=by
         refine k47.mono ?_
         rintro ev w7 ⟨hev,hw7⟩
         have hB:Below (w2.alloc (.cells #[.pointer none] 98)).heap.size (w2.alloc (.cells #[.pointer none] 98)) (((((w2.alloc (.cells #[.pointer none] 98)).alloc (.cells #[.pointer (some ⟨w2.heap.size,0,none⟩)] 100)).alloc (.cells #[.pointer (some ⟨4,100,none⟩),.pointer (some ⟨(w2.alloc (.cells #[.pointer none] 98)).heap.size,0,none⟩),.int .u64 150] 145)).alloc (.cells #[.pointer (some ⟨4,100,none⟩),.pointer (some ⟨(w2.alloc (.cells #[.pointer none] 98)).heap.size,0,none⟩),.int .u64 150] 145)).alloc (.cells #[.pointer (some ⟨b,0,none⟩)] 98)):=
          ((((Below.refl _ _).alloc (Nat.le_refl _) _).alloc (by simp) _).alloc (by simp <;> omega) _).alloc (by simp <;> omega) _
         have hc:(w2.alloc (.cells #[.pointer none] 98)).cell? ⟨b,0,none⟩=some (.int .i64 (num:Int)):=((Zd w2).below b2) _ _ _ HC.out.1
         have hlb:=HC.out.2
         have HW:=jdZ (e:=⟨b,0,none⟩) hB hw7 t2 rfl (Nat.zero_lt_one) hc (by simp;omega) (Nat.ne_of_lt hlb)
         exact ⟨hev,HW.1,HW.2.1,HW.2.2 _ _ (S2.out.1.trans (b2.mono S2.out.1.size)) S2.out.1.size (Nat.le_trans S2.out.1.size (by simp)),HW.2.2 _ _ (S2.out.2.trans (b2.mono S2.out.2.size)) S2.out.2.size (Nat.le_trans S2.out.2.size (by simp))⟩
        clear b2 h1 t2 k47
        go_upto_region 7 with (first
         | (go_at_call 47;refine k48.mono ?_;rintro ev w7 ⟨rfl,f1,f2,f3,f4⟩;have F:Hid (Below w.heap.size w w7/\Below w1.heap.size w1 w7):=⟨f3,f4⟩;clear f3 f4 k48))
        have g1:∀ w',Below w7.heap.size w7 w'->w'.cell? ⟨w2.heap.size,0,none⟩=some (.pointer (some ⟨b,0,none⟩)):=fun w' hw=>((Zd w7).below hw) _ _ _ f1
        have g2:∀ w',Below w7.heap.size w7 w'->w'.cell? ⟨b,0,none⟩=some (.int .i64 (num:Int)):=fun w' hw=>((Zd w7).below hw) _ _ _ f2
        clear f1 f2
        refine qk qT (by kernel_rfl) ?_
        go_big_quiet_want
        refine Yn (ad:=⟨w2.heap.size,0,none⟩) (v:=.pointer (some ⟨b,0,none⟩)) rfl rfl (by kernel_rfl) (fun w' hw=>g1 w' hw) ?_
        simp only [Act.put,List.setIfInBounds_toArray,List.set_cons_succ,List.set_cons_zero]
        go_big_quiet_on
        go_big_quiet_want
        go_big_quiet_op
        first | go_big_quiet_on | (refine ⟨_,fun _ _=>rfl,?_⟩;go_big_quiet_on)
        go_big_quiet_want
        go_big_quiet_op
        first | go_big_quiet_on | (refine ⟨_,fun _ _=>rfl,?_⟩;go_big_quiet_on)
        go_big_quiet_want
        refine Yn (ad:=⟨b,0,none⟩) (v:=.int .i64 (num:Int)) rfl rfl (by kernel_rfl) (fun w' hw=>g2 w' hw) ?_
        simp only [Act.put,List.setIfInBounds_toArray,List.set_cons_succ,List.set_cons_zero]
        go_big_quiet_on
        go_big_quiet_want
        go_big_quiet_op
        first | go_big_quiet_on | (refine ⟨_,fun _ _=>rfl,?_⟩;go_big_quiet_on)
        go_big_quiet_want
        go_big_quiet_op
        first | go_big_quiet_on | (refine ⟨_,fun _ _=>rfl,?_⟩;go_big_quiet_on)
        go_big_quiet_want
        go_big_quiet_op
        first | go_big_quiet_on | (refine ⟨_,fun _ _=>rfl,?_⟩;go_big_quiet_on)
        refine wpQuiet_nil ?_
        intro w8 hw8
        have F8:Hid (Below w.heap.size w w8/\Below w1.heap.size w1 w8):=⟨F.out.1.trans (hw8.mono F.out.1.size),F.out.2.trans (hw8.mono F.out.2.size)⟩
        go_wp2
        go_ret3
        subst ex
        exact ⟨_,rfl,M1,F8.out.1,S1.out.2.1.below F8.out.2,S1.out.2.2.1,S1.out.2.2.2,.slnil⟩
       ·have hr:=(if_neg hn0).symm.trans hr
        have h0:num=0:=by omega
        subst h0
        cases hV:jy rr with
        | none=>rw [hV] at hr;cases hr
        | some cv=>
          rw [hV] at hr
          dsimp only at hr
          have HL:Hid (_/\_):=⟨hl,hy⟩
          have HV:Hid (_):=hV
          clear hl hy hc hn0
          by_cases hcv:cv≠0
          ·have ex:([],0,25)=r:=Option.some.inj ((if_pos hcv).symm.trans hr)
           have hcv1:(cv != 0)=true:=by rw [bne_iff_ne];exact hcv
           clear hr hV
           go_enter Tryz.func16,Tryz.ntmps16
           go_wp2_with (first
            | (go_at_call 45;refine k45.mono ?_;rintro e w1 ⟨u,M1,rfl,hb1,hi1,hle1,hn1,hr1⟩
               have S1:Hid (Below w.heap.size w w1/\Imm M1 w1/\Mem.le M M1/\JG M M1 w.heap.size):=⟨hb1,hi1,hle1,hn1⟩
               have k46:=kv lines HL.out.1 (rr,0) HL.out.2 M1 u w1 hi1 hr1
               clear hb1 hi1 hle1 hn1 hr1 k45)
            | (go_at_call 46;refine k46.mono ?_;rintro e w2 (⟨-,v2,Jp,M2,rfl,hK⟩ | ⟨h0,-⟩)
               rotate_left
               ·exact absurd rfl h0
               have S2:Hid (KL w M1 rr v2 Jp w2 M2):=KL.jal hK S1.out.1
               clear hK k46
               have k47:=jeO (.iface 100 (.pointer (some ⟨w2.heap.size,0,none⟩))) (w2.alloc (.cells #[.pointer none] 98)))
            | (go_at_call 47;refine k47.mono ?_;rintro e w3 ⟨rfl,hw3⟩
               have S3:Hid (KL w M1 rr v2 Jp w3 M2):=by rw [hw3];exact S2.out.Xa ((Below.refl _ _).alloc (Nat.le_refl _) _)
               have h18:FnR Tryz.prog 18 [jw rr] (.v (.int .i64 cv)) []:=jcC.ok (rr,()) [jw rr] cv ⟨rfl,trivial⟩ HV.out
               have k18:=Zv h18 w3 [v2] (.cons ((S3.out.rep).mono (qU (XJ S3.out.imm))) .nil)
               clear hw3 h18 k47)
            | (go_at_call 18;refine k18.mono ?_;rintro e w5 ⟨rfl,hb5⟩
               have S5:Hid (KL w M1 rr v2 Jp w5 M2):=S3.out.Xa hb5
               clear hb5 k18))
           go_ret3
           subst ex
           exact ⟨_,rfl,M2,S5.out.bel,S5.out.imm,fun b o u e=>S5.out.le b o u (S1.out.2.2.1 b o u e),S1.out.2.2.2.trans S5.out.new (Nat.le_refl _),.slnil⟩
          ·have ex:(rr,0,0)=r:=Option.some.inj ((if_neg hcv).symm.trans hr)
           have hcv1:(cv != 0)=false:=by rw [bne_eq_false_iff_eq];omega
           clear hr hV
           go_enter Tryz.func16,Tryz.ntmps16
           go_wp2_with (first
            | (go_at_call 45;refine k45.mono ?_;rintro e w1 ⟨u,M1,rfl,hb1,hi1,hle1,hn1,hr1⟩
               have S1:Hid (Below w.heap.size w w1/\Imm M1 w1/\Mem.le M M1/\JG M M1 w.heap.size):=⟨hb1,hi1,hle1,hn1⟩
               have k46:=kv lines HL.out.1 (rr,0) HL.out.2 M1 u w1 hi1 hr1
               clear hb1 hi1 hle1 hn1 hr1 k45)
            | (go_at_call 46;refine k46.mono ?_;rintro e w2 (⟨-,v2,Jp,M2,rfl,hK⟩ | ⟨h0,-⟩)
               rotate_left
               ·exact absurd rfl h0
               have S2:Hid (KL w M1 rr v2 Jp w2 M2):=KL.jal hK S1.out.1
               clear hK k46
               have k47:=jeO (.iface 100 (.pointer (some ⟨w2.heap.size,0,none⟩))) (w2.alloc (.cells #[.pointer none] 98)))
            | (go_at_call 47;refine k47.mono ?_;rintro e w3 ⟨rfl,hw3⟩
               have S3:Hid (KL w M1 rr v2 Jp w3 M2):=by rw [hw3];exact S2.out.Xa ((Below.refl _ _).alloc (Nat.le_refl _) _)
               have h18:FnR Tryz.prog 18 [jw rr] (.v (.int .i64 cv)) []:=jcC.ok (rr,()) [jw rr] cv ⟨rfl,trivial⟩ HV.out
               have k18:=Zv h18 w3 [v2] (.cons ((S3.out.rep).mono (qU (XJ S3.out.imm))) .nil)
               clear hw3 h18 k47)
            | (go_at_call 18;refine k18.mono ?_;rintro e w5 ⟨rfl,hb5⟩
               have S5:Hid (KL w M1 rr v2 Jp w5 M2):=S3.out.Xa hb5
               clear hb5 k18))
           go_ret3
           subst ex
           exact ⟨_,rfl,M2,S5.out.bel,S5.out.imm,fun b o u e=>S5.out.le b o u (S1.out.2.2.1 b o u e),S1.out.2.2.2.trans S5.out.new (Nat.le_refl _),S5.out.rep⟩
    ·have hr:=(if_neg hl).symm.trans hr
     cases hr
end GoForm
end
