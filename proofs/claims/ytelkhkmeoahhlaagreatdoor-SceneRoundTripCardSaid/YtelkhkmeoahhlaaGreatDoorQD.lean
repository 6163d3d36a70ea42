/- Several texts in one. No conditions. -/
import Derived.Test.YtelkhkmeoahhlaaGreatDoorQC
section
set_option linter.all false
namespace Go.Rx
section
open Go.RowKit
variable [GlC]
section
variable {P:Program} {tb:Tb} {ρ:Type} {cx:Ctx P tb}
theorem elC_replicate {E:tb.Ix} {Z:List AV} {z:tb.T E} (h:SubL Z (tb.el E z).cells):∀ n,SubL (List.replicate n Z).flatten (elC tb E (List.replicate n z))
 | 0=>by simpa [elC] using SubL.refl []
 | n+1=>by
   have:=h.append (elC_replicate h n)
   simpa [elC,List.replicate_succ] using this
def lMake (cx:Ctx P tb) (N:Nat) (ops:Array Oper) (L:SLS tb) (gs:List Nat) (o:Oper) (t:Nat) (x y:Operand) (k:SLS tb->List Nat->KL->Option ρ):Option ρ:=
 got o.dst fun d=>got (elemOf P tb t) fun p=>got (zeroS P p.2.1) fun Z=>got ((cx.cd p.1).ofC Z) fun z=>got (opd L [] x) fun a=>got (opd L [] y) fun b=>got (asI a) fun n=>got (asI b) fun c=>
 Chk (0<=n.2/\n.2<=c.2/\(p.2.2:Int)*c.2<=281474976710656/\c.2<=9223372036854775807) <| Let (List.replicate n.2.toNat z) fun l=>putN N gs L d (.rw L.nx p.1) (.arr p.1 l) fun L'=>k L' gs ⟨o.looksAt ops,[],[d],[L.nx],[L.nx]⟩
theorem lMake_ok {N ops} {L:SLS tb} {gs o t x y} {k:SLS tb->List Nat->KL->Option ρ} {r} (hi:RI gs L.e) (hg:o.guard=none) (ho:o.op=.makeSlice t x y) (h:lMake cx N ops L gs o t x y k=some r):LOk P N ops o L k r:=by
 unfold lMake at h
 obtain ⟨d,hd,h⟩:=got_e h
 obtain ⟨p,hp,h⟩:=got_e h
 obtain ⟨Z,hZ,h⟩:=got_e h
 obtain ⟨z,hz,h⟩:=got_e h
 obtain ⟨a,ha,h⟩:=got_e h
 obtain ⟨b,hb,h⟩:=got_e h
 obtain ⟨n,hn,h⟩:=got_e h
 obtain ⟨c,hc,h⟩:=got_e h
 obtain ⟨⟨h1,h2,h3,h4⟩,h⟩:=Chk_e h
 have hx:=opd_ok (Gu.nil hi.inv) ha
 have hy:=opd_ok (Gu.nil hi.inv) hb
 rw [asI_e hn] at hx
 rw [asI_e hc] at hy
 exact putN_ok (rh:=[]) hi rfl (fun hN=>(LEx.makeRow hg hd hN ho (elemOf_e hp) (zeroS_e hZ) hx hy h1 h2 h3 h4).wsub (elC_replicate ((cx.ok p.1).ofC _ _ hz).1 _)) (by simp) (by simp) rfl rfl rfl rfl (Let_e h)
def lBuildO (N:Nat) (ops:Array Oper) (L:SLS tb) (gs:List Nat) (o:Oper) (t n:Nat) (ps:Array (Nat × Operand)) (k:SLS tb->List Nat->KL->Option ρ):Option ρ:=
 got o.dst fun d=>got (elemT P t 1) fun _=>got tb.byte fun b=>tst (Nat.beq (tb.sz b.1) 1) <| got (fillS L [] (fun i=>some (i*1,1)) ps.toList (List.replicate (n*1) .undef)) fun Z=>
 tst (Nat.beq Z.length (n*1)) <| tst (Nat.blt 0 n) <| tst (Nat.ble (n*1) (2 ^ 24)) <| putN N gs L d (.rw L.nx b.1) (.cells Z) fun L'=>k L' gs ⟨o.looksAt ops,[],[d],[L.nx],[L.nx]⟩
theorem avL_rep:∀ n:Nat,avL (List.replicate n (SV.undef:SV tb))=List.replicate n AV.undef
 | 0=>rfl
 | n+1=>by rw [List.replicate_succ,List.replicate_succ];simp only [avL,avL_rep n];rfl
theorem lBuildO_ok {N ops} {L:SLS tb} {gs o t n ps} {k:SLS tb->List Nat->KL->Option ρ} {r} (hi:RI gs L.e) (hg:o.guard=none) (ho:o.op=.buildSlice t n ps) (h:lBuildO (P:=P) N ops L gs o t n ps k=some r):LOk P N ops o L k r:=by
 unfold lBuildO at h
 obtain ⟨d,hd,h⟩:=got_e h
 obtain ⟨p,hp,h⟩:=got_e h
 obtain ⟨b,hb,h⟩:=got_e h
 obtain ⟨h1,h⟩:=tst_e h
 obtain ⟨Z,hZ,h⟩:=got_e h
 obtain ⟨h2,h⟩:=tst_e h
 obtain ⟨h3,h⟩:=tst_e h
 obtain ⟨h4,h⟩:=tst_e h
 have hf:=fillS_ok (Gu.nil hi.inv) hZ
 rw [avL_rep] at hf
 refine putN_ok (rh:=[]) hi rfl (fun hN=>?_) (by simp) (by simp) rfl rfl rfl rfl h
 have:=LEx.buildOwn (ops:=ops) (N:=N) (nm:=L.nx) hg hd hN ho (elemT_e hp) hf (by rw [avL_length];exact Nat.eq_of_beq_eq_true h2) (Nat.le_of_ble_eq_true h3) (Nat.le_of_ble_eq_true h4)
 have e:(SV.rw L.nx b.1:SV tb).av=.rw L.nx 1:=by show AV.rw _ _=_;rw [Nat.eq_of_beq_eq_true h1]
 rw [e];exact this
/-! appends -/
def byteIx (tb:Tb) (E:tb.Ix) (s:List UInt8):Option (List (tb.T E)):=match tb.byte with
 | some b=>(match tb.dec E b.1 with | isTrue he=>some (cast (congrArg List ((congrArg tb.T he).trans (Classical.choose b.2))).symm s) | isFalse _=>none)
 | none=>none
theorem byteIx_e {E s l} (h:byteIx tb E s=some l):tb.sz E=1/\l.map (tb.el E)=s.map byteAV:=by
 unfold byteIx at h
 split at h
 ·rename_i b _
  split at h
  ·rename_i he _
   cases h
   subst he
   obtain ⟨h1,h2⟩:=Classical.choose_spec b.2
   exact ⟨h1,bytes_map2 (Classical.choose b.2) h2 s⟩
  ·cases h
 ·cases h
def srcK (P:Program) (L:SLS tb) (E:tb.Ix) (tz:Nat) (z:Operand) (k:List (tb.T E)->List Nat->Option ρ):Option ρ:=
 got (opd L [] z) fun x=>got (P.underlying tz) fun D=>match isStrD D with
 | true=>got (asS x) fun s=>got (byteIx tb E s) fun l=>k l []
 | false=>got (isSlD D) fun _=>match isNil x with
   | true=>k [] []
   | false=>match x with
     | .sl _ E' l=>(match tb.dec E' E with | isTrue h=>k (h ▸ l) [] | isFalse _=>none)
     | .em _=>k [] []
     | .rw id E'=>(match tb.dec E' E with | isTrue _=>got (arrAt L id E) fun l=>k l [id] | isFalse _=>none)
     | .row id E' off len _=>(match tb.dec E' E with | isTrue _=>got (arrAt L id E) fun l=>Chk (off+len<=l.length) (Let ((l.drop off).take len) fun l'=>k l' [id]) | isFalse _=>none)
     | _=>none
theorem srcK_ok (cx:Ctx P tb) {L:SLS tb} {o E tz z} {k:List (tb.T E)->List Nat->Option ρ} {r} (hi:GInv L.e) (hm:z∈o.op.operands) (h:srcK P L E tz z k=some r):
 ∃ l need,k l need=some r/\SrcOk P o L.E (needAV L need) (tb.sz E) tz z (l.map (tb.el E))/\∀ q∈needAV L need,find q.1 L.av.h=some (.cells q.2):=by
 unfold srcK at h
 obtain ⟨x,hx,h⟩:=got_e h
 obtain ⟨D,hD,h⟩:=got_e h
 have hz:=opd_ok (Gu.nil hi) hx
 have aux:∀ l need,k l need=some r->SrcOk P o L.E (needAV L need) (tb.sz E) tz z (l.map (tb.el E))->∃ l need,k l need=some r/\SrcOk P o L.E (needAV L need) (tb.sz E) tz z (l.map (tb.el E))/\∀ q∈needAV L need,find q.1 L.av.h=some (.cells q.2):=
  fun l need h1 h2=>⟨l,need,h1,h2,needAV_mem⟩
 split at h
 ·rename_i hs
  rw [isStrD_e hs] at hD
  obtain ⟨s,hs2,h⟩:=got_e h
  obtain ⟨l,hl,h⟩:=got_e h
  obtain ⟨g1,g2⟩:=byteIx_e hl
  refine aux _ _ h ?_
  rw [g1,g2]
  rw [asS_e hs2] at hz
  exact SrcOk.str hm hD hz
 ·obtain ⟨ET,hET,h⟩:=got_e h
  rw [isSlD_e hET] at hD
  split at h
  ·rename_i hn
   exact aux _ _ h (SrcOk.sl (c:=true) hm hD (hz.sub (by rw [isNil_e hn];exact .nil)))
  ·cases x with
   | sl c E' l=>
     simp only at h
     split at h
     ·rename_i hE _
      subst hE
      exact aux _ _ h (SrcOk.sl hm hD hz)
     ·cases h
   | em E'=>
     refine aux _ _ h (SrcOk.sl (c:=false) hm hD (hz.sub ?_))
     intro m bl v rp
     cases rp with
     | slnil=>exact .slnil
     | sl g1 g2 g3 g4 g5 g6 g7=>
       simp only [List.flatMap_nil] at g2
       cases g2
       exact .sl (cs:=[]) (l:=[]) (by simp) (by simpa using Reps.nil) (by simp) (by simp) (by simp) (by simp) (by simp)
   | rw id E'=>
     simp only at h
     split at h
     ·rename_i hE _
      subst hE
      obtain ⟨l,hl,h⟩:=got_e h
      have hl:=arrAt_e hl
      refine aux _ _ h ?_
      rw [needAV_one hl]
      exact SrcOk.rw hm hD hz mem1 (cx.ok E').pos (elC_len cx.ok) (el_bare cx l)
     ·cases h
   | row id E' off len mc=>
     simp only at h
     split at h
     ·rename_i hE _
      subst hE
      obtain ⟨l,hl,h⟩:=got_e h
      have hl:=arrAt_e hl
      obtain ⟨hc,h⟩:=Chk_e h
      have h:=Let_e h
      refine aux _ _ h ?_
      rw [needAV_one hl]
      refine SrcOk.row (l:=elC tb E' l) hm hD hz mem1 (by rw [List.length_map,List.length_take,List.length_drop];omega) (elC_len cx.ok) ?_ (el_bare cx _) ?_
      ·have h5:=flat_drop (l:=l.map (tb.el E')) off (elC_len cx.ok)
       have h6:=flat_take (l:=(l.drop off).map (tb.el E')) len (elC_len cx.ok)
       unfold elC
       rw [h5,<- List.map_drop,h6,<- List.map_take]
      ·rw [elC_length cx,<- Nat.add_mul];exact Nat.mul_le_mul_right _ hc
     ·cases h
   | _=>cases h
def ifE (a b:tb.Ix) (k:a=b->Option ρ):Option ρ:=match tb.dec a b with | isTrue h=>k h | isFalse _=>none
theorem ifE_e {a b:tb.Ix} {k:a=b->Option ρ} {r} (h:ifE a b k=some r):∃ e,k e=some r:=by
 unfold ifE at h;split at h
 ·exact ⟨_,h⟩
 ·cases h
def isEm:SV tb->Bool
 | .em _=>true
 | .con (.slice none 0 0)=>true
 | _=>false
theorem isEm_e {x:SV tb} {sz:Nat} (h:isEm x=true) (hs:∀ E,x=.em E->tb.sz E=sz):Sub x.av (.sl true sz []):=by
 unfold isEm at h
 split at h
 ·rename_i E
  rw [<- hs E rfl];exact .refl _
 ·exact .nil
 ·cases h
def emOk (E:tb.Ix):SV tb->Bool
 | .em E'=>(match tb.dec E' E with | isTrue _=>true | isFalse _=>false)
 | _=>true
theorem emOk_e {E:tb.Ix} {x:SV tb} (h:emOk E x=true):∀ E',x=.em E'->tb.sz E'=tb.sz E:=by
 rintro E' rfl
 unfold emOk at h
 simp only at h
 split at h
 ·rename_i hE _;rw [hE]
 ·cases h
def lApp (cx:Ctx P tb) (N:Nat) (ops:Array Oper) (L:SLS tb) (gs:List Nat) (o:Oper) (c:Call) (k:SLS tb->List Nat->KL->Option ρ):Option ρ:=
 got o.dst fun d=>got (args2 c) fun a=>got (types2 c) fun t=>got (elemOf P tb t.1) fun p=>got (opd L [] a.1) fun x=>tst (Nat.ble 1 p.2.2) <| srcK P L p.1 t.2 a.2 fun l2 need=>match isEm x with
 | true=>tst (emOk p.1 x) <| Chk (l2.length*p.2.2<=140737488355328) <| putN N gs L d (.rw L.nx p.1) (.arr p.1 l2) fun L'=>k L' gs ⟨o.looksAt ops,need,[d],[L.nx],[L.nx]⟩
 | false=>match x with
   | .sl true E' l=>ifE E' p.1 fun h=>Chk ((l.length+l2.length)*p.2.2<=140737488355328) <| Let ((h ▸ l)++l2) fun l'=>put N gs L d (.sl false p.1 l') fun L'=>k L' gs ⟨o.looksAt ops,need,[d],[],[]⟩
   | .row id E' off len mc=>ifE E' p.1 fun _=>got (arrAt L id p.1) fun l=>Chk (off+(len+l2.length)<=l.length/\len+l2.length<=mc/\0<mc) <| Let (l.take (off+len)++l2++l.drop (off+len+l2.length)) fun l'=>
      put N gs L d (.row id p.1 off (len+l2.length) mc) fun L'=>putH L' id (.arr p.1 l') fun L'=>k L' gs ⟨o.looksAt ops,id::need,[d],[id],[]⟩
   | _=>none
theorem len63 {n b:Nat} (h1:1<=b) (h:n*b<=140737488355328):n<=9223372036854775807:=by
 have:n*1<=n*b:=Nat.mul_le_mul_left _ h1
 omega
theorem needAV_cons {L:SLS tb} {id need l} (h:find id (avH L.gn L.h)=some (.cells l)):needAV L (id::need)=(id,l)::needAV L need:=by
 simp [needAV,h]
theorem SrcOk.mono {o:Oper} {e need need' sz tz z l2} (h:SrcOk P o e need sz tz z l2) (hs:∀ p∈need,p∈need'):SrcOk P o e need' sz tz z l2:=
 fun B m0 hh m bl a w hws hn hr=>h B m0 hh m bl a w hws (fun p hp=>hn p (hs p hp)) hr
theorem lApp_ok {N ops} {L:SLS tb} {gs o c} {k:SLS tb->List Nat->KL->Option ρ} {r} (hi:RI gs L.e) (hg:o.guard=none) (ho:o.op=.call c) (hb:c.callee=.builtin .append) (h:lApp cx N ops L gs o c k=some r):LOk P N ops o L k r:=by
 unfold lApp at h
 obtain ⟨d,hd,h⟩:=got_e h
 obtain ⟨⟨y,z⟩,ha,h⟩:=got_e h
 obtain ⟨⟨t,tz⟩,ht,h⟩:=got_e h
 obtain ⟨⟨E,E0,by_⟩,hp,h⟩:=got_e h
 obtain ⟨x,hx,h⟩:=got_e h
 obtain ⟨hby,h⟩:=tst_e h
 have ho:o.op=.call { callee:=.builtin .append,args:=#[y,z],argTypes:=#[t,tz] }:=by
  rw [ho]
  obtain ⟨c1,c2,c3⟩:=c
  have h1:=args2_e ha
  have h2:=types2_e ht
  simp only at h1 h2 hb
  rw [h1,h2,hb]
 have hET:=elemOf_e hp
 have hby2:1<=by_:=Nat.le_of_ble_eq_true hby
 have hy:=opd_ok (Gu.nil hi.inv) hx
 obtain ⟨l2,need,h,hsrc,hnd⟩:=srcK_ok (o:=o) cx hi.inv (by rw [ho];simp [Op.operands,Call.operands]) h
 simp only at h hET hsrc
 split at h
 ·rename_i hem
  obtain ⟨he,h⟩:=tst_e h
  obtain ⟨hc,h⟩:=Chk_e h
  refine putN_ok (rh:=needH (needAV L need)) hi rfl (fun hN=>?_) (needH_mem.2 needAV_mem) needH_keys rfl rfl rfl rfl h
  exact LEx.appN hg hd hN ho hET (hy.sub (isEm_e hem (emOk_e he))) hsrc (by rw [List.length_map];exact hc) (by rw [List.length_map];exact len63 hby2 hc)
 ·split at h
  ·rename_i E' l _ _ _
   ·obtain ⟨hE,h⟩:=ifE_e h
    subst hE
    obtain ⟨hc,h⟩:=Chk_e h
    obtain ⟨hN,hm,hx2,h⟩:=put_e (Let_e h)
    have q:=QEx.appI ho hET hy hsrc (by rw [List.length_map,List.length_map];exact hc) (by rw [List.length_map,List.length_map];exact len63 hby2 hc)
    refine ⟨_,_,_,_,h,⟨reOf_keys,needH_keys,by simp,by simp,rfl⟩,LEx.q hg q hd hN,reOf_mem.1,needH_mem.2 needAV_mem,by simp,Nat.le_refl _,rfl,rfl,?_,rfl,⟨[_],rfl⟩,⟨[],rfl⟩,hi.put hm rfl⟩
    show (d,AV.sl false (tb.sz E') ((l++l2).map (tb.el E')))::_=_
    rw [List.map_append];rfl
  ·rename_i id E' off len mc _ _ _
   ·obtain ⟨hE,h⟩:=ifE_e h
    subst hE
    obtain ⟨l,hl,h⟩:=got_e h
    obtain ⟨⟨h1,h2,h3⟩,h⟩:=Chk_e h
    obtain ⟨hN,hm,hx2,h⟩:=put_e (Let_e h)
    obtain ⟨hh,h⟩:=putH_e h
    have hl:=arrAt_e hl
    have hsz:((l2.map (tb.el E')).flatMap AV.cells).length=l2.length*tb.sz E':=by rw [flat_len (elC_len cx.ok),List.length_map]
    have key:=LEx.appIn (ops:=ops) (N:=N) (l:=elC tb E' l) (need:=(id,elC tb E' l)::needAV L need) (l2:=l2.map (tb.el E')) hg hd hN ho hET hy List.mem_cons_self
     (by rw [List.length_map,elC_length cx,<- Nat.add_mul];exact Nat.mul_le_mul_right _ h1) (by rw [List.length_map];exact h2) h3 (hsrc.mono fun p hp=>List.mem_cons_of_mem _ hp)
    refine ⟨_,_,_,_,h,⟨reOf_keys,?_,by simp,by simp,rfl⟩,key,reOf_mem.1,?_,by simp,Nat.le_refl _,rfl,rfl,?_,?_,⟨[_],rfl⟩,⟨[_],rfl⟩,hi.put hm rfl⟩
    ·rw [<- needAV_cons hl];exact needH_keys
    ·rw [<- needAV_cons hl];exact needH_mem.2 needAV_mem
    ·show (d,((SV.row id E' off (len+l2.length) mc).res L.gn).av)::_=_
     rw [hx2,List.length_map];rfl
    ·show avH L.gn _=_
     rw [hh]
     show (id,ABlk.cells (elC tb E' (l.take (off+len)++l2++l.drop (off+len+l2.length))))::_=_
     have e1:∀ a b:List (tb.T E'),elC tb E' (a++b)=elC tb E' a++elC tb E' b:=fun a b=>by simp [elC]
     have e2:∀ n,elC tb E' (l.take n)=(elC tb E' l).take (n*tb.sz E'):=fun n=>by unfold elC;rw [flat_take n (elC_len cx.ok),List.map_take]
     have e3:∀ n,elC tb E' (l.drop n)=(elC tb E' l).drop (n*tb.sz E'):=fun n=>by unfold elC;rw [flat_drop n (elC_len cx.ok),List.map_drop]
     rw [e1,e1,e2,e3,hsz,Nat.add_mul,Nat.add_mul,Nat.add_mul];rfl
  ·cases h
/-! calls whose results own new blocks -/
theorem ownS_cons {own:List Nat} {j k:Nat} {x:SV tb} {l:List (SV tb)}:ownS own j k (x::l)=match own.contains j,x with
 | true,.sl _ E xs=>(.rw k E::(ownS own (j+1) (k+1) l).1,(k,.arr E xs)::(ownS own (j+1) (k+1) l).2)
 | _,x=>(x::(ownS own (j+1) k l).1,(ownS own (j+1) k l).2):=rfl
theorem ownS_av {own:List Nat} (b:Nat):∀ {l:List (SV tb)} {j k},allBare (avL l)=true->avL (ownS own j (k+b) l).1=reL (fun i=>some (i+b)) (avL (ownS own j k l).1)/\
 (ownS own j (k+b) l).2.map (fun p=>(p.1,p.2.av))=shH b ((ownS own j k l).2.map fun p=>(p.1,p.2.av))
 | [],_,_,_=>⟨rfl,rfl⟩
 | x :: l,j,k,h=>by
   have hx:x.av.isBare=true/\allBare (avL l)=true:=by
    have:(AV.clean _ x.av&&cleanL _ (avL l))=true:=h
    simpa using this
   have gen:∀ (c:Bool),(∀ c' E xs,c=true->x=.sl c' E xs->False)->ownS own j (k+b) (x::l)=(x::(ownS own (j+1) (k+b) l).1,(ownS own (j+1) (k+b) l).2)/\ownS own j k (x::l)=(x::(ownS own (j+1) k l).1,(ownS own (j+1) k l).2) ->
    avL (ownS own j (k+b) (x::l)).1=reL (fun i=>some (i+b)) (avL (ownS own j k (x::l)).1)/\(ownS own j (k+b) (x::l)).2.map (fun p=>(p.1,p.2.av))=shH b ((ownS own j k (x::l)).2.map fun p=>(p.1,p.2.av)):=by
    intro c _ ⟨e1,e2⟩
    obtain ⟨i1,i2⟩:=ownS_av b (l:=l) (j:=j+1) (k:=k) hx.2
    rw [e1,e2]
    exact ⟨by simp only [avL,reL];rw [bare_of hx.1,i1],i2⟩
   cases hc:own.contains j with
   | false=>
     refine gen false (by simp) ⟨?_,?_⟩ <;> (rw [ownS_cons,hc])
   | true=>
     cases x with
     | sl c' E xs=>
       have e1:∀ k,ownS own j k (SV.sl c' E xs::l)=(.rw k E::(ownS own (j+1) (k+1) l).1,(k,.arr E xs)::(ownS own (j+1) (k+1) l).2):=by
        intro k;rw [ownS];rw [hc]
       obtain ⟨i1,i2⟩:=ownS_av b (l:=l) (j:=j+1) (k:=k+1) hx.2
       rw [e1,e1]
       rw [show k+b+1=k+1+b by omega]
       exact ⟨by simp only [avL,reL];rw [i1];rfl,by simp only [List.map_cons];rw [i2];rfl⟩
     | _=>refine gen true (by rintro _ _ _ _ h;cases h) ⟨?_,?_⟩ <;> (rw [ownS];rw [hc];intros;contradiction)
end
end
section
open Go.RowKit
variable [GlC]
section
variable {P:Program}
theorem run_append_zeros (w:World) (t tx ty e:TypeId) (i:TypeInfo) (z:Value) (k:IntKind) (ht:P.underlying t=some (.slice e)) (hx:P.underlying tx=some (.int k)) (hi:P.info? e=some i) (hz:i.zero=some z) (hp:0<i.size) (base:Option Addr)
 (hold:(Builtin.firstCells i.size 0 (.slice base 0 0)).run P w.drew=.ok #[] w.drew) (n:Int) (hn:0<n) (h63:n<=9223372036854775807) (hb:n.toNat*i.bytes<=140737488355328):
 (Builtin.append_ #[t,tx] ty #[.slice base 0 0,.int k n]).run P w=
   .ok (.slice (some ⟨w.heap.size,0,none⟩) n.toNat (grownCap w n.toNat 0 e))
    (w.drew.alloc (.cells (Builtin.zeroCells z.cells n.toNat++Builtin.zeroCells z.cells (grownCap w n.toNat 0 e - n.toNat)) e)):=by
 have hw:IntKind.i64.wrap n=n:=by simp [IntKind.wrap,IntKind.bits,IntKind.signed];omega
 have h1:¬ n<0:=by omega
 have hcast:(n.toNat:Int)=n:=by omega
 have h2:¬ (281474976710656:Int)<n*i.bytes:=by
  have:((n.toNat*i.bytes:Nat):Int)=n*i.bytes:=by rw [Int.natCast_mul,hcast]
  omega
 have h3:¬ n.toNat<=0:=by omega
 have h4:¬ (9223372036854775807:Int)<n.toNat:=by omega
 have hfit:=growslice_fits (need:=n.toNat) (bytes:=i.bytes) (old:=0) (by omega) hb
 have h5:¬ 281474976710656<Builtin.nextslicecap n.toNat 0*i.bytes:=by omega
 have h6:¬ (n.toNat=0\/i.size=0):=by omega
 have h7:¬ n<=0:=by omega
 have h8:max n 0=n:=by omega
 have h9:¬ (9223372036854775807:Int)<n:=by omega
 have h10:¬ n.toNat*i.size=0:=by rw [Nat.mul_eq_zero];exact h6
 simp [Builtin.append_,run_underlying ht,run_underlying hx,sizeOf,typeInfo,zeroValue,hi,hz,asInt,asIntOf,hw,h1,h2,h3,h4,h5,h7,h8,h9,h10,Question.forced,hold,newRow,grownCap]
theorem LEx.appZ {ops:Array Oper} {N:Nat} {o:Oper} {e:Env} {t tz y z E sz by_ d nm k n Z} (hg:o.guard=none) (hd:o.dst=some d) (hN:d<N) (ho:o.op=.call { callee:=.builtin .append,args:=#[y,z],argTypes:=#[t,tz] }) (ht:ElemT P t E sz by_) (hZ:ZeroT P E Z) (hp:0<sz)
 (htz:P.underlying tz=some (.int k)) (hy:OpdOk e y (.sl true sz [])) (hz:OpdOk e z (.v (.int k n))) (h0:0<n) (hlen:n.toNat*by_<=140737488355328) (h63:n<=9223372036854775807):
 LEx P ops N o ⟨reOf e (o.looksAt ops),[],[(d,.rw nm sz)],[(nm,.cells (List.replicate n.toNat Z).flatten)],[nm]⟩:=by
 refine .ofA hg (fun d' h'=>by rw [hd] at h';cases h';exact hN) ?_
 intro e2 s h f f' hre hrh hnm hf' N W0 m0 sa m bl a w S hdN next Q kk
 have hR:Reads o e m bl a:=fun t ht y hy=>S.env t y (agree_looks hre t (operand_looks ht) y hy)
 obtain ⟨ad,n0,cap,cs,hv,hn1,hc,el,reps,one,emp,hcap,at_⟩:=sl_cells (hy.rep hR (by simp [ho,Op.operands,Call.operands]))
 obtain rfl:=hcap rfl
 simp only [List.length_nil] at hn1
 subst hn1
 have hzv:=(hz.rep hR (by simp [ho,Op.operands,Call.operands])).eq_v
 obtain ⟨i,zv,hi1,hi2,hi3,hi4,hi5,hi6⟩:=ht.info
 obtain ⟨zs,hz0,hzs,hz1⟩:=hZ
 have hzz:zv.cells.toList=zs:=by unfold tZero at hz0;rw [hi1] at hz0;simp [hi2] at hz0;exact hz0
 have hzl:zs.length=sz:=by rw [<- hzz,<- hi5];simp
 have hfl:∀ n:Nat,(List.replicate n zs).flatten.length=n*sz:=by intro n;simp [List.length_flatten,hzl]
 have hfree:bl nm=none:=S.free nm (hnm nm (by simp))
 unfold Oper.wp
 have hold:(Builtin.firstCells i.size 0 (.slice ad 0 0)).run P w.drew=.ok (#[]:Array Value) w.drew:=by
  cases ad with
  | none=>exact run_firstCells_none (P:=P) w.drew _ _ _ _
  | some a1=>exact run_firstCells_some (P:=P) w.drew i.size 0 a1 _ _ [] (by simp) (by simp)
 have hrun:=run_append_zeros (P:=P) w t tz o.type E i zv k ht.under htz hi1 hi2 (by rw [hi3];exact hp) ad hold n h0 h63 (by rw [hi4];exact hlen)
 rw [run_append2 ho (v:=_) (w':=_) (by rw [hv,hzv];exact hrun),Oper.upon_value]
 generalize hcap2:grownCap w n.toNat 0 E=cap'
 have hge:n.toNat<=cap':=by rw [<- hcap2];exact grownCap_ge w _ _ E
 have hzf:∀ n,(Builtin.zeroCells zv.cells n).toList=(List.replicate n zs).flatten:=fun n=>by rw [zeroCells_flat,hzz]
 have hone:∀ n,∀ c∈(List.replicate n zs).flatten,oneCell c=true:=by
  intro n c hc
  obtain ⟨l',hl',hc'⟩:=List.mem_flatten.1 hc
  obtain ⟨-,rfl⟩:=List.mem_replicate.1 hl'
  exact List.all_eq_true.1 hz1 c hc'
 have hsz:(Builtin.zeroCells zv.cells n.toNat++Builtin.zeroCells zv.cells (cap' - n.toNat)).size=cap'*sz:=by
  rw [Array.size_append,size_zeroCells,size_zeroCells,hi5,<- Nat.add_mul];congr 1;omega
 obtain ⟨q1,q2⟩:=S.ws.newOwn (w':=w.drew.alloc (.cells (Builtin.zeroCells zv.cells n.toNat++Builtin.zeroCells zv.cells (cap' - n.toNat)) E)) (d:=nm) (arr:=Builtin.zeroCells zv.cells n.toNat++Builtin.zeroCells zv.cells (cap' - n.toNat)) (T:=E)
  (Z:=(List.replicate n.toNat Z).flatten) (pre:=(List.replicate n.toNat zs).flatten) (rest:=(List.replicate (cap' - n.toNat) zs).flatten) S.below.size hfree rfl (by rw [Array.toList_append,hzf,hzf]) ((hzs.reps).zeros _) (hone _)
 rw [hsz] at q1 q2
 refine kk _ _ _ m _ rfl ⟨?_,?_,((S.below.drew).alloc S.below.size _),q1,?_,S.stk.widen q2,?_⟩
 ·simp [Act.put,hd,S.defers]
 ·simp [Act.put,hd,S.size]
 ·rw [hd]
  exact EnvRep.put (S.env.widen q2) (.rw (b:=w.heap.size) (n:=(cap'*sz,(List.replicate n.toNat zs).flatten.length)) (by simp [updN]) (hfl _).symm hge (Nat.le_refl _)) (by rw [S.size];exact hdN d hd)
 ·intro d' hd'
  obtain ⟨g1,g2⟩:=hf' d' hd'
  unfold updN;rw [if_neg (by simpa using g2)];exact S.free d' g1
end
end
section
open Go.RowKit
variable [GlC]
section
variable {P:Program} {o:Oper} {e:Env}
theorem LEx.appC {ops:Array Oper} {N:Nat} {t tz y z E sz by_ l l2 d nm need} (hg:o.guard=none) (hd:o.dst=some d) (hN:d<N) (ho:o.op=.call { callee:=.builtin .append,args:=#[y,z],argTypes:=#[t,tz] }) (ht:ElemT P t E sz by_)
 (hy:OpdOk e y (.sl true sz l)) (hz:SrcOk P o e need sz tz z l2) (hpos:0<l2.length) (hlen:(l.length+l2.length)*by_<=140737488355328) (h63:l.length+l2.length<=9223372036854775807):
 LEx P ops N o ⟨reOf e (o.looksAt ops),needH need,[(d,.rw nm sz)],[(nm,.cells ((l++l2).flatMap AV.cells))],[nm]⟩:=by
 refine .ofA hg (fun d' h'=>by rw [hd] at h';cases h';exact hN) ?_
 intro e2 s h f f' hre hrh hnm hf' N W0 m0 sa m bl a w S hdN next Q k
 have hR:Reads o e m bl a:=fun t ht y hy=>S.env t y (agree_looks hre t (operand_looks ht) y hy)
 obtain ⟨ad,n,cap,cs,hv,hn1,hc,el,reps,one,emp,hcap,at_⟩:=sl_cells (hy.rep hR (by simp [ho,Op.operands,Call.operands]))
 obtain rfl:=hcap rfl
 subst hn1
 obtain ⟨cs2,src,reps2,el2⟩:=hz _ _ _ m bl a w S.ws (needH_mem.1 hrh) hR
 obtain ⟨i,zv,hi1,hi2,hi3,hi4,hi5,hi6⟩:=ht.info
 have hfree:bl nm=none:=S.free nm (hnm nm (by simp))
 have hlen1:cs.length=l.length*sz:=by rw [<- reps.length,flat_len el]
 have oneA:∀ c∈cs++cs2,oneCell c=true:=by intro x hx;rcases List.mem_append.1 hx with h | h <;> first | exact one x h | exact src.one x h
 have repsA:Reps m noNames ((l++l2).flatMap AV.cells) (cs++cs2):=by rw [List.flatMap_append];exact reps.append reps2
 unfold Oper.wp
 have hold:(Builtin.firstCells i.size l.length (.slice ad l.length l.length)).run P w.drew=.ok cs.toArray w.drew:=by
  cases ad with
  | none=>
    obtain ⟨rfl,-⟩:=emp rfl
    have:cs=[]:=List.eq_nil_of_length_eq_zero (by simpa using hlen1)
    subst this
    exact run_firstCells_none (P:=P) w.drew _ _ _ _
  | some a1=>
    obtain ⟨q1,q2⟩:=at_ a1 rfl
    exact run_firstCells_some (P:=P) w.drew i.size l.length a1 _ _ cs (by rw [hi3];exact hlen1) (by simpa using cells_at S.ws.imm q1 q2)
 have hrun:=run_append_grow_src (P:=P) w t tz o.type E i zv ht.under hi1 hi2 ad l.length l.length cs hold (a.eval z) l2.length cs2 (by rw [hi3];exact src) (by omega) (by omega)
  (by rw [hi4];exact growslice_fits (by omega) hlen)
 rw [run_append2 ho (v:=_) (w':=_) (by rw [hv];exact hrun),Oper.upon_value]
 generalize hcap2:grownCap w (l.length+l2.length) l.length E=cap'
 have hge:l.length+l2.length<=cap':=by rw [<- hcap2];exact grownCap_ge w _ _ E
 have hzs:(Builtin.zeroCells zv.cells (cap' - (l.length+l2.length))).size=(cap' - (l.length+l2.length))*sz:=by rw [size_zeroCells,hi5]
 have hbare:Reps m bl ((l++l2).flatMap AV.cells) (cs++cs2):=repsA.widen (by simp [noNames])
 have hcl:(cs++cs2).length=(l.length+l2.length)*sz:=by rw [List.length_append,hlen1,src.newsLen,Nat.add_mul]
 have hsz:((cs++cs2).toArray++Builtin.zeroCells zv.cells (cap' - (l.length+l2.length))).size=cap'*sz:=by
  rw [Array.size_append,hzs,List.size_toArray,hcl,<- Nat.add_mul];congr 1;omega
 obtain ⟨q1,q2⟩:=S.ws.newOwn (w':=w.drew.alloc (.cells ((cs++cs2).toArray++Builtin.zeroCells zv.cells (cap' - (l.length+l2.length))) E)) (d:=nm) (arr:=(cs++cs2).toArray++Builtin.zeroCells zv.cells (cap' - (l.length+l2.length))) (T:=E)
  (Z:=(l++l2).flatMap AV.cells) (pre:=cs++cs2) S.below.size hfree rfl (by rw [Array.toList_append]) hbare oneA
 rw [hsz] at q1 q2
 refine k _ _ _ m _ rfl ⟨?_,?_,((S.below.drew).alloc S.below.size _),q1,?_,S.stk.widen q2,?_⟩
 ·simp [Act.put,hd,S.defers]
 ·simp [Act.put,hd,S.size]
 ·rw [hd]
  exact EnvRep.put (S.env.widen q2) (.rw (b:=w.heap.size) (n:=(cap'*sz,(cs++cs2).length)) (by simp [updN]) hcl.symm hge (Nat.le_refl _)) (by rw [S.size];exact hdN d hd)
 ·intro d' hd'
  obtain ⟨g1,g2⟩:=hf' d' hd'
  unfold updN;rw [if_neg (by simpa using g2)];exact S.free d' g1
end
section
variable {P:Program} {tb:Tb} {ρ:Type} {cx:Ctx P tb}
def lAppO (cx:Ctx P tb) (N:Nat) (ops:Array Oper) (L:SLS tb) (gs:List Nat) (o:Oper) (c:Call) (k:SLS tb->List Nat->KL->Option ρ):Option ρ:=
 got o.dst fun d=>got (args2 c) fun a=>got (types2 c) fun t=>got (elemOf P tb t.1) fun p=>got (opd L [] a.1) fun x=>tst (Nat.ble 1 p.2.2) <| srcK P L p.1 t.2 a.2 fun l2 need=>match x with
 | .sl true E' l=>ifE E' p.1 fun h=>Chk (0<l2.length/\(l.length+l2.length)*p.2.2<=140737488355328) <| Let ((h ▸ l)++l2) fun l'=>putN N gs L d (.rw L.nx p.1) (.arr p.1 l') fun L'=>k L' gs ⟨o.looksAt ops,need,[d],[L.nx],[L.nx]⟩
 | _=>none
theorem lAppO_ok {N ops} {L:SLS tb} {gs o c} {k:SLS tb->List Nat->KL->Option ρ} {r} (hi:RI gs L.e) (hg:o.guard=none) (ho:o.op=.call c) (hb:c.callee=.builtin .append) (h:lAppO cx N ops L gs o c k=some r):LOk P N ops o L k r:=by
 unfold lAppO at h
 obtain ⟨d,hd,h⟩:=got_e h
 obtain ⟨⟨y,z⟩,ha,h⟩:=got_e h
 obtain ⟨⟨t,tz⟩,ht,h⟩:=got_e h
 obtain ⟨⟨E,E0,by_⟩,hp,h⟩:=got_e h
 obtain ⟨x,hx,h⟩:=got_e h
 obtain ⟨hby,h⟩:=tst_e h
 have ho:o.op=.call { callee:=.builtin .append,args:=#[y,z],argTypes:=#[t,tz] }:=by
  rw [ho]
  obtain ⟨c1,c2,c3⟩:=c
  have h1:=args2_e ha
  have h2:=types2_e ht
  simp only at h1 h2 hb
  rw [h1,h2,hb]
 have hET:=elemOf_e hp
 have hby2:1<=by_:=Nat.le_of_ble_eq_true hby
 have hy:=opd_ok (Gu.nil hi.inv) hx
 obtain ⟨l2,need,h,hsrc,hnd⟩:=srcK_ok (o:=o) cx hi.inv (by rw [ho];simp [Op.operands,Call.operands]) h
 simp only at h hET hsrc
 split at h
 ·rename_i E' l _ _
  obtain ⟨hE,h⟩:=ifE_e h
  subst hE
  obtain ⟨⟨hpos,hc⟩,h⟩:=Chk_e h
  have h:=Let_e h
  refine putN_ok (rh:=needH (needAV L need)) hi rfl (fun hN=>?_) (needH_mem.2 needAV_mem) needH_keys rfl rfl rfl rfl h
  have key:=LEx.appC (ops:=ops) (N:=N) (nm:=L.nx) hg hd hN ho hET hy hsrc (by rw [List.length_map];exact hpos) (by rw [List.length_map,List.length_map];exact hc) (by rw [List.length_map,List.length_map];exact len63 hby2 hc)
  rw [<- List.map_append] at key
  exact key
 ·cases h
end
end
section
open Go.RowKit
variable [GlC]
section
variable {P:Program} {tb:Tb} {ρ:Type} {cx:Ctx P tb}
theorem ownS_names {own:List Nat}:∀ {l:List (SV tb)} {j k},(∀ p∈(ownS own j k l).2,k<=p.1/\p.1<k+(ownS own j k l).2.length/\∃ E xs,p.2=.arr E xs)
 | [],_,_,p,hp=>by simp [ownS] at hp
 | x :: l,j,k,p,hp=>by
   rw [ownS_cons] at hp ⊢
   split at hp
   ·rename_i E xs _ _
    simp only [List.mem_cons] at hp
    rcases hp with rfl | hp
    ·exact ⟨Nat.le_refl _,by simp,_,_,rfl⟩
    ·obtain ⟨h1,h2,h3⟩:=ownS_names p hp
     refine ⟨by omega,?_,h3⟩
     simp only [List.length_cons];omega
   ·exact ownS_names p hp
theorem ownS_len {own:List Nat}:∀ {l:List (SV tb)} {j k},(ownS own j k l).1.length=l.length
 | [],_,_=>rfl
 | x::l,j,k=>by
   rw [ownS_cons]
   split <;> simp [ownS_len]
theorem ansS_names {cd:(i:tb.Ix)->Cd tb i} {own rs r k}:∀ p∈(ansS tb cd own rs r k).2,k<=p.1/\p.1<k+(ansS tb cd own rs r k).2.length/\∃ E xs,p.2=.arr E xs:=by
 match rs with
 | []=>intro p hp;simp [ansS] at hp
 | [i]=>
   cases own with
   | nil=>intro p hp;simp [ansS] at hp
   | cons a b=>intro p hp;exact ownS_names p hp
 | i::j::l=>intro p hp;simp [ansS] at hp
theorem re_const {q:Nat->Option Nat} {x:AV} (h:x.isBare=true):x=x.re q:=(bare_of h).symm
theorem ansS_shift (cx:Ctx P tb) (own rs) (r:Tup tb rs) (b:Nat):(ansS tb cx.cd own rs r b).1.av=(ansS tb cx.cd own rs r 0).1.av.re (fun i=>some (i+b))/\
 (ansS tb cx.cd own rs r b).2.map (fun p=>(p.1,p.2.av))=shH b ((ansS tb cx.cd own rs r 0).2.map fun p=>(p.1,p.2.av)):=by
 match rs with
 | []=>exact ⟨rfl,rfl⟩
 | [i] =>
   cases own with
   | nil=>
     refine ⟨re_const ?_,rfl⟩
     show ((cx.cd i).sv r).av.isBare=true
     exact (congrArg AV.isBare ((cx.ok i).sv r)).trans ((cx.ok i).bare r).1
   | cons a t=>
     have hb:allBare (avL ((cx.cd i).cs r))=true:=(congrArg allBare ((cx.ok i).cs r)).trans ((cx.ok i).bare r).2
     obtain ⟨h1,h2⟩:=ownS_av (own:=a::t) b (l:=(cx.cd i).cs r) (j:=0) (k:=0) hb
     rw [Nat.zero_add] at h1 h2
     refine ⟨?_,h2⟩
     show (wrapS (cx.cd i) (ownS (a::t) 0 b ((cx.cd i).cs r)).1).av=(wrapS (cx.cd i) (ownS (a::t) 0 0 ((cx.cd i).cs r)).1).av.re _
     unfold wrapS
     split
     ·show AV.agg (avL _)=(AV.agg (avL _)).re _
      rw [h1];rfl
     ·generalize (ownS (a::t) 0 b ((cx.cd i).cs r)).1=u at h1
      generalize (ownS (a::t) 0 0 ((cx.cd i).cs r)).1=v at h1
      cases u with
      | nil=>cases v with
        | nil=>rfl
        | cons=>simp [avL,reL] at h1
      | cons x u=>cases v with
        | nil=>simp [avL,reL] at h1
        | cons y v=>
          simp only [avL,reL,List.cons.injEq] at h1
          exact h1.1
 | i::j::l=>
   refine ⟨re_const ?_,rfl⟩
   have:=(ansS_av cx.cd cx.ok (i::j::l) r 0).1
   show (ansS tb cx.cd [] (i::j::l) r 0).1.av.isBare=true
   rw [this]
   exact resAV_bare cx _ _
theorem avH_append {g:Gn tb}:∀ {a:SHp tb} {b},(∀ p∈a,keepQ g p.1=true/\∃ E xs,p.2=.arr E xs)->avH g (a++b)=a.map (fun p=>(p.1,p.2.av))++avH g b
 | [],_,_=>rfl
 | (i,c)::a,b,h=>by
   obtain ⟨h1,E,xs,h2⟩:=h (i,c) (by simp)
   simp only at h1 h2
   subst h2
   have ih:=avH_append (a:=a) (b:=b) fun p hp=>h p (List.mem_cons_of_mem _ hp)
   unfold avH at ih ⊢
   rw [List.cons_append,List.filter_cons,if_pos h1,List.map_cons,ih];rfl
def allKeep (g:Gn tb):SHp tb->Bool
 | []=>true
 | (i,_)::r=>match keepQ g i with | true=>allKeep g r | false=>false
theorem allKeep_e {g:Gn tb}:∀ {a:SHp tb},allKeep g a=true->∀ p∈a,keepQ g p.1=true
 | [],_,p,hp=>by cases hp
 | (i,c)::a,h,p,hp=>by
   unfold allKeep at h
   split at h
   ·rename_i h1
    rcases List.mem_cons.1 hp with rfl | hp
    ·exact h1
    ·exact allKeep_e h p hp
   ·cases h
def lOwn (cx:Ctx P tb) (N:Nat) (ops:Array Oper) (L:SLS tb) (gs:List Nat) (o:Oper) (f:Nat) (xs:List (SV tb)) (con:Con P tb cx.cd) (k:SLS tb->List Nat->KL->Option ρ):Option ρ:=
 got o.dst fun d=>got (argsD cx con.ps xs) fun a=>Bind (con.cf a) fun r=>
 tst (notOpt (ansS tb cx.cd con.own con.rs r L.nx).1) <| put N gs L d (ansS tb cx.cd con.own con.rs r L.nx).1 fun L'=>tst (allKeep L.gn (ansS tb cx.cd con.own con.rs r L.nx).2) <|
  k { L' with h:=(ansS tb cx.cd con.own con.rs r L.nx).2++L.h,nx:=L.nx+(ansS tb cx.cd con.own con.rs r L.nx).2.length } gs
    ⟨o.looksAt ops,[],[d],(ansS tb cx.cd con.own con.rs r L.nx).2.map (·.1),(ansS tb cx.cd con.own con.rs r L.nx).2.map (·.1)⟩
theorem lOwn_ok {N ops} {L:SLS tb} {gs o y args tys f caps xs con} {k:SLS tb->List Nat->KL->Option ρ} {r} (hi:RI gs L.e) (hg:o.guard=none) (ho:o.op=.call { callee:=.value y,args,argTypes:=tys }) (hy:opd L [] y=some (.fn f caps)) (hxs:opdsS L [] args.toList=some xs) (hcon:findCon f cx.Γ=some con)
 (h:lOwn cx N ops L gs o f (xs++caps) con k=some r):LOk P N ops o L k r:=by
 unfold lOwn at h
 obtain ⟨d,hd,h⟩:=got_e h
 obtain ⟨a,ha,h⟩:=got_e h
 obtain ⟨x,hx,h⟩:=Option.bind_eq_some_iff.1 (show (con.cf a).bind _=some r from h)
 rw [con.cf_eq] at hx
 obtain ⟨h1,h⟩:=tst_e h
 obtain ⟨hN,hm,hx2,h⟩:=put_e h
 obtain ⟨h3,h⟩:=tst_e h
 have h3:=allKeep_e h3
 obtain ⟨vs,g1,g2,g3⟩:=argsD_ok ha
 have hf:=con.ok a vs x g1 hx
 have hn:=ansS_names (cd:=cx.cd) (own:=con.own) (rs:=con.rs) (r:=x) (k:=L.nx)
 obtain ⟨s1,s2⟩:=ansS_shift cx con.own con.rs x L.nx
 have key:=LEx.enterO (ops:=ops) (N:=N) (o:=o) (e:=L.E) (fn:=con.fid) (ys:=vs) (b:=L.nx) hg hd hN (fun m bl ac w hrd=>by
  obtain ⟨ws,hrun,hreps⟩:=run_enter (caps:=avL caps) ho (by have:=con.call;rwa [findCon_f hcon] at this) (opd_ok (Gu.nil hi.inv) hy) (opdsS_ok (Gu.nil hi.inv) hxs) w hrd
  rw [findCon_f hcon]
  refine ⟨ws,hrun,?_⟩
  rw [<- avL_append] at hreps
  have:=(g2 _ _ _ hreps).bare (bl':=noNames)
  rwa [bareL,bareL_of g3] at this) hf (by
  intro p hp
  obtain ⟨q,hq,rfl⟩:=List.mem_map.1 hp
  obtain ⟨-,-,E,xs,hE⟩:=ansS_names q hq
  refine ⟨elC tb E xs,by simp only [hE];rfl,el_bare cx xs⟩)
 rw [<- s1,<- s2] at key
 have e2:((ansS tb cx.cd con.own con.rs x L.nx).2.map fun p=>(p.1,p.2.av)).map (·.1)=(ansS tb cx.cd con.own con.rs x L.nx).2.map (·.1):=by simp
 rw [e2] at key
 refine ⟨_,_,_,_,h,⟨reOf_keys,by simp,by simp,?_,rfl⟩,key,reOf_mem.1,by simp,?_,Nat.le_add_right _ _,rfl,rfl,?_,?_,⟨[_],rfl⟩,⟨_,rfl⟩,hi.put hm h1⟩
 ·intro p hp
  obtain ⟨q,hq,rfl⟩:=List.mem_map.1 hp
  exact List.mem_map.2 ⟨q,hq,rfl⟩
 ·intro y hy
  obtain ⟨q,hq,rfl⟩:=List.mem_map.1 hy
  exact ⟨(hn q hq).1,(hn q hq).2.1⟩
 ·show (d,((ansS tb cx.cd con.own con.rs x L.nx).1.res L.gn).av)::_=_
  rw [hx2];rfl
 ·exact avH_append fun p hp=>⟨h3 p hp,(hn p hp).2.2⟩
def isZer (P:Program) (c:Call):Bool:=match types2 c with
 | some t=>(match P.underlying t.2 with | some D=>(match isIntD D with | some _=>true | none=>false) | none=>false)
 | none=>false
def lZer (cx:Ctx P tb) (N:Nat) (ops:Array Oper) (L:SLS tb) (gs:List Nat) (o:Oper) (c:Call) (k:SLS tb->List Nat->KL->Option ρ):Option ρ:=
 got o.dst fun d=>got (args2 c) fun y=>got (types2 c) fun t=>got (elemOf P tb t.1) fun p=>got (zeroS P p.2.1) fun Z=>got ((cx.cd p.1).ofC Z) fun z=>got (P.underlying t.2) fun D=>got (isIntD D) fun kd=>got (opd L [] y.1) fun x=>tst (isEm x) <| tst (emOk p.1 x) <| got (opd L [] y.2) fun b=>got (asI b) fun n=>tst (decide (n.1=kd)) <|
 Chk (0<n.2/\n.2.toNat*p.2.2<=140737488355328/\n.2<=9223372036854775807) <| Let (List.replicate n.2.toNat z) fun l=>putN N gs L d (.rw L.nx p.1) (.arr p.1 l) fun L'=>k L' gs ⟨o.looksAt ops,[],[d],[L.nx],[L.nx]⟩
theorem lZer_ok {N ops} {L:SLS tb} {gs o c} {k:SLS tb->List Nat->KL->Option ρ} {r} (hi:RI gs L.e) (hg:o.guard=none) (ho:o.op=.call c) (hb:c.callee=.builtin .append) (h:lZer cx N ops L gs o c k=some r):LOk P N ops o L k r:=by
 unfold lZer at h
 obtain ⟨d,hd,h⟩:=got_e h
 obtain ⟨y,hy',h⟩:=got_e h
 obtain ⟨t,ht',h⟩:=got_e h
 obtain ⟨p,hp,h⟩:=got_e h
 obtain ⟨Z,hZ,h⟩:=got_e h
 obtain ⟨z,hz,h⟩:=got_e h
 obtain ⟨D,hD,h⟩:=got_e h
 obtain ⟨kd,hkd,h⟩:=got_e h
 obtain ⟨x,hx,h⟩:=got_e h
 obtain ⟨hem,h⟩:=tst_e h
 obtain ⟨heo,h⟩:=tst_e h
 obtain ⟨b,hb2,h⟩:=got_e h
 obtain ⟨n,hn,h⟩:=got_e h
 obtain ⟨hk,h⟩:=tst_e h
 obtain ⟨⟨h1,h2,h3⟩,h⟩:=Chk_e h
 have hk:=of_decide_eq_true hk
 have ho:o.op=.call { callee:=.builtin .append,args:=#[y.1,y.2],argTypes:=#[t.1,t.2] }:=by
  rw [ho]
  obtain ⟨c1,c2,c3⟩:=c
  have h1:=args2_e hy'
  have h2:=types2_e ht'
  simp only at h1 h2 hb
  rw [h1,h2,hb]
 have hxx:=(opd_ok (Gu.nil hi.inv) hx).sub (isEm_e hem (emOk_e heo))
 have hbb:=opd_ok (Gu.nil hi.inv) hb2
 rw [asI_e hn,hk] at hbb
 rw [isIntD_e hkd] at hD
 exact putN_ok (rh:=[]) hi rfl (fun hN=>(LEx.appZ hg hd hN ho (elemOf_e hp) (zeroS_e hZ) (cx.ok p.1).pos hD hxx hbb h1 h2 h3).wsub (elC_replicate ((cx.ok p.1).ofC _ _ hz).1 _)) (by simp) (by simp) rfl rfl rfl rfl (Let_e h)
def lClear (cx:Ctx P tb) (ops:Array Oper) (L:SLS tb) (gs:List Nat) (o:Oper) (c:Call) (k:SLS tb->List Nat->KL->Option ρ):Option ρ:=match o.dst with
 | some _=>none
 | none=>got (args1 c) fun y=>got (elemOf P tb y.2) fun p=>got (zeroS P p.2.1) fun Z=>got ((cx.cd p.1).ofC Z) fun z=>got (opd L [] y.1) fun x=>match x with
   | .row id E off len mc=>ifE E p.1 fun _=>got (arrAt L id p.1) fun l=>Chk (off+len<=l.length/\0<mc) <| Let (l.take off++List.replicate len z++l.drop (off+len)) fun l'=>
      putH L id (.arr p.1 l') fun L'=>k L' gs ⟨o.looksAt ops,[id],[],[id],[]⟩
   | _=>none
theorem lClear_ok {N ops} {L:SLS tb} {gs o c} {k:SLS tb->List Nat->KL->Option ρ} {r} (hi:RI gs L.e) (hg:o.guard=none) (ho:o.op=.call c) (hb:c.callee=.builtin .clear) (h:lClear cx ops L gs o c k=some r):LOk P N ops o L k r:=by
 unfold lClear at h
 split at h
 ·cases h
 ·rename_i hd
  obtain ⟨⟨y,t⟩,hy',h⟩:=got_e h
  obtain ⟨⟨E,E0,by_⟩,hp,h⟩:=got_e h
  obtain ⟨Z,hZ,h⟩:=got_e h
  obtain ⟨z,hz,h⟩:=got_e h
  obtain ⟨x,hx,h⟩:=got_e h
  have ho:o.op=.call { callee:=.builtin .clear,args:=#[y],argTypes:=#[t] }:=by
   rw [ho]
   obtain ⟨c1,c2,c3⟩:=c
   obtain ⟨h1,h2⟩:=args1_e hy'
   simp only at h1 h2 hb
   rw [h1,h2,hb]
  have hET:=elemOf_e hp
  have hy:=opd_ok (Gu.nil hi.inv) hx
  have hof:=(cx.ok E).ofC _ _ hz
  split at h
  ·rename_i _ id E' off len mc
   obtain ⟨hE,h⟩:=ifE_e h
   subst hE
   obtain ⟨l,hl,h⟩:=got_e h
   obtain ⟨⟨h1,h3⟩,h⟩:=Chk_e h
   obtain ⟨hh,h⟩:=putH_e (Let_e h)
   have hl:=arrAt_e hl
   have hZl:(avL Z).length=tb.sz E':=by rw [avL_length,hof.2]
   have hfl:(List.replicate len (avL Z)).flatten.length=len*tb.sz E':=by simp [hZl]
   have e1:∀ a b:List (tb.T E'),elC tb E' (a++b)=elC tb E' a++elC tb E' b:=fun a b=>by simp [elC]
   have e2:∀ n,elC tb E' (l.take n)=(elC tb E' l).take (n*tb.sz E'):=fun n=>by unfold elC;rw [flat_take n (elC_len cx.ok),List.map_take]
   have e3:∀ n,elC tb E' (l.drop n)=(elC tb E' l).drop (n*tb.sz E'):=fun n=>by unfold elC;rw [flat_drop n (elC_len cx.ok),List.map_drop]
   have key:=LEx.clearR (ops:=ops) (N:=N) (need:=[(id,elC tb E' l)]) (l:=elC tb E' l) hg hd ho hET (zeroS_e hZ) hy (by simp)
    (by rw [hfl,elC_length cx,<- Nat.add_mul];exact Nat.mul_le_mul_right _ h1) h3
   have key:=key.wsub (Z':=elC tb E' (l.take off++List.replicate len z++l.drop (off+len))) (by
    rw [e1,e1,e2,e3,hfl,<- Nat.add_mul]
    exact ((SubL.refl _).append (elC_replicate hof.1 len)).append (SubL.refl _))
   refine ⟨_,_,_,_,h,⟨reOf_keys,by simp [needH],by simp,by simp,rfl⟩,key,reOf_mem.1,?_,by simp,Nat.le_refl _,rfl,rfl,rfl,?_,⟨[],rfl⟩,⟨[_],rfl⟩,hi⟩
   ·intro q hq
    simp [needH] at hq
    subst hq;exact hl
   ·show avH L.gn _=_
    rw [hh];rfl
  ·cases h
def lBuildA (cx:Ctx P tb) (N:Nat) (ops:Array Oper) (L:SLS tb) (gs:List Nat) (o:Oper) (t n:Nat) (ps:Array (Nat × Operand)) (k:SLS tb->List Nat->KL->Option ρ):Option ρ:=
 got o.dst fun d=>got (elemOf P tb t) fun p=>got (fillS L [] (fun i=>some (i*tb.sz p.1,tb.sz p.1)) ps.toList (List.replicate (n*tb.sz p.1) .undef)) fun Z=>
 tst (Nat.beq Z.length (n*tb.sz p.1)) <| tst (Nat.blt 0 n) <| tst (Nat.ble (n*tb.sz p.1) (2 ^ 24)) <| got (chop cx p.1 n Z) fun l=>putN N gs L d (.rw L.nx p.1) (.arr p.1 l) fun L'=>k L' gs ⟨o.looksAt ops,[],[d],[L.nx],[L.nx]⟩
theorem lBuildA_ok {N ops} {L:SLS tb} {gs o t n ps} {k:SLS tb->List Nat->KL->Option ρ} {r} (hi:RI gs L.e) (hg:o.guard=none) (ho:o.op=.buildSlice t n ps) (h:lBuildA cx N ops L gs o t n ps k=some r):LOk P N ops o L k r:=by
 unfold lBuildA at h
 obtain ⟨d,hd,h⟩:=got_e h
 obtain ⟨p,hp,h⟩:=got_e h
 obtain ⟨Z,hZ,h⟩:=got_e h
 obtain ⟨h2,h⟩:=tst_e h
 obtain ⟨h3,h⟩:=tst_e h
 obtain ⟨h4,h⟩:=tst_e h
 obtain ⟨l,hl,h⟩:=got_e h
 have hf:=fillS_ok (Gu.nil hi.inv) hZ
 rw [avL_rep] at hf
 refine putN_ok (rh:=[]) hi rfl (fun hN=>?_) (by simp) (by simp) rfl rfl rfl rfl h
 exact (LEx.buildOwn (ops:=ops) (N:=N) (nm:=L.nx) hg hd hN ho (elemOf_e hp) hf (by rw [avL_length];exact Nat.eq_of_beq_eq_true h2) (Nat.le_of_ble_eq_true h3) (Nat.le_of_ble_eq_true h4)).wsub (chop_ok hl)
def plainEl (P:Program) (tb:Tb) (t:Nat):Bool:=match ((P.underlying t).bind isSlD).bind tb.look with | some _=>true | none=>false
def lop (cx:Ctx P tb) (im:Nat->Bool) (N:Nat) (ops:Array Oper) (L:SLS tb) (gs:List Nat) (o:Oper) (k:SLS tb->List Nat->KL->Option ρ):Option ρ:=match o.guard with
 | some (j,w)=>lg cx N ops L gs o j w k
 | none=>match o.op with
   | .alloc T=>lAlloc cx N ops L gs o T (match o.dst with | some d=>im d | none=>false) k
   | .buildSlice t n ps=>(match plainEl P tb t with
     | true=>(match (match o.dst with | some d=>im d | none=>false) with | true=>lBuildA cx N ops L gs o t n ps k | false=>lq cx N ops L gs o k)
     | false=>lBuildO (P:=P) N ops L gs o t n ps k)
   | .box _ y=>lBox N ops L gs o y (match o.dst with | some d=>im d | none=>false) k
   | .store t y z=>lStore cx ops L gs o t y z k
   | .makeSlice t x y=>lMake cx N ops L gs o t x y k
   | .call c=>(match c.callee with
     | .builtin .append=>(match isZer P c with | true=>lZer cx N ops L gs o c k | false=>(match (match o.dst with | some d=>im d | none=>false) with | true=>lAppO cx N ops L gs o c k | false=>lApp cx N ops L gs o c k))
     | .builtin .clear=>lClear cx ops L gs o c k
     | .value y=>(match opd L [] y with
       | some (.fn f caps)=>(match findHnd f cx.hnd with
         | some _=>lq cx N ops L gs o k
         | none=>got (findCon f cx.Γ) fun con=>(match con.own with
         | []=>lq cx N ops L gs o k
         | _::_=>got (opdsS L [] c.args.toList) fun xs=>lOwn cx N ops L gs o f (xs++caps) con k))
       | _=>lq cx N ops L gs o k)
     | _=>lq cx N ops L gs o k)
   | _=>lq cx N ops L gs o k
theorem lop_ok {im N ops} {L:SLS tb} {gs o} {k:SLS tb->List Nat->KL->Option ρ} {r} (hi:RI gs L.e) (h:lop cx im N ops L gs o k=some r):LOk P N ops o L k r:=by
 unfold lop at h
 split at h
 ·exact lg_ok hi ‹_› h
 ·rename_i hg
  split at h
  ·exact lAlloc_ok hi hg ‹_› h
  ·split at h
   ·split at h
    ·exact lBuildA_ok hi hg ‹_› h
    ·exact lq_ok hi hg h
   ·exact lBuildO_ok hi hg ‹_› h
  ·exact lBox_ok hi hg ‹_› h
  ·exact lStore_ok hi hg ‹_› h
  ·exact lMake_ok hi hg ‹_› h
  ·rename_i c ho
   obtain ⟨ce,ar,ty⟩:=c
   split at h
   ·rename_i hce
    split at h
    ·exact lZer_ok hi hg ho hce h
    ·split at h
     ·exact lAppO_ok hi hg ho hce h
     ·exact lApp_ok hi hg ho hce h
   ·rename_i hce
    exact lClear_ok hi hg ho hce h
   ·rename_i y hce
    simp only at hce;subst hce
    split at h
    ·rename_i f caps hy
     split at h
     ·exact lq_ok hi hg h
     obtain ⟨con,hcon,h⟩:=got_e h
     split at h
     ·exact lq_ok hi hg h
     ·obtain ⟨xs,hxs,h⟩:=got_e h
      exact lOwn_ok hi hg ho hy hxs hcon h
    ·exact lq_ok hi hg h
   ·exact lq_ok hi hg h
  ·exact lq_ok hi hg h
end
end
section
open Go.RowKit
variable [GlC]
section
variable {P:Program} {tb:Tb} {ρ:Type} {cx:Ctx P tb}
structure Ext (L L':SLS tb):Prop where
 s:L'.s=L.s
 e:∃ p,L'.e=p++L.e
 h:∃ p,L'.h=p++L.h
 nx:L.nx<=L'.nx
 gn:∃ p,L'.gn=p++L.gn
theorem Ext.refl (L:SLS tb):Ext L L:=⟨rfl,⟨[],rfl⟩,⟨[],rfl⟩,Nat.le_refl _,⟨[],rfl⟩⟩
theorem Ext.trans {a b c:SLS tb} (h:Ext a b) (k:Ext b c):Ext a c:=by
 obtain ⟨h1,⟨p1,h2⟩,⟨p2,h3⟩,h4,⟨p3,h5⟩⟩:=h
 obtain ⟨k1,⟨q1,k2⟩,⟨q2,k3⟩,k4,⟨q3,k5⟩⟩:=k
 exact ⟨k1.trans h1,⟨q1++p1,by rw [k2,h2,List.append_assoc]⟩,⟨q2++p2,by rw [k3,h3,List.append_assoc]⟩,Nat.le_trans h4 k4,⟨q3++p3,by rw [k5,h5,List.append_assoc]⟩⟩
def runL (cx:Ctx P tb) (im:Nat->Bool) (N:Nat) (ops:Array Oper):List Oper->SLS tb->List Nat->List KL->(SLS tb->List Nat->List KL->Option ρ)->Option ρ
 | [],L,gs,ks,k=>k L gs ks
 | o::os,L,gs,ks,k=>lop cx im N ops L gs o fun L' gs' κ=>runL cx im N ops os L' gs' (κ::ks) k
inductive KsOf:List Loc->List KL->Prop
 | nil:KsOf [] []
 | cons {c κ cs ks}:KOf c κ->KsOf cs ks->KsOf (c::cs) (κ::ks)
theorem runL_ok {im N ops}:∀ {os:List Oper} {L:SLS tb} {gs ks} {k:SLS tb->List Nat->List KL->Option ρ} {r},RI gs L.e->runL cx im N ops os L gs ks k=some r->
 ∃ L' gs' ks2 cs,k L' gs' (ks2.reverse++ks)=some r/\RI gs' L'.e/\KsOf cs ks2/\TrL P ops N os L.av.e L.av.h cs L'.av.e L'.av.h/\(∀ d∈namesOf cs,L.nx<=d/\d<L'.nx)/\Ext L L'/\L'.gn=L.gn
 | [],L,gs,ks,k,r,hi,h=>⟨L,gs,[],[],h,hi,.nil,.nil,by simp [namesOf],.refl L,rfl⟩
 | o :: os,L,gs,ks,k,r,hi,h=>by
   obtain ⟨L1,gs1,κ,c,h1,h2,h3,h4,h5,h6,h7,h8,h9,h10,h11,h12,h13,h14⟩:=lop_ok hi (show lop cx im N ops L gs o _=some r from h)
   obtain ⟨L2,gs2,ks2,cs,g1,g2,g3,g4,g5,g6,g7⟩:=runL_ok h14 h1
   refine ⟨L2,gs2,κ::ks2,c::cs,by simpa using g1,g2,.cons h2 g3,.cons h3 h4 h5 (by rw [<- h10,<- h11];exact g4),?_,?_,by rw [g7,h9]⟩
   ·intro d hd
    simp only [namesOf,List.flatMap_cons,List.mem_append] at hd
    rcases hd with hd | hd
    ·have:=h6 d hd;have:=g6.nx;omega
    ·have:=g5 d hd;omega
   ·exact Ext.trans ⟨h8,h12,h13,h7,⟨[],h9⟩⟩ g6
/-! orders -/
def kmeets:List Nat->List Nat->Bool
 | [],_=>false
 | t::a,b=>match memN t b with | true=>true | false=>kmeets a b
theorem kmeets_of {t:Nat}:∀ {a b:List Nat},t∈a->t∈b->kmeets a b=true
 | x :: a,b,h,h'=>by
   unfold kmeets
   split
   ·rfl
   ·rename_i hm
    rcases List.mem_cons.1 h with rfl | h
    ·rw [memN_e.2 h'] at hm;cases hm
    ·exact kmeets_of h h'
theorem meets_k {α β:Type} {a:List (Nat × α)} {b:List (Nat × β)} {a' b':List Nat} (h:meets a b=true) (ha:∀ p∈a,p.1∈a') (hb:∀ p∈b,p.1∈b'):kmeets a' b'=true:=by
 unfold meets at h
 obtain ⟨p,hp,h⟩:=List.any_eq_true.1 h
 unfold hasKey at h
 obtain ⟨q,hq,h⟩:=List.any_eq_true.1 h
 have h:q.1=p.1:=by simpa using h
 exact kmeets_of (ha p hp) (h ▸ hb q hq)
def kconf (a b:KL):Bool:=kmeets a.we b.we||kmeets a.we b.re||kmeets b.we a.re||kmeets a.wh b.wh||kmeets a.wh b.rh||kmeets b.wh a.rh
theorem conf_k {a b:Loc} {a' b':KL} (h:a.conf b=true) (ha:KOf a a') (hb:KOf b b'):kconf a' b'=true:=by
 unfold Loc.conf at h
 unfold kconf
 simp only [Bool.or_eq_true] at h ⊢
 rcases h with ((((h | h) | h) | h) | h) | h
 ·exact .inl (.inl (.inl (.inl (.inl (meets_k h ha.we hb.we)))))
 ·exact .inl (.inl (.inl (.inl (.inr (meets_k h ha.we hb.re)))))
 ·exact .inl (.inl (.inl (.inr (meets_k h hb.we ha.re))))
 ·exact .inl (.inl (.inr (meets_k h ha.wh hb.wh)))
 ·exact .inl (.inr (meets_k h ha.wh hb.rh))
 ·exact .inr (meets_k h hb.wh ha.rh)
def allLt (j:Nat):List Nat->Bool
 | []=>true
 | x::l=>match Nat.blt x j with | true=>allLt j l | false=>false
theorem allLt_e {j:Nat}:∀ {l:List Nat},allLt j l=true->l.all (·<j)=true
 | [],_=>rfl
 | x :: l,h=>by
   unfold allLt at h
   split at h
   ·rename_i hb
    simp only [List.all_cons,Bool.and_eq_true,decide_eq_true_eq]
    exact ⟨Nat.le_of_ble_eq_true hb,allLt_e h⟩
   ·cases h
def okE (m:Nat) (κ:KL):Nat->List KL->Bool
 | _,[]=>true
 | i,e::es=>match kconf e κ with
   | true=>(match bitB m (i - 1) with | true=>okE m κ (i - 1) es | false=>false)
   | false=>okE m κ (i - 1) es
theorem okE_e {m:Nat} {κ:KL}:∀ {er:List KL},okE m κ er.length er=true->∀ (i:Nat) e,er.reverse[i]? = some e->kconf e κ=true->bitB m i=true
 | [],_,i,e,h,_=>by simp at h
 | e0::es,h,i,e,he,hc=>by
   have hl:(e0::es).length - 1=es.length:=by simp
   unfold okE at h
   rw [hl] at h
   rw [List.reverse_cons] at he
   rcases Nat.lt_or_ge i es.length with hlt | hge
   ·rw [List.getElem?_append_left (by simpa using hlt)] at he
    refine okE_e (er:=es) ?_ i e he hc
    split at h
    ·split at h
     ·exact h
     ·cases h
    ·exact h
   ·rw [List.getElem?_append_right (by simpa using hge),List.length_reverse] at he
    have hi:i=es.length:=by
     rcases Nat.lt_or_ge (i - es.length) 1 with h1 | h1
     ·omega
     ·rw [List.getElem?_eq_none (by simpa using h1)] at he;cases he
    subst hi
    simp at he
    subst he
    rw [hc] at h
    simp only at h
    split at h
    ·rename_i hm;exact hm
    ·cases h
def locOkK:List KL->List (Nat × Nat)->Nat->List Oper->List KL->Bool
 | er,an,j,o::os,κ::ks=>(match allLt j (depsOf o) with | true=>(match okE (ancM an (depsOf o)) κ j er with | true=>locOkK (κ::er) ((j,ancM an (depsOf o))::an) (j+1) os ks | false=>false) | false=>false)
 | _,_,_,_,_=>true
theorem KsOf.get {cs:List Loc} {ks:List KL} (h:KsOf cs ks):∀ (i:Nat) c,cs[i]? = some c->∃ κ,ks[i]? = some κ/\KOf c κ:=by
 induction h with
 | nil=>intro i c h;simp at h
 | cons h t ih=>
   intro i c hc
   cases i with
   | zero=>simp at hc;subst hc;exact ⟨_,rfl,h⟩
   | succ i=>simpa using ih i c (by simpa using hc)
theorem KsOf.length {cs:List Loc} {ks:List KL} (h:KsOf cs ks):cs.length=ks.length:=by
 induction h with
 | nil=>rfl
 | cons _ _ ih=>simp [ih]
theorem KsOf.snoc {cs:List Loc} {ks:List KL} {c κ} (h:KsOf cs ks) (k:KOf c κ):KsOf (cs++[c]) (ks++[κ]):=by
 induction h with
 | nil=>exact .cons k .nil
 | cons h t ih=>exact .cons h ih
theorem locOkK_e:∀ {os:List Oper} {ec:List Loc} {er:List KL} {an cs ks},KsOf ec er.reverse->KsOf cs ks->locOkK er an er.length os ks=true->locOkFrom ec an ec.length os cs=true
 | [],_,_,_,_,_,_,_,_=>by simp [locOkFrom]
 | o::os,ec,er,an,_,_,he,.nil,_=>by simp [locOkFrom]
 | o :: os,ec,er,an,c::cs,κ::ks,he,.cons h t,hk=>by
   have hlen:ec.length=er.length:=by rw [he.length,List.length_reverse]
   unfold locOkK at hk
   split at hk
   ·rename_i h1
    split at hk
    ·rename_i h2
     unfold locOkFrom
     simp only [Bool.and_eq_true]
     refine ⟨⟨by rw [hlen];exact allLt_e h1,?_⟩,?_⟩
     ·rw [List.all_eq_true]
      rintro ⟨c',i⟩ hm
      have hm:=List.mem_zipIdx_iff_getElem?.1 hm
      simp only at hm
      simp only [Bool.or_eq_true,Bool.not_eq_true']
      rcases Bool.eq_false_or_eq_true (c'.conf c) with hc | hc
      ·refine .inr ?_
       obtain ⟨κ',hκ,hko⟩:=he.get i c' hm
       exact okE_e h2 i κ' hκ (conf_k hc hko h)
      ·exact .inl hc
     ·have:=locOkK_e (os:=os) (ec:=ec++[c]) (er:=κ::er) (an:=(er.length,ancM an (depsOf o))::an) (cs:=cs) (ks:=ks) (by rw [List.reverse_cons];exact he.snoc h) t hk
      rw [hlen]
      simpa [hlen] using this
    ·cases hk
   ·cases hk
def kNames (ks:List KL):List Nat:=ks.flatMap (·.nm)
theorem KsOf.names {cs:List Loc} {ks:List KL} (h:KsOf cs ks):namesOf cs=kNames ks:=by
 induction h with
 | nil=>rfl
 | cons h t ih=>
   simp only [namesOf,kNames,List.flatMap_cons] at ih ⊢
   rw [ih,h.nm]
/-! in text order -/
theorem Tells.f {e s h} {f f':Nat->Prop} (hf:∀ d,f' d->f d):Tells ⟨e,s,h,f⟩ ⟨e,s,h,f'⟩:=
 fun _ _ _ _ _ _ m bl S=>⟨m,bl,S.weaken (fun _ _ h=>h) (fun _ _ h=>h) hf rfl⟩
theorem TrL.go {N ops} {os:List Oper} {e h cs e' h'} (t:TrL P ops N os e h cs e' h'):∀ (st:List Env) (f:Nat->Prop) (rest:List Oper) (K:LS->Prop),nodupB (namesOf cs)=true->(∀ d∈namesOf cs,f d)->
 GoT P ops N rest K ⟨e',st,h',fun y=>f y/\y∉namesOf cs⟩->GoT P ops N (os++rest) K ⟨e,st,h,f⟩:=by
 induction t with
 | nil=>
   intro st f rest K _ _ k
   exact GoT.tells (Tells.f fun d hd=>hd.1) k
 | cons h1 h2 h3 t ih=>
   intro st f rest K hn hin k
   have hn2:=nodupB_spec hn
   simp only [namesOf,List.flatMap_cons] at hn2 hin
   rw [List.nodup_append] at hn2
   refine h1.text h2 h3 (fun d hd=>hin d (List.mem_append_left _ hd)) (f':=fun y=>f y/\y∉Loc.nm _) (fun y hy=>hy) ?_
   refine ih st _ rest K (of_nodup hn2.2.1) ?_ ?_
   ·intro d hd
    exact ⟨hin d (List.mem_append_right _ hd),fun hc=>hn2.2.2 d hc d hd rfl⟩
   ·refine GoT.tells (Tells.f ?_) k
    rintro d ⟨g1,g2⟩
    simp only [namesOf,List.flatMap_cons,List.mem_append,not_or] at g2
    exact ⟨⟨g1,g2.1⟩,g2.2⟩
where
 of_nodup:∀ {l:List Nat},l.Nodup->nodupB l=true
  | [],_=>rfl
  | x::l,h=>by
    rw [List.nodup_cons] at h
    unfold nodupB
    simp [h.1,of_nodup h.2]
end
end
section
open Go.RowKit
variable [GlC]
mutual
theorem re_re {p q:Nat->Option Nat}:∀ x:AV,(x.re p).re q=x.re (fun i=>(p i).bind q)
 | .undef=>rfl
 | .v _=>rfl
 | .agg l=>by simp only [AV.re,reL_re l]
 | .tup l=>by simp only [AV.re,reL_re l]
 | .sl _ _ _=>rfl
 | .cptr _=>rfl
 | .clo _ l=>by simp only [AV.re,reL_re l]
 | .ptr id off=>by
   simp only [AV.re]
   cases h:p id with
   | none=>rfl
   | some i=>simp only [AV.re,Option.bind_some]
 | .row id off len mc sz=>by
   simp only [AV.re]
   cases h:p id with
   | none=>rfl
   | some i=>simp only [AV.re,Option.bind_some]
 | .rw id sz=>by
   simp only [AV.re]
   cases h:p id with
   | none=>rfl
   | some i=>simp only [AV.re,Option.bind_some]
 | .opt _ x=>by simp only [AV.re,re_re x]
 | .ifc _ x=>by simp only [AV.re,re_re x]
theorem reL_re {p q:Nat->Option Nat}:∀ l:List AV,reL q (reL p l)=reL (fun i=>(p i).bind q) l
 | []=>rfl
 | x::l=>by simp only [reL,re_re x,reL_re l]
end
section
variable {P:Program} {tb:Tb} {ρ:Type} {cx:Ctx P tb}
def ResQ (g1 g':Gn tb) (q:Nat->Option Nat) (nx0:Nat):Prop:=
 ∀ id,id<nx0->find id g'=some .drop\/(find id g'=find id g1/\(find id g1=none->q id=some id))
def ltN (n:Nat) (i:Nat):Bool:=Nat.blt i n
theorem ltN_e {n i} (h:ltN n i=true):i<n:=Nat.le_of_ble_eq_true h
mutual
theorem res_sub {g1 g':Gn tb} {q nx0} (H:ResQ g1 g' q nx0):∀ {x:SV tb},x.has (ltN nx0)=true->Sub ((x.res g1).av.re q) (x.res g').av
 | .undef,_=>.refl _
 | .i _ _,_=>.refl _
 | .b8 _,_=>.refl _
 | .bo _,_=>.refl _
 | .st _,_=>.refl _
 | .con _,_=>.refl _
 | .agg l,h=>.agg (resL_sub H (l:=l) h)
 | .tup l,h=>.tup (resL_sub H (l:=l) h)
 | .sl _ _ _,_=>.refl _
 | .em _,_=>.refl _
 | .cp l,_=>.refl _
 | .fn f l,h=>.clo (resL_sub H (l:=l) h)
 | .ptr id off,h=>by
   simp only [SV.res]
   rcases H id (ltN_e h) with h1 | ⟨h1,h2⟩
   ·rw [h1];exact .undef _
   ·rw [h1]
    cases hf:find id g1 with
    | none=>simp only [resP,SV.av,AV.re,h2 hf];exact .refl _
    | some c=>
      cases c with
      | drop=>exact .undef _
      | fz c=>cases c <;> exact .refl _
 | .epr id E i fo,h=>by
   simp only [SV.res]
   rcases H id (ltN_e h) with h1 | ⟨h1,h2⟩
   ·rw [h1];exact .undef _
   ·rw [h1]
    cases hf:find id g1 with
    | none=>simp only [resE,SV.av,AV.re,h2 hf];exact .refl _
    | some c=>exact .undef _
 | .row id E off len mc,h=>by
   simp only [SV.res]
   rcases H id (ltN_e h) with h1 | ⟨h1,h2⟩
   ·rw [h1];exact .undef _
   ·rw [h1]
    cases hf:find id g1 with
    | none=>simp only [resR,SV.av,AV.re,h2 hf];exact .refl _
    | some c=>exact .undef _
 | .rw id E,h=>by
   simp only [SV.res]
   rcases H id (ltN_e h) with h1 | ⟨h1,h2⟩
   ·rw [h1];exact .undef _
   ·rw [h1]
    cases hf:find id g1 with
    | none=>simp only [resW,SV.av,AV.re,h2 hf];exact .refl _
    | some c=>
      cases c with
      | drop=>exact .undef _
      | fz c=>
        cases c with
        | arr E' l=>simp only [resW];split <;> exact .refl _
        | _=>exact .undef _
 | .opt _ x,h=>.opt (res_sub H (x:=x) h)
 | .cl _ _ _ _ caps hc,_=>by
   simp only [SV.res,SV.av,AV.re];rw [bareL_of hc.2.1];exact .refl _
 | .ifc _ x,h=>.ifc (res_sub H (x:=x) h)
theorem resL_sub {g1 g':Gn tb} {q nx0} (H:ResQ g1 g' q nx0):∀ {l:List (SV tb)},hasL (ltN nx0) l=true->SubL (reL q (avL (resL g1 l))) (avL (resL g' l))
 | [],_=>.refl _
 | x::l,h=>by
   rw [hasL_cons,Bool.and_eq_true] at h
   exact .cons (res_sub H h.1) (resL_sub H h.2)
end
def wfE (n:Nat):SEnv tb->Bool
 | []=>true
 | (_,x)::e=>match x.has (ltN n) with | true=>wfE n e | false=>false
theorem wfE_e {n:Nat}:∀ {e:SEnv tb},wfE n e=true->∀ t x,find t e=some x->x.has (ltN n)=true
 | [],_,t,x,hf=>by simp [find] at hf
 | (k,y)::e,h,t,x,hf=>by
   unfold wfE at h
   split at h
   ·rename_i hy
    rw [find_cons] at hf
    split at hf
    ·cases hf;exact hy
    ·exact wfE_e h t x hf
   ·cases h
def wfH (n:Nat):SHp tb->Bool
 | []=>true
 | (i,x)::e=>match ltN n i with | true=>(match x.has (ltN n) with | true=>wfH n e | false=>false) | false=>false
theorem wfH_e {n:Nat}:∀ {e:SHp tb},wfH n e=true->∀ t x,find t e=some x->t<n/\x.has (ltN n)=true
 | [],_,t,x,hf=>by simp [find] at hf
 | (k, y)::e,h,t,x,hf=>by
   unfold wfH at h
   split at h
   ·rename_i hk
    split at h
    ·rename_i hy
     rw [find_cons] at hf
     split at hf
     ·rename_i he;subst he;cases hf;exact ⟨ltN_e hk,hy⟩
     ·exact wfH_e h t x hf
    ·cases h
   ·cases h
def wfS (n:Nat):List (SEnv tb)->Bool
 | []=>true
 | e::s=>match wfE n e with | true=>wfS n s | false=>false
theorem wfS_e {n:Nat}:∀ {s:List (SEnv tb)},wfS n s=true->∀ (i:Nat) e,s[i]? = some e->wfE n e=true
 | [],_,i,e,hf=>by simp at hf
 | e0::s,h,i,e,hf=>by
   unfold wfS at h
   split at h
   ·rename_i he
    cases i with
    | zero=>simp at hf;subst hf;exact he
    | succ i=>exact wfS_e h i e (by simpa using hf)
   ·cases h
def wf (L:SLS tb):Bool:=match wfE L.nx L.e with | true=>(match wfS L.nx L.s with | true=>wfH L.nx L.h | false=>false) | false=>false
structure Wf (L:SLS tb):Prop where
 e:wfE L.nx L.e=true
 s:wfS L.nx L.s=true
 h:wfH L.nx L.h=true
theorem wf_e {L:SLS tb} (h:wf L=true):Wf L:=by
 unfold wf at h
 split at h
 ·split at h
  ·exact ⟨‹_›,‹_›,h⟩
  ·cases h
 ·cases h
theorem SubS_of {q nils}:∀ {s s':List Env},s'.length=s.length->(∀ (i:Nat) e e',s[i]? = some e->s'[i]? = some e'->SubE q nils e e')->SubS q nils s s'
 | [],[],_,_=>trivial
 | [],_::_,h,_=>by simp at h
 | _::_,[],h,_=>by simp at h
 | e::s,e'::s',h,k=>⟨k 0 e e' rfl rfl,SubS_of (by simpa using h) fun i e e' h1 h2=>k (i+1) e e' (by simpa using h1) (by simpa using h2)⟩
/-! appends to own slices -/
def gApp (cx:Ctx P tb) (N:Nat) (L:SLS tb) (gs:List Nat) (o:Oper) (c:Call) (id:Nat) (E0:tb.Ix) (k:SLS tb->List Nat->Option ρ):Option ρ:=
 got o.dst fun d=>got (args2 c) fun a=>got (types2 c) fun t=>got (elemOf P tb t.1) fun p=>tst (Nat.ble 1 p.2.2) <| tst (wf L) <| ifE E0 p.1 fun _=>got (arrAt L id p.1) fun l=>srcK P L p.1 t.2 a.2 fun l2 need=>
  Chk ((l.length+l2.length)*p.2.2<=140737488355328) <| Let (l++l2) fun l'=>tst (Nat.blt d N) <| tst (!memN d gs) <| tst (Nat.blt id L.nx) <| tst (keepQ L.gn L.nx) <|
  k { L with e:=(d,.rw L.nx p.1)::L.e,h:=(L.nx,.arr p.1 l')::L.h,nx:=L.nx+1,gn:=(id,.drop)::L.gn } gs
theorem gApp_ok {N ops} {L:SLS tb} {gs o c y z id E0} {k:SLS tb->List Nat->Option ρ} {r} (hi:RI gs L.e) (hg:o.guard=none) (ho:o.op=.call c) (hb:c.callee=.builtin .append) (ha:args2 c=some (y,z)) (hx:opd L [] y=some (.rw id E0))
 (h:gApp cx N L gs o c id E0 k=some r):∀ rest K,(∀ L' gs',k L' gs'=some r->RI gs' L'.e->Ext L L'->GoT P ops N rest K L'.av)->GoT P ops N (o::rest) K L.av:=by
 unfold gApp at h
 obtain ⟨d,hd,h⟩:=got_e h
 obtain ⟨a',ha',h⟩:=got_e h
 rw [ha] at ha';cases ha'
 obtain ⟨⟨t,tz⟩,ht,h⟩:=got_e h
 obtain ⟨⟨E,E1,by_⟩,hp,h⟩:=got_e h
 obtain ⟨hby,h⟩:=tst_e h
 have hby2:1<=by_:=Nat.le_of_ble_eq_true hby
 obtain ⟨hwf,h⟩:=tst_e h
 have hwf:=wf_e hwf
 obtain ⟨hE,h⟩:=ifE_e h
 simp only at hE
 subst hE
 obtain ⟨l,hl,h⟩:=got_e h
 have ho:o.op=.call { callee:=.builtin .append,args:=#[y,z],argTypes:=#[t,tz] }:=by
  rw [ho]
  obtain ⟨c1,c2,c3⟩:=c
  have h1:=args2_e ha
  have h2:=types2_e ht
  simp only at h1 h2 hb
  rw [h1,h2,hb]
 have hET:=elemOf_e hp
 have hy:=opd_ok (Gu.nil hi.inv) hx
 obtain ⟨l2,need,h,hsrc,hnd⟩:=srcK_ok (o:=o) cx hi.inv (by rw [ho];simp [Op.operands,Call.operands]) h
 obtain ⟨hc,h⟩:=Chk_e h
 have h:=Let_e h
 obtain ⟨hN,h⟩:=tst_e h
 obtain ⟨hm,h⟩:=tst_e h
 obtain ⟨hlt,h⟩:=tst_e h
 obtain ⟨hkn,h⟩:=tst_e h
 have hN:d<N:=Nat.le_of_ble_eq_true hN
 have hm:memN d gs=false:=by simpa using hm
 have hlt:id<L.nx:=Nat.le_of_ble_eq_true hlt
 have hkn:=keepQ_e hkn
 have hkid:find id L.gn=none:=by
  have:=hl;unfold arrAt at this;split at this
  ·exact keepQ_e ‹_›
  ·cases this
 have hl:=arrAt_e hl
 intro rest K kk
 have key:=AEx.appRow (L:=L.av) hd ho hET hy (xs:=l.map (tb.el E0)) hl (elC_len cx.ok) (el_bare cx l) hsrc hnd (by rw [List.length_map,List.length_map];exact hc) (by rw [List.length_map,List.length_map];exact len63 hby2 hc)
 refine GoT.act hg (fun d' h'=>by rw [hd] at h';cases h';exact hN) key ?_
 rintro L1 rfl
 have hext:Ext L { L with e:=(d,.rw L.nx E0)::L.e,h:=(L.nx,.arr E0 (l++l2))::L.h,nx:=L.nx+1,gn:=(id,.drop)::L.gn }:=⟨rfl,⟨[_],rfl⟩,⟨[_],rfl⟩,Nat.le_succ _,⟨[_],rfl⟩⟩
 refine GoT.tells ?_ (kk _ _ h (hi.put hm rfl) hext)
 -- the name is renamed
 let q:Nat->Option Nat:=fun i=>if i=id then some L.nx else if i=L.nx then none else some i
 let r0:Nat->Option Nat:=fun i=>if i=L.nx then some id else if i=id then none else some i
 have hH:ResQ L.gn ((id,Gone.drop)::L.gn) (fun i=>(dropQ id i).bind q) L.nx:=by
  intro i hi
  rw [find_cons]
  by_cases hid:id=i
  ·rw [if_pos hid];exact .inl rfl
  ·rw [if_neg hid]
   refine .inr ⟨rfl,fun _=>?_⟩
   show (dropQ id i).bind q=_
   unfold dropQ
   rw [if_neg (Ne.symm hid)]
   show (if i=id then _ else if i=L.nx then _ else _)=_
   rw [if_neg (Ne.symm hid),if_neg (by omega)]
 have hfe:∀ (e:SEnv tb),wfE L.nx e=true->∀ t x,find t (avE ((id,Gone.drop)::L.gn) e)=some x->∃ y,find t (reE (dropQ id) (avE L.gn e))=some y/\SubN (fun _=>false) (y.re q) x:=by
  intro e he t x hf
  rw [find_avE] at hf
  obtain ⟨x0,h1,rfl⟩:=Option.map_eq_some_iff.1 hf
  refine ⟨_,by rw [find_reE,find_avE,h1];rfl,?_⟩
  show SubN _ (((x0.res L.gn).av.re (dropQ id)).re q) _
  rw [re_re]
  exact (res_sub hH (wfE_e he t x0 h1)).n
 refine LS.ren.tells (q:=q) (r:=r0) (nils:=fun _=>false) ⟨?_,?_,?_,?_,?_,by simp⟩
 ·intro a b
  show (if a=id then _ else if a=L.nx then _ else _)=some b↔(if b=L.nx then _ else if b=id then _ else _)=some a
  constructor
  ·intro h1
   split at h1
   ·cases h1;rw [if_pos rfl];simp_all
   ·split at h1
    ·cases h1
    ·cases h1;rw [if_neg ‹_›,if_neg ‹_›]
  ·intro h1
   split at h1
   ·cases h1;rw [if_pos rfl];simp_all
   ·split at h1
    ·cases h1
    ·cases h1;rw [if_neg ‹_›,if_neg ‹_›]
 ·intro t x hf
  have hf':find t ((d,((SV.rw L.nx E0).res ((id,Gone.drop)::L.gn)).av)::avE ((id,Gone.drop)::L.gn) L.e)=some x:=hf
  rw [find_cons] at hf'
  split at hf'
  ·rename_i hdt
   subst hdt
   cases hf'
   refine .inr ⟨.rw id (tb.sz E0),by rw [find_cons,if_pos rfl],?_⟩
   have e1:((SV.rw L.nx E0).res ((id,Gone.drop)::L.gn)).av=AV.rw L.nx (tb.sz E0):=by
    simp only [SV.res]
    rw [find_cons,if_neg (by omega),hkn];rfl
   rw [e1]
   have e2:(AV.rw id (tb.sz E0)).re q=.rw L.nx (tb.sz E0):=by
    simp only [AV.re]
    have:q id=some L.nx:=by show (if id=id then _ else _)=_;rw [if_pos rfl]
    rw [this]
   rw [e2];exact (Sub.refl _).n
  ·rename_i hdt
   obtain ⟨y,h1,h2⟩:=hfe L.e hwf.e t x hf'
   exact .inr ⟨y,by rw [find_cons,if_neg hdt];exact h1,h2⟩
 ·refine SubS_of ?_ ?_
  ·show (L.s.map _).length=((L.s.map _).map _).length;simp
  ·intro i e e' h1 h2
   have h1:((L.s.map (avE L.gn)).map (reE (dropQ id)))[i]? = some e:=h1
   have h2:(L.s.map (avE ((id,Gone.drop)::L.gn)))[i]? = some e':=h2
   rw [List.getElem?_map,List.getElem?_map] at h1
   rw [List.getElem?_map] at h2
   cases hs:L.s[i]? with
   | none=>rw [hs] at h1;cases h1
   | some e0=>
     rw [hs] at h1 h2
     cases h1;cases h2
     exact fun t x hf=>.inr (hfe e0 (wfS_e hwf.s i e0 hs) t x hf)
 ·intro i b hf
  have hf:find i (avH ((id,Gone.drop)::L.gn) ((L.nx,SC.arr E0 (l++l2))::L.h))=some b:=hf
  rw [find_avH] at hf
  split at hf
  ·rename_i hk
   have hk:=keepQ_e hk
   rw [find_cons] at hk
   split at hk
   ·cases hk
   rename_i hidi
   have hf2:(find i ((L.nx,SC.arr E0 (l++l2))::L.h)).map (fun b=>(b.res ((id,Gone.drop)::L.gn)).av)=some b:=hf
   rw [find_cons] at hf2
   refine .inr ?_
   split at hf2
   ·rename_i hni
    subst hni
    cases hf2
    refine ⟨id,_,by show (if L.nx=L.nx then _ else _)=_;rw [if_pos rfl],by rw [find_cons,if_pos rfl],?_⟩
    show SubLN _ (reL q _) (elC tb E0 (l++l2))
    have e3:elC tb E0 (l++l2)=(l.map (tb.el E0)).flatMap AV.cells++(l2.map (tb.el E0)).flatMap AV.cells:=by simp [elC]
    rw [e3]
    rw [bareL_of (by show cleanL _ _=true;rw [cleanL_append,show cleanL _ _=true from el_bare cx l,show cleanL _ _=true from el_bare cx l2];rfl)]
    exact (SubL.refl _).n
   ·rename_i hni
    obtain ⟨c0,h1,rfl⟩:=Option.map_eq_some_iff.1 hf2
    obtain ⟨h3,h4⟩:=wfH_e hwf.h i c0 h1
    refine ⟨i,reB (dropQ id) (c0.res L.gn).av,by show (if i=L.nx then _ else if i=id then _ else _)=_;rw [if_neg (Ne.symm hni),if_neg (Ne.symm hidi)],?_,?_⟩
    ·show find i ((id,_)::dropH id (avH L.gn L.h))=_
     rw [find_cons,if_neg hidi,find_dropH,if_neg (Ne.symm hidi),find_avH]
     have:keepQ L.gn i=true:=by unfold keepQ;rw [hk]
     rw [if_pos this,h1];rfl
    ·cases c0 with
     | cells cl=>
       show SubLN _ (reL q (reL (dropQ id) (avL (resL L.gn cl)))) (avL (resL _ cl))
       rw [reL_re]
       exact (resL_sub hH h4).n
     | arr E1 l1=>
       show SubLN _ (reL q (reL (dropQ id) (elC tb E1 l1))) (elC tb E1 l1)
       rw [bareL_of (show allBare (elC tb E1 l1)=true from el_bare cx l1),bareL_of (show allBare (elC tb E1 l1)=true from el_bare cx l1)]
       exact (SubL.refl _).n
     | iter s p=>exact ⟨rfl,rfl⟩
  ·cases hf
 ·intro d' hd'
  have hd':L.nx+1<=d':=hd'
  refine ⟨rfl,fun a ha=>?_⟩
  have ha:(if d'=L.nx then some id else if d'=id then none else some d')=some a:=ha
  rw [if_neg (by omega),if_neg (by omega)] at ha
  cases ha
  exact ⟨show L.nx<=d' by omega,by omega⟩
end
end
section
open Go.RowKit
variable [GlC]
section
variable {P:Program} {tb:Tb} {ρ:Type} {cx:Ctx P tb}
def frz1 (L:SLS tb) (id:Nat) (c:SC tb):SLS tb:={ L with gn:=(id,.fz c)::L.gn }
theorem frz1_tells (cx:Ctx P tb) {L:SLS tb} {id c} (h:bareC L id=some c):Tells L.av (frz1 L id c).av:=by
 obtain ⟨l,h1,h2,h3,h4⟩:=bareC_e cx h
 have hE:∀ (e:SEnv tb) t x,find t (avE ((id,Gone.fz c)::L.gn) e)=some x->∃ y,find t (avE L.gn e)=some y/\FzOk id l y x:=by
  intro e t x hx
  rw [find_avE] at hx
  obtain ⟨x0,g1,rfl⟩:=Option.map_eq_some_iff.1 hx
  exact ⟨_,by rw [find_avE,g1];rfl,res_fz cx h1 h4 x0⟩
 refine LS.frz.tells (id:=id) (l:=l) ⟨h2,h3,hE L.e,⟨?_,?_⟩,?_,fun d hd=>hd⟩
 ·show (L.s.map _).length=(L.s.map _).length
  simp
 ·intro i e' e he' he
  have he':(L.s.map (avE ((id,Gone.fz c)::L.gn)))[i]? = some e':=he'
  have he:(L.s.map (avE L.gn))[i]? = some e:=he
  rw [List.getElem?_map] at he' he
  cases hs:L.s[i]? with
  | none=>rw [hs] at he;cases he
  | some e0=>
    rw [hs] at he he'
    cases he;cases he'
    exact hE e0
 ·intro i b hb
  have hb:find i (avH ((id,Gone.fz c)::L.gn) L.h)=some b:=hb
  rw [find_avH] at hb
  split at hb
  ·rename_i hk
   have hk:=keepQ_e hk
   rw [find_cons] at hk
   split at hk
   ·cases hk
   ·rename_i hne
    refine ⟨Ne.symm hne,?_⟩
    obtain ⟨c0,g1,rfl⟩:=Option.map_eq_some_iff.1 hb
    refine ⟨(c0.res L.gn).av,?_,?_⟩
    ·show find i (avH L.gn L.h)=_
     have:keepQ L.gn i=true:=by unfold keepQ;rw [hk]
     rw [find_avH,if_pos this,g1];rfl
    ·cases c0 with
     | cells cl=>exact resL_fz cx h1 h4 cl
     | arr E l1=>
       intro m bl m' bl' f vs hv
       have:=resL_fz cx h1 h4 []
       show Reps m' bl' (elC tb E l1) vs
       have hb:=el_bare cx (E:=E) l1
       have h5:=(Reps.mono f.le hv).bare (bl':=bl')
       rwa [bareL,bareL_of (show allBare (elC tb E l1)=true from hb)] at h5
     | iter s p=>exact ⟨rfl,rfl⟩
  ·cases hb
def frzs:Nat->List Nat->SLS tb->Option (SLS tb)
 | 0,_,_=>none
 | _+1,[],L=>some L
 | n + 1,id::r,L=>match keepQ L.gn id with
   | false=>frzs n r L
   | true=>match find id L.h with
     | some (.cells cl)=>got (frzs n (nmsL (resL L.gn cl) []) L) fun L1=>got (bareC L1 id) fun c=>frzs n r (frz1 L1 id c)
     | _=>got (bareC L id) fun c=>frzs n r (frz1 L id c)
structure Fzn (L L':SLS tb):Prop where
 t:Tells L.av L'.av
 x:Ext L L'
 e:L'.e=L.e
theorem Fzn.refl (L:SLS tb):Fzn L L:=⟨.refl _,.refl _,rfl⟩
theorem Fzn.trans {a b c:SLS tb} (h:Fzn a b) (k:Fzn b c):Fzn a c:=⟨h.t.trans k.t,h.x.trans k.x,k.e.trans h.e⟩
theorem frz1_fzn (cx:Ctx P tb) {L:SLS tb} {id c} (h:bareC L id=some c):Fzn L (frz1 L id c):=⟨frz1_tells cx h,⟨rfl,⟨[],rfl⟩,⟨[],rfl⟩,Nat.le_refl _,⟨[_],rfl⟩⟩,rfl⟩
theorem frzs_ok (cx:Ctx P tb):∀ {n ids} {L L':SLS tb},frzs n ids L=some L'->Fzn L L'
 | 0,_,_,_,h=>by cases h
 | _+1,[],L,L',h=>by cases h;exact .refl L
 | n + 1,id::r,L,L',h=>by
   unfold frzs at h
   split at h
   ·exact frzs_ok cx h
   ·split at h
    ·obtain ⟨L1,h1,h⟩:=got_e h
     obtain ⟨c,hc,h⟩:=got_e h
     exact (frzs_ok cx h1).trans ((frz1_fzn cx hc).trans (frzs_ok cx h))
    ·obtain ⟨c,hc,h⟩:=got_e h
     exact (frz1_fzn cx hc).trans (frzs_ok cx h)
/-! the slice of all that is known -/
def cutS (gs:List Nat) (t:Nat) (L:SLS tb) (k:SLS tb->Option ρ):Option ρ:=match find t L.e with
 | some (.row id E off len _)=>(match Nat.beq off 0 with
   | true=>got (arrAt L id E) fun l=>Chk (len<=l.length) <| Let (l.take len) fun l'=>tst (wf L) <| tst (keepQ L.gn L.nx) <| tst (!memN t gs) <| tst (Nat.blt id L.nx) <|
     k { L with e:=(t,.rw L.nx E)::L.e,h:=(L.nx,.arr E l')::L.h,nx:=L.nx+1,gn:=(id,.drop)::L.gn }
   | false=>k L)
 | _=>k L
structure Gho (gs:List Nat) (L L':SLS tb):Prop where
 t:Tells L.av L'.av
 x:Ext L L'
 i:RI gs L.e->RI gs L'.e
theorem Gho.refl {gs} (L:SLS tb):Gho gs L L:=⟨.refl _,.refl _,id⟩
theorem Gho.trans {gs} {a b c:SLS tb} (h:Gho gs a b) (k:Gho gs b c):Gho gs a c:=⟨h.t.trans k.t,h.x.trans k.x,fun i=>k.i (h.i i)⟩
theorem Fzn.g {gs} {L L':SLS tb} (h:Fzn L L'):Gho gs L L':=⟨h.t,h.x,fun i=>by rw [h.e];exact i⟩
theorem cutS_ok (cx:Ctx P tb) {gs t} {L:SLS tb} {k:SLS tb->Option ρ} {r} (h:cutS gs t L k=some r):∃ L',k L'=some r/\Gho gs L L':=by
 unfold cutS at h
 split at h
 ·rename_i id E off len mc hf
  split at h
  ·rename_i hoff
   have hoff:=Nat.eq_of_beq_eq_true hoff
   subst hoff
   obtain ⟨l,hl,h⟩:=got_e h
   obtain ⟨hle,h⟩:=Chk_e h
   have h:=Let_e h
   obtain ⟨hwf,h⟩:=tst_e h
   have hwf:=wf_e hwf
   obtain ⟨hkn,h⟩:=tst_e h
   have hkn:=keepQ_e hkn
   obtain ⟨hm,h⟩:=tst_e h
   obtain ⟨hlt,h⟩:=tst_e h
   have hlt:id<L.nx:=Nat.le_of_ble_eq_true hlt
   have hm:memN t gs=false:=by simpa using hm
   have hkid:find id L.gn=none:=by
    have:=hl;unfold arrAt at this;split at this
    ·exact keepQ_e ‹_›
    ·cases this
   have hl:=arrAt_e hl
   refine ⟨_,h,?_,⟨rfl,⟨[_],rfl⟩,⟨[_],rfl⟩,Nat.le_succ _,⟨[_],rfl⟩⟩,fun hi=>hi.put hm rfl⟩
   have hres:∀ i,i<L.nx->find i ((id,Gone.drop)::L.gn)=some .drop\/(find i ((id,Gone.drop)::L.gn)=find i L.gn/\(find i L.gn=none->dropQ id i=some i)):=by
    intro i hi
    rw [find_cons]
    by_cases hid:id=i
    ·rw [if_pos hid];exact .inl rfl
    ·rw [if_neg hid]
     exact .inr ⟨rfl,fun _=>by unfold dropQ;rw [if_neg (Ne.symm hid)]⟩
   have hfe:∀ (e:SEnv tb),wfE L.nx e=true->∀ t x,find t (avE ((id,Gone.drop)::L.gn) e)=some x->∃ y,find t (avE L.gn e)=some y/\Sub (y.re (dropQ id)) x:=by
    intro e he t x hf
    rw [find_avE] at hf
    obtain ⟨x0,h1,rfl⟩:=Option.map_eq_some_iff.1 hf
    exact ⟨_,by rw [find_avE,h1];rfl,res_sub hres (wfE_e he t x0 h1)⟩
   have hav:∀ (l:List (tb.T E)),(elC tb E l).length=l.length*tb.sz E:=fun l=>by
    unfold elC
    rw [flat_len (sz:=tb.sz E) (by intro x hx;obtain ⟨y,-,rfl⟩:=List.mem_map.1 hx;exact (cx.ok E).len y),List.length_map]
   have htk:(elC tb E l).take (len*tb.sz E)=elC tb E (l.take len):=by
    unfold elC
    rw [flat_take len (by intro x hx;obtain ⟨y,-,rfl⟩:=List.mem_map.1 hx;exact (cx.ok E).len y),List.map_take]
   refine LS.cut.tells (id:=id) (nid:=L.nx) (k:=len*tb.sz E) (sz:=tb.sz E) (len:=len) (mc:=mc) (t:=t) ⟨⟨elC tb E l,hl,?_,?_,?_⟩,?_,rfl,?_,⟨?_,?_⟩,?_,Nat.le_refl _,?_⟩ (cx.ok E).pos
   ·rw [hav];exact Nat.mul_le_mul_right _ hle
   ·show find L.nx (avH ((id,Gone.drop)::L.gn) ((L.nx,SC.arr E (l.take len))::L.h))=_
    have hk:keepQ ((id,Gone.drop)::L.gn) L.nx=true:=by unfold keepQ;rw [find_cons,if_neg (by omega),hkn]
    rw [find_avH,if_pos hk,find_cons,if_pos rfl,htk];rfl
   ·rw [htk];exact el_bare cx _
   ·show find t (avE L.gn L.e)=_
    rw [find_avE,hf]
    simp only [Option.map_some,SV.res]
    rw [hkid]
    simp [resR,SV.av]
   ·intro t' x hx
    have hx:find t' (avE ((id,Gone.drop)::L.gn) ((t,SV.rw L.nx E)::L.e))=some x:=hx
    have hx2:find t' ((t,((SV.rw L.nx E).res ((id,Gone.drop)::L.gn)).av)::avE ((id,Gone.drop)::L.gn) L.e)=some x:=hx
    rw [find_cons] at hx2
    split at hx2
    ·rename_i ht
     cases hx2
     refine .inl ⟨ht.symm,?_⟩
     simp only [SV.res]
     rw [find_cons,if_neg (by omega),hkn];rfl
    ·exact .inr (hfe L.e hwf.e t' x hx2)
   ·show (L.s.map _).length=(L.s.map _).length
    simp
   ·intro i e' e he' he
    have he':(L.s.map (avE ((id,Gone.drop)::L.gn)))[i]? = some e':=he'
    have he:(L.s.map (avE L.gn))[i]? = some e:=he
    rw [List.getElem?_map] at he' he
    cases hs:L.s[i]? with
    | none=>rw [hs] at he;cases he
    | some e0=>
      rw [hs] at he he'
      cases he;cases he'
      exact hfe e0 (wfS_e hwf.s i e0 hs)
   ·intro i b hne hb
    have hb:find i (avH ((id,Gone.drop)::L.gn) ((L.nx,SC.arr E (l.take len))::L.h))=some b:=hb
    rw [find_avH] at hb
    split at hb
    ·rename_i hk
     have hk:=keepQ_e hk
     rw [find_cons] at hk
     split at hk
     ·cases hk
     ·rename_i hni
      refine ⟨Ne.symm hni,?_⟩
      rw [find_cons,if_neg (Ne.symm hne)] at hb
      obtain ⟨c0,h1,rfl⟩:=Option.map_eq_some_iff.1 hb
      obtain ⟨h3,h4⟩:=wfH_e hwf.h i c0 h1
      refine ⟨(c0.res L.gn).av,?_,?_⟩
      ·show find i (avH L.gn L.h)=_
       have:keepQ L.gn i=true:=by unfold keepQ;rw [hk]
       rw [find_avH,if_pos this,h1];rfl
      ·cases c0 with
       | cells cl=>exact resL_sub hres h4
       | arr E1 l1=>
         show SubL (reL _ (elC tb E1 l1)) (elC tb E1 l1)
         rw [bareL_of (show allBare (elC tb E1 l1)=true from el_bare cx l1)]
         exact SubL.refl _
       | iter s p=>exact ⟨rfl,rfl⟩
    ·cases hb
   ·intro d hd
    have hd:L.nx+1<=d:=hd
    exact ⟨show L.nx<=d by omega,by omega⟩
  ·exact ⟨L,h,.refl L⟩
 ·exact ⟨L,h,.refl L⟩
/-! before ways meet -/
def cutsJ (gs:List Nat):List (JV tb)->SLS tb->(SLS tb->Option ρ)->Option ρ
 | [],L,k=>k L
 | .val t _ (_::_)::r,L,k=>cutS gs t L fun L'=>cutsJ gs r L' k
 | _::r,L,k=>cutsJ gs r L k
theorem cutsJ_ok (cx:Ctx P tb) {gs}:∀ {l:List (JV tb)} {L:SLS tb} {k:SLS tb->Option ρ} {r},cutsJ gs l L k=some r->∃ L',k L'=some r/\Gho gs L L'
 | [],L,k,r,h=>⟨L,h,.refl L⟩
 | .val t i (o::ow)::l,L,k,r,h=>by
   obtain ⟨L1,h1,g1⟩:=cutS_ok cx (show cutS gs t L _=some r from h)
   obtain ⟨L2,h2,g2⟩:=cutsJ_ok cx h1
   exact ⟨L2,h2,g1.trans g2⟩
 | .val t i []::l,L,k,r,h=>cutsJ_ok cx (l:=l) h
 | .blk t i ow::l,L,k,r,h=>cutsJ_ok cx (l:=l) h
 | .arr t c i::l,L,k,r,h=>cutsJ_ok cx (l:=l) h
 | .itr t::l,L,k,r,h=>cutsJ_ok cx (l:=l) h
def nonOwn (own:List Nat):Nat->List (SV tb)->List Nat->List Nat
 | _,[],a=>a
 | j,x::l,a=>match own.contains j with
   | true=>nonOwn own (j+1) l a
   | false=>x.nms (nonOwn own (j+1) l a)
def frzN (L0 L:SLS tb):List (JV tb)->List Nat
 | []=>[]
 | .val t _ own::r=>match find t L.e with
   | some x=>nonOwn own 0 (cellsS (x.res L.gn)) (frzN L0 L r)
   | none=>frzN L0 L r
 | .blk t _ own::r=>match find t L0.e with
   | some (.ptr id _)=>(match find id L.h with
     | some (.cells l)=>nonOwn own 0 (resL L.gn l) (frzN L0 L r)
     | _=>frzN L0 L r)
   | _=>frzN L0 L r
 | .arr _ _ _::r=>frzN L0 L r
 | .itr _::r=>frzN L0 L r
def frzK (ids:List Nat) (L:SLS tb) (k:SLS tb->Option ρ):Option ρ:=match ids with
 | []=>k L
 | i::r=>got (frzs 1000 (i::r) L) k
theorem frzK_ok (cx:Ctx P tb) {gs ids} {L:SLS tb} {k:SLS tb->Option ρ} {r} (h:frzK ids L k=some r):∃ L',k L'=some r/\Gho gs L L':=by
 unfold frzK at h
 split at h
 ·exact ⟨L,h,.refl L⟩
 ·obtain ⟨L1,h1,h⟩:=got_e h
  exact ⟨L1,h,(frzs_ok cx h1).g⟩
def preJ (L0:SLS tb) (vs:List (JV tb)) (L:SLS tb) (k:SLS tb->Option ρ):Option ρ:=
 cutsJ [] vs L fun L1=>frzK (frzN L0 L1 vs) L1 k
theorem preJ_ok (cx:Ctx P tb) {L0:SLS tb} {vs:List (JV tb)} {L:SLS tb} {k:SLS tb->Option ρ} {r} (h:preJ L0 vs L k=some r):∃ L',k L'=some r/\Gho [] L L':=by
 obtain ⟨L1,h1,g1⟩:=cutsJ_ok cx (show cutsJ [] vs L _=some r from h)
 obtain ⟨L2,h2,g2⟩:=frzK_ok cx h1
 exact ⟨L2,h2,g1.trans g2⟩
end
end
section
open Go.RowKit
variable [GlC]
def If {ρ:Type} (t:Bool) (a b:Option ρ):Option ρ:=if t=true then a else b
def runeAt (s:List UInt8) (p:Nat):Int:=(Utf8.decode ⟨s.toArray⟩ p).1
def runeW (s:List UInt8) (p:Nat):Nat:=(Utf8.decode ⟨s.toArray⟩ p).2
def inStr (s:List UInt8) (p:Nat):Bool:=decide (p<s.length)
section
variable {P:Program} {tb:Tb} {ρ:Type} {cx:Ctx P tb}
theorem run_equalIn_nilslice {P:Program} {t E:TypeId} (ht:P.underlying t=some (.slice E)) (d:Nat) (ad:Option Addr) (n c:Nat) (w:World):(Op.equalIn (d+1) t (.slice ad n c) (.slice none 0 0)).run P w=.ok ad.isNone w:=by
 cases ad <;> simp [Op.equalIn,run_underlying_of ht]
theorem run_eql_slice {P:Program} (t:TypeId) (ad:Option Addr) (n c:Nat) (w:World):(binOp .eql t (.slice ad n c) (.slice none 0 0)).run P w=((Op.equalIn 10000 t (.slice ad n c) (.slice none 0 0)).run P w).andThen fun b w'=>.ok (.bool b) w':=by
 simp only [binOp]
 simp [Op.equal,Op.maxDepth]
theorem run_neq_slice {P:Program} (t:TypeId) (ad:Option Addr) (n c:Nat) (w:World):(binOp .neq t (.slice ad n c) (.slice none 0 0)).run P w=((Op.equalIn 10000 t (.slice ad n c) (.slice none 0 0)).run P w).andThen fun b w'=>.ok (.bool (!b)) w':=by
 simp only [binOp]
 simp [Op.equal,Op.maxDepth]
theorem run_eqGuard_slice {P:Program} (op:BinOp) (t:TypeId) (x y:Operand) (ad:Option Addr) (n c:Nat) (v:Value) (w:World):(eqGuard op t x y (.slice ad n c) v).run P w=.ok () w:=by
 cases op <;> simp [eqGuard]
def SlQ (x:AV) (L:LS) (p:Prop):Prop:=∀ {N W0 m0 sa m bl a w},Sim N W0 m0 L sa a w m bl->∀ v,Rep m bl x v->∃ ad n c,v=.slice ad n c/\(ad=none->p)
theorem AEx.nilq {L:LS} {o:Oper} {d:Nat} {t yt E:TypeId} {y:Operand} {x p} (neg:Bool)
 (ho:o.op=.binOp (if neg then .neq else .eql) t y (.const (.slice none 0 0)) yt) (ht:P.underlying t=some (.slice E)) (hy:OpdOk L.e y x) (hx:SlQ x L p) (hd:o.dst=some d):
 AEx P o L fun L'=>∃ b:Bool,(b=true->p)/\L'=⟨(d,.v (.bool (b != neg)))::L.e,L.s,L.h,L.f⟩:=by
 intro N W0 m0 sa m bl a w s hN next Q k
 have h1:=hy.rep (o:=o) (fun t _ y hf=>s.env t y hf) (by simp [ho,Op.operands])
 obtain ⟨ad,n,c,hv,hp⟩:=hx s _ h1
 have hz:a.eval (.const (.slice none 0 0))=.slice none 0 0:=rfl
 have hrun:(execOp a.eval o).run P w=.ok (.value (.bool (ad.isNone != neg))) w:=by
  cases neg with
  | false=>
    have h4:=run_eql_slice (P:=P) t ad n c w
    rw [run_equalIn_nilslice ht 9999 ad n c w] at h4
    simp only [Result.andThen_ok] at h4
    simp [execOp,ho,hv,hz,Sem.run_bind,run_eqGuard_slice,Result.andThen_ok,h4,Sem.run_pure]
  | true=>
    have h4:=run_neq_slice (P:=P) t ad n c w
    rw [run_equalIn_nilslice ht 9999 ad n c w] at h4
    simp only [Result.andThen_ok] at h4
    simp [execOp,ho,hv,hz,Sem.run_bind,run_eqGuard_slice,Result.andThen_ok,h4,Sem.run_pure]
 unfold Oper.wp
 rw [hrun,Oper.upon_value]
 refine k _ _ w m bl ⟨ad.isNone,fun h=>hp (by simpa using h),rfl⟩ ⟨?_,?_,s.below,s.ws,?_,s.stk,s.free⟩
 ·simp [Act.put,hd,s.defers]
 ·simp [Act.put,hd,s.size]
 ·rw [hd];exact EnvRep.put s.env .v (by rw [s.size];exact hN d hd)
def nilC (L:SLS tb) (x:SV tb):Option ((E:tb.Ix) × List (tb.T E)):=match x with
 | .sl _ E l=>some ⟨E,l⟩
 | .em E=>some ⟨E,[]⟩
 | .rw id E=>got (arrAt L id E) fun l=>some ⟨E,l⟩
 | _=>none
theorem nilC_ok (cx:Ctx P tb) {L:SLS tb} {x:SV tb} {p} (h:nilC L x=some p):SlQ x.av L.av (p.2=[]):=by
 unfold nilC at h
 intro N W0 m0 sa m bl a w s v hv
 split at h
 ·rename_i c E l
  cases h
  have hv:Rep m bl (.sl c (tb.sz E) (l.map (tb.el E))) v:=hv
  generalize hq:l.map (tb.el E)=q at hv
  cases hv with
  | slnil=>exact ⟨_,_,_,rfl,fun _=>by simpa using hq⟩
  | sl=>exact ⟨_,_,_,rfl,fun h=>by cases h⟩
 ·cases h
  rename_i E
  have hv:Rep m bl (.sl true (tb.sz E) []) v:=hv
  cases hv with
  | slnil=>exact ⟨_,_,_,rfl,fun _=>rfl⟩
  | sl=>exact ⟨_,_,_,rfl,fun _=>rfl⟩
 ·rename_i id E
  obtain ⟨l,hl,h⟩:=got_e h
  cases h
  have hl:=arrAt_e hl
  have hv:Rep m bl (.rw id (tb.sz E)) v:=hv
  cases hv with
  | rwnil hb=>
    refine ⟨_,_,_,rfl,fun _=>?_⟩
    rcases s.ws.blk id _ hl with ⟨-,g⟩ | ⟨b,n,arr,T,pre,rest,g1,-⟩
    ·show l=[]
     have hfl:=flat_len (l:=l.map (tb.el E)) (sz:=tb.sz E) (by intro x hx;obtain ⟨y,-,rfl⟩:=List.mem_map.1 hx;exact (cx.ok E).len y)
     rw [show ((l.map (tb.el E)).flatMap AV.cells)=[] from g] at hfl
     have hp:=(cx.ok E).pos
     rcases Nat.mul_eq_zero.1 (show (l.map (tb.el E)).length*tb.sz E=0 by rw [<- hfl];rfl) with h | h
     ·simpa using h
     ·omega
    ·rw [hb] at g1;cases g1
  | rw=>exact ⟨_,_,_,rfl,fun h=>by cases h⟩
 ·cases h
def isNilC:Operand->Bool
 | .const (.slice none 0 0)=>true
 | _=>false
theorem isNilC_e {z:Operand} (h:isNilC z=true):z=.const (.slice none 0 0):=by
 unfold isNilC at h
 split at h
 ·rfl
 ·cases h
noncomputable def Alike (c:Prop) (a b:Option ρ):Option ρ:=@Chk ρ (c->a=b) (Classical.propDecidable _) b
theorem Alike_e {c:Prop} {a b:Option ρ} {r} (h:Alike c a b=some r):b=some r/\(c->a=some r):=by
 unfold Alike Chk at h
 split at h
 ·rename_i hc;exact ⟨h,fun x=>(hc x).trans h⟩
 ·cases h
noncomputable def gNil (P:Program) (N:Nat) (L:SLS tb) (gs:List Nat) (o:Oper) (neg:Bool) (t:Nat) (x:SV tb) (k:SLS tb->List Nat->Option ρ):Option ρ:=
 got o.dst fun d=>got (P.underlying t) fun D=>got (isSlD D) fun _=>got (nilC L x) fun p=>tst (Nat.blt d N) <| tst (!memN d gs) <|
 Alike (p.2=[]) (k { L with e:=(d,.con (.bool (true != neg)))::L.e } gs) (k { L with e:=(d,.con (.bool (false != neg)))::L.e } gs)
theorem gNil_ok (cx:Ctx P tb) {N ops} {L:SLS tb} {gs o neg t y yt x} {k:SLS tb->List Nat->Option ρ} {r} (hi:RI gs L.e) (hg:o.guard=none) (ho:o.op=.binOp (if neg then .neq else .eql) t y (.const (.slice none 0 0)) yt) (hx:opd L [] y=some x)
 (h:gNil P N L gs o neg t x k=some r):∀ rest K,(∀ L' gs',k L' gs'=some r->RI gs' L'.e->Ext L L'->GoT P ops N rest K L'.av)->GoT P ops N (o::rest) K L.av:=by
 unfold gNil at h
 obtain ⟨d,hd,h⟩:=got_e h
 obtain ⟨D,hD,h⟩:=got_e h
 obtain ⟨E,hE,h⟩:=got_e h
 rw [isSlD_e hE] at hD
 obtain ⟨p,hp,h⟩:=got_e h
 obtain ⟨hN,h⟩:=tst_e h
 obtain ⟨hm,h⟩:=tst_e h
 have hN:d<N:=Nat.le_of_ble_eq_true hN
 have hm:memN d gs=false:=by simpa using hm
 obtain ⟨h1,h2⟩:=Alike_e h
 intro rest K kk
 refine GoT.act hg (fun d' h'=>by rw [hd] at h';cases h';exact hN) (AEx.nilq neg ho hD (opd_ok (Gu.nil hi.inv) hx) (nilC_ok cx hp) hd) ?_
 rintro L1 ⟨b,hb,rfl⟩
 have hk:k { L with e:=(d,.con (.bool (b != neg)))::L.e } gs=some r:=by
  cases b with
  | true=>exact h2 (hb rfl)
  | false=>exact h1
 exact kk _ _ hk (hi.put hm rfl) ⟨rfl,⟨[_],rfl⟩,⟨[],rfl⟩,Nat.le_refl _,⟨[],rfl⟩⟩
/-! ranges over strings -/
def iterAt (L:SLS tb) (id:Nat):Option (List UInt8 × Nat):=match keepQ L.gn id with
 | true=>(match find id L.h with | some (.iter s p)=>some (s,p) | _=>none)
 | false=>none
theorem iterAt_e {L:SLS tb} {id p} (h:iterAt L id=some p):find id (avH L.gn L.h)=some (.iter ⟨p.1.toArray⟩ p.2):=by
 unfold iterAt at h
 split at h
 ·rename_i hk
  split at h
  ·rename_i s p' hf;cases h
   rw [find_avH,if_pos hk,hf];rfl
  ·cases h
 ·cases h
def gRange (P:Program) (N:Nat) (L:SLS tb) (gs:List Nat) (o:Oper) (t:Nat) (y:Operand) (k:SLS tb->List Nat->Option ρ):Option ρ:=
 got o.dst fun d=>got (P.underlying t) fun D=>tst (isStrD D) <| got (opd L [] y) fun x=>got (asS x) fun s=>putN N gs L d (.ptr L.nx 0) (.iter s 0) fun L'=>k L' gs
theorem gRange_ok {N ops} {L:SLS tb} {gs o t y} {k:SLS tb->List Nat->Option ρ} {r} (hi:RI gs L.e) (hg:o.guard=none) (ho:o.op=.range t y) (h:gRange P N L gs o t y k=some r):
 ∀ rest K,(∀ L' gs',k L' gs'=some r->RI gs' L'.e->Ext L L'->GoT P ops N rest K L'.av)->GoT P ops N (o::rest) K L.av:=by
 unfold gRange at h
 obtain ⟨d,hd,h⟩:=got_e h
 obtain ⟨D,hD,h⟩:=got_e h
 obtain ⟨hs,h⟩:=tst_e h
 rw [isStrD_e hs] at hD
 obtain ⟨x,hx,h⟩:=got_e h
 obtain ⟨s,hs2,h⟩:=got_e h
 have hy:=opd_ok (Gu.nil hi.inv) hx
 rw [asS_e hs2] at hy
 unfold putN at h
 obtain ⟨hno,h⟩:=tst_e h
 obtain ⟨hN,hm,hx2,h⟩:=put_e h
 obtain ⟨hh,h⟩:=putH_e h
 intro rest K kk
 refine GoT.act hg (fun d' h'=>by rw [hd] at h';cases h';exact hN) (AEx.range (nm:=L.nx) hd ho hD hy (Nat.le_refl _)) ?_
 rintro L1 rfl
 have:=kk _ _ h (hi.put hm rfl) ⟨rfl,⟨[_],rfl⟩,⟨[_],rfl⟩,Nat.le_succ _,⟨[],rfl⟩⟩
 refine GoT.tells (Tells.f (f':=fun y=>L.nx+1<=y) ?_) ?_
 ·intro d hd
  exact ⟨show L.nx<=d from Nat.le_trans (Nat.le_succ _) hd,fun e=>by subst e;exact absurd hd (Nat.not_succ_le_self _)⟩
 ·have e1:((⟨(d,.ptr L.nx 0)::L.e,L.s,(L.nx,.iter s 0)::L.h,L.nx+1,L.gn⟩:SLS tb)).av=⟨(d,.ptr L.nx 0)::L.av.e,L.av.s,(L.nx,.iter ⟨s.toArray⟩ 0)::L.av.h,fun y=>L.nx+1<=y⟩:=by
   show (⟨(d,((SV.ptr L.nx 0).res L.gn).av)::avE L.gn L.e,_,avH L.gn ((L.nx,.iter s 0)::L.h),_⟩:LS)=_
   rw [hx2,hh];rfl
  rw [e1] at this
  exact this
def gNext (N:Nat) (L:SLS tb) (gs:List Nat) (o:Oper) (y:Operand) (k:SLS tb->List Nat->Option ρ):Option ρ:=
 got o.dst fun d=>got (opd L [] y) fun x=>match x with
  | .ptr id off=>tst (Nat.beq off 0) <| got (iterAt L id) fun p=>
     If (inStr p.1 p.2) (put N gs L d (.tup [.con (.bool true),.i .i64 (p.2:Int),.i .i32 (runeAt p.1 p.2)]) fun L'=>putH L' id (.iter p.1 (p.2+runeW p.1 p.2)) fun L'=>k L' gs)
      (put N gs L d (.tup [.con (.bool false)]) fun L'=>k L' gs)
  | _=>none
theorem gNext_ok {N ops} {L:SLS tb} {gs o y} {k:SLS tb->List Nat->Option ρ} {r} (hi:RI gs L.e) (hg:o.guard=none) (ho:o.op=.next y true) (h:gNext N L gs o y k=some r):
 ∀ rest K,(∀ L' gs',k L' gs'=some r->RI gs' L'.e->Ext L L'->GoT P ops N rest K L'.av)->GoT P ops N (o::rest) K L.av:=by
 unfold gNext at h
 obtain ⟨d,hd,h⟩:=got_e h
 obtain ⟨x,hx,h⟩:=got_e h
 have hy:=opd_ok (Gu.nil hi.inv) hx
 split at h
 ·rename_i _ id off
  obtain ⟨h0,h⟩:=tst_e h
  have h0:=Nat.eq_of_beq_eq_true h0
  subst h0
  obtain ⟨⟨s,p⟩,hp,h⟩:=got_e h
  have hp:=iterAt_e hp
  have hsz:(ByteArray.mk s.toArray).size=s.length:=by simp [ByteArray.size]
  intro rest K kk
  unfold If at h
  by_cases hin:p<s.length
  ·rw [if_pos (by show inStr s p=true;unfold inStr;exact decide_eq_true hin)] at h
   obtain ⟨hN,hm,hx2,h⟩:=put_e h
   obtain ⟨hh,h⟩:=putH_e h
   refine GoT.act hg (fun d' h'=>by rw [hd] at h';cases h';exact hN) (AEx.next hd ho hy hp rfl) ?_
   rintro L1 (⟨-,rfl⟩ | ⟨g,-⟩)
   ·have:=kk _ _ h (hi.put hm rfl) ⟨rfl,⟨[_],rfl⟩,⟨[_],rfl⟩,Nat.le_refl _,⟨[],rfl⟩⟩
    have e1:((⟨(d,.tup [.con (.bool true),.i .i64 (p:Int),.i .i32 (runeAt s p)])::L.e,L.s,(id,.iter s (p+runeW s p))::L.h,L.nx,L.gn⟩:SLS tb)).av=⟨(d,.tup [.v (.bool true),.v (.int .i64 (p:Int)),.v (.int .i32 (runeAt s p))])::L.av.e,L.av.s,(id,.iter ⟨s.toArray⟩ (p+runeW s p))::L.av.h,L.av.f⟩:=by
     show (⟨(d,((SV.tup _).res L.gn).av)::avE L.gn L.e,_,avH L.gn ((id,.iter s (p+runeW s p))::L.h),_⟩:LS)=_
     rw [hx2,hh];rfl
    rw [e1] at this
    exact this
   ·rw [hsz] at g;exact absurd hin g
  ·rw [if_neg (by show ¬ inStr s p=true;unfold inStr;simpa using hin)] at h
   obtain ⟨hN,hm,hx2,h⟩:=put_e h
   refine GoT.act hg (fun d' h'=>by rw [hd] at h';cases h';exact hN) (AEx.next hd ho hy hp rfl) ?_
   rintro L1 (⟨g,-⟩ | ⟨-,rfl⟩)
   ·rw [hsz] at g;exact absurd g hin
   ·have:=kk _ _ h (hi.put hm rfl) ⟨rfl,⟨[_],rfl⟩,⟨[],rfl⟩,Nat.le_refl _,⟨[],rfl⟩⟩
    have e1:((⟨(d,.tup [.con (.bool false)])::L.e,L.s,L.h,L.nx,L.gn⟩:SLS tb)).av=⟨(d,.tup [.v (.bool false)])::L.av.e,L.av.s,L.av.h,L.av.f⟩:=by
     show (⟨(d,((SV.tup _).res L.gn).av)::avE L.gn L.e,_,_,_⟩:LS)=_
     rw [hx2];rfl
    rw [e1] at this
    exact this
 ·cases h
end
end
section
open Go.RowKit
variable [GlC]
theorem Tells.env {e e':Env} {s h} {f:Nat->Prop} (he:∀ t x,find t e'=some x->x=.undef\/find t e=some x):Tells ⟨e,s,h,f⟩ ⟨e',s,h,f⟩:=
 fun _ _ _ _ _ _ m bl S=>⟨m,bl,S.defers,S.size,S.below,S.ws,fun t x hx=>by
  rcases he t x hx with rfl | h
  ·exact .undef
  ·exact S.env t x h,S.stk,S.free⟩
section
variable {P:Program} {tb:Tb} {ρ:Type} {cx:Ctx P tb}
theorem SLS.av_eq {L L1:SLS tb} (hs:L1.s=L.s) (hg:L1.gn=L.gn):L1.av=⟨L1.av.e,L.av.s,L1.av.h,fun y=>L1.nx<=y⟩:=by
 cases L1;cases L;simp only at hs hg;subst hs hg;rfl
abbrev Iln (P:Program) (tb:Tb) (ρ:Type):=Inl P tb->List (SV tb)->Nat->SLS tb->List Nat->(SLS tb->List Nat->Option ρ)->Option ρ
def InlOk (I:Iln P tb ρ):Prop:=∀ {i:Inl P tb} {xs d} {L:SLS tb} {gs k r},RI gs L.e->memN d gs=false->I i xs d L gs k=some r->
 ∀ {N:Nat} {ops:Array Oper} {rest K o y args tys as caps},o.guard=none->o.op=.call { callee:=.value y,args,argTypes:=tys }->o.dst=some d->d<N->OpdOk L.av.e y (.clo i.fid (avL caps))->OpdsOk L.av.e args.toList (avL as)->xs=as++caps->
 (∀ L' gs',k L' gs'=some r->RI gs' L'.e->Ext L L'->GoT P ops N rest K L'.av)->GoT P ops N (o::rest) K L.av
def noIln:Iln P tb ρ:=fun _ _ _ _ _ _=>none
theorem noIln_ok:InlOk (noIln:Iln P tb ρ):=fun _ _ h=>by cases h
def findInl (f:Nat):List (Inl P tb)->Option (Inl P tb)
 | []=>none
 | c::r=>match Nat.beq c.fid f with | true=>some c | false=>findInl f r
theorem findInl_f {f:Nat}:∀ {l:List (Inl P tb)} {c},findInl f l=some c->c.fid=f
 | [],_,h=>by simp [findInl] at h
 | c::r,c',h=>by
   simp only [findInl] at h
   split at h
   ·rename_i hb;cases h;exact Nat.eq_of_beq_eq_true hb
   ·exact findInl_f h
def lendable (cx:Ctx P tb) (f:Nat):Bool:=match findCon f cx.Γ with
 | some con=>(match con.own with | []=>allFlat cx con.rs | _::_=>false)
 | none=>true
def gLop (cx:Ctx P tb) (im:Nat->Bool) (N:Nat) (ops:Array Oper) (L:SLS tb) (gs:List Nat) (o:Oper) (k:SLS tb->List Nat->Option ρ):Option ρ:=
 lop cx im N ops L gs o fun L' gs' _=>k L' gs'
def gVal (cx:Ctx P tb) (I:Iln P tb ρ) (im:Nat->Bool) (N:Nat) (ops:Array Oper) (L:SLS tb) (gs:List Nat) (o:Oper) (y:Operand) (args:Array Operand) (k:SLS tb->List Nat->Option ρ):Option ρ:=match opd L [] y with
 | some (.fn f caps)=>(match findInl f cx.inl with
   | some i=>got o.dst fun d=>tst (Nat.blt d N) <| tst (!memN d gs) <| got (opdsS L [] args.toList) fun xs=>I i (xs++caps) d L gs k
   | none=>(match lendable cx f with
     | true=>gLop cx im N ops L gs o k
     | false=>got (opdsS L [] args.toList) fun xs=>frzK (nmsL (xs++caps) []) L fun L1=>gLop cx im N ops L1 gs o k))
 | some (.cl _ rs _ _ _ _)=>(match allFlat cx rs with
   | true=>gLop cx im N ops L gs o k
   | false=>got (opdsS L [] args.toList) fun xs=>frzK (nmsL xs []) L fun L1=>gLop cx im N ops L1 gs o k)
 | _=>none
def isEpr:Option (SV tb)->Bool
 | some (.epr _ _ _ _)=>true
 | _=>false
def gSto (cx:Ctx P tb) (im:Nat->Bool) (N:Nat) (ops:Array Oper) (L:SLS tb) (gs:List Nat) (o:Oper) (y z:Operand) (k:SLS tb->List Nat->Option ρ):Option ρ:=match isEpr (opd L [] y) with
 | true=>got (opd L [] z) fun x=>frzK (x.nms []) L fun L1=>gLop cx im N ops L1 gs o k
 | false=>match z with
   | .tmp t=>cutS gs t L fun L1=>gLop cx im N ops L1 gs o k
   | _=>gLop cx im N ops L gs o k
def nmsO (L:SLS tb):List Operand->List Nat
 | []=>[]
 | y::r=>match opd L [] y with
   | some x=>x.nms (nmsO L r)
   | none=>nmsO L r
noncomputable def gopU (cx:Ctx P tb) (I:Iln P tb ρ) (im:Nat->Bool) (N:Nat) (ops:Array Oper) (L:SLS tb) (gs:List Nat) (o:Oper) (k:SLS tb->List Nat->Option ρ):Option ρ:=match o.op with
 | .call c=>(match c.callee with
   | .builtin .append=>(match args2 c with
     | some a=>(match opd L [] a.1 with
       | some (.rw id E)=>gApp cx N L gs o c id E k
       | _=>gLop cx im N ops L gs o k)
     | none=>none)
   | .value y=>gVal cx I im N ops L gs o y c.args k
   | _=>gLop cx im N ops L gs o k)
 | .store _ y z=>gSto cx im N ops L gs o y z k
 | .buildSlice t _ _=>(match plainEl P tb t with
   | true=>frzK (nmsO L o.op.operands.toList) L fun L1=>gLop cx im N ops L1 gs o k
   | false=>gLop cx im N ops L gs o k)
 | .range t y=>gRange P N L gs o t y k
 | .next y true=>gNext N L gs o y k
 | .binOp op t y z _=>(match isNilC z with
   | true=>(match op,opd L [] y with
     | .eql,some x=>(match isNil x with | true=>gLop cx im N ops L gs o k | false=>gNil P N L gs o false t x k)
     | .neq,some x=>(match isNil x with | true=>gLop cx im N ops L gs o k | false=>gNil P N L gs o true t x k)
     | _,_=>none)
   | false=>gLop cx im N ops L gs o k)
 | _=>gLop cx im N ops L gs o k
def isInlC (cx:Ctx P tb) (o:Oper):Bool:=match o.guard,o.op with
 | some _,.call c=>(match c.callee with
   | .value (.func f)=>(match findInl f cx.inl with | some _=>true | none=>false)
   | _=>false)
 | _,_=>false
def anyInl (cx:Ctx P tb):List Oper->Bool
 | []=>false
 | o::r=>match isInlC cx o with | true=>true | false=>anyInl cx r
def _root_.Go.Oper.free (o:Oper):Oper:={ o with guard:=none }
def eqB:Bool->Bool->Bool
 | true,true=>true
 | false,false=>true
 | _,_=>false
theorem eqB_e {a b:Bool}:eqB a b=(a==b):=by cases a <;> cases b <;> rfl
noncomputable def gKn (cx:Ctx P tb) (I:Iln P tb ρ) (im:Nat->Bool) (N:Nat) (ops:Array Oper) (L:SLS tb) (gs:List Nat) (o:Oper) (w b:Bool) (k:SLS tb->List Nat->Option ρ):Option ρ:=match eqB b w with
 | true=>gopU cx I im N ops L gs o.free k
 | false=>match o.dst with
   | some d=>tst (Nat.blt d N) <| tst (!memN d gs) <| k { L with e:=(d,.undef)::L.e } gs
   | none=>k L gs
def setB (L:SLS tb) (s:Nat) (b:Bool):SLS tb:={ L with e:=(s,.con (.bool b))::L.e }
noncomputable def gop (cx:Ctx P tb) (I:Iln P tb ρ) (im:Nat->Bool) (N:Nat) (ops:Array Oper) (L:SLS tb) (gs:List Nat) (o:Oper) (k:SLS tb->List Nat->Option ρ):Option ρ:=match o.guard with
 | some (j,w)=>(match anyInl cx ops.toList with
   | false=>gLop cx im N ops L gs o k
   | true=>got ((ops[j]?).bind (·.dst)) fun s=>got (find s L.e) fun y=>match y with
     | .con (.bool b)=>gKn cx I im N ops L gs o w b k
     | .bo t=>tst (!memN s gs) <| If t (gKn cx I im N ops (setB L s true) gs o w true k) (gKn cx I im N ops (setB L s false) gs o w false k)
     | _=>none)
 | none=>gopU cx I im N ops L gs o k
theorem GoT.want {N:Nat} {ops:Array Oper} {rest:List Oper} {K:LS->Prop} {L:LS} {o:Oper} {j w s} (hg:o.guard=some (j,w)) (hj:(ops[j]?).bind (·.dst)=some s) (hs:find s L.e=some (.v (.bool w))) (k:GoT P ops N (o.free::rest) K L):GoT P ops N (o::rest) K L:=by
 intro W0 m0 sa m bl a w' s' Q hq
 have:=k W0 m0 sa m bl a w' s' Q hq
 simp only [wpList] at this ⊢
 have hw:Region.wanted o (yielded ops a.tmps)=true:=by
  have:=GV.wanted (c:=true) (t:=w) (.inl ⟨hs,rfl⟩) hg hj s'.env
  simpa using this
 rw [if_pos hw]
 rw [if_pos (by simp [Region.wanted,Oper.free])] at this
 exact this
theorem GoT.skip {N:Nat} {ops:Array Oper} {rest:List Oper} {K:LS->Prop} {L:LS} {o:Oper} {j w b s} (hg:o.guard=some (j,w)) (hj:(ops[j]?).bind (·.dst)=some s) (hs:find s L.e=some (.v (.bool b))) (hb:(b==w)=false) (hd:∀ d,o.dst=some d->d<N)
 (k:GoT P ops N rest K (L.put o.dst .undef)):GoT P ops N (o::rest) K L:=by
 intro W0 m0 sa m bl a w' s' Q hq
 simp only [wpList]
 have hw:Region.wanted o (yielded ops a.tmps)=false:=by
  have:=GV.wanted (c:=true) (t:=b) (.inl ⟨hs,rfl⟩) hg hj s'.env
  rw [hb] at this
  simpa using this
 rw [if_neg (by rw [hw];simp)]
 refine k W0 m0 sa m bl _ w' ⟨?_,?_,?_,?_,?_,?_,?_⟩ Q hq
 ·cases hd':o.dst <;> simp [Act.put,s'.defers]
 ·cases hd':o.dst <;> simp [Act.put,s'.size]
 ·exact s'.below
 ·cases hd':o.dst <;> exact s'.ws
 ·cases hd':o.dst with
  | none=>exact s'.env
  | some d=>exact EnvRep.put s'.env .undef (by rw [s'.size];exact hd d hd')
 ·cases hd':o.dst <;> exact s'.stk
 ·cases hd':o.dst <;> exact s'.free
theorem lop_go {im N ops} {L:SLS tb} {gs o} {k:SLS tb->List Nat->Option ρ} {r} (hi:RI gs L.e) (h:lop cx im N ops L gs o (fun L' gs' _=>k L' gs')=some r):
 ∀ rest K,(∀ L' gs',k L' gs'=some r->RI gs' L'.e->Ext L L'->GoT P ops N rest K L'.av)->GoT P ops N (o::rest) K L.av:=by
 intro rest K kk
 obtain ⟨L1,gs1,κ,c,h1,h2,h3,h4,h5,h6,h7,h8,h9,h10,h11,h12,h13,h14⟩:=lop_ok hi h
 have:=kk L1 gs1 h1 h14 ⟨h8,h12,h13,h7,⟨[],h9⟩⟩
 refine h3.text (f':=fun y=>L1.nx<=y) h4 h5 (fun d hd=>(h6 d hd).1) (fun y hy=>⟨Nat.le_trans h7 hy,fun hc=>?_⟩) ?_
 ·have:=(h6 y hc).2
  have:L1.nx<=y:=hy
  omega
 ·have e1:=SLS.av_eq h8 h9
  rw [h10,h11] at e1
  show GoT P ops N rest K ⟨c.we++L.av.e,L.av.s,c.wh++L.av.h,fun y=>L1.nx<=y⟩
  rw [<- e1];exact this
theorem gopU_ok {I:Iln P tb ρ} (hI:InlOk I) {im N ops} {L:SLS tb} {gs o} {k:SLS tb->List Nat->Option ρ} {r} (hi:RI gs L.e) (hg:o.guard=none) (h:gopU cx I im N ops L gs o k=some r):
 ∀ rest K,(∀ L' gs',k L' gs'=some r->RI gs' L'.e->Ext L L'->GoT P ops N rest K L'.av)->GoT P ops N (o::rest) K L.av:=by
 unfold gopU at h
 ·split at h
  ·rename_i c ho
   split at h
   ·rename_i hb
    split at h
    ·rename_i a ha
     split at h
     ·rename_i id E hx
      exact gApp_ok hi hg ho hb ha hx h
     ·exact lop_go hi h
    ·cases h
   ·rename_i y hb
    obtain ⟨ce,ar,ty⟩:=c
    simp only at hb;subst hb
    unfold gVal at h
    have pre:∀ {ids},frzK ids L (fun L1=>gLop cx im N ops L1 gs o k)=some r->∀ rest K,(∀ L' gs',k L' gs'=some r->RI gs' L'.e->Ext L L'->GoT P ops N rest K L'.av)->GoT P ops N (o::rest) K L.av:=by
     intro ids h rest K kk
     obtain ⟨L1,h1,g1⟩:=frzK_ok cx (gs:=gs) h
     exact GoT.tells g1.t (lop_go (g1.i hi) h1 rest K fun L' gs' a b c=>kk L' gs' a b (g1.x.trans c))
    split at h
    ·rename_i f caps hy
     split at h
     ·rename_i i hfi
      obtain ⟨d,hd,h⟩:=got_e h
      obtain ⟨hN,h⟩:=tst_e h
      obtain ⟨hm,h⟩:=tst_e h
      obtain ⟨xs,hxs,h⟩:=got_e h
      intro rest K kk
      exact hI hi (by simpa using hm) h hg ho hd (Nat.le_of_ble_eq_true hN) (by have:=opd_ok (Gu.nil hi.inv) hy;rwa [<- findInl_f hfi] at this) (opdsS_ok (Gu.nil hi.inv) hxs) rfl kk
     ·split at h
      ·exact lop_go hi h
      ·obtain ⟨xs,hxs,h⟩:=got_e h
       exact pre h
    ·split at h
     ·exact lop_go hi h
     ·obtain ⟨xs,hxs,h⟩:=got_e h
      exact pre h
    ·cases h
   ·exact lop_go hi h
  ·rename_i t y z ho
   unfold gSto at h
   split at h
   ·obtain ⟨x,hx,h⟩:=got_e h
    intro rest K kk
    obtain ⟨L1,h1,g1⟩:=frzK_ok cx (gs:=gs) h
    exact GoT.tells g1.t (lop_go (g1.i hi) h1 rest K fun L' gs' a b c=>kk L' gs' a b (g1.x.trans c))
   split at h
   ·rename_i t'
    intro rest K kk
    obtain ⟨L1,h1,g1⟩:=cutS_ok cx h
    exact GoT.tells g1.t (lop_go (g1.i hi) h1 rest K fun L' gs' a b c=>kk L' gs' a b (g1.x.trans c))
   ·exact lop_go hi h
  ·split at h
   ·intro rest K kk
    obtain ⟨L1,h1,g1⟩:=frzK_ok cx (gs:=gs) h
    exact GoT.tells g1.t (lop_go (g1.i hi) h1 rest K fun L' gs' a b c=>kk L' gs' a b (g1.x.trans c))
   ·exact lop_go hi h
  ·rename_i t y ho
   exact gRange_ok hi hg ho h
  ·rename_i y ho
   exact gNext_ok hi hg ho h
  ·rename_i op t y z yt ho
   split at h
   ·rename_i hz
    rw [isNilC_e hz] at ho
    split at h
    ·rename_i x hx
     split at h
     ·exact lop_go hi h
     ·exact gNil_ok (neg:=false) cx hi hg ho hx h
    ·rename_i x hx
     split at h
     ·exact lop_go hi h
     ·exact gNil_ok (neg:=true) cx hi hg ho hx h
    ·cases h
   ·exact lop_go hi h
  ·exact lop_go hi h
theorem gKn_ok {I:Iln P tb ρ} (hI:InlOk I) {im N ops} {L:SLS tb} {gs o j w b s} {k:SLS tb->List Nat->Option ρ} {r} (hi:RI gs L.e) (hg:o.guard=some (j,w)) (hj:(ops[j]?).bind (·.dst)=some s) (hs:find s L.av.e=some (.v (.bool b))) (h:gKn cx I im N ops L gs o w b k=some r):
 ∀ rest K,(∀ L' gs',k L' gs'=some r->RI gs' L'.e->Ext L L'->GoT P ops N rest K L'.av)->GoT P ops N (o::rest) K L.av:=by
 intro rest K kk
 unfold gKn at h
 rw [eqB_e] at h
 split at h
 ·rename_i hb
  have:b=w:=by simpa using hb
  subst this
  exact GoT.want hg hj hs (gopU_ok hI hi rfl h rest K kk)
 ·rename_i hb
  split at h
  ·rename_i d hd
   obtain ⟨hN,h⟩:=tst_e h
   obtain ⟨hm,h⟩:=tst_e h
   have hm:memN d gs=false:=by simpa using hm
   refine GoT.skip hg hj hs hb (fun d' h'=>by rw [hd] at h';cases h';exact Nat.le_of_ble_eq_true hN) ?_
   rw [hd]
   exact kk _ _ h (hi.put hm rfl) ⟨rfl,⟨[_],rfl⟩,⟨[],rfl⟩,Nat.le_refl _,⟨[],rfl⟩⟩
  ·rename_i hd
   refine GoT.skip hg hj hs hb (fun d' h'=>by rw [hd] at h';cases h') ?_
   rw [hd]
   exact kk _ _ h hi (.refl L)
theorem gop_ok {I:Iln P tb ρ} (hI:InlOk I) {im N ops} {L:SLS tb} {gs o} {k:SLS tb->List Nat->Option ρ} {r} (hi:RI gs L.e) (h:gop cx I im N ops L gs o k=some r):
 ∀ rest K,(∀ L' gs',k L' gs'=some r->RI gs' L'.e->Ext L L'->GoT P ops N rest K L'.av)->GoT P ops N (o::rest) K L.av:=by
 unfold gop at h
 split at h
 ·rename_i j w hg
  split at h
  ·exact lop_go hi h
  ·obtain ⟨s,hj,h⟩:=got_e h
   obtain ⟨y,hy,h⟩:=got_e h
   split at h
   ·rename_i b
    exact gKn_ok hI hi hg hj (by show find s (avE L.gn L.e)=_;rw [find_avE,hy];rfl) h
   ·rename_i t
    obtain ⟨hm,h⟩:=tst_e h
    have hm:memN s gs=false:=by simpa using hm
    intro rest K kk
    have go:∀ b,t=b->gKn cx I im N ops (setB L s b) gs o w b k=some r->GoT P ops N (o::rest) K L.av:=by
     intro b hb h
     subst hb
     have tl:Tells L.av (setB L s t).av:=by
      refine Tells.env ?_
      intro t' x hx
      have hx2:find t' ((s,AV.v (.bool t))::avE L.gn L.e)=some x:=hx
      clear hx
      rw [find_cons] at hx2
      refine .inr ?_
      show find t' (avE L.gn L.e)=some x
      split at hx2
      ·rename_i hst
       subst hst
       rw [find_avE,hy];cases hx2;rfl
      ·exact hx2
     refine GoT.tells tl (gKn_ok (L:=setB L s t) hI (hi.put hm rfl) hg hj (by show find s ((s,AV.v (.bool t))::avE L.gn L.e)=_;rw [find_cons,if_pos rfl]) h rest K ?_)
     intro L' gs' h1 h2 h3
     have x1:Ext L (setB L s t):=⟨rfl,⟨[_],rfl⟩,⟨[],rfl⟩,Nat.le_refl _,⟨[],rfl⟩⟩
     exact kk L' gs' h1 h2 (x1.trans h3)
    unfold If at h
    split at h
    ·rename_i ht;exact go true ht h
    ·rename_i ht;exact go false (by simpa using ht) h
   ·cases h
 ·rename_i hg
  exact gopU_ok hI hi hg h
noncomputable def runG (cx:Ctx P tb) (I:Iln P tb ρ) (im:Nat->Bool) (N:Nat) (ops:Array Oper):List Oper->SLS tb->List Nat->(SLS tb->List Nat->Option ρ)->Option ρ
 | [],L,gs,k=>k L gs
 | o::os,L,gs,k=>gop cx I im N ops L gs o fun L' gs'=>runG cx I im N ops os L' gs' k
theorem runG_ok {I:Iln P tb ρ} (hI:InlOk I) {im N ops}:∀ {os:List Oper} {L:SLS tb} {gs} {k:SLS tb->List Nat->Option ρ} {r},RI gs L.e->runG cx I im N ops os L gs k=some r->
 ∀ K,(∀ L' gs',k L' gs'=some r->RI gs' L'.e->Ext L L'->K L'.av)->GoT P ops N os K L.av
 | [],L,gs,k,r,hi,h,K,kk=>GoT.nil (kk L gs h hi (.refl L))
 | o::os,L,gs,k,r,hi,h,K,kk=>by
   refine gop_ok hI hi (show gop cx I im N ops L gs o _=some r from h) os K ?_
   intro L1 gs1 h1 hi1 x1
   exact runG_ok hI hi1 h1 K fun L2 gs2 h2 hi2 x2=>kk L2 gs2 h2 hi2 (x1.trans x2)
def cleanP:SEnv tb->SEnv tb
 | []=>[]
 | (t,.opt _ _)::e=>(t,.undef)::cleanP e
 | _::e=>cleanP e
theorem cleanP_find:∀ {p:SEnv tb} {t x},find t (cleanP p)=some x->x=.undef
 | [],t,x,h=>by simp [cleanP,find] at h
 | (t',y)::p,t,x,h=>by
   cases y with
   | opt G y=>
     simp only [cleanP] at h
     rw [find_cons] at h
     split at h
     ·cases h;rfl
     ·exact cleanP_find h
   | _=>exact cleanP_find (p:=p) h
theorem cleanP_opt:∀ {p:SEnv tb} {t G x},find t p=some (.opt G x)->find t (cleanP p)=some .undef
 | [],t,_,_,h=>by simp [find] at h
 | (t',y)::p,t,G,x,h=>by
   rw [find_cons] at h
   split at h
   ·rename_i ht
    cases h
    simp only [cleanP]
    rw [find_cons,if_pos ht]
   ·rename_i ht
    have ih:=cleanP_opt h
    cases y with
    | opt G y=>simp only [cleanP];rw [find_cons,if_neg ht];exact ih
    | _=>exact ih
def fin (L:SLS tb) (k:SLS tb->Option ρ) (L':SLS tb) (gs:List Nat):Option ρ:=match gs with
 | []=>k L'
 | _::_=>k { L' with e:=cleanP (L'.e.take (L'.e.length - L.e.length))++L'.e }
theorem fin_ok {L L':SLS tb} {gs} {k:SLS tb->Option ρ} {r} (h0:RI [] L.e) (hi:RI gs L'.e) (x:Ext L L') (h:fin L k L' gs=some r):∃ L2,k L2=some r/\RI [] L2.e/\Ext L L2/\Tells L'.av L2.av:=by
 unfold fin at h
 split at h
 ·exact ⟨L',h,hi,x,.refl _⟩
 ·obtain ⟨p,hp⟩:=x.e
  have htk:L'.e.take (L'.e.length - L.e.length)=p:=by
   rw [hp,List.length_append,Nat.add_sub_cancel,List.take_left]
  rw [htk] at h
  refine ⟨_,h,?_,x.trans ⟨rfl,⟨_,rfl⟩,⟨[],rfl⟩,Nat.le_refl _,⟨[],rfl⟩⟩,?_⟩
  ·intro t G y hf
   exfalso
   cases hc:find t (cleanP p) with
   | some z=>
     rw [find_append_some hc] at hf
     have:=cleanP_find hc
     subst this;cases hf
   | none=>
     rw [find_append_none hc,hp] at hf
     cases hq:find t p with
     | some z=>
       rw [find_append_some hq] at hf
       cases hf
       rw [cleanP_opt hq] at hc;cases hc
     | none=>
       rw [find_append_none hq] at hf
       obtain ⟨-,h2,h3⟩:=h0 t G y hf
       cases G with
       | nil=>exact h2 rfl
       | cons g G=>have:=h3 g (by simp);simp at this
  ·refine Tells.env ?_
   intro t y hf
   show y=.undef\/find t (avE L'.gn L'.e)=some y
   have hf:find t (avE L'.gn (cleanP p++L'.e))=some y:=hf
   rw [find_avE] at hf ⊢
   cases hc:find t (cleanP p) with
   | some z=>
     rw [find_append_some hc] at hf
     have:=cleanP_find hc
     subst this
     cases hf;exact .inl rfl
   | none=>
     rw [find_append_none hc] at hf
     exact .inr hf
def opsO:List Oper->List Operand
 | []=>[]
 | o::r=>o.op.operands.toList++opsO r
def nmsR (L:SLS tb):List Operand->List Nat
 | []=>[]
 | y::r=>match opd L [] y with
   | some (.ptr id _)=>(match find id L.h with | some (.cells cl)=>nmsL (resL L.gn cl) (nmsR L r) | _=>nmsR L r)
   | some x=>x.nms (nmsR L r)
   | none=>nmsR L r
noncomputable def runD (cx:Ctx P tb) (I:Iln P tb ρ) (im:Nat->Bool) (N:Nat) (n0:Nat) (ops:Array Oper) (L:SLS tb) (k:SLS tb->Option ρ):Option ρ:=
 runL cx im N ops (ops.toList.take n0) L [] [] fun L1 gs ks=>tst (locOkK [] [] 0 (ops.toList.take n0) ks.reverse) <| tst (nodupB (kNames ks.reverse)) <| tst (barOk ops (ops.toList.take n0).length) <| runG cx I im N ops (ops.toList.drop n0) L1 gs (fin L k)
theorem runD_ok {I:Iln P tb ρ} (hI:InlOk I) {im N n0 ops id} {L:SLS tb} {k:SLS tb->Option ρ} {r} {Q:AExit->LS->Prop} (hi:RI [] L.e) (h:runD cx I im N n0 ops L k=some r) (kk:∀ L',k L'=some r->RI [] L'.e->Ext L L'->∀ L0,Tells L0 L'.av->Q .normal L0):
 Wp P N (.region id ops true) Q L.av:=by
 unfold runD at h
 obtain ⟨L1,gs1,ks,cs,h1,hi1,hks,htr,hnm,x1,hgn⟩:=runL_ok hi h
 rw [List.append_nil,List.reverse_reverse] at h1
 obtain ⟨c1,h1⟩:=tst_e h1
 obtain ⟨c2,h1⟩:=tst_e h1
 obtain ⟨c3,h1⟩:=tst_e h1
 have hav:=SLS.av_eq x1.s hgn
 refine Wp.draw2 (A:=ops.toList.take n0) (B:=ops.toList.drop n0) (cs:=cs) (f:=fun y=>L.nx<=y) (f':=fun y=>L1.nx<=y) (st:=L.av.s) cx.mixed (List.take_append_drop _ _).symm c3 htr ?_ ?_ (fun d hd=>(hnm d hd).1) ?_ ?_
 ·exact locOkK_e (ec:=[]) (er:=[]) .nil hks c1
 ·rw [hks.names];exact c2
 ·intro y hy
  refine ⟨Nat.le_trans x1.nx hy,fun hc=>?_⟩
  have:=(hnm y hc).2
  have:L1.nx<=y:=hy
  omega
 ·rw [<- hav]
  refine runG_ok hI hi1 h1 _ ?_
  intro L2 gs2 h2 hi2 x2
  obtain ⟨L3,h3,hi3,x3,ht⟩:=fin_ok hi hi2 (x1.trans x2) h2
  exact kk L3 h3 hi3 x3 _ ht
noncomputable def runR (cx:Ctx P tb) (I:Iln P tb ρ) (im:Nat->Bool) (N:Nat) (draw:Bool) (n0:Nat) (ops:Array Oper) (L:SLS tb) (k:SLS tb->Option ρ):Option ρ:=match draw with
 | false=>(match Nat.ble 1000000 n0 with
   | true=>frzK (nmsR L (opsO ops.toList)) L fun L1=>runG cx I im N ops ops.toList L1 [] (fin L1 k)
   | false=>runG cx I im N ops ops.toList L [] (fin L k))
 | true=>(match Nat.ble 1000000 n0 with
   | true=>frzK (nmsR L (opsO ops.toList)) L fun L1=>runD cx I im N (n0 - 1000000) ops L1 k
   | false=>runD cx I im N n0 ops L k)
theorem runR_ok {I:Iln P tb ρ} (hI:InlOk I) {im N draw n0 ops id} {L:SLS tb} {k:SLS tb->Option ρ} {r} {Q:AExit->LS->Prop} (hi:RI [] L.e) (h:runR cx I im N draw n0 ops L k=some r) (kk:∀ L',k L'=some r->RI [] L'.e->Ext L L'->∀ L0,Tells L0 L'.av->Q .normal L0):
 Wp P N (.region id ops draw) Q L.av:=by
 unfold runR at h
 split at h
 ·split at h
  ·obtain ⟨L9,h,g9⟩:=frzK_ok cx (gs:=[]) h
   refine Wp.tells g9.t ?_
   refine Wp.region (runG_ok hI (g9.i hi) h _ ?_)
   intro L1 gs1 h1 hi1 x1
   obtain ⟨L2,h2,hi2,x2,ht⟩:=fin_ok (g9.i hi) hi1 x1 h1
   exact kk L2 h2 hi2 (g9.x.trans x2) _ ht
  refine Wp.region (runG_ok hI hi h _ ?_)
  intro L1 gs1 h1 hi1 x1
  obtain ⟨L2,h2,hi2,x2,ht⟩:=fin_ok hi hi1 x1 h1
  exact kk L2 h2 hi2 x2 _ ht
 ·split at h
  ·obtain ⟨L1,h1,g1⟩:=frzK_ok cx (gs:=[]) h
   exact Wp.tells g1.t (runD_ok hI (g1.i hi) h1 fun L' h2 i2 x2 L0 ht=>kk L' h2 i2 (g1.x.trans x2) L0 ht)
  ·exact runD_ok hI hi h kk
end
end
section
open Go.RowKit
variable [GlC]
section
variable {P:Program} {tb:Tb} {ρ:Type} {cx:Ctx P tb}
def JV.T:JV tb->Type
 | .val _ i _=>tb.T i
 | .blk _ i _=>tb.T i
 | .arr _ _ i=>List (tb.T i)
 | .itr _=>List UInt8 × Nat
def VT:List (JV tb)->Type
 | []=>Unit
 | [v]=>v.T
 | v::w::r=>v.T × VT (w::r)
def vh:(v:JV tb)->(r:List (JV tb))->VT (v::r)->v.T
 | _,[],x=>x
 | _,_::_,x=>x.1
def vt:(v:JV tb)->(r:List (JV tb))->VT (v::r)->VT r
 | _,[],_=>()
 | _,_::_,x=>x.2
def vc:(v:JV tb)->(r:List (JV tb))->v.T->VT r->VT (v::r)
 | _,[],x,_=>x
 | _,_::_,x,y=>(x,y)
theorem vh_vc {v:JV tb} {r x y}:vh v r (vc v r x y)=x:=by cases r <;> rfl
theorem vt_vc {v:JV tb} {r x y}:vt v r (vc v r x y)=y:=by cases r <;> rfl
def ownU (L:SLS tb) (own:List Nat):Nat->List (SV tb)->Option (List (SV tb) × List (Option Nat))
 | _,[]=>some ([],[])
 | j,x::l=>got (ownU L own (j+1) l) fun p=>match own.contains j with
   | true=>(match x with
     | .rw id E=>got (arrAt L id E) fun xs=>some (.sl false E xs::p.1,some id::p.2)
     | x=>tst x.em0 (some (x::p.1,none::p.2)))
   | false=>tst (x.has fun _=>false) (some (x::p.1,p.2))
def Seg (q r:Nat->Option Nat) (nils:Nat->Bool) (k:Nat) (ns:List (Option Nat)):Prop:=
 ∀ j,(∀ id,ns[j]? = some (some id)->q id=some (k+j)/\r (k+j)=some id)/\(ns[j]? = some none->nils (k+j)=true/\r (k+j)=none)
theorem Seg.tail {q r nils k n ns} (h:Seg q r nils k (n::ns)):Seg q r nils (k+1) ns:=by
 intro j
 have:=h (j+1)
 rw [show k+1+j=k+(j+1) by omega]
 simpa using this
theorem Seg.append {q r nils k}:∀ {a b:List (Option Nat)},Seg q r nils k (a++b)->Seg q r nils k a/\Seg q r nils (k+a.length) b:=by
 intro a b h
 constructor
 ·intro j
  have:=h j
  rcases Nat.lt_or_ge j a.length with hlt | hge
  ·rw [List.getElem?_append_left hlt] at this;exact this
  ·rw [List.getElem?_eq_none hge];exact ⟨by simp,by simp⟩
 ·intro j
  have:=h (a.length+j)
  rw [List.getElem?_append_right (by omega),Nat.add_sub_cancel_left] at this
  rw [Nat.add_assoc];exact this
def GoodH (L:SLS tb) (q r:Nat->Option Nat) (nils:Nat->Bool) (p:Nat × SC tb):Prop:=
 (r p.1=none/\nils p.1=true/\p.2.av=.cells [])\/∃ id0 b0,r p.1=some id0/\find id0 (avH L.gn L.h)=some b0/\SubB q nils b0 p.2.av
theorem SubN.em {nils:Nat->Bool} {x:SV tb} {k sz} (h:x.em0=true) (hn:nils k=true):SubN nils x.av (.rw k sz):=by
 unfold SV.em0 at h
 split at h
 ·intro m bl v hnn r
  cases r with
  | slnil=>exact .rwnil (hnn k hn)
  | sl g1 g2 g3 g4 g5 g6 g7=>
    have:=g7 rfl
    subst this
    exact .rwnil (hnn k hn)
 ·exact SubN.nilrw hn
 ·cases h
theorem em0_bare {x:SV tb} (h:x.em0=true):x.av.isBare=true:=by
 unfold SV.em0 at h
 split at h
 ·rfl
 ·rfl
 ·cases h
theorem ownU_ok (cx:Ctx P tb) {L:SLS tb} {own q r nils}:∀ {l:List (SV tb)} {j k p cs},ownU L own j l=some p->(∀ (i:Nat) y,p.1[i]? = some y->∃ z,cs[i]? = some z/\SlCell y z)->cs.length=p.1.length->Seg q r nils k p.2->
 SubLN nils (reL q (avL l)) (avL (ownS own j k cs).1)/\(∀ b∈(ownS own j k cs).2,GoodH L q r nils b)/\(ownS own j k cs).2.length=p.2.length
 | [],j,k,p,cs,h,hs,hl,hseg=>by
   cases h
   have:cs=[]:=List.eq_nil_of_length_eq_zero (by simpa using hl)
   subst this
   exact ⟨(SubL.refl []).n,by simp [ownS],rfl⟩
 | x :: l, j,k,p,cs,h,hs,hl,hseg=>by
   obtain ⟨p1,hp1,h⟩:=got_e (show got (ownU L own (j+1) l) _=some p from h)
   cases cs with
   | nil=>
     exfalso
     split at h
     ·split at h
      ·obtain ⟨xs,-,h⟩:=got_e h;cases h;simp at hl
      ·obtain ⟨-,h⟩:=tst_e h;cases h;simp at hl
     ·obtain ⟨-,h⟩:=tst_e h;cases h;simp at hl
   | cons z cs=>
     have step:∀ y ns,p=(y::p1.1,ns++p1.2)->(∀ k',Seg q r nils k (ns++p1.2)->k'=k+ns.length->Seg q r nils k' p1.2)->SlCell y z/\∀ k',Seg q r nils k' p1.2->SubLN nils (reL q (avL l)) (avL (ownS own (j+1) k' cs).1)/\(∀ b∈(ownS own (j+1) k' cs).2,GoodH L q r nils b)/\(ownS own (j+1) k' cs).2.length=p1.2.length:=by
      intro y ns hp _
      subst hp
      obtain ⟨z',hz1,hz2⟩:=hs 0 y rfl
      simp at hz1;subst hz1
      refine ⟨hz2,fun k' hk'=>?_⟩
      exact ownU_ok cx hp1 (fun i y' hy'=>by simpa using hs (i+1) y' (by simpa using hy')) (by simpa using hl) hk'
     rw [ownS_cons]
     split at h
     ·rename_i hc
      rw [hc]
      split at h
      ·rename_i id E hx0
       obtain ⟨xs,hxs,h⟩:=got_e h
       cases h
       obtain ⟨hz,hrest⟩:=step (.sl false E xs) [some id] rfl (fun k' hk hk'=>by subst hk';exact (Seg.append hk).2)
       have hz1:=hz.sl _ _ _ rfl
       subst hz1
       obtain ⟨h1,h2,h3⟩:=hrest (k+1) hseg.tail
       obtain ⟨hq,hr⟩:=(hseg 0).1 id rfl
       rw [Nat.add_zero] at hq hr
       refine ⟨?_,?_,by simp [h3]⟩
       ·refine SubLN.cons ?_ h1
        show SubN nils ((AV.rw id (tb.sz E)).re q) (.rw k (tb.sz E))
        simp only [AV.re];rw [hq];exact (Sub.refl _).n
       ·intro b hb
        rcases List.mem_cons.1 hb with rfl | hb
        ·refine .inr ⟨id,_,hr,arrAt_e hxs,?_⟩
         show SubLN nils (reL q (elC tb E xs)) (elC tb E xs)
         rw [bareL_of (show allBare (elC tb E xs)=true from el_bare cx xs)]
         exact (SubL.refl _).n
        ·exact h2 b hb
      ·rename_i hx0
       obtain ⟨hem,h⟩:=tst_e h
       cases h
       obtain ⟨hz,hrest⟩:=step x [none] rfl (fun k' hk hk'=>by subst hk';exact (Seg.append hk).2)
       obtain ⟨E,hz1⟩:=hz.em hem
       subst hz1
       obtain ⟨h1,h2,h3⟩:=hrest (k+1) hseg.tail
       obtain ⟨hn,hr⟩:=(hseg 0).2 rfl
       rw [Nat.add_zero] at hn hr
       refine ⟨?_,?_,by simp [h3]⟩
       ·refine SubLN.cons ?_ h1
        show SubN nils (x.av.re q) (.rw k (tb.sz E))
        rw [bare_of (em0_bare hem)]
        exact SubN.em hem hn
       ·intro b hb
        rcases List.mem_cons.1 hb with rfl | hb
        ·exact .inl ⟨hr,hn,rfl⟩
        ·exact h2 b hb
     ·rename_i hc
      obtain ⟨hbx,h⟩:=tst_e h
      cases h
      have hc':own.contains j=false:=by simpa using hc
      obtain ⟨hz,hrest⟩:=step x [] rfl (fun k' hk hk'=>by subst hk';exact (Seg.append hk).2)
      obtain ⟨h1,h2,h3⟩:=hrest k hseg
      rw [hc']
      refine ⟨SubLN.cons ?_ h1,h2,h3⟩
      rw [bare_of (has_bare hbx)]
      exact hz.sub.n
def blkId (L:SLS tb) (t:Nat):Option Nat:=match find t L.e with
 | some (.ptr id off)=>tst (Nat.beq off 0) (some id)
 | _=>none
def arrId (L:SLS tb) (t:Nat) (c:Option Nat):Option Nat:=match find t L.e with
 | some (.ptr id _)=>(match c with
   | none=>some id
   | some off=>match find id L.h with
     | some (.cells l)=>(match l[off]? with | some (.rw id2 _)=>some id2 | _=>none)
     | _=>none)
 | some (.rw id _)=>some id
 | _=>none
def unV (cx:Ctx P tb) (L0 L1:SLS tb):(v:JV tb)->Option (v.T × List (Option Nat))
 | .val t i own=>got (find t L1.e) fun x=>(match own with
   | []=>got ((cx.cd i).of (x.res L1.gn)) fun a=>tst ((x.res L1.gn).has fun _=>false) (some (a,[]))
   | _::_=>got (ownU L1 own 0 (cellsS (x.res L1.gn))) fun p=>got ((cx.cd i).ofC p.1) fun a=>tst (solidS (x.res L1.gn)) <| tst (agOk (cx.cd i) (x.res L1.gn)) <| some (a,p.2))
 | .blk t i own=>got (blkId L0 t) fun id=>got (cellsAt L1 id) fun l=>got (ownU L1 own 0 l) fun p=>got ((cx.cd i).ofC p.1) fun a=>some (a,p.2)
 | .arr t c i=>got (arrId L0 t c) fun id=>got (arrAt L1 id i) fun l=>some (l,[])
 | .itr t=>got (blkId L0 t) fun id=>got (iterAt L1 id) fun p=>some (p,[])
where agOk {i:tb.Ix} (c:Cd tb i) (x:SV tb):Bool:=match c.ag,x with
 | true,.agg _=>true
 | false,.agg _=>false
 | false,_=>true
 | true,_=>false
def mkV (cx:Ctx P tb) (L0:SLS tb):(v:JV tb)->v.T->Nat->SEnv tb × SHp tb
 | .val t i own,a,k=>(match own with
   | []=>([(t,(cx.cd i).sv a)],[])
   | _::_=>([(t,wrapS (cx.cd i) (ownS own 0 k ((cx.cd i).cs a)).1)],(ownS own 0 k ((cx.cd i).cs a)).2))
 | .blk t i own,a,k=>(match blkId L0 t with
   | some id=>([],(id,.cells (ownS own 0 k ((cx.cd i).cs a)).1)::(ownS own 0 k ((cx.cd i).cs a)).2)
   | none=>([],[]))
 | .arr t c i,a,_=>(match arrId L0 t c with
   | some id=>([],[(id,.arr i a)])
   | none=>([],[]))
 | .itr t,a,_=>(match blkId L0 t with
   | some id=>([],[(id,.iter a.1 a.2)])
   | none=>([],[]))
def GoodE (L:SLS tb) (q:Nat->Option Nat) (nils:Nat->Bool) (p:Nat × SV tb):Prop:=∃ y,find p.1 (avE L.gn L.e)=some y/\SubN nils (y.re q) p.2.av
def nOwn:JV tb->Nat
 | .val _ _ own=>own.length
 | .blk _ _ own=>own.length
 | .arr _ _ _=>0
 | .itr _=>0
theorem ofC_cs {i:tb.Ix} {l:List (SV tb)} {a} (h:(cx.cd i).ofC l=some a):(∀ (j:Nat) y,l[j]? = some y->∃ z,((cx.cd i).cs a)[j]? = some z/\SlCell y z)/\((cx.cd i).cs a).length=l.length:=
 ⟨(cx.ok i).slC _ _ h,by rw [cs_length cx,((cx.ok i).ofC _ _ h).2]⟩
def JV.bid (L0:SLS tb):JV tb->Option Nat
 | .val _ _ _=>none
 | .blk t _ _=>blkId L0 t
 | .arr t c _=>arrId L0 t c
 | .itr t=>blkId L0 t
theorem SubLN.one {nils x y} (h:SubLN nils [x] [y]):SubN nils x y:=by
 intro m bl v hn r
 have:=h m bl [v] hn (.cons r .nil)
 cases this with | cons a b=>exact a
theorem unV_ok {L0 L1:SLS tb} {q r nils k}:∀ {v:JV tb} {a ns},unV cx L0 L1 v=some (a,ns)->Seg q r nils k ns->(∀ id,v.bid L0=some id->r id=some id)->
 (∀ p∈(mkV cx L0 v a k).1,GoodE L1 q nils p)/\(∀ p∈(mkV cx L0 v a k).2,GoodH L1 q r nils p)
 | .val t i [],a,ns,h,hseg,_=>by
   obtain ⟨x,hx,h⟩:=got_e (show got (find t L1.e) _=some (a,ns) from h)
   obtain ⟨a',ha,h⟩:=got_e h
   obtain ⟨hb,h⟩:=tst_e h
   cases h
   refine ⟨?_,by simp [mkV]⟩
   intro p hp
   simp only [mkV,List.mem_singleton] at hp
   subst hp
   refine ⟨_,by show find t (avE L1.gn L1.e)=_;rw [find_avE,hx];rfl,?_⟩
   show SubN nils ((x.res L1.gn).av.re q) ((cx.cd i).sv a).av
   rw [bare_of (has_bare hb)]
   have hs:=(cx.ok i).of _ _ ha
   have e1:((cx.cd i).sv a).av=tb.el i a:=(cx.ok i).sv a
   rw [e1];exact hs.n
 | .val t i (o::own),a,ns,h,hseg,_=>by
   obtain ⟨x,hx,h⟩:=got_e (show got (find t L1.e) _=some (a,ns) from h)
   obtain ⟨p,hp,h⟩:=got_e h
   obtain ⟨a',ha,h⟩:=got_e h
   obtain ⟨hs,h⟩:=tst_e h
   obtain ⟨hag,h⟩:=tst_e h
   cases h
   obtain ⟨c1,c2⟩:=ofC_cs ha
   obtain ⟨h1,h2,h3⟩:=ownU_ok cx (q:=q) (r:=r) (nils:=nils) (k:=k) hp c1 c2 hseg
   refine ⟨?_,h2⟩
   intro b hb
   simp only [mkV,List.mem_singleton] at hb
   subst hb
   refine ⟨_,by show find t (avE L1.gn L1.e)=_;rw [find_avE,hx];rfl,?_⟩
   show SubN nils ((x.res L1.gn).av.re q) (wrapS (cx.cd i) (ownS (o::own) 0 k ((cx.cd i).cs a)).1).av
   generalize x.res L1.gn=x' at hp hs hag h1
   have key:∀ (u:List (SV tb)),SubLN nils (reL q (avL (cellsS x'))) (avL u)->u.length=((cx.cd i).cs a).length->SubN nils (x'.av.re q) (wrapS (cx.cd i) u).av:=by
    intro u hu hlen
    unfold wrapS
    cases hca:(cx.cd i).ag with
    | true=>
      rw [if_pos rfl]
      unfold unV.agOk at hag
      rw [hca] at hag
      cases x' with
      | agg l=>exact SubN.agg hu
      | _=>cases hag
    | false=>
      rw [if_neg (by simp)]
      unfold unV.agOk at hag
      rw [hca] at hag
      have hlen1:u.length=1:=by
       rw [hlen]
       rcases (cx.ok i).ag a with ⟨h,-,-⟩ | ⟨-,-,h⟩
       ·rw [hca] at h;cases h
       ·rw [h];rfl
      cases u with
      | nil=>simp at hlen1
      | cons z u=>
        cases u with
        | cons=>simp at hlen1
        | nil=>
          have e1:cellsS x'=[x']:=by cases x' <;> first | rfl | cases hag
          rw [e1] at hu
          exact hu.one
   exact key _ h1 ownS_len
 | .blk t i own,a,ns,h,hseg,hb=>by
   obtain ⟨id,hid,h⟩:=got_e (show got (blkId L0 t) _=some (a,ns) from h)
   obtain ⟨l,hl,h⟩:=got_e h
   obtain ⟨p,hp,h⟩:=got_e h
   obtain ⟨a',ha,h⟩:=got_e h
   cases h
   obtain ⟨c1,c2⟩:=ofC_cs ha
   obtain ⟨h1,h2,h3⟩:=ownU_ok cx (q:=q) (r:=r) (nils:=nils) (k:=k) hp c1 c2 hseg
   have hl:=cellsAt_e hl
   have hr:=hb id hid
   simp only [mkV]
   rw [hid]
   refine ⟨by simp,?_⟩
   intro b hbm
   rcases List.mem_cons.1 hbm with rfl | hbm
   ·exact .inr ⟨id,_,hr,hl,h1⟩
   ·exact h2 b hbm
 | .arr t c i,a,ns,h,hseg,hb=>by
   obtain ⟨id,hid,h⟩:=got_e (show got (arrId L0 t c) _=some (a,ns) from h)
   obtain ⟨l,hl,h⟩:=got_e h
   cases h
   have hl:=arrAt_e hl
   have hr:=hb id hid
   simp only [mkV]
   rw [hid]
   refine ⟨by simp,?_⟩
   intro b hbm
   rw [List.mem_singleton] at hbm
   subst hbm
   refine .inr ⟨id,_,hr,hl,?_⟩
   show SubLN nils (reL q (elC tb i a)) (elC tb i a)
   rw [bareL_of (show allBare (elC tb i a)=true from el_bare cx a)]
   exact (SubL.refl _).n
 | .itr t,a,ns,h,hseg,hb=>by
   obtain ⟨id,hid,h⟩:=got_e (show got (blkId L0 t) _=some (a,ns) from h)
   obtain ⟨p,hl,h⟩:=got_e h
   cases h
   have hl:=iterAt_e hl
   have hr:=hb id hid
   simp only [mkV]
   rw [hid]
   refine ⟨by simp,?_⟩
   intro b hbm
   rw [List.mem_singleton] at hbm
   subst hbm
   exact .inr ⟨id,_,hr,hl,⟨rfl,rfl⟩⟩
end
end
section
open Go.RowKit
variable [GlC]
section
variable {P:Program} {tb:Tb} {ρ:Type} {cx:Ctx P tb}
def unVs (cx:Ctx P tb) (L0 L1:SLS tb):(l:List (JV tb))->Option (VT l × List (Option Nat))
 | []=>some ((),[])
 | v::r=>got (unV cx L0 L1 v) fun p=>tst (Nat.beq p.2.length (nOwn v)) <| got (unVs cx L0 L1 r) fun s=>some (vc v r p.1 s.1,p.2++s.2)
def mkVs (cx:Ctx P tb) (L0:SLS tb):(l:List (JV tb))->VT l->Nat->SEnv tb × SHp tb
 | [],_,_=>([],[])
 | v::r,a,k=>((mkV cx L0 v (vh v r a) k).1++(mkVs cx L0 r (vt v r a) (k+nOwn v)).1,(mkV cx L0 v (vh v r a) k).2++(mkVs cx L0 r (vt v r a) (k+nOwn v)).2)
def nOwns:List (JV tb)->Nat
 | []=>0
 | v::r=>nOwn v+nOwns r
theorem unVs_len {L0 L1:SLS tb}:∀ {l:List (JV tb)} {a ns},unVs cx L0 L1 l=some (a,ns)->ns.length=nOwns l
 | [],_,_,h=>by cases h;rfl
 | v::r,a,ns,h=>by
   obtain ⟨p,hp,h⟩:=got_e (show got (unV cx L0 L1 v) _=some (a,ns) from h)
   obtain ⟨hl,h⟩:=tst_e h
   obtain ⟨s,hs,h⟩:=got_e h
   cases h
   rw [List.length_append,Nat.eq_of_beq_eq_true hl,unVs_len hs];rfl
theorem unVs_ok {L0 L1:SLS tb} {q r nils}:∀ {l:List (JV tb)} {a ns k},unVs cx L0 L1 l=some (a,ns)->Seg q r nils k ns->(∀ v∈l,∀ id,v.bid L0=some id->r id=some id)->
 (∀ p∈(mkVs cx L0 l a k).1,GoodE L1 q nils p)/\(∀ p∈(mkVs cx L0 l a k).2,GoodH L1 q r nils p)
 | [],_,_,_,_,_,_=>⟨by simp [mkVs],by simp [mkVs]⟩
 | v :: rr,a,ns,k,h,hseg,hb=>by
   obtain ⟨p,hp,h⟩:=got_e (show got (unV cx L0 L1 v) _=some (a,ns) from h)
   obtain ⟨hl,h⟩:=tst_e h
   obtain ⟨s,hs,h⟩:=got_e h
   cases h
   obtain ⟨s1,s2⟩:=Seg.append hseg
   rw [Nat.eq_of_beq_eq_true hl] at s2
   obtain ⟨g1,g2⟩:=unV_ok (v:=v) (a:=p.1) (ns:=p.2) hp s1 (fun id hid=>hb v (by simp) id hid)
   obtain ⟨g3,g4⟩:=unVs_ok (a:=s.1) (ns:=s.2) hs s2 (fun v hv=>hb v (List.mem_cons_of_mem _ hv))
   simp only [mkVs,vh_vc,vt_vc]
   refine ⟨fun p hp=>?_,fun p hp=>?_⟩
   ·rcases List.mem_append.1 hp with hp | hp
    ·exact g1 p hp
    ·exact g3 p hp
   ·rcases List.mem_append.1 hp with hp | hp
    ·exact g2 p hp
    ·exact g4 p hp
def rwNames (own:List Nat):Nat->List (SV tb)->List Nat
 | _,[]=>[]
 | j,x::l=>match own.contains j,x with
   | true,.rw id _=>id::rwNames own (j+1) l
   | _,_=>rwNames own (j+1) l
def drV (L0:SLS tb):List (JV tb)->List Nat
 | []=>[]
 | .val t _ own::r=>(match own with
   | []=>drV L0 r
   | _::_=>(match find t L0.e with | some x=>rwNames own 0 (cellsS x) | none=>[])++drV L0 r)
 | .blk t _ own::r=>(match own with
   | []=>drV L0 r
   | _::_=>(match blkId L0 t with | some id=>(match find id L0.h with | some (.cells l)=>rwNames own 0 l | _=>[]) | none=>[])++drV L0 r)
 | .arr _ _ _::r=>drV L0 r
 | .itr _::r=>drV L0 r
def drX (L0:SLS tb):List Nat->List Nat
 | []=>[]
 | t::r=>match find t L0.e with
   | some (.ptr id _)=>id::drX L0 r
   | some (.rw id _)=>id::drX L0 r
   | _=>drX L0 r
def drN (L0:SLS tb) (A:JA tb):List Nat:=drV L0 A.vars++drX L0 A.xdr
def undefs:List Nat->SEnv tb
 | []=>[]
 | t::r=>(t,.undef)::undefs r
def drops:List Nat->Gn tb
 | []=>[]
 | t::r=>(t,.drop)::drops r
def stJ (cx:Ctx P tb) (L0:SLS tb) (asg:List Nat) (A:JA tb) (v:VT A.vars):SLS tb:=
 { e:=(mkVs cx L0 A.vars v L0.nx).1++(undefs asg++L0.e),s:=L0.s,h:=(mkVs cx L0 A.vars v L0.nx).2++L0.h,nx:=L0.nx+nOwns A.vars,gn:=drops (drN L0 A)++L0.gn }
def keysIn {α:Type} (f:Nat->Bool):Nat->List (Nat × α)->Bool
 | 0,_=>true
 | _+1,[]=>true
 | n+1,(k,_)::l=>match f k with | true=>keysIn f n l | false=>false
theorem keysIn_e {α:Type} {f:Nat->Bool}:∀ {p b:List (Nat × α)},keysIn f p.length (p++b)=true->∀ q∈p,f q.1=true
 | [],_,_,q,hq=>by cases hq
 | (k,x)::p,b,h,q,hq=>by
   simp only [List.cons_append,List.length_cons,keysIn] at h
   split at h
   ·rename_i hk
    rcases List.mem_cons.1 hq with rfl | hq
    ·exact hk
    ·exact keysIn_e h q hq
   ·cases h
def someIds:List (Option Nat)->List Nat
 | []=>[]
 | some i::r=>i::someIds r
 | none::r=>someIds r
def allB (f:Nat->Bool):List Nat->Bool
 | []=>true
 | x::l=>match f x with | true=>allB f l | false=>false
theorem allB_e {f:Nat->Bool}:∀ {l:List Nat},allB f l=true->∀ x∈l,f x=true
 | [],_,x,hx=>by cases hx
 | y :: l,h,x,hx=>by
   unfold allB at h
   split at h
   ·rename_i hy
    rcases List.mem_cons.1 hx with rfl | hx
    ·exact hy
    ·exact allB_e h x hx
   ·cases h
def nodupN:List Nat->Bool
 | []=>true
 | x::l=>match memN x l with | true=>false | false=>nodupN l
theorem nodupN_e:∀ {l:List Nat},nodupN l=true->l.Nodup
 | [],_=>.nil
 | x :: l,h=>by
   unfold nodupN at h
   split at h
   ·cases h
   ·rename_i hm
    exact List.nodup_cons.2 ⟨fun hx=>(by rw [memN_e.2 hx] at hm;cases hm),nodupN_e h⟩
def keepE (g:Gn tb):SEnv tb->Bool
 | []=>true
 | (_,x)::l=>match x.has (keepQ g) with | true=>(match notOpt x with | true=>keepE g l | false=>false) | false=>false
theorem keepE_e {g:Gn tb}:∀ {l:SEnv tb},keepE g l=true->∀ p∈l,p.2.has (keepQ g)=true/\notOpt p.2=true
 | [],_,p,hp=>by cases hp
 | (_, x)::l,h,p,hp=>by
   unfold keepE at h
   split at h
   ·rename_i h1
    split at h
    ·rename_i h2
     rcases List.mem_cons.1 hp with rfl | hp
     ·exact ⟨h1,h2⟩
     ·exact keepE_e h p hp
    ·cases h
   ·cases h
def keepH (g:Gn tb):SHp tb->Bool
 | []=>true
 | (_,x)::l=>match x.has (keepQ g) with | true=>keepH g l | false=>false
theorem keepH_e {g:Gn tb}:∀ {l:SHp tb},keepH g l=true->∀ p∈l,p.2.has (keepQ g)=true
 | [],_,p,hp=>by cases hp
 | (_,x)::l,h,p,hp=>by
   unfold keepH at h
   split at h
   ·rename_i h1
    rcases List.mem_cons.1 hp with rfl | hp
    ·exact h1
    ·exact keepH_e h p hp
   ·cases h
def bids (L0:SLS tb):List (JV tb)->List Nat
 | []=>[]
 | v::r=>match v.bid L0 with | some id=>id::bids L0 r | none=>bids L0 r
theorem bids_e {L0:SLS tb}:∀ {l:List (JV tb)} {v id},v∈l->v.bid L0=some id->id∈bids L0 l
 | w :: r,v,id,hv,hid=>by
   rcases List.mem_cons.1 hv with rfl | hv
   ·simp only [bids];rw [hid];simp
   ·simp only [bids]
    have:=bids_e hv hid
    split
    ·exact List.mem_cons_of_mem _ this
    ·exact this
def newOrD (n:Nat) (dr:List Nat) (i:Nat):Bool:=match Nat.ble n i with | true=>true | false=>memN i dr
theorem newOrD_e {n dr i} (h:newOrD n dr i=true):n<=i\/i∈dr:=by
 unfold newOrD at h
 split at h
 ·exact .inl (Nat.le_of_ble_eq_true ‹_›)
 ·exact .inr (memN_e.1 h)
def unJ (cx:Ctx P tb) (L0:SLS tb) (asg:List Nat) (A:JA tb) (L1:SLS tb) (k:VT A.vars->Option ρ):Option ρ:=
 got (unVs cx L0 L1 A.vars) fun p=>
 tst (keysIn (fun t=>memN t asg) (L1.e.length - L0.e.length) L1.e) <|
 tst (keysIn (fun i=>match find i (mkVs cx L0 A.vars p.1 L0.nx).2 with | some _=>true | none=>newOrD L0.nx (drN L0 A) i) (L1.h.length - L0.h.length) L1.h) <|
 tst (keysIn (newOrD L0.nx (drN L0 A)) (L1.gn.length - L0.gn.length) L1.gn) <|
 tst (allB (newOrD L0.nx (drN L0 A)) (someIds p.2)) <| tst (nodupN (someIds p.2)) <|
 tst (allB (fun i=>match ltN L0.nx i with | true=>(match memN i (drN L0 A) with | true=>false | false=>(match memN i (someIds p.2) with | true=>false | false=>true)) | false=>false) (bids L0 A.vars)) <|
 tst (keepE (drops (drN L0 A)++L0.gn) (mkVs cx L0 A.vars p.1 L0.nx).1) <| tst (keepH (drops (drN L0 A)++L0.gn) (mkVs cx L0 A.vars p.1 L0.nx).2) <| k p.1
end
end
section
open Go.RowKit
variable [GlC]
def prs:Nat->List (Option Nat)->List (Nat × Nat)
 | _,[]=>[]
 | k,some id::r=>(id,k)::prs (k+1) r
 | k,none::r=>prs (k+1) r
theorem prs_mem:∀ {ns:List (Option Nat)} {k a b},(a,b)∈prs k ns↔∃ j,ns[j]? = some (some a)/\b=k+j
 | [],k,a,b=>by simp [prs]
 | some id::r,k,a,b=>by
   simp only [prs,List.mem_cons,Prod.mk.injEq,prs_mem (ns:=r)]
   constructor
   ·rintro (⟨rfl,rfl⟩ | ⟨j,h1,h2⟩)
    ·exact ⟨0,rfl,rfl⟩
    ·exact ⟨j+1,by simpa using h1,by omega⟩
   ·rintro ⟨j,h1,h2⟩
    cases j with
    | zero=>simp at h1;exact .inl ⟨h1.symm,h2⟩
    | succ j=>exact .inr ⟨j,by simpa using h1,by omega⟩
 | none::r,k,a,b=>by
   simp only [prs,prs_mem (ns:=r)]
   constructor
   ·rintro ⟨j,h1,h2⟩;exact ⟨j+1,by simpa using h1,by omega⟩
   ·rintro ⟨j,h1,h2⟩
    cases j with
    | zero=>simp at h1
    | succ j=>exact ⟨j,by simpa using h1,by omega⟩
theorem prs_key:∀ {ns:List (Option Nat)} {k},(prs k ns).map (·.1)=someIds ns
 | [],_=>rfl
 | some i::r,k=>by simp [prs,someIds,prs_key (ns:=r)]
 | none::r,k=>by simp [prs,someIds,prs_key (ns:=r)]
theorem find_mem {α:Type} {t:Nat} {x:α}:∀ {l:List (Nat × α)},find t l=some x->(t,x)∈l
 | [],h=>by simp [find] at h
 | (k,y)::l,h=>by
   rw [find_cons] at h
   split at h
   ·rename_i hk;subst hk;cases h;simp
   ·exact List.mem_cons_of_mem _ (find_mem h)
theorem find_of_mem {α:Type} {t:Nat} {x:α}:∀ {l:List (Nat × α)},(l.map (·.1)).Nodup->(t,x)∈l->find t l=some x
 | (k,y)::l,hn,h=>by
   rw [List.map_cons,List.nodup_cons] at hn
   rw [find_cons]
   rcases List.mem_cons.1 h with h | h
   ·cases h;rw [if_pos rfl]
   ·rw [if_neg,find_of_mem hn.2 h]
    rintro rfl
    exact hn.1 (List.mem_map.2 ⟨_,h,rfl⟩)
theorem find_none_of {α:Type} {t:Nat}:∀ {l:List (Nat × α)},(∀ p∈l,p.1≠t)->find t l=none
 | [],_=>rfl
 | (k,y)::l,h=>by
   rw [find_cons,if_neg (h (k,y) (by simp)),find_none_of fun p hp=>h p (List.mem_cons_of_mem _ hp)]
def prsR:List (Nat × Nat)->List (Nat × Nat):=List.map fun p=>(p.2,p.1)
def qJ (n:Nat) (ps:List (Nat × Nat)) (a:Nat):Option Nat:=match find a ps with | some b=>some b | none=>if a<n then some a else none
def rJ (n:Nat) (ps:List (Nat × Nat)) (b:Nat):Option Nat:=match find b (prsR ps) with | some a=>some a | none=>if b<n/\find b ps=none then some b else none
theorem prs_find {ns:List (Option Nat)} {k a b} (hn:(someIds ns).Nodup):find a (prs k ns)=some b↔(a,b)∈prs k ns:=
 ⟨find_mem,find_of_mem (by rw [prs_key];exact hn)⟩
theorem prsR_nodup:∀ {ns:List (Option Nat)} {k},((prsR (prs k ns)).map (·.1)).Nodup/\∀ b∈(prsR (prs k ns)).map (·.1),k<=b
 | [],_=>by simp [prs,prsR]
 | none::r,k=>by
   obtain ⟨h1,h2⟩:=prsR_nodup (ns:=r) (k:=k+1)
   exact ⟨h1,fun b hb=>by have:=h2 b hb;omega⟩
 | some i::r,k=>by
   obtain ⟨h1,h2⟩:=prsR_nodup (ns:=r) (k:=k+1)
   simp only [prs,prsR,List.map_cons] at h1 h2 ⊢
   refine ⟨List.nodup_cons.2 ⟨fun h=>?_,h1⟩,?_⟩
   ·have:=h2 k h;omega
   ·intro b hb
    rcases List.mem_cons.1 hb with rfl | hb
    ·exact Nat.le_refl _
    ·have:=h2 b hb;omega
theorem prsR_find {ns:List (Option Nat)} {k a b}:find b (prsR (prs k ns))=some a↔(a,b)∈prs k ns:=by
 constructor
 ·intro h
  have:=find_mem h
  obtain ⟨p,hp,he⟩:=List.mem_map.1 this
  cases he;exact hp
 ·intro h
  exact find_of_mem prsR_nodup.1 (List.mem_map.2 ⟨_,h,rfl⟩)
theorem qr_inv {n ns a b} (hn:(someIds ns).Nodup):qJ n (prs n ns) a=some b↔rJ n (prs n ns) b=some a:=by
 have val:∀ {x y},(x,y)∈prs n ns->n<=y:=fun h=>by obtain ⟨j,-,h⟩:=prs_mem.1 h;omega
 constructor
 ·intro h
  unfold qJ at h
  split at h
  ·rename_i b' hf
   cases h
   unfold rJ
   rw [prsR_find.2 ((prs_find hn).1 hf)]
  ·rename_i hf
   split at h
   ·rename_i hlt
    cases h
    unfold rJ
    split
    ·rename_i a' ha
     have:=val (prsR_find.1 ha)
     omega
    ·rw [if_pos ⟨hlt,hf⟩]
   ·cases h
 ·intro h
  unfold rJ at h
  split at h
  ·rename_i a' ha
   cases h
   unfold qJ
   rw [(prs_find hn).2 (prsR_find.1 ha)]
  ·split at h
   ·rename_i h2
    cases h
    unfold qJ
    rw [h2.2]
    simp only
    rw [if_pos h2.1]
   ·cases h
section
variable {P:Program} {tb:Tb} {ρ:Type} {cx:Ctx P tb}
theorem undefs_find:∀ {l:List Nat} {t x},find t (undefs (tb:=tb) l)=some x->x=.undef
 | [],_,_,h=>by simp [undefs,find] at h
 | k::l,t,x,h=>by
   simp only [undefs] at h
   rw [find_cons] at h
   split at h
   ·cases h;rfl
   ·exact undefs_find h
theorem undefs_none:∀ {l:List Nat} {t},find t (undefs (tb:=tb) l)=none->t∉l
 | [],_,_=>by simp
 | k :: l,t,h=>by
   simp only [undefs] at h
   rw [find_cons] at h
   split at h
   ·cases h
   ·rename_i hk
    simp only [List.mem_cons,not_or]
    exact ⟨Ne.symm hk,undefs_none h⟩
theorem drops_find:∀ {l:List Nat} {t},t∈l->find t (drops (tb:=tb) l)=some .drop
 | k :: l,t,h=>by
   simp only [drops]
   rw [find_cons]
   split
   ·rfl
   ·rename_i hk
    rcases List.mem_cons.1 h with rfl | h
    ·exact absurd rfl hk
    ·exact drops_find h
theorem drops_none:∀ {l:List Nat} {t},t∉l->find t (drops (tb:=tb) l)=none
 | [],_,_=>rfl
 | k::l,t,h=>by
   simp only [List.mem_cons,not_or] at h
   simp only [drops]
   rw [find_cons,if_neg (Ne.symm h.1)]
   exact drops_none h.2
theorem pre_find {α:Type} {t:Nat} {p b:List (Nat × α)} (h:∀ q∈p,q.1≠t):find t (p++b)=find t b:=find_append_none (find_none_of h)
theorem unJ_ok {L0 L1:SLS tb} {asg A} {k:VT A.vars->Option ρ} {r} (hwf:Wf L0) (hi:RI [] L0.e) (x:Ext L0 L1) (h:unJ cx L0 asg A L1 k=some r):
 ∃ v,k v=some r/\RI [] (stJ cx L0 asg A v).e/\Ext L0 (stJ cx L0 asg A v)/\Tells L1.av (stJ cx L0 asg A v).av:=by
 unfold unJ at h
 obtain ⟨⟨v,ns⟩,hp,h⟩:=got_e h
 obtain ⟨c1,h⟩:=tst_e h
 obtain ⟨c2,h⟩:=tst_e h
 obtain ⟨c3,h⟩:=tst_e h
 obtain ⟨c4,h⟩:=tst_e h
 obtain ⟨c5,h⟩:=tst_e h
 obtain ⟨c6,h⟩:=tst_e h
 obtain ⟨c7,h⟩:=tst_e h
 obtain ⟨c8,h⟩:=tst_e h
 obtain ⟨xs,⟨pe,he⟩,⟨ph,hh⟩,xnx,⟨pg,hg⟩⟩:=x
 have hlenE:L1.e.length - L0.e.length=pe.length:=by rw [he,List.length_append];omega
 have hlenH:L1.h.length - L0.h.length=ph.length:=by rw [hh,List.length_append];omega
 have hlenG:L1.gn.length - L0.gn.length=pg.length:=by rw [hg,List.length_append];omega
 rw [hlenE,he] at c1
 rw [hlenH,hh] at c2
 rw [hlenG,hg] at c3
 have d1:=keysIn_e c1
 have d2:=keysIn_e c2
 have d3:=keysIn_e c3
 have d4:=allB_e c4
 have hn:=nodupN_e c5
 have d6:=allB_e c6
 have d7:=keepE_e c7
 have d8:=keepH_e c8
 have hlen:=unVs_len hp
 refine ⟨v,h,?_,⟨rfl,⟨_,by unfold stJ;rw [<- List.append_assoc]⟩,⟨_,rfl⟩,Nat.le_add_right _ _,⟨_,rfl⟩⟩,?_⟩
 ·intro t G y hf
  exfalso
  have hf:find t ((mkVs cx L0 A.vars v L0.nx).1++(undefs asg++L0.e))=some (.opt G y):=hf
  cases h1:find t (mkVs cx L0 A.vars v L0.nx).1 with
  | some z=>
    rw [find_append_some h1] at hf
    cases hf
    have:=(d7 _ (find_mem h1)).2
    cases this
  | none=>
    rw [find_append_none h1] at hf
    cases h2:find t (undefs (tb:=tb) asg) with
    | some z=>
      rw [find_append_some h2] at hf
      have:=undefs_find h2
      subst this;cases hf
    | none=>
      rw [find_append_none h2] at hf
      obtain ⟨-,g2,g3⟩:=hi t G y hf
      cases G with
      | nil=>exact g2 rfl
      | cons g G=>have:=g3 g (by simp);simp at this
 -- names
 let nx0:=L0.nx
 let q:=qJ L0.nx (prs L0.nx ns)
 let rr:=rJ L0.nx (prs L0.nx ns)
 let nils:Nat->Bool:=fun b=>decide (L0.nx<=b/\b<L0.nx+ns.length/\find b (prsR (prs L0.nx ns))=none)
 let g':Gn tb:=drops (drN L0 A)++L0.gn
 have gfind:∀ id,id∉drN L0 A->find id g'=find id L0.gn:=fun id hid=>find_append_none (drops_none hid)
 have g1find:∀ id,id<L0.nx->id∉drN L0 A->find id L1.gn=find id L0.gn:=by
  intro id hlt hid
  rw [hg]
  refine pre_find ?_
  rintro p hp rfl
  rcases newOrD_e (d3 p hp) with h | h
  ·omega
  ·exact hid h
 have own_no:∀ id,id<L0.nx->id∉drN L0 A->find id (prs L0.nx ns)=none:=by
  intro id hlt hid
  cases hf:find id (prs L0.nx ns) with
  | none=>rfl
  | some b=>
    exfalso
    have hm:id∈(prs L0.nx ns).map (·.1):=List.mem_map.2 ⟨_,find_mem hf,rfl⟩
    rw [prs_key] at hm
    rcases newOrD_e (d4 id hm) with h | h
    ·omega
    ·exact hid h
 have qid:∀ id,id<L0.nx->find id (prs L0.nx ns)=none->q id=some id:=by
  intro id hlt hf
  show qJ _ _ _=_
  unfold qJ;rw [hf];simp only;rw [if_pos hlt]
 have valn:∀ {a b},(a,b)∈prs L0.nx ns->L0.nx<=b/\b<L0.nx+ns.length:=by
  intro a b hab
  obtain ⟨j,h1,h2⟩:=prs_mem.1 hab
  have:j<ns.length:=by
   rcases Nat.lt_or_ge j ns.length with h | h
   ·exact h
   ·rw [List.getElem?_eq_none h] at h1;cases h1
  omega
 have rid:∀ id,id<L0.nx->find id (prs L0.nx ns)=none->rr id=some id:=by
  intro id hlt hf
  exact (qr_inv hn).1 (qid id hlt hf)
 have hres:ResQ L1.gn g' q L0.nx:=by
  intro id hlt
  by_cases hid:id∈drN L0 A
  ·exact .inl (find_append_some (drops_find hid))
  ·refine .inr ⟨by rw [gfind id hid,g1find id hlt hid],fun _=>qid id hlt (own_no id hlt hid)⟩
 have hseg:Seg q rr nils L0.nx ns:=by
  intro j
  refine ⟨fun id hid=>?_,fun hnone=>?_⟩
  ·have hm:(id,L0.nx+j)∈prs L0.nx ns:=prs_mem.2 ⟨j,hid,rfl⟩
   have hf:=(prs_find hn).2 hm
   have h1:q id=some (L0.nx+j):=by show qJ _ _ _=_;unfold qJ;rw [hf]
   exact ⟨h1,(qr_inv hn).1 h1⟩
  ·have hf:find (L0.nx+j) (prsR (prs L0.nx ns))=none:=by
    cases hf:find (L0.nx+j) (prsR (prs L0.nx ns)) with
    | none=>rfl
    | some a=>
      exfalso
      obtain ⟨j',h1,h2⟩:=prs_mem.1 (prsR_find.1 hf)
      have:j'=j:=by omega
      subst this
      rw [hnone] at h1;cases h1
   have hj:j<ns.length:=by
    rcases Nat.lt_or_ge j ns.length with h | h
    ·exact h
    ·rw [List.getElem?_eq_none h] at hnone;cases hnone
   refine ⟨?_,?_⟩
   ·show decide _=true
    rw [decide_eq_true_iff]
    exact ⟨by omega,by omega,hf⟩
   ·show rJ _ _ _=_
    unfold rJ;rw [hf];simp only
    rw [if_neg (by omega)]
 have hbid:∀ w∈A.vars,∀ id,w.bid L0=some id->id<L0.nx/\id∉drN L0 A/\rr id=some id:=by
  intro w hw id hid
  have:=d6 id (bids_e hw hid)
  split at this
  ·rename_i h1
   split at this
   ·cases this
   ·rename_i h2
    have h2':id∉drN L0 A:=fun h=>by rw [memN_e.2 h] at h2;cases h2
    exact ⟨ltN_e h1,h2',rid id (ltN_e h1) (own_no id (ltN_e h1) h2')⟩
  ·cases this
 obtain ⟨good1,good2⟩:=unVs_ok (q:=q) (r:=rr) (nils:=nils) hp hseg (fun w hw id hid=>(hbid w hw id hid).2.2)
 have hfe:∀ (e:SEnv tb),wfE L0.nx e=true->∀ t x0,find t e=some x0->SubN nils ((x0.res L1.gn).av.re q) (x0.res g').av:=
  fun e hwe t x0 hf=>(res_sub hres (wfE_e hwe t x0 hf)).n
 refine LS.ren.tells (q:=q) (r:=rr) (nils:=nils) ⟨fun a b=>qr_inv hn,?_,?_,?_,?_,?_⟩
 ·intro t y hf
  have hf:find t (avE g' ((mkVs cx L0 A.vars v L0.nx).1++(undefs asg++L0.e)))=some y:=hf
  rw [find_avE] at hf
  obtain ⟨z,hz,rfl⟩:=Option.map_eq_some_iff.1 hf
  cases h1:find t (mkVs cx L0 A.vars v L0.nx).1 with
  | some w=>
    rw [find_append_some h1] at hz
    cases hz
    refine .inr ?_
    rw [res_keep (d7 _ (find_mem h1)).1]
    exact good1 _ (find_mem h1)
  | none=>
    rw [find_append_none h1] at hz
    cases h2:find t (undefs (tb:=tb) asg) with
    | some w=>
      rw [find_append_some h2] at hz
      have:=undefs_find h2
      subst this
      cases hz;exact .inl rfl
    | none=>
      rw [find_append_none h2] at hz
      have hna:=undefs_none h2
      refine .inr ⟨(z.res L1.gn).av,?_,hfe L0.e hwf.e t z hz⟩
      show find t (avE L1.gn L1.e)=_
      rw [find_avE,he,pre_find (fun p hp=>by rintro rfl;exact hna (memN_e.1 (d1 p hp))),hz];rfl
 ·refine SubS_of ?_ ?_
  ·show (L0.s.map _).length=(L1.s.map _).length
   rw [xs];simp
  ·intro i e e' h1 h2
   have h1:(L1.s.map (avE L1.gn))[i]? = some e:=h1
   have h2:(L0.s.map (avE g'))[i]? = some e':=h2
   rw [xs,List.getElem?_map] at h1
   rw [List.getElem?_map] at h2
   cases hs:L0.s[i]? with
   | none=>rw [hs] at h1;cases h1
   | some e0=>
     rw [hs] at h1 h2
     cases h1;cases h2
     intro t y hf
     rw [find_avE] at hf
     obtain ⟨z,hz,rfl⟩:=Option.map_eq_some_iff.1 hf
     exact .inr ⟨(z.res L1.gn).av,by rw [find_avE,hz];rfl,hfe e0 (wfS_e hwf.s i e0 hs) t z hz⟩
 ·intro id b hf
  have hf:find id (avH g' ((mkVs cx L0 A.vars v L0.nx).2++L0.h))=some b:=hf
  rw [find_avH] at hf
  split at hf
  ·rename_i hk
   obtain ⟨c,hc,rfl⟩:=Option.map_eq_some_iff.1 hf
   cases h1:find id (mkVs cx L0 A.vars v L0.nx).2 with
   | some w=>
     rw [find_append_some h1] at hc
     cases hc
     rw [SC.res_keep (d8 _ (find_mem h1))]
     exact good2 _ (find_mem h1)
   | none=>
     rw [find_append_none h1] at hc
     obtain ⟨hlt,hhas⟩:=wfH_e hwf.h id c hc
     have hk:=keepQ_e hk
     have hnd:id∉drN L0 A:=fun h=>by rw [find_append_some (drops_find h)] at hk;cases hk
     have hg0:find id L1.gn=none:=by rw [g1find id hlt hnd,<- gfind id hnd];exact hk
     refine .inr ⟨id,(c.res L1.gn).av,rid id hlt (own_no id hlt hnd),?_,?_⟩
     ·show find id (avH L1.gn L1.h)=_
      rw [find_avH]
      have:keepQ L1.gn id=true:=by unfold keepQ;rw [hg0]
      rw [if_pos this,hh,pre_find,hc]
      ·rfl
      ·rintro p hp rfl
       have:=d2 p hp
       split at this
       ·rename_i hb
        rw [h1] at hb;cases hb
       ·rcases newOrD_e this with h | h
        ·omega
        ·exact hnd h
     ·cases c with
      | cells cl=>exact (resL_sub hres hhas).n
      | arr E1 l1=>
        show SubLN _ (reL q (elC tb E1 l1)) (elC tb E1 l1)
        rw [bareL_of (show allBare (elC tb E1 l1)=true from el_bare cx l1)]
        exact (SubL.refl _).n
      | iter s p=>exact ⟨rfl,rfl⟩
  ·cases hf
 ·intro d hd
  have hd:L0.nx+nOwns A.vars<=d:=hd
  rw [<- hlen] at hd
  refine ⟨?_,fun a ha=>?_⟩
  ·show decide _=false
   rw [decide_eq_false_iff_not];omega
  ·exfalso
   have ha:rJ L0.nx (prs L0.nx ns) d=some a:=ha
   unfold rJ at ha
   split at ha
   ·rename_i a' hf
    have:=(valn (prsR_find.1 hf)).2
    omega
   ·rw [if_neg (by omega)] at ha;cases ha
 ·intro d hd
  have hd:decide (L0.nx<=d/\d<L0.nx+ns.length/\find d (prsR (prs L0.nx ns))=none)=true:=hd
  rw [decide_eq_true_iff] at hd
  show rJ _ _ _=_
  unfold rJ
  rw [hd.2.2]
  simp only
  rw [if_neg (by omega)]
end
end
section
open Go.RowKit
variable [GlC]
section
variable {P:Program} {tb:Tb} {ρ:Type} {cx:Ctx P tb}
/-! results -/
def resS (P:Program) (L:SLS tb):ResultVar->Option (SV tb)
 | .tmp t=>got (find t L.e) fun x=>some (x.res L.gn)
 | .cell t ty=>got (blkId L t) fun id=>got (cellsAt L id) fun l=>got (tAg P ty) fun ag=>match ag with
   | true=>got (tSz P ty) fun n=>tst (Nat.ble n l.length) (some (.agg (l.take n)))
   | false=>match l with
     | []=>none
     | x::_=>some x
def resSs (P:Program) (L:SLS tb):List ResultVar->Option (List (SV tb))
 | []=>some []
 | r::rs=>got (resS P L r) fun x=>got (resSs P L rs) fun l=>some (x::l)
theorem blkId_e {L:SLS tb} {t id} (h:blkId L t=some id) (hk:keepQ L.gn id=true):find t L.av.e=some (.ptr id 0):=by
 unfold blkId at h
 split at h
 ·rename_i i off hf
  obtain ⟨h1,h⟩:=tst_e h
  cases h
  have:=Nat.eq_of_beq_eq_true h1
  subst this
  show find t (avE L.gn L.e)=_
  rw [find_avE,hf]
  simp only [Option.map_some,SV.res]
  rw [keepQ_e hk];rfl
 ·cases h
theorem resS_ok {L:SLS tb} {v x} (h:resS P L v=some x):ResOk P L.av v x.av:=by
 cases v with
 | tmp t=>
   obtain ⟨y,hy,h⟩:=got_e (show got (find t L.e) _=some x from h)
   cases h
   refine .tmp ?_
   show find t (avE L.gn L.e)=_
   rw [find_avE,hy];rfl
 | cell t ty=>
   obtain ⟨id,hid,h⟩:=got_e (show got (blkId L t) _=some x from h)
   obtain ⟨l,hl,h⟩:=got_e h
   obtain ⟨ag,hag,h⟩:=got_e h
   have hk:keepQ L.gn id=true:=by
    have:=hl;unfold cellsAt at this;split at this
    ·assumption
    ·cases this
   have hp:=blkId_e hid hk
   have hl:=cellsAt_e hl
   split at h
   ·obtain ⟨n,hn,h⟩:=got_e h
    obtain ⟨hle,h⟩:=tst_e h
    cases h
    have:=ResOk.agg (P:=P) (L:=L.av) n hp hl hag hn (by rw [avL_length];exact Nat.le_of_ble_eq_true hle)
    rw [<- avL_take] at this
    exact this
   ·split at h
    ·cases h
    ·cases h
     exact .one hp hl hag
theorem resSs_ok {L:SLS tb}:∀ {vs xs},resSs P L vs=some xs->RessOk P L.av vs (avL xs)
 | [],_,h=>by cases h;exact .nil
 | v::vs,xs,h=>by
   obtain ⟨x,hx,h⟩:=got_e (show got (resS P L v) _=some xs from h)
   obtain ⟨l,hl,h⟩:=got_e h
   cases h
   exact .cons (resS_ok hx) (resSs_ok hl)
def cutR (gs:List Nat):List ResultVar->SLS tb->(SLS tb->Option ρ)->Option ρ
 | [],L,k=>k L
 | .tmp t::r,L,k=>cutS gs t L fun L'=>cutR gs r L' k
 | _::r,L,k=>cutR gs r L k
theorem cutR_ok (cx:Ctx P tb) {gs}:∀ {l:List ResultVar} {L:SLS tb} {k:SLS tb->Option ρ} {r},cutR gs l L k=some r->∃ L',k L'=some r/\Gho gs L L'
 | [],L,k,r,h=>⟨L,h,.refl L⟩
 | .tmp t::l,L,k,r,h=>by
   obtain ⟨L1,h1,g1⟩:=cutS_ok cx (show cutS gs t L _=some r from h)
   obtain ⟨L2,h2,g2⟩:=cutR_ok cx h1
   exact ⟨L2,h2,g1.trans g2⟩
 | .cell _ _::l,L,k,r,h=>cutR_ok cx (l:=l) h
def noOpts:List (SV tb)->Bool
 | []=>true
 | x::l=>match notOpt x with | true=>noOpts l | false=>false
theorem noOpts_e:∀ {l:List (SV tb)},noOpts l=true->∀ x∈l,notOpt x=true
 | [],_,x,h=>by cases h
 | y :: l,h,x,hx=>by
   unfold noOpts at h
   split at h
   ·rcases List.mem_cons.1 hx with rfl | hx
    ·assumption
    ·exact noOpts_e h x hx
   ·cases h
def tupSV:List (SV tb)->SV tb
 | [x]=>x
 | l=>.tup l
theorem tupSV_av:∀ l:List (SV tb),(tupSV l).av=tupleOf (avL l)
 | []=>rfl
 | [x]=>rfl
 | x::y::l=>rfl
theorem tupSV_res {g:Gn tb} {l:List (SV tb)} (h:resL g l=l):(tupSV l).res g=tupSV l:=by
 match l,h with
 | [],h=>rfl
 | [x],h=>simp only [resL,List.cons.injEq,and_true] at h;exact h
 | x::y::l,h=>show SV.tup (resL g (x::y::l))=_;rw [h];rfl
theorem tupSV_opt {l:List (SV tb)} (h:noOpts l=true):notOpt (tupSV l)=true:=by
 match l,h with
 | [],h=>rfl
 | [x],h=>exact noOpts_e h x (by simp)
 | x::y::l,h=>rfl
def envS:Nat->List (SV tb)->SEnv tb
 | _,[]=>[]
 | k,x::l=>(k,x)::envS (k+1) l
theorem envS_av {g:Gn tb}:∀ {l:List (SV tb)} {k},resL g l=l->avE g (envS k l)=envFrom k (avL l)
 | [],_,_=>rfl
 | x::l,k,h=>by
   simp only [resL,List.cons.injEq] at h
   have ih:=envS_av (g:=g) (l:=l) (k:=k+1) h.2
   show (k,(x.res g).av)::avE g (envS (k+1) l)=(k,x.av)::envFrom (k+1) (avL l)
   rw [ih,h.1]
theorem envS_mem {t:Nat} {x:SV tb}:∀ {l:List (SV tb)} {k},find t (envS k l)=some x->x∈l
 | [],_,h=>by simp [envS,find] at h
 | y::l,k,h=>by
   simp only [envS] at h
   rw [find_cons] at h
   split at h
   ·cases h;simp
   ·exact List.mem_cons_of_mem _ (envS_mem h)
end
end
end Go.Rx
end
