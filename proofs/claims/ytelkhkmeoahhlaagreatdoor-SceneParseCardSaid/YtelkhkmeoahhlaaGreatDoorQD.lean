/- Several texts in one. No conditions. -/
import Derived.Test.YtelkhkmeoahhlaaGreatDoorQC
import Derived.Lib.Bytealg
import Derived.Lib.Join
import Derived.Laws.IdiomArrays
import Derived.ProofKit
import Derived.Carry
import Derived.Below
import Derived.ChangeSame
import Derived.Deep.Slices
import Derived.OpenShut
section
set_option linter.all false
namespace Go.Rx
section
open Go.RowKit
variable [GlC]
section
variable {P:Program} {tb:Tb} {ρ:Type} {cx:Ctx P tb}
structure Ext (L L':SLS tb):Prop where
 s:L'.s=L.s
 e:∃p,L'.e=p++L.e
 h:∃p,L'.h=p++L.h
 nx:L.nx<=L'.nx
 gn:∃p,L'.gn=p++L.gn
theorem Ext.refl (L:SLS tb):Ext L L:=⟨rfl,⟨[],rfl⟩,⟨[],rfl⟩,Nat.le_refl _,⟨[],rfl⟩⟩
theorem Ext.trans {a b c:SLS tb}(h:Ext a b)(k:Ext b c):Ext a c:=by
 obtain⟨h1,⟨p1,h2⟩,⟨p2,h3⟩,h4,⟨p3,h5⟩⟩:=h
 obtain⟨k1,⟨q1,k2⟩,⟨q2,k3⟩,k4,⟨q3,k5⟩⟩:=k
 exact⟨k1.trans h1,⟨q1++p1,by rw[k2,h2,List.append_assoc]⟩,⟨q2++p2,by rw[k3,h3,List.append_assoc]⟩,Nat.le_trans h4 k4,⟨q3++p3,by rw[k5,h5,List.append_assoc]⟩⟩
def runL (cx:Ctx P tb)(im:Nat->Bool)(N:Nat)(ops:Array Oper):List Oper->SLS tb->List Nat->List KL->(SLS tb->List Nat->List KL->Option ρ)->Option ρ
 | [],L,gs,ks,k=>k L gs ks
 |o::os,L,gs,ks,k=>lop cx im N ops L gs o fun L' gs' κ=>runL cx im N ops os L' gs' (κ::ks) k
inductive jc3:List Loc->List KL->Prop
 |nil:jc3 [] []
 |cons {c κ cs ks}:KOf c κ->jc3 cs ks->jc3 (c::cs) (κ::ks)
theorem jfy {im N ops}:∀{os:List Oper} {L:SLS tb} {gs ks} {k:SLS tb->List Nat->List KL->Option ρ} {r},RI gs L.e->runL cx im N ops os L gs ks k=some r->
 ∃L' gs' ks2 cs,k L' gs' (ks2.reverse++ks)=some r/\RI gs' L'.e/\jc3 cs ks2/\TrL P ops N os L.av.e L.av.h cs L'.av.e L'.av.h/\(∀d∈Zu cs,L.nx<=d/\d<L'.nx)/\Ext L L'/\L'.gn=L.gn
 | [],L,gs,ks,k,r,hi,h=>⟨L,gs,[],[],h,hi,.nil,.nil,by simp[Zu],.refl L,rfl⟩
 |o :: os,L,gs,ks,k,r,hi,h=>by
  obtain⟨L1,gs1,κ,c,h1,h2,h3,h4,h5,h6,h7,h8,h9,h10,h11,h12,h13,h14⟩:=jjq hi (show lop cx im N ops L gs o _=some r from h)
  obtain⟨L2,gs2,ks2,cs,g1,g2,g3,g4,g5,g6,g7⟩:=jfy h14 h1
  refine⟨L2,gs2,κ::ks2,c::cs,by simpa using g1,g2,.cons h2 g3,.cons h3 h4 h5 (by rw[<-h10,<-h11];exact g4),?_,?_,by rw[g7,h9]⟩
  ·intro d hd
   simp only[Zu,List.flatMap_cons,List.mem_append]at hd
   rcases hd with hd|hd
   ·have:=h6 d hd;have:=g6.nx;omega
   ·have:=g5 d hd;omega
  ·exact Ext.trans ⟨h8,h12,h13,h7,⟨[],h9⟩⟩ g6
/-! orders -/
def ur:List Nat->List Nat->Bool
 | [],_=>false
 |t::a,b=>match WR t b with|true=>true|false=>ur a b
theorem jbj {t:Nat}:∀{a b:List Nat},t∈a->t∈b->ur a b=true
 |x :: a,b,h,h'=>by
  unfold ur
  split
  ·rfl
  ·rename_i hm
   rcases List.mem_cons.1 h with rfl|h
   ·rw[Xs.2 h']at hm;cases hm
   ·exact jbj h h'
theorem xy {α β:Type}{a:List (Nat × α)}{b:List (Nat × β)}{a' b':List Nat}(h:meets a b=true)(ha:∀p∈a,p.1∈a')(hb:∀p∈b,p.1∈b'):ur a' b'=true:=by
 unfold meets at h
 obtain⟨p,hp,h⟩:=List.any_eq_true.1 h
 unfold kS at h
 obtain⟨q,hq,h⟩:=List.any_eq_true.1 h
 have h:q.1=p.1:=by simpa using h
 exact jbj (ha p hp) (h ▸ hb q hq)
def jir (a b:KL):Bool:=ur a.we b.we||ur a.we b.re||ur b.we a.re||ur a.wh b.wh||ur a.wh b.rh||ur b.wh a.rh
theorem conf_k {a b:Loc}{a' b':KL}(h:a.uw b=true)(ha:KOf a a')(hb:KOf b b'):jir a' b'=true:=by
 unfold Loc.uw at h
 unfold jir
 simp only[Bool.or_eq_true]at h⊢
 rcases h with ((((h|h)|h)|h)|h)|h
 ·exact .inl (.inl (.inl (.inl (.inl (xy h ha.we hb.we)))))
 ·exact .inl (.inl (.inl (.inl (.inr (xy h ha.we hb.re)))))
 ·exact .inl (.inl (.inl (.inr (xy h hb.we ha.re))))
 ·exact .inl (.inl (.inr (xy h ha.wh hb.wh)))
 ·exact .inl (.inr (xy h ha.wh hb.rh))
 ·exact .inr (xy h hb.wh ha.rh)
def jiW (j:Nat):List Nat->Bool
 | []=>true
 |x::l=>match Nat.blt x j with|true=>jiW j l|false=>false
theorem jhq {j:Nat}:∀{l:List Nat},jiW j l=true->l.all (·<j)=true
 | [],_=>rfl
 |x :: l,h=>by
  unfold jiW at h
  split at h
  ·rename_i hb
   simp only[List.all_cons,Bool.and_eq_true,decide_eq_true_eq]
   exact⟨Nat.le_of_ble_eq_true hb,jhq h⟩
  ·cases h
def okE (m:Nat)(κ:KL):Nat->List KL->Bool
 |_,[]=>true
 |i,e::es=>match jir e κ with
  |true=>(match bitB m (i - 1)with|true=>okE m κ (i - 1) es|false=>false)
  |false=>okE m κ (i - 1) es
theorem okE_e {m:Nat}{κ:KL}:∀{er:List KL},okE m κ er.length er=true->∀(i:Nat) e,er.reverse[i]? = some e->jir e κ=true->bitB m i=true
 | [],_,i,e,h,_=>by simp at h
 |e0::es,h,i,e,he,hc=>by
  have hl:(e0::es).length - 1=es.length:=by simp
  unfold okE at h
  rw[hl]at h
  rw[List.reverse_cons]at he
  rcases Nat.lt_or_ge i es.length with hlt|hge
  ·rw[List.getElem?_append_left (by simpa using hlt)]at he
   refine okE_e (er:=es) ?_ i e he hc
   split at h
   ·split at h
    ·exact h
    ·cases h
   ·exact h
  ·rw[List.getElem?_append_right (by simpa using hge),List.length_reverse]at he
   have hi:i=es.length:=by
    rcases Nat.lt_or_ge (i - es.length) 1 with h1|h1
    ·omega
    ·rw[List.getElem?_eq_none (by simpa using h1)]at he;cases he
   subst hi
   simp at he
   subst he
   rw[hc]at h
   simp only at h
   split at h
   ·rename_i hm;exact hm
   ·cases h
def jdv:List KL->List (Nat × Nat)->Nat->List Oper->List KL->Bool
 |er,an,j,o::os,κ::ks=>(match jiW j (qH o)with|true=>(match okE (jcV an (qH o)) κ j er with|true=>jdv (κ::er) ((j,jcV an (qH o))::an) (j+1) os ks|false=>false)|false=>false)
 |_,_,_,_,_=>true
theorem jc3.get {cs:List Loc}{ks:List KL}(h:jc3 cs ks):∀(i:Nat) c,cs[i]? = some c->∃κ,ks[i]? = some κ/\KOf c κ:=by
 induction h with
 |nil=>intro i c h;simp at h
 |cons h t ih=>
  intro i c hc
  cases i with
  |zero=>simp at hc;subst hc;exact⟨_,rfl,h⟩
  |succ i=>simpa using ih i c (by simpa using hc)
theorem jc3.length {cs:List Loc}{ks:List KL}(h:jc3 cs ks):cs.length=ks.length:=by
 induction h with
 |nil=>rfl
 |cons _ _ ih=>simp[ih]
theorem jc3.snoc {cs:List Loc}{ks:List KL}{c κ}(h:jc3 cs ks)(k:KOf c κ):jc3 (cs++[c]) (ks++[κ]):=by
 induction h with
 |nil=>exact .cons k .nil
 |cons h t ih=>exact .cons h ih
theorem jdu : ∀{os:List Oper} {ec:List Loc} {er:List KL} {an cs ks},jc3 ec er.reverse->jc3 cs ks->jdv er an er.length os ks=true->Ky ec an ec.length os cs=true
 | [],_,_,_,_,_,_,_,_=>by simp[Ky]
 |o::os,ec,er,an,_,_,he,.nil,_=>by simp[Ky]
 |o :: os,ec,er,an,c::cs,κ::ks,he,.cons h t,hk=>by
  have hlen:ec.length=er.length:=by rw[he.length,List.length_reverse]
  unfold jdv at hk
  split at hk
  ·rename_i h1
   split at hk
   ·rename_i h2
    unfold Ky
    simp only[Bool.and_eq_true]
    refine⟨⟨by rw[hlen];exact jhq h1,?_⟩,?_⟩
    ·rw[List.all_eq_true]
     rintro⟨c',i⟩ hm
     have hm:=List.mem_zipIdx_iff_getElem?.1 hm
     simp only at hm
     simp only[Bool.or_eq_true,Bool.not_eq_true']
     rcases Bool.eq_false_or_eq_true (c'.uw c)with hc|hc
     ·refine .inr ?_
      obtain⟨κ',hκ,hko⟩:=he.get i c' hm
      exact okE_e h2 i κ' hκ (conf_k hc hko h)
     ·exact .inl hc
    ·have:=jdu (os:=os) (ec:=ec++[c]) (er:=κ::er) (an:=(er.length,jcV an (qH o))::an) (cs:=cs) (ks:=ks) (by rw[List.reverse_cons];exact he.snoc h) t hk
     rw[hlen]
     simpa [hlen]using this
   ·cases hk
  ·cases hk
def jgr (ks:List KL):List Nat:=ks.flatMap (·.nm)
theorem jc3.names {cs:List Loc}{ks:List KL}(h:jc3 cs ks):Zu cs=jgr ks:=by
 induction h with
 |nil=>rfl
 |cons h t ih=>
  simp only[Zu,jgr,List.flatMap_cons]at ih⊢
  rw[ih,h.nm]
/-! in text order -/
theorem zh.f {e s h}{f f':Nat->Prop}(hf:∀d,f' d->f d):zh ⟨e,s,h,f⟩ ⟨e,s,h,f'⟩:=
 fun _ _ _ _ _ _ m bl S=>⟨m,bl,S.weaken (fun _ _ h=>h) (fun _ _ h=>h) hf rfl⟩
theorem TrL.go {N ops}{os:List Oper}{e h cs e' h'}(t:TrL P ops N os e h cs e' h'):∀(st:List Env) (f:Nat->Prop) (rest:List Oper) (K:LS->Prop),Xp (Zu cs)=true->(∀d∈Zu cs,f d)->
 GoT P ops N rest K ⟨e',st,h',fun y=>f y/\y∉Zu cs⟩->GoT P ops N (os++rest) K ⟨e,st,h,f⟩:=by
 induction t with
 |nil=>
  intro st f rest K _ _ k
  exact GoT.kc (zh.f fun d hd=>hd.1) k
 |cons h1 h2 h3 t ih=>
  intro st f rest K hn hin k
  have hn2:=uP hn
  simp only[Zu,List.flatMap_cons]at hn2 hin
  rw[List.nodup_append]at hn2
  refine h1.text h2 h3 (fun d hd=>hin d (List.mem_append_left _ hd)) (f':=fun y=>f y/\y∉Loc.nm _) (fun y hy=>hy) ?_
  refine ih st _ rest K (of_nodup hn2.2.1) ?_ ?_
  ·intro d hd
   exact⟨hin d (List.mem_append_right _ hd),fun hc=>hn2.2.2 d hc d hd rfl⟩
  ·refine GoT.kc (zh.f ?_) k
   rintro d ⟨g1,g2⟩
   simp only[Zu,List.flatMap_cons,List.mem_append,not_or]at g2
   exact⟨⟨g1,g2.1⟩,g2.2⟩
where
 of_nodup:∀{l:List Nat},l.Nodup->Xp l=true
  | [],_=>rfl
  |x::l,h=>by
   rw[List.nodup_cons]at h
   unfold Xp
   simp[h.1,of_nodup h.2]
end
end
section
open Go.RowKit
variable [GlC]
mutual
theorem jh0 {p q:Nat->Option Nat}:∀x:AV,(x.re p).re q=x.re (fun i=>(p i).bind q)
 | .undef=>rfl
 | .v _=>rfl
 | .agg l=>by simp only[AV.re,jaZ l]
 | .tup l=>by simp only[AV.re,jaZ l]
 | .sl _ _ _=>rfl
 | .kQ _=>rfl
 | .clo _ l=>by simp only[AV.re,jaZ l]
 | .ptr id off=>by
   simp only[AV.re]
   cases h:p id with
   |none=>rfl
   |some i=>simp only[AV.re,Option.bind_some]
 | .row id off len mc sz=>by
   simp only[AV.re]
   cases h:p id with
   |none=>rfl
   |some i=>simp only[AV.re,Option.bind_some]
 | .rw id sz=>by
   simp only[AV.re]
   cases h:p id with
   |none=>rfl
   |some i=>simp only[AV.re,Option.bind_some]
 | .opt _ x=>by simp only[AV.re,jh0 x]
 | .ifc _ x=>by simp only[AV.re,jh0 x]
theorem jaZ {p q:Nat->Option Nat}:∀l:List AV,reL q (reL p l)=reL (fun i=>(p i).bind q) l
 | []=>rfl
 |x::l=>by simp only[reL,jh0 x,jaZ l]
end
section
variable {P:Program} {tb:Tb} {ρ:Type} {cx:Ctx P tb}
def ResQ (g1 g':Gn tb)(q:Nat->Option Nat)(nx0:Nat):Prop:=
 ∀id,id<nx0->find id g'=some .drop\/(find id g'=find id g1/\(find id g1=none->q id=some id))
def ltN (n:Nat)(i:Nat):Bool:=Nat.blt i n
theorem jbg {n i}(h:ltN n i=true):i<n:=Nat.le_of_ble_eq_true h
mutual
theorem xd {g1 g':Gn tb}{q nx0}(H:ResQ g1 g' q nx0):∀{x:SV tb},x.has (ltN nx0)=true->Sub ((x.res g1).av.re q) (x.res g').av
 | .undef,_=>.refl _
 | .i _ _,_=>.refl _
 | .b8 _,_=>.refl _
 | .bo _,_=>.refl _
 | .st _,_=>.refl _
 | .con _,_=>.refl _
 | .agg l,h=>.agg (VY H (l:=l) h)
 | .tup l,h=>.tup (VY H (l:=l) h)
 | .sl _ _ _,_=>.refl _
 | .em _,_=>.refl _
 | .cp l,_=>.refl _
 | .fn f l,h=>.clo (VY H (l:=l) h)
 | .ptr id off,h=>by
   simp only[SV.res]
   rcases H id (jbg h)with h1|⟨h1,h2⟩
   ·rw[h1];exact .undef _
   ·rw[h1]
    cases hf:find id g1 with
    |none=>simp only[resP,SV.av,AV.re,h2 hf];exact .refl _
    |some c=>
     cases c with
     |drop=>exact .undef _
     |fz c=>cases c <;> exact .refl _
 | .epr id E i fo,h=>by
   simp only[SV.res]
   rcases H id (jbg h)with h1|⟨h1,h2⟩
   ·rw[h1];exact .undef _
   ·rw[h1]
    cases hf:find id g1 with
    |none=>simp only[resE,SV.av,AV.re,h2 hf];exact .refl _
    |some c=>exact .undef _
 | .row id E off len mc,h=>by
   simp only[SV.res]
   rcases H id (jbg h)with h1|⟨h1,h2⟩
   ·rw[h1];exact .undef _
   ·rw[h1]
    cases hf:find id g1 with
    |none=>simp only[resR,SV.av,AV.re,h2 hf];exact .refl _
    |some c=>exact .undef _
 | .rw id E,h=>by
   simp only[SV.res]
   rcases H id (jbg h)with h1|⟨h1,h2⟩
   ·rw[h1];exact .undef _
   ·rw[h1]
    cases hf:find id g1 with
    |none=>simp only[resW,SV.av,AV.re,h2 hf];exact .refl _
    |some c=>
     cases c with
     |drop=>exact .undef _
     |fz c=>
      cases c with
      |arr E' l=>simp only[resW];split <;> exact .refl _
      |_=>exact .undef _
 | .opt _ x,h=>.opt (xd H (x:=x) h)
 | .cl _ _ _ _ qQ hc,_=>by
   simp only[SV.res,SV.av,AV.re];rw[yz hc.2.1];exact .refl _
 | .ifc _ x,h=>.ifc (xd H (x:=x) h)
theorem VY {g1 g':Gn tb}{q nx0}(H:ResQ g1 g' q nx0):∀{l:List (SV tb)},MX (ltN nx0) l=true->KF (reL q (avL (uL g1 l))) (avL (uL g' l))
 | [],_=>.refl _
 |x::l,h=>by
  rw[UC,Bool.and_eq_true]at h
  exact .cons (xd H h.1) (VY H h.2)
end
def wfE (n:Nat):VP tb->Bool
 | []=>true
 |(_,x)::e=>match x.has (ltN n)with|true=>wfE n e|false=>false
theorem jhL {n:Nat}:∀{e:VP tb},wfE n e=true->∀t x,find t e=some x->x.has (ltN n)=true
 | [],_,t,x,hf=>by simp[find]at hf
 |(k,y)::e,h,t,x,hf=>by
  unfold wfE at h
  split at h
  ·rename_i hy
   rw[jk]at hf
   split at hf
   ·cases hf;exact hy
   ·exact jhL h t x hf
  ·cases h
def wfH (n:Nat):SHp tb->Bool
 | []=>true
 |(i,x)::e=>match ltN n i with|true=>(match x.has (ltN n)with|true=>wfH n e|false=>false)|false=>false
theorem jhK {n:Nat}:∀{e:SHp tb},wfH n e=true->∀t x,find t e=some x->t<n/\x.has (ltN n)=true
 | [],_,t,x,hf=>by simp[find]at hf
 |(k, y)::e,h,t,x,hf=>by
  unfold wfH at h
  split at h
  ·rename_i hk
   split at h
   ·rename_i hy
    rw[jk]at hf
    split at hf
    ·rename_i he;subst he;cases hf;exact⟨jbg hk,hy⟩
    ·exact jhK h t x hf
   ·cases h
  ·cases h
def wfS (n:Nat):List (VP tb)->Bool
 | []=>true
 |e::s=>match wfE n e with|true=>wfS n s|false=>false
theorem jhJ {n:Nat}:∀{s:List (VP tb)},wfS n s=true->∀(i:Nat) e,s[i]? = some e->wfE n e=true
 | [],_,i,e,hf=>by simp at hf
 |e0::s,h,i,e,hf=>by
  unfold wfS at h
  split at h
  ·rename_i he
   cases i with
   |zero=>simp at hf;subst hf;exact he
   |succ i=>exact jhJ h i e (by simpa using hf)
  ·cases h
def wf (L:SLS tb):Bool:=match wfE L.nx L.e with|true=>(match wfS L.nx L.s with|true=>wfH L.nx L.h|false=>false)|false=>false
structure Wf (L:SLS tb):Prop where
 e:wfE L.nx L.e=true
 s:wfS L.nx L.s=true
 h:wfH L.nx L.h=true
theorem wf_e {L:SLS tb}(h:wf L=true):Wf L:=by
 unfold wf at h
 split at h
 ·split at h
  ·exact⟨‹_›,‹_›,h⟩
  ·cases h
 ·cases h
theorem jc1 {q nils}:∀{s s':List Env},s'.length=s.length->(∀(i:Nat) e e',s[i]? = some e->s'[i]? = some e'->SubE q nils e e')->SubS q nils s s'
 | [],[],_,_=>trivial
 | [],_::_,h,_=>by simp at h
 |_::_,[],h,_=>by simp at h
 |e::s,e'::s',h,k=>⟨k 0 e e' rfl rfl,jc1 (by simpa using h) fun i e e' h1 h2=>k (i+1) e e' (by simpa using h1) (by simpa using h2)⟩
/-! appends to own slices -/
def gApp (cx:Ctx P tb)(N:Nat)(L:SLS tb)(gs:List Nat)(o:Oper)(c:Call)(id:Nat)(E0:tb.Ix)(k:SLS tb->List Nat->Option ρ):Option ρ:=
 got o.dst fun d=>got (my c) fun a=>got (pA c) fun t=>got (elemOf P tb t.1) fun p=>tst (Nat.ble 1 p.2.2) <|tst (wf L) <|ifE E0 p.1 fun _=>got (KO L id p.1) fun l=>srcK P L p.1 t.2 a.2 fun l2 need=>
  Chk ((l.length+l2.length)*p.2.2<=140737488355328) <|Let (l++l2) fun l'=>tst (Nat.blt d N) <|tst (!WR d gs) <|tst (Nat.blt id L.nx) <|tst (Qh L.gn L.nx) <|
  k {L with e:=(d,.rw L.nx p.1)::L.e,h:=(L.nx,.arr p.1 l')::L.h,nx:=L.nx+1,gn:=(id,.drop)::L.gn} gs
theorem jk7 {N ops}{L:SLS tb}{gs o c y z id E0}{k:SLS tb->List Nat->Option ρ}{r}(hi:RI gs L.e)(hg:o.guard=none)(ho:o.op=.call c)(hb:c.callee=.builtin .append)(ha:my c=some (y,z))(hx:opd L [] y=some (.rw id E0))
 (h:gApp cx N L gs o c id E0 k=some r):∀rest K,(∀L' gs',k L' gs'=some r->RI gs' L'.e->Ext L L'->GoT P ops N rest K L'.av)->GoT P ops N (o::rest) K L.av:=by
 unfold gApp at h
 obtain⟨d,hd,h⟩:=jd h
 obtain⟨a',ha',h⟩:=jd h
 rw[ha]at ha';cases ha'
 obtain⟨⟨t,tz⟩,ht,h⟩:=jd h
 obtain⟨⟨E,E1,by_⟩,hp,h⟩:=jd h
 obtain⟨hby,h⟩:=jM h
 have hby2:1<=by_:=Nat.le_of_ble_eq_true hby
 obtain⟨hwf,h⟩:=jM h
 have hwf:=wf_e hwf
 obtain⟨hE,h⟩:=jgJ h
 simp only at hE
 subst hE
 obtain⟨l,hl,h⟩:=jd h
 have ho:o.op=.call {callee:=.builtin .append,args:=#[y,z],argTypes:=#[t,tz]}:=by
  rw[ho]
  obtain⟨c1,c2,c3⟩:=c
  have h1:=xY ha
  have h2:=XT ht
  simp only at h1 h2 hb
  rw[h1,h2,hb]
 have hET:=vY hp
 have hy:=Jl (Gu.nil hi.inv) hx
 obtain⟨l2,need,h,hsrc,hnd⟩:=jb7 (o:=o) cx hi.inv (by rw[ho];simp[Op.operands,Call.operands]) h
 obtain⟨hc,h⟩:=XR h
 have h:=mA h
 obtain⟨hN,h⟩:=jM h
 obtain⟨hm,h⟩:=jM h
 obtain⟨hlt,h⟩:=jM h
 obtain⟨hkn,h⟩:=jM h
 have hN:d<N:=Nat.le_of_ble_eq_true hN
 have hm:WR d gs=false:=by simpa using hm
 have hlt:id<L.nx:=Nat.le_of_ble_eq_true hlt
 have hkn:=kz hkn
 have hkid:find id L.gn=none:=by
  have:=hl;unfold KO at this;split at this
  ·exact kz ‹_›
  ·cases this
 have hl:=zB hl
 intro rest K kk
 have key:=AEx.appRow (L:=L.av) hd ho hET hy (xs:=l.map (tb.el E0)) hl (qc cx.ok) (ZZ cx l) hsrc hnd (by rw[List.length_map,List.length_map];exact hc) (by rw[List.length_map,List.length_map];exact jim hby2 hc)
 refine GoT.act hg (fun d' h'=>by rw[hd]at h';cases h';exact hN) key ?_
 rintro L1 rfl
 have hext:Ext L {L with e:=(d,.rw L.nx E0)::L.e,h:=(L.nx,.arr E0 (l++l2))::L.h,nx:=L.nx+1,gn:=(id,.drop)::L.gn}:=⟨rfl,⟨[_],rfl⟩,⟨[_],rfl⟩,Nat.le_succ _,⟨[_],rfl⟩⟩
 refine GoT.kc ?_ (kk _ _ h (hi.put hm rfl) hext)
 -- the name is renamed
 let q:Nat->Option Nat:=fun i=>if i=id then some L.nx else if i=L.nx then none else some i
 let r0:Nat->Option Nat:=fun i=>if i=L.nx then some id else if i=id then none else some i
 have hH:ResQ L.gn ((id,US.drop)::L.gn) (fun i=>(vL id i).bind q) L.nx:=by
  intro i hi
  rw[jk]
  by_cases hid:id=i
  ·rw[if_pos hid];exact .inl rfl
  ·rw[if_neg hid]
   refine .inr ⟨rfl,fun _=>?_⟩
   show(vL id i).bind q=_
   unfold vL
   rw[if_neg (Ne.symm hid)]
   show(if i=id then _ else if i=L.nx then _ else _)=_
   rw[if_neg (Ne.symm hid),if_neg (by omega)]
 have hfe:∀(e:VP tb),wfE L.nx e=true->∀t x,find t (avE ((id,US.drop)::L.gn) e)=some x->∃y,find t (reE (vL id) (avE L.gn e))=some y/\Xy (fun _=>false) (y.re q) x:=by
  intro e he t x hf
  rw[YR]at hf
  obtain⟨x0,h1,rfl⟩:=Option.map_eq_some_iff.1 hf
  refine⟨_,by rw[jdF,YR,h1];rfl,?_⟩
  show Xy _ (((x0.res L.gn).av.re (vL id)).re q) _
  rw[jh0]
  exact(xd hH (jhL he t x0 h1)).n
 refine LS.ren.kc (q:=q) (r:=r0) (nils:=fun _=>false) ⟨?_,?_,?_,?_,?_,by simp⟩
 ·intro a b
  show(if a=id then _ else if a=L.nx then _ else _)=some b↔(if b=L.nx then _ else if b=id then _ else _)=some a
  constructor
  ·intro h1
   split at h1
   ·cases h1;rw[if_pos rfl];simp_all
   ·split at h1
    ·cases h1
    ·cases h1;rw[if_neg ‹_›,if_neg ‹_›]
  ·intro h1
   split at h1
   ·cases h1;rw[if_pos rfl];simp_all
   ·split at h1
    ·cases h1
    ·cases h1;rw[if_neg ‹_›,if_neg ‹_›]
 ·intro t x hf
  have hf':find t ((d,((SV.rw L.nx E0).res ((id,US.drop)::L.gn)).av)::avE ((id,US.drop)::L.gn) L.e)=some x:=hf
  rw[jk]at hf'
  split at hf'
  ·rename_i hdt
   subst hdt
   cases hf'
   refine .inr ⟨.rw id (tb.sz E0),by rw[jk,if_pos rfl],?_⟩
   have e1:((SV.rw L.nx E0).res ((id,US.drop)::L.gn)).av=AV.rw L.nx (tb.sz E0):=by
    simp only[SV.res]
    rw[jk,if_neg (by omega),hkn];rfl
   rw[e1]
   have e2:(AV.rw id (tb.sz E0)).re q=.rw L.nx (tb.sz E0):=by
    simp only[AV.re]
    have:q id=some L.nx:=by show(if id=id then _ else _)=_;rw[if_pos rfl]
    rw[this]
   rw[e2];exact(Sub.refl _).n
  ·rename_i hdt
   obtain⟨y,h1,h2⟩:=hfe L.e hwf.e t x hf'
   exact .inr ⟨y,by rw[jk,if_neg hdt];exact h1,h2⟩
 ·refine jc1 ?_ ?_
  ·show(L.s.map _).length=((L.s.map _).map _).length;simp
  ·intro i e e' h1 h2
   have h1:((L.s.map (avE L.gn)).map (reE (vL id)))[i]? = some e:=h1
   have h2:(L.s.map (avE ((id,US.drop)::L.gn)))[i]? = some e':=h2
   rw[List.getElem?_map,List.getElem?_map]at h1
   rw[List.getElem?_map]at h2
   cases hs:L.s[i]? with
   |none=>rw[hs]at h1;cases h1
   |some e0=>
    rw[hs]at h1 h2
    cases h1;cases h2
    exact fun t x hf=>.inr (hfe e0 (jhJ hwf.s i e0 hs) t x hf)
 ·intro i b hf
  have hf:find i (avH ((id,US.drop)::L.gn) ((L.nx,SC.arr E0 (l++l2))::L.h))=some b:=hf
  rw[zO]at hf
  split at hf
  ·rename_i hk
   have hk:=kz hk
   rw[jk]at hk
   split at hk
   ·cases hk
   rename_i hidi
   have hf2:(find i ((L.nx,SC.arr E0 (l++l2))::L.h)).map (fun b=>(b.res ((id,US.drop)::L.gn)).av)=some b:=hf
   rw[jk]at hf2
   refine .inr ?_
   split at hf2
   ·rename_i hni
    subst hni
    cases hf2
    refine⟨id,_,by show(if L.nx=L.nx then _ else _)=_;rw[if_pos rfl],by rw[jk,if_pos rfl],?_⟩
    show Vt _ (reL q _) (elC tb E0 (l++l2))
    have e3:elC tb E0 (l++l2)=(l.map (tb.el E0)).flatMap AV.cells++(l2.map (tb.el E0)).flatMap AV.cells:=by simp[elC]
    rw[e3]
    rw[yz (by show qI _ _=true;rw[kE,show qI _ _=true from ZZ cx l,show qI _ _=true from ZZ cx l2];rfl)]
    exact(KF.refl _).n
   ·rename_i hni
    obtain⟨c0,h1,rfl⟩:=Option.map_eq_some_iff.1 hf2
    obtain⟨h3,h4⟩:=jhK hwf.h i c0 h1
    refine⟨i,reB (vL id) (c0.res L.gn).av,by show(if i=L.nx then _ else if i=id then _ else _)=_;rw[if_neg (Ne.symm hni),if_neg (Ne.symm hidi)],?_,?_⟩
    ·show find i ((id,_)::jiL id (avH L.gn L.h))=_
     rw[jk,if_neg hidi,xG,if_neg (Ne.symm hidi),zO]
     have:Qh L.gn i=true:=by unfold Qh;rw[hk]
     rw[if_pos this,h1];rfl
    ·cases c0 with
     |cells cl=>
      show Vt _ (reL q (reL (vL id) (avL (uL L.gn cl)))) (avL (uL _ cl))
      rw[jaZ]
      exact(VY hH h4).n
     |arr E1 l1=>
      show Vt _ (reL q (reL (vL id) (elC tb E1 l1))) (elC tb E1 l1)
      rw[yz (show JS (elC tb E1 l1)=true from ZZ cx l1),yz (show JS (elC tb E1 l1)=true from ZZ cx l1)]
      exact(KF.refl _).n
     |iter s p=>exact⟨rfl,rfl⟩
  ·cases hf
 ·intro d' hd'
  have hd':L.nx+1<=d':=hd'
  refine⟨rfl,fun a ha=>?_⟩
  have ha:(if d'=L.nx then some id else if d'=id then none else some d')=some a:=ha
  rw[if_neg (by omega),if_neg (by omega)]at ha
  cases ha
  exact⟨show L.nx<=d' by omega,by omega⟩
end
end
section
open Go.RowKit
variable [GlC]
section
variable {P:Program} {tb:Tb} {ρ:Type} {cx:Ctx P tb}
def frz1 (L:SLS tb)(id:Nat)(c:SC tb):SLS tb:={L with gn:=(id,.fz c)::L.gn}
theorem jeD (cx:Ctx P tb){L:SLS tb}{id c}(h:jcS L id=some c):zh L.av (frz1 L id c).av:=by
 obtain⟨l,h1,h2,h3,h4⟩:=jhh cx h
 have hE:∀(e:VP tb) t x,find t (avE ((id,US.fz c)::L.gn) e)=some x->∃y,find t (avE L.gn e)=some y/\Wa id l y x:=by
  intro e t x hx
  rw[YR]at hx
  obtain⟨x0,g1,rfl⟩:=Option.map_eq_some_iff.1 hx
  exact⟨_,by rw[YR,g1];rfl,jde cx h1 h4 x0⟩
 refine LS.frz.kc (id:=id) (l:=l) ⟨h2,h3,hE L.e,⟨?_,?_⟩,?_,fun d hd=>hd⟩
 ·show(L.s.map _).length=(L.s.map _).length
  simp
 ·intro i e' e he' he
  have he':(L.s.map (avE ((id,US.fz c)::L.gn)))[i]? = some e':=he'
  have he:(L.s.map (avE L.gn))[i]? = some e:=he
  rw[List.getElem?_map]at he' he
  cases hs:L.s[i]? with
  |none=>rw[hs]at he;cases he
  |some e0=>
   rw[hs]at he he'
   cases he;cases he'
   exact hE e0
 ·intro i b hb
  have hb:find i (avH ((id,US.fz c)::L.gn) L.h)=some b:=hb
  rw[zO]at hb
  split at hb
  ·rename_i hk
   have hk:=kz hk
   rw[jk]at hk
   split at hk
   ·cases hk
   ·rename_i hne
    refine⟨Ne.symm hne,?_⟩
    obtain⟨c0,g1,rfl⟩:=Option.map_eq_some_iff.1 hb
    refine⟨(c0.res L.gn).av,?_,?_⟩
    ·show find i (avH L.gn L.h)=_
     have:Qh L.gn i=true:=by unfold Qh;rw[hk]
     rw[zO,if_pos this,g1];rfl
    ·cases c0 with
     |cells cl=>exact uK cx h1 h4 cl
     |arr E l1=>
      intro m bl m' bl' f vs hv
      have:=uK cx h1 h4 []
      show JK m' bl' (elC tb E l1) vs
      have hb:=ZZ cx (E:=E) l1
      have h5:=(JK.mono f.le hv).bare (bl':=bl')
      rwa [wJ,yz (show JS (elC tb E l1)=true from hb)]at h5
     |iter s p=>exact⟨rfl,rfl⟩
  ·cases hb
def jk8:Nat->List Nat->SLS tb->Option (SLS tb)
 |0,_,_=>none
 |_+1,[],L=>some L
 |n + 1,id::r,L=>match Qh L.gn id with
  |false=>jk8 n r L
  |true=>match find id L.h with
   |some (.cells cl)=>got (jk8 n (jhE (uL L.gn cl) []) L) fun L1=>got (jcS L1 id) fun c=>jk8 n r (frz1 L1 id c)
   |_=>got (jcS L id) fun c=>jk8 n r (frz1 L id c)
structure Fzn (L L':SLS tb):Prop where
 t:zh L.av L'.av
 x:Ext L L'
 e:L'.e=L.e
theorem Fzn.refl (L:SLS tb):Fzn L L:=⟨.refl _,.refl _,rfl⟩
theorem Fzn.trans {a b c:SLS tb}(h:Fzn a b)(k:Fzn b c):Fzn a c:=⟨h.t.trans k.t,h.x.trans k.x,k.e.trans h.e⟩
theorem jdB (cx:Ctx P tb){L:SLS tb}{id c}(h:jcS L id=some c):Fzn L (frz1 L id c):=⟨jeD cx h,⟨rfl,⟨[],rfl⟩,⟨[],rfl⟩,Nat.le_refl _,⟨[_],rfl⟩⟩,rfl⟩
theorem Ph (cx:Ctx P tb):∀{n ids} {L L':SLS tb},jk8 n ids L=some L'->Fzn L L'
 |0,_,_,_,h=>by cases h
 |_+1,[],L,L',h=>by cases h;exact .refl L
 |n + 1,id::r,L,L',h=>by
  unfold jk8 at h
  split at h
  ·exact Ph cx h
  ·split at h
   ·obtain⟨L1,h1,h⟩:=jd h
    obtain⟨c,hc,h⟩:=jd h
    exact(Ph cx h1).trans ((jdB cx hc).trans (Ph cx h))
   ·obtain⟨c,hc,h⟩:=jd h
    exact(jdB cx hc).trans (Ph cx h)
/-! the slice of all that is known -/
def jlg (gs:List Nat)(t:Nat)(L:SLS tb)(k:SLS tb->Option ρ):Option ρ:=match find t L.e with
 |some (.row id E off len _)=>(match Nat.beq off 0 with
  |true=>got (KO L id E) fun l=>Chk (len<=l.length) <|Let (l.take len) fun l'=>tst (wf L) <|tst (Qh L.gn L.nx) <|tst (!WR t gs) <|tst (Nat.blt id L.nx) <|
   k {L with e:=(t,.rw L.nx E)::L.e,h:=(L.nx,.arr E l')::L.h,nx:=L.nx+1,gn:=(id,.drop)::L.gn}
  |false=>k L)
 |_=>k L
structure Gho (gs:List Nat)(L L':SLS tb):Prop where
 t:zh L.av L'.av
 x:Ext L L'
 i:RI gs L.e->RI gs L'.e
theorem Gho.refl {gs}(L:SLS tb):Gho gs L L:=⟨.refl _,.refl _,id⟩
theorem Gho.trans {gs}{a b c:SLS tb}(h:Gho gs a b)(k:Gho gs b c):Gho gs a c:=⟨h.t.trans k.t,h.x.trans k.x,fun i=>k.i (h.i i)⟩
theorem Fzn.g {gs}{L L':SLS tb}(h:Fzn L L'):Gho gs L L':=⟨h.t,h.x,fun i=>by rw[h.e];exact i⟩
theorem jcM (cx : Ctx P tb){gs t}{L:SLS tb}{k:SLS tb->Option ρ}{r}(h:jlg gs t L k=some r):∃L',k L'=some r/\Gho gs L L':=by
 unfold jlg at h
 split at h
 ·rename_i id E off len mc hf
  split at h
  ·rename_i hoff
   have hoff:=Nat.eq_of_beq_eq_true hoff
   subst hoff
   obtain⟨l,hl,h⟩:=jd h
   obtain⟨hle,h⟩:=XR h
   have h:=mA h
   obtain⟨hwf,h⟩:=jM h
   have hwf:=wf_e hwf
   obtain⟨hkn,h⟩:=jM h
   have hkn:=kz hkn
   obtain⟨hm,h⟩:=jM h
   obtain⟨hlt,h⟩:=jM h
   have hlt:id<L.nx:=Nat.le_of_ble_eq_true hlt
   have hm:WR t gs=false:=by simpa using hm
   have hkid:find id L.gn=none:=by
    have:=hl;unfold KO at this;split at this
    ·exact kz ‹_›
    ·cases this
   have hl:=zB hl
   refine⟨_,h,?_,⟨rfl,⟨[_],rfl⟩,⟨[_],rfl⟩,Nat.le_succ _,⟨[_],rfl⟩⟩,fun hi=>hi.put hm rfl⟩
   have hres:∀i,i<L.nx->find i ((id,US.drop)::L.gn)=some .drop\/(find i ((id,US.drop)::L.gn)=find i L.gn/\(find i L.gn=none->vL id i=some i)):=by
    intro i hi
    rw[jk]
    by_cases hid:id=i
    ·rw[if_pos hid];exact .inl rfl
    ·rw[if_neg hid]
     exact .inr ⟨rfl,fun _=>by unfold vL;rw[if_neg (Ne.symm hid)]⟩
   have hfe:∀(e:VP tb),wfE L.nx e=true->∀t x,find t (avE ((id,US.drop)::L.gn) e)=some x->∃y,find t (avE L.gn e)=some y/\Sub (y.re (vL id)) x:=by
    intro e he t x hf
    rw[YR]at hf
    obtain⟨x0,h1,rfl⟩:=Option.map_eq_some_iff.1 hf
    exact⟨_,by rw[YR,h1];rfl,xd hres (jhL he t x0 h1)⟩
   have hav:∀(l:List (tb.T E)),(elC tb E l).length=l.length*tb.sz E:=fun l=>by
    unfold elC
    rw[Qu (sz:=tb.sz E) (by intro x hx;obtain⟨y,-,rfl⟩:=List.mem_map.1 hx;exact(cx.ok E).len y),List.length_map]
   have htk:(elC tb E l).take (len*tb.sz E)=elC tb E (l.take len):=by
    unfold elC
    rw[kB len (by intro x hx;obtain⟨y,-,rfl⟩:=List.mem_map.1 hx;exact(cx.ok E).len y),List.map_take]
   refine LS.cut.kc (id:=id) (nid:=L.nx) (k:=len*tb.sz E) (sz:=tb.sz E) (len:=len) (mc:=mc) (t:=t) ⟨⟨elC tb E l,hl,?_,?_,?_⟩,?_,rfl,?_,⟨?_,?_⟩,?_,Nat.le_refl _,?_⟩ (cx.ok E).pos
   ·rw[hav];exact Nat.mul_le_mul_right _ hle
   ·show find L.nx (avH ((id,US.drop)::L.gn) ((L.nx,SC.arr E (l.take len))::L.h))=_
    have hk:Qh ((id,US.drop)::L.gn) L.nx=true:=by unfold Qh;rw[jk,if_neg (by omega),hkn]
    rw[zO,if_pos hk,jk,if_pos rfl,htk];rfl
   ·rw[htk];exact ZZ cx _
   ·show find t (avE L.gn L.e)=_
    rw[YR,hf]
    simp only[Option.map_some,SV.res]
    rw[hkid]
    simp[resR,SV.av]
   ·intro t' x hx
    have hx:find t' (avE ((id,US.drop)::L.gn) ((t,SV.rw L.nx E)::L.e))=some x:=hx
    have hx2:find t' ((t,((SV.rw L.nx E).res ((id,US.drop)::L.gn)).av)::avE ((id,US.drop)::L.gn) L.e)=some x:=hx
    rw[jk]at hx2
    split at hx2
    ·rename_i ht
     cases hx2
     refine .inl ⟨ht.symm,?_⟩
     simp only[SV.res]
     rw[jk,if_neg (by omega),hkn];rfl
    ·exact .inr (hfe L.e hwf.e t' x hx2)
   ·show(L.s.map _).length=(L.s.map _).length
    simp
   ·intro i e' e he' he
    have he':(L.s.map (avE ((id,US.drop)::L.gn)))[i]? = some e':=he'
    have he:(L.s.map (avE L.gn))[i]? = some e:=he
    rw[List.getElem?_map]at he' he
    cases hs:L.s[i]? with
    |none=>rw[hs]at he;cases he
    |some e0=>
     rw[hs]at he he'
     cases he;cases he'
     exact hfe e0 (jhJ hwf.s i e0 hs)
   ·intro i b hne hb
    have hb:find i (avH ((id,US.drop)::L.gn) ((L.nx,SC.arr E (l.take len))::L.h))=some b:=hb
    rw[zO]at hb
    split at hb
    ·rename_i hk
     have hk:=kz hk
     rw[jk]at hk
     split at hk
     ·cases hk
     ·rename_i hni
      refine⟨Ne.symm hni,?_⟩
      rw[jk,if_neg (Ne.symm hne)]at hb
      obtain⟨c0,h1,rfl⟩:=Option.map_eq_some_iff.1 hb
      obtain⟨h3,h4⟩:=jhK hwf.h i c0 h1
      refine⟨(c0.res L.gn).av,?_,?_⟩
      ·show find i (avH L.gn L.h)=_
       have:Qh L.gn i=true:=by unfold Qh;rw[hk]
       rw[zO,if_pos this,h1];rfl
      ·cases c0 with
       |cells cl=>exact VY hres h4
       |arr E1 l1=>
        show KF (reL _ (elC tb E1 l1)) (elC tb E1 l1)
        rw[yz (show JS (elC tb E1 l1)=true from ZZ cx l1)]
        exact KF.refl _
       |iter s p=>exact⟨rfl,rfl⟩
    ·cases hb
   ·intro d hd
    have hd:L.nx+1<=d:=hd
    exact⟨show L.nx<=d by omega,by omega⟩
  ·exact⟨L,h,.refl L⟩
 ·exact⟨L,h,.refl L⟩
/-! before ways meet -/
def jg2 (gs:List Nat):List (JV tb)->SLS tb->(SLS tb->Option ρ)->Option ρ
 | [],L,k=>k L
 | .val t _ (_::_)::r,L,k=>jlg gs t L fun L'=>jg2 gs r L' k
 |_::r,L,k=>jg2 gs r L k
theorem WZ (cx:Ctx P tb){gs}:∀{l:List (JV tb)} {L:SLS tb} {k:SLS tb->Option ρ} {r},jg2 gs l L k=some r->∃L',k L'=some r/\Gho gs L L'
 | [],L,k,r,h=>⟨L,h,.refl L⟩
 | .val t i (o::ow)::l,L,k,r,h=>by
   obtain⟨L1,h1,g1⟩:=jcM cx (show jlg gs t L _=some r from h)
   obtain⟨L2,h2,g2⟩:=WZ cx h1
   exact⟨L2,h2,g1.trans g2⟩
 | .val t i []::l,L,k,r,h=>WZ cx (l:=l) h
 | .blk t i ow::l,L,k,r,h=>WZ cx (l:=l) h
 | .arr t c i::l,L,k,r,h=>WZ cx (l:=l) h
 | .itr t::l,L,k,r,h=>WZ cx (l:=l) h
def jbc (own:List Nat):Nat->List (SV tb)->List Nat->List Nat
 |_,[],a=>a
 |j,x::l,a=>match own.contains j with
  |true=>jbc own (j+1) l a
  |false=>x.nms (jbc own (j+1) l a)
def jjD (L0 L:SLS tb):List (JV tb)->List Nat
 | []=>[]
 | .val t _ own::r=>match find t L.e with
   |some x=>jbc own 0 (kT (x.res L.gn)) (jjD L0 L r)
   |none=>jjD L0 L r
 | .blk t _ own::r=>match find t L0.e with
   |some (.ptr id _)=>(match find id L.h with
    |some (.cells l)=>jbc own 0 (uL L.gn l) (jjD L0 L r)
    |_=>jjD L0 L r)
   |_=>jjD L0 L r
 | .arr _ _ _::r=>jjD L0 L r
 | .itr _::r=>jjD L0 L r
def je3 (ids:List Nat)(L:SLS tb)(k:SLS tb->Option ρ):Option ρ:=match ids with
 | []=>k L
 |i::r=>got (jk8 1000 (i::r) L) k
theorem Wx (cx:Ctx P tb){gs ids}{L:SLS tb}{k:SLS tb->Option ρ}{r}(h:je3 ids L k=some r):∃L',k L'=some r/\Gho gs L L':=by
 unfold je3 at h
 split at h
 ·exact⟨L,h,.refl L⟩
 ·obtain⟨L1,h1,h⟩:=jd h
  exact⟨L1,h,(Ph cx h1).g⟩
def jhD (L0:SLS tb)(vs:List (JV tb))(L:SLS tb)(k:SLS tb->Option ρ):Option ρ:=
 jg2 [] vs L fun L1=>je3 (jjD L0 L1 vs) L1 k
theorem MI (cx:Ctx P tb){L0:SLS tb}{vs:List (JV tb)}{L:SLS tb}{k:SLS tb->Option ρ}{r}(h:jhD L0 vs L k=some r):∃L',k L'=some r/\Gho [] L L':=by
 obtain⟨L1,h1,g1⟩:=WZ cx (show jg2 [] vs L _=some r from h)
 obtain⟨L2,h2,g2⟩:=Wx cx h1
 exact⟨L2,h2,g1.trans g2⟩
end
end
section
open Go.RowKit
variable [GlC]
def If {ρ:Type}(t:Bool)(a b:Option ρ):Option ρ:=if t=true then a else b
def jfx (s:List UInt8)(p:Nat):Int:=(Utf8.decode ⟨s.toArray⟩ p).1
def jhU (s:List UInt8)(p:Nat):Nat:=(Utf8.decode ⟨s.toArray⟩ p).2
def jgG (s:List UInt8)(p:Nat):Bool:=decide (p<s.length)
section
variable {P:Program} {tb:Tb} {ρ:Type} {cx:Ctx P tb}
theorem KS {P:Program}{t E:TypeId}(ht:P.underlying t=some (.slice E))(d:Nat)(ad:Option Addr)(n c:Nat)(w:World):(Op.equalIn (d+1) t (.slice ad n c) (.slice none 0 0)).run P w=.ok ad.isNone w:=by
 cases ad <;> simp[Op.equalIn,je ht]
theorem Ms {P:Program}(t:TypeId)(ad:Option Addr)(n c:Nat)(w:World):(binOp .eql t (.slice ad n c) (.slice none 0 0)).run P w=((Op.equalIn 10000 t (.slice ad n c) (.slice none 0 0)).run P w).andThen fun b w'=>.ok (.bool b) w':=by
 simp only[binOp]
 simp[Op.equal,Op.maxDepth]
theorem Mr {P:Program}(t:TypeId)(ad:Option Addr)(n c:Nat)(w:World):(binOp .neq t (.slice ad n c) (.slice none 0 0)).run P w=((Op.equalIn 10000 t (.slice ad n c) (.slice none 0 0)).run P w).andThen fun b w'=>.ok (.bool (!b)) w':=by
 simp only[binOp]
 simp[Op.equal,Op.maxDepth]
theorem Vw {P:Program}(op:BinOp)(t:TypeId)(x y:Operand)(ad:Option Addr)(n c:Nat)(v:Value)(w:World):(eqGuard op t x y (.slice ad n c) v).run P w=.ok () w:=by
 cases op <;> simp[eqGuard]
def SlQ (x:AV)(L:LS)(p:Prop):Prop:=∀{N W0 m0 sa m bl a w},Sim N W0 m0 L sa a w m bl->∀v,Rep m bl x v->∃ad n c,v=.slice ad n c/\(ad=none->p)
theorem AEx.nilq {L:LS}{o:Oper}{d:Nat}{t yt E:TypeId}{y:Operand}{x p}(neg:Bool)
 (ho:o.op=.binOp (if neg then .neq else .eql) t y (.const (.slice none 0 0)) yt) (ht:P.underlying t=some (.slice E)) (hy:jK L.e y x) (hx:SlQ x L p) (hd:o.dst=some d):
 AEx P o L fun L'=>∃b:Bool,(b=true->p)/\L'=⟨(d,.v (.bool (b != neg)))::L.e,L.s,L.h,L.f⟩:=by
 intro N W0 m0 sa m bl a w s hN next Q k
 have h1:=hy.rep (o:=o) (fun t _ y hf=>s.env t y hf) (by simp[ho,Op.operands])
 obtain⟨ad,n,c,hv,hp⟩:=hx s _ h1
 have hz:a.eval (.const (.slice none 0 0))=.slice none 0 0:=rfl
 have hrun:(execOp a.eval o).run P w=.ok (.value (.bool (ad.isNone != neg))) w:=by
  cases neg with
  |false=>
   have h4:=Ms (P:=P) t ad n c w
   rw[KS ht 9999 ad n c w]at h4
   simp only[Result.andThen_ok]at h4
   simp[execOp,ho,hv,hz,Sem.run_bind,Vw,Result.andThen_ok,h4,Sem.run_pure]
  |true=>
   have h4:=Mr (P:=P) t ad n c w
   rw[KS ht 9999 ad n c w]at h4
   simp only[Result.andThen_ok]at h4
   simp[execOp,ho,hv,hz,Sem.run_bind,Vw,Result.andThen_ok,h4,Sem.run_pure]
 unfold Oper.wp
 rw[hrun,Oper.upon_value]
 refine k _ _ w m bl ⟨ad.isNone,fun h=>hp (by simpa using h),rfl⟩ ⟨?_,?_,s.below,s.ws,?_,s.stk,s.free⟩
 ·simp[Act.put,hd,s.defers]
 ·simp[Act.put,hd,s.size]
 ·rw[hd];exact qv.put s.env .v (by rw[s.size];exact hN d hd)
def nilC (L:SLS tb)(x:SV tb):Option ((E:tb.Ix) × List (tb.T E)):=match x with
 | .sl _ E l=>some ⟨E,l⟩
 | .em E=>some ⟨E,[]⟩
 | .rw id E=>got (KO L id E) fun l=>some ⟨E,l⟩
 |_=>none
theorem jkD (cx:Ctx P tb){L:SLS tb}{x:SV tb}{p}(h:nilC L x=some p):SlQ x.av L.av (p.2=[]):=by
 unfold nilC at h
 intro N W0 m0 sa m bl a w s v hv
 split at h
 ·rename_i c E l
  cases h
  have hv:Rep m bl (.sl c (tb.sz E) (l.map (tb.el E))) v:=hv
  generalize hq:l.map (tb.el E)=q at hv
  cases hv with
  |slnil=>exact⟨_,_,_,rfl,fun _=>by simpa using hq⟩
  |sl=>exact⟨_,_,_,rfl,fun h=>by cases h⟩
 ·cases h
  rename_i E
  have hv:Rep m bl (.sl true (tb.sz E) []) v:=hv
  cases hv with
  |slnil=>exact⟨_,_,_,rfl,fun _=>rfl⟩
  |sl=>exact⟨_,_,_,rfl,fun _=>rfl⟩
 ·rename_i id E
  obtain⟨l,hl,h⟩:=jd h
  cases h
  have hl:=zB hl
  have hv:Rep m bl (.rw id (tb.sz E)) v:=hv
  cases hv with
  |rwnil hb=>
   refine⟨_,_,_,rfl,fun _=>?_⟩
   rcases s.ws.blk id _ hl with ⟨-,g⟩|⟨b,n,arr,T,pre,rest,g1,-⟩
   ·show l=[]
    have hfl:=Qu (l:=l.map (tb.el E)) (sz:=tb.sz E) (by intro x hx;obtain⟨y,-,rfl⟩:=List.mem_map.1 hx;exact(cx.ok E).len y)
    rw[show((l.map (tb.el E)).flatMap AV.cells)=[]from g]at hfl
    have hp:=(cx.ok E).pos
    rcases Nat.mul_eq_zero.1 (show(l.map (tb.el E)).length*tb.sz E=0 by rw[<-hfl];rfl)with h|h
    ·simpa using h
    ·omega
   ·rw[hb]at g1;cases g1
  |rw=>exact⟨_,_,_,rfl,fun h=>by cases h⟩
 ·cases h
def jgB:Operand->Bool
 | .const (.slice none 0 0)=>true
 |_=>false
theorem jix {z:Operand}(h:jgB z=true):z=.const (.slice none 0 0):=by
 unfold jgB at h
 split at h
 ·rfl
 ·cases h
noncomputable def Alike (c:Prop)(a b:Option ρ):Option ρ:=@Chk ρ (c->a=b) (Classical.propDecidable _) b
theorem jlL {c:Prop}{a b:Option ρ}{r}(h:Alike c a b=some r):b=some r/\(c->a=some r):=by
 unfold Alike Chk at h
 split at h
 ·rename_i hc;exact⟨h,fun x=>(hc x).trans h⟩
 ·cases h
noncomputable def gNil (P:Program)(N:Nat)(L:SLS tb)(gs:List Nat)(o:Oper)(neg:Bool)(t:Nat)(x:SV tb)(k:SLS tb->List Nat->Option ρ):Option ρ:=
 got o.dst fun d=>got (P.underlying t) fun D=>got (ui D) fun _=>got (nilC L x) fun p=>tst (Nat.blt d N) <|tst (!WR d gs) <|
 Alike (p.2=[]) (k {L with e:=(d,.con (.bool (true != neg)))::L.e} gs) (k {L with e:=(d,.con (.bool (false != neg)))::L.e} gs)
theorem jgP (cx:Ctx P tb){N ops}{L:SLS tb}{gs o neg t y yt x}{k:SLS tb->List Nat->Option ρ}{r}(hi:RI gs L.e)(hg:o.guard=none)(ho:o.op=.binOp (if neg then .neq else .eql) t y (.const (.slice none 0 0)) yt)(hx:opd L [] y=some x)
 (h:gNil P N L gs o neg t x k=some r):∀rest K,(∀L' gs',k L' gs'=some r->RI gs' L'.e->Ext L L'->GoT P ops N rest K L'.av)->GoT P ops N (o::rest) K L.av:=by
 unfold gNil at h
 obtain⟨d,hd,h⟩:=jd h
 obtain⟨D,hD,h⟩:=jd h
 obtain⟨E,hE,h⟩:=jd h
 rw[vA hE]at hD
 obtain⟨p,hp,h⟩:=jd h
 obtain⟨hN,h⟩:=jM h
 obtain⟨hm,h⟩:=jM h
 have hN:d<N:=Nat.le_of_ble_eq_true hN
 have hm:WR d gs=false:=by simpa using hm
 obtain⟨h1,h2⟩:=jlL h
 intro rest K kk
 refine GoT.act hg (fun d' h'=>by rw[hd]at h';cases h';exact hN) (AEx.nilq neg ho hD (Jl (Gu.nil hi.inv) hx) (jkD cx hp) hd) ?_
 rintro L1 ⟨b,hb,rfl⟩
 have hk:k {L with e:=(d,.con (.bool (b != neg)))::L.e} gs=some r:=by
  cases b with
  |true=>exact h2 (hb rfl)
  |false=>exact h1
 exact kk _ _ hk (hi.put hm rfl) ⟨rfl,⟨[_],rfl⟩,⟨[],rfl⟩,Nat.le_refl _,⟨[],rfl⟩⟩
/-! ranges over strings -/
def iterAt (L:SLS tb)(id:Nat):Option (List UInt8 × Nat):=match Qh L.gn id with
 |true=>(match find id L.h with|some (.iter s p)=>some (s,p)|_=>none)
 |false=>none
theorem jdx {L:SLS tb}{id p}(h:iterAt L id=some p):find id (avH L.gn L.h)=some (.iter ⟨p.1.toArray⟩ p.2):=by
 unfold iterAt at h
 split at h
 ·rename_i hk
  split at h
  ·rename_i s p' hf;cases h
   rw[zO,if_pos hk,hf];rfl
  ·cases h
 ·cases h
def jgO (P:Program)(N:Nat)(L:SLS tb)(gs:List Nat)(o:Oper)(t:Nat)(y:Operand)(k:SLS tb->List Nat->Option ρ):Option ρ:=
 got o.dst fun d=>got (P.underlying t) fun D=>tst (Wv D) <|got (opd L [] y) fun x=>got (asS x) fun s=>jem N gs L d (.ptr L.nx 0) (.iter s 0) fun L'=>k L' gs
theorem jgN {N ops}{L:SLS tb}{gs o t y}{k:SLS tb->List Nat->Option ρ}{r}(hi:RI gs L.e)(hg:o.guard=none)(ho:o.op=.range t y)(h:jgO P N L gs o t y k=some r):
 ∀rest K,(∀L' gs',k L' gs'=some r->RI gs' L'.e->Ext L L'->GoT P ops N rest K L'.av)->GoT P ops N (o::rest) K L.av:=by
 unfold jgO at h
 obtain⟨d,hd,h⟩:=jd h
 obtain⟨D,hD,h⟩:=jd h
 obtain⟨hs,h⟩:=jM h
 rw[KV hs]at hD
 obtain⟨x,hx,h⟩:=jd h
 obtain⟨s,hs2,h⟩:=jd h
 have hy:=Jl (Gu.nil hi.inv) hx
 rw[jai hs2]at hy
 unfold jem at h
 obtain⟨hno,h⟩:=jM h
 obtain⟨hN,hm,hx2,h⟩:=me h
 obtain⟨hh,h⟩:=pR h
 intro rest K kk
 refine GoT.act hg (fun d' h'=>by rw[hd]at h';cases h';exact hN) (AEx.range (nm:=L.nx) hd ho hD hy (Nat.le_refl _)) ?_
 rintro L1 rfl
 have:=kk _ _ h (hi.put hm rfl) ⟨rfl,⟨[_],rfl⟩,⟨[_],rfl⟩,Nat.le_succ _,⟨[],rfl⟩⟩
 refine GoT.kc (zh.f (f':=fun y=>L.nx+1<=y) ?_) ?_
 ·intro d hd
  exact⟨show L.nx<=d from Nat.le_trans (Nat.le_succ _) hd,fun e=>by subst e;exact absurd hd (Nat.not_succ_le_self _)⟩
 ·have e1:((⟨(d,.ptr L.nx 0)::L.e,L.s,(L.nx,.iter s 0)::L.h,L.nx+1,L.gn⟩:SLS tb)).av=⟨(d,.ptr L.nx 0)::L.av.e,L.av.s,(L.nx,.iter ⟨s.toArray⟩ 0)::L.av.h,fun y=>L.nx+1<=y⟩:=by
   show(⟨(d,((SV.ptr L.nx 0).res L.gn).av)::avE L.gn L.e,_,avH L.gn ((L.nx,.iter s 0)::L.h),_⟩:LS)=_
   rw[hx2,hh];rfl
  rw[e1]at this
  exact this
def jk6 (N:Nat)(L:SLS tb)(gs:List Nat)(o:Oper)(y:Operand)(k:SLS tb->List Nat->Option ρ):Option ρ:=
 got o.dst fun d=>got (opd L [] y) fun x=>match x with
  | .ptr id off=>tst (Nat.beq off 0) <|got (iterAt L id) fun p=>
     If (jgG p.1 p.2) (put N gs L d (.tup [.con (.bool true),.i .i64 (p.2:Int),.i .i32 (jfx p.1 p.2)]) fun L'=>jkw L' id (.iter p.1 (p.2+jhU p.1 p.2)) fun L'=>k L' gs)
      (put N gs L d (.tup [.con (.bool false)]) fun L'=>k L' gs)
  |_=>none
theorem jiC {N ops}{L:SLS tb}{gs o y}{k:SLS tb->List Nat->Option ρ}{r}(hi:RI gs L.e)(hg:o.guard=none)(ho:o.op=.next y true)(h:jk6 N L gs o y k=some r):
 ∀rest K,(∀L' gs',k L' gs'=some r->RI gs' L'.e->Ext L L'->GoT P ops N rest K L'.av)->GoT P ops N (o::rest) K L.av:=by
 unfold jk6 at h
 obtain⟨d,hd,h⟩:=jd h
 obtain⟨x,hx,h⟩:=jd h
 have hy:=Jl (Gu.nil hi.inv) hx
 split at h
 ·rename_i _ id off
  obtain⟨h0,h⟩:=jM h
  have h0:=Nat.eq_of_beq_eq_true h0
  subst h0
  obtain⟨⟨s,p⟩,hp,h⟩:=jd h
  have hp:=jdx hp
  have hsz:(ByteArray.mk s.toArray).size=s.length:=by simp[ByteArray.size]
  intro rest K kk
  unfold If at h
  by_cases hin:p<s.length
  ·rw[if_pos (by show jgG s p=true;unfold jgG;exact decide_eq_true hin)]at h
   obtain⟨hN,hm,hx2,h⟩:=me h
   obtain⟨hh,h⟩:=pR h
   refine GoT.act hg (fun d' h'=>by rw[hd]at h';cases h';exact hN) (AEx.next hd ho hy hp rfl) ?_
   rintro L1 (⟨-,rfl⟩|⟨g,-⟩)
   ·have:=kk _ _ h (hi.put hm rfl) ⟨rfl,⟨[_],rfl⟩,⟨[_],rfl⟩,Nat.le_refl _,⟨[],rfl⟩⟩
    have e1:((⟨(d,.tup [.con (.bool true),.i .i64 (p:Int),.i .i32 (jfx s p)])::L.e,L.s,(id,.iter s (p+jhU s p))::L.h,L.nx,L.gn⟩:SLS tb)).av=⟨(d,.tup [.v (.bool true),.v (.int .i64 (p:Int)),.v (.int .i32 (jfx s p))])::L.av.e,L.av.s,(id,.iter ⟨s.toArray⟩ (p+jhU s p))::L.av.h,L.av.f⟩:=by
     show(⟨(d,((SV.tup _).res L.gn).av)::avE L.gn L.e,_,avH L.gn ((id,.iter s (p+jhU s p))::L.h),_⟩:LS)=_
     rw[hx2,hh];rfl
    rw[e1]at this
    exact this
   ·rw[hsz]at g;exact absurd hin g
  ·rw[if_neg (by show ¬ jgG s p=true;unfold jgG;simpa using hin)]at h
   obtain⟨hN,hm,hx2,h⟩:=me h
   refine GoT.act hg (fun d' h'=>by rw[hd]at h';cases h';exact hN) (AEx.next hd ho hy hp rfl) ?_
   rintro L1 (⟨g,-⟩|⟨-,rfl⟩)
   ·rw[hsz]at g;exact absurd g hin
   ·have:=kk _ _ h (hi.put hm rfl) ⟨rfl,⟨[_],rfl⟩,⟨[],rfl⟩,Nat.le_refl _,⟨[],rfl⟩⟩
    have e1:((⟨(d,.tup [.con (.bool false)])::L.e,L.s,L.h,L.nx,L.gn⟩:SLS tb)).av=⟨(d,.tup [.v (.bool false)])::L.av.e,L.av.s,L.av.h,L.av.f⟩:=by
     show(⟨(d,((SV.tup _).res L.gn).av)::avE L.gn L.e,_,_,_⟩:LS)=_
     rw[hx2];rfl
    rw[e1]at this
    exact this
 ·cases h
end
end
section
open Go.RowKit
variable [GlC]
theorem zh.env {e e':Env}{s h}{f:Nat->Prop}(he:∀t x,find t e'=some x->x=.undef\/find t e=some x):zh ⟨e,s,h,f⟩ ⟨e',s,h,f⟩:=
 fun _ _ _ _ _ _ m bl S=>⟨m,bl,S.defers,S.size,S.below,S.ws,fun t x hx=>by
  rcases he t x hx with rfl|h
  ·exact .undef
  ·exact S.env t x h,S.stk,S.free⟩
section
variable {P:Program} {tb:Tb} {ρ:Type} {cx:Ctx P tb}
theorem SLS.av_eq {L L1:SLS tb}(hs:L1.s=L.s)(hg:L1.gn=L.gn):L1.av=⟨L1.av.e,L.av.s,L1.av.h,fun y=>L1.nx<=y⟩:=by
 cases L1;cases L;simp only at hs hg;subst hs hg;rfl
abbrev Iln (P:Program)(tb:Tb)(ρ:Type):=Inl P tb->List (SV tb)->Nat->SLS tb->List Nat->(SLS tb->List Nat->Option ρ)->Option ρ
def PK (I:Iln P tb ρ):Prop:=∀{i:Inl P tb} {xs d} {L:SLS tb} {gs k r},RI gs L.e->WR d gs=false->I i xs d L gs k=some r->
 ∀{N:Nat} {ops:Array Oper} {rest K o y args tys as qQ},o.guard=none->o.op=.call {callee:=.value y,args,argTypes:=tys}->o.dst=some d->d<N->jK L.av.e y (.clo i.fid (avL qQ))->uz L.av.e args.toList (avL as)->xs=as++qQ->
 (∀L' gs',k L' gs'=some r->RI gs' L'.e->Ext L L'->GoT P ops N rest K L'.av)->GoT P ops N (o::rest) K L.av
def noIln:Iln P tb ρ:=fun _ _ _ _ _ _=>none
theorem jif:PK (noIln:Iln P tb ρ):=fun _ _ h=>by cases h
def xH (f:Nat):List (Inl P tb)->Option (Inl P tb)
 | []=>none
 |c::r=>match Nat.beq c.fid f with|true=>some c|false=>xH f r
theorem jbA {f:Nat}:∀{l:List (Inl P tb)} {c},xH f l=some c->c.fid=f
 | [],_,h=>by simp[xH]at h
 |c::r,c',h=>by
  simp only[xH]at h
  split at h
  ·rename_i hb;cases h;exact Nat.eq_of_beq_eq_true hb
  ·exact jbA h
def jik (cx:Ctx P tb)(f:Nat):Bool:=match wA f cx.Γ with
 |some con=>(match con.own with| []=>Vp cx con.rs|_::_=>false)
 |none=>true
def jbv (cx:Ctx P tb)(im:Nat->Bool)(N:Nat)(ops:Array Oper)(L:SLS tb)(gs:List Nat)(o:Oper)(k:SLS tb->List Nat->Option ρ):Option ρ:=
 lop cx im N ops L gs o fun L' gs' _=>k L' gs'
def gVal (cx:Ctx P tb)(I:Iln P tb ρ)(im:Nat->Bool)(N:Nat)(ops:Array Oper)(L:SLS tb)(gs:List Nat)(o:Oper)(y:Operand)(args:Array Operand)(k:SLS tb->List Nat->Option ρ):Option ρ:=match opd L [] y with
 |some (.fn f qQ)=>(match xH f cx.inl with
  |some i=>got o.dst fun d=>tst (Nat.blt d N) <|tst (!WR d gs) <|got (mh L [] args.toList) fun xs=>I i (xs++qQ) d L gs k
  |none=>(match jik cx f with
   |true=>jbv cx im N ops L gs o k
   |false=>got (mh L [] args.toList) fun xs=>je3 (jhE (xs++qQ) []) L fun L1=>jbv cx im N ops L1 gs o k))
 |some (.cl _ rs _ _ _ _)=>(match Vp cx rs with
  |true=>jbv cx im N ops L gs o k
  |false=>got (mh L [] args.toList) fun xs=>je3 (jhE xs []) L fun L1=>jbv cx im N ops L1 gs o k)
 |_=>none
def isEpr:Option (SV tb)->Bool
 |some (.epr _ _ _ _)=>true
 |_=>false
def gSto (cx:Ctx P tb)(im:Nat->Bool)(N:Nat)(ops:Array Oper)(L:SLS tb)(gs:List Nat)(o:Oper)(y z:Operand)(k:SLS tb->List Nat->Option ρ):Option ρ:=match isEpr (opd L [] y)with
 |true=>got (opd L [] z) fun x=>je3 (x.nms []) L fun L1=>jbv cx im N ops L1 gs o k
 |false=>match z with
  | .tmp t=>jlg gs t L fun L1=>jbv cx im N ops L1 gs o k
  |_=>jbv cx im N ops L gs o k
def nmsO (L:SLS tb):List Operand->List Nat
 | []=>[]
 |y::r=>match opd L [] y with
  |some x=>x.nms (nmsO L r)
  |none=>nmsO L r
noncomputable def gopU (cx:Ctx P tb)(I:Iln P tb ρ)(im:Nat->Bool)(N:Nat)(ops:Array Oper)(L:SLS tb)(gs:List Nat)(o:Oper)(k:SLS tb->List Nat->Option ρ):Option ρ:=match o.op with
 | .call c=>(match c.callee with
   | .builtin .append=>(match my c with
     |some a=>(match opd L [] a.1 with
      |some (.rw id E)=>gApp cx N L gs o c id E k
      |_=>jbv cx im N ops L gs o k)
     |none=>none)
   | .value y=>gVal cx I im N ops L gs o y c.args k
   |_=>jbv cx im N ops L gs o k)
 | .store _ y z=>gSto cx im N ops L gs o y z k
 | .buildSlice t _ _=>(match jfZ P tb t with
   |true=>je3 (nmsO L o.op.operands.toList) L fun L1=>jbv cx im N ops L1 gs o k
   |false=>jbv cx im N ops L gs o k)
 | .range t y=>jgO P N L gs o t y k
 | .next y true=>jk6 N L gs o y k
 | .binOp op t y z _=>(match jgB z with
   |true=>(match op,opd L [] y with
    | .eql,some x=>(match isNil x with|true=>jbv cx im N ops L gs o k|false=>gNil P N L gs o false t x k)
    | .neq,some x=>(match isNil x with|true=>jbv cx im N ops L gs o k|false=>gNil P N L gs o true t x k)
    |_,_=>none)
   |false=>jbv cx im N ops L gs o k)
 |_=>jbv cx im N ops L gs o k
def isInlC (cx:Ctx P tb)(o:Oper):Bool:=match o.guard,o.op with
 |some _,.call c=>(match c.callee with
  | .value (.func f)=>(match xH f cx.inl with|some _=>true|none=>false)
  |_=>false)
 |_,_=>false
def jjV (cx:Ctx P tb):List Oper->Bool
 | []=>false
 |o::r=>match isInlC cx o with|true=>true|false=>jjV cx r
def _root_.Go.Oper.free (o:Oper):Oper:={o with guard:=none}
def eqB:Bool->Bool->Bool
 |true,true=>true
 |false,false=>true
 |_,_=>false
theorem eqB_e {a b:Bool}:eqB a b=(a==b):=by cases a <;> cases b <;> rfl
noncomputable def gKn (cx:Ctx P tb)(I:Iln P tb ρ)(im:Nat->Bool)(N:Nat)(ops:Array Oper)(L:SLS tb)(gs:List Nat)(o:Oper)(w b:Bool)(k:SLS tb->List Nat->Option ρ):Option ρ:=match eqB b w with
 |true=>gopU cx I im N ops L gs o.free k
 |false=>match o.dst with
  |some d=>tst (Nat.blt d N) <|tst (!WR d gs) <|k {L with e:=(d,.undef)::L.e} gs
  |none=>k L gs
def setB (L:SLS tb)(s:Nat)(b:Bool):SLS tb:={L with e:=(s,.con (.bool b))::L.e}
noncomputable def gop (cx:Ctx P tb)(I:Iln P tb ρ)(im:Nat->Bool)(N:Nat)(ops:Array Oper)(L:SLS tb)(gs:List Nat)(o:Oper)(k:SLS tb->List Nat->Option ρ):Option ρ:=match o.guard with
 |some (j,w)=>(match jjV cx ops.toList with
  |false=>jbv cx im N ops L gs o k
  |true=>got ((ops[j]?).bind (·.dst)) fun s=>got (find s L.e) fun y=>match y with
   | .con (.bool b)=>gKn cx I im N ops L gs o w b k
   | .bo t=>tst (!WR s gs) <|If t (gKn cx I im N ops (setB L s true) gs o w true k) (gKn cx I im N ops (setB L s false) gs o w false k)
   |_=>none)
 |none=>gopU cx I im N ops L gs o k
theorem GoT.want {N:Nat}{ops:Array Oper}{rest:List Oper}{K:LS->Prop}{L:LS}{o:Oper}{j w s}(hg:o.guard=some (j,w))(hj:(ops[j]?).bind (·.dst)=some s)(hs:find s L.e=some (.v (.bool w)))(k:GoT P ops N (o.free::rest) K L):GoT P ops N (o::rest) K L:=by
 intro W0 m0 sa m bl a w' s' Q hq
 have:=k W0 m0 sa m bl a w' s' Q hq
 simp only[wpList]at this⊢
 have hw:Region.wanted o (yielded ops a.tmps)=true:=by
  have:=GV.wanted (c:=true) (t:=w) (.inl ⟨hs,rfl⟩) hg hj s'.env
  simpa using this
 rw[if_pos hw]
 rw[if_pos (by simp[Region.wanted,Oper.free])]at this
 exact this
theorem GoT.skip {N:Nat}{ops:Array Oper}{rest:List Oper}{K:LS->Prop}{L:LS}{o:Oper}{j w b s}(hg:o.guard=some (j,w))(hj:(ops[j]?).bind (·.dst)=some s)(hs:find s L.e=some (.v (.bool b)))(hb:(b==w)=false)(hd:∀d,o.dst=some d->d<N)
 (k:GoT P ops N rest K (L.put o.dst .undef)):GoT P ops N (o::rest) K L:=by
 intro W0 m0 sa m bl a w' s' Q hq
 simp only[wpList]
 have hw:Region.wanted o (yielded ops a.tmps)=false:=by
  have:=GV.wanted (c:=true) (t:=b) (.inl ⟨hs,rfl⟩) hg hj s'.env
  rw[hb]at this
  simpa using this
 rw[if_neg (by rw[hw];simp)]
 refine k W0 m0 sa m bl _ w' ⟨?_,?_,?_,?_,?_,?_,?_⟩ Q hq
 ·cases hd':o.dst <;> simp[Act.put,s'.defers]
 ·cases hd':o.dst <;> simp[Act.put,s'.size]
 ·exact s'.below
 ·cases hd':o.dst <;> exact s'.ws
 ·cases hd':o.dst with
  |none=>exact s'.env
  |some d=>exact qv.put s'.env .undef (by rw[s'.size];exact hd d hd')
 ·cases hd':o.dst <;> exact s'.stk
 ·cases hd':o.dst <;> exact s'.free
theorem vy {im N ops}{L:SLS tb}{gs o}{k:SLS tb->List Nat->Option ρ}{r}(hi:RI gs L.e)(h:lop cx im N ops L gs o (fun L' gs' _=>k L' gs')=some r):
 ∀rest K,(∀L' gs',k L' gs'=some r->RI gs' L'.e->Ext L L'->GoT P ops N rest K L'.av)->GoT P ops N (o::rest) K L.av:=by
 intro rest K kk
 obtain⟨L1,gs1,κ,c,h1,h2,h3,h4,h5,h6,h7,h8,h9,h10,h11,h12,h13,h14⟩:=jjq hi h
 have:=kk L1 gs1 h1 h14 ⟨h8,h12,h13,h7,⟨[],h9⟩⟩
 refine h3.text (f':=fun y=>L1.nx<=y) h4 h5 (fun d hd=>(h6 d hd).1) (fun y hy=>⟨Nat.le_trans h7 hy,fun hc=>?_⟩) ?_
 ·have:=(h6 y hc).2
  have:L1.nx<=y:=hy
  omega
 ·have e1:=SLS.av_eq h8 h9
  rw[h10,h11]at e1
  show GoT P ops N rest K ⟨c.we++L.av.e,L.av.s,c.wh++L.av.h,fun y=>L1.nx<=y⟩
  rw[<-e1];exact this
theorem jgL {I:Iln P tb ρ}(hI:PK I){im N ops}{L:SLS tb}{gs o}{k:SLS tb->List Nat->Option ρ}{r}(hi:RI gs L.e)(hg:o.guard=none)(h:gopU cx I im N ops L gs o k=some r):
 ∀rest K,(∀L' gs',k L' gs'=some r->RI gs' L'.e->Ext L L'->GoT P ops N rest K L'.av)->GoT P ops N (o::rest) K L.av:=by
 unfold gopU at h
 ·split at h
  ·rename_i c ho
   split at h
   ·rename_i hb
    split at h
    ·rename_i a ha
     split at h
     ·rename_i id E hx
      exact jk7 hi hg ho hb ha hx h
     ·exact vy hi h
    ·cases h
   ·rename_i y hb
    obtain⟨ce,ar,ty⟩:=c
    simp only at hb;subst hb
    unfold gVal at h
    have pre:∀{ids},je3 ids L (fun L1=>jbv cx im N ops L1 gs o k)=some r->∀rest K,(∀L' gs',k L' gs'=some r->RI gs' L'.e->Ext L L'->GoT P ops N rest K L'.av)->GoT P ops N (o::rest) K L.av:=by
     intro ids h rest K kk
     obtain⟨L1,h1,g1⟩:=Wx cx (gs:=gs) h
     exact GoT.kc g1.t (vy (g1.i hi) h1 rest K fun L' gs' a b c=>kk L' gs' a b (g1.x.trans c))
    split at h
    ·rename_i f qQ hy
     split at h
     ·rename_i i hfi
      obtain⟨d,hd,h⟩:=jd h
      obtain⟨hN,h⟩:=jM h
      obtain⟨hm,h⟩:=jM h
      obtain⟨xs,hxs,h⟩:=jd h
      intro rest K kk
      exact hI hi (by simpa using hm) h hg ho hd (Nat.le_of_ble_eq_true hN) (by have:=Jl (Gu.nil hi.inv) hy;rwa [<-jbA hfi]at this) (vS (Gu.nil hi.inv) hxs) rfl kk
     ·split at h
      ·exact vy hi h
      ·obtain⟨xs,hxs,h⟩:=jd h
       exact pre h
    ·split at h
     ·exact vy hi h
     ·obtain⟨xs,hxs,h⟩:=jd h
      exact pre h
    ·cases h
   ·exact vy hi h
  ·rename_i t y z ho
   unfold gSto at h
   split at h
   ·obtain⟨x,hx,h⟩:=jd h
    intro rest K kk
    obtain⟨L1,h1,g1⟩:=Wx cx (gs:=gs) h
    exact GoT.kc g1.t (vy (g1.i hi) h1 rest K fun L' gs' a b c=>kk L' gs' a b (g1.x.trans c))
   split at h
   ·rename_i t'
    intro rest K kk
    obtain⟨L1,h1,g1⟩:=jcM cx h
    exact GoT.kc g1.t (vy (g1.i hi) h1 rest K fun L' gs' a b c=>kk L' gs' a b (g1.x.trans c))
   ·exact vy hi h
  ·split at h
   ·intro rest K kk
    obtain⟨L1,h1,g1⟩:=Wx cx (gs:=gs) h
    exact GoT.kc g1.t (vy (g1.i hi) h1 rest K fun L' gs' a b c=>kk L' gs' a b (g1.x.trans c))
   ·exact vy hi h
  ·rename_i t y ho
   exact jgN hi hg ho h
  ·rename_i y ho
   exact jiC hi hg ho h
  ·rename_i op t y z yt ho
   split at h
   ·rename_i hz
    rw[jix hz]at ho
    split at h
    ·rename_i x hx
     split at h
     ·exact vy hi h
     ·exact jgP (neg:=false) cx hi hg ho hx h
    ·rename_i x hx
     split at h
     ·exact vy hi h
     ·exact jgP (neg:=true) cx hi hg ho hx h
    ·cases h
   ·exact vy hi h
  ·exact vy hi h
theorem jjB {I:Iln P tb ρ}(hI:PK I){im N ops}{L:SLS tb}{gs o j w b s}{k:SLS tb->List Nat->Option ρ}{r}(hi:RI gs L.e)(hg:o.guard=some (j,w))(hj:(ops[j]?).bind (·.dst)=some s)(hs:find s L.av.e=some (.v (.bool b)))(h:gKn cx I im N ops L gs o w b k=some r):
 ∀rest K,(∀L' gs',k L' gs'=some r->RI gs' L'.e->Ext L L'->GoT P ops N rest K L'.av)->GoT P ops N (o::rest) K L.av:=by
 intro rest K kk
 unfold gKn at h
 rw[eqB_e]at h
 split at h
 ·rename_i hb
  have:b=w:=by simpa using hb
  subst this
  exact GoT.want hg hj hs (jgL hI hi rfl h rest K kk)
 ·rename_i hb
  split at h
  ·rename_i d hd
   obtain⟨hN,h⟩:=jM h
   obtain⟨hm,h⟩:=jM h
   have hm:WR d gs=false:=by simpa using hm
   refine GoT.skip hg hj hs hb (fun d' h'=>by rw[hd]at h';cases h';exact Nat.le_of_ble_eq_true hN) ?_
   rw[hd]
   exact kk _ _ h (hi.put hm rfl) ⟨rfl,⟨[_],rfl⟩,⟨[],rfl⟩,Nat.le_refl _,⟨[],rfl⟩⟩
  ·rename_i hd
   refine GoT.skip hg hj hs hb (fun d' h'=>by rw[hd]at h';cases h') ?_
   rw[hd]
   exact kk _ _ h hi (.refl L)
theorem gop_ok {I:Iln P tb ρ}(hI:PK I){im N ops}{L:SLS tb}{gs o}{k:SLS tb->List Nat->Option ρ}{r}(hi:RI gs L.e)(h:gop cx I im N ops L gs o k=some r):
 ∀rest K,(∀L' gs',k L' gs'=some r->RI gs' L'.e->Ext L L'->GoT P ops N rest K L'.av)->GoT P ops N (o::rest) K L.av:=by
 unfold gop at h
 split at h
 ·rename_i j w hg
  split at h
  ·exact vy hi h
  ·obtain⟨s,hj,h⟩:=jd h
   obtain⟨y,hy,h⟩:=jd h
   split at h
   ·rename_i b
    exact jjB hI hi hg hj (by show find s (avE L.gn L.e)=_;rw[YR,hy];rfl) h
   ·rename_i t
    obtain⟨hm,h⟩:=jM h
    have hm:WR s gs=false:=by simpa using hm
    intro rest K kk
    have go:∀b,t=b->gKn cx I im N ops (setB L s b) gs o w b k=some r->GoT P ops N (o::rest) K L.av:=by
     intro b hb h
     subst hb
     have tl:zh L.av (setB L s t).av:=by
      refine zh.env ?_
      intro t' x hx
      have hx2:find t' ((s,AV.v (.bool t))::avE L.gn L.e)=some x:=hx
      clear hx
      rw[jk]at hx2
      refine .inr ?_
      show find t' (avE L.gn L.e)=some x
      split at hx2
      ·rename_i hst
       subst hst
       rw[YR,hy];cases hx2;rfl
      ·exact hx2
     refine GoT.kc tl (jjB (L:=setB L s t) hI (hi.put hm rfl) hg hj (by show find s ((s,AV.v (.bool t))::avE L.gn L.e)=_;rw[jk,if_pos rfl]) h rest K ?_)
     intro L' gs' h1 h2 h3
     have x1:Ext L (setB L s t):=⟨rfl,⟨[_],rfl⟩,⟨[],rfl⟩,Nat.le_refl _,⟨[],rfl⟩⟩
     exact kk L' gs' h1 h2 (x1.trans h3)
    unfold If at h
    split at h
    ·rename_i ht;exact go true ht h
    ·rename_i ht;exact go false (by simpa using ht) h
   ·cases h
 ·rename_i hg
  exact jgL hI hi hg h
noncomputable def runG (cx:Ctx P tb)(I:Iln P tb ρ)(im:Nat->Bool)(N:Nat)(ops:Array Oper):List Oper->SLS tb->List Nat->(SLS tb->List Nat->Option ρ)->Option ρ
 | [],L,gs,k=>k L gs
 |o::os,L,gs,k=>gop cx I im N ops L gs o fun L' gs'=>runG cx I im N ops os L' gs' k
theorem Mt {I:Iln P tb ρ}(hI:PK I){im N ops}:∀{os:List Oper} {L:SLS tb} {gs} {k:SLS tb->List Nat->Option ρ} {r},RI gs L.e->runG cx I im N ops os L gs k=some r->
 ∀K,(∀L' gs',k L' gs'=some r->RI gs' L'.e->Ext L L'->K L'.av)->GoT P ops N os K L.av
 | [],L,gs,k,r,hi,h,K,kk=>GoT.nil (kk L gs h hi (.refl L))
 |o::os,L,gs,k,r,hi,h,K,kk=>by
  refine gop_ok hI hi (show gop cx I im N ops L gs o _=some r from h) os K ?_
  intro L1 gs1 h1 hi1 x1
  exact Mt hI hi1 h1 K fun L2 gs2 h2 hi2 x2=>kk L2 gs2 h2 hi2 (x1.trans x2)
def wT:VP tb->VP tb
 | []=>[]
 |(t,.opt _ _)::e=>(t,.undef)::wT e
 |_::e=>wT e
theorem wC:∀{p:VP tb} {t x},find t (wT p)=some x->x=.undef
 | [],t,x,h=>by simp[wT,find]at h
 |(t',y)::p,t,x,h=>by
  cases y with
  |opt G y=>
   simp only[wT]at h
   rw[jk]at h
   split at h
   ·cases h;rfl
   ·exact wC h
  |_=>exact wC (p:=p) h
theorem mY:∀{p:VP tb} {t G x},find t p=some (.opt G x)->find t (wT p)=some .undef
 | [],t,_,_,h=>by simp[find]at h
 |(t',y)::p,t,G,x,h=>by
  rw[jk]at h
  split at h
  ·rename_i ht
   cases h
   simp only[wT]
   rw[jk,if_pos ht]
  ·rename_i ht
   have ih:=mY h
   cases y with
   |opt G y=>simp only[wT];rw[jk,if_neg ht];exact ih
   |_=>exact ih
def fin (L:SLS tb)(k:SLS tb->Option ρ)(L':SLS tb)(gs:List Nat):Option ρ:=match gs with
 | []=>k L'
 |_::_=>k {L' with e:=wT (L'.e.take (L'.e.length - L.e.length))++L'.e}
theorem jgS {L L':SLS tb}{gs}{k:SLS tb->Option ρ}{r}(h0:RI [] L.e)(hi:RI gs L'.e)(x:Ext L L')(h:fin L k L' gs=some r):∃L2,k L2=some r/\RI [] L2.e/\Ext L L2/\zh L'.av L2.av:=by
 unfold fin at h
 split at h
 ·exact⟨L',h,hi,x,.refl _⟩
 ·obtain⟨p,hp⟩:=x.e
  have htk:L'.e.take (L'.e.length - L.e.length)=p:=by
   rw[hp,List.length_append,Nat.add_sub_cancel,List.take_left]
  rw[htk]at h
  refine⟨_,h,?_,x.trans ⟨rfl,⟨_,rfl⟩,⟨[],rfl⟩,Nat.le_refl _,⟨[],rfl⟩⟩,?_⟩
  ·intro t G y hf
   exfalso
   cases hc:find t (wT p)with
   |some z=>
    rw[Jy hc]at hf
    have:=wC hc
    subst this;cases hf
   |none=>
    rw[Jz hc,hp]at hf
    cases hq:find t p with
    |some z=>
     rw[Jy hq]at hf
     cases hf
     rw[mY hq]at hc;cases hc
    |none=>
     rw[Jz hq]at hf
     obtain⟨-,h2,h3⟩:=h0 t G y hf
     cases G with
     |nil=>exact h2 rfl
     |cons g G=>have:=h3 g (by simp);simp at this
  ·refine zh.env ?_
   intro t y hf
   show y=.undef\/find t (avE L'.gn L'.e)=some y
   have hf:find t (avE L'.gn (wT p++L'.e))=some y:=hf
   rw[YR]at hf⊢
   cases hc:find t (wT p)with
   |some z=>
    rw[Jy hc]at hf
    have:=wC hc
    subst this
    cases hf;exact .inl rfl
   |none=>
    rw[Jz hc]at hf
    exact .inr hf
def opsO:List Oper->List Operand
 | []=>[]
 |o::r=>o.op.operands.toList++opsO r
def nmsR (L:SLS tb):List Operand->List Nat
 | []=>[]
 |y::r=>match opd L [] y with
  |some (.ptr id _)=>(match find id L.h with|some (.cells cl)=>jhE (uL L.gn cl) (nmsR L r)|_=>nmsR L r)
  |some x=>x.nms (nmsR L r)
  |none=>nmsR L r
noncomputable def runD (cx:Ctx P tb)(I:Iln P tb ρ)(im:Nat->Bool)(N:Nat)(n0:Nat)(ops:Array Oper)(L:SLS tb)(k:SLS tb->Option ρ):Option ρ:=
 runL cx im N ops (ops.toList.take n0) L [] [] fun L1 gs ks=>tst (jdv [] [] 0 (ops.toList.take n0) ks.reverse) <|tst (Xp (jgr ks.reverse)) <|tst (barOk ops (ops.toList.take n0).length) <|runG cx I im N ops (ops.toList.drop n0) L1 gs (fin L k)
theorem jfz {I:Iln P tb ρ}(hI:PK I){im N n0 ops id}{L:SLS tb}{k:SLS tb->Option ρ}{r}{Q:Kj->LS->Prop}(hi:RI [] L.e)(h:runD cx I im N n0 ops L k=some r)(kk:∀L',k L'=some r->RI [] L'.e->Ext L L'->∀L0,zh L0 L'.av->Q .normal L0):
 Wp P N (.region id ops true) Q L.av:=by
 unfold runD at h
 obtain⟨L1,gs1,ks,cs,h1,hi1,hks,htr,hnm,x1,hgn⟩:=jfy hi h
 rw[List.append_nil,List.reverse_reverse]at h1
 obtain⟨c1,h1⟩:=jM h1
 obtain⟨c2,h1⟩:=jM h1
 obtain⟨c3,h1⟩:=jM h1
 have hav:=SLS.av_eq x1.s hgn
 refine Wp.draw2 (A:=ops.toList.take n0) (B:=ops.toList.drop n0) (cs:=cs) (f:=fun y=>L.nx<=y) (f':=fun y=>L1.nx<=y) (st:=L.av.s) cx.mixed (List.take_append_drop _ _).symm c3 htr ?_ ?_ (fun d hd=>(hnm d hd).1) ?_ ?_
 ·exact jdu (ec:=[]) (er:=[]) .nil hks c1
 ·rw[hks.names];exact c2
 ·intro y hy
  refine⟨Nat.le_trans x1.nx hy,fun hc=>?_⟩
  have:=(hnm y hc).2
  have:L1.nx<=y:=hy
  omega
 ·rw[<-hav]
  refine Mt hI hi1 h1 _ ?_
  intro L2 gs2 h2 hi2 x2
  obtain⟨L3,h3,hi3,x3,ht⟩:=jgS hi hi2 (x1.trans x2) h2
  exact kk L3 h3 hi3 x3 _ ht
noncomputable def runR (cx:Ctx P tb)(I:Iln P tb ρ)(im:Nat->Bool)(N:Nat)(draw:Bool)(n0:Nat)(ops:Array Oper)(L:SLS tb)(k:SLS tb->Option ρ):Option ρ:=match draw with
 |false=>(match Nat.ble 1000000 n0 with
  |true=>je3 (nmsR L (opsO ops.toList)) L fun L1=>runG cx I im N ops ops.toList L1 [] (fin L1 k)
  |false=>runG cx I im N ops ops.toList L [] (fin L k))
 |true=>(match Nat.ble 1000000 n0 with
  |true=>je3 (nmsR L (opsO ops.toList)) L fun L1=>runD cx I im N (n0 - 1000000) ops L1 k
  |false=>runD cx I im N n0 ops L k)
theorem jj8 {I:Iln P tb ρ}(hI:PK I){im N draw n0 ops id}{L:SLS tb}{k:SLS tb->Option ρ}{r}{Q:Kj->LS->Prop}(hi:RI [] L.e)(h:runR cx I im N draw n0 ops L k=some r)(kk:∀L',k L'=some r->RI [] L'.e->Ext L L'->∀L0,zh L0 L'.av->Q .normal L0):
 Wp P N (.region id ops draw) Q L.av:=by
 unfold runR at h
 split at h
 ·split at h
  ·obtain⟨L9,h,g9⟩:=Wx cx (gs:=[]) h
   refine Wp.kc g9.t ?_
   refine Wp.region (Mt hI (g9.i hi) h _ ?_)
   intro L1 gs1 h1 hi1 x1
   obtain⟨L2,h2,hi2,x2,ht⟩:=jgS (g9.i hi) hi1 x1 h1
   exact kk L2 h2 hi2 (g9.x.trans x2) _ ht
  refine Wp.region (Mt hI hi h _ ?_)
  intro L1 gs1 h1 hi1 x1
  obtain⟨L2,h2,hi2,x2,ht⟩:=jgS hi hi1 x1 h1
  exact kk L2 h2 hi2 x2 _ ht
 ·split at h
  ·obtain⟨L1,h1,g1⟩:=Wx cx (gs:=[]) h
   exact Wp.kc g1.t (jfz hI (g1.i hi) h1 fun L' h2 i2 x2 L0 ht=>kk L' h2 i2 (g1.x.trans x2) L0 ht)
  ·exact jfz hI hi h kk
end
end
section
open Go.RowKit
variable [GlC]
section
variable {P:Program} {tb:Tb} {ρ:Type} {cx:Ctx P tb}
def JV.T:JV tb->Type
 | .val _ i _=>tb.T i
 | .blk _ i _=>tb.T i
 | .arr _ _ i=>List (tb.T i)
 | .itr _=>List UInt8 × Nat
def VT:List (JV tb)->Type
 | []=>Unit
 | [v]=>v.T
 |v::w::r=>v.T × VT (w::r)
def vh:(v:JV tb)->(r:List (JV tb))->VT (v::r)->v.T
 |_,[],x=>x
 |_,_::_,x=>x.1
def vt:(v:JV tb)->(r:List (JV tb))->VT (v::r)->VT r
 |_,[],_=>()
 |_,_::_,x=>x.2
def vc:(v:JV tb)->(r:List (JV tb))->v.T->VT r->VT (v::r)
 |_,[],x,_=>x
 |_,_::_,x,y=>(x,y)
theorem vh_vc {v:JV tb}{r x y}:vh v r (vc v r x y)=x:=by cases r <;> rfl
theorem vt_vc {v:JV tb}{r x y}:vt v r (vc v r x y)=y:=by cases r <;> rfl
def ownU (L:SLS tb)(own:List Nat):Nat->List (SV tb)->Option (List (SV tb) × List (Option Nat))
 |_,[]=>some ([],[])
 |j,x::l=>got (ownU L own (j+1) l) fun p=>match own.contains j with
  |true=>(match x with
   | .rw id E=>got (KO L id E) fun xs=>some (.sl false E xs::p.1,some id::p.2)
   |x=>tst x.em0 (some (x::p.1,none::p.2)))
  |false=>tst (x.has fun _=>false) (some (x::p.1,p.2))
def Seg (q r:Nat->Option Nat)(nils:Nat->Bool)(k:Nat)(ns:List (Option Nat)):Prop:=
 ∀j,(∀id,ns[j]? = some (some id)->q id=some (k+j)/\r (k+j)=some id)/\(ns[j]? = some none->nils (k+j)=true/\r (k+j)=none)
theorem Seg.tail {q r nils k n ns}(h:Seg q r nils k (n::ns)):Seg q r nils (k+1) ns:=by
 intro j
 have:=h (j+1)
 rw[show k+1+j=k+(j+1) by omega]
 simpa using this
theorem Seg.append {q r nils k}:∀{a b:List (Option Nat)},Seg q r nils k (a++b)->Seg q r nils k a/\Seg q r nils (k+a.length) b:=by
 intro a b h
 constructor
 ·intro j
  have:=h j
  rcases Nat.lt_or_ge j a.length with hlt|hge
  ·rw[List.getElem?_append_left hlt]at this;exact this
  ·rw[List.getElem?_eq_none hge];exact⟨by simp,by simp⟩
 ·intro j
  have:=h (a.length+j)
  rw[List.getElem?_append_right (by omega),Nat.add_sub_cancel_left]at this
  rw[Nat.add_assoc];exact this
def ji8 (L:SLS tb)(q r:Nat->Option Nat)(nils:Nat->Bool)(p:Nat × SC tb):Prop:=
 (r p.1=none/\nils p.1=true/\p.2.av=.cells [])\/∃id0 b0,r p.1=some id0/\find id0 (avH L.gn L.h)=some b0/\SubB q nils b0 p.2.av
theorem Xy.em {nils:Nat->Bool}{x:SV tb}{k sz}(h:x.em0=true)(hn:nils k=true):Xy nils x.av (.rw k sz):=by
 unfold SV.em0 at h
 split at h
 ·intro m bl v hnn r
  cases r with
  |slnil=>exact .rwnil (hnn k hn)
  |sl g1 g2 g3 g4 g5 g6 g7=>
   have:=g7 rfl
   subst this
   exact .rwnil (hnn k hn)
 ·exact Xy.nilrw hn
 ·cases h
theorem jiJ {x:SV tb}(h:x.em0=true):x.av.ZD=true:=by
 unfold SV.em0 at h
 split at h
 ·rfl
 ·rfl
 ·cases h
theorem jck (cx:Ctx P tb){L:SLS tb}{own q r nils}:∀{l:List (SV tb)} {j k p cs},ownU L own j l=some p->(∀(i:Nat) y,p.1[i]? = some y->∃z,cs[i]? = some z/\PF y z)->cs.length=p.1.length->Seg q r nils k p.2->
 Vt nils (reL q (avL l)) (avL (kf own j k cs).1)/\(∀b∈(kf own j k cs).2,ji8 L q r nils b)/\(kf own j k cs).2.length=p.2.length
 | [],j,k,p,cs,h,hs,hl,hseg=>by
   cases h
   have:cs=[]:=List.eq_nil_of_length_eq_zero (by simpa using hl)
   subst this
   exact⟨(KF.refl []).n,by simp[kf],rfl⟩
 |x :: l, j,k,p,cs,h,hs,hl,hseg=>by
  obtain⟨p1,hp1,h⟩:=jd (show got (ownU L own (j+1) l) _=some p from h)
  cases cs with
  |nil=>
   exfalso
   split at h
   ·split at h
    ·obtain⟨xs,-,h⟩:=jd h;cases h;simp at hl
    ·obtain⟨-,h⟩:=jM h;cases h;simp at hl
   ·obtain⟨-,h⟩:=jM h;cases h;simp at hl
  |cons z cs=>
   have step:∀y ns,p=(y::p1.1,ns++p1.2)->(∀k',Seg q r nils k (ns++p1.2)->k'=k+ns.length->Seg q r nils k' p1.2)->PF y z/\∀k',Seg q r nils k' p1.2->Vt nils (reL q (avL l)) (avL (kf own (j+1) k' cs).1)/\(∀b∈(kf own (j+1) k' cs).2,ji8 L q r nils b)/\(kf own (j+1) k' cs).2.length=p1.2.length:=by
    intro y ns hp _
    subst hp
    obtain⟨z',hz1,hz2⟩:=hs 0 y rfl
    simp at hz1;subst hz1
    refine⟨hz2,fun k' hk'=>?_⟩
    exact jck cx hp1 (fun i y' hy'=>by simpa using hs (i+1) y' (by simpa using hy')) (by simpa using hl) hk'
   rw[Wr]
   split at h
   ·rename_i hc
    rw[hc]
    split at h
    ·rename_i id E hx0
     obtain⟨xs,hxs,h⟩:=jd h
     cases h
     obtain⟨hz,hrest⟩:=step (.sl false E xs) [some id] rfl (fun k' hk hk'=>by subst hk';exact(Seg.append hk).2)
     have hz1:=hz.sl _ _ _ rfl
     subst hz1
     obtain⟨h1,h2,h3⟩:=hrest (k+1) hseg.tail
     obtain⟨hq,hr⟩:=(hseg 0).1 id rfl
     rw[Nat.add_zero]at hq hr
     refine⟨?_,?_,by simp[h3]⟩
     ·refine Vt.cons ?_ h1
      show Xy nils ((AV.rw id (tb.sz E)).re q) (.rw k (tb.sz E))
      simp only[AV.re];rw[hq];exact(Sub.refl _).n
     ·intro b hb
      rcases List.mem_cons.1 hb with rfl|hb
      ·refine .inr ⟨id,_,hr,zB hxs,?_⟩
       show Vt nils (reL q (elC tb E xs)) (elC tb E xs)
       rw[yz (show JS (elC tb E xs)=true from ZZ cx xs)]
       exact(KF.refl _).n
      ·exact h2 b hb
    ·rename_i hx0
     obtain⟨hem,h⟩:=jM h
     cases h
     obtain⟨hz,hrest⟩:=step x [none] rfl (fun k' hk hk'=>by subst hk';exact(Seg.append hk).2)
     obtain⟨E,hz1⟩:=hz.em hem
     subst hz1
     obtain⟨h1,h2,h3⟩:=hrest (k+1) hseg.tail
     obtain⟨hn,hr⟩:=(hseg 0).2 rfl
     rw[Nat.add_zero]at hn hr
     refine⟨?_,?_,by simp[h3]⟩
     ·refine Vt.cons ?_ h1
      show Xy nils (x.av.re q) (.rw k (tb.sz E))
      rw[wI (jiJ hem)]
      exact Xy.em hem hn
     ·intro b hb
      rcases List.mem_cons.1 hb with rfl|hb
      ·exact .inl ⟨hr,hn,rfl⟩
      ·exact h2 b hb
   ·rename_i hc
    obtain⟨hbx,h⟩:=jM h
    cases h
    have hc':own.contains j=false:=by simpa using hc
    obtain⟨hz,hrest⟩:=step x [] rfl (fun k' hk hk'=>by subst hk';exact(Seg.append hk).2)
    obtain⟨h1,h2,h3⟩:=hrest k hseg
    rw[hc']
    refine⟨Vt.cons ?_ h1,h2,h3⟩
    rw[wI (wo hbx)]
    exact hz.sub.n
def xU (L:SLS tb)(t:Nat):Option Nat:=match find t L.e with
 |some (.ptr id off)=>tst (Nat.beq off 0) (some id)
 |_=>none
def jiV (L:SLS tb)(t:Nat)(c:Option Nat):Option Nat:=match find t L.e with
 |some (.ptr id _)=>(match c with
  |none=>some id
  |some off=>match find id L.h with
   |some (.cells l)=>(match l[off]? with|some (.rw id2 _)=>some id2|_=>none)
   |_=>none)
 |some (.rw id _)=>some id
 |_=>none
def unV (cx:Ctx P tb)(L0 L1:SLS tb):(v:JV tb)->Option (v.T × List (Option Nat))
 | .val t i own=>got (find t L1.e) fun x=>(match own with
   | []=>got ((cx.cd i).of (x.res L1.gn)) fun a=>tst ((x.res L1.gn).has fun _=>false) (some (a,[]))
   |_::_=>got (ownU L1 own 0 (kT (x.res L1.gn))) fun p=>got ((cx.cd i).ofC p.1) fun a=>tst (pC (x.res L1.gn)) <|tst (agOk (cx.cd i) (x.res L1.gn)) <|some (a,p.2))
 | .blk t i own=>got (xU L0 t) fun id=>got (Vl L1 id) fun l=>got (ownU L1 own 0 l) fun p=>got ((cx.cd i).ofC p.1) fun a=>some (a,p.2)
 | .arr t c i=>got (jiV L0 t c) fun id=>got (KO L1 id i) fun l=>some (l,[])
 | .itr t=>got (xU L0 t) fun id=>got (iterAt L1 id) fun p=>some (p,[])
where agOk {i:tb.Ix} (c:Cd tb i) (x:SV tb):Bool:=match c.ag,x with
 |true,.agg _=>true
 |false,.agg _=>false
 |false,_=>true
 |true,_=>false
def mkV (cx:Ctx P tb)(L0:SLS tb):(v:JV tb)->v.T->Nat->VP tb × SHp tb
 | .val t i own,a,k=>(match own with
   | []=>([(t,(cx.cd i).sv a)],[])
   |_::_=>([(t,PM (cx.cd i) (kf own 0 k ((cx.cd i).cs a)).1)],(kf own 0 k ((cx.cd i).cs a)).2))
 | .blk t i own,a,k=>(match xU L0 t with
   |some id=>([],(id,.cells (kf own 0 k ((cx.cd i).cs a)).1)::(kf own 0 k ((cx.cd i).cs a)).2)
   |none=>([],[]))
 | .arr t c i,a,_=>(match jiV L0 t c with
   |some id=>([],[(id,.arr i a)])
   |none=>([],[]))
 | .itr t,a,_=>(match xU L0 t with
   |some id=>([],[(id,.iter a.1 a.2)])
   |none=>([],[]))
def GoodE (L:SLS tb)(q:Nat->Option Nat)(nils:Nat->Bool)(p:Nat × SV tb):Prop:=∃y,find p.1 (avE L.gn L.e)=some y/\Xy nils (y.re q) p.2.av
def nOwn:JV tb->Nat
 | .val _ _ own=>own.length
 | .blk _ _ own=>own.length
 | .arr _ _ _=>0
 | .itr _=>0
theorem jjo {i:tb.Ix}{l:List (SV tb)}{a}(h:(cx.cd i).ofC l=some a):(∀(j:Nat) y,l[j]? = some y->∃z,((cx.cd i).cs a)[j]? = some z/\PF y z)/\((cx.cd i).cs a).length=l.length:=
 ⟨(cx.ok i).slC _ _ h,by rw[jbI cx,((cx.ok i).ofC _ _ h).2]⟩
def JV.bid (L0:SLS tb):JV tb->Option Nat
 | .val _ _ _=>none
 | .blk t _ _=>xU L0 t
 | .arr t c _=>jiV L0 t c
 | .itr t=>xU L0 t
theorem Vt.one {nils x y}(h:Vt nils [x] [y]):Xy nils x y:=by
 intro m bl v hn r
 have:=h m bl [v] hn (.cons r .nil)
 cases this with|cons a b=>exact a
theorem unV_ok {L0 L1:SLS tb}{q r nils k}:∀{v:JV tb} {a ns},unV cx L0 L1 v=some (a,ns)->Seg q r nils k ns->(∀id,v.bid L0=some id->r id=some id)->
 (∀p∈(mkV cx L0 v a k).1,GoodE L1 q nils p)/\(∀p∈(mkV cx L0 v a k).2,ji8 L1 q r nils p)
 | .val t i [],a,ns,h,hseg,_=>by
   obtain⟨x,hx,h⟩:=jd (show got (find t L1.e) _=some (a,ns)from h)
   obtain⟨a',ha,h⟩:=jd h
   obtain⟨hb,h⟩:=jM h
   cases h
   refine⟨?_,by simp[mkV]⟩
   intro p hp
   simp only[mkV,List.mem_singleton]at hp
   subst hp
   refine⟨_,by show find t (avE L1.gn L1.e)=_;rw[YR,hx];rfl,?_⟩
   show Xy nils ((x.res L1.gn).av.re q) ((cx.cd i).sv a).av
   rw[wI (wo hb)]
   have hs:=(cx.ok i).of _ _ ha
   have e1:((cx.cd i).sv a).av=tb.el i a:=(cx.ok i).sv a
   rw[e1];exact hs.n
 | .val t i (o::own),a,ns,h,hseg,_=>by
   obtain⟨x,hx,h⟩:=jd (show got (find t L1.e) _=some (a,ns)from h)
   obtain⟨p,hp,h⟩:=jd h
   obtain⟨a',ha,h⟩:=jd h
   obtain⟨hs,h⟩:=jM h
   obtain⟨hag,h⟩:=jM h
   cases h
   obtain⟨c1,c2⟩:=jjo ha
   obtain⟨h1,h2,h3⟩:=jck cx (q:=q) (r:=r) (nils:=nils) (k:=k) hp c1 c2 hseg
   refine⟨?_,h2⟩
   intro b hb
   simp only[mkV,List.mem_singleton]at hb
   subst hb
   refine⟨_,by show find t (avE L1.gn L1.e)=_;rw[YR,hx];rfl,?_⟩
   show Xy nils ((x.res L1.gn).av.re q) (PM (cx.cd i) (kf (o::own) 0 k ((cx.cd i).cs a)).1).av
   generalize x.res L1.gn=x' at hp hs hag h1
   have key:∀(u:List (SV tb)),Vt nils (reL q (avL (kT x'))) (avL u)->u.length=((cx.cd i).cs a).length->Xy nils (x'.av.re q) (PM (cx.cd i) u).av:=by
    intro u hu hlen
    unfold PM
    cases hca:(cx.cd i).ag with
    |true=>
     rw[if_pos rfl]
     unfold unV.agOk at hag
     rw[hca]at hag
     cases x' with
     |agg l=>exact Xy.agg hu
     |_=>cases hag
    |false=>
     rw[if_neg (by simp)]
     unfold unV.agOk at hag
     rw[hca]at hag
     have hlen1:u.length=1:=by
      rw[hlen]
      rcases(cx.ok i).ag a with ⟨h,-,-⟩|⟨-,-,h⟩
      ·rw[hca]at h;cases h
      ·rw[h];rfl
     cases u with
     |nil=>simp at hlen1
     |cons z u=>
      cases u with
      |cons=>simp at hlen1
      |nil=>
       have e1:kT x'=[x']:=by cases x' <;> first|rfl|cases hag
       rw[e1]at hu
       exact hu.one
   exact key _ h1 jdn
 | .blk t i own,a,ns,h,hseg,hb=>by
   obtain⟨id,hid,h⟩:=jd (show got (xU L0 t) _=some (a,ns)from h)
   obtain⟨l,hl,h⟩:=jd h
   obtain⟨p,hp,h⟩:=jd h
   obtain⟨a',ha,h⟩:=jd h
   cases h
   obtain⟨c1,c2⟩:=jjo ha
   obtain⟨h1,h2,h3⟩:=jck cx (q:=q) (r:=r) (nils:=nils) (k:=k) hp c1 c2 hseg
   have hl:=vG hl
   have hr:=hb id hid
   simp only[mkV]
   rw[hid]
   refine⟨by simp,?_⟩
   intro b hbm
   rcases List.mem_cons.1 hbm with rfl|hbm
   ·exact .inr ⟨id,_,hr,hl,h1⟩
   ·exact h2 b hbm
 | .arr t c i,a,ns,h,hseg,hb=>by
   obtain⟨id,hid,h⟩:=jd (show got (jiV L0 t c) _=some (a,ns)from h)
   obtain⟨l,hl,h⟩:=jd h
   cases h
   have hl:=zB hl
   have hr:=hb id hid
   simp only[mkV]
   rw[hid]
   refine⟨by simp,?_⟩
   intro b hbm
   rw[List.mem_singleton]at hbm
   subst hbm
   refine .inr ⟨id,_,hr,hl,?_⟩
   show Vt nils (reL q (elC tb i a)) (elC tb i a)
   rw[yz (show JS (elC tb i a)=true from ZZ cx a)]
   exact(KF.refl _).n
 | .itr t,a,ns,h,hseg,hb=>by
   obtain⟨id,hid,h⟩:=jd (show got (xU L0 t) _=some (a,ns)from h)
   obtain⟨p,hl,h⟩:=jd h
   cases h
   have hl:=jdx hl
   have hr:=hb id hid
   simp only[mkV]
   rw[hid]
   refine⟨by simp,?_⟩
   intro b hbm
   rw[List.mem_singleton]at hbm
   subst hbm
   exact .inr ⟨id,_,hr,hl,⟨rfl,rfl⟩⟩
end
end
section
open Go.RowKit
variable [GlC]
section
variable {P:Program} {tb:Tb} {ρ:Type} {cx:Ctx P tb}
def unVs (cx:Ctx P tb)(L0 L1:SLS tb):(l:List (JV tb))->Option (VT l × List (Option Nat))
 | []=>some ((),[])
 |v::r=>got (unV cx L0 L1 v) fun p=>tst (Nat.beq p.2.length (nOwn v)) <|got (unVs cx L0 L1 r) fun s=>some (vc v r p.1 s.1,p.2++s.2)
def PL (cx:Ctx P tb)(L0:SLS tb):(l:List (JV tb))->VT l->Nat->VP tb × SHp tb
 | [],_,_=>([],[])
 |v::r,a,k=>((mkV cx L0 v (vh v r a) k).1++(PL cx L0 r (vt v r a) (k+nOwn v)).1,(mkV cx L0 v (vh v r a) k).2++(PL cx L0 r (vt v r a) (k+nOwn v)).2)
def jcm:List (JV tb)->Nat
 | []=>0
 |v::r=>nOwn v+jcm r
theorem jc5 {L0 L1:SLS tb}:∀{l:List (JV tb)} {a ns},unVs cx L0 L1 l=some (a,ns)->ns.length=jcm l
 | [],_,_,h=>by cases h;rfl
 |v::r,a,ns,h=>by
  obtain⟨p,hp,h⟩:=jd (show got (unV cx L0 L1 v) _=some (a,ns)from h)
  obtain⟨hl,h⟩:=jM h
  obtain⟨s,hs,h⟩:=jd h
  cases h
  rw[List.length_append,Nat.eq_of_beq_eq_true hl,jc5 hs];rfl
theorem jff {L0 L1:SLS tb}{q r nils}:∀{l:List (JV tb)} {a ns k},unVs cx L0 L1 l=some (a,ns)->Seg q r nils k ns->(∀v∈l,∀id,v.bid L0=some id->r id=some id)->
 (∀p∈(PL cx L0 l a k).1,GoodE L1 q nils p)/\(∀p∈(PL cx L0 l a k).2,ji8 L1 q r nils p)
 | [],_,_,_,_,_,_=>⟨by simp[PL],by simp[PL]⟩
 |v :: rr,a,ns,k,h,hseg,hb=>by
  obtain⟨p,hp,h⟩:=jd (show got (unV cx L0 L1 v) _=some (a,ns)from h)
  obtain⟨hl,h⟩:=jM h
  obtain⟨s,hs,h⟩:=jd h
  cases h
  obtain⟨s1,s2⟩:=Seg.append hseg
  rw[Nat.eq_of_beq_eq_true hl]at s2
  obtain⟨g1,g2⟩:=unV_ok (v:=v) (a:=p.1) (ns:=p.2) hp s1 (fun id hid=>hb v (by simp) id hid)
  obtain⟨g3,g4⟩:=jff (a:=s.1) (ns:=s.2) hs s2 (fun v hv=>hb v (List.mem_cons_of_mem _ hv))
  simp only[PL,vh_vc,vt_vc]
  refine⟨fun p hp=>?_,fun p hp=>?_⟩
  ·rcases List.mem_append.1 hp with hp|hp
   ·exact g1 p hp
   ·exact g3 p hp
  ·rcases List.mem_append.1 hp with hp|hp
   ·exact g2 p hp
   ·exact g4 p hp
def Mp (own:List Nat):Nat->List (SV tb)->List Nat
 |_,[]=>[]
 |j,x::l=>match own.contains j,x with
  |true,.rw id _=>id::Mp own (j+1) l
  |_,_=>Mp own (j+1) l
def drV (L0:SLS tb):List (JV tb)->List Nat
 | []=>[]
 | .val t _ own::r=>(match own with
   | []=>drV L0 r
   |_::_=>(match find t L0.e with|some x=>Mp own 0 (kT x)|none=>[])++drV L0 r)
 | .blk t _ own::r=>(match own with
   | []=>drV L0 r
   |_::_=>(match xU L0 t with|some id=>(match find id L0.h with|some (.cells l)=>Mp own 0 l|_=>[])|none=>[])++drV L0 r)
 | .arr _ _ _::r=>drV L0 r
 | .itr _::r=>drV L0 r
def drX (L0:SLS tb):List Nat->List Nat
 | []=>[]
 |t::r=>match find t L0.e with
  |some (.ptr id _)=>id::drX L0 r
  |some (.rw id _)=>id::drX L0 r
  |_=>drX L0 r
def drN (L0:SLS tb)(A:JA tb):List Nat:=drV L0 A.vars++drX L0 A.xdr
def Wc:List Nat->VP tb
 | []=>[]
 |t::r=>(t,.undef)::Wc r
def Po:List Nat->Gn tb
 | []=>[]
 |t::r=>(t,.drop)::Po r
def stJ (cx:Ctx P tb)(L0:SLS tb)(asg:List Nat)(A:JA tb)(v:VT A.vars):SLS tb:=
 {e:=(PL cx L0 A.vars v L0.nx).1++(Wc asg++L0.e),s:=L0.s,h:=(PL cx L0 A.vars v L0.nx).2++L0.h,nx:=L0.nx+jcm A.vars,gn:=Po (drN L0 A)++L0.gn}
def mN {α:Type}(f:Nat->Bool):Nat->List (Nat × α)->Bool
 |0,_=>true
 |_+1,[]=>true
 |n+1,(k,_)::l=>match f k with|true=>mN f n l|false=>false
theorem XY {α:Type}{f:Nat->Bool}:∀{p b:List (Nat × α)},mN f p.length (p++b)=true->∀q∈p,f q.1=true
 | [],_,_,q,hq=>by cases hq
 |(k,x)::p,b,h,q,hq=>by
  simp only[List.cons_append,List.length_cons,mN]at h
  split at h
  ·rename_i hk
   rcases List.mem_cons.1 hq with rfl|hq
   ·exact hk
   ·exact XY h q hq
  ·cases h
def Vf:List (Option Nat)->List Nat
 | []=>[]
 |some i::r=>i::Vf r
 |none::r=>Vf r
def jlD (f:Nat->Bool):List Nat->Bool
 | []=>true
 |x::l=>match f x with|true=>jlD f l|false=>false
theorem jhs {f:Nat->Bool}:∀{l:List Nat},jlD f l=true->∀x∈l,f x=true
 | [],_,x,hx=>by cases hx
 |y :: l,h,x,hx=>by
  unfold jlD at h
  split at h
  ·rename_i hy
   rcases List.mem_cons.1 hx with rfl|hx
   ·exact hy
   ·exact jhs h x hx
  ·cases h
def jdr:List Nat->Bool
 | []=>true
 |x::l=>match WR x l with|true=>false|false=>jdr l
theorem jdq:∀{l:List Nat},jdr l=true->l.Nodup
 | [],_=>.nil
 |x :: l,h=>by
  unfold jdr at h
  split at h
  ·cases h
  ·rename_i hm
   exact List.nodup_cons.2 ⟨fun hx=>(by rw[Xs.2 hx]at hm;cases hm),jdq h⟩
def jcx (g:Gn tb):VP tb->Bool
 | []=>true
 |(_,x)::l=>match x.has (Qh g)with|true=>(match Uv x with|true=>jcx g l|false=>false)|false=>false
theorem Pa {g:Gn tb}:∀{l:VP tb},jcx g l=true->∀p∈l,p.2.has (Qh g)=true/\Uv p.2=true
 | [],_,p,hp=>by cases hp
 |(_, x)::l,h,p,hp=>by
  unfold jcx at h
  split at h
  ·rename_i h1
   split at h
   ·rename_i h2
    rcases List.mem_cons.1 hp with rfl|hp
    ·exact⟨h1,h2⟩
    ·exact Pa h p hp
   ·cases h
  ·cases h
def jiq (g:Gn tb):SHp tb->Bool
 | []=>true
 |(_,x)::l=>match x.has (Qh g)with|true=>jiq g l|false=>false
theorem jgq {g:Gn tb}:∀{l:SHp tb},jiq g l=true->∀p∈l,p.2.has (Qh g)=true
 | [],_,p,hp=>by cases hp
 |(_,x)::l,h,p,hp=>by
  unfold jiq at h
  split at h
  ·rename_i h1
   rcases List.mem_cons.1 hp with rfl|hp
   ·exact h1
   ·exact jgq h p hp
  ·cases h
def bids (L0:SLS tb):List (JV tb)->List Nat
 | []=>[]
 |v::r=>match v.bid L0 with|some id=>id::bids L0 r|none=>bids L0 r
theorem jjS {L0:SLS tb}:∀{l:List (JV tb)} {v id},v∈l->v.bid L0=some id->id∈bids L0 l
 |w :: r,v,id,hv,hid=>by
  rcases List.mem_cons.1 hv with rfl|hv
  ·simp only[bids];rw[hid];simp
  ·simp only[bids]
   have:=jjS hv hid
   split
   ·exact List.mem_cons_of_mem _ this
   ·exact this
def jbd (n:Nat)(dr:List Nat)(i:Nat):Bool:=match Nat.ble n i with|true=>true|false=>WR i dr
theorem MN {n dr i}(h:jbd n dr i=true):n<=i\/i∈dr:=by
 unfold jbd at h
 split at h
 ·exact .inl (Nat.le_of_ble_eq_true ‹_›)
 ·exact .inr (Xs.1 h)
def unJ (cx:Ctx P tb)(L0:SLS tb)(asg:List Nat)(A:JA tb)(L1:SLS tb)(k:VT A.vars->Option ρ):Option ρ:=
 got (unVs cx L0 L1 A.vars) fun p=>
 tst (mN (fun t=>WR t asg) (L1.e.length - L0.e.length) L1.e) <|
 tst (mN (fun i=>match find i (PL cx L0 A.vars p.1 L0.nx).2 with|some _=>true|none=>jbd L0.nx (drN L0 A) i) (L1.h.length - L0.h.length) L1.h) <|
 tst (mN (jbd L0.nx (drN L0 A)) (L1.gn.length - L0.gn.length) L1.gn) <|
 tst (jlD (jbd L0.nx (drN L0 A)) (Vf p.2)) <|tst (jdr (Vf p.2)) <|
 tst (jlD (fun i=>match ltN L0.nx i with|true=>(match WR i (drN L0 A)with|true=>false|false=>(match WR i (Vf p.2)with|true=>false|false=>true))|false=>false) (bids L0 A.vars)) <|
 tst (jcx (Po (drN L0 A)++L0.gn) (PL cx L0 A.vars p.1 L0.nx).1) <|tst (jiq (Po (drN L0 A)++L0.gn) (PL cx L0 A.vars p.1 L0.nx).2) <|k p.1
end
end
section
open Go.RowKit
variable [GlC]
def prs:Nat->List (Option Nat)->List (Nat × Nat)
 |_,[]=>[]
 |k,some id::r=>(id,k)::prs (k+1) r
 |k,none::r=>prs (k+1) r
theorem xn:∀{ns:List (Option Nat)} {k a b},(a,b)∈prs k ns↔∃j,ns[j]? = some (some a)/\b=k+j
 | [],k,a,b=>by simp[prs]
 |some id::r,k,a,b=>by
  simp only[prs,List.mem_cons,Prod.mk.injEq,xn (ns:=r)]
  constructor
  ·rintro(⟨rfl,rfl⟩|⟨j,h1,h2⟩)
   ·exact⟨0,rfl,rfl⟩
   ·exact⟨j+1,by simpa using h1,by omega⟩
  ·rintro⟨j,h1,h2⟩
   cases j with
   |zero=>simp at h1;exact .inl ⟨h1.symm,h2⟩
   |succ j=>exact .inr ⟨j,by simpa using h1,by omega⟩
 |none::r,k,a,b=>by
  simp only[prs,xn (ns:=r)]
  constructor
  ·rintro⟨j,h1,h2⟩;exact⟨j+1,by simpa using h1,by omega⟩
  ·rintro⟨j,h1,h2⟩
   cases j with
   |zero=>simp at h1
   |succ j=>exact⟨j,by simpa using h1,by omega⟩
theorem MF:∀{ns:List (Option Nat)} {k},(prs k ns).map (·.1)=Vf ns
 | [],_=>rfl
 |some i::r,k=>by simp[prs,Vf,MF (ns:=r)]
 |none::r,k=>by simp[prs,Vf,MF (ns:=r)]
theorem ZO {α:Type}{t:Nat}{x:α}:∀{l:List (Nat × α)},find t l=some x->(t,x)∈l
 | [],h=>by simp[find]at h
 |(k,y)::l,h=>by
  rw[jk]at h
  split at h
  ·rename_i hk;subst hk;cases h;simp
  ·exact List.mem_cons_of_mem _ (ZO h)
theorem uS {α:Type}{t:Nat}{x:α}:∀{l:List (Nat × α)},(l.map (·.1)).Nodup->(t,x)∈l->find t l=some x
 |(k,y)::l,hn,h=>by
  rw[List.map_cons,List.nodup_cons]at hn
  rw[jk]
  rcases List.mem_cons.1 h with h|h
  ·cases h;rw[if_pos rfl]
  ·rw[if_neg,uS hn.2 h]
   rintro rfl
   exact hn.1 (List.mem_map.2 ⟨_,h,rfl⟩)
theorem Xu {α:Type}{t:Nat}:∀{l:List (Nat × α)},(∀p∈l,p.1≠t)->find t l=none
 | [],_=>rfl
 |(k,y)::l,h=>by
  rw[jk,if_neg (h (k,y) (by simp)),Xu fun p hp=>h p (List.mem_cons_of_mem _ hp)]
def jhC:List (Nat × Nat)->List (Nat × Nat):=List.map fun p=>(p.2,p.1)
def qJ (n:Nat)(ps:List (Nat × Nat))(a:Nat):Option Nat:=match find a ps with|some b=>some b|none=>if a<n then some a else none
def rJ (n:Nat)(ps:List (Nat × Nat))(b:Nat):Option Nat:=match find b (jhC ps)with|some a=>some a|none=>if b<n/\find b ps=none then some b else none
theorem MG {ns:List (Option Nat)}{k a b}(hn:(Vf ns).Nodup):find a (prs k ns)=some b↔(a,b)∈prs k ns:=
 ⟨ZO,uS (by rw[MF];exact hn)⟩
theorem xr:∀{ns:List (Option Nat)} {k},((jhC (prs k ns)).map (·.1)).Nodup/\∀b∈(jhC (prs k ns)).map (·.1),k<=b
 | [],_=>by simp[prs,jhC]
 |none::r,k=>by
  obtain⟨h1,h2⟩:=xr (ns:=r) (k:=k+1)
  exact⟨h1,fun b hb=>by have:=h2 b hb;omega⟩
 |some i::r,k=>by
  obtain⟨h1,h2⟩:=xr (ns:=r) (k:=k+1)
  simp only[prs,jhC,List.map_cons]at h1 h2⊢
  refine⟨List.nodup_cons.2 ⟨fun h=>?_,h1⟩,?_⟩
  ·have:=h2 k h;omega
  ·intro b hb
   rcases List.mem_cons.1 hb with rfl|hb
   ·exact Nat.le_refl _
   ·have:=h2 b hb;omega
theorem Wm {ns:List (Option Nat)}{k a b}:find b (jhC (prs k ns))=some a↔(a,b)∈prs k ns:=by
 constructor
 ·intro h
  have:=ZO h
  obtain⟨p,hp,he⟩:=List.mem_map.1 this
  cases he;exact hp
 ·intro h
  exact uS xr.1 (List.mem_map.2 ⟨_,h,rfl⟩)
theorem jfN {n ns a b}(hn:(Vf ns).Nodup):qJ n (prs n ns) a=some b↔rJ n (prs n ns) b=some a:=by
 have val:∀{x y},(x,y)∈prs n ns->n<=y:=fun h=>by obtain⟨j,-,h⟩:=xn.1 h;omega
 constructor
 ·intro h
  unfold qJ at h
  split at h
  ·rename_i b' hf
   cases h
   unfold rJ
   rw[Wm.2 ((MG hn).1 hf)]
  ·rename_i hf
   split at h
   ·rename_i hlt
    cases h
    unfold rJ
    split
    ·rename_i a' ha
     have:=val (Wm.1 ha)
     omega
    ·rw[if_pos ⟨hlt,hf⟩]
   ·cases h
 ·intro h
  unfold rJ at h
  split at h
  ·rename_i a' ha
   cases h
   unfold qJ
   rw[(MG hn).2 (Wm.1 ha)]
  ·split at h
   ·rename_i h2
    cases h
    unfold qJ
    rw[h2.2]
    simp only
    rw[if_pos h2.1]
   ·cases h
section
variable {P:Program} {tb:Tb} {ρ:Type} {cx:Ctx P tb}
theorem uE:∀{l:List Nat} {t x},find t (Wc (tb:=tb) l)=some x->x=.undef
 | [],_,_,h=>by simp[Wc,find]at h
 |k::l,t,x,h=>by
  simp only[Wc]at h
  rw[jk]at h
  split at h
  ·cases h;rfl
  ·exact uE h
theorem pw:∀{l:List Nat} {t},find t (Wc (tb:=tb) l)=none->t∉l
 | [],_,_=>by simp
 |k :: l,t,h=>by
  simp only[Wc]at h
  rw[jk]at h
  split at h
  ·cases h
  ·rename_i hk
   simp only[List.mem_cons,not_or]
   exact⟨Ne.symm hk,pw h⟩
theorem xO:∀{l:List Nat} {t},t∈l->find t (Po (tb:=tb) l)=some .drop
 |k :: l,t,h=>by
  simp only[Po]
  rw[jk]
  split
  ·rfl
  ·rename_i hk
   rcases List.mem_cons.1 h with rfl|h
   ·exact absurd rfl hk
   ·exact xO h
theorem mW:∀{l:List Nat} {t},t∉l->find t (Po (tb:=tb) l)=none
 | [],_,_=>rfl
 |k::l,t,h=>by
  simp only[List.mem_cons,not_or]at h
  simp only[Po]
  rw[jk,if_neg (Ne.symm h.1)]
  exact mW h.2
theorem MH {α:Type}{t:Nat}{p b:List (Nat × α)}(h:∀q∈p,q.1≠t):find t (p++b)=find t b:=Jz (Xu h)
theorem jc6 {L0 L1:SLS tb}{asg A}{k:VT A.vars->Option ρ}{r}(hwf:Wf L0)(hi:RI [] L0.e)(x:Ext L0 L1)(h:unJ cx L0 asg A L1 k=some r):
 ∃v,k v=some r/\RI [] (stJ cx L0 asg A v).e/\Ext L0 (stJ cx L0 asg A v)/\zh L1.av (stJ cx L0 asg A v).av:=by
 unfold unJ at h
 obtain⟨⟨v,ns⟩,hp,h⟩:=jd h
 obtain⟨c1,h⟩:=jM h
 obtain⟨c2,h⟩:=jM h
 obtain⟨c3,h⟩:=jM h
 obtain⟨c4,h⟩:=jM h
 obtain⟨c5,h⟩:=jM h
 obtain⟨c6,h⟩:=jM h
 obtain⟨c7,h⟩:=jM h
 obtain⟨c8,h⟩:=jM h
 obtain⟨xs,⟨pe,he⟩,⟨ph,hh⟩,xnx,⟨pg,hg⟩⟩:=x
 have hlenE:L1.e.length - L0.e.length=pe.length:=by rw[he,List.length_append];omega
 have hlenH:L1.h.length - L0.h.length=ph.length:=by rw[hh,List.length_append];omega
 have hlenG:L1.gn.length - L0.gn.length=pg.length:=by rw[hg,List.length_append];omega
 rw[hlenE,he]at c1
 rw[hlenH,hh]at c2
 rw[hlenG,hg]at c3
 have d1:=XY c1
 have d2:=XY c2
 have d3:=XY c3
 have d4:=jhs c4
 have hn:=jdq c5
 have d6:=jhs c6
 have d7:=Pa c7
 have d8:=jgq c8
 have hlen:=jc5 hp
 refine⟨v,h,?_,⟨rfl,⟨_,by unfold stJ;rw[<-List.append_assoc]⟩,⟨_,rfl⟩,Nat.le_add_right _ _,⟨_,rfl⟩⟩,?_⟩
 ·intro t G y hf
  exfalso
  have hf:find t ((PL cx L0 A.vars v L0.nx).1++(Wc asg++L0.e))=some (.opt G y):=hf
  cases h1:find t (PL cx L0 A.vars v L0.nx).1 with
  |some z=>
   rw[Jy h1]at hf
   cases hf
   have:=(d7 _ (ZO h1)).2
   cases this
  |none=>
   rw[Jz h1]at hf
   cases h2:find t (Wc (tb:=tb) asg)with
   |some z=>
    rw[Jy h2]at hf
    have:=uE h2
    subst this;cases hf
   |none=>
    rw[Jz h2]at hf
    obtain⟨-,g2,g3⟩:=hi t G y hf
    cases G with
    |nil=>exact g2 rfl
    |cons g G=>have:=g3 g (by simp);simp at this
 -- names
 let nx0:=L0.nx
 let q:=qJ L0.nx (prs L0.nx ns)
 let rr:=rJ L0.nx (prs L0.nx ns)
 let nils:Nat->Bool:=fun b=>decide (L0.nx<=b/\b<L0.nx+ns.length/\find b (jhC (prs L0.nx ns))=none)
 let g':Gn tb:=Po (drN L0 A)++L0.gn
 have gfind:∀id,id∉drN L0 A->find id g'=find id L0.gn:=fun id hid=>Jz (mW hid)
 have g1find:∀id,id<L0.nx->id∉drN L0 A->find id L1.gn=find id L0.gn:=by
  intro id hlt hid
  rw[hg]
  refine MH ?_
  rintro p hp rfl
  rcases MN (d3 p hp)with h|h
  ·omega
  ·exact hid h
 have own_no:∀id,id<L0.nx->id∉drN L0 A->find id (prs L0.nx ns)=none:=by
  intro id hlt hid
  cases hf:find id (prs L0.nx ns)with
  |none=>rfl
  |some b=>
   exfalso
   have hm:id∈(prs L0.nx ns).map (·.1):=List.mem_map.2 ⟨_,ZO hf,rfl⟩
   rw[MF]at hm
   rcases MN (d4 id hm)with h|h
   ·omega
   ·exact hid h
 have qid:∀id,id<L0.nx->find id (prs L0.nx ns)=none->q id=some id:=by
  intro id hlt hf
  show qJ _ _ _=_
  unfold qJ;rw[hf];simp only;rw[if_pos hlt]
 have valn:∀{a b},(a,b)∈prs L0.nx ns->L0.nx<=b/\b<L0.nx+ns.length:=by
  intro a b hab
  obtain⟨j,h1,h2⟩:=xn.1 hab
  have:j<ns.length:=by
   rcases Nat.lt_or_ge j ns.length with h|h
   ·exact h
   ·rw[List.getElem?_eq_none h]at h1;cases h1
  omega
 have rid:∀id,id<L0.nx->find id (prs L0.nx ns)=none->rr id=some id:=by
  intro id hlt hf
  exact(jfN hn).1 (qid id hlt hf)
 have hres:ResQ L1.gn g' q L0.nx:=by
  intro id hlt
  by_cases hid:id∈drN L0 A
  ·exact .inl (Jy (xO hid))
  ·refine .inr ⟨by rw[gfind id hid,g1find id hlt hid],fun _=>qid id hlt (own_no id hlt hid)⟩
 have hseg:Seg q rr nils L0.nx ns:=by
  intro j
  refine⟨fun id hid=>?_,fun hnone=>?_⟩
  ·have hm:(id,L0.nx+j)∈prs L0.nx ns:=xn.2 ⟨j,hid,rfl⟩
   have hf:=(MG hn).2 hm
   have h1:q id=some (L0.nx+j):=by show qJ _ _ _=_;unfold qJ;rw[hf]
   exact⟨h1,(jfN hn).1 h1⟩
  ·have hf:find (L0.nx+j) (jhC (prs L0.nx ns))=none:=by
    cases hf:find (L0.nx+j) (jhC (prs L0.nx ns))with
    |none=>rfl
    |some a=>
     exfalso
     obtain⟨j',h1,h2⟩:=xn.1 (Wm.1 hf)
     have:j'=j:=by omega
     subst this
     rw[hnone]at h1;cases h1
   have hj:j<ns.length:=by
    rcases Nat.lt_or_ge j ns.length with h|h
    ·exact h
    ·rw[List.getElem?_eq_none h]at hnone;cases hnone
   refine⟨?_,?_⟩
   ·show decide _=true
    rw[decide_eq_true_iff]
    exact⟨by omega,by omega,hf⟩
   ·show rJ _ _ _=_
    unfold rJ;rw[hf];simp only
    rw[if_neg (by omega)]
 have hbid:∀w∈A.vars,∀id,w.bid L0=some id->id<L0.nx/\id∉drN L0 A/\rr id=some id:=by
  intro w hw id hid
  have:=d6 id (jjS hw hid)
  split at this
  ·rename_i h1
   split at this
   ·cases this
   ·rename_i h2
    have h2':id∉drN L0 A:=fun h=>by rw[Xs.2 h]at h2;cases h2
    exact⟨jbg h1,h2',rid id (jbg h1) (own_no id (jbg h1) h2')⟩
  ·cases this
 obtain⟨good1,good2⟩:=jff (q:=q) (r:=rr) (nils:=nils) hp hseg (fun w hw id hid=>(hbid w hw id hid).2.2)
 have hfe:∀(e:VP tb),wfE L0.nx e=true->∀t x0,find t e=some x0->Xy nils ((x0.res L1.gn).av.re q) (x0.res g').av:=
  fun e hwe t x0 hf=>(xd hres (jhL hwe t x0 hf)).n
 refine LS.ren.kc (q:=q) (r:=rr) (nils:=nils) ⟨fun a b=>jfN hn,?_,?_,?_,?_,?_⟩
 ·intro t y hf
  have hf:find t (avE g' ((PL cx L0 A.vars v L0.nx).1++(Wc asg++L0.e)))=some y:=hf
  rw[YR]at hf
  obtain⟨z,hz,rfl⟩:=Option.map_eq_some_iff.1 hf
  cases h1:find t (PL cx L0 A.vars v L0.nx).1 with
  |some w=>
   rw[Jy h1]at hz
   cases hz
   refine .inr ?_
   rw[kp (d7 _ (ZO h1)).1]
   exact good1 _ (ZO h1)
  |none=>
   rw[Jz h1]at hz
   cases h2:find t (Wc (tb:=tb) asg)with
   |some w=>
    rw[Jy h2]at hz
    have:=uE h2
    subst this
    cases hz;exact .inl rfl
   |none=>
    rw[Jz h2]at hz
    have hna:=pw h2
    refine .inr ⟨(z.res L1.gn).av,?_,hfe L0.e hwf.e t z hz⟩
    show find t (avE L1.gn L1.e)=_
    rw[YR,he,MH (fun p hp=>by rintro rfl;exact hna (Xs.1 (d1 p hp))),hz];rfl
 ·refine jc1 ?_ ?_
  ·show(L0.s.map _).length=(L1.s.map _).length
   rw[xs];simp
  ·intro i e e' h1 h2
   have h1:(L1.s.map (avE L1.gn))[i]? = some e:=h1
   have h2:(L0.s.map (avE g'))[i]? = some e':=h2
   rw[xs,List.getElem?_map]at h1
   rw[List.getElem?_map]at h2
   cases hs:L0.s[i]? with
   |none=>rw[hs]at h1;cases h1
   |some e0=>
    rw[hs]at h1 h2
    cases h1;cases h2
    intro t y hf
    rw[YR]at hf
    obtain⟨z,hz,rfl⟩:=Option.map_eq_some_iff.1 hf
    exact .inr ⟨(z.res L1.gn).av,by rw[YR,hz];rfl,hfe e0 (jhJ hwf.s i e0 hs) t z hz⟩
 ·intro id b hf
  have hf:find id (avH g' ((PL cx L0 A.vars v L0.nx).2++L0.h))=some b:=hf
  rw[zO]at hf
  split at hf
  ·rename_i hk
   obtain⟨c,hc,rfl⟩:=Option.map_eq_some_iff.1 hf
   cases h1:find id (PL cx L0 A.vars v L0.nx).2 with
   |some w=>
    rw[Jy h1]at hc
    cases hc
    rw[SC.kp (d8 _ (ZO h1))]
    exact good2 _ (ZO h1)
   |none=>
    rw[Jz h1]at hc
    obtain⟨hlt,hhas⟩:=jhK hwf.h id c hc
    have hk:=kz hk
    have hnd:id∉drN L0 A:=fun h=>by rw[Jy (xO h)]at hk;cases hk
    have hg0:find id L1.gn=none:=by rw[g1find id hlt hnd,<-gfind id hnd];exact hk
    refine .inr ⟨id,(c.res L1.gn).av,rid id hlt (own_no id hlt hnd),?_,?_⟩
    ·show find id (avH L1.gn L1.h)=_
     rw[zO]
     have:Qh L1.gn id=true:=by unfold Qh;rw[hg0]
     rw[if_pos this,hh,MH,hc]
     ·rfl
     ·rintro p hp rfl
      have:=d2 p hp
      split at this
      ·rename_i hb
       rw[h1]at hb;cases hb
      ·rcases MN this with h|h
       ·omega
       ·exact hnd h
    ·cases c with
     |cells cl=>exact(VY hres hhas).n
     |arr E1 l1=>
      show Vt _ (reL q (elC tb E1 l1)) (elC tb E1 l1)
      rw[yz (show JS (elC tb E1 l1)=true from ZZ cx l1)]
      exact(KF.refl _).n
     |iter s p=>exact⟨rfl,rfl⟩
  ·cases hf
 ·intro d hd
  have hd:L0.nx+jcm A.vars<=d:=hd
  rw[<-hlen]at hd
  refine⟨?_,fun a ha=>?_⟩
  ·show decide _=false
   rw[decide_eq_false_iff_not];omega
  ·exfalso
   have ha:rJ L0.nx (prs L0.nx ns) d=some a:=ha
   unfold rJ at ha
   split at ha
   ·rename_i a' hf
    have:=(valn (Wm.1 hf)).2
    omega
   ·rw[if_neg (by omega)]at ha;cases ha
 ·intro d hd
  have hd:decide (L0.nx<=d/\d<L0.nx+ns.length/\find d (jhC (prs L0.nx ns))=none)=true:=hd
  rw[decide_eq_true_iff]at hd
  show rJ _ _ _=_
  unfold rJ
  rw[hd.2.2]
  simp only
  rw[if_neg (by omega)]
end
end
section
open Go.RowKit
variable [GlC]
section
variable {P:Program} {tb:Tb} {ρ:Type} {cx:Ctx P tb}
/-! results -/
def resS (P:Program)(L:SLS tb):ResultVar->Option (SV tb)
 | .tmp t=>got (find t L.e) fun x=>some (x.res L.gn)
 | .cell t ty=>got (xU L t) fun id=>got (Vl L id) fun l=>got (tAg P ty) fun ag=>match ag with
   |true=>got (tSz P ty) fun n=>tst (Nat.ble n l.length) (some (.agg (l.take n)))
   |false=>match l with
    | []=>none
    |x::_=>some x
def Ur (P:Program)(L:SLS tb):List ResultVar->Option (List (SV tb))
 | []=>some []
 |r::rs=>got (resS P L r) fun x=>got (Ur P L rs) fun l=>some (x::l)
theorem jly {L:SLS tb}{t id}(h:xU L t=some id)(hk:Qh L.gn id=true):find t L.av.e=some (.ptr id 0):=by
 unfold xU at h
 split at h
 ·rename_i i off hf
  obtain⟨h1,h⟩:=jM h
  cases h
  have:=Nat.eq_of_beq_eq_true h1
  subst this
  show find t (avE L.gn L.e)=_
  rw[YR,hf]
  simp only[Option.map_some,SV.res]
  rw[kz hk];rfl
 ·cases h
theorem jkb {L:SLS tb}{v x}(h:resS P L v=some x):jbU P L.av v x.av:=by
 cases v with
 |tmp t=>
  obtain⟨y,hy,h⟩:=jd (show got (find t L.e) _=some x from h)
  cases h
  refine .tmp ?_
  show find t (avE L.gn L.e)=_
  rw[YR,hy];rfl
 |cell t ty=>
  obtain⟨id,hid,h⟩:=jd (show got (xU L t) _=some x from h)
  obtain⟨l,hl,h⟩:=jd h
  obtain⟨ag,hag,h⟩:=jd h
  have hk:Qh L.gn id=true:=by
   have:=hl;unfold Vl at this;split at this
   ·assumption
   ·cases this
  have hp:=jly hid hk
  have hl:=vG hl
  split at h
  ·obtain⟨n,hn,h⟩:=jd h
   obtain⟨hle,h⟩:=jM h
   cases h
   have:=jbU.agg (P:=P) (L:=L.av) n hp hl hag hn (by rw[yI];exact Nat.le_of_ble_eq_true hle)
   rw[<-KZ]at this
   exact this
  ·split at h
   ·cases h
   ·cases h
    exact .one hp hl hag
theorem VX {L:SLS tb}:∀{vs xs},Ur P L vs=some xs->kX P L.av vs (avL xs)
 | [],_,h=>by cases h;exact .nil
 |v::vs,xs,h=>by
  obtain⟨x,hx,h⟩:=jd (show got (resS P L v) _=some xs from h)
  obtain⟨l,hl,h⟩:=jd h
  cases h
  exact .cons (jkb hx) (VX hl)
def jlh (gs:List Nat):List ResultVar->SLS tb->(SLS tb->Option ρ)->Option ρ
 | [],L,k=>k L
 | .tmp t::r,L,k=>jlg gs t L fun L'=>jlh gs r L' k
 |_::r,L,k=>jlh gs r L k
theorem Pp (cx:Ctx P tb){gs}:∀{l:List ResultVar} {L:SLS tb} {k:SLS tb->Option ρ} {r},jlh gs l L k=some r->∃L',k L'=some r/\Gho gs L L'
 | [],L,k,r,h=>⟨L,h,.refl L⟩
 | .tmp t::l,L,k,r,h=>by
   obtain⟨L1,h1,g1⟩:=jcM cx (show jlg gs t L _=some r from h)
   obtain⟨L2,h2,g2⟩:=Pp cx h1
   exact⟨L2,h2,g1.trans g2⟩
 | .cell _ _::l,L,k,r,h=>Pp cx (l:=l) h
def Xq:List (SV tb)->Bool
 | []=>true
 |x::l=>match Uv x with|true=>Xq l|false=>false
theorem XW:∀{l:List (SV tb)},Xq l=true->∀x∈l,Uv x=true
 | [],_,x,h=>by cases h
 |y :: l,h,x,hx=>by
  unfold Xq at h
  split at h
  ·rcases List.mem_cons.1 hx with rfl|hx
   ·assumption
   ·exact XW h x hx
  ·cases h
def jaB:List (SV tb)->SV tb
 | [x]=>x
 |l=>.tup l
theorem jhO:∀l:List (SV tb),(jaB l).av=QW (avL l)
 | []=>rfl
 | [x]=>rfl
 |x::y::l=>rfl
theorem jfh {g:Gn tb}{l:List (SV tb)}(h:uL g l=l):(jaB l).res g=jaB l:=by
 match l,h with
 | [],h=>rfl
 | [x],h=>simp only[uL,List.cons.injEq,and_true]at h;exact h
 |x::y::l,h=>show SV.tup (uL g (x::y::l))=_;rw[h];rfl
theorem jfi {l:List (SV tb)}(h:Xq l=true):Uv (jaB l)=true:=by
 match l,h with
 | [],h=>rfl
 | [x],h=>exact XW h x (by simp)
 |x::y::l,h=>rfl
def jcK:Nat->List (SV tb)->VP tb
 |_,[]=>[]
 |k,x::l=>(k,x)::jcK (k+1) l
theorem jcJ {g:Gn tb}:∀{l:List (SV tb)} {k},uL g l=l->avE g (jcK k l)=QE k (avL l)
 | [],_,_=>rfl
 |x::l,k,h=>by
  simp only[uL,List.cons.injEq]at h
  have ih:=jcJ (g:=g) (l:=l) (k:=k+1) h.2
  show(k,(x.res g).av)::avE g (jcK (k+1) l)=(k,x.av)::QE (k+1) (avL l)
  rw[ih,h.1]
theorem jaa {t:Nat}{x:SV tb}:∀{l:List (SV tb)} {k},find t (jcK k l)=some x->x∈l
 | [],_,h=>by simp[jcK,find]at h
 |y::l,k,h=>by
  simp only[jcK]at h
  rw[jk]at h
  split at h
  ·cases h;simp
  ·exact List.mem_cons_of_mem _ (jaa h)
end
end
section
open Go.RowKit
variable [GlC]
def Join {V ρ:Type}(K:V->Option ρ)(b:(V->Option ρ)->Option ρ):Option ρ:=b K
def asgO:List Oper->List Nat
 | []=>[]
 |o::os=>match o.dst with|some d=>d::asgO os|none=>asgO os
def mw:Code->List Nat
 | .region _ ops _=>asgO ops.toList
 | .seq a b=>mw a++mw b
 | .cond _ a b=>mw a++mw b
 | .block _ a=>mw a
 | .loop a=>mw a
 |_=>[]
section
variable {tb:Tb}
def An.j:An tb->Option (JA tb)
 | .n=>none
 | .t j _ _=>j
def An.l:An tb->An tb
 | .n=>.n
 | .t _ a _=>a
def An.r:An tb->An tb
 | .n=>.n
 | .t _ _ b=>b
end
section
variable {P:Program} {tb:Tb} {ρ:Type} {cx:Ctx P tb}
def jgf (body:SLS tb->(Kj->SLS tb->Option ρ)->Option ρ):Nat->SLS tb->(Kj->SLS tb->Option ρ)->Option ρ
 |0,_,_=>none
 |n+1,L,k=>body L fun e L'=>match e with
  | .normal=>jgf body n L' k
  |e=>k e L'
noncomputable def exec (cx:Ctx P tb)(I:Iln P tb ρ)(im:Nat->Bool)(bar:Nat->Nat)(N:Nat):Code->An tb->SLS tb->(Kj->SLS tb->Option ρ)->Option ρ
 | .skip,_,L,k=>k .normal L
 | .region id ops draw,_,L,k=>runR cx I im N draw (bar id) ops L (k .normal)
 | .seq a b,n,L,k=>(match n.j with
   |none=>exec cx I im bar N a n.l L fun e L'=>match e with
    | .normal=>exec cx I im bar N b n.r L' k
    |e=>k e L'
   |some A=>jhD L A.vars L fun L=>tst (wf L) <|Join (fun v=>exec cx I im bar N b n.r (stJ cx L (mw a) A v) k) fun J=>exec cx I im bar N a n.l L fun e L'=>match e with
    | .normal=>jhD L A.vars L' fun L2=>unJ cx L (mw a) A L2 J
    |e=>k e L')
 | .cond c a b,n,L,k=>got (opd L [] c) fun x=>(match x with
   | .con (.bool t)=>(match t with|true=>exec cx I im bar N a n.l L k|false=>exec cx I im bar N b n.r L k)
   | .bo t=>If t (exec cx I im bar N a n.l L k) (exec cx I im bar N b n.r L k)
   |_=>none)
 | .block id a,n,L,k=>exec cx I im bar N a n.l L fun e L'=>match e with
   | .exit j=>(match Nat.beq j id with|true=>k .normal L' |false=>k (.exit j) L')
   |e=>k e L'
 | .loop a,n,L,k=>(match n.j with
   |none=>jgf (fun L k=>exec cx I im bar N a n.l L k) 8 L k
   |some A=>jhD L A.vars L fun L=>tst (wf L) <|unJ cx L (mw a) A L fun v0=>Yg (fun rec v=>exec cx I im bar N a n.l (stJ cx L (mw a) A v) fun e L'=>match e with
    | .normal=>jhD L A.vars L' fun L2=>unJ cx L (mw a) A L2 rec
    |e=>k e L') fuel v0)
 | .exit id,_,L,k=>k (.exit id) L
 | .ret,_,L,k=>k .ret L
 |_,_,_,_=>none
def EndOk (L:SLS tb)(k:Kj->SLS tb->Option ρ)(r:ρ)(e:Kj)(Lf:LS):Prop:=∃L',k e L'=some r/\RI [] L'.e/\Ext L L'/\zh Lf L'.av
theorem Wp.post {P N c Q Q' L}(h:Wp P N c Q L)(hq:∀e Lf,Q e Lf->∃L2,zh Lf L2/\Q' e L2):Wp P N c Q' L:=
 fun _ _ _ _ _ _ _ s Qc hc=>h _ _ _ _ _ _ _ s Qc fun e L' a' w' m' bl' q s'=>
  let ⟨L2,t,q2⟩:=hq e L' q
  let ⟨_,_,s2⟩:=t _ _ _ _ _ _ _ _ s'
  hc e L2 a' w' _ _ q2 s2
theorem Zv {I:Iln P tb ρ}(hI:PK I){im bar N}:∀{c:Code} {n:An tb} {L:SLS tb} {k:Kj->SLS tb->Option ρ} {r},RI [] L.e->exec cx I im bar N c n L k=some r->Wp P N c (EndOk L k r) L.av
 | .skip,n,L,k,r,hi,h=>Wp.skip ⟨L,h,hi,.refl L,.refl _⟩
 | .region id ops draw,n,L,k,r,hi,h=>jj8 hI hi (show runR cx I im N draw (bar id) ops L (k .normal)=some r from h) fun L' h' hi' x' L0 ht=>⟨L',h',hi',x',ht⟩
 | .exit id,n,L,k,r,hi,h=>Wp.exit ⟨L,h,hi,.refl L,.refl _⟩
 | .ret,n,L,k,r,hi,h=>Wp.ret ⟨L,h,hi,.refl L,.refl _⟩
 | .block id a,n,L,k,r,hi,h=>by
   refine Wp.block ((Zv hI (c:=a) hi (show exec cx I im bar N a n.l L _=some r from h)).mono ?_)
   rintro e Lf ⟨L',h',hi',x',ht⟩
   cases e with
   |normal=>exact⟨L',h',hi',x',ht⟩
   |ret=>exact⟨L',h',hi',x',ht⟩
   |exit j=>
    simp only[Kj.inBlock]
    have h':(match Nat.beq j id with|true=>k .normal L' |false=>k (.exit j) L')=some r:=h'
    split at h'
    ·rename_i hb
     rw[if_pos (Nat.eq_of_beq_eq_true hb)]
     exact⟨L',h',hi',x',ht⟩
    ·rename_i hb
     rw[if_neg (fun he=>by subst he;rw[Nat.beq_refl]at hb;cases hb)]
     exact⟨L',h',hi',x',ht⟩
 | .cond c a b,n,L,k,r,hi,h=>by
   obtain⟨x,hx,h2⟩:=jd (show got (opd L [] c) _=some r from h)
   clear h
   have hy:=Jl (Gu.nil hi.inv) hx
   cases x with
   |con v=>
    cases v with
    |bool t=>
     cases t with
     |true=>exact Wp.cond (t:=true) hy (fun _=>Zv hI hi h2) (fun h=>by cases h)
     |false=>exact Wp.cond (t:=false) hy (fun h=>by cases h) (fun _=>Zv hI hi h2)
    |_=>cases h2
   |bo t=>
    have h3:(if t=true then exec cx I im bar N a n.l L k else exec cx I im bar N b n.r L k)=some r:=h2
    refine Wp.cond (t:=t) hy (fun ht=>?_) (fun ht=>?_)
    ·rw[if_pos ht]at h3;exact Zv hI hi h3
    ·rw[if_neg (by rw[ht];simp)]at h3;exact Zv hI hi h3
   |_=>cases h2
 | .seq a b,n,L,k,r,hi,h=>by
   have h:(match n.j with
    |none=>exec cx I im bar N a n.l L fun e L'=>match e with
     | .normal=>exec cx I im bar N b n.r L' k
     |e=>k e L'
    |some A=>jhD L A.vars L fun L=>tst (wf L) <|Join (fun v=>exec cx I im bar N b n.r (stJ cx L (mw a) A v) k) fun J=>exec cx I im bar N a n.l L fun e L'=>match e with
     | .normal=>jhD L A.vars L' fun L2=>unJ cx L (mw a) A L2 J
     |e=>k e L')=some r:=h
   split at h
   ·refine Wp.seq ((Zv hI (c:=a) hi h).mono ?_)
    rintro e Lf ⟨L',h',hi',x',ht⟩
    cases e with
    |normal=>
     refine Wp.kc ht ((Zv hI (c:=b) hi' h').mono ?_)
     rintro e Lf ⟨L2,h2,hi2,x2,ht2⟩
     exact⟨L2,h2,hi2,x'.trans x2,ht2⟩
    |exit j=>exact⟨L',h',hi',x',ht⟩
    |ret=>exact⟨L',h',hi',x',ht⟩
   ·rename_i A _
    obtain⟨L9,h,g9⟩:=MI cx h
    have hi:=g9.i hi
    obtain⟨hw,h⟩:=jM h
    have h:=(show exec cx I im bar N a n.l L9 _=some r from h)
    refine Wp.kc g9.t (Wp.seq ((Zv hI (c:=a) hi h).mono ?_))
    rintro e Lf ⟨L',h',hi',x',ht⟩
    cases e with
    |normal=>
     obtain⟨L8,h',g8⟩:=MI cx h'
     obtain⟨v,h2,hi2,x2,ht2⟩:=jc6 (wf_e hw) hi (x'.trans g8.x) h'
     refine Wp.kc ((ht.trans g8.t).trans ht2) ((Zv hI (c:=b) hi2 h2).mono ?_)
     rintro e Lf ⟨L3,h3,hi3,x3,ht3⟩
     exact⟨L3,h3,hi3,g9.x.trans (x2.trans x3),ht3⟩
    |exit j=>exact⟨L',h',hi',g9.x.trans x',ht⟩
    |ret=>exact⟨L',h',hi',g9.x.trans x',ht⟩
 | .loop a,n,L,k,r,hi,h=>by
   have h:(match n.j with
    |none=>jgf (fun L k=>exec cx I im bar N a n.l L k) 8 L k
    |some A=>jhD L A.vars L fun L=>tst (wf L) <|unJ cx L (mw a) A L fun v0=>Yg (fun rec v=>exec cx I im bar N a n.l (stJ cx L (mw a) A v) fun e L'=>match e with
     | .normal=>jhD L A.vars L' fun L2=>unJ cx L (mw a) A L2 rec
     |e=>k e L') fuel v0)=some r:=h
   split at h
   ·refine Wp.loopS (fun L':SLS tb=>L'.av) (fun m L'=>jgf (fun L k=>exec cx I im bar N a n.l L k) m L' k=some r/\RI [] L'.e/\Ext L L') 8 L ⟨h,hi,.refl L⟩ (.refl _) ?_
    rintro m L1 ⟨hm,hi1,x1⟩
    cases m with
    |zero=>cases hm
    |succ m=>
     have hm:exec cx I im bar N a n.l L1 (fun e L'=>match e with
      | .normal=>jgf (fun L k=>exec cx I im bar N a n.l L k) m L' k
      |e=>k e L')=some r:=hm
     refine(Zv hI (c:=a) hi1 hm).mono ?_
     rintro e Lf ⟨L',h',hi',x',ht⟩
     cases e with
     |normal=>exact⟨m,L',Nat.lt_succ_self m,⟨h',hi',x1.trans x'⟩,ht⟩
     |exit j=>exact⟨L',h',hi',x1.trans x',ht⟩
     |ret=>exact⟨L',h',hi',x1.trans x',ht⟩
   ·rename_i A _
    obtain⟨L9,h,g9⟩:=MI cx h
    have hi:=g9.i hi
    obtain⟨hw,h⟩:=jM h
    have hw:=wf_e hw
    obtain⟨v0,h,hi0,x0,ht0⟩:=jc6 hw hi (.refl L9) h
    generalize hstep:(fun(rec:VT A.vars->Option ρ) v=>exec cx I im bar N a n.l (stJ cx L9 (mw a) A v) fun e L'=>match e with
     | .normal=>jhD L9 A.vars L' fun L2=>unJ cx L9 (mw a) A L2 rec
     |e=>k e L')=step at h
    refine Wp.kc g9.t (Wp.loopS (fun v=>(stJ cx L9 (mw a) A v).av) (fun m v=>Yg step m v=some r/\RI [] (stJ cx L9 (mw a) A v).e/\Ext L9 (stJ cx L9 (mw a) A v)) fuel v0 ⟨h,hi0,x0⟩ ht0 ?_)
    rintro m v ⟨hm,hiv,xv⟩
    cases m with
    |zero=>cases hm
    |succ m=>
     have hm:step (Yg step m) v=some r:=hm
     rw[<-hstep]at hm
     refine(Zv hI (c:=a) hiv hm).mono ?_
     rintro e Lf ⟨L',h',hi',x',ht⟩
     cases e with
     |normal=>
      obtain⟨L8,h',g8⟩:=MI cx h'
      obtain⟨v',h2,hi2,x2,ht2⟩:=jc6 hw hi ((xv.trans x').trans g8.x) h'
      rw[hstep]at h2
      exact⟨m,v',Nat.lt_succ_self m,⟨h2,hi2,x2⟩,(ht.trans g8.t).trans ht2⟩
     |exit j=>exact⟨L',h',hi',g9.x.trans (xv.trans x'),ht⟩
     |ret=>exact⟨L',h',hi',g9.x.trans (xv.trans x'),ht⟩
 | .rangeFunc _ _ _ _,n,L,k,r,hi,h=>by cases h
 | .scope _,n,L,k,r,hi,h=>by cases h
 | .label _,n,L,k,r,hi,h=>by cases h
 | .goto _,n,L,k,r,hi,h=>by cases h
 | .refuse _,n,L,k,r,hi,h=>by cases h
noncomputable def jk3 (cx:Ctx P tb)(I:Iln P tb ρ):Iln P tb ρ:=fun i xs d L gs k=>
 tst (Nat.ble xs.length i.fn.ntmps) <|tst (MX (Qh L.gn) xs) <|tst (Xq xs) <|
 exec cx I i.im i.bar i.fn.ntmps i.code i.an {L with e:=jcK 0 xs,s:=L.e::L.s} fun e L'=>match e with
 | .exit _=>none
 |_=>jlh [] i.fn.results.toList L' fun L'=>got (Ur P L' i.fn.results.toList) fun ys=>tst (MX (Qh L'.gn) ys) <|tst (Xq ys) <|k {L' with e:=(d,jaB ys)::L.e,s:=L.s} gs
theorem jiz {I:Iln P tb ρ}(hI:PK I):PK (jk3 cx I):=by
 intro i xs d L gs k r hi hm h N ops rest K o y args tys as qQ hg ho hd hN hy has hxs kk
 subst hxs
 unfold jk3 at h
 obtain⟨hle,h⟩:=jM h
 obtain⟨hkx,h⟩:=jM h
 obtain⟨hox,h⟩:=jM h
 have hkx:=Zz hkx
 have hE:RI [] (jcK 0 (as++qQ):VP tb):=by
  intro t G x hx
  have:=XW hox _ (jaa hx)
  cases this
 have key:=Zv hI hE h
 refine GoT.act hg (fun d' h'=>by rw[hd]at h';cases h';exact hN)
  (AEx.inl (L:=L.av) (K:=fun L1=>GoT P ops N rest K L1) (fn:=i.fn) (c:=i.code) (N2:=i.fn.ntmps) (xs:=avL as) (qQ:=avL qQ) ho hd i.hf i.hb rfl i.call hy has ?_ ?_) (fun L' h=>h)
 ·rw[<-Ya,yI];exact Nat.le_of_ble_eq_true hle
 ·have e0:(⟨jcK 0 (as++qQ),L.e::L.s,L.h,L.nx,L.gn⟩:SLS tb).av=⟨QE 0 (avL as++avL qQ),L.av.e::L.av.s,L.av.h,L.av.f⟩:=by
   show(⟨avE L.gn (jcK 0 (as++qQ)),_,_,_⟩:LS)=_
   rw[jcJ hkx,Ya];rfl
  rw[e0]at key
  refine key.post ?_
  rintro e Lf ⟨L',h',hi',x',ht⟩
  have main:jlh [] i.fn.results.toList L' (fun L'=>got (Ur P L' i.fn.results.toList) fun ys=>tst (MX (Qh L'.gn) ys) <|tst (Xq ys) <|k {L' with e:=(d,jaB ys)::L.e,s:=L.s} gs)=some r->
   ∃L2,zh Lf L2/\∃xs e0 s0,kX P L2 i.fn.results.toList xs/\L2.s=e0::s0/\GoT P ops N rest K ⟨(d,QW xs)::e0,s0,L2.h,L2.f⟩:=by
   intro h'
   obtain⟨L9,h',g9⟩:=Pp cx h'
   obtain⟨ys,hys,h'⟩:=jd h'
   obtain⟨hky,h'⟩:=jM h'
   obtain⟨hoy,h'⟩:=jM h'
   have hky:=Zz hky
   have x9:=x'.trans g9.x
   refine⟨L9.av,ht.trans g9.t,avL ys,avE L9.gn L.e,L.s.map (avE L9.gn),VX hys,?_,?_⟩
   ·show L9.s.map (avE L9.gn)=_
    rw[x9.s];rfl
   ·have:=kk _ _ h' (hi.put hm (jfi hoy)) ⟨rfl,⟨[_],rfl⟩,x9.h,x9.nx,x9.gn⟩
    have e1:({L9 with e:=(d,jaB ys)::L.e,s:=L.s}:SLS tb).av=⟨(d,QW (avL ys))::avE L9.gn L.e,L.s.map (avE L9.gn),L9.av.h,L9.av.f⟩:=by
     show(⟨(d,((jaB ys).res L9.gn).av)::avE L9.gn L.e,_,_,_⟩:LS)=_
     rw[jfh hky,jhO];rfl
    rw[e1]at this
    exact this
  cases e with
  |exit j=>cases h'
  |normal=>obtain⟨L2,t2,q⟩:=main h';exact⟨L2,t2,.inl rfl,q⟩
  |ret=>obtain⟨L2,t2,q⟩:=main h';exact⟨L2,t2,.inr rfl,q⟩
noncomputable def lvl (cx:Ctx P tb):Nat->Iln P tb ρ
 |0=>noIln
 |n+1=>jk3 cx (lvl cx n)
theorem jbf:∀n,PK (lvl (ρ:=ρ) cx n)
 |0=>jif
 |n+1=>jiz (jbf n)
end
end
section
open Go.RowKit
variable [GlC]
def JJ:List (Nat × Nat)->Nat->Nat
 | [],_=>100000
 |(a,b)::l,r=>match Nat.beq a r with|true=>b|false=>JJ l r
section
variable {P:Program} {tb:Tb} {cx:Ctx P tb}
structure CloD (tb:Tb)(ps rs:List tb.Ix) where
 g:Tup tb ps->Option (Tup tb rs)
 f:Nat
 qQ:List AV
 h:CloR tb f qQ ps rs g
def PTy.D:PTy tb->Type
 | .d i=>tb.T i
 | .cap i=>tb.T i
 | .fn ps rs=>CloD tb ps rs
def je0 (tb:Tb):List (PTy tb)->Type
 | []=>Unit
 |p::r=>p.D × je0 tb r
def fgt:(p:PTy tb)->p.D->p.den
 | .d _,x=>x
 | .cap _,x=>x
 | .fn _ _,c=>c.g
def fgts:(l:List (PTy tb))->je0 tb l->mz tb l
 | [],_=>()
 |p::r,a=>(fgt p a.1,fgts r a.2)
def jhn (cx:Ctx P tb):(p:PTy tb)->p.D->SV tb
 | .d i,x=>(cx.cd i).sv x
 | .cap i,x=>.cp ((cx.cd i).cs x)
 | .fn ps rs,c=>.cl ps rs c.g c.f c.qQ c.h
def ZK (cx:Ctx P tb):(l:List (PTy tb))->je0 tb l->Nat->VP tb
 | [],_,_=>[]
 |p::r,a,k=>(k,jhn cx p a.1)::ZK cx r a.2 (k+1)
theorem jjU (cx:Ctx P tb):∀{l:List (PTy tb)} {a avs},jar P l a avs->∃d:je0 tb l,fgts l d=a/\∀k,avE [] (ZK cx l d k)=QE k avs
 | [],a,[],_=>⟨(),rfl,fun _=>rfl⟩
 | [],a,_::_,h=>by cases h
 |p::l,a,[],h=>by cases p <;> cases h
 |p :: l,(a,b),v::vs,h=>by
  obtain⟨h1,h2⟩:=h
  obtain⟨d,hd1,hd2⟩:=jjU cx h2
  have rsv:∀x:SV tb,x.res []=x:=fun x=>kp (Pf (fun _=>rfl) x)
  cases p with
  |d i=>
   refine⟨(a,d),Prod.ext rfl hd1,fun k=>?_⟩
   show(k,((jhn cx (.d i) a).res []).av)::avE [] (ZK cx l d (k+1))=(k,v)::QE (k+1) vs
   rw[hd2,rsv]
   have e1:(jhn cx (.d i) a).av=tb.el i a:=(cx.ok i).sv a
   rw[e1]
   have:v=tb.el i a:=h1
   rw[this]
  |cap i=>
   refine⟨(a,d),Prod.ext rfl hd1,fun k=>?_⟩
   show(k,((jhn cx (.cap i) a).res []).av)::avE [] (ZK cx l d (k+1))=(k,v)::QE (k+1) vs
   rw[hd2,rsv]
   have e1:(jhn cx (.cap i) a).av=.kQ (tb.el i a).cells:=congrArg AV.kQ ((cx.ok i).cs a)
   rw[e1]
   have:v=.kQ (tb.el i a).cells:=h1
   rw[this]
  |fn ps rs=>
   obtain⟨f,qQ,rfl,hc⟩:=h1
   exact⟨((⟨a,f,qQ,hc⟩:CloD tb ps rs),d),Prod.ext rfl hd1,fun k=>by
    show(k,_)::avE [] (ZK cx l d (k+1))=(k,_)::QE (k+1) vs
    rw[hd2];rfl⟩
def L00:SLS tb:=⟨[],[],[],0,[]⟩
def kfin (cx:Ctx P tb)(own:List Nat)(rs:List tb.Ix)(vs:List ResultVar)(e:Kj)(L:SLS tb):Option (Tup tb rs):=match e with
 | .exit _=>none
 |_ => match own with
  | []=>jlh [] vs L fun L=>got (Ur P L vs) fun xs=>je3 (jhE xs []) L fun L=>got (Ur P L vs) fun xs=>tst (MX (fun _=>false) xs) (tupD cx rs xs)
  |_::_=>jlh [] vs L fun L=>got (Ur P L vs) fun xs=>je3 (jbc own 0 (match xs with| [x]=>kT x|_=>[]) []) L fun L=>got (Ur P L vs) fun xs=>match rs,xs with
   | [i],[x]=>tst (x.has (Qh L.gn)) <|unJ cx L00 [0] ⟨[.val 0 i own],[]⟩ {e:=[(0,x)],s:=[],h:=L.h,nx:=L.nx,gn:=L.gn} fun v=>tst (Nat.beq (kf own 0 0 ((cx.cd i).cs v)).2.length own.length) (some v)
   |_,_=>none
theorem ML {own:List Nat}:∀{l:List (SV tb)} {j k d},k<=d->d<k+(kf own j k l).2.length->find d (kf own j k l).2≠none
 | [],j,k,d,h1,h2=>by simp[kf]at h2;omega
 |x :: l,j,k,d,h1,h2=>by
  rw[Wr]at h2⊢
  split at h2
  ·rename_i E xs _ _
   simp only[List.length_cons]at h2
   simp only
   rw[jk]
   split
   ·simp
   ·exact ML (by omega) (by omega)
  ·exact ML h1 h2
theorem jb2 {l l':List AV}(h:KF l l')(hl:l.length=l'.length):Sub (QW l) (QW l'):=by
 cases l with
 |nil=>cases l' with
  |nil=>exact .refl _
  |cons=>simp at hl
 |cons x l=>
  cases l with
  |nil =>
   cases l' with
   |nil=>simp at hl
   |cons y l'=>
    cases l' with
    |cons=>simp at hl
    |nil=>
     intro m bl v r
     have:=h m bl [v] (.cons r .nil)
     cases this with|cons a b=>exact a
  |cons x2 l=>
   cases l' with
   |nil=>simp at hl
   |cons y l'=>
    cases l' with
    |nil=>simp at hl
    |cons y2 l'=>exact .tup h
theorem jc7:∀{l:List tb.Ix} {xs a},tupD cx l xs=some a->xs.length=(Vv l a).length
 | [],xs,_,h=>by
   obtain⟨h1,h⟩:=jM (show tst (isE xs) _=some _ from h)
   rw[jgC h1];rfl
 |i::l,[],_,h=>by cases h
 |i::l,x::xs,ab,h=>by
  obtain⟨a,ha,h⟩:=jd (show got ((cx.cd i).of x) _=some ab from h)
  obtain⟨b,hb,h⟩:=jd h
  cases h
  rw[jfk,List.length_cons,List.length_cons,jc7 hb]
theorem jq {fid : Nat}{fn:Func}{code:Code}{ps:List (PTy tb)}{rs:List tb.Ix}{own:List Nat}{F:mz tb ps->Option (Tup tb rs)}{im bar N an}
 (hf:P.funcs[fid]? = some fn) (hb:fn.body=some code) (hN:fn.ntmps=N) (hn:Nat.ble ps.length N=true) (hr:∀d:je0 tb ps,jcx (tb:=tb) [] (ZK cx ps d 0)=true)
 (H:∀d:je0 tb ps,exec cx (lvl cx 6) im bar N code an ⟨ZK cx ps d 0,[],[],0,[]⟩ (kfin cx own rs fn.results.toList)=F (fgts ps d)):
 ∀a avs r,jar P ps a avs->F a=some r->FnR P fid avs (UL tb cx.cd own rs r 0).1.av ((UL tb cx.cd own rs r 0).2.map fun p=>(p.1,p.2.av)):=by
 intro a avs r hr0 hF
 obtain⟨d,rfl,hd⟩:=jjU cx hr0
 have hav:=hd 0
 have hlen:avs.length=ps.length:=by
  have:∀{l:List (PTy tb)} {a avs},jar P l a avs->avs.length=l.length:=by
   intro l
   induction l with
   |nil=>intro a avs h;cases avs with|nil=>rfl|cons=>cases h
   |cons p l ih=>intro a avs h;cases avs with|nil=>cases p <;> cases h|cons v vs=>exact congrArg (·+1) (ih h.2)
  exact this hr0
 rw[<-H d]at hF
 have hi:RI [] (ZK cx ps d 0):=by
  intro t G x hx
  have:=(Pa (hr d) _ (ZO hx)).2
  cases this
 have key:=Zv (jbf 6) (L:=⟨ZK cx ps d 0,[],[],0,[]⟩) hi hF
 refine FnR.intro hf hb hN (by rw[hlen];exact Nat.le_of_ble_eq_true hn) ?_
 have e0:(⟨ZK cx ps d 0,[],[],0,[]⟩:SLS tb).av=⟨QE 0 avs,[],[],fun d=>0<=d⟩:=by
  show(⟨avE [] (ZK cx ps d 0),[],[],_⟩:LS)=_
  rw[hav]
 rw[e0]at key
 refine Wp.kc (zh.f (f':=fun d=>0<=d) fun _ _=>trivial) (key.post ?_)
 rintro e Lf ⟨L',h',hi',x',ht⟩
 unfold kfin at h'
 cases e with
 |exit j=>cases h'
 |_ =>
  cases own with
  |nil =>
   obtain⟨L7,h',g7⟩:=Pp cx h'
   obtain⟨xs0,hxs0,h'⟩:=jd h'
   obtain⟨L9,h',g9⟩:=Wx cx (gs:=[]) h'
   obtain⟨xs,hxs,h'⟩:=jd h'
   refine⟨L9.av,(ht.trans g7.t).trans g9.t,by simp,avL xs,?_⟩
   obtain⟨hbare,h'⟩:=jM h'
   obtain⟨s1,s2⟩:=jb3 h'
   have hl:=jc7 h'
   obtain⟨a1,a2⟩:=Px cx.cd cx.ok rs r 0
   refine⟨⟨[(0,pG rs r)],[],[],fun _=>True⟩,VX hxs,?_,by rw[jk,if_pos rfl,a1],by rw[a2];rfl,fun _ _=>trivial⟩
   refine LS.ren.kc (q:=fun _=>none) (r:=fun _=>none) (nils:=fun _=>false) ⟨by simp,?_,trivial,?_,by simp,by simp⟩
   ·intro t y hf
    have hf:find t [(0,pG rs r)]=some y:=hf
    rw[jk]at hf
    split at hf
    ·rename_i h0
     subst h0
     cases hf
     refine .inr ⟨_,by show find 0 [(0,QW (avL xs))]=_;rw[jk,if_pos rfl],?_⟩
     have hb2:(QW (avL xs)).ZD=true:=by
      have h1:=KA hbare
      cases xs with
      |nil=>rfl
      |cons x xs=>
       cases xs with
       |nil =>
        have:(AV.clean (fun _=>false) x.av&&true)=true:=h1
        rw[Bool.and_true]at this
        exact this
       |cons x2 xs=>exact h1
     show Xy _ ((QW (avL xs)).re _) _
     rw[wI hb2]
     exact(jb2 s1 (by rw[yI];exact hl)).n
    ·simp[find]at hf
   ·intro id b hf;simp[find]at hf
  |cons o ow=>
   obtain⟨L7,h',g7⟩:=Pp cx h'
   obtain⟨xs0,hxs0,h'⟩:=jd h'
   obtain⟨L8,h',g8⟩:=Wx cx (gs:=[]) h'
   obtain⟨xs,hxs,h'⟩:=jd h'
   refine⟨L8.av,(ht.trans g7.t).trans g8.t,by simp,avL xs,?_⟩
   match rs,xs,r,hxs,h' with
   | [i],[x],r,hxs,h'=>
     obtain⟨hkx,h'⟩:=jM h'
     have hkx:=kp hkx
     have hw:Wf (L00 (tb:=tb)):=⟨rfl,rfl,rfl⟩
     obtain⟨v,h2,hi2,x2,ht2⟩:=jc6 (L1:={e:=[(0,x)],s:=[],h:=L8.h,nx:=L8.nx,gn:=L8.gn}) hw (by intro t G x hx;simp[L00,find]at hx) ⟨rfl,⟨_,(List.append_nil _).symm⟩,⟨_,(List.append_nil _).symm⟩,Nat.zero_le _,⟨_,(List.append_nil _).symm⟩⟩ h'
     obtain⟨hl,h2⟩:=jM h2
     cases h2
     have hl:=Nat.eq_of_beq_eq_true hl
     have hdr:drN (L00 (tb:=tb)) ⟨[.val 0 i (o::ow)],[]⟩=[]:=rfl
     have hmk:(PL cx L00 [JV.val 0 i (o::ow)] (r:tb.T i) 0)=([(0,PM (cx.cd i) (kf (o::ow) 0 0 ((cx.cd i).cs r)).1)],(kf (o::ow) 0 0 ((cx.cd i).cs r)).2):=by
      simp[PL,mkV,vh]
     have e9:(⟨[(0,x)],[],L8.h,L8.nx,L8.gn⟩:SLS tb).av={L8.av with e:=[(0,QW (avL [x]))],s:=[]}:=by
      show(⟨[(0,(x.res L8.gn).av)],[],_,_⟩:LS)=_
      rw[hkx];rfl
     rw[e9]at ht2
     refine⟨_,VX hxs,ht2,?_,?_,?_⟩
     ·show find 0 (avE (Po (drN L00 _)++[]) ((PL cx L00 [JV.val 0 i (o::ow)] (r:tb.T i) 0).1++_))=_
      rw[hdr,hmk]
      show find 0 ((0,((PM (cx.cd i) (kf (o::ow) 0 0 ((cx.cd i).cs r)).1).res []).av)::_)=_
      rw[jk,if_pos rfl,kp (Pf (q:=Qh []) (fun _=>rfl) _)];rfl
     ·show avH (Po (drN L00 _)++[]) ((PL cx L00 [JV.val 0 i (o::ow)] (r:tb.T i) 0).2++[])=_
      rw[hdr,hmk]
      have:=xX (g:=([]:Gn tb)) (a:=(kf (o::ow) 0 0 ((cx.cd i).cs r)).2) (b:=[]) (fun p hp=>⟨rfl,(WO p hp).2.2⟩)
      refine this.trans ?_
      show _++[]=_
      rw[List.append_nil];rfl
     ·intro d hd
      show 0+jcm [JV.val 0 i (o::ow)]<=d
      have e1:jcm [JV.val 0 i (o::ow)]=(o::ow).length:=by simp[jcm,nOwn]
      rw[e1,Nat.zero_add,<-hl]
      rcases Nat.lt_or_ge d (kf (o::ow) 0 0 ((cx.cd i).cs r)).2.length with hlt|hge
      ·exfalso
       have h3:=ML (own:=o::ow) (l:=(cx.cd i).cs r) (j:=0) (k:=0) (d:=d) (Nat.zero_le _) (by omega)
       have hd:find d ((kf (o::ow) 0 0 ((cx.cd i).cs r)).2.map fun p=>(p.1,p.2.av))=none:=hd
       rw[WX (fun b:SC tb=>b.av)]at hd
       cases hq:find d (kf (o::ow) 0 0 ((cx.cd i).cs r)).2 with
       |none=>exact h3 hq
       |some z=>rw[hq]at hd;cases hd
      ·exact hge
   | [],xs,r,hxs,h'=>cases h'
   |_::_::_,xs,r,hxs,h'=>cases h'
   | [_],[],r,hxs,h'=>cases h'
   | [_],_::_::_,r,hxs,h'=>cases h'
end
end
instance gl0:GlC:=⟨fun _=>True,fun _ h=>h⟩
theorem FnR.up (g:GlC){P:Program}{f:FuncId}{args:List AV}{r:AV}{hr:Hp}(h:@FnR gl0 P f args r hr):@FnR g P f args r hr:=by
 intro w m vs hgl hi hrp
 refine(h w m vs trivial hi hrp).mono ?_
 rintro e w' ⟨v,m',bl',he,hb,hws,hz,hv⟩
 exact⟨v,m',bl',he,hb,@Vs.mk g _ _ _ _ _ _ (@Vs.imm gl0 _ _ _ _ _ _ hws) (@Vs.le gl0 _ _ _ _ _ _ hws) (@Vs.grow gl0 _ _ _ _ _ _ hws) (@Vs.blk gl0 _ _ _ _ _ _ hws) (@Vs.it gl0 _ _ _ _ _ _ hws) (@Vs.own gl0 _ _ _ _ _ _ hws) (@Vs.inj gl0 _ _ _ _ _ _ hws) hgl,hz,hv⟩
section
open Go.RowKit
variable [GlC]
theorem FnR.pU {P:Program}{f:FuncId}{args:List AV}{r:AV}
 (H:∀(w:World) (m:Mem) (vs:List Value),Imm m w->JK m jh args vs->Calls P f vs.toArray w fun e w'=>∃v,e=.returned v/\Below w.heap.size w w'/\Rep m jh r v):FnR P f args r []:=by
 intro w m vs hgl hi hr
 refine(H w m vs hi hr).mono ?_
 rintro e w' ⟨v,he,hb,hv⟩
 refine⟨v,m,jh,he,hb,⟨hi.below hb,Mem.le.refl m,fun _ _ _ h=>.inl h,?_,?_,?_,?_,hgl⟩,fun _ _=>rfl,hv⟩
 ·intro id l h;simp[find]at h
 ·intro id s p h;simp[find]at h
 ·intro id b n h;simp[jh]at h
 ·intro id id' b n n' h;simp[jh]at h
theorem uf {m bl x y vs}(h:JK m bl [x,y] vs):∃a b,vs=[a,b]/\Rep m bl x a/\Rep m bl y b:=by
 cases h with
 |cons h1 t=>cases t with
  |cons h2 t=>cases t with
   |nil=>exact⟨_,_,rfl,h1,h2⟩
def jdA (s sub:List UInt8):Option Int:=match sub with
 | [c]=>some (Lib.indexByte s c)
 |_=>none
theorem jeE {P:Program}{f:FuncId}(H:∀(s:ByteArray) (c:UInt8) (w:World),Calls P f #[.string s,.string ⟨#[c]⟩] w fun e w'=>e=.returned (.int .i64 (Lib.indexByte s.data.toList c))/\w'=w)
 {s sub:List UInt8} {n:Int} (h:jdA s sub=some n):FnR P f [sAV s,sAV sub] (.v (.int .i64 n)) []:=by
 unfold jdA at h
 split at h
 ·rename_i c
  cases h
  refine FnR.pU fun w m vs hi hr=>?_
  obtain⟨a,b,rfl,h1,h2⟩:=uf hr
  have h1:=h1.zj;have h2:=h2.zj
  subst h1 h2
  refine(H ⟨s.toArray⟩ c w).mono ?_
  rintro e w' ⟨rfl,rfl⟩
  exact⟨_,rfl,Below.refl _ _,.v⟩
 ·cases h
def jdM (s sub:List UInt8):Option Int:=match sub with
 | [c]=>some (s.count c:Int)
 |_=>none
theorem jeF {P:Program}{f:FuncId}(H:∀(s:ByteArray) (c:UInt8) (w:World),Calls P f #[.string s,.string ⟨#[c]⟩] w fun e w'=>e=.returned (.int .i64 (Lib.countByte s.data.toList c))/\w'=w)
 {s sub:List UInt8} {n:Int} (h:jdM s sub=some n):FnR P f [sAV s,sAV sub] (.v (.int .i64 n)) []:=by
 unfold jdM at h
 split at h
 ·rename_i c
  cases h
  refine FnR.pU fun w m vs hi hr=>?_
  obtain⟨a,b,rfl,h1,h2⟩:=uf hr
  have h1:=h1.zj;have h2:=h2.zj
  subst h1 h2
  refine(H ⟨s.toArray⟩ c w).mono ?_
  rintro e w' ⟨rfl,rfl⟩
  exact⟨_,rfl,Below.refl _ _,.v⟩
 ·cases h
def joinS (l:List (List UInt8))(sep:List UInt8):Option (List UInt8):=Chk ((Lib.join l sep).length<=140737488355328/\l.length<=140737488355328) (some (Lib.join l sep))
theorem jdf {m bl}:∀{l:List (List UInt8)} {cs},JK m bl (l.map sAV) cs->cs=l.map fun s=>Value.string ⟨s.toArray⟩
 | [],_,.nil=>rfl
 |s::l,_,.cons h t=>by rw[h.zj,jdf t];rfl
theorem jdD:∀l:List (List UInt8),(l.map sAV).flatMap AV.cells=l.map sAV
 | []=>rfl
 |s::l=>by rw[List.map_cons,List.flatMap_cons,jdD l];rfl
theorem jiE {P:Program}{f:FuncId}
 (H0:∀(a:Option Addr) (c:Nat) (sep:ByteArray) (w:World),Calls P f #[.slice a 0 c,.string sep] w fun e w'=>e=.returned (.string ⟨#[]⟩)/\w'=w)
 (H:∀(bk o c:Nat) (xs:List ByteArray) (sep:ByteArray) (w:World) (hcells:∀(j:Nat) x,xs[j]? = some x->w.cell? ⟨bk,o+j,none⟩=some (.string x))
   (hbk:bk<w.heap.size) (hN:xs.length<=140737488355328) (hcap:xs.length<=c) (hlen:(Lib.join (xs.map (·.data.toList)) sep.data.toList).length<=140737488355328),
   Calls P f #[.slice (some ⟨bk,o,none⟩) xs.length c,.string sep] w fun e w'=>e=.returned (.string ⟨(Lib.join (xs.map (·.data.toList)) sep.data.toList).toArray⟩)/\Below w.heap.size w w')
 {l:List (List UInt8)} {sep s:List UInt8} (h:joinS l sep=some s):FnR P f [.sl false 1 (l.map sAV),sAV sep] (sAV s) []:=by
 obtain⟨⟨hc,hN⟩,h⟩:=XR h
 cases h
 refine FnR.pU fun w m vs hi hr=>?_
 obtain⟨a,b,rfl,h1,h2⟩:=uf hr
 have h2:=h2.zj
 subst h2
 have e0:∀(ad:Option Addr) (c:Nat),Calls P f [Value.slice ad 0 c,.string ⟨sep.toArray⟩].toArray w fun e w'=>∃v,e=.returned v/\Below w.heap.size w w'/\Rep m jh (sAV (Lib.join [] sep)) v:=by
  intro ad c
  refine(H0 ad c ⟨sep.toArray⟩ w).mono ?_
  rintro e w' ⟨rfl,rfl⟩
  exact⟨_,rfl,Below.refl _ _,.v⟩
 cases l with
 |nil=>
  cases h1 with
  |slnil=>exact e0 _ _
  |sl g1 g2 g3 g4 g5 g6 g7=>exact e0 _ _
 |cons x l=>
  cases h1 with
  |sl g1 g2 g3 g4 g5 g6 g7=>
   rename_i ad cap cs
   rw[jdD]at g2
   have hcs:=jdf g2
   subst hcs
   have hsp:=g4 (by simp)
   have hd:ad=⟨ad.block,ad.off,none⟩:=by rw[<-hsp]
   rw[hd]
   have key:=H ad.block ad.off cap ((x::l).map fun s=>(⟨s.toArray⟩:ByteArray)) ⟨sep.toArray⟩ w ?_ ?_ ?_ ?_ ?_
   ·rw[List.length_map]at key
    have e1:((x::l).map fun s=>(⟨s.toArray⟩:ByteArray)).map (·.data.toList)=x::l:=by
     rw[List.map_map]
     exact(List.map_congr_left fun s _=>rfl).trans (List.map_id _)
    rw[e1]at key
    rw[List.length_map]
    refine key.mono ?_
    rintro e w' ⟨rfl,hb⟩
    exact⟨_,rfl,hb,.v⟩
   ·intro j y hj
    rw[List.getElem?_map]at hj
    obtain⟨z,hz,rfl⟩:=Option.map_eq_some_iff.1 hj
    exact hi _ _ _ (g5 j _ (by rw[List.getElem?_map,hz];rfl))
   ·exact hi.lt (g5 0 _ rfl)
   ·rw[List.length_map];exact hN
   ·rw[List.length_map,<-List.length_map (f:=sAV) ];exact g6
   ·rw[List.map_map]
    refine Nat.le_trans (Nat.le_of_eq ?_) hc
    congr 2
    exact(List.map_congr_left fun s _=>rfl).trans (List.map_id _)
end
section
open Go.RowKit
variable [GlC]
section
variable {P:Program} {tb:Tb} {cx:Ctx P tb}
def hfin (P:Program)(vs:List ResultVar)(e:Kj)(L:SLS tb):Option (SV tb):=match e with
 | .exit _=>none
 |_=>got (Ur P L vs) fun xs=>match xs with
  | [x]=>tst (x.has fun _=>false) (some x)
  |_=>none
theorem hnd_ok {fid:Nat}{fn:Func}{code:Code}{xs:List (SV tb)}{y:SV tb}{im bar N an}(hf:P.funcs[fid]? = some fn)(hb:fn.body=some code)(hN:fn.ntmps=N)(hn:Nat.ble xs.length N=true)
 (hk:MX (fun _=>false) xs=true) (ho:Xq xs=true) (hyb:y.has (fun _=>false)=true) (H:exec cx (lvl cx 6) im bar N code an ⟨jcK 0 xs,[],[],0,[]⟩ (hfin P fn.results.toList)=some y):
 FnR P fid (avL xs) y.av []/\JS (avL xs)=true/\y.av.ZD=true:=by
 have hi:RI [] (jcK 0 xs:VP tb):=by
  intro t G x hx
  have:=XW ho _ (jaa hx)
  cases this
 have key:=Zv (jbf 6) (L:=⟨jcK 0 xs,[],[],0,[]⟩) hi H
 have hres:uL ([]:Gn tb) xs=xs:=Zz (wq (q:=Qh []) (fun _=>rfl) _)
 have e0:(⟨jcK 0 xs,[],[],0,[]⟩:SLS tb).av=⟨QE 0 (avL xs),[],[],fun d=>0<=d⟩:=by
  show(⟨avE [] (jcK 0 xs),[],[],_⟩:LS)=_
  rw[jcJ hres]
 rw[e0]at key
 refine⟨FnR.intro hf hb hN (by rw[yI];exact Nat.le_of_ble_eq_true hn) ?_,KA hk,wo hyb⟩
 ·refine Wp.kc (zh.f (f':=fun d=>0<=d) fun _ _=>trivial) (key.post ?_)
  rintro e Lf ⟨L',h',hi',x',ht⟩
  have main:(got (Ur P L' fn.results.toList) fun xs=>match xs with
   | [x]=>tst (x.has fun _=>false) (some x)
   |_=>none)=some y->(e=.normal\/e=.ret)->∃L2,zh Lf L2/\(e=.normal\/e=.ret)/\∃xs L3,kX P L2 fn.results.toList xs/\zh {L2 with e:=[(0,QW xs)],s:=[]} L3/\find 0 L3.e=some y.av/\L3.h=[]/\∀d,find d ([]:Hp)=none->L3.f d:=by
   intro h' he
   obtain⟨zs,hzs,h'⟩:=jd h'
   split at h'
   ·rename_i x
    obtain⟨hb1,h'⟩:=jM h'
    cases h'
    refine⟨L'.av,ht,he,avL [y],⟨[(0,y.av)],[],[],fun _=>True⟩,VX hzs,?_,by rw[jk,if_pos rfl],rfl,fun _ _=>trivial⟩
    refine LS.ren.kc (q:=fun _=>none) (r:=fun _=>none) (nils:=fun _=>false) ⟨by simp,?_,trivial,?_,by simp,by simp⟩
    ·intro t z hf
     have hf:find t [(0,y.av)]=some z:=hf
     rw[jk]at hf
     split at hf
     ·rename_i h0
      subst h0
      cases hf
      refine .inr ⟨_,by show find 0 [(0,QW (avL [y]))]=_;rw[jk,if_pos rfl],?_⟩
      show Xy _ (y.av.re _) _
      rw[wI (wo hb1)]
      exact(Sub.refl _).n
     ·simp[find]at hf
    ·intro id b hf;simp[find]at hf
   ·cases h'
  unfold hfin at h'
  cases e with
  |exit j=>cases h'
  |normal=>exact main h' (.inl rfl)
  |ret=>exact main h' (.inr rfl)
end
end
section
open Go.RowKit Go.ChangeShapes Go.WideShapes Go.ChangeAt Go.Deep
variable [GlC]
def jes (W:World):Mem:=fun b o=>W.cell? ⟨b,o,none⟩
theorem jgH (W:World):Imm (jes W) W:=fun _ _ _ h=>h
def jlH (P:Program)(W:World)(t:TypeId){α:Type}(F:α->List AV)(wf:α->Prop):Prop:=
 ∀{H:Type} (enc:TypeId × Value->H) fuel cs x,DataW.trod enc P W 0 (fun _=>true) true fuel t cs=some x->
  ∃a:α,JK (jes W) jh (F a) cs/\(∀c∈cs,jL c=true)/\wf a
section
variable {P:Program} {W:World} {t:TypeId}
theorem jf2 (ht:P.underlying t=some .string):jlH P W t (fun(s:List UInt8)=>[.v (.string ⟨s.toArray⟩)]) (fun s=>s.length<=9223372036854775807):=by
 intro H enc fuel cs x h
 obtain⟨s,rfl,-,hw⟩:=DataW.trod_string ht h
 refine⟨s.data.toList,.cons .v .nil,by simp[jL,Value.oneCell'],?_⟩
 have e:s.data.toList.length=s.size:=by rw[Array.length_toList];rfl
 show s.data.toList.length<=9223372036854775807
 rw[e]
 exact hw
/-! an argument -/
theorem jlA {H:Type}{enc:TypeId × Value->H}{base:Nat}{v:Value}{d:DataW H}{ps:List MemPlace}(hna:∀cs,v≠.agg cs){α:Type}{E:α->AV}{wf:α->Prop}(ho:jlH P W t (fun a=>[E a]) wf)
 (h:DataW.Trod enc P W 0 (fun _=>true) true t v d ps) (hok:Value.okWide P W .any base t v):∃a:α,Rep (jes W) jh (E a) v/\wf a:=by
 obtain⟨fuel,h⟩:=h
 obtain⟨a,h1,h2,h3⟩:=ho enc fuel _ _ h
 refine⟨a,?_,h3⟩
 have hc:v.cells=#[v]:=by cases v <;> first|rfl|exact absurd rfl (hna _)
 rw[hc]at h1
 cases h1 with
 |cons h t=>exact h
theorem jkB {base:Nat}{v:Value}{td:TypeDesc}(ht:P.underlying t=some td)(hd:jdz td=false)(hok:Value.okWide P W .any base t v):∀cs,v≠.agg cs:=by
 rintro cs rfl
 unfold Value.okWide at hok
 rw[ht]at hok
 cases td <;> simp_all [jdz,Cell.okWide,Cell.ok]
theorem Uo {H:Type}{enc:TypeId × Value->H}(hl:laidOutB P=true){W W':World}{sp:Nat->Bool}(hb:Below W.heap.size W W'):∀(ts:List TypeId) (vs:List Value) (ds:List (DataW H)) (ps:List MemPlace),
 (∀t∈ts,P.readableRec t=true/\t<P.types.size)->DataW.TrodAll enc P W 0 (fun _=>true) true ts vs ds ps->(∀x∈ps,x.block<W.heap.size)->(∀x∈ps,sp x.block=true)->DataW.TrodAll enc P W' 0 sp true ts vs ds ps
 | [],[],[],ps,_,h,_,_=>h
 |t::ts,v::vs,d::ds,ps,hr,h,hlt,hsp=>by
  obtain⟨p,q,h1,h2,rfl⟩:=h
  refine⟨p,q,?_,Uo hl hb ts vs ds q (fun t ht=>hr t (by simp[ht])) h2 (fun x hx=>hlt x (by simp[hx])) (fun x hx=>hsp x (by simp[hx])),rfl⟩
  exact WideElems.Trod_stays hl (hr t (by simp)).1 (hr t (by simp)).2 h1 (fun x hx=>hb.same (hlt x (by simp[hx]))) (fun x hx=>hsp x (by simp[hx]))
 | [],[],_::_,_,_,h,_,_=>by simp[DataW.TrodAll]at h
 | [],_::_,_,_,_,h,_,_=>by simp[DataW.TrodAll]at h
 |_::_,[],_,_,_,h,_,_=>by simp[DataW.TrodAll]at h
 |_::_,_::_,[],_,_,h,_,_=>by simp[DataW.TrodAll]at h
theorem MJ {H:Type}{enc:TypeId × Value->H}{f:Func}{s:ChangeSpec}{apart fresh handsOn again:Bool}{W W':World}{args:Array Value}{v:Value}{ds gs:List (DataW H)}{before pa pv:List MemPlace}
 (hW:DataW.Whole enc P f.params.toList s.vars apart W args.toList ds gs before)
 (hres:∀(b:Nat) (sp:Nat->Bool) (hd:Bool),DataW.TrodAll enc P W' b sp hd f.resultTypes.toList (v.resultList f.resultTypes.size) (s.fn H (ds++gs)).results [])
 (hargs:∀sp:Nat->Bool,(∀p∈before,sp p.block=true)->DataW.TrodAll enc P W' 0 sp true f.params.toList args.toList (s.fn H (ds++gs)).args pa)
 (hvars:∀sp:Nat->Bool,(∀p∈before,sp p.block=true)->DataW.TrodVars enc P W' sp s.vars (s.fn H (ds++gs)).vars pv)
 (hps:before=pa++pv) (hb:Below W.heap.size W W')
 (hok:∀(j:Nat) (t:TypeId) (r:Value),f.resultTypes[j]? = some t->(v.resultList f.resultTypes.size)[j]? = some r->Value.okWide P W' .any 0 t r):
 s.post enc P f apart fresh handsOn again W args v W':=by
 have hlt:∀p∈before,p.block<W.heap.size:=fun p hp=>hW.lt p hp
 have hold:∀p∈before,(fun b=>decide (b<W.heap.size)) p.block=true:=fun p hp=>by simpa using hlt p hp
 refine⟨ds,gs,before,[],pa,pv,hW,hres _ _ _,hargs _ hold,hvars _ hold,World.keptBut_mono (fun p hp=>⟨hp,?_⟩) (hb.frame (·∈before)),fun _=>?_⟩
 ·rw[hps,List.mem_append]at hp
  exact Or.inr hp
 ·obtain⟨_,_,_,_,_,hz,hn⟩:=hW
  refine⟨hok,_,_,([]++pa)++pv,⟨[]++pa,pv,trodAll_append (hargs _ (fun _ _=>rfl)) (hres _ _ _),hvars _ (fun _ _=>rfl),rfl,?_,?_⟩,?_⟩
  ·intro b off hp
   have hin:MemPlace.cell b off∈before:=by rw[hps];simpa using hp
   rw[hb.frozen (hlt _ hin)]
   exact hz b off hin
  ·intro ha
   have:=hn ha
   rw[hps]at this
   simpa using this
  ·intro p hp _
   rw[hps]
   simpa using hp
theorem jin {H:Type}{enc:TypeId × Value->H}{id:FuncId}{f:Func}{s:ChangeSpec}{apart fresh handsOn again:Bool}{args:Array Value}{ds:List (DataW H)}{before:List MemPlace}{avs:List AV}{tb:TypeId}
 (hl:laidOutB P=true) (hr0:(f.params.toList.all fun t=>P.readableRec t&&Nat.blt t P.types.size)=true) (hrt:f.resultTypes=#[tb]) (htb:P.underlying tb=some .bool) (hvs:s.vars=[])
 (hW:DataW.Whole enc P f.params.toList s.vars apart W args.toList ds [] before) (hfn:s.fn H (ds++[])={results:=[.lit (.bool true)],args:=ds})
 (hrep:JK (jes W) jh avs args.toList) (hc:FnR P id avs (.v (.bool true)) []) (hgl:GlC.G (jes W):=by exact True.intro):
 Calls P id args W fun e W'=>∃v,e=.returned v/\s.post enc P f apart fresh handsOn again W args v W':=by
 have hr:∀t∈f.params.toList,P.readableRec t=true/\t<P.types.size:=by
  intro t ht
  have:=List.all_eq_true.1 hr0 t ht
  simp only[Bool.and_eq_true]at this
  exact⟨this.1,Nat.le_of_ble_eq_true this.2⟩
 have:=hc W (jes W) args.toList hgl (jgH W) hrep
 rw[Array.toArray_toList]at this
 refine this.mono ?_
 rintro e W' ⟨v,m',bl',rfl,hb,-,-,hv⟩
 have hv':=hv.zj
 subst hv'
 have hW':=hW
 obtain⟨p,q,hA,hV,rfl,-,-⟩:=hW
 rw[hvs]at hV
 obtain⟨-,rfl⟩:=trodVars_none hV
 simp only[List.append_nil]at hW' hfn⊢
 refine⟨_,rfl,MJ (pa:=p) (pv:=[]) hW' ?_ ?_ ?_ (by simp) hb ?_⟩
 ·intro b sp hd
  rw[List.append_nil,hfn,hrt]
  exact trodAll_mk1 (shut_bool htb _)
 ·intro sp hsp
  rw[List.append_nil,hfn]
  exact Uo hl hb _ _ _ _ hr hA (fun x hx=>hW'.lt x hx) hsp
 ·intro sp hsp
  rw[List.append_nil,hfn,hvs]
  rfl
 ·exact ok_one hrt rfl (okWide_bool_mk htb _)
end
end
end Go.Rx
end

section
set_option linter.all false
namespace Go.Rx
theorem Yh (n:Int)(h1 : -9223372036854775808<=n)(h2:n<=9223372036854775807):IntKind.i64.wrap n=n:=by
 simp[IntKind.wrap,IntKind.bits,IntKind.signed];omega
theorem wrap_u64 (n:Int):IntKind.u64.wrap n=n % 18446744073709551616:=by simp[IntKind.wrap,IntKind.bits,IntKind.signed]
theorem kY {V X:Type}(step:(V->Option X)->V->Option X)(n:Nat)(v:V):Yg step (n+1) v=step (Yg step n) v:=rfl
@[simp] theorem Let_eq {β X:Type} (v:β) (k:β->X):Let v k=k v:=rfl
@[simp] theorem Bind_some {α β:Type} (x:α) (k:α->Option β):Bind (some x) k=k x:=rfl
@[simp] theorem Bind_none {α β:Type} (k:α->Option β):Bind none k=none:=rfl
theorem wN {α β:Type}{m:Option α}{x:α}{k:α->Option β}(h:m=some x):Bind m k=k x:=by rw[h];rfl
theorem ju {α:Type}{c:Prop}[Decidable c]{k:Option α}(h:c):Chk c k=k:=if_pos h
@[simp] theorem Chk_true {α:Type} {k:Option α}:Chk True k=k:=rfl
theorem Jo (n:Int)(h : -9223372036854775808<=n/\n<=9223372036854775807):w64 n=n:=Yh n h.1 h.2
theorem jfa (n:Int):(w64 n=n % 18446744073709551616/\n % 18446744073709551616<9223372036854775808)\/(w64 n=n % 18446744073709551616 - 18446744073709551616/\9223372036854775808<=n % 18446744073709551616):=by
 unfold w64
 simp only[IntKind.wrap,IntKind.bits,IntKind.signed]
 by_cases h:9223372036854775808<=n % 18446744073709551616
 ·right;refine⟨?_,h⟩;simp;omega
 ·left;refine⟨?_,by omega⟩;simp;omega
theorem pz (n:Int):IntKind.u64.wrap n=n % 18446744073709551616:=wrap_u64 n
theorem jE (a b:Bool):(bif a then true else b)=(a||b):=by cases a <;> rfl
theorem jr (a b:Bool):(bif a then b else false)=(a&&b):=by cases a <;> rfl
theorem fuel_lt (n:Nat)(h:n<2 ^ 70):n<fuel:=h
theorem ix_nat {α:Type}[Inhabited α](l:List α)(i:Nat):ix l (i:Int)=l.getD i default:=rfl
theorem ml {α:Type}[Inhabited α](l:List α)(i:Nat)(h:i<l.length):ix l (i:Int)=l[i]:=by
 rw[ix_nat];simp[List.getD,List.getElem?_eq_getElem h]
theorem Ke {α:Type}[Inhabited α](l:List α)(i:Nat)(h:i<l.length):l.drop i=ix l (i:Int)::l.drop (i+1):=by
 rw[ml l i h,List.drop_eq_getElem_cons h]
end Go.Rx
namespace Go.Rx
def Pz (p:Nat->Bool):Nat->Nat->Bool
 |_,0=>true
 |i,k+1=>p i&&Pz p (i+1) k
def uR {σ:Type}(f:Nat->σ->σ):Nat->Nat->σ->σ
 |_,0,s=>s
 |i,k+1,s=>uR f (i+1) k (f i s)
theorem QP {σ R:Type}(len:Nat)(p:Nat->Bool)(f:Nat->σ->σ)(Inv:Nat->σ->Prop)(F:Nat->σ->Int->R)(fin:σ->R)(bad:R)
 (hs:∀(n i:Nat) (s:σ),i<len->Inv i s->F (n+1) s (i:Int)=(if p i=true then F n (f i s) ((i:Int)+1)else bad)/\(p i=true->Inv (i+1) (f i s)))
 (he:∀(n:Nat) (s:σ),Inv len s->F (n+1) s (len:Int)=fin s):
 ∀(n i:Nat) (s:σ),i<=len->len - i<n->Inv i s->F n s (i:Int)=if Pz p i (len - i)=true then fin (uR f i (len - i) s)else bad
 |0,i,s,_,h,_=>by omega
 |n + 1,i,s,hi,hn,hI=>by
  by_cases h:i<len
  ·obtain⟨h1,h2⟩:=hs n i s h hI
   have e:len - i=(len - (i+1))+1:=by omega
   rw[h1,e]
   unfold Pz uR
   by_cases hp:p i=true
   ·rw[if_pos hp,hp,Bool.true_and]
    exact QP len p f Inv F fin bad hs he n (i+1) (f i s) (by omega) (by omega) (h2 hp)
   ·rw[if_neg hp]
    simp only[Bool.not_eq_true]at hp
    rw[hp,Bool.false_and];rfl
  ·have:i=len:=by omega
   subst this
   rw[he n s hI,Nat.sub_self];rfl
theorem jbQ (p:Nat->Bool):∀(k i:Nat),Pz p i k=true↔∀j,i<=j->j<i+k->p j=true
 |0,i=>by simp[Pz];omega
 |k + 1,i=>by
  unfold Pz
  rw[Bool.and_eq_true,jbQ p k (i+1)]
  constructor
  ·intro ⟨h1,h2⟩ j hj hj2
   by_cases e:j=i
   ·subst e;exact h1
   ·exact h2 j (by omega) (by omega)
  ·intro h
   exact⟨h i (by omega) (by omega),fun j hj hj2=>h j (by omega) (by omega)⟩
theorem Py:∀(k i:Nat),Pz (fun _=>true) i k=true
 |0,_=>rfl
 |k+1,i=>by unfold Pz;rw[Bool.true_and];exact Py k (i+1)
theorem jbR {α:Type}[Inhabited α](p:α->Bool)(l:List α):∀(k i:Nat),i+k=l.length->Pz (fun j=>p (ix l (j:Int))) i k=(l.drop i).all p
 |0,i,h=>by simp[Pz,List.drop_of_length_le (show l.length<=i by omega)]
 |k+1,i,h=>by
  unfold Pz
  rw[jbR p l k (i+1) (by omega),Ke l i (by omega)];rfl
theorem UM {α:Type}[Inhabited α](p:α->Bool)(l:List α):Pz (fun j=>p (ix l (j:Int))) 0 l.length=l.all p:=jbR p l l.length 0 (by omega)
theorem Xt {α:Type}[Inhabited α](l:List α)(i:Int)(h:0<=i/\i<l.length):ix l i∈l:=by
 obtain⟨n,rfl⟩:=Int.eq_ofNat_of_zero_le h.1
 rw[ml l n (by omega)];exact List.getElem_mem _
theorem Un {a b:Int}(h:a % 18446744073709551616=b % 18446744073709551616):w64 a=w64 b:=by
 have h1:=jfa a;have h2:=jfa b;omega
theorem Mj (a:Int):w64 a % 18446744073709551616=a % 18446744073709551616:=by have:=jfa a;omega
theorem jjc (a b:Int):w64 (w64 a - b)=w64 (a - b):=Un (by have:=Mj a;omega)
theorem jjb (a b:Int):w64 (a - w64 b)=w64 (a - b):=Un (by have:=Mj b;omega)
theorem jje (a b:Int):w64 (w64 a*b)=w64 (a*b):=Un (by rw[Int.mul_emod,Mj,<-Int.mul_emod])
theorem jjd (a b:Int):w64 (a*w64 b)=w64 (a*b):=Un (by rw[Int.mul_emod,Mj,<-Int.mul_emod])
theorem mQ {σ τ:Type}(f:Nat->σ->σ)(g:Nat->τ->τ):∀(k i:Nat) (s:σ) (t:τ),uR (fun j (x:σ × τ)=>(f j x.1,g j x.2)) i k (s,t)=(uR f i k s,uR g i k t)
 |0,_,_,_=>rfl
 |k+1,i,s,t=>by unfold uR;exact mQ f g k (i+1) _ _
theorem mS {α:Type}(g:Nat->α):∀(k i:Nat) (l:List α),uR (fun j (l:List α)=>l++[g j]) i k l=l++(List.range' i k).map g
 |0,i,l=>by simp[uR]
 |k+1,i,l=>by
  unfold uR
  rw[mS g k (i+1) (l++[g i]),List.range'_succ]
  simp
theorem jeu {α:Type}[Inhabited α](l1 l2:List α)(h:l1.length=l2.length):(∀i,i<l1.length->ix l1 (i:Int)=ix l2 (i:Int))↔l1=l2:=by
 constructor
 ·intro h2
  refine List.ext_getElem h fun i h3 h4=>?_
  have:=h2 i h3
  rw[ml l1 i h3,ml l2 i h4]at this;exact this
 ·rintro rfl i _;rfl
theorem jho {α:Type}[Inhabited α][DecidableEq α](l1 l2:List α)(h:l1.length=l2.length):Pz (fun i=>decide (ix l1 (i:Int)=ix l2 (i:Int))) 0 l1.length=decide (l1=l2):=by
 rw[Bool.eq_iff_iff,jbQ,decide_eq_true_eq,<-jeu l1 l2 h]
 simp only[decide_eq_true_eq]
 exact⟨fun h i hi=>h i (by omega) (by omega),fun h i _ hi=>h i (by omega)⟩
end Go.Rx
end
