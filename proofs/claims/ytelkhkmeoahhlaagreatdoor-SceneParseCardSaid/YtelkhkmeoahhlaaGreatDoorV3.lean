/- SceneParse. No conditions. -/
import Derived.Test.YtelkhkmeoahhlaaGreatDoorQX
set_option linter.all false
set_option maxRecDepth 100000
open Go Go.Rx
namespace GoForm
theorem jaI {l:List UInt8}(h:xB l):je1 l=0↔l=[]:=by
 rcases h with rfl|rfl|rfl|rfl|rfl|rfl|rfl|rfl <;> decide
noncomputable def valP (y:jo):Option (jo × Int × Int):=Rx.Bind (YI y) fun(v:Int)=>if v≠0 then some (noW,0,18)else some (y,0,0)
theorem jbh:∀(ls:List (List UInt8)) (N:Nat) (x:jo) (sec:Int) (last:List UInt8) (i:Nat),jeY N x sec->N+ls.length<=900->(∀l∈ls,l.length<=20000)->xB last->sec=je1 last->(sec=0->x=noW)->
 ∀y n,vU ls i x sec=some (y,n)->(n≠0->Vg ls i x last=some (noW,n,27))/\(n=0->Vg ls i x last=valP y)
 | [],N,x,sec,last,i,I,_,_,hl,he,h0,y,n,h=>by
   unfold vU at h
   unfold Vg
   by_cases hz:sec=0
   ·rw[if_pos hz]at h
    cases h
    rw[if_pos ((jaI hl).1 (by rw[<-he];exact hz))]
    exact⟨fun _=>rfl,fun h=>by omega⟩
   ·rw[if_neg hz]at h
    cases h
    rw[if_neg fun e=>hz (by rw[he];exact(jaI hl).2 e)]
    exact⟨fun h=>absurd rfl h,fun _=>rfl⟩
 |l :: ls,N,x,sec,last,i,I,hN,hs,hl,he,h0,y,n,h=>by
  rw[List.length_cons]at hN
  have h1:=hs l (by simp)
  obtain⟨f1,f2,f3⟩:=jbx h1
  obtain⟨y1,s1,ok,hst,hok⟩:=jc8 I (by omega) f1 f2
  have hR:=jhQ I (by omega) hl he h0 f1 f2 hst
  have e:vU (l::ls) i x sec=if ok=true then vU ls (i+1) y1 s1 else some (noW,(i:Int)+1):=by
   show Rx.Bind (zu l) _=_
   rw[jbW l (by omega),jb]
   refine Eq.trans (wN hst) ?_
   rfl
  rw[e]at h
  have er:Vg (l::ls) i x last=if(ky l).2≠0\/(ky l).1=[]then some (noW,(i:Int)+1,27)else
   Rx.Bind (jU last (ix (ky l).1 0)) fun(a:Bool)=>if a=false then some (noW,(i:Int)+1,27)else
   Rx.Bind (uJ x (ky l).1) fun(s:jo × Bool)=>if s.2=false then some (noW,(i:Int)+1,27)else Vg ls (i+1) s.1 (ix (ky l).1 0):=by
   show Rx.Bind (qO l) _=_
   rw[jaO l (by omega),jb]
  rw[er]
  have hfl:∀kw rest,MY l=kw::rest->(ky l).2=0/\(ky l).1=kw::rest:=fun kw rest hf=>by
   unfold MY at hf
   split at hf
   ·rename_i hz;exact⟨hz,hf⟩
   ·cases hf
  cases ok with
  |false=>
   have h:some (noW,(i:Int)+1)=some (y,n):=h
   cases h
   refine⟨fun _=>?_,fun h=>by omega⟩
   rcases hR.2 rfl with hf|⟨kw,rest,hf,hc⟩
   ·refine if_pos ?_
    unfold MY at hf
    split at hf
    ·exact .inr hf
    ·rename_i hz;exact .inl hz
   ·obtain⟨q1,q2⟩:=hfl kw rest hf
    rw[if_neg (by rw[q1,q2];simp),q2]
    have hix:ix (kw::rest) 0=kw:=rfl
    rw[hix]
    rw[hf]at hc
    rcases hc with hc|⟨hc,z,hz⟩
    ·rw[hc,jb,if_pos rfl]
    ·rw[hc,jb,if_neg (by simp),hz,jb,if_pos rfl]
  |true=>
   have h:vU ls (i+1) y1 s1=some (y,n):=h
   obtain⟨I2,q1,q2⟩:=hok rfl
   obtain⟨kw,rest,hf,ha,hr,hsx,hk⟩:=hR.1 rfl
   obtain⟨p1,p2⟩:=hfl kw rest hf
   rw[hf]at hr
   rw[if_neg (by rw[p1,p2];simp),p2]
   have hix:ix (kw::rest) 0=kw:=rfl
   rw[hix,ha,jb,if_neg (by simp),hr,jb,if_neg (by simp)]
   exact jbh ls (N+1) y1 s1 kw (i+1) I2 (by omega) (fun l h=>hs l (List.mem_cons_of_mem _ h)) hk hsx (fun h=>absurd h q1) y n h
theorem jeW (s:List UInt8)(h1:s.length<=20000)(h2:s.count 10<=200):∃y n c,zq s=some (y,n,c)/\qo s=some (y,n,c)/\SmW y:=by
 unfold zq qo
 rw[jan s (by omega),XF s (by omega),jb,jb]
 rcases ja8 s with ⟨-,-,h⟩|⟨L,hL,hf,hno,-⟩
 ·rw[h]
  exact⟨noW,0,3,rfl,rfl,Md⟩
 ·rw[hL]
  have hlen:∀l∈L,l.length<=20000:=by
   intro l hl
   obtain⟨a,b,e⟩:=List.append_of_mem hl
   have:=congrArg List.length hf
   rw[e,jdE,KC]at this
   simp at this
   omega
  have hcnt:L.length<=200:=by
   have h1:(flat 10 L).count 10=L.length:=by
    clear hf hL hlen
    induction L with
    |nil=>rfl
    |cons p L ih=>
     rw[KC,List.count_append,List.count_cons,ih fun q hq=>hno q (List.mem_cons_of_mem _ hq),List.count_eq_zero.2 (hno p (by simp))]
     simp
   rw[hf]at h1
   omega
  rw[if_neg (show ¬ ((L,(0:Int)).2≠0) by simp),if_pos (show(L,(0:Int)).1.length<1048576 by show L.length<_;omega),if_neg (show ¬ ((L,(0:Int)).2≠0) by simp),if_pos (show(L,(0:Int)).1.length<1048576 by show L.length<_;omega)]
  dsimp only
  obtain⟨y,n,hl,h0,hy⟩:=mL L 0 noW 0 0 jeY.zero (by omega) hlen
  obtain⟨r1,r2⟩:=jbh L 0 noW 0 [] 0 jeY.zero (by omega) hlen (.inl rfl) rfl (fun _=>rfl) y n hl
  rw[hl,jb]
  by_cases hn:n=0
  ·obtain⟨sc,I,-,-⟩:=hy hn
   have hF:=I.few (by omega)
   rw[if_neg (by simpa using hn),r2 hn]
   unfold valP
   dsimp only
   rw[jaz y hF,jaU y hF,jb]
   by_cases hv:wv y=0
   ·rw[if_neg (by simpa using hv)]
    exact⟨_,_,_,rfl,rfl,hF.smw⟩
   ·rw[if_pos (by simpa using hv)]
    exact⟨_,_,_,rfl,rfl,Md⟩
  ·rw[if_pos (by simpa using hn),r1 hn]
   exact⟨_,_,_,rfl,rfl,Md⟩
theorem vM (s:List UInt8)(hs:s.length<=9223372036854775807):Zf s=some true:=by
 unfold Zf
 have hex:(Rx.Bind Qx fun(r:Bool)=>some r)=some true:=by rw[jbE];rfl
 rw[jhT s hs,jb,jj]
 cases hsh:(decide ((s.length:Int)<=20000)&&decide (((s.count 10:Nat):Int)<=200))with
 |false=>exact(if_pos rfl).trans hex
 |true=>
  rw[Bool.and_eq_true,decide_eq_true_eq,decide_eq_true_eq]at hsh
  obtain⟨y,n,c,e1,e2,hy⟩:=jeW s (by omega) (by omega)
  refine(if_neg (by simp)).trans ?_
  have hE:Qj y y=some true:=by rw[PT y y hy];simp
  simp only[e1,e2,jb,hE,jj,beq_self_eq_true,cond_true,if_true,jbE]
end GoForm
