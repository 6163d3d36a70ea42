/- Several texts in one. No conditions. -/
import Derived.Test.YtelkhkmeoahhlaaGreatDoorF52D
import Derived.Test.YtelkhkmeoahhlaaGreatDoorF52S
import Derived.Test.YtelkhkmeoahhlaaGreatDoorOB
section
set_option linter.all false
set_option maxRecDepth 100000
open Go Go.Rx
namespace GoForm
theorem example52:caromlaw52_example=some true:=by kernel_rfl
theorem LOOP_k3n {α A B X:Type} [Inhabited α] (l:List α) (P:Nat->A->B->Prop) (G:List α->Nat->A->B->Option X) (step:(A × B × Int->Option X)->A × B × Int->Option X) (hl:Sm l)
 (hs:∀ (r:A × B × Int->Option X) (i:Nat) (t:List α) (a:A) (b:B),P i a b->IntKind.i64.wrap ((i:Int)+1)=(i:Int)+1->(0<=(i:Int)/\(i:Int)<(l.length:Int))->ix l (i:Int)∈l->(∀ a b,P (i+1) a b->r (a,b,(i:Int)+1)=G t (i+1) a b)->step r (a,b,(i:Int))=G (ix l (i:Int)::t) i a b)
 (he:∀ (r:A × B × Int->Option X) (a:A) (b:B),P l.length a b->step r (a,b,(l.length:Int))=G [] l.length a b):∀ (n i:Nat) (a:A) (b:B),P i a b->i<=l.length->l.length - i<n->LOOP step n (a,b,(i:Int))=G (l.drop i) i a b
 | 0,i,a,b,_,_,h=>by omega
 | n + 1,i,a,b,hp,h1,h2=>by
   rw [LOOP_s]
   by_cases h:i<l.length
   ·rw [drop_ix l i h]
    exact hs _ i (l.drop (i+1)) a b hp (w64_s i (by unfold Sm at hl;omega)) ⟨by omega,by omega⟩ (by rw [ix_lt l i h];exact List.getElem_mem h) fun a b hp=>by
     have:=LOOP_k3n l P G step hl hs he n (i+1) a b hp (by omega) (by omega)
     simpa using this
   ·have:i=l.length:=by omega
    subst this
    rw [he _ a b hp,List.drop_length]
theorem LOOP_k3 {α A B X:Type} [Inhabited α] (l:List α) (P:Nat->A->B->Prop) (G:List α->Nat->A->B->Option X) (step:(A × B × Int->Option X)->A × B × Int->Option X) (a0:A) (b0:B) (hl:Sm l) (h0:P 0 a0 b0)
 (hs:∀ (r:A × B × Int->Option X) (i:Nat) (t:List α) (a:A) (b:B),P i a b->IntKind.i64.wrap ((i:Int)+1)=(i:Int)+1->(0<=(i:Int)/\(i:Int)<(l.length:Int))->ix l (i:Int)∈l->(∀ a b,P (i+1) a b->r (a,b,(i:Int)+1)=G t (i+1) a b)->step r (a,b,(i:Int))=G (ix l (i:Int)::t) i a b)
 (he:∀ (r:A × B × Int->Option X) (a:A) (b:B),P l.length a b->step r (a,b,(l.length:Int))=G [] l.length a b):LOOP step fuel (a0,b0,(0:Int))=G l 0 a0 b0:=
 LOOP_k3n l P G step hl hs he fuel 0 a0 b0 h0 (Nat.zero_le _) (Nat.lt_trans (Nat.lt_of_le_of_lt (Nat.sub_le _ _) hl) (by unfold fuel;decide))
def b01 (s:List UInt8):Bool:=decide (s=[48])||decide (s=[49])
def badB (f:List (List UInt8)) (bl:List Int):Bool:=bl.any fun b => !b01 (ix f (1+b))
def syn (l:List (List UInt8)):Bool:=l.any fun s=>decide ((pInt s).2=3)
def big (l:List (List UInt8)):Bool:=l.any fun s=>decide ((pInt s).2≠0)
def vals (l:List (List UInt8)):List Int:=l.map fun s=>(pInt s).1
def nums (f:List (List UInt8)) (bl:List Int):List Int × Int:=if syn f.tail=true\/badB f bl=true then ([],3) else if big f.tail=true then ([],6) else (vals f.tail,0)
theorem pv_loop2 (f:List (List UInt8)) (bl:List Int) (hbl:Sm bl) (hb:∀ x∈bl,0<=x/\x+1<(f.length:Int)) (hf:Sm f) (fin:Option (List Int × Int)) (step:(Int->Option (List Int × Int))->Int->Option (List Int × Int))
 (hs : step=fun rec s=>if decide (s<(bl.length:Int))=true then
   Chk ((0:Int)<=s/\s<(bl.length:Int)) (Chk ((0:Int)<=IntKind.i64.wrap ((1:Int)+ix bl s)/\IntKind.i64.wrap ((1:Int)+ix bl s)<(f.length:Int))
    (Chk (((ix f (IntKind.i64.wrap ((1:Int)+ix bl s)) != [48])==true)=true->(0:Int)<=IntKind.i64.wrap ((1:Int)+ix bl s)/\IntKind.i64.wrap ((1:Int)+ix bl s)<(f.length:Int))
      (if (bif ix f (IntKind.i64.wrap ((1:Int)+ix bl s)) != [48] then ix f (IntKind.i64.wrap ((1:Int)+ix bl s)) != [49] else false)=true then some ([],(3:Int)) else rec (IntKind.i64.wrap (s+(1:Int)))))) else fin):
 LOOP step fuel 0=if badB f bl=true then some ([],3) else fin:=by
 subst hs
 refine (LOOP_l0 bl (fun t i=>if badB f t=true then some ([],3) else fin) _ hbl ?_ ?_)
 ·intro r i t hw hc hm hr
  obtain ⟨h1,h2⟩:=hb _ hm
  unfold Sm at hf
  have hx:IntKind.i64.wrap (1+ix bl (i:Int))=1+ix bl (i:Int):=wrap_in _ (by omega) (by omega)
  have hr2:(0:Int)<=1+ix bl (i:Int)/\1+ix bl (i:Int)<(f.length:Int):=⟨by omega,by omega⟩
  simp only [Let_nr,dlt hc,if_true,Chk_of hc,hx,Chk_of hr2,Chk_of (fun _=>hr2),hw]
  rw [hr]
  have e:badB f (ix bl (i:Int)::t)=(!b01 (ix f (1+ix bl (i:Int)))||badB f t):=rfl
  rw [e]
  generalize ix f (1+ix bl (i:Int))=z
  by_cases c1:z=[48]
  ·subst c1;simp [b01]
  ·by_cases c2:z=[49]
   ·subst c2;simp [b01]
   ·have:b01 z=false:=by simp [b01,c1,c2]
    simp [this,c1,c2]
 ·intro r
  simp only [Let_nr,dll,ff,if_false]
  rfl
theorem tail_ix (f:List (List UInt8)) (h:f≠[]):f.drop 1=f.tail:=by cases f <;> simp
theorem parseValues_eq (f:List (List UInt8)) (kw:List UInt8) (v:Int->Option Bool) (bl:List Int) (b:Bool) (hf:f.length<=1000000) (hs:∀ s∈f,Sm s) (hv:f≠[]->v ((f.length:Int) - 1)=some b) (hbl:Sm bl)
 (hb:b=true->∀ x∈bl,0<=x/\x+1<(f.length:Int)):scene_parseValues f kw v bl=some (if f=[]\/ix f 0≠kw\/b=false then ([],3) else nums f bl):=by
 unfold scene_parseValues
 have hsm:Sm f:=sm_of hf (by decide)
 by_cases h0:f=[]
 ·subst h0
  rfl
 have hpos:0<f.length:=List.length_pos_iff.2 h0
 have hlen:((f.length:Int)==0)=false:=by simp;omega
 have hw1:IntKind.i64.wrap ((f.length:Int) - 1)=(f.length:Int) - 1:=wrap_in _ (by omega) (by omega)
 have hr0:(0:Int)<=0/\(0:Int)<(f.length:Int):=⟨by omega,by omega⟩
 simp only [Let_nr,hlen,Chk_of (fun _=>hr0),hw1,cond_false]
 by_cases hk:ix f 0=kw
 ·rw [show (ix f 0 != kw)=false by simp [hk]]
  simp only [cond_false]
  rw [if_pos (show (false==false)=true from rfl),hv h0,Bind_snr]
  cases b with
  | false=>
    have e:(if f=[]\/ix f 0≠kw\/false=false then (([],3):List Int × Int) else nums f bl)=([],3):=if_pos (Or.inr (Or.inr rfl))
    rw [e];rfl
  | true=>
    have e:(if f=[]\/ix f 0≠kw\/true=false then (([],3):List Int × Int) else nums f bl)=nums f bl:=if_neg (by simp [h0,hk])
    rw [e,Bool.not_true,if_neg (by decide),Chk_of (by omega),Chk_of (by omega)]
    refine (LOOP_k3 (f.drop 1) (fun i a _=>a.length=i) (fun t i a b=>some (if syn t=true\/badB f bl=true then ([],3) else if (b||big t)=true then ([],6) else (a++vals t,0))) _ _ _ (sm_of (n:=1000000) (by simp;omega) (by decide)) rfl ?_ ?_).trans ?_
    ·intro r i t a b hp hw hc hm hr
     have hP:=ParseInt_eq _ (hs _ (List.mem_of_mem_drop hm))
     have hal:a.length<=1000000:=by rw [hp];have:=hc.2;simp at this;omega
     simp only [dlt hc,if_true,Chk_of hc,hP,Bind_snr,hw]
     generalize ix (f.drop 1) (i:Int)=x
     have e1:syn (x::t)=(decide ((pInt x).2=3)||syn t):=rfl
     have e2:big (x::t)=(decide ((pInt x).2≠0)||big t):=rfl
     have e3:vals (x::t)=(pInt x).1::vals t:=rfl
     by_cases h3:(pInt x).2=3
     ·rw [if_pos (by simp [h3]),if_pos (by rw [e1];simp [h3])]
     ·rw [if_neg (by simp [h3]),Chk_of (by simp;omega),hr _ _ (by simp [hp])]
      have e4:syn (x::t)=syn t:=by rw [e1];simp [h3]
      rw [e4,e2,e3]
      by_cases h5:(pInt x).2=0
      ·simp [h5]
      ·simp [h5]
    ·intro r a b hp
     simp only [dll,ff,if_false]
     rw [pv_loop2 f bl hbl (hb rfl) hsm _ _ rfl]
     cases hB:badB f bl <;> cases b <;> simp [syn,big,vals]
    ·rw [tail_ix f h0]
     unfold nums
     simp
 ·have e:(if f=[]\/ix f 0≠kw\/b=false then (([],3):List Int × Int) else nums f bl)=([],3):=if_pos (Or.inr (Or.inl hk))
  rw [e,show (ix f 0 != kw)=true by simp [hk]]
  rfl
theorem nb_loop2 (f:List (List UInt8)) (bl:List Int) (hbl:Sm bl) (hb:∀ x∈bl,0<=x/\x+1<(f.length:Int)) (hf:Sm f) (fin:Option (List Int × Int)) (step:(Int->Option (List Int × Int))->Int->Option (List Int × Int))
 (hs : step=fun rec s=>if decide (s<(bl.length:Int))=true then
   Chk ((0:Int)<=s/\s<(bl.length:Int)) (Chk ((0:Int)<=IntKind.i64.wrap ((1:Int)+ix bl s)/\IntKind.i64.wrap ((1:Int)+ix bl s)<(f.length:Int))
       (if (bif ix f (IntKind.i64.wrap ((1:Int)+ix bl s)) != [48] then ix f (IntKind.i64.wrap ((1:Int)+ix bl s)) != [49] else false)=true then some ([],(3:Int)) else rec (IntKind.i64.wrap (s+(1:Int))))) else fin):
 LOOP step fuel 0=if badB f bl=true then some ([],3) else fin:=by
 subst hs
 refine (LOOP_l0 bl (fun t i=>if badB f t=true then some ([],3) else fin) _ hbl ?_ ?_)
 ·intro r i t hw hc hm hr
  obtain ⟨h1,h2⟩:=hb _ hm
  unfold Sm at hf
  have hx:IntKind.i64.wrap (1+ix bl (i:Int))=1+ix bl (i:Int):=wrap_in _ (by omega) (by omega)
  have hr2:(0:Int)<=1+ix bl (i:Int)/\1+ix bl (i:Int)<(f.length:Int):=⟨by omega,by omega⟩
  simp only [dlt hc,if_true,Chk_of hc,hx,Chk_of hr2,hw]
  rw [hr]
  have e:badB f (ix bl (i:Int)::t)=(!b01 (ix f (1+ix bl (i:Int)))||badB f t):=rfl
  rw [e]
  generalize ix f (1+ix bl (i:Int))=z
  by_cases c1:z=[48]
  ·subst c1;simp [b01]
  ·by_cases c2:z=[49]
   ·subst c2;simp [b01]
   ·have:b01 z=false:=by simp [b01,c1,c2]
    simp [this,c1,c2]
 ·intro r
  simp only [dll,ff,if_false]
  rfl
theorem numbers_eq (f:List (List UInt8)) (kw:List UInt8) (n:Int) (more:Bool) (bl:List Int) (hf:f.length<=1000000) (hs:∀ s∈f,Sm s) (hn:0<=n/\n<=1000) (hbl:Sm bl) (hb:∀ x∈bl,0<=x/\x<n):
 caromref52_numbers f kw n more bl=some (if (f.length:Int)<n+1\/ix f 0≠kw\/(more=false/\(f.length:Int)≠n+1)\/((f.length:Int) - n - 1).tmod 2≠0 then ([],3) else nums f bl):=by
 unfold caromref52_numbers
 have hsm:Sm f:=sm_of hf (by decide)
 have w1:IntKind.i64.wrap (n+1)=n+1:=wrap_in _ (by omega) (by omega)
 have w2:IntKind.i64.wrap ((f.length:Int) - n)=(f.length:Int) - n:=wrap_in _ (by omega) (by omega)
 have w3:IntKind.i64.wrap ((f.length:Int) - n - 1)=(f.length:Int) - n - 1:=wrap_in _ (by omega) (by omega)
 simp only [Let_nr,w1,w2,w3]
 rw [Chk_of (by intro h;have h2:¬ ((f.length:Int)<n+1):=by simpa using h
                omega)]
 by_cases c1:(f.length:Int)<n+1
 ·rw [if_pos (by simp [c1]),if_pos (Or.inl c1)]
 by_cases c2:ix f 0=kw
 ·by_cases c3 : more=false/\(f.length:Int)≠n+1
  ·rw [if_pos (by simp [c1,c2,c3.1,c3.2]),if_pos (Or.inr (Or.inr (Or.inl c3)))]
  ·by_cases c4:((f.length:Int) - n - 1).tmod 2=0
   ·have e:(if (f.length:Int)<n+1\/ix f 0≠kw\/(more=false/\(f.length:Int)≠n+1)\/((f.length:Int) - n - 1).tmod 2≠0 then (([],3):List Int × Int) else nums f bl)=nums f bl:=if_neg (by simp only [c1,c2,c3,c4];simp)
    have cond:¬ ((bif bif bif decide ((f.length:Int)<n+1) then true else ix f 0 != kw then true else bif !more then (f.length:Int) != n+1 else false then true else ((f.length:Int) - n - 1).tmod 2 != 0)=true):=by
     simp only [c1,c2,c4]
     cases more with
     | true=>simp
     | false=>
       have:(f.length:Int)=n+1:=Classical.byContradiction fun h=>c3 ⟨rfl,h⟩
       simp [this]
    rw [e,if_neg cond,nb_loop2 f bl hbl (fun x hx=>by have:=hb x hx;omega) hsm _ _ rfl]
    have h0:f≠[]:=by rintro rfl;simp at c1;omega
    cases hB:badB f bl with
    | true=>unfold nums;simp [hB]
    | false =>
      rw [if_neg (by simp)]
      refine (LOOP_k3n f (fun i a b=>a.length+1=i/\(b=0\/b=6)) (fun t i a b=>some (if syn t=true then ([],3) else if b≠0\/big t=true then ([],6) else (a++vals t,0))) _ hsm ?_ ?_ fuel 1 [] 0 ⟨rfl,Or.inl rfl⟩ (List.length_pos_iff.2 h0) (Nat.lt_of_le_of_lt (Nat.sub_le _ _) (Nat.lt_trans hsm (by unfold fuel;decide)))).trans ?_
      ·intro r i t a b hp hw hc hm hr
       have hP:=refParseInt_eq _ (hs _ hm)
       have hal:a.length<=1000000:=by have:=hc.2;have:=hp.1;omega
       simp only [dlt hc,if_true,Chk_of hc,hP,Bind_snr,hw,Join_nr]
       generalize ix f (i:Int)=x
       have e1:syn (x::t)=(decide ((pInt x).2=3)||syn t):=rfl
       have e2:big (x::t)=(decide ((pInt x).2≠0)||big t):=rfl
       have e3:vals (x::t)=(pInt x).1::vals t:=rfl
       by_cases h3:(pInt x).2=3
       ·rw [if_pos (by simp [h3]),if_pos (by rw [e1];simp [h3])]
       ·rw [if_neg (by simp [h3])]
        have e4:syn (x::t)=syn t:=by rw [e1];simp [h3]
        rw [e4,e2,e3]
        have hlen:(a.length+[(pInt x).1].length)*8<=140737488355328:=by simp;omega
        by_cases h5:(pInt x).2=0
        ·rw [if_neg (by simp [h5]),Chk_of hlen,hr _ _ ⟨by simp [<- hp.1],hp.2⟩]
         simp [h5]
        ·rw [if_pos (by simp [h5]),Chk_of hlen,hr _ _ ⟨by simp [<- hp.1],Or.inr rfl⟩]
         simp [h5]
      ·intro r a b hp
       simp only [dll,ff,if_false]
       rcases hp.2 with rfl | rfl <;> simp [syn,big,vals]
      ·rw [tail_ix f h0]
       unfold nums
       simp [hB]
   ·rw [if_pos (by simp [c1,c2,c4]),if_pos (Or.inr (Or.inr (Or.inr c4)))]
 ·rw [if_pos (by simp [c1,c2]),if_pos (Or.inr (Or.inl c2))]
theorem nums_len (f:List (List UInt8)) (bl:List Int) (h:(nums f bl).2=0):(nums f bl).1.length=f.length - 1/\(nums f bl).1=vals f.tail/\syn f.tail=false/\big f.tail=false/\badB f bl=false:=by
 unfold nums at h ⊢
 split at h
 ·simp at h
 ·rename_i h1
  rw [not_or] at h1
  split at h
  ·simp at h
  ·rename_i h2
   rw [if_neg (by rw [not_or];exact h1),if_neg h2]
   refine ⟨by simp [vals],rfl,by simpa using h1.1,by simpa using h2,by simpa using h1.2⟩
def line (f:List (List UInt8)) (kw:List UInt8) (ok:Bool) (bl:List Int):List Int × Int:=if f=[]\/ix f 0≠kw\/ok=false then ([],3) else nums f bl
theorem num_line (f:List (List UInt8)) (kw:List UInt8) (n:Int) (more:Bool) (bl:List Int) (b:Bool) (hf:f.length<=1000000) (hs:∀ s∈f,Sm s) (hn:0<=n/\n<=1000) (hbl:Sm bl) (hb:∀ x∈bl,0<=x/\x<n)
 (hok:f≠[]->ix f 0=kw->(b=true↔¬ ((f.length:Int)<n+1\/(more=false/\(f.length:Int)≠n+1)\/((f.length:Int) - n - 1).tmod 2≠0))):caromref52_numbers f kw n more bl=some (line f kw b bl):=by
 rw [numbers_eq f kw n more bl hf hs hn hbl hb]
 unfold line
 congr 1
 by_cases h0:f=[]
 ·subst h0
  rw [if_pos (Or.inl (by simp;omega)),if_pos (Or.inl rfl)]
 by_cases hk:ix f 0=kw
 ·have:=hok h0 hk
  cases b with
  | true=>
    have h:=this.1 rfl
    rw [if_neg,if_neg (by simp [h0,hk])]
    intro hc
    rcases hc with hc | hc | hc | hc
    ·exact h (Or.inl hc)
    ·exact hc hk
    ·exact h (Or.inr (Or.inl hc))
    ·exact h (Or.inr (Or.inr hc))
  | false=>
    have h:(f.length:Int)<n+1\/(more=false/\(f.length:Int)≠n+1)\/((f.length:Int) - n - 1).tmod 2≠0:=Classical.byContradiction fun h=>by have:=this.2 h;cases this
    rw [if_pos,if_pos (Or.inr (Or.inr rfl))]
    rcases h with h | h | h
    ·exact Or.inl h
    ·exact Or.inr (Or.inr (Or.inl h))
    ·exact Or.inr (Or.inr (Or.inr h))
 ·rw [if_pos (Or.inr (Or.inl hk)),if_pos (Or.inr (Or.inl hk))]
theorem line_ok {f kw b bl} (h:(line f kw b bl).2=0):f≠[]/\ix f 0=kw/\b=true/\(line f kw b bl).1=vals f.tail/\syn f.tail=false/\big f.tail=false/\badB f bl=false/\(line f kw b bl).1.length+1=f.length:=by
 unfold line at h ⊢
 split at h
 ·simp at h
 ·rename_i hc
  rw [if_neg hc]
  rw [not_or,not_or] at hc
  obtain ⟨h1,h2,h3,h4,h5⟩:=nums_len f bl h
  refine ⟨hc.1,by simpa using hc.2.1,by simpa using hc.2.2,h2,h3,h4,h5,?_⟩
  have:=List.length_pos_iff.2 hc.1
  omega
theorem exact_eq (k n:Int):scene_exactly_1 k n=some (k==n):=by unfold scene_exactly_1;rw [Let_nr]
def bl1:List Int:=[14,15,16,17]
def bl3:List Int:=[11,14,19]
def kBody:List UInt8:=#[(98:UInt8),(111:UInt8),(100:UInt8),(121:UInt8)].toList
def kFix:List UInt8:=#[(102:UInt8),(105:UInt8),(120:UInt8),(116:UInt8),(117:UInt8),(114:UInt8),(101:UInt8)].toList
def kJoint:List UInt8:=#[(106:UInt8),(111:UInt8),(105:UInt8),(110:UInt8),(116:UInt8)].toList
theorem exact_line (f:List (List UInt8)) (kw:List UInt8) (n:Int) (bl:List Int) (hf:f.length<=1000000) (hs:∀ s∈f,Sm s) (hn:0<=n/\n<=1000) (hbl:Sm bl) (hb:∀ x∈bl,0<=x/\x<n):
 scene_parseValues f kw (fun a=>scene_exactly_1 a n) bl=some (line f kw ((f.length:Int) - 1==n) bl)/\caromref52_numbers f kw n false bl=some (line f kw ((f.length:Int) - 1==n) bl):=by
 refine ⟨?_,num_line f kw n false bl _ hf hs hn hbl hb ?_⟩
 ·rw [parseValues_eq f kw _ bl ((f.length:Int) - 1==n) hf hs (fun _=>exact_eq _ _) hbl ?_]
  ·rfl
  ·intro h x hx
   have h1:=hb x hx
   have h2:(f.length:Int) - 1=n:=by simpa using h
   omega
 ·intro h0 hk
  constructor
  ·intro h
   have h2:(f.length:Int) - 1=n:=by simpa using h
   have e:(f.length:Int) - n - 1=0:=by omega
   rw [e]
   simp
   omega
  ·intro h
   rw [not_or,not_or] at h
   have h2:(f.length:Int)=n+1:=Classical.byContradiction fun hc=>h.2.1 ⟨rfl,hc⟩
   simp;omega
theorem Bind_Chk {α β:Type} {c:Prop} [Decidable c] {m:Option α} {k:α->Option β}:Rx.Bind (Chk c m) k=Chk c (Rx.Bind m k):=by unfold Chk;split <;> rfl
def zBody:Body:={ ID:=(0:Int),Kind:=(0:Int),Transform:={ Position:={ X:=(0:Int),Y:=(0:Int):Vec },Angle:=(0:Int):Transform },Velocity:={ X:=(0:Int),Y:=(0:Int):Vec },AngularVelocity:=(0:Int),Force:={ X:=(0:Int),Y:=(0:Int):Vec },Torque:=(0:Int),LinearDamping:=(0:Int),AngularDamping:=(0:Int),GravityScale:=(0:Int),Bullet:=false,FixedRotation:=false,NoSleep:=false,Asleep:=false,IdleSteps:=(0:Int),Fixtures:=[]:Body }
def bodyOf (l:List Int):Body:={ ID:=ix l 0,Kind:=ix l 1,Transform:={ Position:={ X:=ix l 2,Y:=ix l 3 },Angle:=ix l 4 },Velocity:={ X:=ix l 5,Y:=ix l 6 },AngularVelocity:=ix l 7,Force:={ X:=ix l 8,Y:=ix l 9 },Torque:=ix l 10,LinearDamping:=ix l 11,AngularDamping:=ix l 12,GravityScale:=ix l 13,Bullet:=ix l 14==1,FixedRotation:=ix l 15==1,NoSleep:=ix l 16==1,Asleep:=ix l 17==1,IdleSteps:=ix l 18,Fixtures:=[] }
def pBody (f:List (List UInt8)):Body × Int:=if (line f kBody ((f.length:Int) - 1==19) bl1).2≠0 then (zBody,(line f kBody ((f.length:Int) - 1==19) bl1).2) else (bodyOf (vals f.tail),0)
theorem body_lines (f:List (List UInt8)) (hf:f.length<=1000000) (hs:∀ s∈f,Sm s):scene_ParseBody f=some (pBody f)/\caromref52_ParseBody f=some (pBody f):=by
 obtain ⟨h1,h2⟩:=exact_line f kBody 19 bl1 hf hs (by decide) (by show _<_;decide) (by decide)
 unfold pBody scene_ParseBody caromref52_ParseBody
 constructor
 ·refine Eq.trans (Bind_of h1) ?_
  by_cases hc:(line f kBody ((f.length:Int) - 1==19) bl1).2=0
  ·obtain ⟨-,-,g3,g4,-,-,-,g5⟩:=line_ok hc
   have g6:(f.length:Int) - 1=19:=by simpa using g3
   have g7:(((line f kBody ((f.length:Int) - 1==19) bl1).1.length:Nat):Int)=19:=by omega
   rw [if_neg (by simp [hc])]
   simp only [Let_nr]
   rw [if_neg (by simp [hc])]
   rw [g4] at g7 ⊢
   generalize vals f.tail=l at g7
   have hL:l.length=19:=by omega
   simp only [hL]
   rfl
  ·rw [if_pos hc]
   simp only [Let_nr]
   rw [if_pos (by simp [hc])]
   rfl
 ·refine Eq.trans (Bind_of h2) ?_
  by_cases hc:(line f kBody ((f.length:Int) - 1==19) bl1).2=0
  ·obtain ⟨-,-,g3,g4,-,-,-,g5⟩:=line_ok hc
   have g6:(f.length:Int) - 1=19:=by simpa using g3
   have g7:(((line f kBody ((f.length:Int) - 1==19) bl1).1.length:Nat):Int)=19:=by omega
   rw [if_neg (by simp [hc])]
   simp only [Let_nr]
   rw [if_neg (by simp [hc])]
   rw [g4] at g7 ⊢
   generalize vals f.tail=l at g7
   have hL:l.length=19:=by omega
   unfold caromref52_vec
   simp only [hL]
   rfl
  ·rw [if_pos hc]
   simp only [Let_nr]
   rw [if_pos (by simp [hc])]
   rfl
theorem len24 {α:Type} {l:List α} (h:l.length=24):∃ a0 a1 a2 a3 a4 a5 a6 a7 a8 a9 a10 a11 a12 a13 a14 a15 a16 a17 a18 a19 a20 a21 a22 a23:α,l=[a0,a1,a2,a3,a4,a5,a6,a7,a8,a9,a10,a11,a12,a13,a14,a15,a16,a17,a18,a19,a20,a21,a22,a23]:=by
 match l,h with
 | [a0,a1,a2,a3,a4,a5,a6,a7,a8,a9,a10,a11,a12,a13,a14,a15,a16,a17,a18,a19,a20,a21,a22,a23],_=>exact ⟨a0,a1,a2,a3,a4,a5,a6,a7,a8,a9,a10,a11,a12,a13,a14,a15,a16,a17,a18,a19,a20,a21,a22,a23,rfl⟩
def zJoint:Joint:={ ID:=(0:Int),Kind:=(0:Int),BodyA:=(0:Int),BodyB:=(0:Int),AnchorA:={ X:=(0:Int),Y:=(0:Int):Vec },AnchorB:={ X:=(0:Int),Y:=(0:Int):Vec },Axis:={ X:=(0:Int),Y:=(0:Int):Vec },ReferenceAngle:=(0:Int),EnableLimit:=false,Lower:=(0:Int),Upper:=(0:Int),EnableMotor:=false,MotorSpeed:=(0:Int),MaxForce:=(0:Int),Softness:=(0:Int),BreakForce:=(0:Int),CollideConnected:=false,Impulses:=((0:Int),(0:Int),(0:Int),(0:Int)):Joint }
def jointOf (l:List Int):Joint:={ ID:=ix l 0,Kind:=ix l 1,BodyA:=ix l 2,BodyB:=ix l 3,AnchorA:=⟨ix l 4,ix l 5⟩,AnchorB:=⟨ix l 6,ix l 7⟩,Axis:=⟨ix l 8,ix l 9⟩,ReferenceAngle:=ix l 10,EnableLimit:=ix l 11==1,Lower:=ix l 12,Upper:=ix l 13,EnableMotor:=ix l 14==1,MotorSpeed:=ix l 15,MaxForce:=ix l 16,Softness:=ix l 17,BreakForce:=ix l 18,CollideConnected:=ix l 19==1,Impulses:=(ix l 20,ix l 21,ix l 22,ix l 23) }
def pJoint (f:List (List UInt8)):Joint × Int:=if (line f kJoint ((f.length:Int) - 1==24) bl3).2≠0 then (zJoint,(line f kJoint ((f.length:Int) - 1==24) bl3).2) else (jointOf (vals f.tail),0)
theorem joint_lines (f:List (List UInt8)) (hf:f.length<=1000000) (hs:∀ s∈f,Sm s):scene_ParseJoint f=some (pJoint f)/\caromref52_ParseJoint f=some (pJoint f):=by
 obtain ⟨h1,h2⟩:=exact_line f kJoint 24 bl3 hf hs (by decide) (by show _<_;decide) (by decide)
 unfold pJoint scene_ParseJoint caromref52_ParseJoint
 constructor
 ·refine Eq.trans (Bind_of h1) ?_
  by_cases hc:(line f kJoint ((f.length:Int) - 1==24) bl3).2=0
  ·obtain ⟨-,-,g3,g4,-,-,-,g5⟩:=line_ok hc
   have g6:(f.length:Int) - 1=24:=by simpa using g3
   have g7:(line f kJoint ((f.length:Int) - 1==24) bl3).1.length=24:=by omega
   rw [if_neg (by simp [hc])]
   simp only [Let_nr]
   rw [if_neg (by simp [hc])]
   rw [g4] at g7 ⊢
   generalize vals f.tail=l at g7
   obtain ⟨a0,a1,a2,a3,a4,a5,a6,a7,a8,a9,a10,a11,a12,a13,a14,a15,a16,a17,a18,a19,a20,a21,a22,a23,rfl⟩:=len24 g7
   rfl
  ·rw [if_pos hc]
   simp only [Let_nr]
   rw [if_pos (by simp [hc])]
   rfl
 ·refine Eq.trans (Bind_of h2) ?_
  by_cases hc:(line f kJoint ((f.length:Int) - 1==24) bl3).2=0
  ·obtain ⟨-,-,g3,g4,-,-,-,g5⟩:=line_ok hc
   have g6:(f.length:Int) - 1=24:=by simpa using g3
   have g7:(line f kJoint ((f.length:Int) - 1==24) bl3).1.length=24:=by omega
   rw [if_neg (by simp [hc])]
   simp only [Let_nr]
   rw [if_neg (by simp [hc])]
   rw [g4] at g7 ⊢
   generalize vals f.tail=l at g7
   unfold caromref52_vec
   simp only [g7]
   rfl
  ·rw [if_pos hc]
   simp only [Let_nr]
   rw [if_pos (by simp [hc])]
   rfl
def pairs:List Int->List Vec
 | a::b::t=>⟨a,b⟩::pairs t
 | _=>[]
def addV (x:Fixture) (v:List Vec):Fixture:={ x with Shape:={ x.Shape with Vertices:=x.Shape.Vertices++v } }
theorem addV_addV (x:Fixture) (v w:List Vec):addV (addV x v) w=addV x (v++w):=by unfold addV;simp
def fStep (l:List Int) (rec:Int × Fixture->Option (Fixture × Int)) (s:Int × Fixture):Option (Fixture × Int):=
 if decide (s.1<(l.length:Int))=true then
 Chk ((0:Int)<=s.1/\s.1<(l.length:Int)) (Chk ((0:Int)<=IntKind.i64.wrap (s.1+1)/\IntKind.i64.wrap (s.1+1)<(l.length:Int))
  (Chk ((s.2.Shape.Vertices.length+[(⟨ix l s.1,ix l (IntKind.i64.wrap (s.1+1))⟩:Vec)].length)*(16:Nat)<=(140737488355328:Nat))
    (rec (IntKind.i64.wrap (s.1+2),addV s.2 [⟨ix l s.1,ix l (IntKind.i64.wrap (s.1+1))⟩]))))
 else some (s.2,0)
theorem fStep_eq (l:List Int) (rec:Int × Fixture->Option (Fixture × Int)) (i:Int) (x:Fixture):fStep l rec (i,x)=if decide (i<(l.length:Int))=true then
 Chk ((0:Int)<=i/\i<(l.length:Int)) (Chk ((0:Int)<=IntKind.i64.wrap (i+1)/\IntKind.i64.wrap (i+1)<(l.length:Int))
  (Chk ((x.Shape.Vertices.length+[(⟨ix l i,ix l (IntKind.i64.wrap (i+1))⟩:Vec)].length)*(16:Nat)<=(140737488355328:Nat))
    (rec (IntKind.i64.wrap (i+2),addV x [⟨ix l i,ix l (IntKind.i64.wrap (i+1))⟩]))))
 else some (x,0):=rfl
theorem fLoop (l:List Int) (hl:l.length<=1000000):∀ (n i:Nat) (x:Fixture),i<=l.length->(l.length - i) % 2=0->l.length - i<n->x.Shape.Vertices.length<=i->LOOP (fStep l) n ((i:Int),x)=some (addV x (pairs (l.drop i)),0)
 | 0,i,x,_,_,h,_=>by omega
 | n + 1,i,x,h1,h2,h3,h4=>by
   rw [LOOP_s,fStep_eq]
   by_cases h:i<l.length
   ·have h5:i+1<l.length:=by omega
    have e1:IntKind.i64.wrap ((i:Int)+1)=((i+1:Nat):Int):=by rw [wrap_in _ (by omega) (by omega)];omega
    have e2:IntKind.i64.wrap ((i:Int)+2)=((i+2:Nat):Int):=by rw [wrap_in _ (by omega) (by omega)];omega
    rw [if_pos (by simpa using h),Chk_of ⟨by omega,by omega⟩,e1,Chk_of ⟨by omega,by omega⟩,Chk_of (by simp;omega),e2]
    rw [fLoop l hl n (i+2) _ (by omega) (by omega) (by omega) (by unfold addV;simp;omega),addV_addV,drop_ix l i h,drop_ix l (i+1) h5]
    rfl
   ·rw [if_neg (by simpa using h)]
    have:i=l.length:=by omega
    subst this
    simp [pairs,addV]
def zFix:Fixture:={ Shape:={ Kind:=(0:Int),Radius:=(0:Int),Vertices:=[]:Shape },Density:=(0:Int),Friction:=(0:Int),Restitution:=(0:Int),Sensor:=false,Category:=(0:Int),Mask:=(0:Int),Group:=(0:Int):Fixture }
def fixOf (l:List Int):Fixture:={ Shape:={ Kind:=ix l 7,Radius:=ix l 8,Vertices:=pairs (l.drop 9) },Density:=ix l 0,Friction:=ix l 1,Restitution:=ix l 2,Sensor:=ix l 3==1,Category:=ix l 4,Mask:=ix l 5,Group:=ix l 6 }
def okFix (f:List (List UInt8)):Bool:=decide ((f.length:Int) - 1>=9)&&(((f.length:Int) - 1).tmod 2==1)
def pFix1 (f:List (List UInt8)):Fixture × Int:=if (line f kFix (okFix f) [3]).2≠0 then (zFix,(line f kFix (okFix f) [3]).2) else (fixOf (vals f.tail),0)
theorem fix_line (f:List (List UInt8)) (hf:f.length<=1000000) (hs:∀ s∈f,Sm s):
 scene_parseValues f kFix (fun a=>scene_ParseFixture_1 a) [3]=some (line f kFix (okFix f) [3])/\caromref52_numbers f kFix 9 true [3]=some (line f kFix (okFix f) [3]):=by
 refine ⟨?_,num_line f kFix 9 true [3] _ hf hs (by decide) (by show _<_;decide) (by decide) ?_⟩
 ·rw [parseValues_eq f kFix _ [3] (okFix f) hf hs (fun _=>?_) (by show _<_;decide) ?_]
  ·rfl
  ·intro h x hx
   unfold okFix at h
   simp only [Bool.and_eq_true,decide_eq_true_eq] at h
   rw [List.mem_singleton] at hx
   omega
  ·unfold scene_ParseFixture_1 okFix
   simp only [Let_nr]
   cases decide ((f.length:Int) - 1>=9) <;> rfl
 ·intro h0 hk
  unfold okFix
  rw [Bool.and_eq_true,decide_eq_true_eq,beq_iff_eq]
  constructor
  ·rintro ⟨h1,h2⟩
   rw [Int.tmod_eq_emod_of_nonneg (by omega)] at h2
   rw [not_or,not_or]
   refine ⟨by omega,by simp,?_⟩
   rw [Int.tmod_eq_emod_of_nonneg (by omega)]
   omega
  ·intro h
   rw [not_or,not_or] at h
   obtain ⟨h1,-,h3⟩:=h
   have h3:=Decidable.not_not.1 h3
   rw [Int.tmod_eq_emod_of_nonneg (by omega)] at h3
   refine ⟨by omega,?_⟩
   rw [Int.tmod_eq_emod_of_nonneg (by omega)]
   omega
theorem fix_fin (l:List Int) (hl:l.length<=1000000) (h9:9<=l.length) (hp:(l.length - 9) % 2=0) (x:Fixture) (hx:x.Shape.Vertices=[]):LOOP (fStep l) fuel ((9:Int),x)=some (addV x (pairs (l.drop 9)),0):=
 fLoop l hl fuel 9 x h9 hp (Nat.lt_of_le_of_lt (Nat.sub_le _ _) (Nat.lt_of_le_of_lt hl (by unfold fuel;decide))) (by rw [hx];simp)
theorem fix_lines (f:List (List UInt8)) (hf:f.length<=1000000) (hs:∀ s∈f,Sm s):scene_ParseFixture f=some (pFix1 f)/\caromref52_ParseFixture f=some (pFix1 f):=by
 obtain ⟨h1,h2⟩:=fix_line f hf hs
 unfold pFix1 scene_ParseFixture caromref52_ParseFixture
 have fin:(line f kFix (okFix f) [3]).2=0->(line f kFix (okFix f) [3]).1=vals f.tail/\9<=(vals f.tail).length/\((vals f.tail).length - 9) % 2=0/\(vals f.tail).length<=1000000:=by
  intro hc
  obtain ⟨-,-,g3,g4,-,-,-,g5⟩:=line_ok hc
  unfold okFix at g3
  rw [Bool.and_eq_true,decide_eq_true_eq,beq_iff_eq] at g3
  obtain ⟨q1,q2⟩:=g3
  rw [Int.tmod_eq_emod_of_nonneg (by omega)] at q2
  rw [g4] at g5
  exact ⟨g4,by omega,by omega,by omega⟩
 constructor
 ·refine Eq.trans (Bind_of h1) ?_
  by_cases hc:(line f kFix (okFix f) [3]).2=0
  ·obtain ⟨q1,q2,q3,q4⟩:=fin hc
   rw [if_neg (by simp [hc])]
   simp only [Let_nr]
   rw [if_neg (by simp [hc]),q1]
   generalize vals f.tail=l at q2 q3 q4
   iterate 9 rw [Chk_of (by omega)]
   exact fix_fin l q4 q2 q3 _ rfl
  ·rw [if_pos hc]
   simp only [Let_nr]
   rw [if_pos (by simp [hc])]
   rfl
 ·refine Eq.trans (Bind_of h2) ?_
  by_cases hc:(line f kFix (okFix f) [3]).2=0
  ·obtain ⟨q1,q2,q3,q4⟩:=fin hc
   rw [if_neg (by simp [hc])]
   simp only [Let_nr]
   rw [if_neg (by simp [hc]),q1]
   generalize vals f.tail=l at q2 q3 q4
   iterate 9 rw [Chk_of (by omega)]
   unfold caromref52_vec
   simp only [Bind_Chk,Let_nr,Bind_snr]
   exact fix_fin l q4 q2 q3 _ rfl
  ·rw [if_pos hc]
   simp only [Let_nr]
   rw [if_pos (by simp [hc])]
   rfl

def I64 (n:Int):Prop:=IntKind.i64.min<=n/\n<=IntKind.i64.max
def lineT (kw:List UInt8) (l:List Int):List UInt8:=kw++l.flatMap (fun n=>32::fmtInt n)
theorem joinTail_map (l:List Int):Lib.joinTail [32] (l.map fmtInt)=l.flatMap (fun n=>32::fmtInt n):=by
 induction l with
 | nil=>rfl
 | cons n l ih=>rw [List.map_cons,joinTail_cons,ih,List.flatMap_cons]
theorem lineT_join (kw:List UInt8) (l:List Int):Lib.join (kw::l.map fmtInt) [32]=lineT kw l:=by rw [Lib.join_cons,joinTail_map];rfl
theorem nums_txt_len (l:List Int) (h:∀ n∈l,I64 n):(l.flatMap (fun n=>32::fmtInt n)).length<=21*l.length:=by
 induction l with
 | nil=>simp
 | cons n l ih=>
   have h1:=ih fun n hn=>h n (List.mem_cons_of_mem _ hn)
   obtain ⟨a,b⟩:=h n (by simp)
   have h2:=(fmtInt_len n a b).1
   rw [List.flatMap_cons,List.length_append,List.length_cons,List.length_cons]
   omega
theorem lineT_len (kw:List UInt8) (l:List Int) (h:∀ n∈l,I64 n):(lineT kw l).length<=kw.length+21*l.length:=by
 have:=nums_txt_len l h
 unfold lineT
 rw [List.length_append];omega
theorem flat1 {α β:Type} (f:α->β) (l:List α):l.flatMap (fun n=>[f n])=l.map f:=by
 induction l with
 | nil=>rfl
 | cons a l ih=>rw [List.flatMap_cons,ih];rfl
theorem LOOP_app {α β X:Type} [Inhabited α] (l:List α) (g:α->List β) (s0:List β) (B:Nat) (R:Option X) (step:(List β × Int->Option X)->List β × Int->Option X) (hl:Sm l) (hB:(s0++l.flatMap g).length<=B)
 (hs:∀ (r:List β × Int->Option X) (i:Nat) (s:List β),IntKind.i64.wrap ((i:Int)+1)=(i:Int)+1->(0<=(i:Int)/\(i:Int)<(l.length:Int))->ix l (i:Int)∈l->s.length+(g (ix l (i:Int))).length<=B->step r (s,(i:Int))=r (s++g (ix l (i:Int)),(i:Int)+1))
 (he:∀ (r:List β × Int->Option X),step r (s0++l.flatMap g,(l.length:Int))=R):LOOP step fuel (s0,(0:Int))=R:=by
 refine (LOOP_i l (fun i s=>s=s0++(l.take i).flatMap g) (fun _ _ _=>R) step s0 hl (by simp) ?_ ?_)
 ·intro r i t s hp hw hc hm hr
  have hi:i<l.length:=by omega
  have e:s++g (ix l (i:Int))=s0++(l.take (i+1)).flatMap g:=by
   have h1:l.take (i+1)=l.take i++[ix l (i:Int)]:=by
    rw [ix_lt l i hi,List.take_succ,List.getElem?_eq_getElem hi];rfl
   rw [h1,List.flatMap_append,hp,List.append_assoc];simp
  have hlen:(s++g (ix l (i:Int))).length<=B:=by
   rw [e]
   refine Nat.le_trans ?_ hB
   have h2:l.flatMap g=(l.take (i+1)).flatMap g++(l.drop (i+1)).flatMap g:=by rw [<- List.flatMap_append,List.take_append_drop]
   rw [h2,List.length_append,List.length_append,List.length_append];omega
  rw [List.length_append] at hlen
  rw [hs r i s hw hc hm hlen,hr _ e]
 ·intro r s hp
  rw [List.take_length] at hp
  rw [hp,he]
theorem FormatLine_eq (kw:List UInt8) (l:List Int) (hk:kw.length<=1000) (hl:l.length<=100000) (h:∀ n∈l,I64 n):scene_FormatLine kw l=some (lineT kw l):=by
 unfold scene_FormatLine
 simp only [Let_nr]
 rw [<- lineT_join]
 refine LOOP_app l (fun n=>[fmtInt n]) [kw] 100001 _ _ (sm_of hl (by decide)) ?_ ?_ ?_
 ·rw [flat1];simp;omega
 ·intro r i s hw hc hm hb
  have hb:s.length+1<=100001:=hb
  obtain ⟨q1,q2⟩:=h _ hm
  simp only [dlt hc,if_true,Chk_of hc,FormatInt_eq _ q1 q2,Bind_snr,hw]
  rw [Chk_of (by simp;omega)]
 ·intro r
  simp only [dll,ff,if_false]
  rw [flat1,show [kw]++l.map fmtInt=kw::l.map fmtInt from rfl]
  rw [JoinFields_eq _ (by simp;omega) (by
   rw [lineT_join]
   have:=lineT_len kw l h
   omega)]
  rfl
def kWorld:List UInt8:=#[(119:UInt8),(111:UInt8),(114:UInt8),(108:UInt8),(100:UInt8)].toList
def kContact:List UInt8:=#[(99:UInt8),(111:UInt8),(110:UInt8),(116:UInt8),(97:UInt8),(99:UInt8),(116:UInt8)].toList
def kPoint:List UInt8:=#[(112:UInt8),(111:UInt8),(105:UInt8),(110:UInt8),(116:UInt8)].toList
def kOverlap:List UInt8:=#[(111:UInt8),(118:UInt8),(101:UInt8),(114:UInt8),(108:UInt8),(97:UInt8),(112:UInt8)].toList
def bit (b:Bool):Int:=if b=true then 1 else 0
theorem bit64 (b:Bool):I64 (bit b):=by cases b <;> exact ⟨by decide,by decide⟩
theorem boolValue_eq (b:Bool):scene_boolValue b=some (bit b):=by cases b <;> rfl
def wNums (w:World_):List Int:=[w.Settings.TimeStep,w.Settings.Gravity.X,w.Settings.Gravity.Y,w.Settings.Iterations,w.Settings.SleepSteps,w.NextID,w.Frame]
def bNums (b:Body):List Int:=[b.ID,b.Kind,b.Transform.Position.X,b.Transform.Position.Y,b.Transform.Angle,b.Velocity.X,b.Velocity.Y,b.AngularVelocity,b.Force.X,b.Force.Y,b.Torque,b.LinearDamping,b.AngularDamping,b.GravityScale,bit b.Bullet,bit b.FixedRotation,bit b.NoSleep,bit b.Asleep,b.IdleSteps]
def fNums (f:Fixture):List Int:=[f.Density,f.Friction,f.Restitution,bit f.Sensor,f.Category,f.Mask,f.Group,f.Shape.Kind,f.Shape.Radius]++f.Shape.Vertices.flatMap (fun v=>[v.X,v.Y])
def jNums (j:Joint):List Int:=[j.ID,j.Kind,j.BodyA,j.BodyB,j.AnchorA.X,j.AnchorA.Y,j.AnchorB.X,j.AnchorB.Y,j.Axis.X,j.Axis.Y,j.ReferenceAngle,bit j.EnableLimit,j.Lower,j.Upper,bit j.EnableMotor,j.MotorSpeed,j.MaxForce,j.Softness,j.BreakForce,bit j.CollideConnected,j.Impulses.1,j.Impulses.2.1,j.Impulses.2.2.1,j.Impulses.2.2.2]
def cNums (c:Contact):List Int:=[c.Key.BodyA,c.Key.FixtureA,c.Key.BodyB,c.Key.FixtureB,c.Manifold.Normal.X,c.Manifold.Normal.Y]
def dNums (d:ContactPoint):List Int:=[d.Point.X,d.Point.Y,d.Separation,d.ID,d.NormalImpulse,d.TangentImpulse]
def kNums (k:PairKey):List Int:=[k.BodyA,k.FixtureA,k.BodyB,k.FixtureB]
def bLines (b:Body):List (List UInt8):=lineT kBody (bNums b)::b.Fixtures.map fun f=>lineT kFix (fNums f)
def cLines (c:Contact):List (List UInt8):=lineT kContact (cNums c)::c.Manifold.Points.map fun d=>lineT kPoint (dNums d)
def allLines (w:World_):List (List UInt8):=lineT kWorld (wNums w)::(w.Bodies.flatMap bLines++(w.Joints.map (fun j=>lineT kJoint (jNums j))++(w.Contacts.flatMap cLines++w.Overlaps.map fun k=>lineT kOverlap (kNums k))))
def textOf (w:World_):List UInt8:=flat 10 (allLines w)
structure AllI (w:World_):Prop where
 hw:∀ n∈wNums w,I64 n
 hb:∀ b∈w.Bodies,∀ n∈bNums b,I64 n
 hf:∀ b∈w.Bodies,∀ f∈b.Fixtures,∀ n∈fNums f,I64 n
 hj:∀ j∈w.Joints,∀ n∈jNums j,I64 n
 hc:∀ c∈w.Contacts,∀ n∈cNums c,I64 n
 hd:∀ c∈w.Contacts,∀ d∈c.Manifold.Points,∀ n∈dNums d,I64 n
 hk:∀ k∈w.Overlaps,∀ n∈kNums k,I64 n
theorem fNums_len (f:Fixture):(fNums f).length=9+2*f.Shape.Vertices.length:=by
 have:∀ l:List Vec,(l.flatMap (fun v=>[v.X,v.Y])).length=2*l.length:=by
  intro l
  induction l with
  | nil=>rfl
  | cons a l ih=>rw [List.flatMap_cons,List.length_append,ih];simp;omega
 unfold fNums
 rw [List.length_append,this];rfl
theorem bodyLines_eq (b:Body) (hf:b.Fixtures.length<=1000) (hv:∀ f∈b.Fixtures,f.Shape.Vertices.length<=10000) (h1:∀ n∈bNums b,I64 n) (h2:∀ f∈b.Fixtures,∀ n∈fNums f,I64 n):scene_bodyLines b=some (bLines b):=by
 unfold scene_bodyLines
 simp only [boolValue_eq,Bind_snr,Let_nr]
 refine Eq.trans (Bind_of (FormatLine_eq kBody (bNums b) (by decide) (by show 19<=_;decide) h1)) ?_
 refine LOOP_app b.Fixtures (fun f=>[lineT kFix (fNums f)]) [lineT kBody (bNums b)] 30000 _ _ (sm_of hf (by decide)) ?_ ?_ ?_
 ·rw [flat1];simp;omega
 ·intro r i s hw hc hm hb
  have hb:s.length+1<=30000:=hb
  have hv1:=hv _ hm
  simp only [dlt hc,if_true,Chk_of hc,hw]
  generalize hx:ix b.Fixtures (i:Int)=f at hm hv1
  refine LOOP_app f.Shape.Vertices (fun v=>[v.X,v.Y]) _ 30000 _ _ (sm_of hv1 (by decide)) ?_ ?_ ?_
  ·have:=fNums_len f
   unfold fNums at this
   have e:∀ a,([f.Density,f.Friction,f.Restitution,a,f.Category,f.Mask,f.Group,f.Shape.Kind,f.Shape.Radius]++f.Shape.Vertices.flatMap (fun v=>[v.X,v.Y])).length=9+2*f.Shape.Vertices.length:=fun a=>by rw [List.length_append] at this ⊢;exact this
   rw [e];omega
  ·intro r i s hw hc hm hb
   have hb:s.length+2<=30000:=hb
   simp only [dlt hc,if_true,Chk_of hc,hw]
   rw [Chk_of (by simp;omega)]
  ·intro r2
   simp only [dll,ff,if_false]
   have hl:(fNums f).length<=100000:=by rw [fNums_len];omega
   refine Eq.trans (Bind_of (FormatLine_eq kFix (fNums f) (by decide) hl (h2 f hm))) ?_
   rw [Chk_of (by simp;omega)]
 ·intro r
  simp only [dll,ff,if_false]
  rw [flat1];rfl
theorem contactLines_eq (c:Contact) (hp:c.Manifold.Points.length<=1000) (h1:∀ n∈cNums c,I64 n) (h2:∀ d∈c.Manifold.Points,∀ n∈dNums d,I64 n):scene_contactLines c=some (cLines c):=by
 unfold scene_contactLines
 simp only [Let_nr]
 refine Eq.trans (Bind_of (FormatLine_eq kContact (cNums c) (by decide) (by show 6<=_;decide) h1)) ?_
 refine LOOP_app c.Manifold.Points (fun d=>[lineT kPoint (dNums d)]) [lineT kContact (cNums c)] 30000 _ _ (sm_of hp (by decide)) ?_ ?_ ?_
 ·rw [flat1];simp;omega
 ·intro r i s hw hc hm hb
  have hb:s.length+1<=30000:=hb
  simp only [dlt hc,if_true,Chk_of hc,hw]
  refine Eq.trans (Bind_of (FormatLine_eq kPoint (dNums _) (by decide) (by show 6<=_;decide) (h2 _ hm))) ?_
  rw [Chk_of (by simp;omega)]
 ·intro r
  simp only [dll,ff,if_false]
  rw [flat1];rfl
theorem jointLine_eq (j:Joint) (h1:∀ n∈jNums j,I64 n):scene_jointLine j=some (lineT kJoint (jNums j)):=by
 unfold scene_jointLine
 simp only [boolValue_eq,Bind_snr,Let_nr]
 rw [Chk_of (by simp)]
 exact Bind_of (FormatLine_eq kJoint (jNums j) (by decide) (by show 24<=_;decide) h1)
theorem flatMap_len_le {α β:Type} (l:List α) (g:α->List β) (n:Nat) (h:∀ a∈l,(g a).length<=n):(l.flatMap g).length<=l.length*n:=by
 induction l with
 | nil=>simp
 | cons a l ih=>
   have h1:=h a (by simp)
   have h2:=ih fun b hb=>h b (List.mem_cons_of_mem _ hb)
   rw [List.flatMap_cons,List.length_append,List.length_cons,Nat.succ_mul];omega
theorem lines_count (w:World_) (h:Few w):(allLines w).length<=3000000:=by
 have h1:=flatMap_len_le w.Bodies bLines 1001 fun b hb=>by have:=h.fixtures b hb;unfold bLines;simp;omega
 have h2:=flatMap_len_le w.Contacts cLines 1001 fun c hc=>by have:=h.points c hc;unfold cLines;simp;omega
 have h3:=h.bodies
 have h4:=h.joints
 have h5:=h.contacts
 have h6:=h.overlaps
 unfold allLines
 simp only [List.length_cons,List.length_append,List.length_map]
 omega
theorem lines_len (w:World_) (h:Few w) (hi:AllI w):∀ x∈allLines w,x.length<=500000:=by
 intro x hx
 unfold allLines at hx
 simp only [List.mem_cons,List.mem_append,List.mem_map,List.mem_flatMap] at hx
 rcases hx with rfl | ⟨b,hb,hx⟩ | ⟨j,hj,rfl⟩ | ⟨c,hc,hx⟩ | ⟨k,hk,rfl⟩
 ·have:=lineT_len kWorld _ hi.hw
  have e:(wNums w).length=7:=rfl
  have e2:kWorld.length=5:=rfl
  omega
 ·unfold bLines at hx
  simp only [List.mem_cons,List.mem_map] at hx
  rcases hx with rfl | ⟨f,hf,rfl⟩
  ·have:=lineT_len kBody _ (hi.hb b hb)
   have e:(bNums b).length=19:=rfl
   have e2:kBody.length=4:=rfl
   omega
  ·have:=lineT_len kFix _ (hi.hf b hb f hf)
   have e:=fNums_len f
   have e1:=h.vertices b hb f hf
   have e2:kFix.length=7:=rfl
   omega
 ·have:=lineT_len kJoint _ (hi.hj j hj)
  have e:(jNums j).length=24:=rfl
  have e2:kJoint.length=5:=rfl
  omega
 ·unfold cLines at hx
  simp only [List.mem_cons,List.mem_map] at hx
  rcases hx with rfl | ⟨d,hd,rfl⟩
  ·have:=lineT_len kContact _ (hi.hc c hc)
   have e:(cNums c).length=6:=rfl
   have e2:kContact.length=7:=rfl
   omega
  ·have:=lineT_len kPoint _ (hi.hd c hc d hd)
   have e:(dNums d).length=6:=rfl
   have e2:kPoint.length=5:=rfl
   omega
 ·have:=lineT_len kOverlap _ (hi.hk k hk)
  have e:(kNums k).length=4:=rfl
  have e2:kOverlap.length=7:=rfl
  omega
theorem flat_app (c:UInt8) (a b:List (List UInt8)):flat c (a++b)=flat c a++flat c b:=by unfold flat;rw [List.flatMap_append]
theorem flat_map {α:Type} (c:UInt8) (l:List α) (g:α->List UInt8):flat c (l.map g)=l.flatMap fun a=>g a++[c]:=by
 unfold flat
 induction l with
 | nil=>rfl
 | cons a l ih=>rw [List.map_cons,List.flatMap_cons,List.flatMap_cons,ih]
theorem flat_flatMap {α:Type} (c:UInt8) (l:List α) (g:α->List (List UInt8)):flat c (l.flatMap g)=l.flatMap fun a=>flat c (g a):=by
 induction l with
 | nil=>rfl
 | cons a l ih=>rw [List.flatMap_cons,flat_app,ih,List.flatMap_cons]
theorem flat_len (c:UInt8) (l:List (List UInt8)) (n:Nat) (h:∀ x∈l,x.length<=n):(flat c l).length<=l.length*(n+1):=by
 unfold flat
 exact flatMap_len_le l _ (n+1) fun a ha=>by have:=h a ha;simp;omega
theorem text_len (w:World_) (h:Few w) (hi:AllI w):(textOf w).length<=2000000000000:=by
 have h1:=flat_len 10 (allLines w) 500000 (lines_len w h hi)
 have h2:=lines_count w h
 unfold textOf
 omega
theorem Format_eq (w:World_) (h:Few w) (hi:AllI w):scene_Format w=some (if (wv w != (0:Int))=true then (([]:List UInt8),(18:Int)) else (textOf w,0)):=by
 unfold scene_Format
 simp only [world_Val_eq w h,Bind_snr,Let_nr]
 by_cases hv:(wv w != (0:Int))=true
 ·rw [if_pos hv,if_pos hv]
 rw [if_neg hv,if_neg hv]
 have hc:=lines_count w h
 unfold allLines at hc
 simp only [List.length_cons,List.length_append,List.length_map] at hc
 refine Eq.trans (Bind_of (FormatLine_eq kWorld (wNums w) (by decide) (by show 7<=_;decide) hi.hw)) ?_
 refine LOOP_app w.Bodies bLines _ 3000000 _ _ (sm_of h.bodies (by decide)) ?_ ?_ ?_
 ·simp only [List.length_cons,List.length_append,List.length_nil];omega
 ·intro r i s hw hcc hm hb
  simp only [dlt hcc,if_true,Chk_of hcc,hw,bodyLines_eq _ (h.fixtures _ hm) (h.vertices _ hm) (hi.hb _ hm) (hi.hf _ hm),Bind_snr]
  rw [Chk_of (by omega)]
 intro r
 simp only [dll,ff,if_false]
 refine LOOP_app w.Joints (fun j=>[lineT kJoint (jNums j)]) _ 3000000 _ _ (sm_of h.joints (by decide)) ?_ ?_ ?_
 ·rw [flat1];simp only [List.length_cons,List.length_append,List.length_nil,List.length_map];omega
 ·intro r i s hw hcc hm hb
  have hb:s.length+1<=3000000:=hb
  simp only [dlt hcc,if_true,Chk_of hcc,hw,jointLine_eq _ (hi.hj _ hm),Bind_snr]
  rw [Chk_of (by simp;omega)]
 intro r
 simp only [dll,ff,if_false]
 refine LOOP_app w.Contacts cLines _ 3000000 _ _ (sm_of h.contacts (by decide)) ?_ ?_ ?_
 ·rw [flat1];simp only [List.length_cons,List.length_append,List.length_nil,List.length_map];omega
 ·intro r i s hw hcc hm hb
  simp only [dlt hcc,if_true,Chk_of hcc,hw,contactLines_eq _ (h.points _ hm) (hi.hc _ hm) (hi.hd _ hm),Bind_snr]
  rw [Chk_of (by omega)]
 intro r
 simp only [dll,ff,if_false]
 refine LOOP_app w.Overlaps (fun k=>[lineT kOverlap (kNums k)]) _ 3000000 _ _ (sm_of h.overlaps (by decide)) ?_ ?_ ?_
 ·rw [flat1,flat1];simp only [List.length_cons,List.length_append,List.length_nil,List.length_map];omega
 ·intro r i s hw hcc hm hb
  have hb:s.length+1<=3000000:=hb
  simp only [dlt hcc,if_true,Chk_of hcc,hw]
  refine Eq.trans (Bind_of (FormatLine_eq kOverlap (kNums _) (by decide) (by show 4<=_;decide) (hi.hk _ hm))) ?_
  rw [Chk_of (by simp;omega)]
 intro r
 simp only [dll,ff,if_false]
 have e:[lineT kWorld (wNums w)]++w.Bodies.flatMap bLines++w.Joints.flatMap (fun j=>[lineT kJoint (jNums j)])++w.Contacts.flatMap cLines++w.Overlaps.flatMap (fun k=>[lineT kOverlap (kNums k)])=allLines w:=by
  rw [flat1,flat1];unfold allLines;simp only [List.append_assoc];rfl
 rw [e]
 have hL:=lines_count w h
 have hT:=text_len w h hi
 unfold textOf at hT ⊢
 generalize allLines w=L at hL hT ⊢
 refine LOOP_app L (fun p=>p++[10]) _ 2000000000000 _ _ (sm_of hL (by decide)) hT ?_ ?_
 ·intro r i s hw hcc hm hb
  rw [List.length_append,List.length_singleton] at hb
  simp only [dlt hcc,if_true,Chk_of hcc,hw]
  rw [Chk_of (by omega),Chk_of (by simp;omega)]
 ·intro r
  simp only [dll,ff,if_false]
  rfl
theorem ga1 (c a d:Bool):(bif c then (if (c==true)=true then a else d) else false)=(c&&a):=by cases c <;> rfl
theorem fmtInt_ch (n:Int) (c:UInt8) (h:c∈fmtInt n):c≠10/\c≠32:=by
 have hd:=(digs_facts _ _ (Nat.le_refl n.natAbs)).1
 rw [List.all_eq_true] at hd
 have key:c∈digs n.natAbs->c≠10/\c≠32:=by
  intro hc
  have:=hd c hc
  refine ⟨?_,?_⟩ <;> rintro rfl <;> exact absurd this (by decide)
 unfold fmtInt at h
 split at h
 ·rcases List.mem_cons.1 h with rfl | h
  ·exact ⟨by decide,by decide⟩
  ·exact key h
 ·exact key h
theorem lineT_no10 (k:List UInt8) (l:List Int) (hk:(10:UInt8)∉k):(10:UInt8)∉lineT k l:=by
 unfold lineT
 intro h
 rcases List.mem_append.1 h with h | h
 ·exact hk h
 ·obtain ⟨n,-,hn⟩:=List.mem_flatMap.1 h
  rcases List.mem_cons.1 hn with hn | hn
  ·exact absurd hn (by decide)
  ·exact (fmtInt_ch n _ hn).1 rfl
theorem spl_flat:∀ L:List (List UInt8),(∀ p∈L,(10:UInt8)∉p)->spl 10 (flat 10 L)=L++[[]]
 | [],_=>rfl
 | p::L,h=>by
   rw [flat_cons,spl_app 10 _ p (h p (by simp)),spl_flat L fun q hq=>h q (List.mem_cons_of_mem _ hq)];rfl
abbrev Tok:=List UInt8 × List Int
def bT (b:Body):List Tok:=(kBody,bNums b)::b.Fixtures.map fun f=>(kFix,fNums f)
def cT (c:Contact):List Tok:=(kContact,cNums c)::c.Manifold.Points.map fun d=>(kPoint,dNums d)
def toks (w:World_):List Tok:=(kWorld,wNums w)::(w.Bodies.flatMap bT++(w.Joints.map (fun j=>(kJoint,jNums j))++(w.Contacts.flatMap cT++w.Overlaps.map fun k=>(kOverlap,kNums k))))
def kwOk (k:List UInt8):Prop:=(10:UInt8)∉k/\(32:UInt8)∉k
theorem toks_ok (w:World_):∀ t∈toks w,kwOk t.1:=by
 intro t ht
 unfold toks bT cT at ht
 simp only [List.mem_cons,List.mem_append,List.mem_map,List.mem_flatMap] at ht
 rcases ht with rfl | ⟨b,-,rfl | ⟨f,-,rfl⟩⟩ | ⟨j,-,rfl⟩ | ⟨c,-,rfl | ⟨d,-,rfl⟩⟩ | ⟨k,-,rfl⟩ <;> (dsimp only;exact ⟨by decide,by decide⟩)
theorem toks_lines (w:World_):(toks w).map (fun t=>lineT t.1 t.2)=allLines w:=by
 unfold toks allLines bT cT bLines cLines
 simp only [List.map_cons,List.map_append,List.map_flatMap,List.map_map]
 rfl
def Vec_P (x:Vec):Prop:=(IntKind.i64.min<=x.X/\x.X<=IntKind.i64.max)/\(IntKind.i64.min<=x.Y/\x.Y<=IntKind.i64.max)
def Settings_P (x:Settings):Prop:=(IntKind.i64.min<=x.TimeStep/\x.TimeStep<=IntKind.i64.max)/\Vec_P x.Gravity/\(IntKind.i64.min<=x.Iterations/\x.Iterations<=IntKind.i64.max)/\(IntKind.i64.min<=x.SleepSteps/\x.SleepSteps<=IntKind.i64.max)
def Transform_P (x:Transform):Prop:=Vec_P x.Position/\(IntKind.i64.min<=x.Angle/\x.Angle<=IntKind.i64.max)
def Shape_P (x:Shape):Prop:=(IntKind.i64.min<=x.Kind/\x.Kind<=IntKind.i64.max)/\(IntKind.i64.min<=x.Radius/\x.Radius<=IntKind.i64.max)/\((∀ a∈x.Vertices,Vec_P a)/\(x.Vertices).length<=9223372036854775807)
def Fixture_P (x:Fixture):Prop:=Shape_P x.Shape/\(IntKind.i64.min<=x.Density/\x.Density<=IntKind.i64.max)/\(IntKind.i64.min<=x.Friction/\x.Friction<=IntKind.i64.max)/\(IntKind.i64.min<=x.Restitution/\x.Restitution<=IntKind.i64.max)/\True/\(IntKind.i64.min<=x.Category/\x.Category<=IntKind.i64.max)/\(IntKind.i64.min<=x.Mask/\x.Mask<=IntKind.i64.max)/\(IntKind.i64.min<=x.Group/\x.Group<=IntKind.i64.max)
def Body_P (x:Body):Prop:=(IntKind.i64.min<=x.ID/\x.ID<=IntKind.i64.max)/\(IntKind.i64.min<=x.Kind/\x.Kind<=IntKind.i64.max)/\Transform_P x.Transform/\Vec_P x.Velocity/\(IntKind.i64.min<=x.AngularVelocity/\x.AngularVelocity<=IntKind.i64.max)/\Vec_P x.Force/\(IntKind.i64.min<=x.Torque/\x.Torque<=IntKind.i64.max)/\(IntKind.i64.min<=x.LinearDamping/\x.LinearDamping<=IntKind.i64.max)/\(IntKind.i64.min<=x.AngularDamping/\x.AngularDamping<=IntKind.i64.max)/\(IntKind.i64.min<=x.GravityScale/\x.GravityScale<=IntKind.i64.max)/\True/\True/\True/\True/\(IntKind.i64.min<=x.IdleSteps/\x.IdleSteps<=IntKind.i64.max)/\((∀ a∈x.Fixtures,Fixture_P a)/\(x.Fixtures).length<=9223372036854775807)
def Joint_P (x:Joint):Prop:=(IntKind.i64.min<=x.ID/\x.ID<=IntKind.i64.max)/\(IntKind.i64.min<=x.Kind/\x.Kind<=IntKind.i64.max)/\(IntKind.i64.min<=x.BodyA/\x.BodyA<=IntKind.i64.max)/\(IntKind.i64.min<=x.BodyB/\x.BodyB<=IntKind.i64.max)/\Vec_P x.AnchorA/\Vec_P x.AnchorB/\Vec_P x.Axis/\(IntKind.i64.min<=x.ReferenceAngle/\x.ReferenceAngle<=IntKind.i64.max)/\True/\(IntKind.i64.min<=x.Lower/\x.Lower<=IntKind.i64.max)/\(IntKind.i64.min<=x.Upper/\x.Upper<=IntKind.i64.max)/\True/\(IntKind.i64.min<=x.MotorSpeed/\x.MotorSpeed<=IntKind.i64.max)/\(IntKind.i64.min<=x.MaxForce/\x.MaxForce<=IntKind.i64.max)/\(IntKind.i64.min<=x.Softness/\x.Softness<=IntKind.i64.max)/\(IntKind.i64.min<=x.BreakForce/\x.BreakForce<=IntKind.i64.max)/\True/\((IntKind.i64.min<=x.Impulses.1/\x.Impulses.1<=IntKind.i64.max)/\(IntKind.i64.min<=x.Impulses.2.1/\x.Impulses.2.1<=IntKind.i64.max)/\(IntKind.i64.min<=x.Impulses.2.2.1/\x.Impulses.2.2.1<=IntKind.i64.max)/\(IntKind.i64.min<=x.Impulses.2.2.2/\x.Impulses.2.2.2<=IntKind.i64.max))
def PairKey_P (x:PairKey):Prop:=(IntKind.i64.min<=x.BodyA/\x.BodyA<=IntKind.i64.max)/\(IntKind.i64.min<=x.FixtureA/\x.FixtureA<=IntKind.i64.max)/\(IntKind.i64.min<=x.BodyB/\x.BodyB<=IntKind.i64.max)/\(IntKind.i64.min<=x.FixtureB/\x.FixtureB<=IntKind.i64.max)
def ContactPoint_P (x:ContactPoint):Prop:=Vec_P x.Point/\(IntKind.i64.min<=x.Separation/\x.Separation<=IntKind.i64.max)/\(IntKind.i64.min<=x.ID/\x.ID<=IntKind.i64.max)/\(IntKind.i64.min<=x.NormalImpulse/\x.NormalImpulse<=IntKind.i64.max)/\(IntKind.i64.min<=x.TangentImpulse/\x.TangentImpulse<=IntKind.i64.max)
def Manifold_P (x:Manifold):Prop:=Vec_P x.Normal/\((∀ a∈x.Points,ContactPoint_P a)/\(x.Points).length<=9223372036854775807)
def Contact_P (x:Contact):Prop:=PairKey_P x.Key/\Manifold_P x.Manifold
def World__P (x:World_):Prop:=Settings_P x.Settings/\((∀ a∈x.Bodies,Body_P a)/\(x.Bodies).length<=9223372036854775807)/\((∀ a∈x.Joints,Joint_P a)/\(x.Joints).length<=9223372036854775807)/\((∀ a∈x.Contacts,Contact_P a)/\(x.Contacts).length<=9223372036854775807)/\((∀ a∈x.Overlaps,PairKey_P a)/\(x.Overlaps).length<=9223372036854775807)/\(IntKind.i64.min<=x.NextID/\x.NextID<=IntKind.i64.max)/\(IntKind.i64.min<=x.Frame/\x.Frame<=IntKind.i64.max)
theorem AllI_of {w:World_} (h:World__P w):AllI w:=by
 obtain ⟨⟨s1,⟨s2,s3⟩,s4,s5⟩,⟨hb,-⟩,⟨hj,-⟩,⟨hc,-⟩,⟨ho,-⟩,n1,n2⟩:=h
 refine ⟨?_,?_,?_,?_,?_,?_,?_⟩
 ·intro n hn
  simp only [wNums,List.mem_cons,List.not_mem_nil,or_false] at hn
  rcases hn with rfl | rfl | rfl | rfl | rfl | rfl | rfl <;> assumption
 ·intro b hb' n hn
  obtain ⟨b1,b2,⟨⟨b3,b4⟩,b5⟩,⟨b6,b7⟩,b8,⟨b9,b10⟩,b11,b12,b13,b14,-,-,-,-,b15,-⟩:=hb b hb'
  simp only [bNums,List.mem_cons,List.not_mem_nil,or_false] at hn
  rcases hn with rfl | rfl | rfl | rfl | rfl | rfl | rfl | rfl | rfl | rfl | rfl | rfl | rfl | rfl | rfl | rfl | rfl | rfl | rfl <;> first | assumption | exact bit64 _
 ·intro b hb' f hf n hn
  obtain ⟨-,-,-,-,-,-,-,-,-,-,-,-,-,-,-,⟨hfx,-⟩⟩:=hb b hb'
  obtain ⟨⟨f1,f2,⟨hv,-⟩⟩,f3,f4,f5,-,f6,f7,f8⟩:=hfx f hf
  simp only [fNums,List.mem_cons,List.mem_append,List.mem_flatMap,List.not_mem_nil,or_false] at hn
  rcases hn with (rfl | rfl | rfl | rfl | rfl | rfl | rfl | rfl | rfl) | ⟨v,hv',rfl | rfl⟩
  all_goals first | assumption | exact bit64 _ | exact (hv v hv').1 | exact (hv v hv').2
 ·intro j hj' n hn
  obtain ⟨j1,j2,j3,j4,⟨j5,j6⟩,⟨j7,j8⟩,⟨j9,j10⟩,j11,-,j12,j13,-,j14,j15,j16,j17,-,⟨j18,j19,j20,j21⟩⟩:=hj j hj'
  simp only [jNums,List.mem_cons,List.not_mem_nil,or_false] at hn
  rcases hn with rfl | rfl | rfl | rfl | rfl | rfl | rfl | rfl | rfl | rfl | rfl | rfl | rfl | rfl | rfl | rfl | rfl | rfl | rfl | rfl | rfl | rfl | rfl | rfl <;> first | assumption | exact bit64 _
 ·intro c hc' n hn
  obtain ⟨⟨c1,c2,c3,c4⟩,⟨⟨c5,c6⟩,-⟩⟩:=hc c hc'
  simp only [cNums,List.mem_cons,List.not_mem_nil,or_false] at hn
  rcases hn with rfl | rfl | rfl | rfl | rfl | rfl <;> assumption
 ·intro c hc' d hd n hn
  obtain ⟨-,⟨-,⟨hp,-⟩⟩⟩:=hc c hc'
  obtain ⟨⟨d1,d2⟩,d3,d4,d5,d6⟩:=hp d hd
  simp only [dNums,List.mem_cons,List.not_mem_nil,or_false] at hn
  rcases hn with rfl | rfl | rfl | rfl | rfl | rfl <;> assumption
 ·intro k hk n hn
  obtain ⟨k1,k2,k3,k4⟩:=ho k hk
  simp only [kNums,List.mem_cons,List.not_mem_nil,or_false] at hn
  rcases hn with rfl | rfl | rfl | rfl <;> assumption
end GoForm
end
