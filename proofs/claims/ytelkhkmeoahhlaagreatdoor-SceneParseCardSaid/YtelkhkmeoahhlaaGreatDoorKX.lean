/- Several texts in one. No conditions. -/
import Derived.Test.YtelkhkmeoahhlaaGreatDoorF52D
import Derived.Test.YtelkhkmeoahhlaaGreatDoorF52S
import Derived.Test.YtelkhkmeoahhlaaGreatDoorOB
section
set_option linter.all false
set_option maxRecDepth 100000
open Go Go.Rx
namespace GoForm
theorem jbE:Qx=some true:=by kernel_rfl
theorem jap {α A B X:Type}[Inhabited α](l:List α)(P:Nat->A->B->Prop)(G:List α->Nat->A->B->Option X)(step:(A × B × Int->Option X)->A × B × Int->Option X)(hl:Sm l)
 (hs:∀(r:A × B × Int->Option X) (i:Nat) (t:List α) (a:A) (b:B),P i a b->IntKind.i64.wrap ((i:Int)+1)=(i:Int)+1->(0<=(i:Int)/\(i:Int)<(l.length:Int))->ix l (i:Int)∈l->(∀a b,P (i+1) a b->r (a,b,(i:Int)+1)=G t (i+1) a b)->step r (a,b,(i:Int))=G (ix l (i:Int)::t) i a b)
 (he:∀(r:A × B × Int->Option X) (a:A) (b:B),P l.length a b->step r (a,b,(l.length:Int))=G [] l.length a b):∀(n i:Nat) (a:A) (b:B),P i a b->i<=l.length->l.length - i<n->Yg step n (a,b,(i:Int))=G (l.drop i) i a b
 |0,i,a,b,_,_,h=>by omega
 |n + 1,i,a,b,hp,h1,h2=>by
  rw[kY]
  by_cases h:i<l.length
  ·rw[Ke l i h]
   exact hs _ i (l.drop (i+1)) a b hp (jb1 i (by unfold Sm at hl;omega)) ⟨by omega,by omega⟩ (by rw[ml l i h];exact List.getElem_mem h) fun a b hp=>by
    have:=jap l P G step hl hs he n (i+1) a b hp (by omega) (by omega)
    simpa using this
  ·have:i=l.length:=by omega
   subst this
   rw[he _ a b hp,List.drop_length]
theorem jlJ {α A B X:Type}[Inhabited α](l:List α)(P:Nat->A->B->Prop)(G:List α->Nat->A->B->Option X)(step:(A × B × Int->Option X)->A × B × Int->Option X)(a0:A)(b0:B)(hl:Sm l)(h0:P 0 a0 b0)
 (hs:∀(r:A × B × Int->Option X) (i:Nat) (t:List α) (a:A) (b:B),P i a b->IntKind.i64.wrap ((i:Int)+1)=(i:Int)+1->(0<=(i:Int)/\(i:Int)<(l.length:Int))->ix l (i:Int)∈l->(∀a b,P (i+1) a b->r (a,b,(i:Int)+1)=G t (i+1) a b)->step r (a,b,(i:Int))=G (ix l (i:Int)::t) i a b)
 (he:∀(r:A × B × Int->Option X) (a:A) (b:B),P l.length a b->step r (a,b,(l.length:Int))=G [] l.length a b):Yg step fuel (a0,b0,(0:Int))=G l 0 a0 b0:=
 jap l P G step hl hs he fuel 0 a0 b0 h0 (Nat.zero_le _) (Nat.lt_trans (Nat.lt_of_le_of_lt (Nat.sub_le _ _) hl) (by unfold fuel;decide))
def b01 (s:List UInt8):Bool:=decide (s=[48])||decide (s=[49])
def jdV (f:List (List UInt8))(bl:List Int):Bool:=bl.any fun b => !b01 (ix f (1+b))
def syn (l:List (List UInt8)):Bool:=l.any fun s=>decide ((xw s).2=3)
def big (l:List (List UInt8)):Bool:=l.any fun s=>decide ((xw s).2≠0)
def Zy (l:List (List UInt8)):List Int:=l.map fun s=>(xw s).1
def jbX (f:List (List UInt8))(bl:List Int):List Int × Int:=if syn f.tail=true\/jdV f bl=true then([],3)else if big f.tail=true then([],6)else(Zy f.tail,0)
theorem jia (f:List (List UInt8))(bl:List Int)(hbl:Sm bl)(hb:∀x∈bl,0<=x/\x+1<(f.length:Int))(hf:Sm f)(fin:Option (List Int × Int))(step:(Int->Option (List Int × Int))->Int->Option (List Int × Int))
 (hs : step=fun rec s=>if decide (s<(bl.length:Int))=true then
   Chk ((0:Int)<=s/\s<(bl.length:Int)) (Chk ((0:Int)<=IntKind.i64.wrap ((1:Int)+ix bl s)/\IntKind.i64.wrap ((1:Int)+ix bl s)<(f.length:Int))
    (Chk (((ix f (IntKind.i64.wrap ((1:Int)+ix bl s)) != [48])==true)=true->(0:Int)<=IntKind.i64.wrap ((1:Int)+ix bl s)/\IntKind.i64.wrap ((1:Int)+ix bl s)<(f.length:Int))
      (if(bif ix f (IntKind.i64.wrap ((1:Int)+ix bl s)) != [48]then ix f (IntKind.i64.wrap ((1:Int)+ix bl s)) != [49]else false)=true then some ([],(3:Int))else rec (IntKind.i64.wrap (s+(1:Int))))))else fin):
 Yg step fuel 0=if jdV f bl=true then some ([],3)else fin:=by
 subst hs
 refine(Zw bl (fun t i=>if jdV f t=true then some ([],3)else fin) _ hbl ?_ ?_)
 ·intro r i t hw hc hm hr
  obtain⟨h1,h2⟩:=hb _ hm
  unfold Sm at hf
  have hx:IntKind.i64.wrap (1+ix bl (i:Int))=1+ix bl (i:Int):=Yh _ (by omega) (by omega)
  have hr2:(0:Int)<=1+ix bl (i:Int)/\1+ix bl (i:Int)<(f.length:Int):=⟨by omega,by omega⟩
  simp only[jj,dlt hc,if_true,ju hc,hx,ju hr2,ju (fun _=>hr2),hw]
  rw[hr]
  have e:jdV f (ix bl (i:Int)::t)=(!b01 (ix f (1+ix bl (i:Int)))||jdV f t):=rfl
  rw[e]
  generalize ix f (1+ix bl (i:Int))=z
  by_cases c1:z=[48]
  ·subst c1;simp[b01]
  ·by_cases c2:z=[49]
   ·subst c2;simp[b01]
   ·have:b01 z=false:=by simp[b01,c1,c2]
    simp[this,c1,c2]
 ·intro r
  simp only[jj,dll,ff,if_false]
  rfl
theorem jfl (f:List (List UInt8))(h:f≠[]):f.drop 1=f.tail:=by cases f <;> simp
theorem uo (f:List (List UInt8))(kw:List UInt8)(v:Int->Option Bool)(bl:List Int)(b:Bool)(hf:f.length<=1000000)(hs:∀s∈f,Sm s)(hv:f≠[]->v ((f.length:Int) - 1)=some b)(hbl:Sm bl)
 (hb:b=true->∀x∈bl,0<=x/\x+1<(f.length:Int)):JX f kw v bl=some (if f=[]\/ix f 0≠kw\/b=false then([],3)else jbX f bl):=by
 unfold JX
 have hsm:Sm f:=vk hf (by decide)
 by_cases h0:f=[]
 ·subst h0
  rfl
 have hpos:0<f.length:=List.length_pos_iff.2 h0
 have hlen:((f.length:Int)==0)=false:=by simp;omega
 have hw1:IntKind.i64.wrap ((f.length:Int) - 1)=(f.length:Int) - 1:=Yh _ (by omega) (by omega)
 have hr0:(0:Int)<=0/\(0:Int)<(f.length:Int):=⟨by omega,by omega⟩
 simp only[jj,hlen,ju (fun _=>hr0),hw1,cond_false]
 by_cases hk:ix f 0=kw
 ·rw[show(ix f 0 != kw)=false by simp[hk]]
  simp only[cond_false]
  rw[if_pos (show(false==false)=true from rfl),hv h0,jb]
  cases b with
  |false=>
   have e:(if f=[]\/ix f 0≠kw\/false=false then(([],3):List Int × Int)else jbX f bl)=([],3):=if_pos (Or.inr (Or.inr rfl))
   rw[e];rfl
  |true=>
   have e:(if f=[]\/ix f 0≠kw\/true=false then(([],3):List Int × Int)else jbX f bl)=jbX f bl:=if_neg (by simp[h0,hk])
   rw[e,Bool.not_true,if_neg (by decide),ju (by omega),ju (by omega)]
   refine(jlJ (f.drop 1) (fun i a _=>a.length=i) (fun t i a b=>some (if syn t=true\/jdV f bl=true then([],3)else if(b||big t)=true then([],6)else(a++Zy t,0))) _ _ _ (vk (n:=1000000) (by simp;omega) (by decide)) rfl ?_ ?_).trans ?_
   ·intro r i t a b hp hw hc hm hr
    have hP:=jc2 _ (hs _ (List.mem_of_mem_drop hm))
    have hal:a.length<=1000000:=by rw[hp];have:=hc.2;simp at this;omega
    simp only[dlt hc,if_true,ju hc,hP,jb,hw]
    generalize ix (f.drop 1) (i:Int)=x
    have e1:syn (x::t)=(decide ((xw x).2=3)||syn t):=rfl
    have e2:big (x::t)=(decide ((xw x).2≠0)||big t):=rfl
    have e3:Zy (x::t)=(xw x).1::Zy t:=rfl
    by_cases h3:(xw x).2=3
    ·rw[if_pos (by simp[h3]),if_pos (by rw[e1];simp[h3])]
    ·rw[if_neg (by simp[h3]),ju (by simp;omega),hr _ _ (by simp[hp])]
     have e4:syn (x::t)=syn t:=by rw[e1];simp[h3]
     rw[e4,e2,e3]
     by_cases h5:(xw x).2=0
     ·simp[h5]
     ·simp[h5]
   ·intro r a b hp
    simp only[dll,ff,if_false]
    rw[jia f bl hbl (hb rfl) hsm _ _ rfl]
    cases hB:jdV f bl <;> cases b <;> simp[syn,big,Zy]
   ·rw[jfl f h0]
    unfold jbX
    simp
 ·have e:(if f=[]\/ix f 0≠kw\/b=false then(([],3):List Int × Int)else jbX f bl)=([],3):=if_pos (Or.inr (Or.inl hk))
  rw[e,show(ix f 0 != kw)=true by simp[hk]]
  rfl
theorem jii (f:List (List UInt8))(bl:List Int)(hbl:Sm bl)(hb:∀x∈bl,0<=x/\x+1<(f.length:Int))(hf:Sm f)(fin:Option (List Int × Int))(step:(Int->Option (List Int × Int))->Int->Option (List Int × Int))
 (hs : step=fun rec s=>if decide (s<(bl.length:Int))=true then
   Chk ((0:Int)<=s/\s<(bl.length:Int)) (Chk ((0:Int)<=IntKind.i64.wrap ((1:Int)+ix bl s)/\IntKind.i64.wrap ((1:Int)+ix bl s)<(f.length:Int))
       (if(bif ix f (IntKind.i64.wrap ((1:Int)+ix bl s)) != [48]then ix f (IntKind.i64.wrap ((1:Int)+ix bl s)) != [49]else false)=true then some ([],(3:Int))else rec (IntKind.i64.wrap (s+(1:Int)))))else fin):
 Yg step fuel 0=if jdV f bl=true then some ([],3)else fin:=by
 subst hs
 refine(Zw bl (fun t i=>if jdV f t=true then some ([],3)else fin) _ hbl ?_ ?_)
 ·intro r i t hw hc hm hr
  obtain⟨h1,h2⟩:=hb _ hm
  unfold Sm at hf
  have hx:IntKind.i64.wrap (1+ix bl (i:Int))=1+ix bl (i:Int):=Yh _ (by omega) (by omega)
  have hr2:(0:Int)<=1+ix bl (i:Int)/\1+ix bl (i:Int)<(f.length:Int):=⟨by omega,by omega⟩
  simp only[dlt hc,if_true,ju hc,hx,ju hr2,hw]
  rw[hr]
  have e:jdV f (ix bl (i:Int)::t)=(!b01 (ix f (1+ix bl (i:Int)))||jdV f t):=rfl
  rw[e]
  generalize ix f (1+ix bl (i:Int))=z
  by_cases c1:z=[48]
  ·subst c1;simp[b01]
  ·by_cases c2:z=[49]
   ·subst c2;simp[b01]
   ·have:b01 z=false:=by simp[b01,c1,c2]
    simp[this,c1,c2]
 ·intro r
  simp only[dll,ff,if_false]
  rfl
theorem jeo (f:List (List UInt8))(kw:List UInt8)(n:Int)(more:Bool)(bl:List Int)(hf:f.length<=1000000)(hs:∀s∈f,Sm s)(hn:0<=n/\n<=1000)(hbl:Sm bl)(hb:∀x∈bl,0<=x/\x<n):
 jB f kw n more bl=some (if(f.length:Int)<n+1\/ix f 0≠kw\/(more=false/\(f.length:Int)≠n+1)\/((f.length:Int) - n - 1).tmod 2≠0 then([],3)else jbX f bl):=by
 unfold jB
 have hsm:Sm f:=vk hf (by decide)
 have w1:IntKind.i64.wrap (n+1)=n+1:=Yh _ (by omega) (by omega)
 have w2:IntKind.i64.wrap ((f.length:Int) - n)=(f.length:Int) - n:=Yh _ (by omega) (by omega)
 have w3:IntKind.i64.wrap ((f.length:Int) - n - 1)=(f.length:Int) - n - 1:=Yh _ (by omega) (by omega)
 simp only[jj,w1,w2,w3]
 rw[ju (by intro h;have h2:¬ ((f.length:Int)<n+1):=by simpa using h
           omega)]
 by_cases c1:(f.length:Int)<n+1
 ·rw[if_pos (by simp[c1]),if_pos (Or.inl c1)]
 by_cases c2:ix f 0=kw
 ·by_cases c3 : more=false/\(f.length:Int)≠n+1
  ·rw[if_pos (by simp[c1,c2,c3.1,c3.2]),if_pos (Or.inr (Or.inr (Or.inl c3)))]
  ·by_cases c4:((f.length:Int) - n - 1).tmod 2=0
   ·have e:(if(f.length:Int)<n+1\/ix f 0≠kw\/(more=false/\(f.length:Int)≠n+1)\/((f.length:Int) - n - 1).tmod 2≠0 then(([],3):List Int × Int)else jbX f bl)=jbX f bl:=if_neg (by simp only[c1,c2,c3,c4];simp)
    have cond:¬ ((bif bif bif decide ((f.length:Int)<n+1)then true else ix f 0 != kw then true else bif !more then(f.length:Int) != n+1 else false then true else((f.length:Int) - n - 1).tmod 2 != 0)=true):=by
     simp only[c1,c2,c4]
     cases more with
     |true=>simp
     |false=>
      have:(f.length:Int)=n+1:=Classical.byContradiction fun h=>c3 ⟨rfl,h⟩
      simp[this]
    rw[e,if_neg cond,jii f bl hbl (fun x hx=>by have:=hb x hx;omega) hsm _ _ rfl]
    have h0:f≠[]:=by rintro rfl;simp at c1;omega
    cases hB:jdV f bl with
    |true=>unfold jbX;simp[hB]
    |false =>
     rw[if_neg (by simp)]
     refine(jap f (fun i a b=>a.length+1=i/\(b=0\/b=6)) (fun t i a b=>some (if syn t=true then([],3)else if b≠0\/big t=true then([],6)else(a++Zy t,0))) _ hsm ?_ ?_ fuel 1 [] 0 ⟨rfl,Or.inl rfl⟩ (List.length_pos_iff.2 h0) (Nat.lt_of_le_of_lt (Nat.sub_le _ _) (Nat.lt_trans hsm (by unfold fuel;decide)))).trans ?_
     ·intro r i t a b hp hw hc hm hr
      have hP:=PR _ (hs _ hm)
      have hal:a.length<=1000000:=by have:=hc.2;have:=hp.1;omega
      simp only[dlt hc,if_true,ju hc,hP,jb,hw,jI]
      generalize ix f (i:Int)=x
      have e1:syn (x::t)=(decide ((xw x).2=3)||syn t):=rfl
      have e2:big (x::t)=(decide ((xw x).2≠0)||big t):=rfl
      have e3:Zy (x::t)=(xw x).1::Zy t:=rfl
      by_cases h3:(xw x).2=3
      ·rw[if_pos (by simp[h3]),if_pos (by rw[e1];simp[h3])]
      ·rw[if_neg (by simp[h3])]
       have e4:syn (x::t)=syn t:=by rw[e1];simp[h3]
       rw[e4,e2,e3]
       have hlen:(a.length+[(xw x).1].length)*8<=140737488355328:=by simp;omega
       by_cases h5:(xw x).2=0
       ·rw[if_neg (by simp[h5]),ju hlen,hr _ _ ⟨by simp[<-hp.1],hp.2⟩]
        simp[h5]
       ·rw[if_pos (by simp[h5]),ju hlen,hr _ _ ⟨by simp[<-hp.1],Or.inr rfl⟩]
        simp[h5]
     ·intro r a b hp
      simp only[dll,ff,if_false]
      rcases hp.2 with rfl|rfl <;> simp[syn,big,Zy]
     ·rw[jfl f h0]
      unfold jbX
      simp[hB]
   ·rw[if_pos (by simp[c1,c2,c4]),if_pos (Or.inr (Or.inr (Or.inr c4)))]
 ·rw[if_pos (by simp[c1,c2]),if_pos (Or.inr (Or.inl c2))]
theorem jie (f:List (List UInt8))(bl:List Int)(h:(jbX f bl).2=0):(jbX f bl).1.length=f.length - 1/\(jbX f bl).1=Zy f.tail/\syn f.tail=false/\big f.tail=false/\jdV f bl=false:=by
 unfold jbX at h⊢
 split at h
 ·simp at h
 ·rename_i h1
  rw[not_or]at h1
  split at h
  ·simp at h
  ·rename_i h2
   rw[if_neg (by rw[not_or];exact h1),if_neg h2]
   refine⟨by simp[Zy],rfl,by simpa using h1.1,by simpa using h2,by simpa using h1.2⟩
def line (f:List (List UInt8))(kw:List UInt8)(ok:Bool)(bl:List Int):List Int × Int:=if f=[]\/ix f 0≠kw\/ok=false then([],3)else jbX f bl
theorem jdp (f:List (List UInt8))(kw:List UInt8)(n:Int)(more:Bool)(bl:List Int)(b:Bool)(hf:f.length<=1000000)(hs:∀s∈f,Sm s)(hn:0<=n/\n<=1000)(hbl:Sm bl)(hb:∀x∈bl,0<=x/\x<n)
 (hok:f≠[]->ix f 0=kw->(b=true↔¬ ((f.length:Int)<n+1\/(more=false/\(f.length:Int)≠n+1)\/((f.length:Int) - n - 1).tmod 2≠0))):jB f kw n more bl=some (line f kw b bl):=by
 rw[jeo f kw n more bl hf hs hn hbl hb]
 unfold line
 congr 1
 by_cases h0:f=[]
 ·subst h0
  rw[if_pos (Or.inl (by simp;omega)),if_pos (Or.inl rfl)]
 by_cases hk:ix f 0=kw
 ·have:=hok h0 hk
  cases b with
  |true=>
   have h:=this.1 rfl
   rw[if_neg,if_neg (by simp[h0,hk])]
   intro hc
   rcases hc with hc|hc|hc|hc
   ·exact h (Or.inl hc)
   ·exact hc hk
   ·exact h (Or.inr (Or.inl hc))
   ·exact h (Or.inr (Or.inr hc))
  |false=>
   have h:(f.length:Int)<n+1\/(more=false/\(f.length:Int)≠n+1)\/((f.length:Int) - n - 1).tmod 2≠0:=Classical.byContradiction fun h=>by have:=this.2 h;cases this
   rw[if_pos,if_pos (Or.inr (Or.inr rfl))]
   rcases h with h|h|h
   ·exact Or.inl h
   ·exact Or.inr (Or.inr (Or.inl h))
   ·exact Or.inr (Or.inr (Or.inr h))
 ·rw[if_pos (Or.inr (Or.inl hk)),if_pos (Or.inr (Or.inl hk))]
theorem xz {f kw b bl}(h:(line f kw b bl).2=0):f≠[]/\ix f 0=kw/\b=true/\(line f kw b bl).1=Zy f.tail/\syn f.tail=false/\big f.tail=false/\jdV f bl=false/\(line f kw b bl).1.length+1=f.length:=by
 unfold line at h⊢
 split at h
 ·simp at h
 ·rename_i hc
  rw[if_neg hc]
  rw[not_or,not_or]at hc
  obtain⟨h1,h2,h3,h4,h5⟩:=jie f bl h
  refine⟨hc.1,by simpa using hc.2.1,by simpa using hc.2.2,h2,h3,h4,h5,?_⟩
  have:=List.length_pos_iff.2 hc.1
  omega
theorem jiI (k n:Int):YV k n=some (k==n):=by unfold YV;rw[jj]
def bl1:List Int:=[14,15,16,17]
def bl3:List Int:=[11,14,19]
def ZC:List UInt8:=#[(98:UInt8),(111:UInt8),(100:UInt8),(121:UInt8)].toList
def vK:List UInt8:=#[(102:UInt8),(105:UInt8),(120:UInt8),(116:UInt8),(117:UInt8),(114:UInt8),(101:UInt8)].toList
def qi:List UInt8:=#[(106:UInt8),(111:UInt8),(105:UInt8),(110:UInt8),(116:UInt8)].toList
theorem WY (f:List (List UInt8))(kw:List UInt8)(n:Int)(bl:List Int)(hf:f.length<=1000000)(hs:∀s∈f,Sm s)(hn:0<=n/\n<=1000)(hbl:Sm bl)(hb:∀x∈bl,0<=x/\x<n):
 JX f kw (fun a=>YV a n) bl=some (line f kw ((f.length:Int) - 1==n) bl)/\jB f kw n false bl=some (line f kw ((f.length:Int) - 1==n) bl):=by
 refine⟨?_,jdp f kw n false bl _ hf hs hn hbl hb ?_⟩
 ·rw[uo f kw _ bl ((f.length:Int) - 1==n) hf hs (fun _=>jiI _ _) hbl ?_]
  ·rfl
  ·intro h x hx
   have h1:=hb x hx
   have h2:(f.length:Int) - 1=n:=by simpa using h
   omega
 ·intro h0 hk
  constructor
  ·intro h
   have h2:(f.length:Int) - 1=n:=by simpa using h
   have e:(f.length:Int) - n - 1=0:=by omega
   rw[e]
   simp
   omega
  ·intro h
   rw[not_or,not_or]at h
   have h2:(f.length:Int)=n+1:=Classical.byContradiction fun hc=>h.2.1 ⟨rfl,hc⟩
   simp;omega
theorem jja {α β:Type}{c:Prop}[Decidable c]{m:Option α}{k:α->Option β}:Rx.Bind (Chk c m) k=Chk c (Rx.Bind m k):=by unfold Chk;split <;> rfl
def zBody:Body:={ID:=(0:Int),Kind:=(0:Int),Transform:={Position:={X:=(0:Int),Y:=(0:Int):Vec},Zg:=(0:Int):Transform},jX:={X:=(0:Int),Y:=(0:Int):Vec},jm:=(0:Int),qu:={X:=(0:Int),Y:=(0:Int):Vec},Yq:=(0:Int),jR:=(0:Int),jJ:=(0:Int),jW:=(0:Int),QH:=false,Jf:=false,QG:=false,qe:=false,JC:=(0:Int),jf:=[]:Body}
def jjR (l:List Int):Body:={ID:=ix l 0,Kind:=ix l 1,Transform:={Position:={X:=ix l 2,Y:=ix l 3},Zg:=ix l 4},jX:={X:=ix l 5,Y:=ix l 6},jm:=ix l 7,qu:={X:=ix l 8,Y:=ix l 9},Yq:=ix l 10,jR:=ix l 11,jJ:=ix l 12,jW:=ix l 13,QH:=ix l 14==1,Jf:=ix l 15==1,QG:=ix l 16==1,qe:=ix l 17==1,JC:=ix l 18,jf:=[]}
def mg (f:List (List UInt8)):Body × Int:=if(line f ZC ((f.length:Int) - 1==19) bl1).2≠0 then(zBody,(line f ZC ((f.length:Int) - 1==19) bl1).2)else(jjR (Zy f.tail),0)
theorem Ma (f:List (List UInt8))(hf:f.length<=1000000)(hs:∀s∈f,Sm s):Ym f=some (mg f)/\ya f=some (mg f):=by
 obtain⟨h1,h2⟩:=WY f ZC 19 bl1 hf hs (by decide) (by show _<_;decide) (by decide)
 unfold mg Ym ya
 constructor
 ·refine Eq.trans (wN h1) ?_
  by_cases hc:(line f ZC ((f.length:Int) - 1==19) bl1).2=0
  ·obtain⟨-,-,g3,g4,-,-,-,g5⟩:=xz hc
   have g6:(f.length:Int) - 1=19:=by simpa using g3
   have g7:(((line f ZC ((f.length:Int) - 1==19) bl1).1.length:Nat):Int)=19:=by omega
   rw[if_neg (by simp[hc])]
   simp only[jj]
   rw[if_neg (by simp[hc])]
   rw[g4]at g7⊢
   generalize Zy f.tail=l at g7
   have hL:l.length=19:=by omega
   simp only[hL]
   rfl
  ·rw[if_pos hc]
   simp only[jj]
   rw[if_pos (by simp[hc])]
   rfl
 ·refine Eq.trans (wN h2) ?_
  by_cases hc:(line f ZC ((f.length:Int) - 1==19) bl1).2=0
  ·obtain⟨-,-,g3,g4,-,-,-,g5⟩:=xz hc
   have g6:(f.length:Int) - 1=19:=by simpa using g3
   have g7:(((line f ZC ((f.length:Int) - 1==19) bl1).1.length:Nat):Int)=19:=by omega
   rw[if_neg (by simp[hc])]
   simp only[jj]
   rw[if_neg (by simp[hc])]
   rw[g4]at g7⊢
   generalize Zy f.tail=l at g7
   have hL:l.length=19:=by omega
   unfold Jv
   simp only[hL]
   rfl
  ·rw[if_pos hc]
   simp only[jj]
   rw[if_pos (by simp[hc])]
   rfl
theorem len24 {α:Type}{l:List α}(h:l.length=24):∃a0 a1 a2 a3 a4 a5 a6 a7 a8 a9 a10 a11 a12 a13 a14 a15 a16 a17 a18 a19 a20 a21 a22 a23:α,l=[a0,a1,a2,a3,a4,a5,a6,a7,a8,a9,a10,a11,a12,a13,a14,a15,a16,a17,a18,a19,a20,a21,a22,a23]:=by
 match l,h with
 | [a0,a1,a2,a3,a4,a5,a6,a7,a8,a9,a10,a11,a12,a13,a14,a15,a16,a17,a18,a19,a20,a21,a22,a23],_=>exact⟨a0,a1,a2,a3,a4,a5,a6,a7,a8,a9,a10,a11,a12,a13,a14,a15,a16,a17,a18,a19,a20,a21,a22,a23,rfl⟩
def zJoint:yP:={ID:=(0:Int),Kind:=(0:Int),JE:=(0:Int),JH:=(0:Int),yN:={X:=(0:Int),Y:=(0:Int):Vec},Ye:={X:=(0:Int),Y:=(0:Int):Vec},Wb:={X:=(0:Int),Y:=(0:Int):Vec},Ja:=(0:Int),Jk:=false,kg:=(0:Int),kO:=(0:Int),Jm:=false,JY:=(0:Int),YU:=(0:Int),YT:=(0:Int),JZ:=(0:Int),Jc:=false,jD:=((0:Int),(0:Int),(0:Int),(0:Int)):yP}
def jgt (l:List Int):yP:={ID:=ix l 0,Kind:=ix l 1,JE:=ix l 2,JH:=ix l 3,yN:=⟨ix l 4,ix l 5⟩,Ye:=⟨ix l 6,ix l 7⟩,Wb:=⟨ix l 8,ix l 9⟩,Ja:=ix l 10,Jk:=ix l 11==1,kg:=ix l 12,kO:=ix l 13,Jm:=ix l 14==1,JY:=ix l 15,YU:=ix l 16,YT:=ix l 17,JZ:=ix l 18,Jc:=ix l 19==1,jD:=(ix l 20,ix l 21,ix l 22,ix l 23)}
def Xn (f:List (List UInt8)):yP × Int:=if(line f qi ((f.length:Int) - 1==24) bl3).2≠0 then(zJoint,(line f qi ((f.length:Int) - 1==24) bl3).2)else(jgt (Zy f.tail),0)
theorem Pd (f:List (List UInt8))(hf:f.length<=1000000)(hs:∀s∈f,Sm s):Yt f=some (Xn f)/\yi f=some (Xn f):=by
 obtain⟨h1,h2⟩:=WY f qi 24 bl3 hf hs (by decide) (by show _<_;decide) (by decide)
 unfold Xn Yt yi
 constructor
 ·refine Eq.trans (wN h1) ?_
  by_cases hc:(line f qi ((f.length:Int) - 1==24) bl3).2=0
  ·obtain⟨-,-,g3,g4,-,-,-,g5⟩:=xz hc
   have g6:(f.length:Int) - 1=24:=by simpa using g3
   have g7:(line f qi ((f.length:Int) - 1==24) bl3).1.length=24:=by omega
   rw[if_neg (by simp[hc])]
   simp only[jj]
   rw[if_neg (by simp[hc])]
   rw[g4]at g7⊢
   generalize Zy f.tail=l at g7
   obtain⟨a0,a1,a2,a3,a4,a5,a6,a7,a8,a9,a10,a11,a12,a13,a14,a15,a16,a17,a18,a19,a20,a21,a22,a23,rfl⟩:=len24 g7
   rfl
  ·rw[if_pos hc]
   simp only[jj]
   rw[if_pos (by simp[hc])]
   rfl
 ·refine Eq.trans (wN h2) ?_
  by_cases hc:(line f qi ((f.length:Int) - 1==24) bl3).2=0
  ·obtain⟨-,-,g3,g4,-,-,-,g5⟩:=xz hc
   have g6:(f.length:Int) - 1=24:=by simpa using g3
   have g7:(line f qi ((f.length:Int) - 1==24) bl3).1.length=24:=by omega
   rw[if_neg (by simp[hc])]
   simp only[jj]
   rw[if_neg (by simp[hc])]
   rw[g4]at g7⊢
   generalize Zy f.tail=l at g7
   unfold Jv
   simp only[g7]
   rfl
  ·rw[if_pos hc]
   simp only[jj]
   rw[if_pos (by simp[hc])]
   rfl
def xu:List Int->List Vec
 |a::b::t=>⟨a,b⟩::xu t
 |_=>[]
def jhx (x:jT)(v:List Vec):jT:={x with Shape:={x.Shape with jg:=x.Shape.jg++v}}
theorem jhw (x:jT)(v w:List Vec):jhx (jhx x v) w=jhx x (v++w):=by unfold jhx;simp
def jlb (l:List Int)(rec:Int × jT->Option (jT × Int))(s:Int × jT):Option (jT × Int):=
 if decide (s.1<(l.length:Int))=true then
 Chk ((0:Int)<=s.1/\s.1<(l.length:Int)) (Chk ((0:Int)<=IntKind.i64.wrap (s.1+1)/\IntKind.i64.wrap (s.1+1)<(l.length:Int))
  (Chk ((s.2.Shape.jg.length+[(⟨ix l s.1,ix l (IntKind.i64.wrap (s.1+1))⟩:Vec)].length)*(16:Nat)<=(140737488355328:Nat))
    (rec (IntKind.i64.wrap (s.1+2),jhx s.2 [⟨ix l s.1,ix l (IntKind.i64.wrap (s.1+1))⟩]))))
 else some (s.2,0)
theorem jiG (l:List Int)(rec:Int × jT->Option (jT × Int))(i:Int)(x:jT):jlb l rec (i,x)=if decide (i<(l.length:Int))=true then
 Chk ((0:Int)<=i/\i<(l.length:Int)) (Chk ((0:Int)<=IntKind.i64.wrap (i+1)/\IntKind.i64.wrap (i+1)<(l.length:Int))
  (Chk ((x.Shape.jg.length+[(⟨ix l i,ix l (IntKind.i64.wrap (i+1))⟩:Vec)].length)*(16:Nat)<=(140737488355328:Nat))
    (rec (IntKind.i64.wrap (i+2),jhx x [⟨ix l i,ix l (IntKind.i64.wrap (i+1))⟩]))))
 else some (x,0):=rfl
theorem fLoop (l:List Int)(hl:l.length<=1000000):∀(n i:Nat) (x:jT),i<=l.length->(l.length - i) % 2=0->l.length - i<n->x.Shape.jg.length<=i->Yg (jlb l) n ((i:Int),x)=some (jhx x (xu (l.drop i)),0)
 |0,i,x,_,_,h,_=>by omega
 |n + 1,i,x,h1,h2,h3,h4=>by
  rw[kY,jiG]
  by_cases h:i<l.length
  ·have h5:i+1<l.length:=by omega
   have e1:IntKind.i64.wrap ((i:Int)+1)=((i+1:Nat):Int):=by rw[Yh _ (by omega) (by omega)];omega
   have e2:IntKind.i64.wrap ((i:Int)+2)=((i+2:Nat):Int):=by rw[Yh _ (by omega) (by omega)];omega
   rw[if_pos (by simpa using h),ju ⟨by omega,by omega⟩,e1,ju ⟨by omega,by omega⟩,ju (by simp;omega),e2]
   rw[fLoop l hl n (i+2) _ (by omega) (by omega) (by omega) (by unfold jhx;simp;omega),jhw,Ke l i h,Ke l (i+1) h5]
   rfl
  ·rw[if_neg (by simpa using h)]
   have:i=l.length:=by omega
   subst this
   simp[xu,jhx]
def zFix:jT:={Shape:={Kind:=(0:Int),yn:=(0:Int),jg:=[]:Shape},YN:=(0:Int),yA:=(0:Int),Je:=(0:Int),kW:=false,Category:=(0:Int),Mask:=(0:Int),Ki:=(0:Int):jT}
def fixOf (l:List Int):jT:={Shape:={Kind:=ix l 7,yn:=ix l 8,jg:=xu (l.drop 9)},YN:=ix l 0,yA:=ix l 1,Je:=ix l 2,kW:=ix l 3==1,Category:=ix l 4,Mask:=ix l 5,Ki:=ix l 6}
def uO (f:List (List UInt8)):Bool:=decide ((f.length:Int) - 1>=9)&&(((f.length:Int) - 1).tmod 2==1)
def XI (f:List (List UInt8)):jT × Int:=if(line f vK (uO f) [3]).2≠0 then(zFix,(line f vK (uO f) [3]).2)else(fixOf (Zy f.tail),0)
theorem jiF (f:List (List UInt8))(hf:f.length<=1000000)(hs:∀s∈f,Sm s):
 JX f vK (fun a=>QO a) [3]=some (line f vK (uO f) [3])/\jB f vK 9 true [3]=some (line f vK (uO f) [3]):=by
 refine⟨?_,jdp f vK 9 true [3] _ hf hs (by decide) (by show _<_;decide) (by decide) ?_⟩
 ·rw[uo f vK _ [3] (uO f) hf hs (fun _=>?_) (by show _<_;decide) ?_]
  ·rfl
  ·intro h x hx
   unfold uO at h
   simp only[Bool.and_eq_true,decide_eq_true_eq]at h
   rw[List.mem_singleton]at hx
   omega
  ·unfold QO uO
   simp only[jj]
   cases decide ((f.length:Int) - 1>=9) <;> rfl
 ·intro h0 hk
  unfold uO
  rw[Bool.and_eq_true,decide_eq_true_eq,beq_iff_eq]
  constructor
  ·rintro⟨h1,h2⟩
   rw[Int.tmod_eq_emod_of_nonneg (by omega)]at h2
   rw[not_or,not_or]
   refine⟨by omega,by simp,?_⟩
   rw[Int.tmod_eq_emod_of_nonneg (by omega)]
   omega
  ·intro h
   rw[not_or,not_or]at h
   obtain⟨h1,-,h3⟩:=h
   have h3:=Decidable.not_not.1 h3
   rw[Int.tmod_eq_emod_of_nonneg (by omega)]at h3
   refine⟨by omega,?_⟩
   rw[Int.tmod_eq_emod_of_nonneg (by omega)]
   omega
theorem jgR (l:List Int)(hl:l.length<=1000000)(h9:9<=l.length)(hp:(l.length - 9) % 2=0)(x:jT)(hx:x.Shape.jg=[]):Yg (jlb l) fuel ((9:Int),x)=some (jhx x (xu (l.drop 9)),0):=
 fLoop l hl fuel 9 x h9 hp (Nat.lt_of_le_of_lt (Nat.sub_le _ _) (Nat.lt_of_le_of_lt hl (by unfold fuel;decide))) (by rw[hx];simp)
theorem jbz (f:List (List UInt8))(hf:f.length<=1000000)(hs:∀s∈f,Sm s):ye f=some (XI f)/\JR f=some (XI f):=by
 obtain⟨h1,h2⟩:=jiF f hf hs
 unfold XI ye JR
 have fin:(line f vK (uO f) [3]).2=0->(line f vK (uO f) [3]).1=Zy f.tail/\9<=(Zy f.tail).length/\((Zy f.tail).length - 9) % 2=0/\(Zy f.tail).length<=1000000:=by
  intro hc
  obtain⟨-,-,g3,g4,-,-,-,g5⟩:=xz hc
  unfold uO at g3
  rw[Bool.and_eq_true,decide_eq_true_eq,beq_iff_eq]at g3
  obtain⟨q1,q2⟩:=g3
  rw[Int.tmod_eq_emod_of_nonneg (by omega)]at q2
  rw[g4]at g5
  exact⟨g4,by omega,by omega,by omega⟩
 constructor
 ·refine Eq.trans (wN h1) ?_
  by_cases hc:(line f vK (uO f) [3]).2=0
  ·obtain⟨q1,q2,q3,q4⟩:=fin hc
   rw[if_neg (by simp[hc])]
   simp only[jj]
   rw[if_neg (by simp[hc]),q1]
   generalize Zy f.tail=l at q2 q3 q4
   iterate 9 rw[ju (by omega)]
   exact jgR l q4 q2 q3 _ rfl
  ·rw[if_pos hc]
   simp only[jj]
   rw[if_pos (by simp[hc])]
   rfl
 ·refine Eq.trans (wN h2) ?_
  by_cases hc:(line f vK (uO f) [3]).2=0
  ·obtain⟨q1,q2,q3,q4⟩:=fin hc
   rw[if_neg (by simp[hc])]
   simp only[jj]
   rw[if_neg (by simp[hc]),q1]
   generalize Zy f.tail=l at q2 q3 q4
   iterate 9 rw[ju (by omega)]
   unfold Jv
   simp only[jja,jj,jb]
   exact jgR l q4 q2 q3 _ rfl
  ·rw[if_pos hc]
   simp only[jj]
   rw[if_pos (by simp[hc])]
   rfl
theorem jf1 (f:List (List UInt8)):(mg f).1.jf=[]:=by
 unfold mg
 split <;> rfl
def I64 (n:Int):Prop:=IntKind.i64.min<=n/\n<=IntKind.i64.max
def uh (kw:List UInt8)(l:List Int):List UInt8:=kw++l.flatMap (fun n=>32::wR n)
theorem jbp (l:List Int):Lib.joinTail [32] (l.map wR)=l.flatMap (fun n=>32::wR n):=by
 induction l with
 |nil=>rfl
 |cons n l ih=>rw[List.map_cons,Uy,ih,List.flatMap_cons]
theorem mM (kw:List UInt8)(l:List Int):Lib.join (kw::l.map wR) [32]=uh kw l:=by rw[Lib.join_cons,jbp];rfl
def Qg:List UInt8:=#[(119:UInt8),(111:UInt8),(114:UInt8),(108:UInt8),(100:UInt8)].toList
def yH:List UInt8:=#[(99:UInt8),(111:UInt8),(110:UInt8),(116:UInt8),(97:UInt8),(99:UInt8),(116:UInt8)].toList
def YO:List UInt8:=#[(112:UInt8),(111:UInt8),(105:UInt8),(110:UInt8),(116:UInt8)].toList
def Yb:List UInt8:=#[(111:UInt8),(118:UInt8),(101:UInt8),(114:UInt8),(108:UInt8),(97:UInt8),(112:UInt8)].toList
def bit (b:Bool):Int:=if b=true then 1 else 0
def jaA (w:jo):List Int:=[w.jH.YA,w.jH.yF.X,w.jH.yF.Y,w.jH.JP,w.jH.JO,w.yM,w.Frame]
def jlz (b:Body):List Int:=[b.ID,b.Kind,b.Transform.Position.X,b.Transform.Position.Y,b.Transform.Zg,b.jX.X,b.jX.Y,b.jm,b.qu.X,b.qu.Y,b.Yq,b.jR,b.jJ,b.jW,bit b.QH,bit b.Jf,bit b.QG,bit b.qe,b.JC]
def jlc (f:jT):List Int:=[f.YN,f.yA,f.Je,bit f.kW,f.Category,f.Mask,f.Ki,f.Shape.Kind,f.Shape.yn]++f.Shape.jg.flatMap (fun v=>[v.X,v.Y])
def jgv (j:yP):List Int:=[j.ID,j.Kind,j.JE,j.JH,j.yN.X,j.yN.Y,j.Ye.X,j.Ye.Y,j.Wb.X,j.Wb.Y,j.Ja,bit j.Jk,j.kg,j.kO,bit j.Jm,j.JY,j.YU,j.YT,j.JZ,bit j.Jc,j.jD.1,j.jD.2.1,j.jD.2.2.1,j.jD.2.2.2]
def jiQ (c:JL):List Int:=[c.Key.JE,c.Key.Jd,c.Key.JH,c.Key.Jj,c.jt.zT.X,c.jt.zT.Y]
def jiM (d:jS):List Int:=[d.ve.X,d.ve.Y,d.Ys,d.ID,d.Jt,d.Jx]
def jkT (k:jC):List Int:=[k.JE,k.Jd,k.JH,k.Jj]
def Pv (b:Body):List (List UInt8):=uh ZC (jlz b)::b.jf.map fun f=>uh vK (jlc f)
def jbK (c:JL):List (List UInt8):=uh yH (jiQ c)::c.jt.jY.map fun d=>uh YO (jiM d)
def vd (w:jo):List (List UInt8):=uh Qg (jaA w)::(w.ji.flatMap Pv++(w.jP.map (fun j=>uh qi (jgv j))++(w.jc.flatMap jbK++w.Overlaps.map fun k=>uh Yb (jkT k))))
structure AllI (w:jo):Prop where
 hw:∀n∈jaA w,I64 n
 hb:∀b∈w.ji,∀n∈jlz b,I64 n
 hf:∀b∈w.ji,∀f∈b.jf,∀n∈jlc f,I64 n
 hj:∀j∈w.jP,∀n∈jgv j,I64 n
 hc:∀c∈w.jc,∀n∈jiQ c,I64 n
 hd:∀c∈w.jc,∀d∈c.jt.jY,∀n∈jiM d,I64 n
 hk:∀k∈w.Overlaps,∀n∈jkT k,I64 n
theorem mm {α β:Type}(l:List α)(g:α->List β)(n:Nat)(h:∀a∈l,(g a).length<=n):(l.flatMap g).length<=l.length*n:=by
 induction l with
 |nil=>simp
 |cons a l ih=>
  have h1:=h a (by simp)
  have h2:=ih fun b hb=>h b (List.mem_cons_of_mem _ hb)
  rw[List.flatMap_cons,List.length_append,List.length_cons,Nat.succ_mul];omega
theorem jdE (c:UInt8)(a b:List (List UInt8)):flat c (a++b)=flat c a++flat c b:=by unfold flat;rw[List.flatMap_append]
theorem Qu (c:UInt8)(l:List (List UInt8))(n:Nat)(h:∀x∈l,x.length<=n):(flat c l).length<=l.length*(n+1):=by
 unfold flat
 exact mm l _ (n+1) fun a ha=>by have:=h a ha;simp;omega
theorem ga1 (c a d:Bool):(bif c then(if(c==true)=true then a else d)else false)=(c&&a):=by cases c <;> rfl
abbrev Tok:=List UInt8 × List Int
def cT (c:JL):List Tok:=(yH,jiQ c)::c.jt.jY.map fun d=>(YO,jiM d)
end GoForm
end
