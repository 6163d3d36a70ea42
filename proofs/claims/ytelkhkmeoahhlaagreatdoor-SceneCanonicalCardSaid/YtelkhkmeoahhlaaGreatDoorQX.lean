/- Several texts in one. No conditions. -/
import Derived.Test.YtelkhkmeoahhlaaGreatDoorKX
import Derived.Test.YtelkhkmeoahhlaaGreatDoorOB
section
set_option linter.all false
set_option maxRecDepth 100000
open Go Go.Rx
namespace GoForm
def Ok62 (n:Int):Prop:=n.natAbs≤4611686018427387904
theorem Ok62.i64 {n:Int} (h:Ok62 n):I64 n:=by
  unfold Ok62 at h
  have e1:IntKind.i64.min = -9223372036854775808:=by decide
  have e2:IntKind.i64.max=9223372036854775807:=by decide
  unfold I64
  rw [e1,e2]
  omega
theorem pInt_ok {s:List UInt8} (h:(pInt s).2=0):fmtInt (pInt s).1=s∧Ok62 (pInt s).1:=by
  unfold pInt at h ⊢
  by_cases h1:isInt s=true
  · rw [if_pos h1] at h ⊢
    by_cases h2:dv (body s)≤4611686018427387904
    · rw [if_pos h2]
      refine ⟨fmt_int s h1,?_⟩
      show (sgn s (dv (body s))).natAbs≤_
      unfold sgn
      split <;> omega
    · rw [if_neg h2] at h;cases h
  · rw [if_neg h1] at h;cases h
theorem b01_val {s:List UInt8} (h:b01 s=true):(pInt s).1=0∨(pInt s).1=1:=by
  unfold b01 at h
  rw [Bool.or_eq_true,decide_eq_true_eq,decide_eq_true_eq] at h
  rcases h with rfl | rfl
  · exact .inl (by decide)
  · exact .inr (by decide)
theorem ix_succ {α:Type} [Inhabited α] (a:α) (l:List α) (i:Int) (h:0≤i):ix (a::l) (1+i)=ix l i:=by
  obtain ⟨n,rfl⟩:=Int.eq_ofNat_of_zero_le h
  unfold ix
  have:(1+(n:Int)).toNat=n+1:=by omega
  rw [this];rfl
theorem ix_map {α β:Type} [Inhabited α] [Inhabited β] (f:α→β) (l:List α) (i:Int) (h:0≤i∧i<(l.length:Int)):ix (l.map f) i=f (ix l i):=by
  obtain ⟨n,rfl⟩:=Int.eq_ofNat_of_zero_le h.1
  have hn:n<l.length:=by omega
  show ix (l.map f) (n:Int)=f (ix l (n:Int))
  rw [ix_lt _ n (by simpa using hn),ix_lt _ n hn];simp
theorem line_back {f:List (List UInt8)} {kw:List UInt8} {b:Bool} {bl:List Int} (h:(line f kw b bl).2=0):∃ rest,f=kw::rest∧b=true∧(line f kw b bl).1=vals rest∧(vals rest).map fmtInt=rest∧(∀ n∈vals rest,Ok62 n)∧∀ i∈bl,0≤i→b01 (ix rest i)=true:=by
  obtain ⟨h1,h2,h3,h4,h5,h6,h7,h8⟩:=line_ok h
  cases f with
  | nil=>exact absurd rfl h1
  | cons k rest=>
    have hk:k=kw:=h2
    subst hk
    have ha:∀ s∈rest,(pInt s).2=0:=by
      intro s hs
      have:=List.any_eq_false.1 h6 s hs
      simpa using this
    refine ⟨rest,rfl,h3,h4,?_,?_,?_⟩
    · unfold vals
      rw [List.map_map]
      have:∀ l:List (List UInt8),(∀ s∈l,(pInt s).2=0)→l.map (fmtInt ∘ fun s=>(pInt s).1)=l:=by
        intro l
        induction l with
        | nil=>intro _;rfl
        | cons a l ih=>intro h;rw [List.map_cons,ih fun s hs=>h s (List.mem_cons_of_mem _ hs)];exact congrArg (·::l) (pInt_ok (h a (by simp))).1
      exact this rest ha
    · intro n hn
      obtain ⟨s,hs,rfl⟩:=List.mem_map.1 hn
      exact (pInt_ok (ha s hs)).2
    · intro i hi h0
      have:=List.any_eq_false.1 h7 i hi
      rw [ix_succ _ _ _ h0] at this
      simpa using this
theorem bit_of {n:Int} (h:n=0∨n=1):bit (n==1)=n:=by rcases h with rfl | rfl <;> rfl
def numP (f:List (List UInt8)) (n:Int):List Int × Int:=line f (ix f 0) ((f.length:Int) - 1==n) []
theorem integers_eq (f:List (List UInt8)) (n:Int) (hf:f.length≤1000000) (hs:∀ s∈f,Sm s) (h0:f≠[]) (hn:0≤n∧n≤1000):scene_integers f n=some ((numP f n).1,(numP f n).2==0):=by
  have hpos:=List.length_pos_iff.2 h0
  unfold scene_integers
  rw [Chk_of (by omega)]
  rw [Let_nr]
  refine Eq.trans (Bind_of (exact_line f (ix f 0) n [] hf hs hn (by show _<_;decide) (by simp)).1) ?_
  rfl
theorem len19 {l:List Int} (h:l.length=19):∃ a0 a1 a2 a3 a4 a5 a6 a7 a8 a9 a10 a11 a12 a13 a14 a15 a16 a17 a18:Int,l=[a0,a1,a2,a3,a4,a5,a6,a7,a8,a9,a10,a11,a12,a13,a14,a15,a16,a17,a18]:=by
  match l,h with
  | [a0,a1,a2,a3,a4,a5,a6,a7,a8,a9,a10,a11,a12,a13,a14,a15,a16,a17,a18],_=>exact ⟨a0,a1,a2,a3,a4,a5,a6,a7,a8,a9,a10,a11,a12,a13,a14,a15,a16,a17,a18,rfl⟩
theorem bNums_bodyOf {l:List Int} (h:l.length=19) (hb:∀ i∈bl1,ix l i=0∨ix l i=1):bNums (bodyOf l)=l:=by
  obtain ⟨a0,a1,a2,a3,a4,a5,a6,a7,a8,a9,a10,a11,a12,a13,a14,a15,a16,a17,a18,rfl⟩:=len19 h
  have b1:a14=0∨a14=1:=hb 14 (by decide)
  have b2:a15=0∨a15=1:=hb 15 (by decide)
  have b3:a16=0∨a16=1:=hb 16 (by decide)
  have b4:a17=0∨a17=1:=hb 17 (by decide)
  show [a0,a1,a2,a3,a4,a5,a6,a7,a8,a9,a10,a11,a12,a13,bit (a14==1),bit (a15==1),bit (a16==1),bit (a17==1),a18]=_
  rw [bit_of b1,bit_of b2,bit_of b3,bit_of b4]
theorem jNums_jointOf {l:List Int} (h:l.length=24) (hb:∀ i∈bl3,ix l i=0∨ix l i=1):jNums (jointOf l)=l:=by
  obtain ⟨a0,a1,a2,a3,a4,a5,a6,a7,a8,a9,a10,a11,a12,a13,a14,a15,a16,a17,a18,a19,a20,a21,a22,a23,rfl⟩:=len24 h
  have b1:a11=0∨a11=1:=hb 11 (by decide)
  have b2:a14=0∨a14=1:=hb 14 (by decide)
  have b3:a19=0∨a19=1:=hb 19 (by decide)
  show [a0,a1,a2,a3,a4,a5,a6,a7,a8,a9,a10,bit (a11==1),a12,a13,bit (a14==1),a15,a16,a17,a18,bit (a19==1),a20,a21,a22,a23]=_
  rw [bit_of b1,bit_of b2,bit_of b3]
theorem pairs_flat:∀ l:List Int,l.length % 2=0→(pairs l).flatMap (fun v=>[v.X,v.Y])=l
  | [],_=>rfl
  | [a],h=>by simp at h
  | a::b::t,h=>by
    have:=pairs_flat t (by simp at h;omega)
    unfold pairs
    rw [List.flatMap_cons,this];rfl
theorem pairs_len2:∀ l:List Int,2*(pairs l).length≤l.length
  | []=>by simp [pairs]
  | [a]=>by simp [pairs]
  | a::b::t=>by have:=pairs_len2 t;simp [pairs];omega
theorem len9 {l:List Int} (h:9≤l.length):∃ (a0 a1 a2 a3 a4 a5 a6 a7 a8:Int) (t:List Int),l=a0::a1::a2::a3::a4::a5::a6::a7::a8::t:=by
  match l,h with
  | a0::a1::a2::a3::a4::a5::a6::a7::a8::t,_=>exact ⟨a0,a1,a2,a3,a4,a5,a6,a7,a8,t,rfl⟩
theorem fNums_fixOf {l:List Int} (h:9≤l.length) (h2:(l.length - 9) % 2=0) (hb:ix l 3=0∨ix l 3=1):fNums (fixOf l)=l:=by
  obtain ⟨a0,a1,a2,a3,a4,a5,a6,a7,a8,t,rfl⟩:=len9 h
  have b1:a3=0∨a3=1:=hb
  have ht:t.length % 2=0:=by simp at h2;omega
  show [a0,a1,a2,bit (a3==1),a4,a5,a6,a7,a8]++(pairs t).flatMap (fun v=>[v.X,v.Y])=_
  rw [bit_of b1,pairs_flat t ht];rfl
theorem wNums_worldOf {l:List Int} (h:l.length=7):wNums (worldOf l)=l:=by
  match l,h with
  | [a0,a1,a2,a3,a4,a5,a6],_=>rfl
theorem cNums_contactOf {l:List Int} (h:l.length=6):cNums (contactOf l)=l:=by
  match l,h with
  | [a0,a1,a2,a3,a4,a5],_=>rfl
theorem dNums_pointOf {l:List Int} (h:l.length=6):dNums (pointOf l)=l:=by
  match l,h with
  | [a0,a1,a2,a3,a4,a5],_=>rfl
theorem kNums_keyOf {l:List Int} (h:l.length=4):kNums (keyOf l)=l:=by
  match l,h with
  | [a0,a1,a2,a3],_=>rfl
end GoForm
end

section
set_option linter.all false
set_option maxRecDepth 100000
open Go Go.Rx
namespace GoForm
def AL (sec:Int) (x:World_):List (List UInt8):=if sec=0 then [] else allLines x
structure InvN (N:Nat) (x:World_) (sec:Int):Prop where
  s0:0≤sec
  nb:x.Bodies.length≤N
  nj:x.Joints.length≤N
  nc:x.Contacts.length≤N
  no:x.Overlaps.length≤N
  fx:∀ b∈x.Bodies,b.Fixtures.length≤N
  pt:∀ c∈x.Contacts,c.Manifold.Points.length≤N
  vx:∀ b∈x.Bodies,∀ f∈b.Fixtures,f.Shape.Vertices.length≤10000
  e2:sec<2→x.Bodies=[]
  e3:sec<3→x.Joints=[]
  e4:sec<4→x.Contacts=[]
  e5:sec<5→x.Overlaps=[]
  n2:sec=2→x.Bodies≠[]
  n4:sec=4→x.Contacts≠[]
  ai:AllI x
theorem InvN.zero:InvN 0 noW 0:=by
  refine ⟨by decide,by simp [noW],by simp [noW],by simp [noW],by simp [noW],by simp [noW],by simp [noW],by simp [noW],fun _=>rfl,fun _=>rfl,fun _=>rfl,fun _=>rfl,by simp,by simp,⟨?_,by simp [noW],by simp [noW],by simp [noW],by simp [noW],by simp [noW],by simp [noW]⟩⟩
  intro n hn
  simp [wNums,noW] at hn
  subst hn
  exact Ok62.i64 (by unfold Ok62;decide)
theorem ent {sec s:Int} (h:enterT sec s=true) (h0:0≤sec) (hs:2≤s):1≤sec∧sec≤s:=by
  unfold enterT at h
  simp only [Bool.not_eq_true',Bool.or_eq_false_iff,Bool.and_eq_false_iff,decide_eq_false_iff_not,beq_eq_false_iff_ne,bne_eq_false_iff_eq] at h
  omega
theorem ent1 {sec:Int} (h:enterT sec 1=true):sec=0:=by
  unfold enterT at h
  simp only [Bool.not_eq_true',Bool.or_eq_false_iff,Bool.and_eq_false_iff,decide_eq_false_iff_not,beq_eq_false_iff_ne,bne_eq_false_iff_eq] at h
  omega
structure Rd (f:List (List UInt8)) (kw:List UInt8) (n:Int) (l:List Int):Prop where
  txt:Lib.join f [32]=lineT kw l
  ok:∀ n∈l,Ok62 n
  len:(l.length:Int)=n
theorem Rd.i64 {f kw n l} (h:Rd f kw n l):∀ n∈l,I64 n:=fun n hn=>(h.ok n hn).i64
theorem line_rd {f:List (List UInt8)} {kw:List UInt8} {n:Int} {bl:List Int} (h:(line f kw ((f.length:Int) - 1==n) bl).2=0):Rd f kw n (vals f.tail)∧(line f kw ((f.length:Int) - 1==n) bl).1=vals f.tail∧∀ i∈bl,0≤i→i<n→ix (vals f.tail) i=0∨ix (vals f.tail) i=1:=by
  obtain ⟨rest,e,h1,h2,h3,h4,h5⟩:=line_back h
  subst e
  have hl:(rest.length:Int)=n:=by
    rw [beq_iff_eq,List.length_cons] at h1;omega
  refine ⟨⟨?_,h4,by unfold vals;rw [List.length_map];exact hl⟩,h2,fun i hi h0 hin=>?_⟩
  · rw [← lineT_join];show _=Lib.join (kw::(vals rest).map fmtInt) [32];rw [h3]
  · have:=b01_val (h5 i hi h0)
    show ix (vals rest) i=0∨ix (vals rest) i=1
    unfold vals
    rw [ix_map _ _ _ ⟨h0,by omega⟩]
    exact this
theorem num_rd {k:List UInt8} {rest:List (List UInt8)} {n:Int} (h:(numP (k::rest) n).2=0):Rd (k::rest) k n (numP (k::rest) n).1:=by
  have q:=line_rd (bl:=[]) h
  have e:(numP (k::rest) n).1=vals rest:=q.2.1
  rw [e];exact q.1
section
variable {N:Nat} {x:World_} {sec:Int}
theorem AL_pos (h:1≤sec):AL sec x=allLines x:=if_neg (by omega)
def StepR (N:Nat) (x:World_) (sec:Int) (f:List (List UInt8)):Prop:=∃ y s ok,stepP x sec f=some (y,s,ok)∧(ok=true→InvN (N+1) y s∧s≠0∧AL s y=AL sec x++[Lib.join f [32]])
theorem step_if {f:List (List UInt8)} {c:Bool} {y:World_} {s:Int} (h:stepP x sec f=some (if c=true then (y,s,true) else (x,sec,false))) (hc:c=true→InvN (N+1) y s∧s≠0∧AL s y=AL sec x++[Lib.join f [32]]):StepR N x sec f:=by
  cases c with
  | true=>exact ⟨y,s,true,h,fun _=>hc rfl⟩
  | false=>exact ⟨x,sec,false,h,by simp⟩
variable (I:InvN N x sec) (hN:N≤900)
include I hN
theorem step_world {rest:List (List UInt8)} (hf:(kWorld::rest).length≤20001) (hs:∀ s∈kWorld::rest,Sm s):StepR N x sec (kWorld::rest):=by
  have hi:=integers_eq (kWorld::rest) 7 (by omega) hs (by simp) (by omega)
  refine step_if (c:=(numP (kWorld::rest) 7).2==0&&enterT sec 1) (y:=worldOf (numP (kWorld::rest) 7).1) (s:=1) ?_ ?_
  · show Rx.Bind (scene_integers (kWorld::rest) 7) _=_
    rw [hi,Bind_snr]
    refine if_pos fun h=>?_
    have:=(num_rd (by simpa using h)).len
    dsimp only;omega
  · intro h
    rw [Bool.and_eq_true,beq_iff_eq] at h
    have R:=num_rd h.1
    have h0:=ent1 h.2
    subst h0
    generalize (numP (kWorld::rest) 7).1=l at R ⊢
    have hw:=wNums_worldOf (l:=l) (by have:=R.len;omega)
    refine ⟨⟨by decide,by simp [worldOf],by simp [worldOf],by simp [worldOf],by simp [worldOf],by simp [worldOf],by simp [worldOf],by simp [worldOf],fun _=>rfl,fun _=>rfl,fun _=>rfl,fun _=>rfl,by simp,by simp,⟨by rw [hw];exact R.i64,by simp [worldOf],by simp [worldOf],by simp [worldOf],by simp [worldOf],by simp [worldOf],by simp [worldOf]⟩⟩,by decide,?_⟩
    rw [R.txt,AL_pos (by decide)]
    unfold allLines
    rw [hw]
    rfl
theorem step_body {rest:List (List UInt8)} (hf:(kBody::rest).length≤20001) (hs:∀ s∈kBody::rest,Sm s):StepR N x sec (kBody::rest):=by
  have hi:=(body_lines (kBody::rest) (by omega) hs).1
  refine step_if (c:=(pBody (kBody::rest)).2==0&&enterT sec 2) (y:={ x with Bodies:=x.Bodies++[(pBody (kBody::rest)).1] }) (s:=2) ?_ ?_
  · show Rx.Bind (scene_ParseBody (kBody::rest)) _=_
    rw [hi,Bind_snr]
    exact if_pos ⟨pBody_fix _,by have:=I.nb;omega⟩
  · intro h
    rw [Bool.and_eq_true,beq_iff_eq] at h
    obtain ⟨h1,h2⟩:=ent h.2 I.s0 (by decide)
    have hc:=h.1
    unfold pBody at hc ⊢
    by_cases hl:(line (kBody::rest) kBody (((kBody::rest).length:Int) - 1==19) bl1).2=0
    · obtain ⟨R,-,hb⟩:=line_rd hl
      rw [if_neg (by simpa using hl)]
      dsimp only [List.tail_cons] at R hb ⊢
      generalize vals rest=l at R hb
      have hw:=bNums_bodyOf (l:=l) (by have:=R.len;omega) fun i hi=>hb i hi (by revert i;decide) (by revert i;decide)
      have e3:=I.e3 (by omega)
      have e4:=I.e4 (by omega)
      have e5:=I.e5 (by omega)
      refine ⟨⟨by decide,?_,Nat.le_succ_of_le I.nj,Nat.le_succ_of_le I.nc,Nat.le_succ_of_le I.no,?_,fun c hc=>Nat.le_succ_of_le (I.pt c hc),?_,by simp,fun _=>e3,fun _=>e4,fun _=>e5,by simp,by simp,⟨I.ai.hw,?_,?_,I.ai.hj,I.ai.hc,I.ai.hd,I.ai.hk⟩⟩,by decide,?_⟩
      · have:=I.nb;simp;omega
      · intro b hb
        rcases List.mem_append.1 hb with hb | hb
        · exact Nat.le_succ_of_le (I.fx b hb)
        · simp at hb;subst hb;exact Nat.zero_le _
      · intro b hb
        rcases List.mem_append.1 hb with hb | hb
        · exact I.vx b hb
        · simp at hb;subst hb;intro f hf;cases hf
      · intro b hb
        rcases List.mem_append.1 hb with hb | hb
        · exact I.ai.hb b hb
        · simp at hb;subst hb;rw [hw];exact R.i64
      · intro b hb
        rcases List.mem_append.1 hb with hb | hb
        · exact I.ai.hf b hb
        · simp at hb;subst hb;intro f hf;cases hf
      · rw [R.txt,AL_pos (by decide),AL_pos h1]
        unfold allLines
        dsimp only
        rw [e3,e4,e5,List.flatMap_append]
        simp only [List.map_nil,List.flatMap_nil,List.append_nil,List.cons_append,List.flatMap_cons]
        refine congrArg (fun z=>lineT kWorld (wNums x)::(x.Bodies.flatMap bLines++z)) ?_
        unfold bLines
        rw [hw];rfl
    · rw [if_pos hl] at hc
      exact absurd hc hl
theorem step_joint {rest:List (List UInt8)} (hf:(kJoint::rest).length≤20001) (hs:∀ s∈kJoint::rest,Sm s):StepR N x sec (kJoint::rest):=by
  have hi:=(joint_lines (kJoint::rest) (by omega) hs).1
  refine step_if (c:=(pJoint (kJoint::rest)).2==0&&enterT sec 3) (y:={ x with Joints:=x.Joints++[(pJoint (kJoint::rest)).1] }) (s:=3) ?_ ?_
  · show Rx.Bind (scene_ParseJoint (kJoint::rest)) _=_
    rw [hi,Bind_snr]
    exact if_pos (by have:=I.nj;omega)
  · intro h
    rw [Bool.and_eq_true,beq_iff_eq] at h
    obtain ⟨h1,h2⟩:=ent h.2 I.s0 (by decide)
    have hc:=h.1
    unfold pJoint at hc ⊢
    by_cases hl:(line (kJoint::rest) kJoint (((kJoint::rest).length:Int) - 1==24) bl3).2=0
    · obtain ⟨R,-,hb⟩:=line_rd hl
      rw [if_neg (by simpa using hl)]
      dsimp only [List.tail_cons] at R hb ⊢
      generalize vals rest=l at R hb
      have hw:=jNums_jointOf (l:=l) (by have:=R.len;omega) fun i hi=>hb i hi (by revert i;decide) (by revert i;decide)
      have e4:=I.e4 (by omega)
      have e5:=I.e5 (by omega)
      refine ⟨⟨by decide,Nat.le_succ_of_le I.nb,?_,Nat.le_succ_of_le I.nc,Nat.le_succ_of_le I.no,fun b hb=>Nat.le_succ_of_le (I.fx b hb),fun c hc=>Nat.le_succ_of_le (I.pt c hc),I.vx,by simp,by simp,fun _=>e4,fun _=>e5,by simp,by simp,⟨I.ai.hw,I.ai.hb,I.ai.hf,?_,I.ai.hc,I.ai.hd,I.ai.hk⟩⟩,by decide,?_⟩
      · have:=I.nj;simp;omega
      · intro b hb
        rcases List.mem_append.1 hb with hb | hb
        · exact I.ai.hj b hb
        · simp at hb;subst hb;rw [hw];exact R.i64
      · rw [R.txt,AL_pos (by decide),AL_pos h1]
        unfold allLines
        dsimp only
        rw [e4,e5,List.map_append]
        simp only [List.map_nil,List.flatMap_nil,List.append_nil,List.cons_append,List.map_cons,hw,List.append_assoc]
        rfl
    · rw [if_pos hl] at hc
      exact absurd hc hl
theorem step_fix {rest:List (List UInt8)} (hf:(kFix::rest).length≤20001) (hs:∀ s∈kFix::rest,Sm s):StepR N x sec (kFix::rest):=by
  have hi:=(fix_lines (kFix::rest) (by omega) hs).1
  by_cases h2:sec=2
  · subst h2
    have hne:=I.n2 rfl
    have hl:=List.getLast?_eq_some_getLast hne
    have hsp:=(List.dropLast_concat_getLast hne).symm
    generalize x.Bodies.getLast hne=last at hl hsp
    generalize x.Bodies.dropLast=init at hsp
    have hml:last∈x.Bodies:=by rw [hsp];simp
    have hmi:∀ b∈init,b∈x.Bodies:=fun b hb=>by rw [hsp];exact List.mem_append_left _ hb
    have hnb:init.length+1≤N:=by have:=I.nb;rw [hsp] at this;simpa using this
    refine step_if (c:=(pFix1 (kFix::rest)).2==0) (y:={ x with Bodies:=init++[{ last with Fixtures:=last.Fixtures++[(pFix1 (kFix::rest)).1] }] }) (s:=2) ?_ ?_
    · show Rx.Bind (scene_ParseFixture (kFix::rest)) _=_
      rw [hi,Bind_snr]
      refine (if_pos rfl).trans ?_
      have:lastF x.Bodies (pFix1 (kFix::rest)).1=some (init++[{ last with Fixtures:=last.Fixtures++[(pFix1 (kFix::rest)).1] }]):=by
        unfold lastF
        rw [hl]
        dsimp only
        rw [if_pos ⟨by have:=I.nb;omega,by have:=I.fx last hml;omega⟩,hsp,List.dropLast_concat]
      rw [this,Bind_snr]
    · intro h
      rw [beq_iff_eq] at h
      unfold pFix1 at h ⊢
      by_cases hl:(line (kFix::rest) kFix (okFix (kFix::rest)) [3]).2=0
      · obtain ⟨rest',e,q1,q2,q3,q4,q5⟩:=line_back hl
        obtain rfl:rest=rest':=(List.cons.inj e).2
        rw [if_neg (by simpa using hl)]
        have hlen:(vals rest).length=rest.length:=by unfold vals;rw [List.length_map]
        have hok:=q1
        unfold okFix at hok
        simp only [Bool.and_eq_true,decide_eq_true_eq,beq_iff_eq,List.length_cons] at hok
        have htx:Lib.join (kFix::rest) [32]=lineT kFix (vals rest):=by rw [← lineT_join,q3]
        have h3:ix (vals rest) 3=0∨ix (vals rest) 3=1:=by
          have:=b01_val (q5 3 (by simp) (by decide))
          unfold vals
          rw [ix_map _ _ _ ⟨by decide,by omega⟩]
          exact this
        dsimp only [List.tail_cons]
        have hlf:rest.length≤20000:=by simp at hf;omega
        generalize vals rest=l at q4 hlen htx h3
        have hodd:(l.length - 9) % 2=0:=by
          have h1:=hok.2
          have e1:((rest.length:Int)+1 - 1)=(rest.length:Int):=by omega
          rw [show ((rest.length+1:Nat):Int) - 1=(rest.length:Int) by omega,Int.tmod_eq_emod_of_nonneg (by omega)] at h1
          omega
        have hw:=fNums_fixOf (l:=l) (by omega) hodd h3
        have e3:=I.e3 (by decide)
        have e4:=I.e4 (by decide)
        have e5:=I.e5 (by decide)
        have hi64:∀ n∈l,I64 n:=fun n hn=>(q4 n hn).i64
        refine ⟨⟨by decide,?_,Nat.le_succ_of_le I.nj,Nat.le_succ_of_le I.nc,Nat.le_succ_of_le I.no,?_,fun c hc=>Nat.le_succ_of_le (I.pt c hc),?_,by simp,fun _=>e3,fun _=>e4,fun _=>e5,by simp,by simp,⟨I.ai.hw,?_,?_,I.ai.hj,I.ai.hc,I.ai.hd,I.ai.hk⟩⟩,by decide,?_⟩
        · simp;omega
        · intro b hb
          rcases List.mem_append.1 hb with hb | hb
          · exact Nat.le_succ_of_le (I.fx b (hmi b hb))
          · simp at hb;subst hb
            have:=I.fx last hml
            simp;omega
        · intro b hb
          rcases List.mem_append.1 hb with hb | hb
          · exact I.vx b (hmi b hb)
          · simp at hb;subst hb
            intro f hf
            rcases List.mem_append.1 hf with hf | hf
            · exact I.vx last hml f hf
            · simp at hf;subst hf
              show (pairs (l.drop 9)).length≤_
              have:=pairs_len2 (l.drop 9)
              rw [List.length_drop] at this
              omega
        · intro b hb
          rcases List.mem_append.1 hb with hb | hb
          · exact I.ai.hb b (hmi b hb)
          · simp at hb;subst hb;exact I.ai.hb last hml
        · intro b hb
          rcases List.mem_append.1 hb with hb | hb
          · exact I.ai.hf b (hmi b hb)
          · simp at hb;subst hb
            intro f hf
            rcases List.mem_append.1 hf with hf | hf
            · exact I.ai.hf last hml f hf
            · simp at hf;subst hf;rw [hw];exact hi64
        · rw [htx,AL_pos (by decide),AL_pos (by decide)]
          unfold allLines
          dsimp only
          rw [e3,e4,e5,hsp,List.flatMap_append,List.flatMap_append]
          simp only [List.map_nil,List.flatMap_nil,List.append_nil,List.cons_append,List.flatMap_cons,List.append_assoc]
          refine congrArg (fun z=>lineT kWorld (wNums x)::(init.flatMap bLines++z)) ?_
          unfold bLines
          dsimp only
          rw [List.map_append,List.map_cons,hw]
          rfl
      · rw [if_pos hl] at h
        exact absurd h hl
  · refine ⟨x,sec,false,?_,by simp⟩
    show Rx.Bind (scene_ParseFixture (kFix::rest)) _=_
    rw [hi,Bind_snr]
    exact if_neg h2
theorem step_contact {rest:List (List UInt8)} (hf:(kContact::rest).length≤20001) (hs:∀ s∈kContact::rest,Sm s):StepR N x sec (kContact::rest):=by
  have hi:=integers_eq (kContact::rest) 6 (by omega) hs (by simp) (by omega)
  refine step_if (c:=(numP (kContact::rest) 6).2==0&&enterT sec 4) (y:={ x with Contacts:=x.Contacts++[contactOf (numP (kContact::rest) 6).1] }) (s:=4) ?_ ?_
  · show Rx.Bind (scene_integers (kContact::rest) 6) _=_
    rw [hi,Bind_snr]
    refine if_pos ⟨fun h=>?_,by have:=I.nc;omega⟩
    have:=(num_rd (by simpa using h)).len
    dsimp only;omega
  · intro h
    rw [Bool.and_eq_true,beq_iff_eq] at h
    have R:=num_rd h.1
    obtain ⟨h1,h2⟩:=ent h.2 I.s0 (by decide)
    generalize (numP (kContact::rest) 6).1=l at R ⊢
    have hw:=cNums_contactOf (l:=l) (by have:=R.len;omega)
    have e5:=I.e5 (by omega)
    refine ⟨⟨by decide,Nat.le_succ_of_le I.nb,Nat.le_succ_of_le I.nj,?_,Nat.le_succ_of_le I.no,fun b hb=>Nat.le_succ_of_le (I.fx b hb),?_,I.vx,by simp,by simp,by simp,fun _=>e5,by simp,by simp,⟨I.ai.hw,I.ai.hb,I.ai.hf,I.ai.hj,?_,?_,I.ai.hk⟩⟩,by decide,?_⟩
    · have:=I.nc;simp;omega
    · intro b hb
      rcases List.mem_append.1 hb with hb | hb
      · exact Nat.le_succ_of_le (I.pt b hb)
      · simp at hb;subst hb;exact Nat.zero_le _
    · intro b hb
      rcases List.mem_append.1 hb with hb | hb
      · exact I.ai.hc b hb
      · simp at hb;subst hb;rw [hw];exact R.i64
    · intro b hb
      rcases List.mem_append.1 hb with hb | hb
      · exact I.ai.hd b hb
      · simp at hb;subst hb;intro f hf;cases hf
    · rw [R.txt,AL_pos (by decide),AL_pos h1]
      unfold allLines
      dsimp only
      rw [e5,List.flatMap_append]
      simp only [List.map_nil,List.flatMap_nil,List.append_nil,List.cons_append,List.flatMap_cons,List.append_assoc]
      refine congrArg (fun z=>lineT kWorld (wNums x)::(x.Bodies.flatMap bLines++(x.Joints.map (fun j=>lineT kJoint (jNums j))++(x.Contacts.flatMap cLines++z)))) ?_
      unfold cLines
      rw [hw];rfl
theorem step_point {rest:List (List UInt8)} (hf:(kPoint::rest).length≤20001) (hs:∀ s∈kPoint::rest,Sm s):StepR N x sec (kPoint::rest):=by
  have hi:=integers_eq (kPoint::rest) 6 (by omega) hs (by simp) (by omega)
  have hg:((numP (kPoint::rest) 6).2==0)=true→(numP (kPoint::rest) 6).1.length=6:=fun h=>by
    have:=(num_rd (by simpa using h)).len
    omega
  by_cases h2:sec=4
  · subst h2
    have hne:=I.n4 rfl
    have hl:=List.getLast?_eq_some_getLast hne
    have hsp:=(List.dropLast_concat_getLast hne).symm
    generalize x.Contacts.getLast hne=last at hl hsp
    generalize x.Contacts.dropLast=init at hsp
    have hml:last∈x.Contacts:=by rw [hsp];simp
    have hmi:∀ b∈init,b∈x.Contacts:=fun b hb=>by rw [hsp];exact List.mem_append_left _ hb
    have hnb:init.length+1≤N:=by have:=I.nc;rw [hsp] at this;simpa using this
    refine step_if (c:=(numP (kPoint::rest) 6).2==0) (y:={ x with Contacts:=init++[{ last with Manifold:={ last.Manifold with Points:=last.Manifold.Points++[pointOf (numP (kPoint::rest) 6).1] } }] }) (s:=4) ?_ ?_
    · show Rx.Bind (scene_integers (kPoint::rest) 6) _=_
      rw [hi,Bind_snr]
      refine (if_pos hg).trans ?_
      refine (if_pos rfl).trans ?_
      have:lastP x.Contacts (pointOf (numP (kPoint::rest) 6).1)=some (init++[{ last with Manifold:={ last.Manifold with Points:=last.Manifold.Points++[pointOf (numP (kPoint::rest) 6).1] } }]):=by
        unfold lastP
        rw [hl]
        dsimp only
        rw [if_pos ⟨by have:=I.nc;omega,by have:=I.pt last hml;omega⟩,hsp,List.dropLast_concat]
      rw [this,Bind_snr]
    · intro h
      rw [beq_iff_eq] at h
      have R:=num_rd h
      generalize (numP (kPoint::rest) 6).1=l at R ⊢
      have hw:=dNums_pointOf (l:=l) (by have:=R.len;omega)
      have e5:=I.e5 (by decide)
      refine ⟨⟨by decide,Nat.le_succ_of_le I.nb,Nat.le_succ_of_le I.nj,?_,Nat.le_succ_of_le I.no,fun b hb=>Nat.le_succ_of_le (I.fx b hb),?_,I.vx,by simp,by simp,by simp,fun _=>e5,by simp,by simp,⟨I.ai.hw,I.ai.hb,I.ai.hf,I.ai.hj,?_,?_,I.ai.hk⟩⟩,by decide,?_⟩
      · simp;omega
      · intro b hb
        rcases List.mem_append.1 hb with hb | hb
        · exact Nat.le_succ_of_le (I.pt b (hmi b hb))
        · simp at hb;subst hb
          have:=I.pt last hml
          simp;omega
      · intro b hb
        rcases List.mem_append.1 hb with hb | hb
        · exact I.ai.hc b (hmi b hb)
        · simp at hb;subst hb;exact I.ai.hc last hml
      · intro b hb
        rcases List.mem_append.1 hb with hb | hb
        · exact I.ai.hd b (hmi b hb)
        · simp at hb;subst hb
          intro f hf
          rcases List.mem_append.1 hf with hf | hf
          · exact I.ai.hd last hml f hf
          · simp at hf;subst hf;rw [hw];exact R.i64
      · rw [R.txt,AL_pos (by decide),AL_pos (by decide)]
        unfold allLines
        dsimp only
        rw [e5,hsp,List.flatMap_append,List.flatMap_append]
        simp only [List.map_nil,List.flatMap_nil,List.append_nil,List.cons_append,List.flatMap_cons,List.append_assoc]
        refine congrArg (fun z=>lineT kWorld (wNums x)::(x.Bodies.flatMap bLines++(x.Joints.map (fun j=>lineT kJoint (jNums j))++(init.flatMap cLines++z)))) ?_
        unfold cLines
        dsimp only
        rw [List.map_append,List.map_cons,hw]
        rfl
  · refine ⟨x,sec,false,?_,by simp⟩
    show Rx.Bind (scene_integers (kPoint::rest) 6) _=_
    rw [hi,Bind_snr]
    exact (if_pos hg).trans (if_neg h2)
theorem step_overlap {rest:List (List UInt8)} (hf:(kOverlap::rest).length≤20001) (hs:∀ s∈kOverlap::rest,Sm s):StepR N x sec (kOverlap::rest):=by
  have hi:=integers_eq (kOverlap::rest) 4 (by omega) hs (by simp) (by omega)
  refine step_if (c:=(numP (kOverlap::rest) 4).2==0&&enterT sec 5) (y:={ x with Overlaps:=x.Overlaps++[keyOf (numP (kOverlap::rest) 4).1] }) (s:=5) ?_ ?_
  · show Rx.Bind (scene_integers (kOverlap::rest) 4) _=_
    rw [hi,Bind_snr]
    refine if_pos ⟨fun h=>?_,by have:=I.no;omega⟩
    have:=(num_rd (by simpa using h)).len
    dsimp only;omega
  · intro h
    rw [Bool.and_eq_true,beq_iff_eq] at h
    have R:=num_rd h.1
    obtain ⟨h1,h2⟩:=ent h.2 I.s0 (by decide)
    generalize (numP (kOverlap::rest) 4).1=l at R ⊢
    have hw:=kNums_keyOf (l:=l) (by have:=R.len;omega)
    refine ⟨⟨by decide,Nat.le_succ_of_le I.nb,Nat.le_succ_of_le I.nj,Nat.le_succ_of_le I.nc,?_,fun b hb=>Nat.le_succ_of_le (I.fx b hb),fun c hc=>Nat.le_succ_of_le (I.pt c hc),I.vx,by simp,by simp,by simp,by simp,by simp,by simp,⟨I.ai.hw,I.ai.hb,I.ai.hf,I.ai.hj,I.ai.hc,I.ai.hd,?_⟩⟩,by decide,?_⟩
    · have:=I.no;simp;omega
    · intro b hb
      rcases List.mem_append.1 hb with hb | hb
      · exact I.ai.hk b hb
      · simp at hb;subst hb;rw [hw];exact R.i64
    · rw [R.txt,AL_pos (by decide),AL_pos h1]
      unfold allLines
      dsimp only
      rw [List.map_append]
      simp only [List.map_nil,List.flatMap_nil,List.append_nil,List.cons_append,List.map_cons,List.append_assoc,hw]
      rfl
theorem step_any {f:List (List UInt8)} (hf:f.length≤20001) (hs:∀ s∈f,Sm s):StepR N x sec f:=by
  cases f with
  | nil=>exact ⟨x,sec,false,rfl,by simp⟩
  | cons k rest=>
    by_cases k1:k=kWorld
    · subst k1;exact step_world I hN hf hs
    by_cases k2:k=kBody
    · subst k2;exact step_body I hN hf hs
    by_cases k3:k=kFix
    · subst k3;exact step_fix I hN hf hs
    by_cases k4:k=kJoint
    · subst k4;exact step_joint I hN hf hs
    by_cases k5:k=kContact
    · subst k5;exact step_contact I hN hf hs
    by_cases k6:k=kPoint
    · subst k6;exact step_point I hN hf hs
    by_cases k7:k=kOverlap
    · subst k7;exact step_overlap I hN hf hs
    refine ⟨x,sec,false,?_,by simp⟩
    exact (if_neg k1).trans ((if_neg k2).trans ((if_neg k3).trans ((if_neg k4).trans ((if_neg k5).trans ((if_neg k6).trans (if_neg k7))))))
end
end GoForm
end

section
set_option linter.all false
set_option maxRecDepth 100000
open Go Go.Rx
namespace GoForm
theorem join_flat:∀ (r:List (List UInt8)) (x:List UInt8),Lib.join (x::r) [32]++[32]=flat 32 (x::r):=by
  intro r
  induction r with
  | nil=>intro x;rw [Lib.join_cons,flat_cons];simp [Lib.joinTail,flat]
  | cons y r ih=>
    intro x
    have h:=ih y
    rw [Lib.join_cons] at h
    rw [Lib.join_cons,joinTail_cons,flat_cons,← h]
    simp
theorem join_spl (l:List UInt8):Lib.join (spl 32 l) [32]=l:=by
  have h:=flat_spl 32 l
  cases hs:spl 32 l with
  | nil=>exact absurd hs (spl_ne 32 l)
  | cons x r=>
    rw [hs,← join_flat] at h
    exact List.append_cancel_right h
theorem spl_sm (l:List UInt8):∀ p∈spl 32 l,p.length≤l.length:=by
  intro p hp
  have h:=congrArg List.length (flat_spl 32 l)
  obtain ⟨a,b,e⟩:=List.append_of_mem hp
  rw [e,flat_app,flat_cons] at h
  simp at h
  omega
def flds2 (l:List UInt8):List (List UInt8):=if (pFields l).2=0 then (pFields l).1 else []
theorem flds2_len {l:List UInt8} (h:l.length≤20000):(flds2 l).length≤20001∧(∀ s∈flds2 l,Sm s)∧(flds2 l≠[]→Lib.join (flds2 l) [32]=l):=by
  unfold flds2 pFields
  by_cases h0:l=[]
  · rw [if_pos h0];simp
  · rw [if_neg h0]
    by_cases h1:(spl 32 l).all isFl=true
    · rw [if_pos h1,if_pos rfl]
      refine ⟨?_,fun s hs=>sm_of (Nat.le_trans (spl_sm l s hs) h) (by decide),fun _=>join_spl l⟩
      rw [spl_len]
      have:=List.count_le_length (a:=(32:UInt8)) (l:=l)
      omega
    · rw [if_neg h1,if_neg (by decide)];simp
theorem lines_back:∀ (ls:List (List UInt8)) (N:Nat) (x:World_) (sec:Int) (i:Nat),InvN N x sec→N+ls.length≤900→(∀ l∈ls,l.length≤20000)→
    ∃ y n,linesP ls i x sec=some (y,n)∧0≤n∧(n=0→∃ s,InvN (N+ls.length) y s∧s≠0∧AL s y=AL sec x++ls)
  | [],N,x,sec,i,I,_,_=>by
    unfold linesP
    by_cases h:sec=0
    · rw [if_pos h]
      exact ⟨_,_,rfl,by omega,fun h=>by omega⟩
    · rw [if_neg h]
      exact ⟨_,_,rfl,by decide,fun _=>⟨sec,I,h,by simp⟩⟩
  | l :: ls,N,x,sec,i,I,hN,hl=>by
    rw [List.length_cons] at hN
    have h1:=hl l (by simp)
    obtain ⟨f1,f2,f3⟩:=flds2_len h1
    obtain ⟨y,s,ok,hs,hok⟩:=step_any I (by omega) f1 f2
    have e:linesP (l::ls) i x sec=if ok=true then linesP ls (i+1) y s else some (noW,(i:Int)+1):=by
      show Rx.Bind (format_Fields l) _=_
      rw [Fields_eq l (by omega),Bind_snr]
      refine Eq.trans (Bind_of hs) ?_
      rfl
    rw [e]
    cases ok with
    | false=>exact ⟨_,_,rfl,by omega,fun h=>by omega⟩
    | true=>
      obtain ⟨I2,q1,q2⟩:=hok rfl
      obtain ⟨y2,n,e2,h0,hy⟩:=lines_back ls (N+1) y s (i+1) I2 (by omega) fun l h=>hl l (List.mem_cons_of_mem _ h)
      refine ⟨y2,n,e2,h0,fun hn=>?_⟩
      obtain ⟨s2,r1,r2,r3⟩:=hy hn
      refine ⟨s2,by rw [List.length_cons,show N+(ls.length+1)=N+1+ls.length by omega];exact r1,r2,?_⟩
      have hne:flds2 l≠[]:=by
        intro h
        rw [h] at hs
        cases hs
      rw [r3,q2,f3 hne,List.append_assoc];rfl
theorem InvN.few {N:Nat} {x:World_} {s:Int} (I:InvN N x s) (hN:N≤900):Few x:=
  ⟨by have:=I.nb;omega,by have:=I.nj;omega,by have:=I.nc;omega,by have:=I.no;omega,fun c hc=>by have:=I.pt c hc;omega,fun b hb=>by have:=I.fx b hb;omega,I.vx⟩
theorem short_loop (s:List UInt8) (hs:s.length≤9223372036854775807) (step:(Int × Int→Option Bool)→Int × Int→Option Bool)
    (h1:∀ (r:Int × Int→Option Bool) (n i:Nat),i<s.length→n≤i→IntKind.i64.wrap ((i:Int)+1)=(i:Int)+1→IntKind.i64.wrap ((n:Int)+1)=(n:Int)+1→step r ((n:Int),(i:Int))=r ((if (ix s (i:Int)==toByte 10)=true then (n:Int)+1 else (n:Int)),(i:Int)+1))
    (h2:∀ (r:Int × Int→Option Bool) (n:Nat),step r ((n:Int),(s.length:Int))=some (decide ((s.length:Int)≤20000)&&decide ((n:Int)≤200))):
    ∀ (k i n fu:Nat),k=s.length - i→i≤s.length→n≤i→k<fu→LOOP step fu ((n:Int),(i:Int))=some (decide ((s.length:Int)≤20000)&&decide (((n+(s.drop i).count 10:Nat):Int)≤200))
  | k,i,n,0,_,_,_,h=>by omega
  | k,i,n,fu+1,hk,hi,hn,hf=>by
    rw [LOOP_s]
    by_cases he:i=s.length
    · subst he
      rw [h2,List.drop_length];rfl
    · have hlt:i<s.length:=by omega
      have e1:IntKind.i64.min = -9223372036854775808:=by decide
      have e2:IntKind.i64.max=9223372036854775807:=by decide
      have hd:s.drop i=ix s (i:Int)::s.drop (i+1):=by rw [ix_lt s i hlt];exact List.drop_eq_getElem_cons hlt
      rw [h1 _ _ _ hlt hn (wrap_in _ (by omega) (by omega)) (wrap_in _ (by omega) (by omega)),hd,List.count_cons]
      have e10:toByte 10=(10:UInt8):=by decide
      rw [e10]
      by_cases hc:(ix s (i:Int)==(10:UInt8))=true
      · rw [if_pos hc,if_pos hc]
        have:=short_loop s hs step h1 h2 (k - 1) (i+1) (n+1) fu (by omega) (by omega) (by omega) (by omega)
        have e3:(((n+1:Nat):Int),((i+1:Nat):Int))=((n:Int)+1,(i:Int)+1):=by simp
        rw [e3] at this
        rw [this,show n+1+(s.drop (i+1)).count 10=n+((s.drop (i+1)).count 10+1) by omega]
      · rw [if_neg hc,if_neg hc]
        have:=short_loop s hs step h1 h2 (k - 1) (i+1) n fu (by omega) (by omega) (by omega) (by omega)
        have e3:((n:Int),((i+1:Nat):Int))=((n:Int),(i:Int)+1):=by simp
        rw [e3] at this
        rw [this];rfl
theorem short_eq (s:List UInt8) (hs:s.length≤9223372036854775807):caromlaw52_short s=some (decide ((s.length:Int)≤20000)&&decide (((s.count 10:Nat):Int)≤200)):=by
  unfold caromlaw52_short
  refine (short_loop s hs _ ?_ ?_ s.length 0 0 fuel (by omega) (by omega) (by omega) (Nat.lt_of_le_of_lt hs (by unfold fuel;decide))).trans ?_
  · intro r n i hi hn w1 w2
    have hc:(0:Int)≤(i:Int)∧(i:Int)<(s.length:Int):=by omega
    simp only [Let_nr,dlt hc,if_true,Join_nr,Chk_of hc,w1,w2]
    split <;> rfl
  · intro r n
    simp only [Let_nr,dll,ff,if_false,cond_and]
  · rw [List.drop_zero,Nat.zero_add]
theorem Canonical_true (s:List UInt8) (hs:s.length≤9223372036854775807):caromlaw52_SceneCanonical s=some true:=by
  unfold caromlaw52_SceneCanonical
  have hex:(Rx.Bind caromlaw52_example fun (r:Bool)=>some r)=some true:=by rw [example52];rfl
  rw [short_eq s hs,Bind_snr,Let_nr]
  cases hsh:(decide ((s.length:Int)≤20000)&&decide (((s.count 10:Nat):Int)≤200)) with
  | false=>exact (if_pos rfl).trans hex
  | true=>
    rw [Bool.and_eq_true,decide_eq_true_eq,decide_eq_true_eq] at hsh
    refine (if_neg (by simp)).trans ?_
    have eqz:caromref25_Equal noW noW=some true:=by rw [ref25_Equal_eq noW noW zeroW_sm];simp
    have bad:∀ n:Int,0≤n→∀ c:Int,c≠0→(Rx.Bind (some (noW,n,c)) fun (r2463:World_ × Int × Int)=>
        Let (r2463.snd.snd != (0:Int)) fun (x2464:Bool)=>
        if x2464=true then
        Rx.Bind (caromref25_Equal r2463.fst noW) fun (r2465:Bool)=>
        Let (decide (r2463.snd.fst≥(0:Int))) fun (x2466:Bool)=>
        Let (bif r2465 then x2466 else false) fun (x2467:Bool)=>
        Rx.Bind (if (x2467==true)=true then caromlaw52_example else some default) fun (r2468:Bool)=>
        Let (bif x2467 then r2468 else false) fun (x2469:Bool)=>some x2469
        else
        Rx.Bind (scene_Format r2463.fst) fun (r2470:List UInt8 × Int)=>
        Let (r2470.snd==(0:Int)) fun (x2471:Bool)=>
        Let (r2470.fst==s) fun (x2472:Bool)=>
        Let (bif x2471 then x2472 else false) fun (x2473:Bool)=>
        Rx.Bind (if (x2473==true)=true then world_Validate r2463.fst else some default) fun (r2474:Int)=>
        Let (r2474==(0:Int)) fun (x2475:Bool)=>
        Let (bif x2473 then x2475 else false) fun (x2476:Bool)=>
        Rx.Bind (if (x2476==true)=true then caromlaw52_example else some default) fun (r2477:Bool)=>
        Let (bif x2476 then r2477 else false) fun (x2478:Bool)=>some x2478)=some true:=by
      intro n hn c hc
      rw [Bind_snr]
      refine (if_pos (by simpa using hc)).trans ?_
      rw [eqz,Bind_snr,Let_nr,Let_nr]
      have:decide (n≥0)=true:=decide_eq_true hn
      dsimp only
      rw [this,cond_true,if_pos (show (true==true)=true from rfl),example52];rfl
    unfold scene_Parse
    have hS:=SplitLines_eq s (by omega)
    rw [hS,Bind_snr]
    rcases pLines_cases s with ⟨-,-,h⟩ | ⟨L,hL,hf,hno,-⟩
    · rw [h]
      exact bad 0 (by decide) 3 (by decide)
    · rw [hL]
      have hlen:∀ l∈L,l.length≤20000:=by
        intro l hl
        obtain ⟨a,b,e⟩:=List.append_of_mem hl
        have:=congrArg List.length hf
        rw [e,flat_app,flat_cons] at this
        simp at this
        omega
      have hcnt:L.length≤200:=by
        have h1:(flat 10 L).count 10=L.length:=by
          clear hf hL hlen
          induction L with
          | nil=>rfl
          | cons p L ih=>
            rw [flat_cons,List.count_append,List.count_cons,ih fun q hq=>hno q (List.mem_cons_of_mem _ hq),List.count_eq_zero.2 (hno p (by simp))]
            simp
        rw [hf] at h1
        omega
      rw [if_neg (show ¬ ((L,(0:Int)).2≠0) by simp),if_pos (show (L,(0:Int)).1.length<1048576 by show L.length<_;omega)]
      obtain ⟨y,n,hl,h0,hy⟩:=lines_back L 0 noW 0 0 InvN.zero (by omega) hlen
      show (Rx.Bind (Rx.Bind (linesP L 0 noW 0) _) _)=_
      rw [hl,Bind_snr]
      by_cases hn:n=0
      · subst hn
        obtain ⟨sc,I,hsc,hA⟩:=hy rfl
        have hF:=I.few (by omega)
        rw [if_neg (by simp)]
        dsimp only
        rw [world_Val_eq y hF,Bind_snr]
        by_cases hv:wv y=0
        · rw [if_neg (by simpa using hv),Bind_snr]
          have hT:textOf y=s:=by
            have:allLines y=L:=by
              have:=hA
              unfold AL at this
              rw [if_neg hsc,if_pos rfl] at this
              simpa using this
            unfold textOf
            rw [this,hf]
          have hFm:=Format_eq y hF I.ai
          rw [if_neg (by simpa using hv),hT] at hFm
          simp only [Let_nr,bne_self_eq_false,Bool.false_eq_true,if_false,hFm,Bind_snr,world_Val_eq y hF,hv,beq_self_eq_true,cond_true,if_true,example52]
        · rw [if_pos (by simpa using hv)]
          exact bad 0 (by decide) 18 (by decide)
      · rw [if_pos (by simpa using hn)]
        exact bad n h0 27 (by decide)
end GoForm
end

section
set_option linter.all false
set_option maxRecDepth 100000
open Go Go.Rx
namespace GoForm
theorem sat_bd (x:Int) : -536870911≤GoOld.sat x∧GoOld.sat x≤536870911∧((-536870911<GoOld.sat x∧GoOld.sat x<536870911)→GoOld.sat x=x):=by
  unfold GoOld.sat;omega
theorem Ok62.of {x a b:Int} (h:a≤x∧x≤b) (h1 : -4611686018427387904≤a:=by decide) (h2:b≤4611686018427387904:=by decide):Ok62 x:=by unfold Ok62;omega
structure AllO (w:World_):Prop where
  hw:∀ n∈wNums w,Ok62 n
  hb:∀ b∈w.Bodies,∀ n∈bNums b,Ok62 n
  hf:∀ b∈w.Bodies,∀ f∈b.Fixtures,∀ n∈fNums f,Ok62 n
  hj:∀ j∈w.Joints,∀ n∈jNums j,Ok62 n
  hc:∀ c∈w.Contacts,∀ n∈cNums c,Ok62 n
  hd:∀ c∈w.Contacts,∀ d∈c.Manifold.Points,∀ n∈dNums d,Ok62 n
  hk:∀ k∈w.Overlaps,∀ n∈kNums k,Ok62 n
end GoForm
end

section
set_option linter.all false
set_option maxRecDepth 100000
open Go Go.Rx
namespace GoForm
theorem fmt_isFl (n:Int):isFl (fmtInt n)=true:=by
  obtain ⟨d1,-,x,l,e,-⟩:=digs_facts n.natAbs n.natAbs (Nat.le_refl _)
  have hd:∀ c∈digs n.natAbs,33≤c.toNat∧c.toNat≤126:=fun c hc=>by
    have:=isD_iff.1 (List.all_eq_true.1 d1 c hc)
    omega
  unfold isFl fmtInt
  rw [Bool.and_eq_true,List.all_eq_true,decide_eq_true_eq]
  by_cases h:n<0
  · rw [if_pos h]
    refine ⟨fun c hc=>?_,by simp⟩
    rw [Bool.and_eq_true,decide_eq_true_eq,decide_eq_true_eq]
    rcases List.mem_cons.1 hc with rfl | hc
    · decide
    · exact hd c hc
  · rw [if_neg h]
    refine ⟨fun c hc=>?_,by rw [e];simp⟩
    rw [Bool.and_eq_true,decide_eq_true_eq,decide_eq_true_eq]
    exact hd c hc
def Steps (L:List (List UInt8)) (x:World_) (sec:Int) (y:World_) (s:Int):Prop:=∀ (rest:List (List UInt8)) (i:Nat),linesP (L++rest) i x sec=linesP rest (i+L.length) y s
theorem Steps.nil {x:World_} {sec:Int}:Steps [] x sec x sec:=fun _ _=>rfl
theorem Steps.one {kw:List UInt8} {l:List Int} {x y:World_} {sec s:Int} (hk:isFl kw=true) (hl:(lineT kw l).length≤1000000) (h:stepP x sec (kw::l.map fmtInt)=some (y,s,true)):Steps [lineT kw l] x sec y s:=fun rest i=>by
  show Rx.Bind (format_Fields (lineT kw l)) _=_
  have hp:pFields (lineT kw l)=(kw::l.map fmtInt,0):=by
    rw [← lineT_join]
    refine pFields_join _ ?_
    rw [List.all_cons,hk,Bool.true_and,List.all_eq_true]
    intro s hs
    obtain ⟨n,-,rfl⟩:=List.mem_map.1 hs
    exact fmt_isFl n
  rw [Fields_eq _ hl,hp,Bind_snr]
  refine Eq.trans (Bind_of h) ?_
  rfl
structure FewS (w:World_):Prop where
  bodies:w.Bodies.length≤40
  joints:w.Joints.length≤40
  contacts:w.Contacts.length≤80
  overlaps:w.Overlaps.length≤80
  points:∀ c∈w.Contacts,c.Manifold.Points.length≤8
  fixtures:∀ b∈w.Bodies,b.Fixtures.length≤8
  vertices:∀ b∈w.Bodies,∀ f∈b.Fixtures,f.Shape.Vertices.length≤20
end GoForm
end

section
set_option linter.all false
set_option maxRecDepth 100000
open Go Go.Rx
namespace GoForm
end GoForm
end
