/- Several texts in one. No conditions. -/
import Derived.Test.YtelkhkmeoahhlaaGreatDoorKX
import Derived.Test.YtelkhkmeoahhlaaGreatDoorOB
section
set_option linter.all false
set_option maxRecDepth 100000
open Go Go.Rx
namespace GoForm
def jjX (n:Int):Prop:=n.natAbs<=4611686018427387904
theorem jjX.i64 {n:Int}(h:jjX n):I64 n:=by
 unfold jjX at h
 have e1:IntKind.i64.min = -9223372036854775808:=by decide
 have e2:IntKind.i64.max=9223372036854775807:=by decide
 unfold I64
 rw[e1,e2]
 omega
theorem jf0 {s:List UInt8}(h:(xw s).2=0):wR (xw s).1=s/\jjX (xw s).1:=by
 unfold xw at h⊢
 by_cases h1:isInt s=true
 ·rw[if_pos h1]at h⊢
  by_cases h2:dv (body s)<=4611686018427387904
  ·rw[if_pos h2]
   refine⟨jk9 s h1,?_⟩
   show(sgn s (dv (body s))).natAbs<=_
   unfold sgn
   split <;> omega
  ·rw[if_neg h2]at h;cases h
 ·rw[if_neg h1]at h;cases h
theorem jhi {s:List UInt8}(h:b01 s=true):(xw s).1=0\/(xw s).1=1:=by
 unfold b01 at h
 rw[Bool.or_eq_true,decide_eq_true_eq,decide_eq_true_eq]at h
 rcases h with rfl|rfl
 ·exact .inl (by decide)
 ·exact .inr (by decide)
theorem jkX {α:Type}[Inhabited α](a:α)(l:List α)(i:Int)(h:0<=i):ix (a::l) (1+i)=ix l i:=by
 obtain⟨n,rfl⟩:=Int.eq_ofNat_of_zero_le h
 unfold ix
 have:(1+(n:Int)).toNat=n+1:=by omega
 rw[this];rfl
theorem jjv {α β:Type}[Inhabited α][Inhabited β](f:α->β)(l:List α)(i:Int)(h:0<=i/\i<(l.length:Int)):ix (l.map f) i=f (ix l i):=by
 obtain⟨n,rfl⟩:=Int.eq_ofNat_of_zero_le h.1
 have hn:n<l.length:=by omega
 show ix (l.map f) (n:Int)=f (ix l (n:Int))
 rw[ml _ n (by simpa using hn),ml _ n hn];simp
theorem jbi {f:List (List UInt8)}{kw:List UInt8}{b:Bool}{bl:List Int}(h:(line f kw b bl).2=0):∃rest,f=kw::rest/\b=true/\(line f kw b bl).1=Zy rest/\(Zy rest).map wR=rest/\(∀n∈Zy rest,jjX n)/\∀i∈bl,0<=i->b01 (ix rest i)=true:=by
 obtain⟨h1,h2,h3,h4,h5,h6,h7,h8⟩:=xz h
 cases f with
 |nil=>exact absurd rfl h1
 |cons k rest=>
  have hk:k=kw:=h2
  subst hk
  have ha:∀s∈rest,(xw s).2=0:=by
   intro s hs
   have:=List.any_eq_false.1 h6 s hs
   simpa using this
  refine⟨rest,rfl,h3,h4,?_,?_,?_⟩
  ·unfold Zy
   rw[List.map_map]
   have:∀l:List (List UInt8),(∀s∈l,(xw s).2=0)->l.map (wR ∘ fun s=>(xw s).1)=l:=by
    intro l
    induction l with
    |nil=>intro _;rfl
    |cons a l ih=>intro h;rw[List.map_cons,ih fun s hs=>h s (List.mem_cons_of_mem _ hs)];exact congrArg (·::l) (jf0 (h a (by simp))).1
   exact this rest ha
  ·intro n hn
   obtain⟨s,hs,rfl⟩:=List.mem_map.1 hn
   exact(jf0 (ha s hs)).2
  ·intro i hi h0
   have:=List.any_eq_false.1 h7 i hi
   rw[jkX _ _ _ h0]at this
   simpa using this
theorem Xx {n:Int}(h:n=0\/n=1):bit (n==1)=n:=by rcases h with rfl|rfl <;> rfl
def wY (f:List (List UInt8))(n:Int):List Int × Int:=line f (ix f 0) ((f.length:Int) - 1==n) []
theorem Zd (f:List (List UInt8))(n:Int)(hf:f.length<=1000000)(hs:∀s∈f,Sm s)(h0:f≠[])(hn:0<=n/\n<=1000):jZ f n=some ((wY f n).1,(wY f n).2==0):=by
 have hpos:=List.length_pos_iff.2 h0
 unfold jZ
 rw[ju (by omega)]
 rw[jj]
 refine Eq.trans (wN (WY f (ix f 0) n [] hf hs hn (by show _<_;decide) (by simp)).1) ?_
 rfl
theorem len19 {l:List Int}(h:l.length=19):∃a0 a1 a2 a3 a4 a5 a6 a7 a8 a9 a10 a11 a12 a13 a14 a15 a16 a17 a18:Int,l=[a0,a1,a2,a3,a4,a5,a6,a7,a8,a9,a10,a11,a12,a13,a14,a15,a16,a17,a18]:=by
 match l,h with
 | [a0,a1,a2,a3,a4,a5,a6,a7,a8,a9,a10,a11,a12,a13,a14,a15,a16,a17,a18],_=>exact⟨a0,a1,a2,a3,a4,a5,a6,a7,a8,a9,a10,a11,a12,a13,a14,a15,a16,a17,a18,rfl⟩
theorem jbN {l:List Int}(h:l.length=19)(hb:∀i∈bl1,ix l i=0\/ix l i=1):jlz (jjR l)=l:=by
 obtain⟨a0,a1,a2,a3,a4,a5,a6,a7,a8,a9,a10,a11,a12,a13,a14,a15,a16,a17,a18,rfl⟩:=len19 h
 have b1:a14=0\/a14=1:=hb 14 (by decide)
 have b2:a15=0\/a15=1:=hb 15 (by decide)
 have b3:a16=0\/a16=1:=hb 16 (by decide)
 have b4:a17=0\/a17=1:=hb 17 (by decide)
 show[a0,a1,a2,a3,a4,a5,a6,a7,a8,a9,a10,a11,a12,a13,bit (a14==1),bit (a15==1),bit (a16==1),bit (a17==1),a18]=_
 rw[Xx b1,Xx b2,Xx b3,Xx b4]
theorem MU {l:List Int}(h:l.length=24)(hb:∀i∈bl3,ix l i=0\/ix l i=1):jgv (jgt l)=l:=by
 obtain⟨a0,a1,a2,a3,a4,a5,a6,a7,a8,a9,a10,a11,a12,a13,a14,a15,a16,a17,a18,a19,a20,a21,a22,a23,rfl⟩:=len24 h
 have b1:a11=0\/a11=1:=hb 11 (by decide)
 have b2:a14=0\/a14=1:=hb 14 (by decide)
 have b3:a19=0\/a19=1:=hb 19 (by decide)
 show[a0,a1,a2,a3,a4,a5,a6,a7,a8,a9,a10,bit (a11==1),a12,a13,bit (a14==1),a15,a16,a17,a18,bit (a19==1),a20,a21,a22,a23]=_
 rw[Xx b1,Xx b2,Xx b3]
theorem mH:∀l:List Int,l.length % 2=0->(xu l).flatMap (fun v=>[v.X,v.Y])=l
 | [],_=>rfl
 | [a],h=>by simp at h
 |a::b::t,h=>by
  have:=mH t (by simp at h;omega)
  unfold xu
  rw[List.flatMap_cons,this];rfl
theorem mG:∀l:List Int,2*(xu l).length<=l.length
 | []=>by simp[xu]
 | [a]=>by simp[xu]
 |a::b::t=>by have:=mG t;simp[xu];omega
theorem len9 {l:List Int}(h:9<=l.length):∃(a0 a1 a2 a3 a4 a5 a6 a7 a8:Int) (t:List Int),l=a0::a1::a2::a3::a4::a5::a6::a7::a8::t:=by
 match l,h with
 |a0::a1::a2::a3::a4::a5::a6::a7::a8::t,_=>exact⟨a0,a1,a2,a3,a4,a5,a6,a7,a8,t,rfl⟩
theorem jcI {l:List Int}(h:9<=l.length)(h2:(l.length - 9) % 2=0)(hb:ix l 3=0\/ix l 3=1):jlc (fixOf l)=l:=by
 obtain⟨a0,a1,a2,a3,a4,a5,a6,a7,a8,t,rfl⟩:=len9 h
 have b1:a3=0\/a3=1:=hb
 have ht:t.length % 2=0:=by simp at h2;omega
 show[a0,a1,a2,bit (a3==1),a4,a5,a6,a7,a8]++(xu t).flatMap (fun v=>[v.X,v.Y])=_
 rw[Xx b1,mH t ht];rfl
theorem Mg {l:List Int}(h:l.length=7):jaA (JU l)=l:=by
 match l,h with
 | [a0,a1,a2,a3,a4,a5,a6],_=>rfl
theorem Pq {l:List Int}(h:l.length=6):jiQ (Qv l)=l:=by
 match l,h with
 | [a0,a1,a2,a3,a4,a5],_=>rfl
theorem jaf {l:List Int}(h:l.length=6):jiM (kv l)=l:=by
 match l,h with
 | [a0,a1,a2,a3,a4,a5],_=>rfl
theorem jcy {l:List Int}(h:l.length=4):jkT (keyOf l)=l:=by
 match l,h with
 | [a0,a1,a2,a3],_=>rfl
def AL (sec:Int)(x:jo):List (List UInt8):=if sec=0 then[]else vd x
structure jeY (N:Nat)(x:jo)(sec:Int):Prop where
 s0:0<=sec
 nb:x.ji.length<=N
 nj:x.jP.length<=N
 nc:x.jc.length<=N
 no:x.Overlaps.length<=N
 fx:∀b∈x.ji,b.jf.length<=N
 pt:∀c∈x.jc,c.jt.jY.length<=N
 vx:∀b∈x.ji,∀f∈b.jf,f.Shape.jg.length<=10000
 e2:sec<2->x.ji=[]
 e3:sec<3->x.jP=[]
 e4:sec<4->x.jc=[]
 e5:sec<5->x.Overlaps=[]
 n2:sec=2->x.ji≠[]
 n4:sec=4->x.jc≠[]
 ai:AllI x
theorem jeY.zero:jeY 0 noW 0:=by
 refine⟨by decide,by simp[noW],by simp[noW],by simp[noW],by simp[noW],by simp[noW],by simp[noW],by simp[noW],fun _=>rfl,fun _=>rfl,fun _=>rfl,fun _=>rfl,by simp,by simp,⟨?_,by simp[noW],by simp[noW],by simp[noW],by simp[noW],by simp[noW],by simp[noW]⟩⟩
 intro n hn
 simp[jaA,noW]at hn
 subst hn
 exact jjX.i64 (by unfold jjX;decide)
theorem ent {sec s:Int}(h:Yw sec s=true)(h0:0<=sec)(hs:2<=s):1<=sec/\sec<=s:=by
 unfold Yw at h
 simp only[Bool.not_eq_true',Bool.or_eq_false_iff,Bool.and_eq_false_iff,decide_eq_false_iff_not,beq_eq_false_iff_ne,bne_eq_false_iff_eq]at h
 omega
theorem ent1 {sec:Int}(h:Yw sec 1=true):sec=0:=by
 unfold Yw at h
 simp only[Bool.not_eq_true',Bool.or_eq_false_iff,Bool.and_eq_false_iff,decide_eq_false_iff_not,beq_eq_false_iff_ne,bne_eq_false_iff_eq]at h
 omega
structure Rd (f:List (List UInt8))(kw:List UInt8)(n:Int)(l:List Int):Prop where
 txt:Lib.join f [32]=uh kw l
 ok:∀n∈l,jjX n
 len:(l.length:Int)=n
theorem Rd.i64 {f kw n l}(h:Rd f kw n l):∀n∈l,I64 n:=fun n hn=>(h.ok n hn).i64
theorem jco {f:List (List UInt8)}{kw:List UInt8}{n:Int}{bl:List Int}(h:(line f kw ((f.length:Int) - 1==n) bl).2=0):Rd f kw n (Zy f.tail)/\(line f kw ((f.length:Int) - 1==n) bl).1=Zy f.tail/\∀i∈bl,0<=i->i<n->ix (Zy f.tail) i=0\/ix (Zy f.tail) i=1:=by
 obtain⟨rest,e,h1,h2,h3,h4,h5⟩:=jbi h
 subst e
 have hl:(rest.length:Int)=n:=by
  rw[beq_iff_eq,List.length_cons]at h1;omega
 refine⟨⟨?_,h4,by unfold Zy;rw[List.length_map];exact hl⟩,h2,fun i hi h0 hin=>?_⟩
 ·rw[<-mM];show _=Lib.join (kw::(Zy rest).map wR) [32];rw[h3]
 ·have:=jhi (h5 i hi h0)
  show ix (Zy rest) i=0\/ix (Zy rest) i=1
  unfold Zy
  rw[jjv _ _ _ ⟨h0,by omega⟩]
  exact this
theorem Xo {k:List UInt8}{rest:List (List UInt8)}{n:Int}(h:(wY (k::rest) n).2=0):Rd (k::rest) k n (wY (k::rest) n).1:=by
 have q:=jco (bl:=[]) h
 have e:(wY (k::rest) n).1=Zy rest:=q.2.1
 rw[e];exact q.1
section
variable {N:Nat} {x:jo} {sec:Int}
theorem VO (h:1<=sec):AL sec x=vd x:=if_neg (by omega)
def jam (N:Nat)(x:jo)(sec:Int)(f:List (List UInt8)):Prop:=∃y s ok,jaG x sec f=some (y,s,ok)/\(ok=true->jeY (N+1) y s/\s≠0/\AL s y=AL sec x++[Lib.join f [32]])
theorem uF {f:List (List UInt8)}{c:Bool}{y:jo}{s:Int}(h:jaG x sec f=some (if c=true then(y,s,true)else(x,sec,false)))(hc:c=true->jeY (N+1) y s/\s≠0/\AL s y=AL sec x++[Lib.join f [32]]):jam N x sec f:=by
 cases c with
 |true=>exact⟨y,s,true,h,fun _=>hc rfl⟩
 |false=>exact⟨x,sec,false,h,by simp⟩
variable (I:jeY N x sec) (hN:N<=900)
include I hN
theorem jd6 {rest:List (List UInt8)}(hf:(Qg::rest).length<=20001)(hs:∀s∈Qg::rest,Sm s):jam N x sec (Qg::rest):=by
 have hi:=Zd (Qg::rest) 7 (by omega) hs (by simp) (by omega)
 refine uF (c:=(wY (Qg::rest) 7).2==0&&Yw sec 1) (y:=JU (wY (Qg::rest) 7).1) (s:=1) ?_ ?_
 ·show Rx.Bind (jZ (Qg::rest) 7) _=_
  rw[hi,jb]
  refine if_pos fun h=>?_
  have:=(Xo (by simpa using h)).len
  dsimp only;omega
 ·intro h
  rw[Bool.and_eq_true,beq_iff_eq]at h
  have R:=Xo h.1
  have h0:=ent1 h.2
  subst h0
  generalize (wY (Qg::rest) 7).1=l at R⊢
  have hw:=Mg (l:=l) (by have:=R.len;omega)
  refine⟨⟨by decide,by simp[JU],by simp[JU],by simp[JU],by simp[JU],by simp[JU],by simp[JU],by simp[JU],fun _=>rfl,fun _=>rfl,fun _=>rfl,fun _=>rfl,by simp,by simp,⟨by rw[hw];exact R.i64,by simp[JU],by simp[JU],by simp[JU],by simp[JU],by simp[JU],by simp[JU]⟩⟩,by decide,?_⟩
  rw[R.txt,VO (by decide)]
  unfold vd
  rw[hw]
  rfl
theorem jfp {rest:List (List UInt8)}(hf:(ZC::rest).length<=20001)(hs:∀s∈ZC::rest,Sm s):jam N x sec (ZC::rest):=by
 have hi:=(Ma (ZC::rest) (by omega) hs).1
 refine uF (c:=(mg (ZC::rest)).2==0&&Yw sec 2) (y:={x with ji:=x.ji++[(mg (ZC::rest)).1]}) (s:=2) ?_ ?_
 ·show Rx.Bind (Ym (ZC::rest)) _=_
  rw[hi,jb]
  exact if_pos ⟨jf1 _,by have:=I.nb;omega⟩
 ·intro h
  rw[Bool.and_eq_true,beq_iff_eq]at h
  obtain⟨h1,h2⟩:=ent h.2 I.s0 (by decide)
  have hc:=h.1
  unfold mg at hc⊢
  by_cases hl:(line (ZC::rest) ZC (((ZC::rest).length:Int) - 1==19) bl1).2=0
  ·obtain⟨R,-,hb⟩:=jco hl
   rw[if_neg (by simpa using hl)]
   dsimp only[List.tail_cons]at R hb⊢
   generalize Zy rest=l at R hb
   have hw:=jbN (l:=l) (by have:=R.len;omega) fun i hi=>hb i hi (by revert i;decide) (by revert i;decide)
   have e3:=I.e3 (by omega)
   have e4:=I.e4 (by omega)
   have e5:=I.e5 (by omega)
   refine⟨⟨by decide,?_,Nat.le_succ_of_le I.nj,Nat.le_succ_of_le I.nc,Nat.le_succ_of_le I.no,?_,fun c hc=>Nat.le_succ_of_le (I.pt c hc),?_,by simp,fun _=>e3,fun _=>e4,fun _=>e5,by simp,by simp,⟨I.ai.hw,?_,?_,I.ai.hj,I.ai.hc,I.ai.hd,I.ai.hk⟩⟩,by decide,?_⟩
   ·have:=I.nb;simp;omega
   ·intro b hb
    rcases List.mem_append.1 hb with hb|hb
    ·exact Nat.le_succ_of_le (I.fx b hb)
    ·simp at hb;subst hb;exact Nat.zero_le _
   ·intro b hb
    rcases List.mem_append.1 hb with hb|hb
    ·exact I.vx b hb
    ·simp at hb;subst hb;intro f hf;cases hf
   ·intro b hb
    rcases List.mem_append.1 hb with hb|hb
    ·exact I.ai.hb b hb
    ·simp at hb;subst hb;rw[hw];exact R.i64
   ·intro b hb
    rcases List.mem_append.1 hb with hb|hb
    ·exact I.ai.hf b hb
    ·simp at hb;subst hb;intro f hf;cases hf
   ·rw[R.txt,VO (by decide),VO h1]
    unfold vd
    dsimp only
    rw[e3,e4,e5,List.flatMap_append]
    simp only[List.map_nil,List.flatMap_nil,List.append_nil,List.cons_append,List.flatMap_cons]
    refine congrArg (fun z=>uh Qg (jaA x)::(x.ji.flatMap Pv++z)) ?_
    unfold Pv
    rw[hw];rfl
  ·rw[if_pos hl]at hc
   exact absurd hc hl
theorem jd8 {rest:List (List UInt8)}(hf:(qi::rest).length<=20001)(hs:∀s∈qi::rest,Sm s):jam N x sec (qi::rest):=by
 have hi:=(Pd (qi::rest) (by omega) hs).1
 refine uF (c:=(Xn (qi::rest)).2==0&&Yw sec 3) (y:={x with jP:=x.jP++[(Xn (qi::rest)).1]}) (s:=3) ?_ ?_
 ·show Rx.Bind (Yt (qi::rest)) _=_
  rw[hi,jb]
  exact if_pos (by have:=I.nj;omega)
 ·intro h
  rw[Bool.and_eq_true,beq_iff_eq]at h
  obtain⟨h1,h2⟩:=ent h.2 I.s0 (by decide)
  have hc:=h.1
  unfold Xn at hc⊢
  by_cases hl:(line (qi::rest) qi (((qi::rest).length:Int) - 1==24) bl3).2=0
  ·obtain⟨R,-,hb⟩:=jco hl
   rw[if_neg (by simpa using hl)]
   dsimp only[List.tail_cons]at R hb⊢
   generalize Zy rest=l at R hb
   have hw:=MU (l:=l) (by have:=R.len;omega) fun i hi=>hb i hi (by revert i;decide) (by revert i;decide)
   have e4:=I.e4 (by omega)
   have e5:=I.e5 (by omega)
   refine⟨⟨by decide,Nat.le_succ_of_le I.nb,?_,Nat.le_succ_of_le I.nc,Nat.le_succ_of_le I.no,fun b hb=>Nat.le_succ_of_le (I.fx b hb),fun c hc=>Nat.le_succ_of_le (I.pt c hc),I.vx,by simp,by simp,fun _=>e4,fun _=>e5,by simp,by simp,⟨I.ai.hw,I.ai.hb,I.ai.hf,?_,I.ai.hc,I.ai.hd,I.ai.hk⟩⟩,by decide,?_⟩
   ·have:=I.nj;simp;omega
   ·intro b hb
    rcases List.mem_append.1 hb with hb|hb
    ·exact I.ai.hj b hb
    ·simp at hb;subst hb;rw[hw];exact R.i64
   ·rw[R.txt,VO (by decide),VO h1]
    unfold vd
    dsimp only
    rw[e4,e5,List.map_append]
    simp only[List.map_nil,List.flatMap_nil,List.append_nil,List.cons_append,List.map_cons,hw,List.append_assoc]
    rfl
  ·rw[if_pos hl]at hc
   exact absurd hc hl
theorem jhR {rest:List (List UInt8)}(hf:(vK::rest).length<=20001)(hs:∀s∈vK::rest,Sm s):jam N x sec (vK::rest):=by
 have hi:=(jbz (vK::rest) (by omega) hs).1
 by_cases h2:sec=2
 ·subst h2
  have hne:=I.n2 rfl
  have hl:=List.getLast?_eq_some_getLast hne
  have hsp:=(List.dropLast_concat_getLast hne).symm
  generalize x.ji.getLast hne=last at hl hsp
  generalize x.ji.dropLast=init at hsp
  have hml:last∈x.ji:=by rw[hsp];simp
  have hmi:∀b∈init,b∈x.ji:=fun b hb=>by rw[hsp];exact List.mem_append_left _ hb
  have hnb:init.length+1<=N:=by have:=I.nb;rw[hsp]at this;simpa using this
  refine uF (c:=(XI (vK::rest)).2==0) (y:={x with ji:=init++[{last with jf:=last.jf++[(XI (vK::rest)).1]}]}) (s:=2) ?_ ?_
  ·show Rx.Bind (ye (vK::rest)) _=_
   rw[hi,jb]
   refine(if_pos rfl).trans ?_
   have:MT x.ji (XI (vK::rest)).1=some (init++[{last with jf:=last.jf++[(XI (vK::rest)).1]}]):=by
    unfold MT
    rw[hl]
    dsimp only
    rw[if_pos ⟨by have:=I.nb;omega,by have:=I.fx last hml;omega⟩,hsp,List.dropLast_concat]
   rw[this,jb]
  ·intro h
   rw[beq_iff_eq]at h
   unfold XI at h⊢
   by_cases hl:(line (vK::rest) vK (uO (vK::rest)) [3]).2=0
   ·obtain⟨rest',e,q1,q2,q3,q4,q5⟩:=jbi hl
    obtain rfl:rest=rest':=(List.cons.inj e).2
    rw[if_neg (by simpa using hl)]
    have hlen:(Zy rest).length=rest.length:=by unfold Zy;rw[List.length_map]
    have hok:=q1
    unfold uO at hok
    simp only[Bool.and_eq_true,decide_eq_true_eq,beq_iff_eq,List.length_cons]at hok
    have htx:Lib.join (vK::rest) [32]=uh vK (Zy rest):=by rw[<-mM,q3]
    have h3:ix (Zy rest) 3=0\/ix (Zy rest) 3=1:=by
     have:=jhi (q5 3 (by simp) (by decide))
     unfold Zy
     rw[jjv _ _ _ ⟨by decide,by omega⟩]
     exact this
    dsimp only[List.tail_cons]
    have hlf:rest.length<=20000:=by simp at hf;omega
    generalize Zy rest=l at q4 hlen htx h3
    have hodd:(l.length - 9) % 2=0:=by
     have h1:=hok.2
     have e1:((rest.length:Int)+1 - 1)=(rest.length:Int):=by omega
     rw[show((rest.length+1:Nat):Int) - 1=(rest.length:Int) by omega,Int.tmod_eq_emod_of_nonneg (by omega)]at h1
     omega
    have hw:=jcI (l:=l) (by omega) hodd h3
    have e3:=I.e3 (by decide)
    have e4:=I.e4 (by decide)
    have e5:=I.e5 (by decide)
    have hi64:∀n∈l,I64 n:=fun n hn=>(q4 n hn).i64
    refine⟨⟨by decide,?_,Nat.le_succ_of_le I.nj,Nat.le_succ_of_le I.nc,Nat.le_succ_of_le I.no,?_,fun c hc=>Nat.le_succ_of_le (I.pt c hc),?_,by simp,fun _=>e3,fun _=>e4,fun _=>e5,by simp,by simp,⟨I.ai.hw,?_,?_,I.ai.hj,I.ai.hc,I.ai.hd,I.ai.hk⟩⟩,by decide,?_⟩
    ·simp;omega
    ·intro b hb
     rcases List.mem_append.1 hb with hb|hb
     ·exact Nat.le_succ_of_le (I.fx b (hmi b hb))
     ·simp at hb;subst hb
      have:=I.fx last hml
      simp;omega
    ·intro b hb
     rcases List.mem_append.1 hb with hb|hb
     ·exact I.vx b (hmi b hb)
     ·simp at hb;subst hb
      intro f hf
      rcases List.mem_append.1 hf with hf|hf
      ·exact I.vx last hml f hf
      ·simp at hf;subst hf
       show(xu (l.drop 9)).length<=_
       have:=mG (l.drop 9)
       rw[List.length_drop]at this
       omega
    ·intro b hb
     rcases List.mem_append.1 hb with hb|hb
     ·exact I.ai.hb b (hmi b hb)
     ·simp at hb;subst hb;exact I.ai.hb last hml
    ·intro b hb
     rcases List.mem_append.1 hb with hb|hb
     ·exact I.ai.hf b (hmi b hb)
     ·simp at hb;subst hb
      intro f hf
      rcases List.mem_append.1 hf with hf|hf
      ·exact I.ai.hf last hml f hf
      ·simp at hf;subst hf;rw[hw];exact hi64
    ·rw[htx,VO (by decide),VO (by decide)]
     unfold vd
     dsimp only
     rw[e3,e4,e5,hsp,List.flatMap_append,List.flatMap_append]
     simp only[List.map_nil,List.flatMap_nil,List.append_nil,List.cons_append,List.flatMap_cons,List.append_assoc]
     refine congrArg (fun z=>uh Qg (jaA x)::(init.flatMap Pv++z)) ?_
     unfold Pv
     dsimp only
     rw[List.map_append,List.map_cons,hw]
     rfl
   ·rw[if_pos hl]at h
    exact absurd h hl
 ·refine⟨x,sec,false,?_,by simp⟩
  show Rx.Bind (ye (vK::rest)) _=_
  rw[hi,jb]
  exact if_neg h2
theorem jaF {rest:List (List UInt8)}(hf:(yH::rest).length<=20001)(hs:∀s∈yH::rest,Sm s):jam N x sec (yH::rest):=by
 have hi:=Zd (yH::rest) 6 (by omega) hs (by simp) (by omega)
 refine uF (c:=(wY (yH::rest) 6).2==0&&Yw sec 4) (y:={x with jc:=x.jc++[Qv (wY (yH::rest) 6).1]}) (s:=4) ?_ ?_
 ·show Rx.Bind (jZ (yH::rest) 6) _=_
  rw[hi,jb]
  refine if_pos ⟨fun h=>?_,by have:=I.nc;omega⟩
  have:=(Xo (by simpa using h)).len
  dsimp only;omega
 ·intro h
  rw[Bool.and_eq_true,beq_iff_eq]at h
  have R:=Xo h.1
  obtain⟨h1,h2⟩:=ent h.2 I.s0 (by decide)
  generalize (wY (yH::rest) 6).1=l at R⊢
  have hw:=Pq (l:=l) (by have:=R.len;omega)
  have e5:=I.e5 (by omega)
  refine⟨⟨by decide,Nat.le_succ_of_le I.nb,Nat.le_succ_of_le I.nj,?_,Nat.le_succ_of_le I.no,fun b hb=>Nat.le_succ_of_le (I.fx b hb),?_,I.vx,by simp,by simp,by simp,fun _=>e5,by simp,by simp,⟨I.ai.hw,I.ai.hb,I.ai.hf,I.ai.hj,?_,?_,I.ai.hk⟩⟩,by decide,?_⟩
  ·have:=I.nc;simp;omega
  ·intro b hb
   rcases List.mem_append.1 hb with hb|hb
   ·exact Nat.le_succ_of_le (I.pt b hb)
   ·simp at hb;subst hb;exact Nat.zero_le _
  ·intro b hb
   rcases List.mem_append.1 hb with hb|hb
   ·exact I.ai.hc b hb
   ·simp at hb;subst hb;rw[hw];exact R.i64
  ·intro b hb
   rcases List.mem_append.1 hb with hb|hb
   ·exact I.ai.hd b hb
   ·simp at hb;subst hb;intro f hf;cases hf
  ·rw[R.txt,VO (by decide),VO h1]
   unfold vd
   dsimp only
   rw[e5,List.flatMap_append]
   simp only[List.map_nil,List.flatMap_nil,List.append_nil,List.cons_append,List.flatMap_cons,List.append_assoc]
   refine congrArg (fun z=>uh Qg (jaA x)::(x.ji.flatMap Pv++(x.jP.map (fun j=>uh qi (jgv j))++(x.jc.flatMap jbK++z)))) ?_
   unfold jbK
   rw[hw];rfl
theorem jd7 {rest:List (List UInt8)}(hf:(YO::rest).length<=20001)(hs:∀s∈YO::rest,Sm s):jam N x sec (YO::rest):=by
 have hi:=Zd (YO::rest) 6 (by omega) hs (by simp) (by omega)
 have hg:((wY (YO::rest) 6).2==0)=true->(wY (YO::rest) 6).1.length=6:=fun h=>by
  have:=(Xo (by simpa using h)).len
  omega
 by_cases h2:sec=4
 ·subst h2
  have hne:=I.n4 rfl
  have hl:=List.getLast?_eq_some_getLast hne
  have hsp:=(List.dropLast_concat_getLast hne).symm
  generalize x.jc.getLast hne=last at hl hsp
  generalize x.jc.dropLast=init at hsp
  have hml:last∈x.jc:=by rw[hsp];simp
  have hmi:∀b∈init,b∈x.jc:=fun b hb=>by rw[hsp];exact List.mem_append_left _ hb
  have hnb:init.length+1<=N:=by have:=I.nc;rw[hsp]at this;simpa using this
  refine uF (c:=(wY (YO::rest) 6).2==0) (y:={x with jc:=init++[{last with jt:={last.jt with jY:=last.jt.jY++[kv (wY (YO::rest) 6).1]}}]}) (s:=4) ?_ ?_
  ·show Rx.Bind (jZ (YO::rest) 6) _=_
   rw[hi,jb]
   refine(if_pos hg).trans ?_
   refine(if_pos rfl).trans ?_
   have:MS x.jc (kv (wY (YO::rest) 6).1)=some (init++[{last with jt:={last.jt with jY:=last.jt.jY++[kv (wY (YO::rest) 6).1]}}]):=by
    unfold MS
    rw[hl]
    dsimp only
    rw[if_pos ⟨by have:=I.nc;omega,by have:=I.pt last hml;omega⟩,hsp,List.dropLast_concat]
   rw[this,jb]
  ·intro h
   rw[beq_iff_eq]at h
   have R:=Xo h
   generalize (wY (YO::rest) 6).1=l at R⊢
   have hw:=jaf (l:=l) (by have:=R.len;omega)
   have e5:=I.e5 (by decide)
   refine⟨⟨by decide,Nat.le_succ_of_le I.nb,Nat.le_succ_of_le I.nj,?_,Nat.le_succ_of_le I.no,fun b hb=>Nat.le_succ_of_le (I.fx b hb),?_,I.vx,by simp,by simp,by simp,fun _=>e5,by simp,by simp,⟨I.ai.hw,I.ai.hb,I.ai.hf,I.ai.hj,?_,?_,I.ai.hk⟩⟩,by decide,?_⟩
   ·simp;omega
   ·intro b hb
    rcases List.mem_append.1 hb with hb|hb
    ·exact Nat.le_succ_of_le (I.pt b (hmi b hb))
    ·simp at hb;subst hb
     have:=I.pt last hml
     simp;omega
   ·intro b hb
    rcases List.mem_append.1 hb with hb|hb
    ·exact I.ai.hc b (hmi b hb)
    ·simp at hb;subst hb;exact I.ai.hc last hml
   ·intro b hb
    rcases List.mem_append.1 hb with hb|hb
    ·exact I.ai.hd b (hmi b hb)
    ·simp at hb;subst hb
     intro f hf
     rcases List.mem_append.1 hf with hf|hf
     ·exact I.ai.hd last hml f hf
     ·simp at hf;subst hf;rw[hw];exact R.i64
   ·rw[R.txt,VO (by decide),VO (by decide)]
    unfold vd
    dsimp only
    rw[e5,hsp,List.flatMap_append,List.flatMap_append]
    simp only[List.map_nil,List.flatMap_nil,List.append_nil,List.cons_append,List.flatMap_cons,List.append_assoc]
    refine congrArg (fun z=>uh Qg (jaA x)::(x.ji.flatMap Pv++(x.jP.map (fun j=>uh qi (jgv j))++(init.flatMap jbK++z)))) ?_
    unfold jbK
    dsimp only
    rw[List.map_append,List.map_cons,hw]
    rfl
 ·refine⟨x,sec,false,?_,by simp⟩
  show Rx.Bind (jZ (YO::rest) 6) _=_
  rw[hi,jb]
  exact(if_pos hg).trans (if_neg h2)
theorem jaE {rest:List (List UInt8)}(hf:(Yb::rest).length<=20001)(hs:∀s∈Yb::rest,Sm s):jam N x sec (Yb::rest):=by
 have hi:=Zd (Yb::rest) 4 (by omega) hs (by simp) (by omega)
 refine uF (c:=(wY (Yb::rest) 4).2==0&&Yw sec 5) (y:={x with Overlaps:=x.Overlaps++[keyOf (wY (Yb::rest) 4).1]}) (s:=5) ?_ ?_
 ·show Rx.Bind (jZ (Yb::rest) 4) _=_
  rw[hi,jb]
  refine if_pos ⟨fun h=>?_,by have:=I.no;omega⟩
  have:=(Xo (by simpa using h)).len
  dsimp only;omega
 ·intro h
  rw[Bool.and_eq_true,beq_iff_eq]at h
  have R:=Xo h.1
  obtain⟨h1,h2⟩:=ent h.2 I.s0 (by decide)
  generalize (wY (Yb::rest) 4).1=l at R⊢
  have hw:=jcy (l:=l) (by have:=R.len;omega)
  refine⟨⟨by decide,Nat.le_succ_of_le I.nb,Nat.le_succ_of_le I.nj,Nat.le_succ_of_le I.nc,?_,fun b hb=>Nat.le_succ_of_le (I.fx b hb),fun c hc=>Nat.le_succ_of_le (I.pt c hc),I.vx,by simp,by simp,by simp,by simp,by simp,by simp,⟨I.ai.hw,I.ai.hb,I.ai.hf,I.ai.hj,I.ai.hc,I.ai.hd,?_⟩⟩,by decide,?_⟩
  ·have:=I.no;simp;omega
  ·intro b hb
   rcases List.mem_append.1 hb with hb|hb
   ·exact I.ai.hk b hb
   ·simp at hb;subst hb;rw[hw];exact R.i64
  ·rw[R.txt,VO (by decide),VO h1]
   unfold vd
   dsimp only
   rw[List.map_append]
   simp only[List.map_nil,List.flatMap_nil,List.append_nil,List.cons_append,List.map_cons,List.append_assoc,hw]
   rfl
theorem jc8 {f:List (List UInt8)}(hf:f.length<=20001)(hs:∀s∈f,Sm s):jam N x sec f:=by
 cases f with
 |nil=>exact⟨x,sec,false,rfl,by simp⟩
 |cons k rest=>
  by_cases k1:k=Qg
  ·subst k1;exact jd6 I hN hf hs
  by_cases k2:k=ZC
  ·subst k2;exact jfp I hN hf hs
  by_cases k3:k=vK
  ·subst k3;exact jhR I hN hf hs
  by_cases k4:k=qi
  ·subst k4;exact jd8 I hN hf hs
  by_cases k5:k=yH
  ·subst k5;exact jaF I hN hf hs
  by_cases k6:k=YO
  ·subst k6;exact jd7 I hN hf hs
  by_cases k7:k=Yb
  ·subst k7;exact jaE I hN hf hs
  refine⟨x,sec,false,?_,by simp⟩
  exact(if_neg k1).trans ((if_neg k2).trans ((if_neg k3).trans ((if_neg k4).trans ((if_neg k5).trans ((if_neg k6).trans (if_neg k7))))))
end
theorem jgu:∀(r:List (List UInt8)) (x:List UInt8),Lib.join (x::r) [32]++[32]=flat 32 (x::r):=by
 intro r
 induction r with
 |nil=>intro x;rw[Lib.join_cons,KC];simp[Lib.joinTail,flat]
 |cons y r ih=>
  intro x
  have h:=ih y
  rw[Lib.join_cons]at h
  rw[Lib.join_cons,Uy,KC,<-h]
  simp
theorem jit (l:List UInt8):Lib.join (spl 32 l) [32]=l:=by
 have h:=XZ 32 l
 cases hs:spl 32 l with
 |nil=>exact absurd hs (Xh 32 l)
 |cons x r=>
  rw[hs,<-jgu]at h
  exact List.append_cancel_right h
theorem spl_sm (l:List UInt8):∀p∈spl 32 l,p.length<=l.length:=by
 intro p hp
 have h:=congrArg List.length (XZ 32 l)
 obtain⟨a,b,e⟩:=List.append_of_mem hp
 rw[e,jdE,KC]at h
 simp at h
 omega
def MY (l:List UInt8):List (List UInt8):=if(ky l).2=0 then(ky l).1 else[]
theorem jbx {l:List UInt8}(h:l.length<=20000):(MY l).length<=20001/\(∀s∈MY l,Sm s)/\(MY l≠[]->Lib.join (MY l) [32]=l):=by
 unfold MY ky
 by_cases h0:l=[]
 ·rw[if_pos h0];simp
 ·rw[if_neg h0]
  by_cases h1:(spl 32 l).all jdy=true
  ·rw[if_pos h1,if_pos rfl]
   refine⟨?_,fun s hs=>vk (Nat.le_trans (spl_sm l s hs) h) (by decide),fun _=>jit l⟩
   rw[UU]
   have:=List.count_le_length (a:=(32:UInt8)) (l:=l)
   omega
  ·rw[if_neg h1,if_neg (by decide)];simp
theorem mL:∀(ls:List (List UInt8)) (N:Nat) (x:jo) (sec:Int) (i:Nat),jeY N x sec->N+ls.length<=900->(∀l∈ls,l.length<=20000)->
 ∃y n,vU ls i x sec=some (y,n)/\0<=n/\(n=0->∃s,jeY (N+ls.length) y s/\s≠0/\AL s y=AL sec x++ls)
 | [],N,x,sec,i,I,_,_=>by
   unfold vU
   by_cases h:sec=0
   ·rw[if_pos h]
    exact⟨_,_,rfl,by omega,fun h=>by omega⟩
   ·rw[if_neg h]
    exact⟨_,_,rfl,by decide,fun _=>⟨sec,I,h,by simp⟩⟩
 |l :: ls,N,x,sec,i,I,hN,hl=>by
  rw[List.length_cons]at hN
  have h1:=hl l (by simp)
  obtain⟨f1,f2,f3⟩:=jbx h1
  obtain⟨y,s,ok,hs,hok⟩:=jc8 I (by omega) f1 f2
  have e:vU (l::ls) i x sec=if ok=true then vU ls (i+1) y s else some (noW,(i:Int)+1):=by
   show Rx.Bind (zu l) _=_
   rw[jbW l (by omega),jb]
   refine Eq.trans (wN hs) ?_
   rfl
  rw[e]
  cases ok with
  |false=>exact⟨_,_,rfl,by omega,fun h=>by omega⟩
  |true=>
   obtain⟨I2,q1,q2⟩:=hok rfl
   obtain⟨y2,n,e2,h0,hy⟩:=mL ls (N+1) y s (i+1) I2 (by omega) fun l h=>hl l (List.mem_cons_of_mem _ h)
   refine⟨y2,n,e2,h0,fun hn=>?_⟩
   obtain⟨s2,r1,r2,r3⟩:=hy hn
   refine⟨s2,by rw[List.length_cons,show N+(ls.length+1)=N+1+ls.length by omega];exact r1,r2,?_⟩
   have hne:MY l≠[]:=by
    intro h
    rw[h]at hs
    cases hs
   rw[r3,q2,f3 hne,List.append_assoc];rfl
theorem jeY.few {N:Nat}{x:jo}{s:Int}(I:jeY N x s)(hN:N<=900):Few x:=
 ⟨by have:=I.nb;omega,by have:=I.nj;omega,by have:=I.nc;omega,by have:=I.no;omega,fun c hc=>by have:=I.pt c hc;omega,fun b hb=>by have:=I.fx b hb;omega,I.vx⟩
theorem UW (s:List UInt8)(hs:s.length<=9223372036854775807)(step:(Int × Int->Option Bool)->Int × Int->Option Bool)
 (h1:∀(r:Int × Int->Option Bool) (n i:Nat),i<s.length->n<=i->IntKind.i64.wrap ((i:Int)+1)=(i:Int)+1->IntKind.i64.wrap ((n:Int)+1)=(n:Int)+1->step r ((n:Int),(i:Int))=r ((if(ix s (i:Int)==toByte 10)=true then(n:Int)+1 else(n:Int)),(i:Int)+1))
 (h2:∀(r:Int × Int->Option Bool) (n:Nat),step r ((n:Int),(s.length:Int))=some (decide ((s.length:Int)<=20000)&&decide ((n:Int)<=200))):
 ∀(k i n fu:Nat),k=s.length - i->i<=s.length->n<=i->k<fu->Yg step fu ((n:Int),(i:Int))=some (decide ((s.length:Int)<=20000)&&decide (((n+(s.drop i).count 10:Nat):Int)<=200))
 |k,i,n,0,_,_,_,h=>by omega
 |k,i,n,fu+1,hk,hi,hn,hf=>by
  rw[kY]
  by_cases he:i=s.length
  ·subst he
   rw[h2,List.drop_length];rfl
  ·have hlt:i<s.length:=by omega
   have e1:IntKind.i64.min = -9223372036854775808:=by decide
   have e2:IntKind.i64.max=9223372036854775807:=by decide
   have hd:s.drop i=ix s (i:Int)::s.drop (i+1):=by rw[ml s i hlt];exact List.drop_eq_getElem_cons hlt
   rw[h1 _ _ _ hlt hn (Yh _ (by omega) (by omega)) (Yh _ (by omega) (by omega)),hd,List.count_cons]
   have e10:toByte 10=(10:UInt8):=by decide
   rw[e10]
   by_cases hc:(ix s (i:Int)==(10:UInt8))=true
   ·rw[if_pos hc,if_pos hc]
    have:=UW s hs step h1 h2 (k - 1) (i+1) (n+1) fu (by omega) (by omega) (by omega) (by omega)
    have e3:(((n+1:Nat):Int),((i+1:Nat):Int))=((n:Int)+1,(i:Int)+1):=by simp
    rw[e3]at this
    rw[this,show n+1+(s.drop (i+1)).count 10=n+((s.drop (i+1)).count 10+1) by omega]
   ·rw[if_neg hc,if_neg hc]
    have:=UW s hs step h1 h2 (k - 1) (i+1) n fu (by omega) (by omega) (by omega) (by omega)
    have e3:((n:Int),((i+1:Nat):Int))=((n:Int),(i:Int)+1):=by simp
    rw[e3]at this
    rw[this];rfl
theorem jhT (s:List UInt8)(hs:s.length<=9223372036854775807):ZV s=some (decide ((s.length:Int)<=20000)&&decide (((s.count 10:Nat):Int)<=200)):=by
 unfold ZV
 refine(UW s hs _ ?_ ?_ s.length 0 0 fuel (by omega) (by omega) (by omega) (Nat.lt_of_le_of_lt hs (by unfold fuel;decide))).trans ?_
 ·intro r n i hi hn w1 w2
  have hc:(0:Int)<=(i:Int)/\(i:Int)<(s.length:Int):=by omega
  simp only[jj,dlt hc,if_true,jI,ju hc,w1,w2]
  split <;> rfl
 ·intro r n
  simp only[jj,dll,ff,if_false,jr]
 ·rw[List.drop_zero,Nat.zero_add]
def xB (l:List UInt8):Prop:=l=[]\/l=Qg\/l=ZC\/l=vK\/l=qi\/l=yH\/l=YO\/l=Yb
def je1 (l:List UInt8):Int:=if l=[]then 0 else if l=Qg then 1 else if l=ZC\/l=vK then 2 else if l=qi then 3 else if l=yH\/l=YO then 4 else 5
theorem jiY {l}(h:xB l):jU l Qg=some (Yw (je1 l) 1):=by rcases h with rfl|rfl|rfl|rfl|rfl|rfl|rfl|rfl <;> kernel_rfl
theorem jlE {l}(h:xB l):jU l ZC=some (Yw (je1 l) 2):=by rcases h with rfl|rfl|rfl|rfl|rfl|rfl|rfl|rfl <;> kernel_rfl
theorem al_fix {l}(h:xB l):jU l vK=some (je1 l==2):=by rcases h with rfl|rfl|rfl|rfl|rfl|rfl|rfl|rfl <;> kernel_rfl
theorem ji1 {l}(h:xB l):jU l qi=some (Yw (je1 l) 3):=by rcases h with rfl|rfl|rfl|rfl|rfl|rfl|rfl|rfl <;> kernel_rfl
theorem jeV {l}(h:xB l):jU l yH=some (Yw (je1 l) 4):=by rcases h with rfl|rfl|rfl|rfl|rfl|rfl|rfl|rfl <;> kernel_rfl
theorem jiZ {l}(h:xB l):jU l YO=some (je1 l==4):=by rcases h with rfl|rfl|rfl|rfl|rfl|rfl|rfl|rfl <;> kernel_rfl
theorem jeU {l}(h:xB l):jU l Yb=some (Yw (je1 l) 5):=by rcases h with rfl|rfl|rfl|rfl|rfl|rfl|rfl|rfl <;> kernel_rfl
theorem nbq {k l:List UInt8}(h:k≠l):(k==l)=false:=by rw[beq_eq_false_iff_ne];exact h
theorem jfw {k:List UInt8}(k1:k≠Qg)(k2:k≠ZC)(k3:k≠vK)(k4:k≠qi)(k5:k≠yH)(k6:k≠YO)(k7:k≠Yb):qk k=some (-1):=by
 have q1:=nbq k1
 have q2:=nbq k2
 have q3:=nbq k3
 have q4:=nbq k4
 have q5:=nbq k5
 have q6:=nbq k6
 have q7:=nbq k7
 unfold Qg at q1
 unfold ZC at q2
 unfold vK at q3
 unfold qi at q4
 unfold yH at q5
 unfold YO at q6
 unfold Yb at q7
 unfold qk
 simp only[jj,jI,q1,q2,q3,q4,q5,q6,q7,Bool.false_eq_true,if_false]
theorem ji0 {l k:List UInt8}(h:xB l)(k1:k≠Qg)(k2:k≠ZC)(k3:k≠vK)(k4:k≠qi)(k5:k≠yH)(k6:k≠YO)(k7:k≠Yb):jU l k=some false:=by
 have hs:=jfw k1 k2 k3 k4 k5 k6 k7
 have q1:=nbq k1
 have q3:=nbq k3
 have q6:=nbq k6
 unfold Qg at q1
 unfold vK at q3
 unfold YO at q6
 unfold jU
 simp only[jj,q1,q3,q6,hs,Bool.false_eq_true,if_false,jb]
 rcases h with rfl|rfl|rfl|rfl|rfl|rfl|rfl|rfl <;> first|decide|(simp;done)
def RefR (x:jo)(last:List UInt8)(f:List (List UInt8))(y:jo)(s:Int)(ok:Bool):Prop:=
 (ok=true->∃kw rest,f=kw::rest/\jU last kw=some true/\uJ x f=some (y,true)/\s=je1 kw/\xB kw)/\
 (ok=false->f=[]\/∃kw rest,f=kw::rest/\(jU last kw=some false\/(jU last kw=some true/\∃z,uJ x f=some (z,false))))
theorem pH {x y z:jo}{last:List UInt8}{kw:List UInt8}{rest:List (List UInt8)}{s:Int}{c a b:Bool}(ha:jU last kw=some a)(hc:c=(b&&a))(hs:s=je1 kw)(hk:xB kw){sec:Int}
 (hr:a=true->(b=true->uJ x (kw::rest)=some (y,true))/\(b=false->uJ x (kw::rest)=some (z,false))) {y':jo} {s':Int} {ok:Bool} (h:(if c=true then(y,s,true)else(x,sec,false))=(y',s',ok)):RefR x last (kw::rest) y' s' ok:=by
 cases c with
 |true=>
  have hb:b=true/\a=true:=by simpa using hc.symm
  simp at h
  obtain⟨rfl,rfl,rfl⟩:=h
  exact⟨fun _=>⟨kw,rest,rfl,by rw[ha,hb.2],(hr hb.2).1 hb.1,hs,hk⟩,by simp⟩
 |false=>
  simp at h
  obtain⟨rfl,rfl,rfl⟩:=h
  refine⟨by simp,fun _=>.inr ⟨kw,rest,rfl,?_⟩⟩
  cases a with
  |false=>exact .inl ha
  |true=>
   have hb:b=false:=by simpa using hc.symm
   exact .inr ⟨ha,z,(hr rfl).2 hb⟩
section
variable {N:Nat} {x:jo} {sec:Int} {last:List UInt8} (I:jeY N x sec) (hN:N<=900) (hl:xB last) (he:sec=je1 last) (h0:sec=0->x=noW)
include I hN hl he h0
theorem XU {k:List UInt8}{rest:List (List UInt8)}{n:Int}(hf:(k::rest).length<=20001)(hs:∀s∈k::rest,Sm s)(hn:0<=n/\n<=1000):jB (k::rest) k n false []=some (wY (k::rest) n):=
 (WY (k::rest) k n [] (by omega) hs hn (by show _<_;decide) (by simp)).2
theorem jhQ {f:List (List UInt8)}(hf:f.length<=20001)(hs:∀s∈f,Sm s){y:jo}{s:Int}{ok:Bool}(h:jaG x sec f=some (y,s,ok)):RefR x last f y s ok:=by
 cases f with
 |nil=>
  cases h
  exact⟨by simp,fun _=>.inl rfl⟩
 |cons k rest=>
  by_cases k1:k=Qg
  ·subst k1
   have hi:=Zd (Qg::rest) 7 (by omega) hs (by simp) (by omega)
   have hr:=XU I hN hl he h0 (n:=7) hf hs (by omega)
   have h:Rx.Bind (jZ (Qg::rest) 7) _=_:=h
   rw[hi,jb]at h
   split at h
   ·rename_i g
    refine pH (b:=(wY (Qg::rest) 7).2==0) (z:=x) (jiY hl) (by rw[he]) rfl (.inr (.inl rfl)) (fun ha=>?_) (Option.some.inj h)
    have hx:=h0 (by rw[he];exact ent1 ha)
    have e:∀R,R=uJ x (Qg::rest)->R=Rx.Bind (jB (Qg::rest) Qg 7 false []) fun(r:List Int × Int)=>if r.2=0 then(if r.1.length=7 then some ({x with jH:=(JU r.1).jH,yM:=(JU r.1).yM,Frame:=(JU r.1).Frame},true)else none)else some (x,false):=fun R hR=>hR
    rw[e _ rfl,hr,jb]
    refine⟨fun hb=>?_,fun hb=>?_⟩
    ·have hb2:(wY (Qg::rest) 7).2=0:=by simpa using hb
     rw[if_pos hb2,if_pos (g hb),hx]
     rfl
    ·have hb2:¬ (wY (Qg::rest) 7).2=0:=by simpa using hb
     rw[if_neg hb2]
   ·cases h
  by_cases k2:k=ZC
  ·subst k2
   obtain⟨hi,hr⟩:=Ma (ZC::rest) (by omega) hs
   have h:Rx.Bind (Ym (ZC::rest)) _=_:=h
   rw[hi,jb]at h
   split at h
   ·rename_i g
    refine pH (b:=(mg (ZC::rest)).2==0) (z:={x with ji:=x.ji++[(mg (ZC::rest)).1]}) (jlE hl) (by rw[he]) rfl (.inr (.inr (.inl rfl))) (fun ha=>?_) (Option.some.inj h)
    have e:∀R,R=uJ x (ZC::rest)->R=Rx.Bind (ya (ZC::rest)) fun(r:Body × Int)=>if r.1.jf=[]/\x.ji.length<1048576 then some ({x with ji:=x.ji++[r.1]},r.2==0)else none:=fun R hR=>hR
    rw[e _ rfl,hr,jb,if_pos g]
    exact⟨fun hb=>by rw[hb],fun hb=>by rw[hb]⟩
   ·cases h
  by_cases k3:k=vK
  ·subst k3
   obtain⟨hi,hr⟩:=jbz (vK::rest) (by omega) hs
   have h:Rx.Bind (ye (vK::rest)) _=_:=h
   rw[hi,jb]at h
   have hal:=al_fix hl
   rw[<-he]at hal
   split at h
   ·rename_i g
    subst g
    obtain⟨l,e2,h⟩:=(show ∃l,MT x.ji (XI (vK::rest)).1=some l/\some (if((XI (vK::rest)).2==0)=true then({x with ji:=l},2,true)else(x,2,false))=some (y,s,ok) by
     cases hq:MT x.ji (XI (vK::rest)).1 with
     |none=>rw[hq]at h;cases h
     |some l=>rw[hq]at h;exact⟨l,rfl,h⟩)
    refine pH (a:=true) (b:=(XI (vK::rest)).2==0) (z:={x with ji:=l}) hal (by simp) rfl (.inr (.inr (.inr (.inl rfl)))) (fun ha=>?_) (Option.some.inj h)
    have e:∀R,R=uJ x (vK::rest)->R=Rx.Bind (JR (vK::rest)) fun(r:jT × Int)=>Rx.Bind (MT x.ji r.1) fun(l:List Body)=>some ({x with ji:=l},r.2==0):=fun R hR=>hR
    rw[e _ rfl,hr,jb,e2,jb]
    exact⟨fun hb=>by rw[hb],fun hb=>by rw[hb]⟩
   ·rename_i g
    cases h
    refine⟨by simp,fun _=>.inr ⟨vK,rest,rfl,.inl ?_⟩⟩
    rw[hal]
    simp[g]
  by_cases k4:k=qi
  ·subst k4
   obtain⟨hi,hr⟩:=Pd (qi::rest) (by omega) hs
   have h:Rx.Bind (Yt (qi::rest)) _=_:=h
   rw[hi,jb]at h
   split at h
   ·rename_i g
    refine pH (b:=(Xn (qi::rest)).2==0) (z:={x with jP:=x.jP++[(Xn (qi::rest)).1]}) (ji1 hl) (by rw[he]) rfl (.inr (.inr (.inr (.inr (.inl rfl))))) (fun ha=>?_) (Option.some.inj h)
    have e:∀R,R=uJ x (qi::rest)->R=Rx.Bind (yi (qi::rest)) fun(r:yP × Int)=>if x.jP.length<1048576 then some ({x with jP:=x.jP++[r.1]},r.2==0)else none:=fun R hR=>hR
    rw[e _ rfl,hr,jb,if_pos g]
    exact⟨fun hb=>by rw[hb],fun hb=>by rw[hb]⟩
   ·cases h
  by_cases k5:k=yH
  ·subst k5
   have hi:=Zd (yH::rest) 6 (by omega) hs (by simp) (by omega)
   have hr:=XU I hN hl he h0 (n:=6) hf hs (by omega)
   have h:Rx.Bind (jZ (yH::rest) 6) _=_:=h
   rw[hi,jb]at h
   split at h
   ·rename_i g
    refine pH (b:=(wY (yH::rest) 6).2==0) (z:=x) (jeV hl) (by rw[he]) rfl (.inr (.inr (.inr (.inr (.inr (.inl rfl)))))) (fun ha=>?_) (Option.some.inj h)
    have e:∀R,R=uJ x (yH::rest)->R=Rx.Bind (jB (yH::rest) yH 6 false []) fun(r:List Int × Int)=>if r.2=0 then(if r.1.length=6/\x.jc.length<1048576 then some ({x with jc:=x.jc++[Qv r.1]},true)else none)else some (x,false):=fun R hR=>hR
    rw[e _ rfl,hr,jb]
    refine⟨fun hb=>?_,fun hb=>?_⟩
    ·have hb2:(wY (yH::rest) 6).2=0:=by simpa using hb
     rw[if_pos hb2,if_pos ⟨g.1 hb,g.2⟩]
    ·have hb2:¬ (wY (yH::rest) 6).2=0:=by simpa using hb
     rw[if_neg hb2]
   ·cases h
  by_cases k6:k=YO
  ·subst k6
   have hi:=Zd (YO::rest) 6 (by omega) hs (by simp) (by omega)
   have hr:=XU I hN hl he h0 (n:=6) hf hs (by omega)
   have h:Rx.Bind (jZ (YO::rest) 6) _=_:=h
   rw[hi,jb]at h
   have hal:=jiZ hl
   rw[<-he]at hal
   split at h
   ·rename_i gl
    split at h
    ·rename_i g
     subst g
     obtain⟨l,e2,h⟩:=(show ∃l,MS x.jc (kv (wY (YO::rest) 6).1)=some l/\some (if((wY (YO::rest) 6).2==0)=true then({x with jc:=l},4,true)else(x,4,false))=some (y,s,ok) by
      cases hq:MS x.jc (kv (wY (YO::rest) 6).1)with
      |none=>rw[hq]at h;cases h
      |some l=>rw[hq]at h;exact⟨l,rfl,h⟩)
     refine pH (a:=true) (b:=(wY (YO::rest) 6).2==0) (z:=x) hal (by simp) rfl (.inr (.inr (.inr (.inr (.inr (.inr (.inl rfl))))))) (fun ha=>?_) (Option.some.inj h)
     have e:∀R,R=uJ x (YO::rest)->R=Rx.Bind (jB (YO::rest) YO 6 false []) fun(r:List Int × Int)=>if r.2=0 then(if r.1.length=6 then Rx.Bind (MS x.jc (kv r.1)) fun(l:List JL)=>some ({x with jc:=l},true)else none)else some (x,false):=fun R hR=>hR
     rw[e _ rfl,hr,jb]
     refine⟨fun hb=>?_,fun hb=>?_⟩
     ·have hb2:(wY (YO::rest) 6).2=0:=by simpa using hb
      rw[if_pos hb2,if_pos (gl hb),e2,jb]
     ·have hb2:¬ (wY (YO::rest) 6).2=0:=by simpa using hb
      rw[if_neg hb2]
    ·rename_i g
     cases h
     refine⟨by simp,fun _=>.inr ⟨YO,rest,rfl,.inl ?_⟩⟩
     rw[hal]
     simp[g]
   ·cases h
  by_cases k7:k=Yb
  ·subst k7
   have hi:=Zd (Yb::rest) 4 (by omega) hs (by simp) (by omega)
   have hr:=XU I hN hl he h0 (n:=4) hf hs (by omega)
   have h:Rx.Bind (jZ (Yb::rest) 4) _=_:=h
   rw[hi,jb]at h
   split at h
   ·rename_i g
    refine pH (b:=(wY (Yb::rest) 4).2==0) (z:=x) (jeU hl) (by rw[he]) rfl (.inr (.inr (.inr (.inr (.inr (.inr (.inr rfl))))))) (fun ha=>?_) (Option.some.inj h)
    have e:∀R,R=uJ x (Yb::rest)->R=Rx.Bind (jB (Yb::rest) Yb 4 false []) fun(r:List Int × Int)=>if r.2=0 then(if r.1.length=4/\x.Overlaps.length<1048576 then some ({x with Overlaps:=x.Overlaps++[keyOf r.1]},true)else none)else some (x,false):=fun R hR=>hR
    rw[e _ rfl,hr,jb]
    refine⟨fun hb=>?_,fun hb=>?_⟩
    ·have hb2:(wY (Yb::rest) 4).2=0:=by simpa using hb
     rw[if_pos hb2,if_pos ⟨g.1 hb,g.2⟩]
    ·have hb2:¬ (wY (Yb::rest) 4).2=0:=by simpa using hb
     rw[if_neg hb2]
   ·cases h
  have h2:jaG x sec (k::rest)=some (x,sec,false):=(if_neg k1).trans ((if_neg k2).trans ((if_neg k3).trans ((if_neg k4).trans ((if_neg k5).trans ((if_neg k6).trans (if_neg k7))))))
  rw[h2]at h
  cases h
  exact⟨by simp,fun _=>.inr ⟨k,rest,rfl,.inl (ji0 hl k1 k2 k3 k4 k5 k6 k7)⟩⟩
end
end GoForm
end
