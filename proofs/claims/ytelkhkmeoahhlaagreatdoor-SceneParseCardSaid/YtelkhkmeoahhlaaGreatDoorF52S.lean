/-
  Plain laws of numbers and fields as text. No conditions.
-/
import Derived.Test.YtelkhkmeoahhlaaGreatDoorF52D
import Derived.Test.YtelkhkmeoahhlaaGreatDoorQE
import Derived.Lib.DecodeN
import Derived.Test.YtelkhkmeoahhlaaGreatDoorQE
set_option linter.all false
set_option maxRecDepth 100000
open Go Go.Rx
namespace GoForm
def jhH (m:Nat):List UInt8:=if h:m<10 then[UInt8.ofNat (48+m)]else jhH (m / 10)++[UInt8.ofNat (48+m % 10)]
termination_by m
decreasing_by omega
theorem jcL {m:Nat}(h:m<10):jhH m=[UInt8.ofNat (48+m)]:=by rw[jhH,dif_pos h]
theorem jlf {m:Nat}(h:¬ m<10):jhH m=jhH (m / 10)++[UInt8.ofNat (48+m % 10)]:=by rw[jhH,dif_neg h]
def wR (n:Int):List UInt8:=if n<0 then 45::jhH n.natAbs else jhH n.natAbs
theorem jjz (s:List UInt8)(p:Nat):(⟨s.toArray⟩:ByteArray).get! p=ix s (p:Int):=by
 unfold ix
 rw[Int.toNat_natCast]
 show s.toArray[p]! = _
 simp[List.getD_eq_getElem?_getD,getElem!_def]
 cases h:s[p]? <;> simp[h]
theorem dec_lo (s:List UInt8)(p:Nat)(h:ix s (p:Int)<128):Utf8.decode ⟨s.toArray⟩ p=((ix s (p:Int)).toNat,1):=by
 rw[Lib.decode_at,jjz]
 unfold Lib.decodeN
 rw[if_pos]
 exact h
theorem dec_hi (s:List UInt8)(p:Nat)(h:¬ ix s (p:Int)<128):128<=(Utf8.decode ⟨s.toArray⟩ p).1:=by
 rw[Lib.decode_at,jjz]
 have h':¬ (ix s (p:Int)).toNat<128:=fun q=>h q
 unfold Lib.decodeN
 rw[if_neg h']
 split
 ·split <;> simp only <;> omega
 ·split
  ·split <;> simp only <;> omega
  ·split
   ·split <;> simp only <;> omega
   ·simp only;omega
def isD (c:UInt8):Bool:=decide (48<=c.toNat)&&decide (c.toNat<=57)
theorem Ww {c:UInt8}:isD c=true↔48<=c.toNat/\c.toNat<=57:=by unfold isD;simp
def dv (l:List UInt8):Nat:=l.foldl (fun n c=>10*n+(c.toNat - 48)) 0
theorem jgZ (l:List UInt8)(c:UInt8):dv (l++[c])=10*dv l+(c.toNat - 48):=by unfold dv;rw[List.foldl_append];rfl
theorem jj2 (l:List UInt8)(i:Nat)(h:i<l.length):l.take (i+1)=l.take i++[ix l (i:Int)]:=by
 rw[List.take_add_one,ml l i h,List.getElem?_eq_getElem h];rfl
def LIM:Nat:=4611686018427387905
def dec (neg:Bool)(n:Nat):jw:=⟨neg,(min n LIM:Nat),(n % 65536:Nat)⟩
theorem jkx (rest:List UInt8)(neg:Bool)(z bad:jw)(step:(jw × jw × List UInt8 × Nat->Option (jw × Bool))->jw × jw × List UInt8 × Nat->Option (jw × Bool))(hl:Sm rest)
 (hs:∀(r:jw × jw × List UInt8 × Nat->Option (jw × Bool)) (z:jw) (n p:Nat),p<rest.length->step r (z,dec neg n,rest,p)=if isD (ix rest (p:Int))=true then r (z,dec neg (10*n+((ix rest (p:Int)).toNat - 48)),rest,p+1)else some (bad,false))
 (he:∀(r:jw × jw × List UInt8 × Nat->Option (jw × Bool)) (z d:jw),step r (z,d,rest,rest.length)=some (d,true)):
 Yg step fuel (z,dec neg 0,rest,0)=if rest.all isD=true then some (dec neg (dv rest),true)else some (bad,false):=by
 refine LOOP_g rest (fun v=>(v.2.2.2:Int)) (fun i v=>v.2.2.1=rest/\v.2.1=dec neg (dv (rest.take i))) (fun t _=>if t.all isD=true then some (dec neg (dv rest),true)else some (bad,false)) step _ hl rfl ⟨rfl,rfl⟩ ?_ ?_
 ·rintro r i t ⟨z,d,l,p⟩ hp ⟨h1,h2⟩ hw hc hm hr
  simp only at hp h1 h2
  subst h1 h2
  have hp:p=i:=by omega
  subst hp
  rw[hs r z _ p (by omega),List.all_cons]
  by_cases hd:isD (ix l (p:Int))=true
  ·rw[if_pos hd,hr _ (by simp) ⟨rfl,by rw[jj2 l p (by omega),jgZ]⟩,hd,Bool.true_and]
  ·rw[if_neg hd,if_neg (by rw[Bool.and_eq_true];exact fun h=>hd h.1)]
 ·rintro r ⟨z,d,l,p⟩ hp ⟨h1,h2⟩
  simp only at hp h1 h2
  subst h1 h2
  have hp:p=l.length:=by omega
  subst hp
  rw[he,List.take_length];rfl
theorem jhI:∀k:Nat,k<10->IntKind.u64.wrap (IntKind.i32.wrap (k:Int))=(k:Int):=by decide
theorem jeZ (s:List UInt8)(c:UInt8)(hl:Sm s):Qp s [c]=some (match s with| []=>false|x::_=>x==c):=by
 unfold Qp
 simp only[jj]
 cases s with
 |nil=>rfl
 |cons x l=>
  have e1:decide (((x::l).length:Int)>=(([c]:List UInt8).length:Int))=true:=by rw[decide_eq_true_iff];simp;omega
  rw[e1,ju (fun _=>⟨by simp,by simp;omega⟩)]
  simp
def isNeg:List UInt8->Bool
 | []=>false
 |x::_=>x==45
def body:List UInt8->List UInt8
 | []=>[]
 |x::l=>if x=45 then l else x::l
theorem ji9 (s:List UInt8)(hl:Sm s):Zm s [45]=some (body s,isNeg s):=by
 unfold Zm zY
 rw[jeZ s 45 hl,jb]
 cases s with
 |nil=>rfl
 |cons x l=>
  simp only[jj]
  by_cases h:x=45
  ·subst h
   rw[if_neg (by decide),ju ⟨by simp,by simp;omega⟩]
   rfl
  ·have e:(x==45)=false:=by rw[beq_eq_false_iff_ne];exact h
   simp only[e]
   rw[if_pos (by rfl)]
   simp[body,isNeg,h,e,jb]
def isInt (s:List UInt8):Bool:=match body s with
 | []=>false
 |x::l=>(x::l).all isD&&(decide (x≠48)||decide (s=[48]))
theorem pT (s : List UInt8)(hl:Sm s):zt s=some (if isInt s=true then(dec (isNeg s) (dv (body s)),true)else(⟨false,0,0⟩,false)):=by
 unfold zt
 rw[show(#[(45:UInt8)].toList:List UInt8)=[45]from rfl,ji9 s hl,jb]
 simp only[jj,jE,jr,jI]
 have hbl:Sm (body s):=by
  unfold Sm at hl⊢
  cases s with
  |nil=>exact hl
  |cons x l=>
   show(if x=45 then l else x::l).length<2 ^ 62
   simp only[List.length_cons]at hl
   split
   ·omega
   ·rw[List.length_cons];omega
 unfold isInt
 cases hb:body s with
 |nil=>rfl
 |cons x l=>
  have e1:((x::l:List UInt8)==#[].toList)=false:=rfl
  rw[e1,ju (fun _=>⟨by simp,by simp⟩)]
  have e2:ix (x::l) (0:Int)=x:=rfl
  have e3:toByte (48:Int)=48:=rfl
  rw[e2,e3,Bool.false_or]
  have e4:(x==48&&s != [48]) = !(decide (x≠48)||decide (s=[48])):=by
   by_cases h1:x=48 <;> by_cases h2:s=[48] <;> simp[h1,h2]
  rw[e4]
  cases hg:(decide (x≠48)||decide (s=[48]))
  ·rw[if_pos (show(!false)=true from rfl)]
   simp only[hg,Bool.and_false,ff,if_false]
  ·rw[if_neg (by simp)]
   simp only[hg,Bool.and_true]
   have e0:({negative:=isNeg s,qq:=(0:Int),unit:=(0:Int)}:jw)=dec (isNeg s) 0:=rfl
   rw[e0]
   refine Eq.trans (jkx (x::l) (isNeg s) ⟨false,0,0⟩ ⟨false,0,0⟩ _ (by rw[<-hb];exact hbl) ?_ ?_) ?_
   rotate_left 2
   ·split <;> rfl
   ·intro r z n p hp
    rw[if_pos (by rw[decide_eq_true_iff];exact hp)]
    simp only
    by_cases hc:ix (x::l) (p:Int)<128
    ·rw[dec_lo _ _ hc]
     simp only
     generalize ix (x::l) (p:Int)=c at hc
     by_cases hd:isD c=true
     ·obtain⟨g1,g2⟩:=Ww.1 hd
      obtain⟨k,hk⟩:∃k:Nat,c.toNat=48+k:=⟨c.toNat - 48,by omega⟩
      have ek:(c.toNat:Int) - 48=(k:Int):=by omega
      rw[if_pos hd,if_neg (by simp;omega),ek,jhI k (by omega),show c.toNat - 48=k by omega]
      have hu:IntKind.u64.wrap (((n % 65536:Nat):Int)*10)=((n % 65536*10:Nat):Int):=by rw[pz];omega
      have hu2:(IntKind.u64.wrap (((n % 65536*10:Nat):Int)+(k:Int))).tmod 65536=(((10*n+k) % 65536:Nat):Int):=by
       rw[pz,Int.tmod_eq_emod_of_nonneg (by omega)];omega
      unfold dec
      simp only[hu,hu2]
      by_cases hm:((min n LIM:Nat):Int)>461168601842738790
      ·rw[if_pos (decide_eq_true hm)]
       congr 3
       unfold LIM at hm⊢
       congr 1
       omega
      ·rw[if_neg (by rw[decide_eq_true_iff];exact hm)]
       congr 3
       unfold LIM at hm⊢
       have e5:IntKind.u64.wrap (((min n 4611686018427387905:Nat):Int)*10)=((min n 4611686018427387905*10:Nat):Int):=by rw[pz];omega
       rw[e5]
       have e6:IntKind.u64.wrap (((min n 4611686018427387905*10:Nat):Int)+(k:Int))=((min n 4611686018427387905*10+k:Nat):Int):=by rw[pz];omega
       rw[e6]
       congr 1
       omega
     ·rw[if_neg hd,if_pos]
      rw[Ww]at hd
      simp;omega
    ·have:=dec_hi _ _ hc
     have hd:¬ isD (ix (x::l) (p:Int))=true:=by
      rw[Ww]
      have:¬ (ix (x::l) (p:Int)).toNat<128:=fun q=>hc q
      omega
     rw[if_neg hd,if_pos]
     simp;omega
   ·intro r z d
    rw[if_neg (by simp)]
def sgn (s:List UInt8)(n:Nat):Int:=if isNeg s=true then -(n:Int)else(n:Int)
def xw (s:List UInt8):Int × Int:=if isInt s=true then(if dv (body s)<=4611686018427387904 then(sgn s (dv (body s)),0)else(0,6))else(0,3)
theorem jhM (s:List UInt8)(n:Nat)(h:n<=4611686018427387904):QR (dec (isNeg s) n)=some (sgn s n):=by
 unfold QR dec sgn LIM
 have e:IntKind.i64.wrap ((min n 4611686018427387905:Nat):Int)=(n:Int):=by rw[Yh _ (by omega) (by omega)];omega
 simp only[jj,e]
 cases isNeg s
 ·rfl
 ·simp only[if_true]
  rw[Yh _ (by omega) (by omega)]
  congr 1;omega
theorem jc2 (s:List UInt8)(hl:Sm s):kA s=some (xw s):=by
 unfold kA xw
 rw[pT s hl,jb]
 simp only[jj]
 cases hi:isInt s
 ·rfl
 ·simp only[if_true,Bool.not_true,ff,if_false]
  by_cases h:dv (body s)<=4611686018427387904
  ·rw[if_pos h,if_neg,jhM s _ h,jb]
   unfold dec LIM
   rw[decide_eq_true_iff]
   simp only;omega
  ·rw[if_neg h,if_pos]
   unfold dec LIM
   rw[decide_eq_true_iff]
   simp only;omega
def dvf (n:Nat)(l:List UInt8):Nat:=l.foldl (fun n c=>10*n+(c.toNat - 48)) n
theorem jad (n:Nat)(c:UInt8)(l:List UInt8):dvf n (c::l)=dvf (10*n+(c.toNat - 48)) l:=by unfold dvf;rw[List.foldl_cons]
theorem jgY:∀(l:List UInt8) (n:Nat),n<=dvf n l
 | [],_=>Nat.le_refl _
 |c::l,n=>by rw[jad];have:=jgY l (10*n+(c.toNat - 48));omega
theorem w1 (i:Nat)(h:i<2 ^ 62):IntKind.i64.wrap ((i:Int)+1)=((i+1:Nat):Int):=by rw[jb1 i h];omega
def chkI:List UInt8->Bool
 | []=>false
 |x::l=>(x::l).all isD&&decide (x≠48)
theorem jbV (s:List UInt8)(hl:Sm s):QU s=some (isInt s):=by
 unfold QU
 simp only[jj,jI]
 by_cases h0:s=[48]
 ·subst h0;rfl
 ·have e0 : (s==#[48].toList)=false:=by rw[beq_eq_false_iff_ne];exact h0
  rw[e0]
  simp only[ff,if_false]
  have loop:∀(l:List UInt8) (step:(Int->Option Bool)->Int->Option Bool),Sm l->
   (∀(r:Int->Option Bool) (i:Nat),IntKind.i64.wrap ((i:Int)+1)=(i:Int)+1->(0<=(i:Int)/\(i:Int)<(l.length:Int))->ix l (i:Int)∈l->step r (i:Int)=if isD (ix l (i:Int))=true then r ((i:Int)+1)else some false)->
   (∀(r:Int->Option Bool),step r (l.length:Int)=some (match l with| []=>false|x::_=>decide (x≠48)))->
   Yg step fuel (0:Int)=some (chkI l):=by
   intro l step hl hs he
   rw[pj l isD _ _ step hl hs he]
   cases l with
   |nil=>rfl
   |cons x l=>unfold chkI;simp only;cases (x::l).all isD <;> rfl
  have stepD:∀(l:List UInt8) (i:Nat) (X:Option Bool),(0<=(i:Int)/\(i:Int)<(l.length:Int))->(if(bif decide (ix l (i:Int)<toByte 48)then true else decide (toByte 57<ix l (i:Int)))=true then some false else X)=if isD (ix l (i:Int))=true then X else some false:=by
   intro l i X _
   generalize ix l (i:Int)=c
   have e1:(c<toByte 48)↔c.toNat<48:=Iff.rfl
   have e2:(toByte 57<c)↔57<c.toNat:=Iff.rfl
   by_cases hd:isD c=true
   ·rw[if_pos hd]
    obtain⟨g1,g2⟩:=Ww.1 hd
    rw[if_neg]
    rw[jE,Bool.or_eq_true,decide_eq_true_iff,decide_eq_true_iff,e1,e2];omega
   ·rw[if_neg hd]
    rw[Ww]at hd
    rw[if_pos]
    rw[jE,Bool.or_eq_true,decide_eq_true_iff,decide_eq_true_iff,e1,e2];omega
  have fin:∀(l:List UInt8) ,(Chk ((decide ((l.length:Int)>0)==true)=true->(0:Int)<=0/\(0:Int)<(l.length:Int)) (some (bif decide ((l.length:Int)>0)then ix l 0 != toByte 48 else false)))=some (match l with| []=>false|x::_=>decide (x≠48)):=by
   intro l
   cases l with
   |nil=>rfl
   |cons x l=>
    rw[ju (fun _=>⟨by omega,by simp⟩)]
    have e:decide (((x::l).length:Int)>0)=true:=by simp
    rw[e]
    show some (x != 48)=some (decide (x≠48))
    congr 1
    by_cases h:x=48 <;> simp[h]
  have main:∀l:List UInt8,Sm l->Yg (fun(rec250:Int->Option Bool) (s251:Int)=>
   if decide (s251<(l.length:Int))=true then
    Chk (0<=s251/\s251<(l.length:Int)) (Chk ((decide (ix l s251<toByte 48)==false)=true->0<=s251/\s251<(l.length:Int))
     (if(bif decide (ix l s251<toByte 48)then true else decide (toByte 57<ix l s251))=true then some false else rec250 (IntKind.i64.wrap (s251+1))))
   else Chk ((decide ((l.length:Int)>0)==true)=true->(0:Int)<=0/\(0:Int)<(l.length:Int)) (some (bif decide ((l.length:Int)>0)then ix l 0 != toByte 48 else false))) fuel (0:Int)=some (chkI l):=by
   intro l hl
   refine loop l _ hl ?_ ?_
   ·intro r i hw hc hm
    simp only[dlt hc,if_true]
    rw[ju hc,ju (fun _=>hc),stepD l i _ hc,hw]
   ·intro r
    simp only[dll,ff,if_false]
    exact fin l
  cases s with
  |nil =>
   refine(show Chk _ _=Chk _ _ from rfl).trans ?_
   rw[ju (by intro h;cases h)]
   exact main [] hl
  |cons x l=>
   rw[ju (fun _=>⟨by omega,by simp⟩)]
   have e:decide (((x::l).length:Int)>0)=true:=by simp
   have hc:(bif decide (((x::l).length:Int)>0)then ix (x::l) 0==toByte 45 else false)=(x==45):=by rw[e];rfl
   rw[hc]
   by_cases h:x=45
   ·rw[if_pos (by rw[h];rfl),ju ⟨by omega,by rw[List.length_cons];omega⟩]
    refine(main ((x::l).drop 1) (by unfold Sm at hl⊢;simp at hl⊢;omega)).trans ?_
    show some (chkI l)=some (isInt (x::l))
    congr 1
    unfold isInt chkI
    rw[show body (x::l)=l from if_pos h]
    cases l with
    |nil=>rfl
    |cons y l=>
     simp only
     have:decide (x::y::l=[48])=false:=by simp
     rw[this,Bool.or_false]
   ·rw[if_neg (by simpa using h)]
    refine(main (x::l) hl).trans ?_
    congr 1
    unfold isInt chkI
    rw[show body (x::l)=x::l from if_neg h]
    simp only
    rw[decide_eq_false h0,Bool.or_false]
theorem jfH (s:List UInt8)(hl:Sm s)(lim:Int)(hlim:9<=lim/\lim<=4611686018427387904)(fin:Int->Bool->Option (Int × Bool))(step:(Int × Bool × Int->Option (Int × Bool))->Int × Bool × Int->Option (Int × Bool))
 (hs:∀(r:Int × Bool × Int->Option (Int × Bool)) (n i:Nat) (neg:Bool),i<s.length->(n:Int)<=lim->isD (ix s (i:Int))=true->step r ((n:Int),neg,(i:Int))=if((10*n+((ix s (i:Int)).toNat - 48):Nat):Int)<=lim then r (((10*n+((ix s (i:Int)).toNat - 48):Nat):Int),neg,((i+1:Nat):Int))else some (0,false))
 (he:∀(r:Int × Bool × Int->Option (Int × Bool)) (n:Nat) (neg:Bool),step r ((n:Int),neg,(s.length:Int))=fin n neg):
 ∀(k i n:Nat) (neg:Bool),i<=s.length->s.length - i<k->(n:Int)<=lim->(s.drop i).all isD=true->Yg step k ((n:Int),neg,(i:Int))=if(dvf n (s.drop i):Int)<=lim then fin (dvf n (s.drop i)) neg else some (0,false)
 |0,i,n,neg,_,h,_,_=>by omega
 |k + 1,i,n,neg,hi,hk,hn,hd=>by
  rw[kY]
  by_cases h:i<s.length
  ·rw[Ke s i h]at hd⊢
   rw[List.all_cons,Bool.and_eq_true]at hd
   rw[hs _ n i neg h hn hd.1,jad]
   by_cases hq:((10*n+((ix s (i:Int)).toNat - 48):Nat):Int)<=lim
   ·rw[if_pos hq,jfH s hl lim hlim fin step hs he k (i+1) _ neg (by omega) (by omega) hq hd.2]
   ·rw[if_neg hq,if_neg]
    have:=jgY (s.drop (i+1)) (10*n+((ix s (i:Int)).toNat - 48))
    omega
  ·have:i=s.length:=by omega
   subst this
   rw[he,List.drop_length,if_pos (by exact hn)]
   rfl
theorem xC {s:List UInt8}(h:isInt s=true):(body s).all isD=true/\body s≠[]:=by
 unfold isInt at h
 cases hb:body s with
 |nil=>rw[hb]at h;cases h
 |cons x l=>rw[hb]at h;simp only[Bool.and_eq_true]at h;exact⟨h.1,by simp⟩
theorem tdiv10 (a:Int)(h:0<=a):a.tdiv 10=a / 10:=Int.tdiv_eq_ediv_of_nonneg h
theorem refAll (s:List UInt8)(hl:Sm s)(lim:Int)(hlim:9<=lim/\lim<=4611686018427387904)(hd:(body s).all isD=true)(fin:Int->Bool->Option (Int × Bool))(step:(Int × Bool × Int->Option (Int × Bool))->Int × Bool × Int->Option (Int × Bool))
 (hs:∀(r:Int × Bool × Int->Option (Int × Bool)) (n i:Nat) (neg:Bool),i<s.length->(n:Int)<=lim->isD (ix s (i:Int))=true->step r ((n:Int),neg,(i:Int))=if((10*n+((ix s (i:Int)).toNat - 48):Nat):Int)<=lim then r (((10*n+((ix s (i:Int)).toNat - 48):Nat):Int),neg,((i+1:Nat):Int))else some (0,false))
 (he:∀(r:Int × Bool × Int->Option (Int × Bool)) (n:Nat) (neg:Bool),step r ((n:Int),neg,(s.length:Int))=fin n neg)
 (hm:∀(r:Int × Bool × Int->Option (Int × Bool)),ix s 0=45->0<s.length->step r (0,false,0)=r (0,true,1)):
 Yg step fuel (0,false,0)=if(dv (body s):Int)<=lim then fin (dv (body s)) (isNeg s)else some (0,false):=by
 have key:=jfH s hl lim hlim fin step hs he
 cases s with
 |nil=>exact key fuel 0 0 false (Nat.le_refl _) (by have:fuel=2 ^ 70:=rfl;simp;omega) (by omega) rfl
 |cons x l=>
  have hfu:fuel=(2 ^ 70 - 1)+1:=rfl
  by_cases h:x=45
  ·have e1:body (x::l)=l:=if_pos h
   have e2:isNeg (x::l)=true:=by subst h;rfl
   rw[e1]at hd⊢
   rw[e2,hfu,kY,hm _ (by subst h;rfl) (by simp)]
   exact key (2 ^ 70 - 1) 1 0 true (by simp) (by unfold Sm at hl;omega) (by omega) hd
  ·have e1:body (x::l)=x::l:=if_neg h
   have e2:isNeg (x::l)=false:=by show(x==45)=false;simpa using h
   rw[e1]at hd⊢
   rw[e2]
   exact key fuel 0 0 false (by simp) (by unfold Sm at hl;rw[hfu];omega) (by omega) hd
theorem jca (s:List UInt8)(hl:Sm s)(hi:isInt s=true)(lim:Int)(hlim:9<=lim/\lim<=4611686018427387904):ZS s lim=some (if(dv (body s):Int)<=lim then(sgn s (dv (body s)),true)else(0,false)):=by
 obtain⟨hd,hne⟩:=xC hi
 unfold ZS
 simp only[jj,jI]
 refine(refAll s hl lim hlim hd (fun n neg=>if neg=true then some (IntKind.i64.wrap (0 - n),true)else some (n,true)) _ ?_ ?_ ?_).trans ?_
 rotate_left 3
 ·unfold sgn
  split
  ·cases isNeg s
   ·rfl
   ·simp only[if_true]
    rw[Yh _ (by omega) (by omega)]
    congr 2;omega
  ·rfl
 ·intro r n i neg hi2 hn hd2
  simp only
  rw[if_pos (by rw[decide_eq_true_iff];omega)]
  have hc:0<=(i:Int)/\(i:Int)<(s.length:Int):=⟨by omega,by omega⟩
  rw[ju hc]
  obtain⟨g1,g2⟩:=Ww.1 hd2
  generalize ix s (i:Int)=c at g1 g2
  have hn45:(c==toByte 45)=false:=by
   rw[beq_eq_false_iff_ne]
   rintro rfl
   revert g1;decide
  rw[hn45]
  simp only[ff,if_false]
  rw[ju hc]
  obtain⟨k,hk⟩:∃k:Nat,c.toNat=48+k:=⟨c.toNat - 48,by omega⟩
  have e1:IntKind.i64.wrap ((c.toNat:Int) - 48)=(k:Int):=by rw[Yh _ (by omega) (by omega)];omega
  rw[e1,show c.toNat - 48=k by omega]
  have e2:IntKind.i64.wrap (lim - (k:Int))=lim - k:=Yh _ (by omega) (by omega)
  rw[e2,tdiv10 _ (by omega),Yh ((lim - (k:Int)) / 10) (by omega) (by omega),w1 i (by unfold Sm at hl;omega)]
  by_cases hq:((10*n+k:Nat):Int)<=lim
  ·rw[if_pos hq,if_neg (by rw[decide_eq_true_iff];omega),Yh (10*(n:Int)) (by omega) (by omega),Yh (10*(n:Int)+k) (by omega) (by omega)]
   congr 2
  ·rw[if_neg hq,if_pos (by rw[decide_eq_true_iff];omega)]
 ·intro r n neg
  simp only[dll,ff,if_false]
 ·intro r hx hlen
  simp only
  rw[if_pos (by rw[decide_eq_true_iff];omega),ju ⟨by omega,by omega⟩,hx]
  rfl
theorem PR (s:List UInt8)(hl:Sm s):zz s=some (xw s):=by
 unfold zz xw
 rw[jbV s hl,jb]
 simp only[jj]
 cases hi:isInt s
 ·rfl
 ·rw[jca s hl hi _ (by omega)]
  simp only[Bool.not_true,ff,if_false,if_true,jb]
  by_cases h:dv (body s)<=4611686018427387904
  ·have h':(dv (body s):Int)<=4611686018427387904:=by omega
   simp only[if_pos h,if_pos h',Bool.not_true,ff,if_false]
  ·have h':¬ (dv (body s):Int)<=4611686018427387904:=by omega
   simp only[if_neg h,if_neg h',Bool.not_false,if_true]
def VI (c:UInt8)(s:List UInt8):Bool:=decide (s.getLast? = some c)
def cutC (c:UInt8)(s:List UInt8):List UInt8:=if VI c s=true then s.dropLast else s
theorem jg0 (s:List UInt8)(h:s≠[]):s.drop (s.length - 1)=[s.getLast h]:=by
 rw[List.drop_eq_getElem_cons (by have:=List.length_pos_iff.2 h;omega),List.getLast_eq_getElem,List.drop_of_length_le (by omega)]
theorem Cut1 (s:List UInt8)(c:UInt8)(hl:Sm s):Zl s [c]=some (cutC c s,VI c s):=by
 unfold Zl zX zW
 simp only[jj]
 by_cases h:s=[]
 ·subst h
  unfold cutC VI
  simp
 ·have hp:0<s.length:=List.length_pos_iff.2 h
  have e1:decide ((s.length:Int)>=(([c]:List UInt8).length:Int))=true:=by rw[decide_eq_true_iff];simp;omega
  have e2:IntKind.i64.wrap ((s.length:Int) - (([c]:List UInt8).length:Int))=((s.length - 1:Nat):Int):=by
   unfold Sm at hl
   rw[Yh _ (by simp;omega) (by simp;omega)];simp;omega
  rw[e1,e2,ju (fun _=>⟨by omega,by omega⟩),Int.toNat_natCast,jg0 s h]
  have e3:([s.getLast h]==[c])=VI c s:=by
   unfold VI
   rw[List.getLast?_eq_some_getLast h]
   by_cases hc:s.getLast h=c <;> simp[hc]
  simp only[e3,cond_true,jb]
  unfold cutC
  cases VI c s
  ·rfl
  ·simp only[Bool.not_true,ff,if_false,if_true]
   rw[ju ⟨by omega,by omega⟩,jb,List.dropLast_eq_take]
theorem jeA {t:List UInt8}(h:isInt t=true):dv (body t)=0↔t=[48]:=by
 obtain⟨hd,hne⟩:=xC h
 constructor
 ·intro h0
  unfold isInt at h
  cases hb:body t with
  |nil=>exact absurd hb hne
  |cons x l=>
   rw[hb]at h h0 hd
   simp only[Bool.and_eq_true,Bool.or_eq_true,decide_eq_true_eq]at h
   rcases h.2 with h2|h2
   ·exfalso
    have g:=List.all_eq_true.1 hd x (by simp)
    obtain⟨g1,g2⟩:=Ww.1 g
    have hx:x.toNat≠48:=fun q=>h2 (UInt8.toNat_inj.1 q)
    have h3:dv (x::l)=dvf (10*0+(x.toNat - 48)) l:=jad 0 x l
    have:=jgY l (10*0+(x.toNat - 48))
    omega
   ·exact h2
 ·rintro rfl;rfl
def spl (c:UInt8):List UInt8->List (List UInt8)
 | []=>[[]]
 |x::l=>if x=c then[]::spl c l else match spl c l with
  | []=>[[x]]
  |p::ps=>(x::p)::ps
theorem Zn (c x:UInt8)(l:List UInt8):spl c (x::l)=if x=c then[]::spl c l else match spl c l with
 | []=>[[x]]
 |p::ps=>(x::p)::ps:=by rw[spl]
theorem Xh (c:UInt8):∀l,spl c l≠[]
 | []=>by simp[spl]
 |x::l=>by
  unfold spl
  split
  ·simp
  ·split <;> simp
theorem UU (c:UInt8):∀l,(spl c l).length=l.count c+1
 | []=>rfl
 |x :: l=>by
  unfold spl
  have ih:=UU c l
  by_cases h:x=c
  ·rw[if_pos h,List.length_cons,ih,h,List.count_cons_self]
  ·rw[if_neg h,List.count_cons_of_ne h]
   split
   ·rename_i h2;exact absurd h2 (Xh c l)
   ·rename_i p ps h2;rw[h2]at ih;exact ih
theorem jfr (c:UInt8):∀l,(Lib.indexByte l c<0/\spl c l=[l])\/(∃i:Nat,Lib.indexByte l c=(i:Int)/\i<l.length/\spl c l=l.take i::spl c (l.drop (i+1)))
 | []=>.inl ⟨by unfold Lib.indexByte;decide,rfl⟩
 |x :: l=>by
  unfold Lib.indexByte
  by_cases h:x=c
  ·right
   refine⟨0,by rw[if_pos (by simpa using h)];rfl,by simp,?_⟩
   rw[Zn,if_pos h]
   rfl
  ·have hb:¬ (x==c)=true:=by simpa using h
   rw[if_neg hb]
   rcases jfr c l with ⟨h1,h2⟩|⟨i,h1,h2,h3⟩
   ·left
    have:Lib.indexByte l c = -1:=by have:=Lib.indexByte_ge l c;omega
    rw[this]
    refine⟨by decide,?_⟩
    rw[Zn,if_neg h,h2]
   ·right
    refine⟨i+1,?_,by simpa using h2,?_⟩
    ·rw[h1,if_neg (by rw[beq_iff_eq];omega)];rfl
    ·rw[Zn,if_neg h,h3]
     rfl
theorem jgM (c:UInt8)(N:Nat)(hN:N<2 ^ 62)(K:List UInt8->Nat->List (List UInt8)->Option (List (List UInt8)))(step:(List UInt8 × Int × List (List UInt8)->Option (List (List UInt8)))->List UInt8 × Int × List (List UInt8)->Option (List (List UInt8)))
 (hs:∀(r:List UInt8 × Int × List (List UInt8)->Option (List (List UInt8))) (s:List UInt8) (i:Nat) (a:List (List UInt8)),a.length=N+1->i<=N->s.length<2 ^ 62->
   step r (s,(i:Int),a)=if(i:Int)<(N:Int)then(if Lib.indexByte s c<0 then K s i a else r (s.drop ((Lib.indexByte s c).toNat+1),((i+1:Nat):Int),a.set i (s.take (Lib.indexByte s c).toNat)))else K s i a):
 ∀(k i:Nat) (s:List UInt8) (a:List (List UInt8)),s.length<2 ^ 62->a.length=N+1->i+s.count c=N->s.count c<k->
  ∃s' a',a'.length=N+1/\a'.take N=a.take i++(spl c s).dropLast/\spl c s=(spl c s).dropLast++[s']/\Yg step k (s,(i:Int),a)=K s' N a'
 |0,i,s,a,_,_,_,h=>by omega
 |k + 1,i,s,a,hl,ha,hi,hk=>by
  rw[kY,hs _ s i a ha (by omega) hl]
  have hlen:=UU c s
  rcases jfr c s with ⟨h1,h2⟩|⟨j,h1,h2,h3⟩
  ·rw[h2]at hlen
   have h0:s.count c=0:=by simp at hlen;exact hlen
   have:i=N:=by omega
   subst this
   refine⟨s,a,ha,by rw[h2];simp,by rw[h2];rfl,?_⟩
   rw[if_neg (by omega)]
  ·rw[h3]at hlen
   rw[List.length_cons,UU]at hlen
   rw[if_pos (by omega),if_neg (by omega),h1,Int.toNat_natCast]
   obtain⟨s',a',g1,g2,g3,g4⟩:=jgM c N hN K step hs k (i+1) (s.drop (j+1)) (a.set i (s.take j)) (by rw[List.length_drop];omega) (by rw[List.length_set];exact ha) (by omega) (by omega)
   refine⟨s',a',g1,?_,?_,g4⟩
   ·rw[g2,h3]
    have:(s.take j::spl c (s.drop (j+1))).dropLast=s.take j::(spl c (s.drop (j+1))).dropLast:=by
     rw[List.dropLast_cons_of_ne_nil (Xh _ _)]
    rw[this,List.take_add_one]
    have e1:(a.set i (s.take j)).take i=a.take i:=by
     rw[List.take_set_of_le (Nat.le_refl _)]
    rw[e1,List.getElem?_set_self (by omega)]
    simp
   ·rw[h3,List.dropLast_cons_of_ne_nil (Xh _ _),List.cons_append,<-g3]
theorem jdX (s:List UInt8)(c:UInt8)(hl:s.length<=1000000):km s [c]=some (spl c s):=by
 unfold km KH
 simp only[jj,jI]
 have hcnt:s.count c<=s.length:=List.count_le_length
 have e1:((-1:Int)==0)=false:=rfl
 have e2:(([c]:List UInt8)==#[].toList)=false:=rfl
 have e3:decide ((-1:Int)<0)=true:=rfl
 rw[e1,e2,e3]
 simp only[ff,if_false,if_true]
 unfold strings_Count jdM
 simp only[jb]
 have e4:IntKind.i64.wrap ((s.count c:Int)+1)=((s.count c+1:Nat):Int):=w1 _ (by omega)
 have e5:IntKind.i64.wrap ((s.length:Int)+1)=((s.length+1:Nat):Int):=w1 _ (by omega)
 have e6:min ((s.count c+1:Nat):Int) ((s.length+1:Nat):Int)=((s.count c+1:Nat):Int):=by omega
 rw[e4,e5,e6,ju ⟨by omega,by omega,by omega,by omega⟩]
 have e7:IntKind.i64.wrap (((s.count c+1:Nat):Int) - 1)=(s.count c:Int):=by rw[Yh _ (by omega) (by omega)];omega
 rw[e7,Int.toNat_natCast]
 have main:∀(step:(List UInt8 × Int × List (List UInt8)->Option (List (List UInt8)))->List UInt8 × Int × List (List UInt8)->Option (List (List UInt8))),
  (∀(r:List UInt8 × Int × List (List UInt8)->Option (List (List UInt8))) (s0:List UInt8) (i:Nat) (a:List (List UInt8)),a.length=s.count c+1->i<=s.count c->s0.length<2 ^ 62->
  step r (s0,(i:Int),a)=if(i:Int)<(s.count c:Int)then(if Lib.indexByte s0 c<0 then some ((a.set i s0).take (i+1))else r (s0.drop ((Lib.indexByte s0 c).toNat+1),((i+1:Nat):Int),a.set i (s0.take (Lib.indexByte s0 c).toNat)))else some ((a.set i s0).take (i+1)))->
  (Rx.Bind (Yg step fuel (s,(0:Int),List.replicate (s.count c+1) [])) fun(r:List (List UInt8))=>some r)=some (spl c s):=by
  intro step hs
  obtain⟨s',a',g1,g2,g3,g4⟩:=jgM c (s.count c) (by omega) (fun s i a=>some ((a.set i s).take (i+1))) step hs fuel 0 s (List.replicate (s.count c+1) []) (by omega) (by simp) (by omega) (by have:fuel=2 ^ 70:=rfl;omega)
  refine(congrArg (fun m=>Rx.Bind m _) g4).trans ?_
  rw[jb,List.take_add_one,List.take_set_of_le (Nat.le_refl _),g2,List.getElem?_set_self (by omega)]
  simp only[List.take_zero,List.nil_append]
  rw[g3]
  simp
 refine main _ ?_
 intro r s0 i a ha hi hs
 simp only
 unfold strings_Index jdA
 simp only[jb]
 have hix:=jfr c s0
 have f1:IntKind.i64.wrap ((i:Int)+1)=((i+1:Nat):Int):=w1 i (by omega)
 have fin:(Chk ((0:Int)<=(i:Int)/\(i:Int)<(a.length:Int)) (Chk ((0:Int)<=(i:Int)/\(i:Int)<(a.length:Int)) (Chk ((0:Int)<=none.getD (0:Int)/\(0:Int)<=(some (IntKind.i64.wrap ((i:Int)+1))).getD (0:Int)/\(0:Nat)<=(IntKind.i64.wrap ((i:Int)+1)).toNat/\(IntKind.i64.wrap ((i:Int)+1)).toNat<=(a.set (i:Int).toNat s0).length)
  (Chk ((IntKind.i64.wrap ((i:Int)+1)).toNat - 0<=(a.set (i:Int).toNat s0).length) (some ((a.set (i:Int).toNat s0).take ((IntKind.i64.wrap ((i:Int)+1)).toNat - 0)))))))=some ((a.set i s0).take (i+1)):=by
  rw[f1,ju ⟨by omega,by omega⟩,ju ⟨by omega,by omega⟩,ju ⟨by simp,by simp;omega,by omega,by simp;omega⟩,ju (by simp;omega)]
  simp
 by_cases hlt:(i:Int)<(s.count c:Int)
 ·rw[if_pos (decide_eq_true hlt),if_pos hlt]
  rcases hix with ⟨h1,h2⟩|⟨j,h1,h2,h3⟩
  ·rw[if_pos (decide_eq_true h1),if_pos h1]
   exact fin
  ·rw[h1,if_neg (by rw[decide_eq_true_iff];omega),if_neg (by omega)]
   have f2:IntKind.i64.wrap ((j:Int)+0)=(j:Int):=by rw[Yh _ (by omega) (by omega)];omega
   have f3:IntKind.i64.wrap ((j:Int)+(([c]:List UInt8).length:Int))=((j+1:Nat):Int):=w1 j (by omega)
   rw[f2,f3,f1,ju ⟨by omega,by omega⟩,ju ⟨by omega,by omega⟩,ju ⟨by omega,by omega⟩,ju ⟨by omega,by omega⟩]
   rfl
 ·rw[if_neg (by rw[decide_eq_true_iff];exact hlt),if_neg hlt]
  exact fin
def isP (c:UInt8):Bool:=decide (32<=c.toNat)&&decide (c.toNat<=126)
def jdy (s:List UInt8):Bool:=s.all (fun c=>decide (33<=c.toNat)&&decide (c.toNat<=126))&&decide (s≠[])
def ky (l:List UInt8):List (List UInt8) × Int:=if l=[]then([],0)else if(spl 32 l).all jdy=true then(spl 32 l,0)else([],3)
theorem jdb (c:UInt8)(q:UInt8->Bool)(hq:q c=true):∀l,(spl c l).all (fun p=>p.all q)=l.all q
 | []=>rfl
 |x :: l=>by
  have ih:=jdb c q hq l
  rw[Zn]
  by_cases h:x=c
  ·subst h
   rw[if_pos rfl,List.all_cons,List.all_cons,ih,hq];rfl
  ·rw[if_neg h]
   split
   ·rename_i h2;exact absurd h2 (Xh _ _)
   ·rename_i p ps h2
    rw[h2]at ih
    simp only[List.all_cons]at ih⊢
    rw[<-ih,Bool.and_assoc]
theorem jaH (c:UInt8):∀l,∀p∈spl c l,c∉p
 | [],p,h=>by simp[spl]at h;subst h;simp
 |x :: l,p,h=>by
  rw[Zn]at h
  by_cases hx:x=c
  ·rw[if_pos hx]at h
   rcases List.mem_cons.1 h with rfl|h
   ·simp
   ·exact jaH c l p h
  ·rw[if_neg hx]at h
   have ih:=jaH c l
   split at h
   ·simp at h;subst h;simp;exact fun q=>hx q.symm
   ·rename_i q qs h2
    rw[h2]at ih
    rcases List.mem_cons.1 h with rfl|h
    ·rw[List.mem_cons,not_or]
     exact⟨fun q=>hx q.symm,ih q (by simp)⟩
    ·exact ih p (List.mem_cons_of_mem _ h)
theorem jj6 (l:List UInt8):(spl 32 l).all jdy=(l.all isP&&(spl 32 l).all (fun p => !decide (p=[]))):=by
 rw[<-jdb 32 isP (by decide) l]
 have key:∀p∈spl 32 l,jdy p=(p.all isP && !decide (p=[])):=by
  intro p hp
  have h32:=jaH 32 l p hp
  unfold jdy
  congr 1
  ·rw[Bool.eq_iff_iff,List.all_eq_true,List.all_eq_true]
   refine forall_congr' fun x=>forall_congr' fun hx=>?_
   have:x.toNat≠32:=fun q=>h32 (by rw[show(32:UInt8)=x from UInt8.toNat_inj.1 q.symm];exact hx)
   unfold isP
   simp
   omega
  ·by_cases h:p=[] <;> simp[h]
 have aux:∀L:List (List UInt8),(∀p∈L,jdy p=(p.all isP && !decide (p=[])))->L.all jdy=(L.all (fun p=>p.all isP)&&L.all (fun p => !decide (p=[]))):=by
  intro L
  induction L with
  |nil=>intro _;rfl
  |cons p L ih=>
   intro h
   rw[List.all_cons,List.all_cons,List.all_cons,h p (by simp),ih fun q hq=>h q (List.mem_cons_of_mem _ hq)]
   cases p.all isP <;> cases L.all (fun p=>p.all isP) <;> simp
 exact aux _ key
theorem jbW (l:List UInt8)(hl:l.length<=1000000):zu l=some (ky l):=by
 unfold zu ky
 simp only[jj]
 by_cases h0:l=[]
 ·subst h0;rfl
 ·have e0:(l==#[].toList)=false:=by rw[beq_eq_false_iff_ne];exact h0
  rw[e0,if_neg h0]
  simp only[ff,if_false]
  rw[show Yg _ fuel (0:Int)=_ from pj l isP (some (if(spl 32 l).all (fun p => !decide (p=[]))=true then(spl 32 l,0)else([],3))) (some ([],3)) _ (vk hl (by omega)) ?_ ?_]
  ·rw[jj6]
   cases l.all isP <;> rfl
  ·intro r i hw hc hm
   simp only[dlt hc,if_true,ju hc,hw]
   generalize ix l (i:Int)=c
   have e1:(c<toByte 32)↔c.toNat<32:=Iff.rfl
   have e2:(toByte 126<c)↔126<c.toNat:=Iff.rfl
   rw[jE]
   by_cases hp:isP c=true
   ·rw[if_pos hp,if_neg]
    rw[Bool.or_eq_true,decide_eq_true_iff,decide_eq_true_iff,e1,e2]
    unfold isP at hp;simp at hp;omega
   ·rw[if_neg hp,if_pos]
    rw[Bool.or_eq_true,decide_eq_true_iff,decide_eq_true_iff,e1,e2]
    unfold isP at hp;simp at hp;omega
  ·intro r
   simp only[dll,ff,if_false]
   rw[jdX l 32 hl,jb]
   have hsl:(spl 32 l).length<=1000001:=by rw[UU];have:=List.count_le_length (a:=(32:UInt8)) (l:=l);omega
   rw[show Yg _ fuel (0:Int)=_ from pj (spl 32 l) (fun p => !decide (p=[])) (some (spl 32 l,0)) (some ([],3)) _ (vk hsl (by omega)) ?_ ?_]
   ·cases (spl 32 l).all (fun p => !decide (p=[])) <;> rfl
   ·intro r i hw hc hm
    simp only[dlt hc,if_true,ju hc,hw]
    by_cases h:ix (spl 32 l) (i:Int)=[]
    ·rw[h];rfl
    ·have:(ix (spl 32 l) (i:Int)==[])=false:=by rw[beq_eq_false_iff_ne];exact h
     rw[this,decide_eq_false h];rfl
   ·intro r
    simp only[dll,ff,if_false]
theorem jda (c:UInt8):∀p:List UInt8,c∉p->spl c p=[p]
 | [],_=>rfl
 |x::l,h=>by
  rw[List.mem_cons,not_or]at h
  rw[Zn,if_neg (fun q=>h.1 q.symm),jda c l h.2]
theorem jfs (c:UInt8)(t:List UInt8):∀p:List UInt8,c∉p->spl c (p++c::t)=p::spl c t
 | [],_=>by rw[List.nil_append,Zn,if_pos rfl]
 |x::l,h=>by
  rw[List.mem_cons,not_or]at h
  rw[List.cons_append,Zn,if_neg (fun q=>h.1 q.symm),jfs c t l h.2]
theorem jeX (s:List UInt8)(hl:Sm s):zR s=some (jdy s):=by
 unfold zR
 simp only[jj]
 rw[show Yg _ fuel (0:Int)=_ from pj s (fun c=>decide (33<=c.toNat)&&decide (c.toNat<=126)) (some (decide (s≠[]))) (some false) _ hl ?_ ?_]
 ·unfold jdy
  cases s.all (fun c=>decide (33<=c.toNat)&&decide (c.toNat<=126)) <;> rfl
 ·intro r i hw hc hm
  simp only[dlt hc,if_true,ju hc,hw]
  rw[ju (fun _=>hc)]
  generalize ix s (i:Int)=c
  have e1:(c<toByte 33)↔c.toNat<33:=Iff.rfl
  have e2:(toByte 126<c)↔126<c.toNat:=Iff.rfl
  rw[jE]
  by_cases hp:(decide (33<=c.toNat)&&decide (c.toNat<=126))=true
  ·rw[if_pos hp,if_neg]
   rw[Bool.or_eq_true,decide_eq_true_iff,decide_eq_true_iff,e1,e2]
   simp at hp;omega
  ·rw[if_neg hp,if_pos]
   rw[Bool.or_eq_true,decide_eq_true_iff,decide_eq_true_iff,e1,e2]
   simp at hp;omega
 ·intro r
  simp only[dll,ff,if_false]
  congr 1
  by_cases h:s=[] <;> simp[h]
def rest (c:UInt8)(l:List UInt8)(a:Nat):List (List UInt8):=if a<=l.length then spl c (l.drop a)else[]
theorem jjM (c:UInt8)(l:List UInt8)(a i:Nat)(h1:a<=i)(h2:i<=l.length)(hno:c∉(l.drop a).take (i - a)):
 (i=l.length->rest c l a=[(l.drop a).take (i - a)])/\(i<l.length->ix l (i:Int)=c->rest c l a=(l.drop a).take (i - a)::rest c l (i+1)):=by
 have e:=List.take_append_drop (i - a) (l.drop a)
 rw[List.drop_drop,show a+(i - a)=i by omega]at e
 constructor
 ·rintro rfl
  rw[List.drop_length,List.append_nil]at e
  rw[e]at hno⊢
  unfold rest
  rw[if_pos h1]
  exact jda c _ hno
 ·intro hi hc
  rw[Ke l i hi,hc]at e
  unfold rest
  rw[if_pos (by omega),if_pos (by omega)]
  conv=>lhs;rw[<-e]
  exact jfs c _ _ hno
theorem jf9 (c:UInt8)(l:List UInt8)(a i:Nat)(h1:a<=i)(h2:i<l.length)(hno:c∉(l.drop a).take (i - a))(hc:ix l (i:Int)≠c):c∉(l.drop a).take (i+1 - a):=by
 rw[show i+1 - a=(i - a)+1 by omega,List.take_add_one,List.getElem?_drop,show a+(i - a)=i by omega,List.getElem?_eq_getElem h2]
 rw[List.mem_append,not_or]
 refine⟨hno,?_⟩
 rw[ml l i h2]at hc
 simp
 exact fun q=>hc q.symm
theorem jfm (l:List UInt8)(a i:Nat):sub l (a:Int) (i:Int)=(l.drop a).take (i - a):=by
 unfold sub
 rw[Int.toNat_natCast,Int.toNat_natCast]
theorem xJ (l:List UInt8)(hl:l.length<=1000000)(step:(List (List UInt8) × Int × Int->Option (List (List UInt8) × Int))->List (List UInt8) × Int × Int->Option (List (List UInt8) × Int))
 (hs:∀(r:List (List UInt8) × Int × Int->Option (List (List UInt8) × Int)) (out:List (List UInt8)) (a i:Nat),a<=i->i<=l.length->out.length<=1000001->
   step r (out,(a:Int),(i:Int))=if i<l.length/\ix l (i:Int)≠32 then r (out,(a:Int),((i+1:Nat):Int))else if jdy ((l.drop a).take (i - a))=true then r (out++[(l.drop a).take (i - a)],((i+1:Nat):Int),((i+1:Nat):Int))else some ([],3))
 (he:∀(r:List (List UInt8) × Int × Int->Option (List (List UInt8) × Int)) (out:List (List UInt8)) (a:Nat),step r (out,(a:Int),((l.length+1:Nat):Int))=some (out,0)):
 ∀(k i a:Nat) (out:List (List UInt8)),a<=i->i<=l.length->32∉(l.drop a).take (i - a)->l.length - i+1<k->out.length<=a->
  Yg step k (out,(a:Int),(i:Int))=if(rest 32 l a).all jdy=true then some (out++rest 32 l a,0)else some ([],3)
 |0,i,a,out,_,_,_,h,_=>by omega
 |k + 1,i,a,out,h1,h2,hno,hk,ho=>by
  rw[kY,hs _ out a i h1 h2 (by omega)]
  obtain⟨c1,c2⟩:=jjM 32 l a i h1 h2 hno
  by_cases hc:i<l.length/\ix l (i:Int)≠32
  ·rw[if_pos hc]
   exact xJ l hl step hs he k (i+1) a out (by omega) (by omega) (jf9 32 l a i h1 hc.1 hno hc.2) (by omega) ho
  ·rw[if_neg hc]
   by_cases hi:i=l.length
   ·rw[c1 hi]
    simp only[List.all_cons,List.all_nil,Bool.and_true]
    by_cases hf:jdy ((l.drop a).take (i - a))=true
    ·rw[if_pos hf,if_pos hf]
     obtain⟨k,rfl⟩:∃j,k=j+1:=⟨k - 1,by omega⟩
     rw[kY,hi,he]
    ·rw[if_neg hf,if_neg hf]
   ·have hi2:i<l.length:=by omega
    have h32:ix l (i:Int)=32:=Classical.byContradiction fun q=>hc ⟨hi2,q⟩
    rw[c2 hi2 h32,List.all_cons]
    by_cases hf:jdy ((l.drop a).take (i - a))=true
    ·rw[if_pos hf,hf,Bool.true_and,xJ l hl step hs he k (i+1) (i+1) _ (Nat.le_refl _) (by omega) (by simp) (by omega) (by simp;omega),List.append_assoc]
     rfl
    ·rw[if_neg hf,if_neg (by rw[Bool.and_eq_true];exact fun q=>hf q.1)]
theorem jaO (l:List UInt8)(hl:l.length<=1000000):qO l=some (ky l):=by
 unfold qO ky
 simp only[jj,jI]
 by_cases h0:l=[]
 ·subst h0;rfl
 ·have e0:(l==#[].toList)=false:=by rw[beq_eq_false_iff_ne];exact h0
  rw[e0,if_neg h0]
  simp only[ff,if_false]
  refine(xJ l hl _ ?_ ?_ fuel 0 0 [] (Nat.le_refl _) (Nat.zero_le _) (by simp) (by have:fuel=2 ^ 70:=rfl;omega) (Nat.zero_le _)).trans ?_
  ·intro r out a i h1 h2 ho
   simp only
   rw[if_pos (by rw[decide_eq_true_iff];omega),w1 i (by omega)]
   have hc:(bif decide ((i:Int)<(l.length:Int))then ix l (i:Int) != toByte 32 else false)=decide (i<l.length/\ix l (i:Int)≠32):=by
    by_cases h:i<l.length
    ·rw[decide_eq_true (by omega)]
     show(ix l (i:Int) != 32)=_
     by_cases hq:ix l (i:Int)=32
     ·rw[hq,decide_eq_false (by simp)];rfl
     ·rw[decide_eq_true ⟨h,hq⟩,bne_iff_ne];exact hq
    ·rw[decide_eq_false (by omega),decide_eq_false (by omega)];rfl
   rw[ju (fun h=>by simp at h;omega),hc]
   by_cases hq:i<l.length/\ix l (i:Int)≠32
   ·rw[if_pos (decide_eq_true hq),if_pos hq]
   ·rw[if_neg (by rw[decide_eq_true_iff];exact hq),if_neg hq,ju ⟨by omega,by omega,by omega⟩,jfm,jeX _ (vk (n:=1000000) (by rw[List.length_take,List.length_drop];omega) (by omega)),jb]
    cases jdy ((l.drop a).take (i - a))
    ·rfl
    ·simp only[Bool.not_true,ff,if_false,if_true]
     rw[ju ⟨by omega,by omega,by omega⟩,ju (by simp;omega)]
  ·intro r out a
   simp only
   rw[if_neg (by rw[decide_eq_true_iff];omega)]
  ·unfold rest
   rw[if_pos (Nat.zero_le _),List.drop_zero,List.nil_append]
   split <;> rfl
def Xm (l:List UInt8):List (List UInt8) × Int:=if l=[]then([],0)else if VI 10 l=true then(spl 10 l.dropLast,0)else([],3)
theorem jan (l:List UInt8)(hl:l.length<=1000000):zd l=some (Xm l):=by
 unfold zd Xm
 simp only[jj]
 by_cases h0:l=[]
 ·subst h0;rfl
 ·have e0:(l==#[].toList)=false:=by rw[beq_eq_false_iff_ne];exact h0
  rw[e0,if_neg h0]
  simp only[ff,if_false]
  rw[Cut1 l 10 (vk hl (by omega)),jb]
  unfold cutC
  cases VI 10 l
  ·rfl
  ·simp only[Bool.not_true,ff,if_false,if_true]
   rw[jdX _ 10 (by rw[List.length_dropLast];omega),jb]
theorem pY (l:List UInt8)(hl:l.length<=1000000)(fin:List (List UInt8)->Nat->Option (List (List UInt8) × Int))(step:(List (List UInt8) × Int × Int->Option (List (List UInt8) × Int))->List (List UInt8) × Int × Int->Option (List (List UInt8) × Int))
 (hs:∀(r:List (List UInt8) × Int × Int->Option (List (List UInt8) × Int)) (out:List (List UInt8)) (a i:Nat),a<=i->i<l.length->out.length<=1000001->
   step r (out,(a:Int),(i:Int))=if ix l (i:Int)=10 then r (out++[(l.drop a).take (i - a)],((i+1:Nat):Int),((i+1:Nat):Int))else r (out,(a:Int),((i+1:Nat):Int)))
 (he:∀(r:List (List UInt8) × Int × Int->Option (List (List UInt8) × Int)) (out:List (List UInt8)) (a:Nat),step r (out,(a:Int),(l.length:Int))=fin out a):
 ∀(k i a:Nat) (out:List (List UInt8)),a<=i->i<=l.length->10∉(l.drop a).take (i - a)->l.length - i<k->out.length<=a->
  ∃out' a',a'<=l.length/\rest 10 l a'=[l.drop a']/\out++rest 10 l a=out'++[l.drop a']/\Yg step k (out,(a:Int),(i:Int))=fin out' a'
 |0,i,a,out,_,_,_,h,_=>by omega
 |k + 1,i,a,out,h1,h2,hno,hk,ho=>by
  rw[kY]
  obtain⟨c1,c2⟩:=jjM 10 l a i h1 h2 hno
  by_cases hi:i=l.length
  ·subst hi
   have h3:(l.drop a).take (l.length - a)=l.drop a:=List.take_of_length_le (by rw[List.length_drop];omega)
   rw[h3]at c1
   exact⟨out,a,h1,c1 rfl,by rw[c1 rfl],he _ _ _⟩
  ·have hi2:i<l.length:=by omega
   rw[hs _ out a i h1 hi2 (by omega)]
   by_cases hc:ix l (i:Int)=10
   ·rw[if_pos hc]
    obtain⟨out',a',g1,g2,g3,g4⟩:=pY l hl fin step hs he k (i+1) (i+1) (out++[(l.drop a).take (i - a)]) (Nat.le_refl _) (by omega) (by simp) (by omega) (by simp;omega)
    exact⟨out',a',g1,g2,by rw[<-g3,c2 hi2 hc];simp,g4⟩
   ·rw[if_neg hc]
    exact pY l hl fin step hs he k (i+1) a out (by omega) (by omega) (jf9 10 l a i h1 hi2 hno hc) (by omega) ho
theorem jbF (c x:UInt8)(t:List UInt8)(h:t≠[]):VI c (x::t)=VI c t:=by
 unfold VI
 cases t with
 |nil=>exact absurd rfl h
 |cons y t=>rw[List.getLast?_cons_cons]
theorem MR (c:UInt8):∀l:List UInt8,(spl c l).getLast? = some []->l=[]\/VI c l=true
 | [],_=>.inl rfl
 |x :: t,h=>by
  right
  have hne:=Xh c t
  rw[Zn]at h
  by_cases hx:x=c
  ·rw[if_pos hx]at h
   cases t with
   |nil=>subst hx;unfold VI;simp
   |cons y t=>
    rw[jbF c x _ (by simp)]
    have h':(spl c (y::t)).getLast? = some []:=by
     cases hq:spl c (y::t)with
     |nil=>exact absurd hq hne
     |cons p ps=>rw[hq,List.getLast?_cons_cons]at h;exact h
    rcases MR c (y::t) h' with g|g
    ·cases g
    ·exact g
  ·rw[if_neg hx]at h
   cases hq:spl c t with
   |nil=>exact absurd hq hne
   |cons p ps=>
    rw[hq]at h
    cases ps with
    |nil=>simp at h
    |cons q qs=>
     simp only[List.getLast?_cons_cons]at h
     have h':(spl c t).getLast? = some []:=by rw[hq,List.getLast?_cons_cons];exact h
     have ht:t≠[]:=by rintro rfl;simp[spl]at hq
     rw[jbF c x t ht]
     rcases MR c t h' with g|g
     ·exact absurd g ht
     ·exact g
theorem jc9 (c:UInt8):∀p:List UInt8,spl c (p++[c])=spl c p++[[]]
 | []=>by rw[List.nil_append,Zn,if_pos rfl];rfl
 |x :: p=>by
  rw[List.cons_append,Zn,Zn,jc9 c p]
  by_cases h:x=c
  ·rw[if_pos h,if_pos h];rfl
  ·rw[if_neg h,if_neg h]
   cases hq:spl c p with
   |nil=>exact absurd hq (Xh _ _)
   |cons q qs=>rfl
theorem jdH {c:UInt8}{l:List UInt8}(h:VI c l=true):l=l.dropLast++[c]:=by
 unfold VI at h
 rw[decide_eq_true_iff]at h
 have hne:l≠[]:=by rintro rfl;cases h
 rw[List.getLast?_eq_some_getLast hne]at h
 have:=List.dropLast_concat_getLast hne
 rw[Option.some.inj h]at this
 exact this.symm
theorem XF (l:List UInt8)(hl:l.length<=1000000):qd l=some (Xm l):=by
 unfold qd
 simp only[jj,jI]
 have main : ∀step,(∀(r:List (List UInt8) × Int × Int->Option (List (List UInt8) × Int)) (out:List (List UInt8)) (a i:Nat),a<=i->i<l.length->out.length<=1000001->
  step r (out,(a:Int),(i:Int))=if ix l (i:Int)=10 then r (out++[(l.drop a).take (i - a)],((i+1:Nat):Int),((i+1:Nat):Int))else r (out,(a:Int),((i+1:Nat):Int)))->
  (∀(r:List (List UInt8) × Int × Int->Option (List (List UInt8) × Int)) (out:List (List UInt8)) (a:Nat),step r (out,(a:Int),(l.length:Int))=if a<l.length then some ([],3)else some (out,0))->
  Yg step fuel ([],(0:Int),(0:Int))=some (Xm l):=by
  intro step hs he
  obtain⟨out,a,g1,g2,g3,g4⟩:=pY l hl (fun out a=>if a<l.length then some ([],3)else some (out,0)) step hs he fuel 0 0 [] (Nat.le_refl _) (Nat.zero_le _) (by simp) (by have:fuel=2 ^ 70:=rfl;omega) (Nat.zero_le _)
  refine g4.trans ?_
  have e0:rest 10 l 0=spl 10 l:=by unfold rest;rw[if_pos (Nat.zero_le _),List.drop_zero]
  rw[e0,List.nil_append]at g3
  unfold Xm
  by_cases h0:l=[]
  ·subst h0
   rw[if_pos rfl,if_neg (by simp)]
   have:a=0:=by simpa using g1
   subst this
   have:out=[]:=by
    have:=congrArg List.length g3
    simp[spl]at this
    exact this
   subst this
   rfl
  ·rw[if_neg h0]
   by_cases ha:a<l.length
   ·rw[if_pos ha]
    have h10:(10:UInt8)∉l.drop a:=by
     have:=jaH 10 (l.drop a) (l.drop a) (by unfold rest at g2;rw[if_pos g1]at g2;rw[g2];simp)
     exact this
    have:VI 10 l=false:=by
     cases he:VI 10 l
     ·rfl
     ·exfalso
      unfold VI at he
      rw[decide_eq_true_iff]at he
      apply h10
      have h2:(l.drop a).getLast? = l.getLast? := by rw[List.getLast?_drop,if_neg (by omega)]
      rw[he]at h2
      exact List.mem_of_getLast? h2
    rw[this];rfl
   ·rw[if_neg ha]
    have:a=l.length:=by omega
    subst this
    rw[List.drop_length]at g3
    have he:=MR 10 l (by rw[g3];simp)
    rcases he with he|he
    ·exact absurd he h0
    ·rw[he,if_pos rfl]
     have h1:=jdH he
     have h2:=jc9 10 l.dropLast
     rw[<-h1,g3]at h2
     rw[List.append_cancel_right h2]
 refine main _ ?_ ?_
 ·intro r out a i h1 h2 ho
  simp only
  rw[if_pos (by rw[decide_eq_true_iff];omega),w1 i (by omega),ju ⟨by omega,by omega⟩,jfm]
  by_cases hc:ix l (i:Int)=10
  ·rw[hc,if_pos rfl,if_pos (by rfl),ju ⟨by omega,by omega,by omega⟩,ju (by simp;omega)]
  ·rw[if_neg hc,if_neg]
   show ¬ (ix l (i:Int)==10)=true
   simpa using hc
 ·intro r out a
  simp only[dll,ff,if_false]
  by_cases ha:a<l.length
  ·rw[if_pos ha,if_pos (by rw[decide_eq_true_iff];omega)]
  ·rw[if_neg ha,if_neg (by rw[decide_eq_true_iff];omega)]
theorem Uy (x:List UInt8)(r:List (List UInt8)):Lib.joinTail [32] (x::r)=32::x++Lib.joinTail [32] r:=by
 unfold Lib.joinTail
 simp
def flat (c:UInt8)(L:List (List UInt8)):List UInt8:=L.flatMap fun p=>p++[c]
theorem KC (c:UInt8)(p:List UInt8)(L:List (List UInt8)):flat c (p::L)=p++c::flat c L:=by unfold flat;simp
theorem XZ (c:UInt8):∀l,flat c (spl c l)=l++[c]
 | []=>rfl
 |x :: l=>by
  have ih:=XZ c l
  rw[Zn]
  by_cases h:x=c
  ·rw[if_pos h,KC,ih,h];rfl
  ·rw[if_neg h]
   cases hq:spl c l with
   |nil=>exact absurd hq (Xh _ _)
   |cons p ps=>
    rw[hq,KC]at ih
    simp only
    rw[KC,List.cons_append,ih];rfl
theorem ja8 (s:List UInt8):(s≠[]/\VI 10 s=false/\Xm s=([],3))\/(∃L,Xm s=(L,0)/\flat 10 L=s/\(∀p∈L,(10:UInt8)∉p)/\L.length<=s.length+1):=by
 unfold Xm
 by_cases h0:s=[]
 ·subst h0
  exact .inr ⟨[],rfl,rfl,by simp,by simp⟩
 ·rw[if_neg h0]
  cases he:VI 10 s
  ·exact .inl ⟨h0,rfl,rfl⟩
  ·refine .inr ⟨_,rfl,?_,jaH 10 _,?_⟩
   ·rw[XZ,<-jdH he]
   ·rw[UU]
    have:=List.count_le_length (a:=(10:UInt8)) (l:=s.dropLast)
    rw[List.length_dropLast]at this
    omega
theorem jg1:∀(k:Nat) (l:List UInt8),l.length<=k->l≠[]->l.all isD=true->(l.head? = some 48->l=[48])->jhH (dv l)=l
 |0,l,h,hne,_,_=>by exact absurd (List.eq_nil_of_length_eq_zero (by omega)) hne
 |k + 1,l,h,hne,hd,h0=>by
  obtain⟨p,c,rfl⟩:∃p c,l=p++[c]:=⟨l.dropLast,l.getLast hne,(List.dropLast_concat_getLast hne).symm⟩
  rw[List.all_append,Bool.and_eq_true]at hd
  have hc:isD c=true:=by have:=hd.2;simpa using this
  obtain⟨c1,c2⟩:=Ww.1 hc
  have ec:UInt8.ofNat (48+(c.toNat - 48))=c:=by rw[show 48+(c.toNat - 48)=c.toNat by omega];exact UInt8.ofNat_toNat
  rw[jgZ]
  by_cases hp:p=[]
  ·subst hp
   show jhH (10*0+(c.toNat - 48))=[c]
   rw[jcL (by omega),show 10*0+(c.toNat - 48)=c.toNat - 48 by omega,ec]
  ·have hh:p.head? ≠ some 48:=by
    intro q
    have:(p++[c]).head? = some 48:=by
     cases p with
     |nil=>exact absurd rfl hp
     |cons x p=>exact q
    have:=congrArg List.length (h0 this)
    simp at this
    exact hp this
   have ih:=jg1 k p (by simp at h;omega) hp hd.1 (fun q=>absurd q hh)
   have hpos:1<=dv p:=by
    rcases Nat.eq_zero_or_pos (dv p)with h|h
    ·rw[h,jcL (by omega)]at ih
     rw[<-ih]at hh
     exact absurd rfl hh
    ·exact h
   rw[jlf (by omega),show(10*dv p+(c.toNat - 48)) / 10=dv p by omega,show(10*dv p+(c.toNat - 48)) % 10=c.toNat - 48 by omega,ih,ec]
theorem jk9 (s:List UInt8)(hi:isInt s=true):wR (sgn s (dv (body s)))=s:=by
 obtain⟨hd,hne⟩:=xC hi
 have hz:=jeA hi
 have hh:(body s).head? = some 48->s=[48]:=by
  intro q
  unfold isInt at hi
  cases hb:body s with
  |nil=>exact absurd hb hne
  |cons x l=>
   rw[hb]at hi q
   simp only[Bool.and_eq_true,Bool.or_eq_true,decide_eq_true_eq]at hi
   rcases hi.2 with h|h
   ·exact absurd (by simpa using q) h
   ·exact h
 by_cases h48:s=[48]
 ·subst h48
  show wR 0=[48]
  unfold wR
  rw[if_neg (by decide),show Int.natAbs 0=0 from rfl,jcL (by omega)];rfl
 have hh:(body s).head? ≠ some 48:=fun q=>h48 (hh q)
 have e:=jg1 _ (body s) (Nat.le_refl _) hne hd (fun q=>absurd q hh)
 have hpos:dv (body s)≠0:=fun q=>h48 (hz.1 q)
 cases s with
 |nil=>exact absurd rfl hne
 |cons x l=>
  unfold wR sgn
  by_cases h:x=45
  ·have e1:body (x::l)=l:=if_pos h
   have e2:isNeg (x::l)=true:=by subst h;rfl
   rw[e1]at e hpos⊢
   rw[e2,if_pos rfl,if_pos (by omega),Int.natAbs_neg,Int.natAbs_natCast,e,h]
  ·have e1:body (x::l)=x::l:=if_neg h
   have e2:isNeg (x::l)=false:=by show(x==45)=false;simpa using h
   rw[e1]at e hpos⊢
   rw[e2]
   simp only[ff,if_false]
   rw[if_neg (by omega),Int.natAbs_natCast,e]
end GoForm
