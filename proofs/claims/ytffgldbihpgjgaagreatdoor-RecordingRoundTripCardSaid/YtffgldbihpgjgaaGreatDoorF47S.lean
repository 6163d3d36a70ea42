/-
  Plain laws of numbers and fields as text. No conditions.
-/
import Derived.Test.YtffgldbihpgjgaaGreatDoorF47D
import Derived.Test.YtffgldbihpgjgaaGreatDoorQE
import Derived.Lib.DecodeN
set_option linter.all false
set_option maxRecDepth 100000
open Go Go.Rx
namespace GoForm
def Yx (m:Nat):List UInt8:=if h:m<10 then[UInt8.ofNat (48+m)]else Yx (m / 10)++[UInt8.ofNat (48+m % 10)]
termination_by m
decreasing_by omega
theorem ZN {m:Nat}(h:m<10):Yx m=[UInt8.ofNat (48+m)]:=by rw[Yx,dif_pos h]
theorem Vp {m:Nat}(h:¬ m<10):Yx m=Yx (m / 10)++[UInt8.ofNat (48+m % 10)]:=by rw[Yx,dif_neg h]
theorem YE (m:Nat):1<=(Yx m).length:=by
 by_cases h:m<10
 ·rw[ZN h];exact Nat.le_refl _
 ·rw[Vp h,List.length_append];simp
theorem Ka:∀(k m:Nat),m<10 ^ (k+1)->(Yx m).length<=k+1
 |0,m,h=>by rw[ZN (by simpa using h)];exact Nat.le_refl _
 |k + 1,m,h=>by
  by_cases h10:m<10
  ·rw[ZN h10];simp
  ·rw[Vp h10,List.length_append]
   have:=Ka k (m / 10) (by rw[Nat.pow_succ]at h;omega)
   simp;omega
def yv (n:Int):List UInt8:=if n<0 then 45::Yx n.natAbs else Yx n.natAbs
def YH (x:Int):List UInt8:=if x≠0/\x.tmod 65536=0 then yv (x.tdiv 65536)++[117]else yv x
theorem KH {α:Type}(l:List α)(i:Nat)(x:α)(h:i<l.length):(l.set i x).drop i=x::l.drop (i+1):=by
 rw[List.drop_eq_getElem_cons (by simpa using h),List.getElem_set_self]
 congr 1
 apply List.ext_getElem?
 intro j
 rw[List.getElem?_drop,List.getElem?_drop,List.getElem?_set_ne (by omega)]
theorem ud (m:Nat)(h:m<10):toByte (IntKind.u64.wrap (48+(m:Int)))=UInt8.ofNat (48+m):=by
 rw[Kh]
 unfold toByte
 congr 1
 omega
theorem jbB (K:Nat->List UInt8->Option (List UInt8))(step:(Int × Int × List UInt8->Option (List UInt8))->Int × Int × List UInt8->Option (List UInt8))
 (hs:∀(r:Int × Int × List UInt8->Option (List UInt8)) (m at_:Nat) (buf:List UInt8),m<18446744073709551616->1<=at_->at_<=20->buf.length=20->
   step r ((m:Int),(at_:Int),buf)=if m / 10=0 then K (at_ - 1) (buf.set (at_ - 1) (UInt8.ofNat (48+m % 10)))else r (((m / 10:Nat):Int),((at_ - 1:Nat):Int),buf.set (at_ - 1) (UInt8.ofNat (48+m % 10)))):
 ∀(n m at_:Nat) (buf:List UInt8),(Yx m).length<=n->m<18446744073709551616->(Yx m).length<=at_->at_<=20->buf.length=20->
  ∃buf',buf'.length=20/\buf'.drop (at_ - (Yx m).length)=Yx m++buf.drop at_/\qw step n ((m:Int),(at_:Int),buf)=K (at_ - (Yx m).length) buf'
 |0,m,at_,buf,h,_,_,_,_=>by have:=YE m;omega
 |n + 1,m,at_,buf,h,hm,ha,ha2,hb=>by
  rw[ZX,hs _ m at_ buf hm (by have:=YE m;omega) ha2 hb]
  by_cases h10:m<10
  ·rw[if_pos (by omega),ZN h10]
   refine⟨_,by rw[List.length_set];exact hb,?_,rfl⟩
   rw[show m % 10=m by omega]
   simp only[List.length_cons,List.length_nil,Nat.zero_add]
   rw[KH _ _ _ (by have:=YE m;omega)]
   have:=YE m
   rw[show at_ - 1+1=at_ by omega];rfl
  ·rw[if_neg (by omega)]
   have hl:(Yx m).length=(Yx (m / 10)).length+1:=by rw[Vp h10,List.length_append];rfl
   have hp:=YE (m / 10)
   obtain⟨buf',h1,h2,h3⟩:=jbB K step hs n (m / 10) (at_ - 1) (buf.set (at_ - 1) (UInt8.ofNat (48+m % 10))) (by omega) (by omega) (by omega) (by omega) (by rw[List.length_set];exact hb)
   refine⟨buf',h1,?_,?_⟩
   ·rw[hl,show at_ - ((Yx (m / 10)).length+1)=at_ - 1 - (Yx (m / 10)).length by omega,h2,KH _ _ _ (by omega),Vp h10,show at_ - 1+1=at_ by omega]
    simp
   ·rw[h3,hl];congr 1;omega
theorem jgQ (m k:Nat):Int.tmod (m:Int) (k:Int)=((m % k:Nat):Int):=by
 rw[Int.tmod_eq_emod_of_nonneg (by omega)];simp
theorem jgR (m k:Nat):Int.tdiv (m:Int) (k:Int)=((m / k:Nat):Int):=by
 rw[Int.tdiv_eq_ediv_of_nonneg (by omega)];simp
def fK (n:Int)(a:Nat)(b:List UInt8):Option (List UInt8):=if n<0 then(if 1<=a then some (((b.set (a - 1) 45).drop (a - 1)).take (20 - (a - 1)))else none)else some ((b.drop a).take (20 - a))
theorem kM (n:Int)(h1:IntKind.i64.min<=n)(h2:n<=IntKind.i64.max):yZ n=some (yv n):=by
 rw[Vf]at h1
 rw[Vg]at h2
 unfold yZ
 simp only[JD,QQ]
 have key:(if n<0 then IntKind.u64.wrap (0 - IntKind.u64.wrap n)else IntKind.u64.wrap n)=(n.natAbs:Int):=by
  rw[Kh,Kh]
  split <;> omega
 have fin:∀(step:(Int × Int × List UInt8->Option (List UInt8))->Int × Int × List UInt8->Option (List UInt8)) (buf:List UInt8),buf.length=20->
  (∀(r:Int × Int × List UInt8->Option (List UInt8)) (m at_:Nat) (buf:List UInt8),m<18446744073709551616->1<=at_->at_<=20->buf.length=20->
  step r ((m:Int),(at_:Int),buf)=if m / 10=0 then fK n (at_ - 1) (buf.set (at_ - 1) (UInt8.ofNat (48+m % 10)))else r (((m / 10:Nat):Int),((at_ - 1:Nat):Int),buf.set (at_ - 1) (UInt8.ofNat (48+m % 10))))->
  qw step fuel ((n.natAbs:Int),(20:Int),buf)=some (yv n):=by
  intro step buf hb hs
  have hl:=Ka 18 n.natAbs (by omega)
  obtain⟨buf',g1,g2,g3⟩:=jbB (fK n) step hs fuel n.natAbs 20 buf (by have:fuel=2 ^ 70:=rfl;omega) (by omega) (by omega) (Nat.le_refl _) hb
  refine g3.trans ?_
  have hd:buf.drop 20=[]:=List.drop_of_length_le (by omega)
  rw[hd,List.append_nil]at g2
  have hp:=YE n.natAbs
  unfold fK yv
  split
  ·rw[if_pos (by omega),KH _ _ _ (by omega),show 20 - (Yx n.natAbs).length - 1+1=20 - (Yx n.natAbs).length by omega,g2]
   rw[List.take_of_length_le (by simp;omega)]
  ·rw[g2,List.take_of_length_le (by omega)]
 by_cases hn:n<0
 ·rw[if_pos hn]at key
  simp only[hn,decide_true,if_true,key]
  refine fin _ _ rfl ?_
  intro r m at_ buf hm ha ha2 hb
  have e1:IntKind.i64.wrap ((at_:Int) - 1)=((at_ - 1:Nat):Int):=by rw[qq _ (by omega) (by omega)];omega
  have e2:Int.tmod (m:Int) 10=((m % 10:Nat):Int):=jgQ m 10
  have e3:IntKind.u64.wrap (Int.tdiv (m:Int) 10)=((m / 10:Nat):Int):=by rw[show Int.tdiv (m:Int) 10=((m / 10:Nat):Int)from jgR m 10,Kh];omega
  simp only[e1,e2,e3,ud (m % 10) (by omega),Int.toNat_natCast]
  rw[jV (by omega),jV (by rw[hb];omega)]
  by_cases h0:m / 10=0
  ·rw[if_pos h0,if_pos (by rw[h0];rfl)]
   unfold fK
   rw[if_pos hn]
   have e4:IntKind.i64.wrap (((at_ - 1:Nat):Int) - 1)=(at_:Int) - 2:=by rw[qq _ (by omega) (by omega)];omega
   rw[e4]
   by_cases h1:1<=at_ - 1
   ·rw[if_pos h1,jV (by omega),jV (by rw[List.length_set,hb];omega)]
    have e5:((at_:Int) - 2).toNat=at_ - 1 - 1:=by omega
    simp only[e5,Option.getD_some,Option.getD_none]
    rw[jV ⟨by omega,by omega,by omega,Nat.le_refl _,by rw[List.length_set,List.length_set,hb];exact Nat.le_refl _⟩,jV (by rw[List.length_set,List.length_set,hb];omega)]
    rfl
   ·rw[if_neg h1]
    unfold Chk
    rw[if_neg (by omega)]
  ·rw[if_neg h0,if_neg (by rw[beq_iff_eq];omega)]
 ·rw[if_neg hn]at key
  simp only[hn,decide_false,ff,if_false,key]
  refine fin _ _ rfl ?_
  intro r m at_ buf hm ha ha2 hb
  have e1:IntKind.i64.wrap ((at_:Int) - 1)=((at_ - 1:Nat):Int):=by rw[qq _ (by omega) (by omega)];omega
  have e2:Int.tmod (m:Int) 10=((m % 10:Nat):Int):=jgQ m 10
  have e3:IntKind.u64.wrap (Int.tdiv (m:Int) 10)=((m / 10:Nat):Int):=by rw[show Int.tdiv (m:Int) 10=((m / 10:Nat):Int)from jgR m 10,Kh];omega
  simp only[e1,e2,e3,ud (m % 10) (by omega),Int.toNat_natCast]
  rw[jV (by omega),jV (by rw[hb];omega)]
  by_cases h0:m / 10=0
  ·rw[if_pos h0,if_pos (by rw[h0];rfl)]
   unfold fK
   rw[if_neg hn]
   simp only[Option.getD_some,Option.getD_none]
   rw[jV ⟨by omega,by omega,by omega,Nat.le_refl _,by rw[List.length_set,hb];exact Nat.le_refl _⟩,jV (by rw[List.length_set,hb];omega)]
  ·rw[if_neg h0,if_neg (by rw[beq_iff_eq];omega)]
theorem uu (n:Int)(h1:IntKind.i64.min<=n)(h2:n<=IntKind.i64.max):(yv n).length<=20/\1<=(yv n).length:=by
 have hl:=Ka 18 n.natAbs (by rw[Vf]at h1;rw[Vg]at h2;omega)
 have hp:=YE n.natAbs
 unfold yv
 split
 ·rw[List.length_cons];omega
 ·omega
theorem jeZ (x:Int)(h1:IntKind.i64.min<=x)(h2:x<=IntKind.i64.max):IntKind.i64.wrap (x.tdiv 65536)=x.tdiv 65536/\IntKind.i64.min<=x.tdiv 65536/\x.tdiv 65536<=IntKind.i64.max:=by
 rw[Vf]at*
 rw[Vg]at*
 have e:(x.tdiv 65536).natAbs=x.natAbs / 65536:=by rw[Int.natAbs_tdiv];rfl
 exact⟨qq _ (by omega) (by omega),by omega,by omega⟩
theorem YR (x:Int)(h1:IntKind.i64.min<=x)(h2:x<=IntKind.i64.max):yz x=some (YH x):=by
 obtain⟨e1,b1,b2⟩:=jeZ x h1 h2
 unfold yz YH
 simp only[JD,e1,kM _ b1 b2,kM _ h1 h2,jG,Yq]
 have hc:((x != 0&&x.tmod 65536==0)=true)↔(x≠0/\x.tmod 65536=0):=by rw[Bool.and_eq_true,bne_iff_ne,beq_iff_eq]
 by_cases h:x≠0/\x.tmod 65536=0
 ·rw[if_pos h,if_pos (hc.2 h),jV (by have:=(uu _ b1 b2).1;omega)]
 ·rw[if_neg h,if_neg (fun q=>h (hc.1 q))]
theorem jev (s:List UInt8)(p:Nat):(⟨s.toArray⟩:ByteArray).get! p=ix s (p:Int):=by
 unfold ix
 rw[Int.toNat_natCast]
 show s.toArray[p]! = _
 simp[List.getD_eq_getElem?_getD,getElem!_def]
 cases h:s[p]? <;> simp[h]
theorem jg3 (s:List UInt8)(p:Nat)(h:ix s (p:Int)<128):Utf8.decode ⟨s.toArray⟩ p=((ix s (p:Int)).toNat,1):=by
 rw[Lib.decode_at,jev]
 unfold Lib.decodeN
 rw[if_pos]
 exact h
theorem jg4 (s:List UInt8)(p:Nat)(h:¬ ix s (p:Int)<128):128<=(Utf8.decode ⟨s.toArray⟩ p).1:=by
 rw[Lib.decode_at,jev]
 have h':¬ (ix s (p:Int)).toNat<128:=fun q=>h q
 unfold Lib.decodeN
 rw[if_neg h']
 split
 ·split <;> simp only <;> omega
 ·split
  ·split <;> simp only <;> omega
  ·split
   ·split <;> simp only <;> omega
   ·simp only;omega
def isD (c:UInt8):Bool:=decide (48<=c.toNat)&&decide (c.toNat<=57)
theorem Kz {c:UInt8}:isD c=true↔48<=c.toNat/\c.toNat<=57:=by unfold isD;simp
def dv (l:List UInt8):Nat:=l.foldl (fun n c=>10*n+(c.toNat - 48)) 0
theorem XP (l:List UInt8)(c:UInt8):dv (l++[c])=10*dv l+(c.toNat - 48):=by unfold dv;rw[List.foldl_append];rfl
theorem MT (l:List UInt8)(i:Nat)(h:i<l.length):l.take (i+1)=l.take i++[ix l (i:Int)]:=by
 rw[List.take_add_one,Ui l i h,List.getElem?_eq_getElem h];rfl
def LIM:Nat:=4611686018427387905
def dec (neg:Bool)(n:Nat):jq:=⟨neg,(min n LIM:Nat),(n % 65536:Nat)⟩
theorem jfB (rest:List UInt8)(neg:Bool)(z bad:jq)(step:(jq × jq × List UInt8 × Nat->Option (jq × Bool))->jq × jq × List UInt8 × Nat->Option (jq × Bool))(hl:Sm rest)
 (hs:∀(r:jq × jq × List UInt8 × Nat->Option (jq × Bool)) (z:jq) (n p:Nat),p<rest.length->step r (z,dec neg n,rest,p)=if isD (ix rest (p:Int))=true then r (z,dec neg (10*n+((ix rest (p:Int)).toNat - 48)),rest,p+1)else some (bad,false))
 (he:∀(r:jq × jq × List UInt8 × Nat->Option (jq × Bool)) (z d:jq),step r (z,d,rest,rest.length)=some (d,true)):
 qw step fuel (z,dec neg 0,rest,0)=if rest.all isD=true then some (dec neg (dv rest),true)else some (bad,false):=by
 refine LOOP_g rest (fun v=>(v.2.2.2:Int)) (fun i v=>v.2.2.1=rest/\v.2.1=dec neg (dv (rest.take i))) (fun t _=>if t.all isD=true then some (dec neg (dv rest),true)else some (bad,false)) step _ hl rfl ⟨rfl,rfl⟩ ?_ ?_
 ·rintro r i t ⟨z,d,l,p⟩ hp ⟨h1,h2⟩ hw hc hm hr
  simp only at hp h1 h2
  subst h1 h2
  have hp:p=i:=by omega
  subst hp
  rw[hs r z _ p (by omega),List.all_cons]
  by_cases hd:isD (ix l (p:Int))=true
  ·rw[if_pos hd,hr _ (by simp) ⟨rfl,by rw[MT l p (by omega),XP]⟩,hd,Bool.true_and]
  ·rw[if_neg hd,if_neg (by rw[Bool.and_eq_true];exact fun h=>hd h.1)]
 ·rintro r ⟨z,d,l,p⟩ hp ⟨h1,h2⟩
  simp only at hp h1 h2
  subst h1 h2
  have hp:p=l.length:=by omega
  subst hp
  rw[he,List.take_length];rfl
theorem jcD:∀k:Nat,k<10->IntKind.u64.wrap (IntKind.i32.wrap (k:Int))=(k:Int):=by decide
theorem Mx (s:List UInt8)(c:UInt8)(hl:Sm s):Ye s [c]=some (match s with| []=>false|x::_=>x==c):=by
 unfold Ye
 simp only[JD]
 cases s with
 |nil=>rfl
 |cons x l=>
  have e1:decide (((x::l).length:Int)>=(([c]:List UInt8).length:Int))=true:=by rw[decide_eq_true_iff];simp;omega
  rw[e1,jV (fun _=>⟨by simp,by simp;omega⟩)]
  simp
def isNeg:List UInt8->Bool
 | []=>false
 |x::_=>x==45
def body:List UInt8->List UInt8
 | []=>[]
 |x::l=>if x=45 then l else x::l
theorem jd5 (s:List UInt8)(hl:Sm s):qm s [45]=some (body s,isNeg s):=by
 unfold qm qc
 rw[Mx s 45 hl,jG]
 cases s with
 |nil=>rfl
 |cons x l=>
  simp only[JD]
  by_cases h:x=45
  ·subst h
   rw[if_neg (by decide),jV ⟨by simp,by simp;omega⟩]
   rfl
  ·have e:(x==45)=false:=by rw[beq_eq_false_iff_ne];exact h
   simp only[e]
   rw[if_pos (by rfl)]
   simp[body,isNeg,h,e,jG]
def isInt (s:List UInt8):Bool:=match body s with
 | []=>false
 |x::l=>(x::l).all isD&&(decide (x≠48)||decide (s=[48]))
theorem kz (s : List UInt8)(hl:Sm s):yU s=some (if isInt s=true then(dec (isNeg s) (dv (body s)),true)else(⟨false,0,0⟩,false)):=by
 unfold yU
 rw[show(#[(45:UInt8)].toList:List UInt8)=[45]from rfl,jd5 s hl,jG]
 simp only[JD,Zf,Yq,QQ]
 have hbl:Sm (body s):=by
  unfold Sm at hl⊢
  cases s with
  |nil=>exact hl
  |cons x l=>
   show(if x=45 then l else x::l).length<2 ^ 62
   simp only[List.length_cons]at hl
   split
   ·omega
   ·rw[List.length_cons];omega
 unfold isInt
 cases hb:body s with
 |nil=>rfl
 |cons x l=>
  have e1:((x::l:List UInt8)==#[].toList)=false:=rfl
  rw[e1,jV (fun _=>⟨by simp,by simp⟩)]
  have e2:ix (x::l) (0:Int)=x:=rfl
  have e3:toByte (48:Int)=48:=rfl
  rw[e2,e3,Bool.false_or]
  have e4:(x==48&&s != [48]) = !(decide (x≠48)||decide (s=[48])):=by
   by_cases h1:x=48 <;> by_cases h2:s=[48] <;> simp[h1,h2]
  rw[e4]
  cases hg:(decide (x≠48)||decide (s=[48]))
  ·rw[if_pos (show(!false)=true from rfl)]
   simp only[hg,Bool.and_false,ff,if_false]
  ·rw[if_neg (by simp)]
   simp only[hg,Bool.and_true]
   have e0:({negative:=isNeg s,JU:=(0:Int),unit:=(0:Int)}:jq)=dec (isNeg s) 0:=rfl
   rw[e0]
   refine Eq.trans (jfB (x::l) (isNeg s) ⟨false,0,0⟩ ⟨false,0,0⟩ _ (by rw[<-hb];exact hbl) ?_ ?_) ?_
   rotate_left 2
   ·split <;> rfl
   ·intro r z n p hp
    rw[if_pos (by rw[decide_eq_true_iff];exact hp)]
    simp only
    by_cases hc:ix (x::l) (p:Int)<128
    ·rw[jg3 _ _ hc]
     simp only
     generalize ix (x::l) (p:Int)=c at hc
     by_cases hd:isD c=true
     ·obtain⟨g1,g2⟩:=Kz.1 hd
      obtain⟨k,hk⟩:∃k:Nat,c.toNat=48+k:=⟨c.toNat - 48,by omega⟩
      have ek:(c.toNat:Int) - 48=(k:Int):=by omega
      rw[if_pos hd,if_neg (by simp;omega),ek,jcD k (by omega),show c.toNat - 48=k by omega]
      have hu:IntKind.u64.wrap (((n % 65536:Nat):Int)*10)=((n % 65536*10:Nat):Int):=by rw[Kh];omega
      have hu2:(IntKind.u64.wrap (((n % 65536*10:Nat):Int)+(k:Int))).tmod 65536=(((10*n+k) % 65536:Nat):Int):=by
       rw[Kh,Int.tmod_eq_emod_of_nonneg (by omega)];omega
      unfold dec
      simp only[hu,hu2]
      by_cases hm:((min n LIM:Nat):Int)>461168601842738790
      ·rw[if_pos (decide_eq_true hm)]
       congr 3
       unfold LIM at hm⊢
       congr 1
       omega
      ·rw[if_neg (by rw[decide_eq_true_iff];exact hm)]
       congr 3
       unfold LIM at hm⊢
       have e5:IntKind.u64.wrap (((min n 4611686018427387905:Nat):Int)*10)=((min n 4611686018427387905*10:Nat):Int):=by rw[Kh];omega
       rw[e5]
       have e6:IntKind.u64.wrap (((min n 4611686018427387905*10:Nat):Int)+(k:Int))=((min n 4611686018427387905*10+k:Nat):Int):=by rw[Kh];omega
       rw[e6]
       congr 1
       omega
     ·rw[if_neg hd,if_pos]
      rw[Kz]at hd
      simp;omega
    ·have:=jg4 _ _ hc
     have hd:¬ isD (ix (x::l) (p:Int))=true:=by
      rw[Kz]
      have:¬ (ix (x::l) (p:Int)).toNat<128:=fun q=>hc q
      omega
     rw[if_neg hd,if_pos]
     simp;omega
   ·intro r z d
    rw[if_neg (by simp)]
def sgn (s:List UInt8)(n:Nat):Int:=if isNeg s=true then -(n:Int)else(n:Int)
def mO (s:List UInt8):Int × Int:=if isInt s=true then(if dv (body s)<=4611686018427387904 then(sgn s (dv (body s)),0)else(0,6))else(0,3)
theorem pD (s:List UInt8)(n:Nat)(h:n<=4611686018427387904):ym (dec (isNeg s) n)=some (sgn s n):=by
 unfold ym dec sgn LIM
 have e:IntKind.i64.wrap ((min n 4611686018427387905:Nat):Int)=(n:Int):=by rw[qq _ (by omega) (by omega)];omega
 simp only[JD,e]
 cases isNeg s
 ·rfl
 ·simp only[if_true]
  rw[qq _ (by omega) (by omega)]
  congr 1;omega
theorem pq (s:List UInt8)(hl:Sm s):jt s=some (mO s):=by
 unfold jt mO
 rw[kz s hl,jG]
 simp only[JD]
 cases hi:isInt s
 ·rfl
 ·simp only[if_true,Bool.not_true,ff,if_false]
  by_cases h:dv (body s)<=4611686018427387904
  ·rw[if_pos h,if_neg,pD s _ h,jG]
   unfold dec LIM
   rw[decide_eq_true_iff]
   simp only;omega
  ·rw[if_neg h,if_pos]
   unfold dec LIM
   rw[decide_eq_true_iff]
   simp only;omega
def dvf (n:Nat)(l:List UInt8):Nat:=l.foldl (fun n c=>10*n+(c.toNat - 48)) n
theorem PM (n:Nat)(c:UInt8)(l:List UInt8):dvf n (c::l)=dvf (10*n+(c.toNat - 48)) l:=by unfold dvf;rw[List.foldl_cons]
theorem jeI:∀(l:List UInt8) (n:Nat),n<=dvf n l
 | [],_=>Nat.le_refl _
 |c::l,n=>by rw[PM];have:=jeI l (10*n+(c.toNat - 48));omega
theorem w1 (i:Nat)(h:i<2 ^ 62):IntKind.i64.wrap ((i:Int)+1)=((i+1:Nat):Int):=by rw[UK i h];omega
theorem Vd {s:List UInt8}(h:isInt s=true):(body s).all isD=true/\body s≠[]:=by
 unfold isInt at h
 cases hb:body s with
 |nil=>rw[hb]at h;cases h
 |cons x l=>rw[hb]at h;simp only[Bool.and_eq_true]at h;exact⟨h.1,by simp⟩
def zu (c:UInt8)(s:List UInt8):Bool:=decide (s.getLast? = some c)
def wz (c:UInt8)(s:List UInt8):List UInt8:=if zu c s=true then s.dropLast else s
theorem jbQ (s:List UInt8)(h:s≠[]):s.drop (s.length - 1)=[s.getLast h]:=by
 rw[List.drop_eq_getElem_cons (by have:=List.length_pos_iff.2 h;omega),List.getLast_eq_getElem,List.drop_of_length_le (by omega)]
theorem jhK (s:List UInt8)(c:UInt8)(hl:Sm s):Ys s [c]=some (wz c s,zu c s):=by
 unfold Ys qb qa
 simp only[JD]
 by_cases h:s=[]
 ·subst h
  unfold wz zu
  simp
 ·have hp:0<s.length:=List.length_pos_iff.2 h
  have e1:decide ((s.length:Int)>=(([c]:List UInt8).length:Int))=true:=by rw[decide_eq_true_iff];simp;omega
  have e2:IntKind.i64.wrap ((s.length:Int) - (([c]:List UInt8).length:Int))=((s.length - 1:Nat):Int):=by
   unfold Sm at hl
   rw[qq _ (by simp;omega) (by simp;omega)];simp;omega
  rw[e1,e2,jV (fun _=>⟨by omega,by omega⟩),Int.toNat_natCast,jbQ s h]
  have e3:([s.getLast h]==[c])=zu c s:=by
   unfold zu
   rw[List.getLast?_eq_some_getLast h]
   by_cases hc:s.getLast h=c <;> simp[hc]
  simp only[e3,cond_true,jG]
  unfold wz
  cases zu c s
  ·rfl
  ·simp only[Bool.not_true,ff,if_false,if_true]
   rw[jV ⟨by omega,by omega⟩,jG,List.dropLast_eq_take]
def Pc (s:List UInt8):Int × Int:=
 if isInt (wz 117 s)=false\/(zu 117 s=true/\dv (body (wz 117 s))=0)\/(zu 117 s=false/\dv (body (wz 117 s))≠0/\dv (body (wz 117 s)) % 65536=0)then(0,3)
 else if zu 117 s=true then(if dv (body (wz 117 s))<=8191 then(sgn (wz 117 s) (dv (body (wz 117 s)))*65536,0)else(0,6))
 else(if dv (body (wz 117 s))<=536870911 then(sgn (wz 117 s) (dv (body (wz 117 s))),0)else(0,6))
theorem jgr {c:UInt8}{s:List UInt8}(h:Sm s):Sm (wz c s):=by
 unfold wz
 split
 ·unfold Sm at h⊢;rw[List.length_dropLast];omega
 ·exact h
theorem UC (s:List UInt8)(hl:Sm s):jl s=some (Pc s):=by
 unfold jl
 rw[show(#[(117:UInt8)].toList:List UInt8)=[117]from rfl,jhK s 117 hl,jG]
 simp only[JD,QQ]
 unfold Pc
 generalize hw:zu 117 s=w
 generalize ht:wz 117 s=t
 have htl:Sm t:=by rw[<-ht];exact jgr hl
 rw[kz t htl,jG]
 cases hi:isInt t
 ·rfl
 ·have e1 : ∀n:Nat,(dec (isNeg t) n).JU=((min n LIM:Nat):Int):=fun _=>rfl
  have e2:∀n:Nat,(dec (isNeg t) n).unit=((n % 65536:Nat):Int):=fun _=>rfl
  generalize hn:dv (body t)=n
  simp only[if_true,Bool.not_true,ff,if_false,e1,e2]
  have z1:((((min n LIM:Nat):Int)==0):Bool)=decide (n=0):=by
   unfold LIM
   by_cases h:n=0
   ·subst h;rfl
   ·rw[decide_eq_false h,beq_eq_false_iff_ne];omega
  have z2:((((n % 65536:Nat):Int)==0):Bool)=decide (n % 65536=0):=by
   by_cases h:n % 65536=0
   ·rw[h];rfl
   ·rw[decide_eq_false h,beq_eq_false_iff_ne];omega
  have z3:decide (((min n LIM:Nat):Int)>8191) = !decide (n<=8191):=by
   unfold LIM
   by_cases h:n<=8191
   ·rw[decide_eq_true h,decide_eq_false (by omega)];rfl
   ·rw[decide_eq_false h,decide_eq_true (by omega)];rfl
  have z4:decide (((min n LIM:Nat):Int)>536870911) = !decide (n<=536870911):=by
   unfold LIM
   by_cases h:n<=536870911
   ·rw[decide_eq_true h,decide_eq_false (by omega)];rfl
   ·rw[decide_eq_false h,decide_eq_true (by omega)];rfl
  simp only[z1,z2,z3,z4]
  have v:=fun(h:n<=4611686018427387904)=>pD t n h
  cases w
  ·by_cases h0:n=0
   ·subst h0
    simp[v (by omega),jG]
   ·by_cases h1:n % 65536=0
    ·simp[h0,h1]
    ·by_cases h2:n<=536870911
     ·simp[h0,h1,h2,v (by omega),jG]
     ·simp[h0,h1,h2]
  ·by_cases h0:n=0
   ·simp[h0]
   ·by_cases h2:n<=8191
    ·have h3:n<=536870911:=by omega
     have e5:IntKind.i64.wrap (sgn t n*65536)=sgn t n*65536:=by
      have:sgn t n=n\/sgn t n = -n:=by unfold sgn;split <;> simp
      rw[qq _ (by omega) (by omega)]
     simp[h0,h2,h3,v (by omega),jG,e5]
    ·simp[h0,h2]
theorem Mc {t:List UInt8}(h:isInt t=true):dv (body t)=0↔t=[48]:=by
 obtain⟨hd,hne⟩:=Vd h
 constructor
 ·intro h0
  unfold isInt at h
  cases hb:body t with
  |nil=>exact absurd hb hne
  |cons x l=>
   rw[hb]at h h0 hd
   simp only[Bool.and_eq_true,Bool.or_eq_true,decide_eq_true_eq]at h
   rcases h.2 with h2|h2
   ·exfalso
    have g:=List.all_eq_true.1 hd x (by simp)
    obtain⟨g1,g2⟩:=Kz.1 g
    have hx:x.toNat≠48:=fun q=>h2 (UInt8.toNat_inj.1 q)
    have h3:dv (x::l)=dvf (10*0+(x.toNat - 48)) l:=PM 0 x l
    have:=jeI l (10*0+(x.toNat - 48))
    omega
   ·exact h2
 ·rintro rfl;rfl
theorem jb5 (s:List UInt8)(h:s≠[])(c:UInt8):body (s++[c])=body s++[c]:=by
 cases s with
 |nil=>exact absurd rfl h
 |cons x l=>
  show(if x=45 then l++[c]else(x::l)++[c])=(if x=45 then l else x::l)++[c]
  split <;> rfl
def spl (c:UInt8):List UInt8->List (List UInt8)
 | []=>[[]]
 |x::l=>if x=c then[]::spl c l else match spl c l with
  | []=>[[x]]
  |p::ps=>(x::p)::ps
theorem Qt (c x:UInt8)(l:List UInt8):spl c (x::l)=if x=c then[]::spl c l else match spl c l with
 | []=>[[x]]
 |p::ps=>(x::p)::ps:=by rw[spl]
theorem ue (c:UInt8):∀l,spl c l≠[]
 | []=>by simp[spl]
 |x::l=>by
  unfold spl
  split
  ·simp
  ·split <;> simp
theorem vS (c:UInt8):∀l,(spl c l).length=l.count c+1
 | []=>rfl
 |x :: l=>by
  unfold spl
  have ih:=vS c l
  by_cases h:x=c
  ·rw[if_pos h,List.length_cons,ih,h,List.count_cons_self]
  ·rw[if_neg h,List.count_cons_of_ne h]
   split
   ·rename_i h2;exact absurd h2 (ue c l)
   ·rename_i p ps h2;rw[h2]at ih;exact ih
theorem MY (c:UInt8):∀l,(Lib.indexByte l c<0/\spl c l=[l])\/(∃i:Nat,Lib.indexByte l c=(i:Int)/\i<l.length/\spl c l=l.take i::spl c (l.drop (i+1)))
 | []=>.inl ⟨by unfold Lib.indexByte;decide,rfl⟩
 |x :: l=>by
  unfold Lib.indexByte
  by_cases h:x=c
  ·right
   refine⟨0,by rw[if_pos (by simpa using h)];rfl,by simp,?_⟩
   rw[Qt,if_pos h]
   rfl
  ·have hb:¬ (x==c)=true:=by simpa using h
   rw[if_neg hb]
   rcases MY c l with ⟨h1,h2⟩|⟨i,h1,h2,h3⟩
   ·left
    have:Lib.indexByte l c = -1:=by have:=Lib.indexByte_ge l c;omega
    rw[this]
    refine⟨by decide,?_⟩
    rw[Qt,if_neg h,h2]
   ·right
    refine⟨i+1,?_,by simpa using h2,?_⟩
    ·rw[h1,if_neg (by rw[beq_iff_eq];omega)];rfl
    ·rw[Qt,if_neg h,h3]
     rfl
theorem jbw (c:UInt8)(N:Nat)(hN:N<2 ^ 62)(K:List UInt8->Nat->List (List UInt8)->Option (List (List UInt8)))(step:(List UInt8 × Int × List (List UInt8)->Option (List (List UInt8)))->List UInt8 × Int × List (List UInt8)->Option (List (List UInt8)))
 (hs:∀(r:List UInt8 × Int × List (List UInt8)->Option (List (List UInt8))) (s:List UInt8) (i:Nat) (a:List (List UInt8)),a.length=N+1->i<=N->s.length<2 ^ 62->
   step r (s,(i:Int),a)=if(i:Int)<(N:Int)then(if Lib.indexByte s c<0 then K s i a else r (s.drop ((Lib.indexByte s c).toNat+1),((i+1:Nat):Int),a.set i (s.take (Lib.indexByte s c).toNat)))else K s i a):
 ∀(k i:Nat) (s:List UInt8) (a:List (List UInt8)),s.length<2 ^ 62->a.length=N+1->i+s.count c=N->s.count c<k->
  ∃s' a',a'.length=N+1/\a'.take N=a.take i++(spl c s).dropLast/\spl c s=(spl c s).dropLast++[s']/\qw step k (s,(i:Int),a)=K s' N a'
 |0,i,s,a,_,_,_,h=>by omega
 |k + 1,i,s,a,hl,ha,hi,hk=>by
  rw[ZX,hs _ s i a ha (by omega) hl]
  have hlen:=vS c s
  rcases MY c s with ⟨h1,h2⟩|⟨j,h1,h2,h3⟩
  ·rw[h2]at hlen
   have h0:s.count c=0:=by simp at hlen;exact hlen
   have:i=N:=by omega
   subst this
   refine⟨s,a,ha,by rw[h2];simp,by rw[h2];rfl,?_⟩
   rw[if_neg (by omega)]
  ·rw[h3]at hlen
   rw[List.length_cons,vS]at hlen
   rw[if_pos (by omega),if_neg (by omega),h1,Int.toNat_natCast]
   obtain⟨s',a',g1,g2,g3,g4⟩:=jbw c N hN K step hs k (i+1) (s.drop (j+1)) (a.set i (s.take j)) (by rw[List.length_drop];omega) (by rw[List.length_set];exact ha) (by omega) (by omega)
   refine⟨s',a',g1,?_,?_,g4⟩
   ·rw[g2,h3]
    have:(s.take j::spl c (s.drop (j+1))).dropLast=s.take j::(spl c (s.drop (j+1))).dropLast:=by
     rw[List.dropLast_cons_of_ne_nil (ue _ _)]
    rw[this,List.take_add_one]
    have e1:(a.set i (s.take j)).take i=a.take i:=by
     rw[List.take_set_of_le (Nat.le_refl _)]
    rw[e1,List.getElem?_set_self (by omega)]
    simp
   ·rw[h3,List.dropLast_cons_of_ne_nil (ue _ _),List.cons_append,<-g3]
theorem mg (s:List UInt8)(c:UInt8)(hl:s.length<=1000000):qQ s [c]=some (spl c s):=by
 unfold qQ QI
 simp only[JD,QQ]
 have hcnt:s.count c<=s.length:=List.count_le_length
 have e1:((-1:Int)==0)=false:=rfl
 have e2:(([c]:List UInt8)==#[].toList)=false:=rfl
 have e3:decide ((-1:Int)<0)=true:=rfl
 rw[e1,e2,e3]
 simp only[ff,if_false,if_true]
 unfold strings_Count PQ
 simp only[jG]
 have e4:IntKind.i64.wrap ((s.count c:Int)+1)=((s.count c+1:Nat):Int):=w1 _ (by omega)
 have e5:IntKind.i64.wrap ((s.length:Int)+1)=((s.length+1:Nat):Int):=w1 _ (by omega)
 have e6:min ((s.count c+1:Nat):Int) ((s.length+1:Nat):Int)=((s.count c+1:Nat):Int):=by omega
 rw[e4,e5,e6,jV ⟨by omega,by omega,by omega,by omega⟩]
 have e7:IntKind.i64.wrap (((s.count c+1:Nat):Int) - 1)=(s.count c:Int):=by rw[qq _ (by omega) (by omega)];omega
 rw[e7,Int.toNat_natCast]
 have main:∀(step:(List UInt8 × Int × List (List UInt8)->Option (List (List UInt8)))->List UInt8 × Int × List (List UInt8)->Option (List (List UInt8))),
  (∀(r:List UInt8 × Int × List (List UInt8)->Option (List (List UInt8))) (s0:List UInt8) (i:Nat) (a:List (List UInt8)),a.length=s.count c+1->i<=s.count c->s0.length<2 ^ 62->
  step r (s0,(i:Int),a)=if(i:Int)<(s.count c:Int)then(if Lib.indexByte s0 c<0 then some ((a.set i s0).take (i+1))else r (s0.drop ((Lib.indexByte s0 c).toNat+1),((i+1:Nat):Int),a.set i (s0.take (Lib.indexByte s0 c).toNat)))else some ((a.set i s0).take (i+1)))->
  (Rx.Bind (qw step fuel (s,(0:Int),List.replicate (s.count c+1) [])) fun(r:List (List UInt8))=>some r)=some (spl c s):=by
  intro step hs
  obtain⟨s',a',g1,g2,g3,g4⟩:=jbw c (s.count c) (by omega) (fun s i a=>some ((a.set i s).take (i+1))) step hs fuel 0 s (List.replicate (s.count c+1) []) (by omega) (by simp) (by omega) (by have:fuel=2 ^ 70:=rfl;omega)
  refine(congrArg (fun m=>Rx.Bind m _) g4).trans ?_
  rw[jG,List.take_add_one,List.take_set_of_le (Nat.le_refl _),g2,List.getElem?_set_self (by omega)]
  simp only[List.take_zero,List.nil_append]
  rw[g3]
  simp
 refine main _ ?_
 intro r s0 i a ha hi hs
 simp only
 unfold strings_Index Ps
 simp only[jG]
 have hix:=MY c s0
 have f1:IntKind.i64.wrap ((i:Int)+1)=((i+1:Nat):Int):=w1 i (by omega)
 have fin:(Chk ((0:Int)<=(i:Int)/\(i:Int)<(a.length:Int)) (Chk ((0:Int)<=(i:Int)/\(i:Int)<(a.length:Int)) (Chk ((0:Int)<=none.getD (0:Int)/\(0:Int)<=(some (IntKind.i64.wrap ((i:Int)+1))).getD (0:Int)/\(0:Nat)<=(IntKind.i64.wrap ((i:Int)+1)).toNat/\(IntKind.i64.wrap ((i:Int)+1)).toNat<=(a.set (i:Int).toNat s0).length)
  (Chk ((IntKind.i64.wrap ((i:Int)+1)).toNat - 0<=(a.set (i:Int).toNat s0).length) (some ((a.set (i:Int).toNat s0).take ((IntKind.i64.wrap ((i:Int)+1)).toNat - 0)))))))=some ((a.set i s0).take (i+1)):=by
  rw[f1,jV ⟨by omega,by omega⟩,jV ⟨by omega,by omega⟩,jV ⟨by simp,by simp;omega,by omega,by simp;omega⟩,jV (by simp;omega)]
  simp
 by_cases hlt:(i:Int)<(s.count c:Int)
 ·rw[if_pos (decide_eq_true hlt),if_pos hlt]
  rcases hix with ⟨h1,h2⟩|⟨j,h1,h2,h3⟩
  ·rw[if_pos (decide_eq_true h1),if_pos h1]
   exact fin
  ·rw[h1,if_neg (by rw[decide_eq_true_iff];omega),if_neg (by omega)]
   have f2:IntKind.i64.wrap ((j:Int)+0)=(j:Int):=by rw[qq _ (by omega) (by omega)];omega
   have f3:IntKind.i64.wrap ((j:Int)+(([c]:List UInt8).length:Int))=((j+1:Nat):Int):=w1 j (by omega)
   rw[f2,f3,f1,jV ⟨by omega,by omega⟩,jV ⟨by omega,by omega⟩,jV ⟨by omega,by omega⟩,jV ⟨by omega,by omega⟩]
   rfl
 ·rw[if_neg (by rw[decide_eq_true_iff];exact hlt),if_neg hlt]
  exact fin
def isP (c:UInt8):Bool:=decide (32<=c.toNat)&&decide (c.toNat<=126)
def isF (s:List UInt8):Bool:=s.all (fun c=>decide (33<=c.toNat)&&decide (c.toNat<=126))&&decide (s≠[])
def JM (l:List UInt8):List (List UInt8) × Int:=if l=[]then([],0)else if(spl 32 l).all isF=true then(spl 32 l,0)else([],3)
theorem pM (c:UInt8)(q:UInt8->Bool)(hq:q c=true):∀l,(spl c l).all (fun p=>p.all q)=l.all q
 | []=>rfl
 |x :: l=>by
  have ih:=pM c q hq l
  rw[Qt]
  by_cases h:x=c
  ·subst h
   rw[if_pos rfl,List.all_cons,List.all_cons,ih,hq];rfl
  ·rw[if_neg h]
   split
   ·rename_i h2;exact absurd h2 (ue _ _)
   ·rename_i p ps h2
    rw[h2]at ih
    simp only[List.all_cons]at ih⊢
    rw[<-ih,Bool.and_assoc]
theorem pK (c:UInt8):∀l,∀p∈spl c l,c∉p
 | [],p,h=>by simp[spl]at h;subst h;simp
 |x :: l,p,h=>by
  rw[Qt]at h
  by_cases hx:x=c
  ·rw[if_pos hx]at h
   rcases List.mem_cons.1 h with rfl|h
   ·simp
   ·exact pK c l p h
  ·rw[if_neg hx]at h
   have ih:=pK c l
   split at h
   ·simp at h;subst h;simp;exact fun q=>hx q.symm
   ·rename_i q qs h2
    rw[h2]at ih
    rcases List.mem_cons.1 h with rfl|h
    ·rw[List.mem_cons,not_or]
     exact⟨fun q=>hx q.symm,ih q (by simp)⟩
    ·exact ih p (List.mem_cons_of_mem _ h)
theorem je2 (l:List UInt8):(spl 32 l).all isF=(l.all isP&&(spl 32 l).all (fun p => !decide (p=[]))):=by
 rw[<-pM 32 isP (by decide) l]
 have key:∀p∈spl 32 l,isF p=(p.all isP && !decide (p=[])):=by
  intro p hp
  have h32:=pK 32 l p hp
  unfold isF
  congr 1
  ·rw[Bool.eq_iff_iff,List.all_eq_true,List.all_eq_true]
   refine forall_congr' fun x=>forall_congr' fun hx=>?_
   have:x.toNat≠32:=fun q=>h32 (by rw[show(32:UInt8)=x from UInt8.toNat_inj.1 q.symm];exact hx)
   unfold isP
   simp
   omega
  ·by_cases h:p=[] <;> simp[h]
 have aux:∀L:List (List UInt8),(∀p∈L,isF p=(p.all isP && !decide (p=[])))->L.all isF=(L.all (fun p=>p.all isP)&&L.all (fun p => !decide (p=[]))):=by
  intro L
  induction L with
  |nil=>intro _;rfl
  |cons p L ih=>
   intro h
   rw[List.all_cons,List.all_cons,List.all_cons,h p (by simp),ih fun q hq=>h q (List.mem_cons_of_mem _ hq)]
   cases p.all isP <;> cases L.all (fun p=>p.all isP) <;> simp
 exact aux _ key
theorem jct (l:List UInt8)(hl:l.length<=1000000):Jv l=some (JM l):=by
 unfold Jv JM
 simp only[JD]
 by_cases h0:l=[]
 ·subst h0;rfl
 ·have e0:(l==#[].toList)=false:=by rw[beq_eq_false_iff_ne];exact h0
  rw[e0,if_neg h0]
  simp only[ff,if_false]
  rw[show qw _ fuel (0:Int)=_ from zU l isP (some (if(spl 32 l).all (fun p => !decide (p=[]))=true then(spl 32 l,0)else([],3))) (some ([],3)) _ (Zy hl (by omega)) ?_ ?_]
  ·rw[je2]
   cases l.all isP <;> rfl
  ·intro r i hw hc hm
   simp only[dlt hc,if_true,jV hc,hw]
   generalize ix l (i:Int)=c
   have e1:(c<toByte 32)↔c.toNat<32:=Iff.rfl
   have e2:(toByte 126<c)↔126<c.toNat:=Iff.rfl
   rw[Zf]
   by_cases hp:isP c=true
   ·rw[if_pos hp,if_neg]
    rw[Bool.or_eq_true,decide_eq_true_iff,decide_eq_true_iff,e1,e2]
    unfold isP at hp;simp at hp;omega
   ·rw[if_neg hp,if_pos]
    rw[Bool.or_eq_true,decide_eq_true_iff,decide_eq_true_iff,e1,e2]
    unfold isP at hp;simp at hp;omega
  ·intro r
   simp only[dll,ff,if_false]
   rw[mg l 32 hl,jG]
   have hsl:(spl 32 l).length<=1000001:=by rw[vS];have:=List.count_le_length (a:=(32:UInt8)) (l:=l);omega
   rw[show qw _ fuel (0:Int)=_ from zU (spl 32 l) (fun p => !decide (p=[])) (some (spl 32 l,0)) (some ([],3)) _ (Zy hsl (by omega)) ?_ ?_]
   ·cases (spl 32 l).all (fun p => !decide (p=[])) <;> rfl
   ·intro r i hw hc hm
    simp only[dlt hc,if_true,jV hc,hw]
    by_cases h:ix (spl 32 l) (i:Int)=[]
    ·rw[h];rfl
    ·have:(ix (spl 32 l) (i:Int)==[])=false:=by rw[beq_eq_false_iff_ne];exact h
     rw[this,decide_eq_false h];rfl
   ·intro r
    simp only[dll,ff,if_false]
theorem pJ (c:UInt8):∀p:List UInt8,c∉p->spl c p=[p]
 | [],_=>rfl
 |x::l,h=>by
  rw[List.mem_cons,not_or]at h
  rw[Qt,if_neg (fun q=>h.1 q.symm),pJ c l h.2]
theorem Xg (c:UInt8)(t:List UInt8):∀p:List UInt8,c∉p->spl c (p++c::t)=p::spl c t
 | [],_=>by rw[List.nil_append,Qt,if_pos rfl]
 |x::l,h=>by
  rw[List.mem_cons,not_or]at h
  rw[List.cons_append,Qt,if_neg (fun q=>h.1 q.symm),Xg c t l h.2]
def rest (c:UInt8)(l:List UInt8)(a:Nat):List (List UInt8):=if a<=l.length then spl c (l.drop a)else[]
def Qz (l:List UInt8):List (List UInt8) × Int:=if l=[]then([],0)else if zu 10 l=true then(spl 10 l.dropLast,0)else([],3)
theorem UB (l:List UInt8)(hl:l.length<=1000000):JW l=some (Qz l):=by
 unfold JW Qz
 simp only[JD]
 by_cases h0:l=[]
 ·subst h0;rfl
 ·have e0:(l==#[].toList)=false:=by rw[beq_eq_false_iff_ne];exact h0
  rw[e0,if_neg h0]
  simp only[ff,if_false]
  rw[jhK l 10 (Zy hl (by omega)),jG]
  unfold wz
  cases zu 10 l
  ·rfl
  ·simp only[Bool.not_true,ff,if_false,if_true]
   rw[mg _ 10 (by rw[List.length_dropLast];omega),jG]
theorem Uo {c:UInt8}{l:List UInt8}(h:zu c l=true):l=l.dropLast++[c]:=by
 unfold zu at h
 rw[decide_eq_true_iff]at h
 have hne:l≠[]:=by rintro rfl;cases h
 rw[List.getLast?_eq_some_getLast hne]at h
 have:=List.dropLast_concat_getLast hne
 rw[Option.some.inj h]at this
 exact this.symm
theorem xn (r:List (List UInt8))(n:Nat)(h:∀p∈r,p.length<=n):(Lib.joinTail [32] r).length<=r.length*(n+1):=by
 unfold Lib.joinTail
 induction r with
 |nil=>simp
 |cons p r ih=>
  have:=ih fun q hq=>h q (List.mem_cons_of_mem _ hq)
  have:=h p (by simp)
  simp only[List.map_cons,List.flatten_cons,List.length_append,List.length_cons,List.length_nil,Nat.add_mul]
  omega
theorem jdk (l:List (List UInt8))(n:Nat)(h:∀p∈l,p.length<=n):(Lib.join l [32]).length<=l.length*(n+1):=by
 cases l with
 |nil=>rw[Lib.join_nil];simp
 |cons x r=>
  rw[Lib.join_cons,List.length_append]
  have:=xn r n fun q hq=>h q (List.mem_cons_of_mem _ hq)
  have:=h x (by simp)
  rw[List.length_cons,Nat.add_mul]
  omega
theorem UD (l:List (List UInt8))(h1:l.length<=1000000)(h2:(Lib.join l [32]).length<=140737488355328):Yw l=some (Lib.join l [32]):=by
 unfold Yw strings_Join jfX
 rw[jV ⟨h2,by omega⟩,jG]
theorem ZF (x:List UInt8)(r:List (List UInt8)):Lib.joinTail [32] (x::r)=32::x++Lib.joinTail [32] r:=by
 unfold Lib.joinTail
 simp
def flat (c:UInt8)(L:List (List UInt8)):List UInt8:=L.flatMap fun p=>p++[c]
theorem QB (c:UInt8)(p:List UInt8)(L:List (List UInt8)):flat c (p::L)=p++c::flat c L:=by unfold flat;simp
theorem Ul (c:UInt8):∀l,flat c (spl c l)=l++[c]
 | []=>rfl
 |x :: l=>by
  have ih:=Ul c l
  rw[Qt]
  by_cases h:x=c
  ·rw[if_pos h,QB,ih,h];rfl
  ·rw[if_neg h]
   cases hq:spl c l with
   |nil=>exact absurd hq (ue _ _)
   |cons p ps=>
    rw[hq,QB]at ih
    simp only
    rw[QB,List.cons_append,ih];rfl
theorem VE (s:List UInt8):(s≠[]/\zu 10 s=false/\Qz s=([],3))\/(∃L,Qz s=(L,0)/\flat 10 L=s/\(∀p∈L,(10:UInt8)∉p)/\L.length<=s.length+1):=by
 unfold Qz
 by_cases h0:s=[]
 ·subst h0
  exact .inr ⟨[],rfl,rfl,by simp,by simp⟩
 ·rw[if_neg h0]
  cases he:zu 10 s
  ·exact .inl ⟨h0,rfl,rfl⟩
  ·refine .inr ⟨_,rfl,?_,pK 10 _,?_⟩
   ·rw[Ul,<-Uo he]
   ·rw[vS]
    have:=List.count_le_length (a:=(10:UInt8)) (l:=s.dropLast)
    rw[List.length_dropLast]at this
    omega
theorem kf (k:Nat)(h:k<10):(UInt8.ofNat (48+k)).toNat=48+k:=by
 rw[UInt8.toNat_ofNat'];omega
theorem Qq:∀(k m:Nat),m<=k->(Yx m).all isD=true/\dv (Yx m)=m/\∃x l,Yx m=x::l/\(x=48->m=0)
 |k,m,hk=>by
  by_cases h:m<10
  ·rw[ZN h]
   refine⟨?_,?_,_,_,rfl,?_⟩
   ·simp only[List.all_cons,List.all_nil,Bool.and_true]
    rw[Kz,kf m h];omega
   ·show 10*0+((UInt8.ofNat (48+m)).toNat - 48)=m
    rw[kf m h];omega
   ·intro q
    have:=congrArg UInt8.toNat q
    rw[kf m h]at this
    change 48+m=48 at this
    omega
  ·obtain⟨g1,g2,x,l,g3,g4⟩:=Qq (k - 1) (m / 10) (by omega)
   rw[Vp h]
   refine⟨?_,?_,x,l++[UInt8.ofNat (48+m % 10)],by rw[g3];rfl,?_⟩
   ·rw[List.all_append,g1,Bool.true_and]
    simp only[List.all_cons,List.all_nil,Bool.and_true]
    rw[Kz,kf _ (by omega)];omega
   ·rw[XP,g2,kf _ (by omega)];omega
   ·intro q
    have:=g4 q
    omega
termination_by k=>k
decreasing_by omega
theorem wC (n:Int):body (yv n)=Yx n.natAbs/\isNeg (yv n)=decide (n<0)/\isInt (yv n)=true:=by
 obtain⟨g1,g2,x,l,g3,g4⟩:=Qq n.natAbs n.natAbs (Nat.le_refl _)
 have hx45:x≠45:=by
  rintro rfl
  rw[g3]at g1
  simp only[List.all_cons,Bool.and_eq_true]at g1
  exact absurd g1.1 (by decide)
 have hd:(x::l).all isD=true:=by rw[<-g3];exact g1
 unfold yv
 by_cases hn:n<0
 ·rw[if_pos hn,decide_eq_true hn]
  have hb:body (45::Yx n.natAbs)=Yx n.natAbs:=rfl
  refine⟨hb,rfl,?_⟩
  unfold isInt
  rw[hb,g3]
  simp only
  rw[hd,Bool.true_and,decide_eq_true (by intro q;have:=g4 q;omega),Bool.true_or]
 ·rw[if_neg hn,decide_eq_false hn,g3]
  have hb:body (x::l)=x::l:=if_neg hx45
  refine⟨hb,by show(x==45)=false;simpa using hx45,?_⟩
  unfold isInt
  rw[hb]
  simp only
  rw[hd,Bool.true_and]
  by_cases h0:n.natAbs=0
  ·have:(x::l)=[48]:=by rw[<-g3,h0,ZN (by omega)];rfl
   rw[decide_eq_true this,Bool.or_true]
  ·rw[decide_eq_true (by intro q;exact h0 (g4 q)),Bool.true_or]
theorem Xh (n:Int):sgn (yv n) n.natAbs=n:=by
 unfold sgn
 rw[(wC n).2.1]
 by_cases h:n<0
 ·rw[decide_eq_true h,if_pos rfl];omega
 ·rw[decide_eq_false h,if_neg (by decide)];omega
theorem jc4 (n:Int):mO (yv n)=if n.natAbs<=4611686018427387904 then(n,0)else(0,6):=by
 obtain⟨h1,h2,h3⟩:=wC n
 unfold mO
 rw[if_pos h3,h1,(Qq _ _ (Nat.le_refl _)).2.1,Xh]
theorem jbR:∀(k:Nat) (l:List UInt8),l.length<=k->l≠[]->l.all isD=true->(l.head? = some 48->l=[48])->Yx (dv l)=l
 |0,l,h,hne,_,_=>by exact absurd (List.eq_nil_of_length_eq_zero (by omega)) hne
 |k + 1,l,h,hne,hd,h0=>by
  obtain⟨p,c,rfl⟩:∃p c,l=p++[c]:=⟨l.dropLast,l.getLast hne,(List.dropLast_concat_getLast hne).symm⟩
  rw[List.all_append,Bool.and_eq_true]at hd
  have hc:isD c=true:=by have:=hd.2;simpa using this
  obtain⟨c1,c2⟩:=Kz.1 hc
  have ec:UInt8.ofNat (48+(c.toNat - 48))=c:=by rw[show 48+(c.toNat - 48)=c.toNat by omega];exact UInt8.ofNat_toNat
  rw[XP]
  by_cases hp:p=[]
  ·subst hp
   show Yx (10*0+(c.toNat - 48))=[c]
   rw[ZN (by omega),show 10*0+(c.toNat - 48)=c.toNat - 48 by omega,ec]
  ·have hh:p.head? ≠ some 48:=by
    intro q
    have:(p++[c]).head? = some 48:=by
     cases p with
     |nil=>exact absurd rfl hp
     |cons x p=>exact q
    have:=congrArg List.length (h0 this)
    simp at this
    exact hp this
   have ih:=jbR k p (by simp at h;omega) hp hd.1 (fun q=>absurd q hh)
   have hpos:1<=dv p:=by
    rcases Nat.eq_zero_or_pos (dv p)with h|h
    ·rw[h,ZN (by omega)]at ih
     rw[<-ih]at hh
     exact absurd rfl hh
    ·exact h
   rw[Vp (by omega),show(10*dv p+(c.toNat - 48)) / 10=dv p by omega,show(10*dv p+(c.toNat - 48)) % 10=c.toNat - 48 by omega,ih,ec]
theorem jbA (s:List UInt8)(hi:isInt s=true):yv (sgn s (dv (body s)))=s:=by
 obtain⟨hd,hne⟩:=Vd hi
 have hz:=Mc hi
 have hh:(body s).head? = some 48->s=[48]:=by
  intro q
  unfold isInt at hi
  cases hb:body s with
  |nil=>exact absurd hb hne
  |cons x l=>
   rw[hb]at hi q
   simp only[Bool.and_eq_true,Bool.or_eq_true,decide_eq_true_eq]at hi
   rcases hi.2 with h|h
   ·exact absurd (by simpa using q) h
   ·exact h
 by_cases h48:s=[48]
 ·subst h48
  show yv 0=[48]
  unfold yv
  rw[if_neg (by decide),show Int.natAbs 0=0 from rfl,ZN (by omega)];rfl
 have hh:(body s).head? ≠ some 48:=fun q=>h48 (hh q)
 have e:=jbR _ (body s) (Nat.le_refl _) hne hd (fun q=>absurd q hh)
 have hpos:dv (body s)≠0:=fun q=>h48 (hz.1 q)
 cases s with
 |nil=>exact absurd rfl hne
 |cons x l=>
  unfold yv sgn
  by_cases h:x=45
  ·have e1:body (x::l)=l:=if_pos h
   have e2:isNeg (x::l)=true:=by subst h;rfl
   rw[e1]at e hpos⊢
   rw[e2,if_pos rfl,if_pos (by omega),Int.natAbs_neg,Int.natAbs_natCast,e,h]
  ·have e1:body (x::l)=x::l:=if_neg h
   have e2:isNeg (x::l)=false:=by show(x==45)=false;simpa using h
   rw[e1]at e hpos⊢
   rw[e2]
   simp only[ff,if_false]
   rw[if_neg (by omega),Int.natAbs_natCast,e]
theorem jdq (s:List UInt8)(hi:isInt s=true):zu 117 s=false:=by
 obtain⟨hd,hne⟩:=Vd hi
 cases he:zu 117 s
 ·rfl
 ·exfalso
  have h:=Uo he
  have:(117:UInt8)∈body s:=by
   rw[h]
   by_cases hq:s.dropLast=[]
   ·rw[hq];decide
   ·rw[jb5 _ hq];simp
  have:=List.all_eq_true.1 hd _ this
  exact absurd this (by decide)
theorem jc5 (x:Int)(h1:IntKind.i64.min<=x)(h2:x<=IntKind.i64.max):Pc (YH x)=if x.natAbs<=536870911 then(x,0)else(0,6):=by
 unfold YH
 have e0:(x.tdiv 65536).natAbs=x.natAbs / 65536:=by rw[Int.natAbs_tdiv];rfl
 have e1:(x.tmod 65536).natAbs=x.natAbs % 65536:=by rw[Int.natAbs_tmod];rfl
 by_cases h:x≠0/\x.tmod 65536=0
 ·rw[if_pos h]
  have hy:x.tdiv 65536*65536=x:=Int.tdiv_mul_cancel_of_tmod_eq_zero h.2
  generalize x.tdiv 65536=y at e0 hy
  obtain⟨b1,b2,b3⟩:=wC y
  have c1:zu 117 (yv y++[117])=true:=by unfold zu;simp
  have c2:wz 117 (yv y++[117])=yv y:=by unfold wz;rw[c1,if_pos rfl];simp
  unfold Pc
  rw[c1,c2,b3,b1,(Qq _ _ (Nat.le_refl _)).2.1,if_neg (by simp;omega),if_pos rfl,Xh,hy]
  by_cases hq:y.natAbs<=8191
  ·rw[if_pos hq,if_pos (by omega)]
  ·rw[if_neg hq,if_neg (by omega)]
 ·rw[if_neg h]
  obtain⟨b1,b2,b3⟩:=wC x
  have c1:=jdq _ b3
  have c2:wz 117 (yv x)=yv x:=by unfold wz;rw[c1];rfl
  unfold Pc
  rw[c1,c2,b3,b1,(Qq _ _ (Nat.le_refl _)).2.1,if_neg,if_neg (by decide),Xh]
  simp
  omega
theorem jdC (s:List UInt8)(h:(Pc s).2=0):YH (Pc s).1=s:=by
 unfold Pc at h⊢
 generalize hw:zu 117 s=w at h⊢
 generalize ht:wz 117 s=t at h⊢
 generalize hn:dv (body t)=n at h⊢
 by_cases hc:isInt t=false\/(w=true/\n=0)\/(w=false/\n≠0/\n % 65536=0)
 ·rw[if_pos hc]at h;exact absurd h (by decide)
 rw[if_neg hc]at h⊢
 have hi:isInt t=true:=by
  cases hq:isInt t
  ·exact absurd (.inl hq) hc
  ·rfl
 have hback:=jbA t hi
 rw[hn]at hback
 have hs:sgn t n=n\/sgn t n = -n:=by unfold sgn;split <;> simp
 cases w
 ·simp only[ff,if_false]at h⊢
  by_cases hb:n<=536870911
  ·rw[if_pos hb]
   have hts:t=s:=by rw[<-ht];unfold wz;rw[hw];rfl
   unfold YH
   simp only
   have e1:((sgn t n).tmod 65536).natAbs=(sgn t n).natAbs % 65536:=by rw[Int.natAbs_tmod];rfl
   rw[if_neg,hback,hts]
   rintro⟨g1,g2⟩
   apply hc
   right;right
   exact⟨rfl,by omega,by omega⟩
  ·rw[if_neg hb]at h;exact absurd h (by decide)
 ·simp only[if_true]at h⊢
  by_cases hb:n<=8191
  ·rw[if_pos hb]
   have hts:s=t++[117]:=by
    rw[<-ht];unfold wz;rw[hw,if_pos rfl];exact Uo hw
   have hn0:n≠0:=fun q=>hc (.inr (.inl ⟨rfl,q⟩))
   unfold YH
   simp only
   rw[if_pos ⟨by omega,Int.mul_tmod_left _ _⟩,Int.mul_tdiv_cancel _ (by decide),hback,hts]
  ·rw[if_neg hb]at h;exact absurd h (by decide)
theorem pL:∀(r:List (List UInt8)) (x:List UInt8),(∀p∈x::r,(32:UInt8)∉p)->spl 32 (x++Lib.joinTail [32] r)=x::r
 | [],x,h=>by
   have:Lib.joinTail [32] []=[]:=rfl
   rw[this,List.append_nil,pJ 32 x (h x (by simp))]
 |y::r,x,h=>by
  rw[ZF,List.cons_append,Xg 32 _ x (h x (by simp)),pL r y fun p hp=>h p (List.mem_cons_of_mem _ hp)]
theorem jbg {p:List UInt8}(h:isF p=true):(32:UInt8)∉p/\p≠[]:=by
 unfold isF at h
 rw[Bool.and_eq_true,List.all_eq_true,decide_eq_true_iff]at h
 refine⟨fun q=>?_,h.2⟩
 have:=h.1 _ q
 exact absurd this (by decide)
theorem VF (L:List (List UInt8))(h:L.all isF=true):JM (Lib.join L [32])=(L,0):=by
 cases L with
 |nil=>rfl
 |cons x r=>
  have h':=List.all_eq_true.1 h
  rw[Lib.join_cons]
  unfold JM
  have hx:=(jbg (h' x (by simp))).2
  rw[if_neg (by simp[hx]),pL r x fun p hp=>(jbg (h' p hp)).1,if_pos h]
end GoForm
