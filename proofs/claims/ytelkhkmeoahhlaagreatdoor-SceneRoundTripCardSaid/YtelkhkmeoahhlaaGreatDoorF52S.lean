/-
  Plain laws of numbers and fields as text. No conditions.
-/
import Derived.Test.YtelkhkmeoahhlaaGreatDoorF52D
import Derived.Test.YtelkhkmeoahhlaaGreatDoorQE
import Derived.Lib.DecodeN
import Derived.Test.YtelkhkmeoahhlaaGreatDoorQE
set_option linter.all false
set_option maxRecDepth 100000
open Go Go.Rx
namespace GoForm
def digs (m:Nat):List UInt8:=if h:m<10 then [UInt8.ofNat (48+m)] else digs (m / 10)++[UInt8.ofNat (48+m % 10)]
termination_by m
decreasing_by omega
theorem digs_lt {m:Nat} (h:m<10):digs m=[UInt8.ofNat (48+m)]:=by rw [digs,dif_pos h]
theorem digs_ge {m:Nat} (h:¬ m<10):digs m=digs (m / 10)++[UInt8.ofNat (48+m % 10)]:=by rw [digs,dif_neg h]
theorem digs_pos (m:Nat):1<=(digs m).length:=by
 by_cases h:m<10
 ·rw [digs_lt h];exact Nat.le_refl _
 ·rw [digs_ge h,List.length_append];simp
theorem digs_len:∀ (k m:Nat),m<10 ^ (k+1)->(digs m).length<=k+1
 | 0,m,h=>by rw [digs_lt (by simpa using h)];exact Nat.le_refl _
 | k + 1,m,h=>by
   by_cases h10:m<10
   ·rw [digs_lt h10];simp
   ·rw [digs_ge h10,List.length_append]
    have:=digs_len k (m / 10) (by rw [Nat.pow_succ] at h;omega)
    simp;omega
def fmtInt (n:Int):List UInt8:=if n<0 then 45::digs n.natAbs else digs n.natAbs
theorem drop_set_at {α:Type} (l:List α) (i:Nat) (x:α) (h:i<l.length):(l.set i x).drop i=x::l.drop (i+1):=by
 rw [List.drop_eq_getElem_cons (by simpa using h),List.getElem_set_self]
 congr 1
 apply List.ext_getElem?
 intro j
 rw [List.getElem?_drop,List.getElem?_drop,List.getElem?_set_ne (by omega)]
theorem toByte_dig (m:Nat) (h:m<10):toByte (IntKind.u64.wrap (48+(m:Int)))=UInt8.ofNat (48+m):=by
 rw [u64_eq]
 unfold toByte
 congr 1
 omega
theorem fmtLoop (K:Nat->List UInt8->Option (List UInt8)) (step:(Int × Int × List UInt8->Option (List UInt8))->Int × Int × List UInt8->Option (List UInt8))
 (hs:∀ (r:Int × Int × List UInt8->Option (List UInt8)) (m at_:Nat) (buf:List UInt8),m<18446744073709551616->1<=at_->at_<=20->buf.length=20->
   step r ((m:Int),(at_:Int),buf)=if m / 10=0 then K (at_ - 1) (buf.set (at_ - 1) (UInt8.ofNat (48+m % 10))) else r (((m / 10:Nat):Int),((at_ - 1:Nat):Int),buf.set (at_ - 1) (UInt8.ofNat (48+m % 10)))):
 ∀ (n m at_:Nat) (buf:List UInt8),(digs m).length<=n->m<18446744073709551616->(digs m).length<=at_->at_<=20->buf.length=20->
   ∃ buf',buf'.length=20/\buf'.drop (at_ - (digs m).length)=digs m++buf.drop at_/\LOOP step n ((m:Int),(at_:Int),buf)=K (at_ - (digs m).length) buf'
 | 0,m,at_,buf,h,_,_,_,_=>by have:=digs_pos m;omega
 | n + 1,m,at_,buf,h,hm,ha,ha2,hb=>by
   rw [LOOP_s,hs _ m at_ buf hm (by have:=digs_pos m;omega) ha2 hb]
   by_cases h10:m<10
   ·rw [if_pos (by omega),digs_lt h10]
    refine ⟨_,by rw [List.length_set];exact hb,?_,rfl⟩
    rw [show m % 10=m by omega]
    simp only [List.length_cons,List.length_nil,Nat.zero_add]
    rw [drop_set_at _ _ _ (by have:=digs_pos m;omega)]
    have:=digs_pos m
    rw [show at_ - 1+1=at_ by omega];rfl
   ·rw [if_neg (by omega)]
    have hl:(digs m).length=(digs (m / 10)).length+1:=by rw [digs_ge h10,List.length_append];rfl
    have hp:=digs_pos (m / 10)
    obtain ⟨buf',h1,h2,h3⟩:=fmtLoop K step hs n (m / 10) (at_ - 1) (buf.set (at_ - 1) (UInt8.ofNat (48+m % 10))) (by omega) (by omega) (by omega) (by omega) (by rw [List.length_set];exact hb)
    refine ⟨buf',h1,?_,?_⟩
    ·rw [hl,show at_ - ((digs (m / 10)).length+1)=at_ - 1 - (digs (m / 10)).length by omega,h2,drop_set_at _ _ _ (by omega),digs_ge h10,show at_ - 1+1=at_ by omega]
     simp
    ·rw [h3,hl];congr 1;omega
theorem tmodN (m k:Nat):Int.tmod (m:Int) (k:Int)=((m % k:Nat):Int):=by
 rw [Int.tmod_eq_emod_of_nonneg (by omega)];simp
theorem tdivN (m k:Nat):Int.tdiv (m:Int) (k:Int)=((m / k:Nat):Int):=by
 rw [Int.tdiv_eq_ediv_of_nonneg (by omega)];simp
def fK (n:Int) (a:Nat) (b:List UInt8):Option (List UInt8):=if n<0 then (if 1<=a then some (((b.set (a - 1) 45).drop (a - 1)).take (20 - (a - 1))) else none) else some ((b.drop a).take (20 - a))
theorem FormatInt_eq (n:Int) (h1:IntKind.i64.min<=n) (h2:n<=IntKind.i64.max):format_FormatInt n=some (fmtInt n):=by
 rw [i64_min] at h1
 rw [i64_max] at h2
 unfold format_FormatInt
 simp only [Let_nr,Join_nr]
 have key:(if n<0 then IntKind.u64.wrap (0 - IntKind.u64.wrap n) else IntKind.u64.wrap n)=(n.natAbs:Int):=by
  rw [u64_eq,u64_eq]
  split <;> omega
 have fin:∀ (step:(Int × Int × List UInt8->Option (List UInt8))->Int × Int × List UInt8->Option (List UInt8)) (buf:List UInt8),buf.length=20->
  (∀ (r:Int × Int × List UInt8->Option (List UInt8)) (m at_:Nat) (buf:List UInt8),m<18446744073709551616->1<=at_->at_<=20->buf.length=20->
  step r ((m:Int),(at_:Int),buf)=if m / 10=0 then fK n (at_ - 1) (buf.set (at_ - 1) (UInt8.ofNat (48+m % 10))) else r (((m / 10:Nat):Int),((at_ - 1:Nat):Int),buf.set (at_ - 1) (UInt8.ofNat (48+m % 10))))->
  LOOP step fuel ((n.natAbs:Int),(20:Int),buf)=some (fmtInt n):=by
  intro step buf hb hs
  have hl:=digs_len 18 n.natAbs (by omega)
  obtain ⟨buf',g1,g2,g3⟩:=fmtLoop (fK n) step hs fuel n.natAbs 20 buf (by have:fuel=2 ^ 70:=rfl;omega) (by omega) (by omega) (Nat.le_refl _) hb
  refine g3.trans ?_
  have hd:buf.drop 20=[]:=List.drop_of_length_le (by omega)
  rw [hd,List.append_nil] at g2
  have hp:=digs_pos n.natAbs
  unfold fK fmtInt
  split
  ·rw [if_pos (by omega),drop_set_at _ _ _ (by omega),show 20 - (digs n.natAbs).length - 1+1=20 - (digs n.natAbs).length by omega,g2]
   rw [List.take_of_length_le (by simp;omega)]
  ·rw [g2,List.take_of_length_le (by omega)]
 by_cases hn:n<0
 ·rw [if_pos hn] at key
  simp only [hn,decide_true,if_true,key]
  refine fin _ _ rfl ?_
  intro r m at_ buf hm ha ha2 hb
  have e1:IntKind.i64.wrap ((at_:Int) - 1)=((at_ - 1:Nat):Int):=by rw [wrap_in _ (by omega) (by omega)];omega
  have e2:Int.tmod (m:Int) 10=((m % 10:Nat):Int):=tmodN m 10
  have e3:IntKind.u64.wrap (Int.tdiv (m:Int) 10)=((m / 10:Nat):Int):=by rw [show Int.tdiv (m:Int) 10=((m / 10:Nat):Int) from tdivN m 10,u64_eq];omega
  simp only [e1,e2,e3,toByte_dig (m % 10) (by omega),Int.toNat_natCast]
  rw [Chk_of (by omega),Chk_of (by rw [hb];omega)]
  by_cases h0:m / 10=0
  ·rw [if_pos h0,if_pos (by rw [h0];rfl)]
   unfold fK
   rw [if_pos hn]
   have e4:IntKind.i64.wrap (((at_ - 1:Nat):Int) - 1)=(at_:Int) - 2:=by rw [wrap_in _ (by omega) (by omega)];omega
   rw [e4]
   by_cases h1:1<=at_ - 1
   ·rw [if_pos h1,Chk_of (by omega),Chk_of (by rw [List.length_set,hb];omega)]
    have e5:((at_:Int) - 2).toNat=at_ - 1 - 1:=by omega
    simp only [e5,Option.getD_some,Option.getD_none]
    rw [Chk_of ⟨by omega,by omega,by omega,Nat.le_refl _,by rw [List.length_set,List.length_set,hb];exact Nat.le_refl _⟩,Chk_of (by rw [List.length_set,List.length_set,hb];omega)]
    rfl
   ·rw [if_neg h1]
    unfold Chk
    rw [if_neg (by omega)]
  ·rw [if_neg h0,if_neg (by rw [beq_iff_eq];omega)]
 ·rw [if_neg hn] at key
  simp only [hn,decide_false,ff,if_false,key]
  refine fin _ _ rfl ?_
  intro r m at_ buf hm ha ha2 hb
  have e1:IntKind.i64.wrap ((at_:Int) - 1)=((at_ - 1:Nat):Int):=by rw [wrap_in _ (by omega) (by omega)];omega
  have e2:Int.tmod (m:Int) 10=((m % 10:Nat):Int):=tmodN m 10
  have e3:IntKind.u64.wrap (Int.tdiv (m:Int) 10)=((m / 10:Nat):Int):=by rw [show Int.tdiv (m:Int) 10=((m / 10:Nat):Int) from tdivN m 10,u64_eq];omega
  simp only [e1,e2,e3,toByte_dig (m % 10) (by omega),Int.toNat_natCast]
  rw [Chk_of (by omega),Chk_of (by rw [hb];omega)]
  by_cases h0:m / 10=0
  ·rw [if_pos h0,if_pos (by rw [h0];rfl)]
   unfold fK
   rw [if_neg hn]
   simp only [Option.getD_some,Option.getD_none]
   rw [Chk_of ⟨by omega,by omega,by omega,Nat.le_refl _,by rw [List.length_set,hb];exact Nat.le_refl _⟩,Chk_of (by rw [List.length_set,hb];omega)]
  ·rw [if_neg h0,if_neg (by rw [beq_iff_eq];omega)]
theorem fmtInt_len (n:Int) (h1:IntKind.i64.min<=n) (h2:n<=IntKind.i64.max):(fmtInt n).length<=20/\1<=(fmtInt n).length:=by
 have hl:=digs_len 18 n.natAbs (by rw [i64_min] at h1;rw [i64_max] at h2;omega)
 have hp:=digs_pos n.natAbs
 unfold fmtInt
 split
 ·rw [List.length_cons];omega
 ·omega
theorem get_ix (s:List UInt8) (p:Nat):(⟨s.toArray⟩:ByteArray).get! p=ix s (p:Int):=by
 unfold ix
 rw [Int.toNat_natCast]
 show s.toArray[p]! = _
 simp [List.getD_eq_getElem?_getD,getElem!_def]
 cases h:s[p]? <;> simp [h]
theorem dec_lo (s:List UInt8) (p:Nat) (h:ix s (p:Int)<128):Utf8.decode ⟨s.toArray⟩ p=((ix s (p:Int)).toNat,1):=by
 rw [Lib.decode_at,get_ix]
 unfold Lib.decodeN
 rw [if_pos]
 exact h
theorem dec_hi (s:List UInt8) (p:Nat) (h:¬ ix s (p:Int)<128):128<=(Utf8.decode ⟨s.toArray⟩ p).1:=by
 rw [Lib.decode_at,get_ix]
 have h':¬ (ix s (p:Int)).toNat<128:=fun q=>h q
 unfold Lib.decodeN
 rw [if_neg h']
 split
 ·split <;> simp only <;> omega
 ·split
  ·split <;> simp only <;> omega
  ·split
   ·split <;> simp only <;> omega
   ·simp only;omega
def isD (c:UInt8):Bool:=decide (48<=c.toNat)&&decide (c.toNat<=57)
theorem isD_iff {c:UInt8}:isD c=true↔48<=c.toNat/\c.toNat<=57:=by unfold isD;simp
def dv (l:List UInt8):Nat:=l.foldl (fun n c=>10*n+(c.toNat - 48)) 0
theorem dv_snoc (l:List UInt8) (c:UInt8):dv (l++[c])=10*dv l+(c.toNat - 48):=by unfold dv;rw [List.foldl_append];rfl
theorem take_ix (l:List UInt8) (i:Nat) (h:i<l.length):l.take (i+1)=l.take i++[ix l (i:Int)]:=by
 rw [List.take_add_one,ix_lt l i h,List.getElem?_eq_getElem h];rfl
def LIM:Nat:=4611686018427387905
def dec (neg:Bool) (n:Nat):format_decimal:=⟨neg,(min n LIM:Nat),(n % 65536:Nat)⟩
theorem pd_loop (rest:List UInt8) (neg:Bool) (z bad:format_decimal) (step:(format_decimal × format_decimal × List UInt8 × Nat->Option (format_decimal × Bool))->format_decimal × format_decimal × List UInt8 × Nat->Option (format_decimal × Bool)) (hl:Sm rest)
 (hs:∀ (r:format_decimal × format_decimal × List UInt8 × Nat->Option (format_decimal × Bool)) (z:format_decimal) (n p:Nat),p<rest.length->step r (z,dec neg n,rest,p)=if isD (ix rest (p:Int))=true then r (z,dec neg (10*n+((ix rest (p:Int)).toNat - 48)),rest,p+1) else some (bad,false))
 (he:∀ (r:format_decimal × format_decimal × List UInt8 × Nat->Option (format_decimal × Bool)) (z d:format_decimal),step r (z,d,rest,rest.length)=some (d,true)):
 LOOP step fuel (z,dec neg 0,rest,0)=if rest.all isD=true then some (dec neg (dv rest),true) else some (bad,false):=by
 refine LOOP_g rest (fun v=>(v.2.2.2:Int)) (fun i v=>v.2.2.1=rest/\v.2.1=dec neg (dv (rest.take i))) (fun t _=>if t.all isD=true then some (dec neg (dv rest),true) else some (bad,false)) step _ hl rfl ⟨rfl,rfl⟩ ?_ ?_
 ·rintro r i t ⟨z,d,l,p⟩ hp ⟨h1,h2⟩ hw hc hm hr
  simp only at hp h1 h2
  subst h1 h2
  have hp:p=i:=by omega
  subst hp
  rw [hs r z _ p (by omega),List.all_cons]
  by_cases hd:isD (ix l (p:Int))=true
  ·rw [if_pos hd,hr _ (by simp) ⟨rfl,by rw [take_ix l p (by omega),dv_snoc]⟩,hd,Bool.true_and]
  ·rw [if_neg hd,if_neg (by rw [Bool.and_eq_true];exact fun h=>hd h.1)]
 ·rintro r ⟨z,d,l,p⟩ hp ⟨h1,h2⟩
  simp only at hp h1 h2
  subst h1 h2
  have hp:p=l.length:=by omega
  subst hp
  rw [he,List.take_length];rfl
theorem wrap_dig:∀ k:Nat,k<10->IntKind.u64.wrap (IntKind.i32.wrap (k:Int))=(k:Int):=by decide
theorem HasPrefix1 (s:List UInt8) (c:UInt8) (hl:Sm s):stringslite_HasPrefix s [c]=some (match s with | []=>false | x::_=>x==c):=by
 unfold stringslite_HasPrefix
 simp only [Let_nr]
 cases s with
 | nil=>rfl
 | cons x l=>
   have e1:decide (((x::l).length:Int)>=(([c]:List UInt8).length:Int))=true:=by rw [decide_eq_true_iff];simp;omega
   rw [e1,Chk_of (fun _=>⟨by simp,by simp;omega⟩)]
   simp
def isNeg:List UInt8->Bool
 | []=>false
 | x::_=>x==45
def body:List UInt8->List UInt8
 | []=>[]
 | x::l=>if x=45 then l else x::l
theorem CutMinus (s:List UInt8) (hl:Sm s):strings_CutPrefix s [45]=some (body s,isNeg s):=by
 unfold strings_CutPrefix stringslite_CutPrefix
 rw [HasPrefix1 s 45 hl,Bind_snr]
 cases s with
 | nil=>rfl
 | cons x l=>
   simp only [Let_nr]
   by_cases h:x=45
   ·subst h
    rw [if_neg (by decide),Chk_of ⟨by simp,by simp;omega⟩]
    rfl
   ·have e:(x==45)=false:=by rw [beq_eq_false_iff_ne];exact h
    simp only [e]
    rw [if_pos (by rfl)]
    simp [body,isNeg,h,e,Bind_snr]
def isInt (s:List UInt8):Bool:=match body s with
 | []=>false
 | x::l=>(x::l).all isD&&(decide (x≠48)||decide (s=[48]))
theorem parseDecimal_eq (s:List UInt8) (hl:Sm s):format_parseDecimal s=some (if isInt s=true then (dec (isNeg s) (dv (body s)),true) else (⟨false,0,0⟩,false)):=by
 unfold format_parseDecimal
 rw [show (#[(45:UInt8)].toList:List UInt8)=[45] from rfl,CutMinus s hl,Bind_snr]
 simp only [Let_nr,cond_or,cond_and,Join_nr]
 have hbl:Sm (body s):=by
  unfold Sm at hl ⊢
  cases s with
  | nil=>exact hl
  | cons x l=>
    show (if x=45 then l else x::l).length<2 ^ 62
    simp only [List.length_cons] at hl
    split
    ·omega
    ·rw [List.length_cons];omega
 unfold isInt
 cases hb:body s with
 | nil=>rfl
 | cons x l=>
   have e1:((x::l:List UInt8)==#[].toList)=false:=rfl
   rw [e1,Chk_of (fun _=>⟨by simp,by simp⟩)]
   have e2:ix (x::l) (0:Int)=x:=rfl
   have e3:toByte (48:Int)=48:=rfl
   rw [e2,e3,Bool.false_or]
   have e4:(x==48&&s != [48]) = !(decide (x≠48)||decide (s=[48])):=by
    by_cases h1:x=48 <;> by_cases h2:s=[48] <;> simp [h1,h2]
   rw [e4]
   cases hg:(decide (x≠48)||decide (s=[48]))
   ·rw [if_pos (show (!false)=true from rfl)]
    simp only [hg,Bool.and_false,ff,if_false]
   ·rw [if_neg (by simp)]
    simp only [hg,Bool.and_true]
    have e0:({ negative:=isNeg s,magnitude:=(0:Int),unit:=(0:Int) }:format_decimal)=dec (isNeg s) 0:=rfl
    rw [e0]
    refine Eq.trans (pd_loop (x::l) (isNeg s) ⟨false,0,0⟩ ⟨false,0,0⟩ _ (by rw [<- hb];exact hbl) ?_ ?_) ?_
    rotate_left 2
    ·split <;> rfl
    ·intro r z n p hp
     rw [if_pos (by rw [decide_eq_true_iff];exact hp)]
     simp only
     by_cases hc:ix (x::l) (p:Int)<128
     ·rw [dec_lo _ _ hc]
      simp only
      generalize ix (x::l) (p:Int)=c at hc
      by_cases hd:isD c=true
      ·obtain ⟨g1,g2⟩:=isD_iff.1 hd
       obtain ⟨k,hk⟩:∃ k:Nat,c.toNat=48+k:=⟨c.toNat - 48,by omega⟩
       have ek:(c.toNat:Int) - 48=(k:Int):=by omega
       rw [if_pos hd,if_neg (by simp;omega),ek,wrap_dig k (by omega),show c.toNat - 48=k by omega]
       have hu:IntKind.u64.wrap (((n % 65536:Nat):Int)*10)=((n % 65536*10:Nat):Int):=by rw [u64_eq];omega
       have hu2:(IntKind.u64.wrap (((n % 65536*10:Nat):Int)+(k:Int))).tmod 65536=(((10*n+k) % 65536:Nat):Int):=by
        rw [u64_eq,Int.tmod_eq_emod_of_nonneg (by omega)];omega
       unfold dec
       simp only [hu,hu2]
       by_cases hm:((min n LIM:Nat):Int)>461168601842738790
       ·rw [if_pos (decide_eq_true hm)]
        congr 3
        unfold LIM at hm ⊢
        congr 1
        omega
       ·rw [if_neg (by rw [decide_eq_true_iff];exact hm)]
        congr 3
        unfold LIM at hm ⊢
        have e5:IntKind.u64.wrap (((min n 4611686018427387905:Nat):Int)*10)=((min n 4611686018427387905*10:Nat):Int):=by rw [u64_eq];omega
        rw [e5]
        have e6:IntKind.u64.wrap (((min n 4611686018427387905*10:Nat):Int)+(k:Int))=((min n 4611686018427387905*10+k:Nat):Int):=by rw [u64_eq];omega
        rw [e6]
        congr 1
        omega
      ·rw [if_neg hd,if_pos]
       rw [isD_iff] at hd
       simp;omega
     ·have:=dec_hi _ _ hc
      have hd:¬ isD (ix (x::l) (p:Int))=true:=by
       rw [isD_iff]
       have:¬ (ix (x::l) (p:Int)).toNat<128:=fun q=>hc q
       omega
      rw [if_neg hd,if_pos]
      simp;omega
    ·intro r z d
     rw [if_neg (by simp)]
def sgn (s:List UInt8) (n:Nat):Int:=if isNeg s=true then -(n:Int) else (n:Int)
def pInt (s:List UInt8):Int × Int:=if isInt s=true then (if dv (body s)<=4611686018427387904 then (sgn s (dv (body s)),0) else (0,6)) else (0,3)
theorem value_eq (s:List UInt8) (n:Nat) (h:n<=4611686018427387904):format_decimal_value (dec (isNeg s) n)=some (sgn s n):=by
 unfold format_decimal_value dec sgn LIM
 have e:IntKind.i64.wrap ((min n 4611686018427387905:Nat):Int)=(n:Int):=by rw [wrap_in _ (by omega) (by omega)];omega
 simp only [Let_nr,e]
 cases isNeg s
 ·rfl
 ·simp only [if_true]
  rw [wrap_in _ (by omega) (by omega)]
  congr 1;omega
theorem ParseInt_eq (s:List UInt8) (hl:Sm s):format_ParseInt s=some (pInt s):=by
 unfold format_ParseInt pInt
 rw [parseDecimal_eq s hl,Bind_snr]
 simp only [Let_nr]
 cases hi:isInt s
 ·rfl
 ·simp only [if_true,Bool.not_true,ff,if_false]
  by_cases h:dv (body s)<=4611686018427387904
  ·rw [if_pos h,if_neg,value_eq s _ h,Bind_snr]
   unfold dec LIM
   rw [decide_eq_true_iff]
   simp only;omega
  ·rw [if_neg h,if_pos]
   unfold dec LIM
   rw [decide_eq_true_iff]
   simp only;omega
def dvf (n:Nat) (l:List UInt8):Nat:=l.foldl (fun n c=>10*n+(c.toNat - 48)) n
theorem dvf_cons (n:Nat) (c:UInt8) (l:List UInt8):dvf n (c::l)=dvf (10*n+(c.toNat - 48)) l:=by unfold dvf;rw [List.foldl_cons]
theorem dvf_ge:∀ (l:List UInt8) (n:Nat),n<=dvf n l
 | [],_=>Nat.le_refl _
 | c::l,n=>by rw [dvf_cons];have:=dvf_ge l (10*n+(c.toNat - 48));omega
theorem w1 (i:Nat) (h:i<2 ^ 62):IntKind.i64.wrap ((i:Int)+1)=((i+1:Nat):Int):=by rw [w64_s i h];omega
def chkI:List UInt8->Bool
 | []=>false
 | x::l=>(x::l).all isD&&decide (x≠48)
theorem IsInteger_eq (s:List UInt8) (hl:Sm s):caromref08_IsInteger s=some (isInt s):=by
 unfold caromref08_IsInteger
 simp only [Let_nr,Join_nr]
 by_cases h0:s=[48]
 ·subst h0;rfl
 ·have e0 : (s==#[48].toList)=false:=by rw [beq_eq_false_iff_ne];exact h0
  rw [e0]
  simp only [ff,if_false]
  have loop:∀ (l:List UInt8) (step:(Int->Option Bool)->Int->Option Bool),Sm l->
   (∀ (r:Int->Option Bool) (i:Nat),IntKind.i64.wrap ((i:Int)+1)=(i:Int)+1->(0<=(i:Int)/\(i:Int)<(l.length:Int))->ix l (i:Int)∈l->step r (i:Int)=if isD (ix l (i:Int))=true then r ((i:Int)+1) else some false)->
   (∀ (r:Int->Option Bool),step r (l.length:Int)=some (match l with | []=>false | x::_=>decide (x≠48)))->
   LOOP step fuel (0:Int)=some (chkI l):=by
   intro l step hl hs he
   rw [LOOP_all l isD _ _ step hl hs he]
   cases l with
   | nil=>rfl
   | cons x l=>unfold chkI;simp only;cases (x::l).all isD <;> rfl
  have stepD:∀ (l:List UInt8) (i:Nat) (X:Option Bool),(0<=(i:Int)/\(i:Int)<(l.length:Int))->(if (bif decide (ix l (i:Int)<toByte 48) then true else decide (toByte 57<ix l (i:Int)))=true then some false else X)=if isD (ix l (i:Int))=true then X else some false:=by
   intro l i X _
   generalize ix l (i:Int)=c
   have e1:(c<toByte 48)↔c.toNat<48:=Iff.rfl
   have e2:(toByte 57<c)↔57<c.toNat:=Iff.rfl
   by_cases hd:isD c=true
   ·rw [if_pos hd]
    obtain ⟨g1,g2⟩:=isD_iff.1 hd
    rw [if_neg]
    rw [cond_or,Bool.or_eq_true,decide_eq_true_iff,decide_eq_true_iff,e1,e2];omega
   ·rw [if_neg hd]
    rw [isD_iff] at hd
    rw [if_pos]
    rw [cond_or,Bool.or_eq_true,decide_eq_true_iff,decide_eq_true_iff,e1,e2];omega
  have fin:∀ (l:List UInt8) ,(Chk ((decide ((l.length:Int)>0)==true)=true->(0:Int)<=0/\(0:Int)<(l.length:Int)) (some (bif decide ((l.length:Int)>0) then ix l 0 != toByte 48 else false)))=some (match l with | []=>false | x::_=>decide (x≠48)):=by
   intro l
   cases l with
   | nil=>rfl
   | cons x l=>
     rw [Chk_of (fun _=>⟨by omega,by simp⟩)]
     have e:decide (((x::l).length:Int)>0)=true:=by simp
     rw [e]
     show some (x != 48)=some (decide (x≠48))
     congr 1
     by_cases h:x=48 <;> simp [h]
  have main:∀ l:List UInt8,Sm l->LOOP (fun (rec250:Int->Option Bool) (s251:Int)=>
   if decide (s251<(l.length:Int))=true then
    Chk (0<=s251/\s251<(l.length:Int)) (Chk ((decide (ix l s251<toByte 48)==false)=true->0<=s251/\s251<(l.length:Int))
     (if (bif decide (ix l s251<toByte 48) then true else decide (toByte 57<ix l s251))=true then some false else rec250 (IntKind.i64.wrap (s251+1))))
   else Chk ((decide ((l.length:Int)>0)==true)=true->(0:Int)<=0/\(0:Int)<(l.length:Int)) (some (bif decide ((l.length:Int)>0) then ix l 0 != toByte 48 else false))) fuel (0:Int)=some (chkI l):=by
   intro l hl
   refine loop l _ hl ?_ ?_
   ·intro r i hw hc hm
    simp only [dlt hc,if_true]
    rw [Chk_of hc,Chk_of (fun _=>hc),stepD l i _ hc,hw]
   ·intro r
    simp only [dll,ff,if_false]
    exact fin l
  cases s with
  | nil =>
    refine (show Chk _ _=Chk _ _ from rfl).trans ?_
    rw [Chk_of (by intro h;cases h)]
    exact main [] hl
  | cons x l=>
    rw [Chk_of (fun _=>⟨by omega,by simp⟩)]
    have e:decide (((x::l).length:Int)>0)=true:=by simp
    have hc:(bif decide (((x::l).length:Int)>0) then ix (x::l) 0==toByte 45 else false)=(x==45):=by rw [e];rfl
    rw [hc]
    by_cases h:x=45
    ·rw [if_pos (by rw [h];rfl),Chk_of ⟨by omega,by rw [List.length_cons];omega⟩]
     refine (main ((x::l).drop 1) (by unfold Sm at hl ⊢;simp at hl ⊢;omega)).trans ?_
     show some (chkI l)=some (isInt (x::l))
     congr 1
     unfold isInt chkI
     rw [show body (x::l)=l from if_pos h]
     cases l with
     | nil=>rfl
     | cons y l=>
       simp only
       have:decide (x::y::l=[48])=false:=by simp
       rw [this,Bool.or_false]
    ·rw [if_neg (by simpa using h)]
     refine (main (x::l) hl).trans ?_
     congr 1
     unfold isInt chkI
     rw [show body (x::l)=x::l from if_neg h]
     simp only
     rw [decide_eq_false h0,Bool.or_false]
theorem refLoop (s:List UInt8) (hl:Sm s) (lim:Int) (hlim:9<=lim/\lim<=4611686018427387904) (fin:Int->Bool->Option (Int × Bool)) (step:(Int × Bool × Int->Option (Int × Bool))->Int × Bool × Int->Option (Int × Bool))
 (hs:∀ (r:Int × Bool × Int->Option (Int × Bool)) (n i:Nat) (neg:Bool),i<s.length->(n:Int)<=lim->isD (ix s (i:Int))=true->step r ((n:Int),neg,(i:Int))=if ((10*n+((ix s (i:Int)).toNat - 48):Nat):Int)<=lim then r (((10*n+((ix s (i:Int)).toNat - 48):Nat):Int),neg,((i+1:Nat):Int)) else some (0,false))
 (he:∀ (r:Int × Bool × Int->Option (Int × Bool)) (n:Nat) (neg:Bool),step r ((n:Int),neg,(s.length:Int))=fin n neg):
 ∀ (k i n:Nat) (neg:Bool),i<=s.length->s.length - i<k->(n:Int)<=lim->(s.drop i).all isD=true->LOOP step k ((n:Int),neg,(i:Int))=if (dvf n (s.drop i):Int)<=lim then fin (dvf n (s.drop i)) neg else some (0,false)
 | 0,i,n,neg,_,h,_,_=>by omega
 | k + 1,i,n,neg,hi,hk,hn,hd=>by
   rw [LOOP_s]
   by_cases h:i<s.length
   ·rw [drop_ix s i h] at hd ⊢
    rw [List.all_cons,Bool.and_eq_true] at hd
    rw [hs _ n i neg h hn hd.1,dvf_cons]
    by_cases hq:((10*n+((ix s (i:Int)).toNat - 48):Nat):Int)<=lim
    ·rw [if_pos hq,refLoop s hl lim hlim fin step hs he k (i+1) _ neg (by omega) (by omega) hq hd.2]
    ·rw [if_neg hq,if_neg]
     have:=dvf_ge (s.drop (i+1)) (10*n+((ix s (i:Int)).toNat - 48))
     omega
   ·have:i=s.length:=by omega
    subst this
    rw [he,List.drop_length,if_pos (by exact hn)]
    rfl
theorem isInt_body {s:List UInt8} (h:isInt s=true):(body s).all isD=true/\body s≠[]:=by
 unfold isInt at h
 cases hb:body s with
 | nil=>rw [hb] at h;cases h
 | cons x l=>rw [hb] at h;simp only [Bool.and_eq_true] at h;exact ⟨h.1,by simp⟩
theorem tdiv10 (a:Int) (h:0<=a):a.tdiv 10=a / 10:=Int.tdiv_eq_ediv_of_nonneg h
theorem refAll (s:List UInt8) (hl:Sm s) (lim:Int) (hlim:9<=lim/\lim<=4611686018427387904) (hd:(body s).all isD=true) (fin:Int->Bool->Option (Int × Bool)) (step:(Int × Bool × Int->Option (Int × Bool))->Int × Bool × Int->Option (Int × Bool))
 (hs:∀ (r:Int × Bool × Int->Option (Int × Bool)) (n i:Nat) (neg:Bool),i<s.length->(n:Int)<=lim->isD (ix s (i:Int))=true->step r ((n:Int),neg,(i:Int))=if ((10*n+((ix s (i:Int)).toNat - 48):Nat):Int)<=lim then r (((10*n+((ix s (i:Int)).toNat - 48):Nat):Int),neg,((i+1:Nat):Int)) else some (0,false))
 (he:∀ (r:Int × Bool × Int->Option (Int × Bool)) (n:Nat) (neg:Bool),step r ((n:Int),neg,(s.length:Int))=fin n neg)
 (hm:∀ (r:Int × Bool × Int->Option (Int × Bool)),ix s 0=45->0<s.length->step r (0,false,0)=r (0,true,1)):
 LOOP step fuel (0,false,0)=if (dv (body s):Int)<=lim then fin (dv (body s)) (isNeg s) else some (0,false):=by
 have key:=refLoop s hl lim hlim fin step hs he
 cases s with
 | nil=>exact key fuel 0 0 false (Nat.le_refl _) (by have:fuel=2 ^ 70:=rfl;simp;omega) (by omega) rfl
 | cons x l=>
   have hfu:fuel=(2 ^ 70 - 1)+1:=rfl
   by_cases h:x=45
   ·have e1:body (x::l)=l:=if_pos h
    have e2:isNeg (x::l)=true:=by subst h;rfl
    rw [e1] at hd ⊢
    rw [e2,hfu,LOOP_s,hm _ (by subst h;rfl) (by simp)]
    exact key (2 ^ 70 - 1) 1 0 true (by simp) (by unfold Sm at hl;omega) (by omega) hd
   ·have e1:body (x::l)=x::l:=if_neg h
    have e2:isNeg (x::l)=false:=by show (x==45)=false;simpa using h
    rw [e1] at hd ⊢
    rw [e2]
    exact key fuel 0 0 false (by simp) (by unfold Sm at hl;rw [hfu];omega) (by omega) hd
theorem refValue_eq (s:List UInt8) (hl:Sm s) (hi:isInt s=true) (lim:Int) (hlim:9<=lim/\lim<=4611686018427387904):caromref08_value s lim=some (if (dv (body s):Int)<=lim then (sgn s (dv (body s)),true) else (0,false)):=by
 obtain ⟨hd,hne⟩:=isInt_body hi
 unfold caromref08_value
 simp only [Let_nr,Join_nr]
 refine (refAll s hl lim hlim hd (fun n neg=>if neg=true then some (IntKind.i64.wrap (0 - n),true) else some (n,true)) _ ?_ ?_ ?_).trans ?_
 rotate_left 3
 ·unfold sgn
  split
  ·cases isNeg s
   ·rfl
   ·simp only [if_true]
    rw [wrap_in _ (by omega) (by omega)]
    congr 2;omega
  ·rfl
 ·intro r n i neg hi2 hn hd2
  simp only
  rw [if_pos (by rw [decide_eq_true_iff];omega)]
  have hc:0<=(i:Int)/\(i:Int)<(s.length:Int):=⟨by omega,by omega⟩
  rw [Chk_of hc]
  obtain ⟨g1,g2⟩:=isD_iff.1 hd2
  generalize ix s (i:Int)=c at g1 g2
  have hn45:(c==toByte 45)=false:=by
   rw [beq_eq_false_iff_ne]
   rintro rfl
   revert g1;decide
  rw [hn45]
  simp only [ff,if_false]
  rw [Chk_of hc]
  obtain ⟨k,hk⟩:∃ k:Nat,c.toNat=48+k:=⟨c.toNat - 48,by omega⟩
  have e1:IntKind.i64.wrap ((c.toNat:Int) - 48)=(k:Int):=by rw [wrap_in _ (by omega) (by omega)];omega
  rw [e1,show c.toNat - 48=k by omega]
  have e2:IntKind.i64.wrap (lim - (k:Int))=lim - k:=wrap_in _ (by omega) (by omega)
  rw [e2,tdiv10 _ (by omega),wrap_in ((lim - (k:Int)) / 10) (by omega) (by omega),w1 i (by unfold Sm at hl;omega)]
  by_cases hq:((10*n+k:Nat):Int)<=lim
  ·rw [if_pos hq,if_neg (by rw [decide_eq_true_iff];omega),wrap_in (10*(n:Int)) (by omega) (by omega),wrap_in (10*(n:Int)+k) (by omega) (by omega)]
   congr 2
  ·rw [if_neg hq,if_pos (by rw [decide_eq_true_iff];omega)]
 ·intro r n neg
  simp only [dll,ff,if_false]
 ·intro r hx hlen
  simp only
  rw [if_pos (by rw [decide_eq_true_iff];omega),Chk_of ⟨by omega,by omega⟩,hx]
  rfl
theorem refParseInt_eq (s:List UInt8) (hl:Sm s):caromref08_ParseInt s=some (pInt s):=by
 unfold caromref08_ParseInt pInt
 rw [IsInteger_eq s hl,Bind_snr]
 simp only [Let_nr]
 cases hi:isInt s
 ·rfl
 ·rw [refValue_eq s hl hi _ (by omega)]
  simp only [Bool.not_true,ff,if_false,if_true,Bind_snr]
  by_cases h:dv (body s)<=4611686018427387904
  ·have h':(dv (body s):Int)<=4611686018427387904:=by omega
   simp only [if_pos h,if_pos h',Bool.not_true,ff,if_false]
  ·have h':¬ (dv (body s):Int)<=4611686018427387904:=by omega
   simp only [if_neg h,if_neg h',Bool.not_false,if_true]
def endsC (c:UInt8) (s:List UInt8):Bool:=decide (s.getLast? = some c)
def cutC (c:UInt8) (s:List UInt8):List UInt8:=if endsC c s=true then s.dropLast else s
theorem drop_last (s:List UInt8) (h:s≠[]):s.drop (s.length - 1)=[s.getLast h]:=by
 rw [List.drop_eq_getElem_cons (by have:=List.length_pos_iff.2 h;omega),List.getLast_eq_getElem,List.drop_of_length_le (by omega)]
theorem Cut1 (s:List UInt8) (c:UInt8) (hl:Sm s):strings_CutSuffix s [c]=some (cutC c s,endsC c s):=by
 unfold strings_CutSuffix stringslite_CutSuffix stringslite_HasSuffix
 simp only [Let_nr]
 by_cases h:s=[]
 ·subst h
  unfold cutC endsC
  simp
 ·have hp:0<s.length:=List.length_pos_iff.2 h
  have e1:decide ((s.length:Int)>=(([c]:List UInt8).length:Int))=true:=by rw [decide_eq_true_iff];simp;omega
  have e2:IntKind.i64.wrap ((s.length:Int) - (([c]:List UInt8).length:Int))=((s.length - 1:Nat):Int):=by
   unfold Sm at hl
   rw [wrap_in _ (by simp;omega) (by simp;omega)];simp;omega
  rw [e1,e2,Chk_of (fun _=>⟨by omega,by omega⟩),Int.toNat_natCast,drop_last s h]
  have e3:([s.getLast h]==[c])=endsC c s:=by
   unfold endsC
   rw [List.getLast?_eq_some_getLast h]
   by_cases hc:s.getLast h=c <;> simp [hc]
  simp only [e3,cond_true,Bind_snr]
  unfold cutC
  cases endsC c s
  ·rfl
  ·simp only [Bool.not_true,ff,if_false,if_true]
   rw [Chk_of ⟨by omega,by omega⟩,Bind_snr,List.dropLast_eq_take]
def spl (c:UInt8):List UInt8->List (List UInt8)
 | []=>[[]]
 | x::l=>if x=c then []::spl c l else match spl c l with
   | []=>[[x]]
   | p::ps=>(x::p)::ps
theorem spl_cons (c x:UInt8) (l:List UInt8):spl c (x::l)=if x=c then []::spl c l else match spl c l with
 | []=>[[x]]
 | p::ps=>(x::p)::ps:=by rw [spl]
theorem spl_ne (c:UInt8):∀ l,spl c l≠[]
 | []=>by simp [spl]
 | x::l=>by
   unfold spl
   split
   ·simp
   ·split <;> simp
theorem spl_len (c:UInt8):∀ l,(spl c l).length=l.count c+1
 | []=>rfl
 | x :: l=>by
   unfold spl
   have ih:=spl_len c l
   by_cases h:x=c
   ·rw [if_pos h,List.length_cons,ih,h,List.count_cons_self]
   ·rw [if_neg h,List.count_cons_of_ne h]
    split
    ·rename_i h2;exact absurd h2 (spl_ne c l)
    ·rename_i p ps h2;rw [h2] at ih;exact ih
theorem spl_at (c:UInt8):∀ l,(Lib.indexByte l c<0/\spl c l=[l])\/(∃ i:Nat,Lib.indexByte l c=(i:Int)/\i<l.length/\spl c l=l.take i::spl c (l.drop (i+1)))
 | []=>.inl ⟨by unfold Lib.indexByte;decide,rfl⟩
 | x :: l=>by
   unfold Lib.indexByte
   by_cases h:x=c
   ·right
    refine ⟨0,by rw [if_pos (by simpa using h)];rfl,by simp,?_⟩
    rw [spl_cons,if_pos h]
    rfl
   ·have hb:¬ (x==c)=true:=by simpa using h
    rw [if_neg hb]
    rcases spl_at c l with ⟨h1,h2⟩ | ⟨i,h1,h2,h3⟩
    ·left
     have:Lib.indexByte l c = -1:=by have:=Lib.indexByte_ge l c;omega
     rw [this]
     refine ⟨by decide,?_⟩
     rw [spl_cons,if_neg h,h2]
    ·right
     refine ⟨i+1,?_,by simpa using h2,?_⟩
     ·rw [h1,if_neg (by rw [beq_iff_eq];omega)];rfl
     ·rw [spl_cons,if_neg h,h3]
      rfl
theorem genLoop (c:UInt8) (N:Nat) (hN:N<2 ^ 62) (K:List UInt8->Nat->List (List UInt8)->Option (List (List UInt8))) (step:(List UInt8 × Int × List (List UInt8)->Option (List (List UInt8)))->List UInt8 × Int × List (List UInt8)->Option (List (List UInt8)))
 (hs:∀ (r:List UInt8 × Int × List (List UInt8)->Option (List (List UInt8))) (s:List UInt8) (i:Nat) (a:List (List UInt8)),a.length=N+1->i<=N->s.length<2 ^ 62->
   step r (s,(i:Int),a)=if (i:Int)<(N:Int) then (if Lib.indexByte s c<0 then K s i a else r (s.drop ((Lib.indexByte s c).toNat+1),((i+1:Nat):Int),a.set i (s.take (Lib.indexByte s c).toNat))) else K s i a):
 ∀ (k i:Nat) (s:List UInt8) (a:List (List UInt8)),s.length<2 ^ 62->a.length=N+1->i+s.count c=N->s.count c<k->
   ∃ s' a',a'.length=N+1/\a'.take N=a.take i++(spl c s).dropLast/\spl c s=(spl c s).dropLast++[s']/\LOOP step k (s,(i:Int),a)=K s' N a'
 | 0,i,s,a,_,_,_,h=>by omega
 | k + 1,i,s,a,hl,ha,hi,hk=>by
   rw [LOOP_s,hs _ s i a ha (by omega) hl]
   have hlen:=spl_len c s
   rcases spl_at c s with ⟨h1,h2⟩ | ⟨j,h1,h2,h3⟩
   ·rw [h2] at hlen
    have h0:s.count c=0:=by simp at hlen;exact hlen
    have:i=N:=by omega
    subst this
    refine ⟨s,a,ha,by rw [h2];simp,by rw [h2];rfl,?_⟩
    rw [if_neg (by omega)]
   ·rw [h3] at hlen
    rw [List.length_cons,spl_len] at hlen
    rw [if_pos (by omega),if_neg (by omega),h1,Int.toNat_natCast]
    obtain ⟨s',a',g1,g2,g3,g4⟩:=genLoop c N hN K step hs k (i+1) (s.drop (j+1)) (a.set i (s.take j)) (by rw [List.length_drop];omega) (by rw [List.length_set];exact ha) (by omega) (by omega)
    refine ⟨s',a',g1,?_,?_,g4⟩
    ·rw [g2,h3]
     have:(s.take j::spl c (s.drop (j+1))).dropLast=s.take j::(spl c (s.drop (j+1))).dropLast:=by
      rw [List.dropLast_cons_of_ne_nil (spl_ne _ _)]
     rw [this,List.take_add_one]
     have e1:(a.set i (s.take j)).take i=a.take i:=by
      rw [List.take_set_of_le (Nat.le_refl _)]
     rw [e1,List.getElem?_set_self (by omega)]
     simp
    ·rw [h3,List.dropLast_cons_of_ne_nil (spl_ne _ _),List.cons_append,<- g3]
theorem Split_eq (s:List UInt8) (c:UInt8) (hl:s.length<=1000000):strings_Split s [c]=some (spl c s):=by
 unfold strings_Split strings_genSplit
 simp only [Let_nr,Join_nr]
 have hcnt:s.count c<=s.length:=List.count_le_length
 have e1:((-1:Int)==0)=false:=rfl
 have e2:(([c]:List UInt8)==#[].toList)=false:=rfl
 have e3:decide ((-1:Int)<0)=true:=rfl
 rw [e1,e2,e3]
 simp only [ff,if_false,if_true]
 unfold strings_Count count1
 simp only [Bind_snr]
 have e4:IntKind.i64.wrap ((s.count c:Int)+1)=((s.count c+1:Nat):Int):=w1 _ (by omega)
 have e5:IntKind.i64.wrap ((s.length:Int)+1)=((s.length+1:Nat):Int):=w1 _ (by omega)
 have e6:min ((s.count c+1:Nat):Int) ((s.length+1:Nat):Int)=((s.count c+1:Nat):Int):=by omega
 rw [e4,e5,e6,Chk_of ⟨by omega,by omega,by omega,by omega⟩]
 have e7:IntKind.i64.wrap (((s.count c+1:Nat):Int) - 1)=(s.count c:Int):=by rw [wrap_in _ (by omega) (by omega)];omega
 rw [e7,Int.toNat_natCast]
 have main:∀ (step:(List UInt8 × Int × List (List UInt8)->Option (List (List UInt8)))->List UInt8 × Int × List (List UInt8)->Option (List (List UInt8))),
  (∀ (r:List UInt8 × Int × List (List UInt8)->Option (List (List UInt8))) (s0:List UInt8) (i:Nat) (a:List (List UInt8)),a.length=s.count c+1->i<=s.count c->s0.length<2 ^ 62->
  step r (s0,(i:Int),a)=if (i:Int)<(s.count c:Int) then (if Lib.indexByte s0 c<0 then some ((a.set i s0).take (i+1)) else r (s0.drop ((Lib.indexByte s0 c).toNat+1),((i+1:Nat):Int),a.set i (s0.take (Lib.indexByte s0 c).toNat))) else some ((a.set i s0).take (i+1)))->
  (Rx.Bind (LOOP step fuel (s,(0:Int),List.replicate (s.count c+1) [])) fun (r:List (List UInt8))=>some r)=some (spl c s):=by
  intro step hs
  obtain ⟨s',a',g1,g2,g3,g4⟩:=genLoop c (s.count c) (by omega) (fun s i a=>some ((a.set i s).take (i+1))) step hs fuel 0 s (List.replicate (s.count c+1) []) (by omega) (by simp) (by omega) (by have:fuel=2 ^ 70:=rfl;omega)
  refine (congrArg (fun m=>Rx.Bind m _) g4).trans ?_
  rw [Bind_snr,List.take_add_one,List.take_set_of_le (Nat.le_refl _),g2,List.getElem?_set_self (by omega)]
  simp only [List.take_zero,List.nil_append]
  rw [g3]
  simp
 refine main _ ?_
 intro r s0 i a ha hi hs
 simp only
 unfold strings_Index index1
 simp only [Bind_snr]
 have hix:=spl_at c s0
 have f1:IntKind.i64.wrap ((i:Int)+1)=((i+1:Nat):Int):=w1 i (by omega)
 have fin:(Chk ((0:Int)<=(i:Int)/\(i:Int)<(a.length:Int)) (Chk ((0:Int)<=(i:Int)/\(i:Int)<(a.length:Int)) (Chk ((0:Int)<=none.getD (0:Int)/\(0:Int)<=(some (IntKind.i64.wrap ((i:Int)+1))).getD (0:Int)/\(0:Nat)<=(IntKind.i64.wrap ((i:Int)+1)).toNat/\(IntKind.i64.wrap ((i:Int)+1)).toNat<=(a.set (i:Int).toNat s0).length)
  (Chk ((IntKind.i64.wrap ((i:Int)+1)).toNat - 0<=(a.set (i:Int).toNat s0).length) (some ((a.set (i:Int).toNat s0).take ((IntKind.i64.wrap ((i:Int)+1)).toNat - 0)))))))=some ((a.set i s0).take (i+1)):=by
  rw [f1,Chk_of ⟨by omega,by omega⟩,Chk_of ⟨by omega,by omega⟩,Chk_of ⟨by simp,by simp;omega,by omega,by simp;omega⟩,Chk_of (by simp;omega)]
  simp
 by_cases hlt:(i:Int)<(s.count c:Int)
 ·rw [if_pos (decide_eq_true hlt),if_pos hlt]
  rcases hix with ⟨h1,h2⟩ | ⟨j,h1,h2,h3⟩
  ·rw [if_pos (decide_eq_true h1),if_pos h1]
   exact fin
  ·rw [h1,if_neg (by rw [decide_eq_true_iff];omega),if_neg (by omega)]
   have f2:IntKind.i64.wrap ((j:Int)+0)=(j:Int):=by rw [wrap_in _ (by omega) (by omega)];omega
   have f3:IntKind.i64.wrap ((j:Int)+(([c]:List UInt8).length:Int))=((j+1:Nat):Int):=w1 j (by omega)
   rw [f2,f3,f1,Chk_of ⟨by omega,by omega⟩,Chk_of ⟨by omega,by omega⟩,Chk_of ⟨by omega,by omega⟩,Chk_of ⟨by omega,by omega⟩]
   rfl
 ·rw [if_neg (by rw [decide_eq_true_iff];exact hlt),if_neg hlt]
  exact fin
def isP (c:UInt8):Bool:=decide (32<=c.toNat)&&decide (c.toNat<=126)
def isFl (s:List UInt8):Bool:=s.all (fun c=>decide (33<=c.toNat)&&decide (c.toNat<=126))&&decide (s≠[])
def pFields (l:List UInt8):List (List UInt8) × Int:=if l=[] then ([],0) else if (spl 32 l).all isFl=true then (spl 32 l,0) else ([],3)
theorem spl_allq (c:UInt8) (q:UInt8->Bool) (hq:q c=true):∀ l,(spl c l).all (fun p=>p.all q)=l.all q
 | []=>rfl
 | x :: l=>by
   have ih:=spl_allq c q hq l
   rw [spl_cons]
   by_cases h:x=c
   ·subst h
    rw [if_pos rfl,List.all_cons,List.all_cons,ih,hq];rfl
   ·rw [if_neg h]
    split
    ·rename_i h2;exact absurd h2 (spl_ne _ _)
    ·rename_i p ps h2
     rw [h2] at ih
     simp only [List.all_cons] at ih ⊢
     rw [<- ih,Bool.and_assoc]
theorem spl_no (c:UInt8):∀ l,∀ p∈spl c l,c∉p
 | [],p,h=>by simp [spl] at h;subst h;simp
 | x :: l,p,h=>by
   rw [spl_cons] at h
   by_cases hx:x=c
   ·rw [if_pos hx] at h
    rcases List.mem_cons.1 h with rfl | h
    ·simp
    ·exact spl_no c l p h
   ·rw [if_neg hx] at h
    have ih:=spl_no c l
    split at h
    ·simp at h;subst h;simp;exact fun q=>hx q.symm
    ·rename_i q qs h2
     rw [h2] at ih
     rcases List.mem_cons.1 h with rfl | h
     ·rw [List.mem_cons,not_or]
      exact ⟨fun q=>hx q.symm,ih q (by simp)⟩
     ·exact ih p (List.mem_cons_of_mem _ h)
theorem spl_isF (l:List UInt8):(spl 32 l).all isFl=(l.all isP&&(spl 32 l).all (fun p => !decide (p=[]))):=by
 rw [<- spl_allq 32 isP (by decide) l]
 have key:∀ p∈spl 32 l,isFl p=(p.all isP && !decide (p=[])):=by
  intro p hp
  have h32:=spl_no 32 l p hp
  unfold isFl
  congr 1
  ·rw [Bool.eq_iff_iff,List.all_eq_true,List.all_eq_true]
   refine forall_congr' fun x=>forall_congr' fun hx=>?_
   have:x.toNat≠32:=fun q=>h32 (by rw [show (32:UInt8)=x from UInt8.toNat_inj.1 q.symm];exact hx)
   unfold isP
   simp
   omega
  ·by_cases h:p=[] <;> simp [h]
 have aux:∀ L:List (List UInt8),(∀ p∈L,isFl p=(p.all isP && !decide (p=[])))->L.all isFl=(L.all (fun p=>p.all isP)&&L.all (fun p => !decide (p=[]))):=by
  intro L
  induction L with
  | nil=>intro _;rfl
  | cons p L ih=>
    intro h
    rw [List.all_cons,List.all_cons,List.all_cons,h p (by simp),ih fun q hq=>h q (List.mem_cons_of_mem _ hq)]
    cases p.all isP <;> cases L.all (fun p=>p.all isP) <;> simp
 exact aux _ key
theorem Fields_eq (l:List UInt8) (hl:l.length<=1000000):format_Fields l=some (pFields l):=by
 unfold format_Fields pFields
 simp only [Let_nr]
 by_cases h0:l=[]
 ·subst h0;rfl
 ·have e0:(l==#[].toList)=false:=by rw [beq_eq_false_iff_ne];exact h0
  rw [e0,if_neg h0]
  simp only [ff,if_false]
  rw [show LOOP _ fuel (0:Int)=_ from LOOP_all l isP (some (if (spl 32 l).all (fun p => !decide (p=[]))=true then (spl 32 l,0) else ([],3))) (some ([],3)) _ (sm_of hl (by omega)) ?_ ?_]
  ·rw [spl_isF]
   cases l.all isP <;> rfl
  ·intro r i hw hc hm
   simp only [dlt hc,if_true,Chk_of hc,hw]
   generalize ix l (i:Int)=c
   have e1:(c<toByte 32)↔c.toNat<32:=Iff.rfl
   have e2:(toByte 126<c)↔126<c.toNat:=Iff.rfl
   rw [cond_or]
   by_cases hp:isP c=true
   ·rw [if_pos hp,if_neg]
    rw [Bool.or_eq_true,decide_eq_true_iff,decide_eq_true_iff,e1,e2]
    unfold isP at hp;simp at hp;omega
   ·rw [if_neg hp,if_pos]
    rw [Bool.or_eq_true,decide_eq_true_iff,decide_eq_true_iff,e1,e2]
    unfold isP at hp;simp at hp;omega
  ·intro r
   simp only [dll,ff,if_false]
   rw [Split_eq l 32 hl,Bind_snr]
   have hsl:(spl 32 l).length<=1000001:=by rw [spl_len];have:=List.count_le_length (a:=(32:UInt8)) (l:=l);omega
   rw [show LOOP _ fuel (0:Int)=_ from LOOP_all (spl 32 l) (fun p => !decide (p=[])) (some (spl 32 l,0)) (some ([],3)) _ (sm_of hsl (by omega)) ?_ ?_]
   ·cases (spl 32 l).all (fun p => !decide (p=[])) <;> rfl
   ·intro r i hw hc hm
    simp only [dlt hc,if_true,Chk_of hc,hw]
    by_cases h:ix (spl 32 l) (i:Int)=[]
    ·rw [h];rfl
    ·have:(ix (spl 32 l) (i:Int)==[])=false:=by rw [beq_eq_false_iff_ne];exact h
     rw [this,decide_eq_false h];rfl
   ·intro r
    simp only [dll,ff,if_false]
theorem spl_self (c:UInt8):∀ p:List UInt8,c∉p->spl c p=[p]
 | [],_=>rfl
 | x::l,h=>by
   rw [List.mem_cons,not_or] at h
   rw [spl_cons,if_neg (fun q=>h.1 q.symm),spl_self c l h.2]
theorem spl_app (c:UInt8) (t:List UInt8):∀ p:List UInt8,c∉p->spl c (p++c::t)=p::spl c t
 | [],_=>by rw [List.nil_append,spl_cons,if_pos rfl]
 | x::l,h=>by
   rw [List.mem_cons,not_or] at h
   rw [List.cons_append,spl_cons,if_neg (fun q=>h.1 q.symm),spl_app c t l h.2]
def rest (c:UInt8) (l:List UInt8) (a:Nat):List (List UInt8):=if a<=l.length then spl c (l.drop a) else []
def pLines (l:List UInt8):List (List UInt8) × Int:=if l=[] then ([],0) else if endsC 10 l=true then (spl 10 l.dropLast,0) else ([],3)
theorem SplitLines_eq (l:List UInt8) (hl:l.length<=1000000):format_SplitLines l=some (pLines l):=by
 unfold format_SplitLines pLines
 simp only [Let_nr]
 by_cases h0:l=[]
 ·subst h0;rfl
 ·have e0:(l==#[].toList)=false:=by rw [beq_eq_false_iff_ne];exact h0
  rw [e0,if_neg h0]
  simp only [ff,if_false]
  rw [Cut1 l 10 (sm_of hl (by omega)),Bind_snr]
  unfold cutC
  cases endsC 10 l
  ·rfl
  ·simp only [Bool.not_true,ff,if_false,if_true]
   rw [Split_eq _ 10 (by rw [List.length_dropLast];omega),Bind_snr]
theorem ends_app {c:UInt8} {l:List UInt8} (h:endsC c l=true):l=l.dropLast++[c]:=by
 unfold endsC at h
 rw [decide_eq_true_iff] at h
 have hne:l≠[]:=by rintro rfl;cases h
 rw [List.getLast?_eq_some_getLast hne] at h
 have:=List.dropLast_concat_getLast hne
 rw [Option.some.inj h] at this
 exact this.symm
theorem JoinFields_eq (l:List (List UInt8)) (h1:l.length<=1000000) (h2:(Lib.join l [32]).length<=140737488355328):format_JoinFields l=some (Lib.join l [32]):=by
 unfold format_JoinFields strings_Join joinS
 rw [Chk_of ⟨h2,by omega⟩,Bind_snr]
theorem joinTail_cons (x:List UInt8) (r:List (List UInt8)):Lib.joinTail [32] (x::r)=32::x++Lib.joinTail [32] r:=by
 unfold Lib.joinTail
 simp
def flat (c:UInt8) (L:List (List UInt8)):List UInt8:=L.flatMap fun p=>p++[c]
theorem flat_cons (c:UInt8) (p:List UInt8) (L:List (List UInt8)):flat c (p::L)=p++c::flat c L:=by unfold flat;simp
theorem flat_spl (c:UInt8):∀ l,flat c (spl c l)=l++[c]
 | []=>rfl
 | x :: l=>by
   have ih:=flat_spl c l
   rw [spl_cons]
   by_cases h:x=c
   ·rw [if_pos h,flat_cons,ih,h];rfl
   ·rw [if_neg h]
    cases hq:spl c l with
    | nil=>exact absurd hq (spl_ne _ _)
    | cons p ps=>
      rw [hq,flat_cons] at ih
      simp only
      rw [flat_cons,List.cons_append,ih];rfl
theorem pLines_cases (s:List UInt8):(s≠[]/\endsC 10 s=false/\pLines s=([],3))\/(∃ L,pLines s=(L,0)/\flat 10 L=s/\(∀ p∈L,(10:UInt8)∉p)/\L.length<=s.length+1):=by
 unfold pLines
 by_cases h0:s=[]
 ·subst h0
  exact .inr ⟨[],rfl,rfl,by simp,by simp⟩
 ·rw [if_neg h0]
  cases he:endsC 10 s
  ·exact .inl ⟨h0,rfl,rfl⟩
  ·refine .inr ⟨_,rfl,?_,spl_no 10 _,?_⟩
   ·rw [flat_spl,<- ends_app he]
   ·rw [spl_len]
    have:=List.count_le_length (a:=(10:UInt8)) (l:=s.dropLast)
    rw [List.length_dropLast] at this
    omega
theorem toNat_dig (k:Nat) (h:k<10):(UInt8.ofNat (48+k)).toNat=48+k:=by
 rw [UInt8.toNat_ofNat'];omega
theorem digs_facts:∀ (k m:Nat),m<=k->(digs m).all isD=true/\dv (digs m)=m/\∃ x l,digs m=x::l/\(x=48->m=0)
 | k,m,hk=>by
   by_cases h:m<10
   ·rw [digs_lt h]
    refine ⟨?_,?_,_,_,rfl,?_⟩
    ·simp only [List.all_cons,List.all_nil,Bool.and_true]
     rw [isD_iff,toNat_dig m h];omega
    ·show 10*0+((UInt8.ofNat (48+m)).toNat - 48)=m
     rw [toNat_dig m h];omega
    ·intro q
     have:=congrArg UInt8.toNat q
     rw [toNat_dig m h] at this
     change 48+m=48 at this
     omega
   ·obtain ⟨g1,g2,x,l,g3,g4⟩:=digs_facts (k - 1) (m / 10) (by omega)
    rw [digs_ge h]
    refine ⟨?_,?_,x,l++[UInt8.ofNat (48+m % 10)],by rw [g3];rfl,?_⟩
    ·rw [List.all_append,g1,Bool.true_and]
     simp only [List.all_cons,List.all_nil,Bool.and_true]
     rw [isD_iff,toNat_dig _ (by omega)];omega
    ·rw [dv_snoc,g2,toNat_dig _ (by omega)];omega
    ·intro q
     have:=g4 q
     omega
termination_by k=>k
decreasing_by omega
theorem body_fmt (n:Int):body (fmtInt n)=digs n.natAbs/\isNeg (fmtInt n)=decide (n<0)/\isInt (fmtInt n)=true:=by
 obtain ⟨g1,g2,x,l,g3,g4⟩:=digs_facts n.natAbs n.natAbs (Nat.le_refl _)
 have hx45:x≠45:=by
  rintro rfl
  rw [g3] at g1
  simp only [List.all_cons,Bool.and_eq_true] at g1
  exact absurd g1.1 (by decide)
 have hd:(x::l).all isD=true:=by rw [<- g3];exact g1
 unfold fmtInt
 by_cases hn:n<0
 ·rw [if_pos hn,decide_eq_true hn]
  have hb:body (45::digs n.natAbs)=digs n.natAbs:=rfl
  refine ⟨hb,rfl,?_⟩
  unfold isInt
  rw [hb,g3]
  simp only
  rw [hd,Bool.true_and,decide_eq_true (by intro q;have:=g4 q;omega),Bool.true_or]
 ·rw [if_neg hn,decide_eq_false hn,g3]
  have hb:body (x::l)=x::l:=if_neg hx45
  refine ⟨hb,by show (x==45)=false;simpa using hx45,?_⟩
  unfold isInt
  rw [hb]
  simp only
  rw [hd,Bool.true_and]
  by_cases h0:n.natAbs=0
  ·have:(x::l)=[48]:=by rw [<- g3,h0,digs_lt (by omega)];rfl
   rw [decide_eq_true this,Bool.or_true]
  ·rw [decide_eq_true (by intro q;exact h0 (g4 q)),Bool.true_or]
theorem sgn_fmt (n:Int):sgn (fmtInt n) n.natAbs=n:=by
 unfold sgn
 rw [(body_fmt n).2.1]
 by_cases h:n<0
 ·rw [decide_eq_true h,if_pos rfl];omega
 ·rw [decide_eq_false h,if_neg (by decide)];omega
theorem pInt_fmt (n:Int):pInt (fmtInt n)=if n.natAbs<=4611686018427387904 then (n,0) else (0,6):=by
 obtain ⟨h1,h2,h3⟩:=body_fmt n
 unfold pInt
 rw [if_pos h3,h1,(digs_facts _ _ (Nat.le_refl _)).2.1,sgn_fmt]
theorem spl_join:∀ (r:List (List UInt8)) (x:List UInt8),(∀ p∈x::r,(32:UInt8)∉p)->spl 32 (x++Lib.joinTail [32] r)=x::r
 | [],x,h=>by
   have:Lib.joinTail [32] []=[]:=rfl
   rw [this,List.append_nil,spl_self 32 x (h x (by simp))]
 | y::r,x,h=>by
   rw [joinTail_cons,List.cons_append,spl_app 32 _ x (h x (by simp)),spl_join r y fun p hp=>h p (List.mem_cons_of_mem _ hp)]
theorem isF_no {p:List UInt8} (h:isFl p=true):(32:UInt8)∉p/\p≠[]:=by
 unfold isFl at h
 rw [Bool.and_eq_true,List.all_eq_true,decide_eq_true_iff] at h
 refine ⟨fun q=>?_,h.2⟩
 have:=h.1 _ q
 exact absurd this (by decide)
theorem pFields_join (L:List (List UInt8)) (h:L.all isFl=true):pFields (Lib.join L [32])=(L,0):=by
 cases L with
 | nil=>rfl
 | cons x r=>
   have h':=List.all_eq_true.1 h
   rw [Lib.join_cons]
   unfold pFields
   have hx:=(isF_no (h' x (by simp))).2
   rw [if_neg (by simp [hx]),spl_join r x fun p hp=>(isF_no (h' p hp)).1,if_pos h]
end GoForm
