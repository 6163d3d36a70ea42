/- Several texts in one. No conditions. -/
import Derived.Test.YtffgldbihpgjgaaGreatDoorQE
import Derived.Test.YtffgldbihpgjgaaGreatDoorF47D
section
/- The plain forms of the program's functions: printed by gen2.py from the translation. No conditions. -/
set_option linter.all false
open Go Go.Rx
namespace GoOld
structure Vec where
 X:Int
 Y:Int
 deriving DecidableEq,Inhabited
def Vec.zero:Vec:=⟨0,0⟩
def Vec.beq (x y:Vec):Bool:=decide (x.X=y.X)&&(decide (x.Y=y.Y))
def jhO (b:List UInt8) (s:List UInt8) (l:List Int):Bool:=
 Let ((cond (cond (decide (((b).length:Int)≤2000)) (decide (((s).length:Int)≤500)) false) (decide (((l).length:Int)≤100)) false)) fun x1=>
 x1
def codec_readByte (b:List UInt8) (at_1:Int):Option (UInt8 × Int):=
  Let ((cond (decide (at_1<0)) true (decide (((b).length:Int)<at_1)))) fun x1=>
  if x1=true then
    some (0,2)
  else
    Let ((at_1==((b).length:Int))) fun x2=>
    if x2=true then
      some (0,4)
    else
      Chk (0≤at_1∧at_1<((b).length:Int)) <|
      Let ((ix b at_1)) fun x4=>
      some (x4,0)
def codec_magnitude (n_0:Int):Int:=
  if (decide (n_0<0))=true then
    Let ((IntKind.u64.wrap (0 - (IntKind.u64.wrap (n_0))))) fun x1=>
    x1
  else
    Let ((IntKind.u64.wrap (n_0))) fun x2=>
    x2
def codec_ReadInt_l1 (kj2:Int→Option (Int × Int × Int)) (x10:List UInt8):Nat→Int→Int→Option (Int × Int × Int)
  | 0,_,_=>none
  | n + 1,v11,v12=>
    if (decide (v12<((x10).length:Int)))=true then
      Chk (0≤v12∧v12<((x10).length:Int)) <|
      Let ((ix x10 v12)) fun x14=>
      Let ((bOr .u64 (bShl .u64 v11 8) ((x14).toNat:Int))) fun x15=>
      Let ((w64 (v12+1))) fun x16=>
      (codec_ReadInt_l1 kj2 x10 n) x15 x16
    else
      kj2 v11
def codec_ReadInt_j2 (at_1:Int) (x3:Bool) (v4:Int) (x7:List UInt8) (v8:Int) (v18:Int):Option (Int × Int × Int):=
  Chk (((decide (0<v4))==true)=true→0≤(0:Int)∧0<((x7).length:Int)) <|
  Let (codec_magnitude v18) fun r21=>
  if (cond (cond (cond (decide (0<v4)) ((ix x7 0)==0) false) true (r21 != v8)) true ((decide (v18<0)) != x3))=true then
    some (0,0,3)
  else
    Let ((w64 ((w64 (at_1+1))+v4))) fun x22=>
    some (v18,x22,0)
def codec_ReadInt_j3 (at_1:Int) (x3:Bool) (v4:Int) (x7:List UInt8) (v8:Int):Option (Int × Int × Int):=
  Let ((w64 (v8))) fun x17=>
  if x3=true then
    Let ((w64 (0 - x17))) fun x19=>
    (codec_ReadInt_j2 at_1 x3 v4 x7 v8) x19
  else
    (codec_ReadInt_j2 at_1 x3 v4 x7 v8) x17
def codec_ReadInt_j4 (b:List UInt8) (at_1:Int) (x3:Bool) (v4:Int):Option (Int × Int × Int):=
  if (decide (8<v4))=true then
    some (0,0,3)
  else
    Chk (0≤(w64 (at_1+1))∧(w64 (at_1+1))≤(b.length:Int)) <|
    Let ((b.drop ((w64 (at_1+1))).toNat)) fun x7=>
    if (decide (((x7).length:Int)<v4))=true then
      some (0,0,4)
    else
      Chk (0≤v4∧v4≤(x7.length:Int)) <|
      Let ((x7.take (v4).toNat)) fun x10=>
      codec_ReadInt_l1 (codec_ReadInt_j3 at_1 x3 v4 x7) x10 fuel 0 0
def codec_ReadInt (b:List UInt8) (at_1:Int):Option (Int × Int × Int):=
  Bind (codec_readByte b at_1) fun r1=>
  if (r1.2 != 0)=true then
    some (0,0,r1.2)
  else
    Let (((r1.1).toNat:Int)) fun x2=>
    Let ((decide (16<r1.1))) fun x3=>
    if x3=true then
      Let ((w64 (x2 - 16))) fun x5=>
      (codec_ReadInt_j4 b at_1 x3) x5
    else
      (codec_ReadInt_j4 b at_1 x3) x2
def codec_extend (b:List UInt8) (more:List UInt8):Option (List UInt8):=
 Chk (((b).length+(more).length)*1≤140737488355328) <|
 Let (b++more) fun x2=>
 some x2
def codec_AppendInt_l1 (kj1:List UInt8→Option (List UInt8)):Nat→List UInt8→Int→Option (List UInt8)
  | 0,_,_=>none
  | n + 1,v3,v4=>
    if (decide (0<v4))=true then
      Chk (((([(jat v4)]:List UInt8)).length+(v3).length)*1≤140737488355328) <|
      Let (([(jat v4)]:List UInt8)++v3) fun x6=>
      Let ((bShr .u64 v4 8)) fun x7=>
      (codec_AppendInt_l1 kj1 n) x6 x7
    else
      kj1 v3
def jcn (b:List UInt8) (v1:List UInt8) (v8:Int):Option (List UInt8):=
 Bind (codec_extend b ([(jat v8)]:List UInt8)) fun r10=>
 Bind (codec_extend r10 v1) fun r11=>
 some r11
def codec_AppendInt_j3 (b:List UInt8) (n_1:Int) (v1:List UInt8):Option (List UInt8):=
  if (decide (n_1<0))=true then
    Let ((w64 (((v1).length:Int)+16))) fun x9=>
    (jcn b v1) x9
  else
    (jcn b v1) ((v1).length:Int)
def codec_AppendInt (b:List UInt8) (n_1:Int):Option (List UInt8):=
 Let (codec_magnitude n_1) fun r2=>
 codec_AppendInt_l1 (codec_AppendInt_j3 b n_1) fuel ([]:List UInt8) r2
def ref07_ReadInt_l1 (b:List UInt8) (at_1:Int) (v4:Int) (kj2:Int→Option (Int × Int × Int)):Nat→Int→Int→Option (Int × Int × Int)
  | 0,_,_=>none
  | n + 1,v8,v9=>
    if (decide (v9≤v4))=true then
      Chk (0≤(w64 (at_1+v9))∧(w64 (at_1+v9))<((b).length:Int)) <|
      Let ((IntKind.u64.wrap ((IntKind.u64.wrap (v8*256))+(((ix b (w64 (at_1+v9)))).toNat:Int)))) fun x11=>
      Let ((w64 (v9+1))) fun x12=>
      (ref07_ReadInt_l1 b at_1 v4 kj2 n) x11 x12
    else
      kj2 v8
def ref07_ReadInt_j2 (b:List UInt8) (at_1:Int) (x3:Bool) (v4:Int) (v7:Int):Option (Int × Int × Int):=
  Chk (((decide (0<v4))==true)=true→0≤(w64 (at_1+1))∧(w64 (at_1+1))<((b).length:Int)) <|
  if (cond (cond (cond (decide (0<v4)) ((ix b (w64 (at_1+1)))==0) false) true (cond (!x3) (decide (9223372036854775807<v7)) false)) true (cond x3 (decide (9223372036854775808<v7)) false))=true then
    some (0,0,3)
  else
    if x3=true then
      Let ((w64 ((w64 (0 - (w64 ((IntKind.u64.wrap (v7 - 1)))))) - 1))) fun x14=>
      Let ((w64 ((w64 (at_1+1))+v4))) fun x15=>
      some (x14,x15,0)
    else
      Let ((w64 (v7))) fun x16=>
      Let ((w64 ((w64 (at_1+1))+v4))) fun x17=>
      some (x16,x17,0)
def ref07_ReadInt_j3 (b:List UInt8) (at_1:Int) (x3:Bool) (v4:Int):Option (Int × Int × Int):=
  if (cond (cond (decide (8<v4)) true (decide (v4<0))) true (cond x3 (v4==0) false))=true then
    some (0,0,3)
  else
    Let ((decide ((w64 ((w64 (((b).length:Int) - at_1)) - 1))<v4))) fun x6=>
    if x6=true then
      some (0,0,4)
    else
      ref07_ReadInt_l1 b at_1 v4 (ref07_ReadInt_j2 b at_1 x3 v4) fuel 0 1
def ref07_ReadInt (b:List UInt8) (at_1:Int):Option (Int × Int × Int):=
  if (cond (decide (at_1<0)) true (decide (((b).length:Int)<at_1)))=true then
    some (0,0,2)
  else
    if (at_1==((b).length:Int))=true then
      some (0,0,4)
    else
      Chk (0≤at_1∧at_1<((b).length:Int)) <|
      Let ((((ix b at_1)).toNat:Int)) fun x2=>
      Let ((decide (16≤x2))) fun x3=>
      if x3=true then
        Let ((w64 (x2 - 16))) fun x5=>
        (ref07_ReadInt_j3 b at_1 x3) x5
      else
        (ref07_ReadInt_j3 b at_1 x3) x2
def jac (b:List UInt8) (at_1:Int):Option (Bool × Int × Int):=
  Bind (codec_readByte b at_1) fun r1=>
  Let ((r1.2 != 0)) fun x2=>
  if x2=true then
    some (false,0,r1.2)
  else
    Let ((decide (1<r1.1))) fun x3=>
    if x3=true then
      some (false,0,3)
    else
      Let ((r1.1==1)) fun x4=>
      Let ((w64 (at_1+1))) fun x5=>
      some (x4,x5,0)
def jaf (b:List UInt8) (at_1:Int):Option (Vec × Int × Int):=
  Bind (codec_ReadInt b at_1) fun r1=>
  if (r1.2.2 != 0)=true then
    Let ((⟨0,0⟩:Vec)) fun x2=>
    some (x2,0,r1.2.2)
  else
    Bind (codec_ReadInt b r1.2.1) fun r3=>
    if (r3.2.2 != 0)=true then
      Let ((⟨0,0⟩:Vec)) fun x4=>
      some (x4,0,r3.2.2)
    else
      Let ((⟨r1.1,r3.1⟩:Vec)) fun x5=>
      some (x5,r3.2.1,0)
def jce (b:List UInt8) (x_1:Bool):Option (List UInt8):=
  if x_1=true then
    Bind (codec_extend b ([1]:List UInt8)) fun r1=>
    some r1
  else
    Bind (codec_extend b ([0]:List UInt8)) fun r2=>
    some r2
def jbF (b:List UInt8) (v_1:Vec):Option (List UInt8):=
 Bind (codec_AppendInt b v_1.X) fun r1=>
 Bind (codec_AppendInt r1 v_1.Y) fun r2=>
 some r2
def ref07_abs (n_0:Int):Int:=
  if (decide (n_0<0))=true then
    Let ((IntKind.u64.wrap ((IntKind.u64.wrap ((w64 (0 - (w64 (n_0+1))))))+1))) fun x1=>
    x1
  else
    Let ((IntKind.u64.wrap (n_0))) fun x2=>
    x2
def ref07_AppendInt_l1 (kj1:List UInt8→Option (List UInt8)):Nat→List UInt8→Int→Option (List UInt8)
  | 0,_,_=>none
  | n + 1,v3,v4=>
    if (decide (0<v4))=true then
      Chk (((([(jat (Int.tmod v4 256))]:List UInt8)).length+(v3).length)*1≤140737488355328) <|
      Let (([(jat (Int.tmod v4 256))]:List UInt8)++v3) fun x6=>
      Let ((IntKind.u64.wrap (Int.tdiv v4 256))) fun x7=>
      (ref07_AppendInt_l1 kj1 n) x6 x7
    else
      kj1 v3
def ref07_AppendInt_j2 (b:List UInt8) (v1:List UInt8) (v9:UInt8):Option (List UInt8):=
 Chk (((([]:List UInt8)).length+(b).length)*1≤140737488355328) <|
 Let (([]:List UInt8)++b) fun x12=>
 Chk (((x12).length+(([v9]:List UInt8)).length)*1≤140737488355328) <|
 Let (x12++([v9]:List UInt8)) fun x14=>
 Chk (((x14).length+(v1).length)*1≤140737488355328) <|
 Let (x14++v1) fun x16=>
 some x16
def ref07_AppendInt_j3 (b:List UInt8) (n_1:Int) (v1:List UInt8):Option (List UInt8):=
  Let ((jat ((v1).length:Int))) fun x8=>
  if (decide (n_1<0))=true then
    Let ((x8+16)) fun x10=>
    (ref07_AppendInt_j2 b v1) x10
  else
    (ref07_AppendInt_j2 b v1) x8
def ref07_AppendInt (b:List UInt8) (n_1:Int):Option (List UInt8):=
 Let (ref07_abs n_1) fun r2=>
 ref07_AppendInt_l1 (ref07_AppendInt_j3 b n_1) fuel ([]:List UInt8) r2
end GoOld
end

section
/- The plain laws of chapter 7: what the codec's functions compute, and that they agree with the reference. No conditions. -/
open Go Go.Rx
namespace GoOld
def beF (a:Int) (l:List UInt8):Int:=l.foldl (fun a c=>a*256+(c.toNat:Int)) a
theorem jh8:∀ (l:List UInt8) (a:Int),0≤a→0≤beF a l∧beF a l<(a+1)*256 ^ l.length
  | [],a,h=>by simp [beF];omega
  | c::l,a,h=>by
    have hc:=c.toNat_lt
    have ih:=jh8 l (a*256+c.toNat) (by omega)
    have e:beF a (c::l)=beF (a*256+c.toNat) l:=rfl
    rw [e,List.length_cons,Int.pow_succ]
    refine ⟨ih.1,Int.lt_of_lt_of_le ih.2 ?_⟩
    rw [Int.mul_comm (256 ^ l.length) 256,← Int.mul_assoc]
    exact Int.mul_le_mul_of_nonneg_right (by omega) (Int.pow_nonneg (by omega))
theorem bOr_step {x:Int} (c:UInt8) (h0:0≤x) (h1:x<72057594037927936):bOr .u64 (bShl .u64 x 8) (c.toNat:Int)=x*256+c.toNat:=by
 obtain ⟨n,rfl⟩:=Int.eq_ofNat_of_zero_le h0
 have hm:c.toNat<2 ^ 8:=c.toNat_lt
 unfold bOr bShl
 have e1:IntKind.u64.wrap ((n:Int)*2 ^ (min (8:Int).toNat IntKind.u64.bits))=((n*256:Nat):Int):=by
  rw [jiN];show ((n:Int)*2 ^ 8) % _=_;omega
 rw [e1,jiN]
 show (((BitVec.ofInt 64 ((n*256:Nat):Int) ||| BitVec.ofInt 64 (c.toNat:Int)).toNat:Nat):Int) % _=_
 rw [BitVec.toNat_or]
 have e3:(BitVec.ofInt 64 ((n*256:Nat):Int)).toNat=n*256:=by
  rw [BitVec.toNat_ofInt];omega
 have e4:(BitVec.ofInt 64 (c.toNat:Int)).toNat=c.toNat:=by
  rw [BitVec.toNat_ofInt];omega
 rw [e3,e4]
 have e5:n*256 ||| c.toNat=n*256+c.toNat:=by
  have:=Nat.shiftLeft_add_eq_or_of_lt hm n
  rw [Nat.shiftLeft_eq] at this
  exact this.symm
 rw [e5]
 omega
theorem pow_bd {k:Nat} (h:k≤7):(256:Int) ^ k≤72057594037927936:=by
 have:256 ^ k≤256 ^ 7:=Nat.pow_le_pow_right (by omega) h
 have h2:((256 ^ k:Nat):Int)≤((256 ^ 7:Nat):Int):=by exact_mod_cast this
 simpa using h2
theorem jgr (l:List UInt8) (hl:l.length≤8) (k:Int→Option (Int × Int × Int)):∀ (n i:Nat),i≤l.length→l.length - i<n→
    codec_ReadInt_l1 k l n (beF 0 (l.take i)) (i:Int)=k (beF 0 l)
  | 0,i,_,h=>by omega
  | n + 1,i,hi,h=>by
    unfold codec_ReadInt_l1
    by_cases hlt:i<l.length
    · rw [if_pos (by simpa using hlt)]
      have hb:=jh8 (l.take i) 0 (by omega)
      have hp:=pow_bd (k:=(l.take i).length) (by rw [List.length_take];omega)
      rw [jaC (by omega),Let_eq,Let_eq,Let_eq,bOr_step _ hb.1 (by omega),jc4 _ (by omega)]
      have e:beF 0 (l.take i)*256+((ix l (i:Int)).toNat:Int)=beF 0 (l.take (i+1)):=by
        have e2:l.take (i+1)=l.take i++[l[i]]:=List.take_succ_eq_append_getElem hlt
        rw [e2,jjV l i hlt]
        unfold beF;rw [List.foldl_append];rfl
      rw [e]
      exact jgr l hl k n (i+1) (by omega) (by omega)
    · rw [if_neg (by simpa using hlt)]
      rw [List.take_of_length_le (by omega)]
def jbO (b:List UInt8) (at_:Int):Int × Int × Int:=
 if at_<0∨(b.length:Int)<at_ then (0,0,2) else if at_=b.length then (0,0,4) else
 let hd:Int:=(ix b at_).toNat
 let size:=if 16≤hd then hd - 16 else hd
 if 8<size∨hd=16 then (0,0,3) else if (b.length:Int) - at_ - 1<size then (0,0,4) else
 let m:=beF 0 ((b.drop (at_+1).toNat).take size.toNat)
 if (0<size∧ix b (at_+1)=0)∨(¬ 16≤hd∧9223372036854775807<m)∨(16≤hd∧9223372036854775808<m) then (0,0,3)
 else (if 16≤hd then -m else m,at_+1+size,0)
theorem readByte_eq (b:List UInt8) (at_:Int):codec_readByte b at_=some (if at_<0∨(b.length:Int)<at_ then (0,2) else if at_=b.length then (0,4) else (ix b at_,0)):=by
  unfold codec_readByte
  simp only [Let_eq,jeN,Bool.or_eq_true,decide_eq_true_eq,beq_iff_eq]
  split
  · rfl
  · split
    · rfl
    · rw [jaC (by omega)]
theorem jjq (l:List UInt8) (h:0<l.length) (h0:l[0]≠0):0<beF 0 l:=by
  cases l with
  | nil=>simp at h
  | cons c l=>
    have:0<(c.toNat:Int):=by
      have:c≠0:=h0
      have h2:c.toNat≠0:=fun h=>this (UInt8.toNat_inj.1 (by simpa using h))
      omega
    have e:beF 0 (c::l)=beF (c.toNat:Int) l:=by simp [beF]
    rw [e]
    have mono:∀ (l:List UInt8) (a:Int),0<a→0<beF a l:=by
      intro l
      induction l with
      | nil=>intro a h;simpa [beF] using h
      | cons d l ih=>intro a h;exact ih (a*256+d.toNat) (by omega)
    exact mono l _ this
theorem jgZ (n:Int) (h : -9223372036854775808≤n∧n≤9223372036854775807):codec_magnitude n=n.natAbs:=by
 unfold codec_magnitude
 simp only [Let_eq,decide_eq_true_eq,jit]
 split <;> omega
theorem codec_ReadInt_eq (b:List UInt8) (at_:Int) (hb:b.length≤4611686018427387904):codec_ReadInt b at_=some (jbO b at_):=by
  unfold codec_ReadInt jbO
  rw [readByte_eq,Bind_some]
  by_cases h1:at_<0∨(b.length:Int)<at_
  · rw [if_pos h1,if_pos h1];rfl
  rw [if_neg h1,if_neg h1]
  by_cases h2:at_=b.length
  · rw [if_pos h2,if_pos h2];rfl
  rw [if_neg h2,if_neg h2]
  have hd:=(ix b at_).toNat_lt
  simp only [Let_eq]
  have hgt:(16<ix b at_)↔(16:Int)<((ix b at_).toNat:Int):=by
    rw [UInt8.lt_iff_toNat_lt]
    show (16:Nat)<_↔_
    omega
  rw [if_neg (by simp)]
  have fin:∀ (size:Int) (neg:Bool),(neg=true↔(16:Int)<(ix b at_).toNat)→size=(if (16:Int)<(ix b at_).toNat then ((ix b at_).toNat:Int) - 16 else ((ix b at_).toNat:Int))→
      codec_ReadInt_j4 b at_ neg size=some (
        let hd:Int:=(ix b at_).toNat
        let size:=if 16≤hd then hd - 16 else hd
        if 8<size∨hd=16 then (0,0,3) else if (b.length:Int) - at_ - 1<size then (0,0,4) else
        let m:=beF 0 ((b.drop (at_+1).toNat).take size.toNat)
        if (0<size∧ix b (at_+1)=0)∨(¬ 16≤hd∧9223372036854775807<m)∨(16≤hd∧9223372036854775808<m) then (0,0,3)
        else (if 16≤hd then -m else m,at_+1+size,0)):=by
    intro size neg hneg hsize
    unfold codec_ReadInt_j4
    simp only
    by_cases h16:((ix b at_).toNat:Int)=16
    · rw [if_neg (by omega)] at hsize
      rw [if_pos (by simp;omega),if_pos (.inr h16)]
    have hs2:size=(if (16:Int)≤(ix b at_).toNat then ((ix b at_).toNat:Int) - 16 else ((ix b at_).toNat:Int)):=by
      rw [hsize];split <;> split <;> omega
    have hneg2:neg=true↔(16:Int)≤(ix b at_).toNat:=by rw [hneg];omega
    rw [← hs2]
    by_cases h8:8<size
    · rw [if_pos (by simpa using h8),if_pos (.inl h8)]
    rw [if_neg (by simpa using h8),if_neg (by omega)]
    have hw:w64 (at_+1)=at_+1:=jc4 _ (by omega)
    rw [hw,jaC (by omega)]
    have hs0:0≤size:=by rw [hs2];split <;> omega
    have hlen:(b.drop (at_+1).toNat).length=b.length - (at_+1).toNat:=List.length_drop
    simp only [Let_eq]
    by_cases h4:(b.length:Int) - at_ - 1<size
    · rw [if_pos (by simp;omega),if_pos h4]
    rw [if_neg (by simp;omega),if_neg h4,jaC (by omega)]
    have hlt:((b.drop (at_+1).toNat).take size.toNat).length=size.toNat:=by rw [List.length_take];omega
    have hloop:=jgr ((b.drop (at_+1).toNat).take size.toNat) (by omega) (codec_ReadInt_j3 at_ neg size (b.drop (at_+1).toNat)) fuel 0 (by omega) (jjg _ (by omega))
    simp only [List.take_zero] at hloop
    have hb0:beF 0 []=0:=rfl
    rw [hb0] at hloop
    have hloop':codec_ReadInt_l1 (codec_ReadInt_j3 at_ neg size (b.drop (at_+1).toNat)) ((b.drop (at_+1).toNat).take size.toNat) fuel 0 0=_:=hloop
    rw [hloop']
    have hbd:=jh8 ((b.drop (at_+1).toNat).take size.toNat) 0 (by omega)
    have hpw:(256:Int) ^ ((b.drop (at_+1).toNat).take size.toNat).length≤18446744073709551616:=by
      rw [hlt]
      have:256 ^ size.toNat≤256 ^ 8:=Nat.pow_le_pow_right (by omega) (by omega)
      have h2:((256 ^ size.toNat:Nat):Int)≤((256 ^ 8:Nat):Int):=by exact_mod_cast this
      simpa using h2
    have hz:ix (b.drop (at_+1).toNat) 0=ix b (at_+1):=by
      unfold ix;simp [List.getD]
    have hpos:0<size→ix b (at_+1)≠0→0<beF 0 ((b.drop (at_+1).toNat).take size.toNat):=by
      intro h0 h1
      refine jjq _ (by omega) ?_
      rw [List.getElem_take,← jjV _ 0 (by omega)]
      show ix (b.drop (at_+1).toNat) 0≠0
      rw [hz];exact h1
    have hzero:size=0→beF 0 ((b.drop (at_+1).toNat).take size.toNat)=0:=by
      intro h;rw [h];rfl
    generalize beF 0 ((b.drop (at_+1).toNat).take size.toNat)=m at hbd hpos hzero ⊢
    have hm:0≤m∧m<18446744073709551616:=⟨hbd.1,by omega⟩
    unfold codec_ReadInt_j3
    simp only [Let_eq]
    -- the last test
    have last:∀ v:Int,-9223372036854775808≤v∧v≤9223372036854775807→codec_ReadInt_j2 at_ neg size (b.drop (at_+1).toNat) m v=
        some (if (0<size∧ix b (at_+1)=0)∨(v.natAbs:Int)≠m∨(decide (v<0)≠neg) then (0,0,3) else (v,at_+1+size,0)):=by
      intro v hv
      unfold codec_ReadInt_j2
      rw [jaC (by intro _;refine ⟨Int.le_refl _,?_⟩;rename_i h;simp at h;omega),jgZ v hv,hz]
      simp only [Let_eq,jeN,jb9,hw]
      rw [jc4 (at_+1+size) (by omega)]
      by_cases hc:(0<size∧ix b (at_+1)=0)∨(v.natAbs:Int)≠m∨(decide (v<0)≠neg)
      · rw [if_pos hc,if_pos]
        simp only [Bool.or_eq_true,Bool.and_eq_true,decide_eq_true_eq,beq_iff_eq,bne_iff_ne,or_assoc]
        exact hc
      · rw [if_neg hc,if_neg]
        simp only [Bool.or_eq_true,Bool.and_eq_true,decide_eq_true_eq,beq_iff_eq,bne_iff_ne,or_assoc]
        exact hc
    cases neg with
    | true=>
      have h17:=hneg2.1 rfl
      simp only [if_true,h17,true_and,not_true_eq_false,false_and,false_or]
      rw [last _ (by rcases jgU (0 - w64 m) with h | h <;> omega)]
      congr 1
      have h0:size=0→False:=by intro h;rw [if_pos h17] at hs2;omega
      by_cases hf:0<size∧ix b (at_+1)=0
      · rw [if_pos (.inl hf),if_pos (.inl hf)]
      · have hmp:0<m:=hpos (by omega) (fun h=>hf ⟨by omega,h⟩)
        by_cases hbig:9223372036854775808<m
        · rw [if_pos,if_pos (.inr hbig)]
          right;right
          have:0<w64 (0 - w64 m):=by rcases jgU m with h | h <;> rcases jgU (0 - w64 m) with h' | h' <;> omega
          rw [decide_eq_false (by omega)];decide
        · have:w64 (0 - w64 m) = -m:=by rcases jgU m with h | h <;> rcases jgU (0 - w64 m) with h' | h' <;> omega
          rw [this,if_neg,if_neg (by rintro (h | h);exact hf h;exact hbig h)]
          rintro (h | h | h)
          · exact hf h
          · omega
          · simp at h;omega
    | false=>
      have h17:¬ (16:Int)≤(ix b at_).toNat:=fun h=>by have:=hneg2.2 h;cases this
      simp only [h17,if_false,false_and,or_false,not_false_eq_true,true_and,Bool.false_eq_true]
      rw [last _ (by rcases jgU m with h | h <;> omega)]
      congr 1
      by_cases hf:0<size∧ix b (at_+1)=0
      · rw [if_pos (.inl hf),if_pos (.inl hf)]
      · by_cases hbig:9223372036854775807<m
        · rw [if_pos,if_pos (.inr hbig)]
          right;right
          have:w64 m<0:=by rcases jgU m with h | h <;> omega
          simp;omega
        · have:w64 m=m:=by rcases jgU m with h | h <;> omega
          rw [this,if_neg,if_neg (by rintro (h | h);exact hf h;exact hbig h)]
          rintro (h | h | h)
          · exact hf h
          · omega
          · simp at h;omega
  split
  · rename_i hx
    simp only [decide_eq_true_eq] at hx
    rw [fin _ _ (by simp [hgt]) (by rw [if_pos (hgt.1 hx),jc4 _ (by omega)])]
  · rename_i hx
    simp only [decide_eq_true_eq] at hx
    rw [fin _ _ (by simp [hgt]) (by rw [if_neg (fun h=>hx (hgt.2 h))])]
theorem jep (b:List UInt8) (a:Nat) (size:Nat) (hb:b.length≤4611686018427387904) (hs:size≤8) (ha:a+1+size≤b.length) (k:Int→Option (Int × Int × Int)):∀ (n i:Nat),i≤size→size - i<n→
    ref07_ReadInt_l1 b (a:Int) (size:Int) k n (beF 0 ((b.drop (a+1)).take i)) ((i+1:Nat):Int)=k (beF 0 ((b.drop (a+1)).take size))
  | 0,i,_,h=>by omega
  | n + 1,i,hi,h=>by
    unfold ref07_ReadInt_l1
    by_cases hlt:i<size
    · rw [if_pos (by simp;omega)]
      have hbd:=jh8 ((b.drop (a+1)).take i) 0 (by omega)
      have hl:((b.drop (a+1)).take i).length=i:=by rw [List.length_take,List.length_drop];omega
      have hp:=pow_bd (k:=((b.drop (a+1)).take i).length) (by omega)
      have e1:w64 ((a:Int)+((i+1:Nat):Int))=((a+1+i:Nat):Int):=by rw [jc4 _ (by omega)];omega
      have hc:=(ix b ((a+1+i:Nat):Int)).toNat_lt
      rw [e1,jaC (by omega),Let_eq,Let_eq,jc4 _ (by omega),jit,jit]
      have e2:(beF 0 ((b.drop (a+1)).take i)*256 % 18446744073709551616+((ix b ((a+1+i:Nat):Int)).toNat:Int)) % 18446744073709551616=beF 0 ((b.drop (a+1)).take (i+1)):=by
        have e3:(b.drop (a+1)).take (i+1)=(b.drop (a+1)).take i++[(b.drop (a+1))[i]'(by rw [List.length_drop];omega)]:=List.take_succ_eq_append_getElem _
        have e4:beF 0 ((b.drop (a+1)).take (i+1))=beF 0 ((b.drop (a+1)).take i)*256+(ix b ((a+1+i:Nat):Int)).toNat:=by
          rw [e3,jjV b (a+1+i) (by omega)]
          unfold beF;rw [List.foldl_append,List.getElem_drop];rfl
        rw [e4];omega
      rw [e2]
      exact jep b a size hb hs ha k n (i+1) (by omega) (by omega)
    · rw [if_neg (by simp;omega)]
      have:i=size:=by omega
      rw [this]
theorem ref_ReadInt_eq (b:List UInt8) (at_:Int) (hb:b.length≤4611686018427387904):ref07_ReadInt b at_=some (jbO b at_):=by
  unfold ref07_ReadInt jbO
  simp only [jeN,Bool.or_eq_true,decide_eq_true_eq,beq_iff_eq,Let_eq]
  by_cases h1:at_<0∨(b.length:Int)<at_
  · rw [if_pos h1,if_pos h1]
  rw [if_neg h1,if_neg h1]
  by_cases h2:at_=b.length
  · rw [if_pos h2,if_pos h2]
  rw [if_neg h2,if_neg h2,jaC (by omega)]
  have hd:=(ix b at_).toNat_lt
  obtain ⟨a,rfl⟩:=Int.eq_ofNat_of_zero_le (show 0≤at_ by omega)
  have fin : ∀ (size:Int),size=(if (16:Int)≤(ix b (a:Int)).toNat then ((ix b (a:Int)).toNat:Int) - 16 else ((ix b (a:Int)).toNat:Int))→
      ref07_ReadInt_j3 b a (decide ((16:Int)≤(ix b (a:Int)).toNat)) size=some (
        let hd:Int:=(ix b (a:Int)).toNat
        let size:=if 16≤hd then hd - 16 else hd
        if 8<size∨hd=16 then (0,0,3) else if (b.length:Int) - a - 1<size then (0,0,4) else
        let m:=beF 0 ((b.drop ((a:Int)+1).toNat).take size.toNat)
        if (0<size∧ix b ((a:Int)+1)=0)∨(¬ 16≤hd∧9223372036854775807<m)∨(16≤hd∧9223372036854775808<m) then (0,0,3)
        else (if 16≤hd then -m else m,a+1+size,0)):=by
    intro size hs
    have hs0:0≤size:=by rw [hs];split <;> omega
    unfold ref07_ReadInt_j3
    simp only [jeN,jb9,Bool.or_eq_true,Bool.and_eq_true,decide_eq_true_eq,beq_iff_eq,Let_eq]
    rw [← hs]
    by_cases h8:8<size∨((ix b (a:Int)).toNat:Int)=16
    · rw [if_pos h8,if_pos]
      rcases h8 with h8 | h8
      · exact .inl (.inl h8)
      · rw [if_pos (by omega)] at hs;exact .inr ⟨by omega,by omega⟩
    · rw [if_neg h8,if_neg]
      · rw [jc4 ((b.length:Int) - a) (by omega),jc4 _ (by omega)]
        by_cases h4:(b.length:Int) - a - 1<size
        · rw [if_pos h4,if_pos h4]
        · rw [if_neg h4,if_neg h4]
          obtain ⟨z,rfl⟩:=Int.eq_ofNat_of_zero_le hs0
          have hloop:=jep b a z hb (by omega) (by omega) (ref07_ReadInt_j2 b a (decide ((16:Int)≤(ix b (a:Int)).toNat)) z) fuel 0 (by omega) (jjg _ (by omega))
          simp only [List.take_zero] at hloop
          have hloop':ref07_ReadInt_l1 b (a:Int) (z:Int) (ref07_ReadInt_j2 b a (decide ((16:Int)≤(ix b (a:Int)).toNat)) z) fuel 0 1=_:=hloop
          rw [hloop']
          have e1:((a:Int)+1).toNat=a+1:=by omega
          have e2:(z:Int).toNat=z:=by omega
          rw [e1,e2]
          have hlt:((b.drop (a+1)).take z).length=z:=by rw [List.length_take,List.length_drop];omega
          have hbd:=jh8 ((b.drop (a+1)).take z) 0 (by omega)
          have hpw:(256:Int) ^ ((b.drop (a+1)).take z).length≤18446744073709551616:=by
            rw [hlt]
            have:256 ^ z≤256 ^ 8:=Nat.pow_le_pow_right (by omega) (by omega)
            have h2:((256 ^ z:Nat):Int)≤((256 ^ 8:Nat):Int):=by exact_mod_cast this
            simpa using h2
          have hpos:0<z→ix b ((a:Int)+1)≠0→0<beF 0 ((b.drop (a+1)).take z):=by
            intro h0 h1
            refine jjq _ (by omega) ?_
            rw [List.getElem_take,List.getElem_drop]
            have:ix b ((a+1:Nat):Int)=b[a+1]:=jjV b (a+1) (by omega)
            exact fun h=>h1 (this.trans h)
          generalize beF 0 ((b.drop (a+1)).take z)=m at hbd hpos ⊢
          have hm:0≤m∧m<18446744073709551616:=⟨hbd.1,by omega⟩
          have hz0:(16:Int)≤(ix b (a:Int)).toNat→0<z:=by intro h;rw [if_pos h] at hs;omega
          unfold ref07_ReadInt_j2
          have hw:w64 ((a:Int)+1)=(a:Int)+1:=jc4 _ (by omega)
          rw [hw]
          simp only [jeN,jb9,Bool.or_eq_true,Bool.and_eq_true,decide_eq_true_eq,beq_iff_eq,Let_eq,Bool.not_eq_true',decide_eq_false_iff_not]
          rw [jaC (by intro _;rename_i h;simp at h;omega),jc4 ((a:Int)+1+z) (by omega)]
          by_cases hc:(0<(z:Int)∧ix b ((a:Int)+1)=0)∨(¬ (16:Int)≤(ix b (a:Int)).toNat∧9223372036854775807<m)∨((16:Int)≤(ix b (a:Int)).toNat∧9223372036854775808<m)
          · rw [if_pos hc,if_pos (or_assoc.2 hc)]
          · rw [if_neg hc,if_neg (fun h=>hc (or_assoc.1 h))]
            by_cases h16:(16:Int)≤(ix b (a:Int)).toNat
            · rw [if_pos h16,if_pos h16]
              have hmp:0<m:=hpos (hz0 h16) (fun h=>hc (.inl ⟨by have:=hz0 h16;omega,h⟩))
              have hml:m≤9223372036854775808:=by
                refine Int.not_lt.1 fun h=>hc (.inr (.inr ⟨h16,h⟩))
              rw [jit,jc4 ((m - 1) % _) (by omega),jc4 (0 - _) (by omega),jc4 _ (by omega)]
              have:0 - (m - 1) % 18446744073709551616 - 1 = -m:=by omega
              rw [this]
            · rw [if_neg h16,if_neg h16]
              have hml:m≤9223372036854775807:=by
                refine Int.not_lt.1 fun h=>hc (.inr (.inl ⟨h16,h⟩))
              rw [jc4 m (by omega)]
      · rintro ((h | h) | ⟨h,h'⟩)
        · exact h8 (.inl h)
        · omega
        · rw [if_pos h] at hs;exact h8 (.inr (by omega))
  by_cases hx:(16:Int)≤(ix b (a:Int)).toNat
  · rw [if_pos hx]
    exact fin _ (by rw [if_pos hx,jc4 _ (by omega)])
  · rw [if_neg hx]
    exact fin _ (by rw [if_neg hx])
end GoOld
end

section
/- The plain laws of chapter 7, the second part: what is appended is read back. No conditions. -/
set_option linter.all false
open Go Go.Rx
namespace GoOld
def digs (m:Nat):List UInt8:=if h:m=0 then [] else digs (m / 256)++[UInt8.ofNat (m % 256)]
termination_by m
decreasing_by omega
theorem jfo:digs 0=[]:=by rw [digs];rfl
theorem jht {m:Nat} (h:0<m):digs m=digs (m / 256)++[UInt8.ofNat (m % 256)]:=by rw [digs,dif_neg (by omega)]
theorem jlM:∀ (k m:Nat),m<256 ^ k→(digs m).length≤k
  | 0, m, h => by have:m=0:=by simpa using h
                  subst this;simp [jfo]
  | k + 1,m,h=>by
    rcases Nat.eq_zero_or_pos m with rfl | hm
    · simp [jfo]
    · rw [jht hm,List.length_append]
      have:=jlM k (m / 256) (by rw [Nat.pow_succ] at h;omega)
      simp;omega
theorem byte_nat (m:Nat):(UInt8.ofNat (m % 256)).toNat=m % 256:=by
 have:(UInt8.ofNat (m % 256)).toNat=m % 256 % 256:=UInt8.toNat_ofNat'
 omega
theorem beF_snoc (l:List UInt8) (c:UInt8):beF 0 (l++[c])=beF 0 l*256+c.toNat:=by unfold beF;rw [List.foldl_append];rfl
theorem snoc_ind {α:Type} {p:List α→Prop} (h0:p []) (h1:∀ l c,p l→p (l++[c])):∀ l,p l:=by
 intro l
 rw [← List.reverse_reverse l]
 generalize l.reverse=m
 induction m with
 | nil=>exact h0
 | cons c m ih=>rw [List.reverse_cons];exact h1 _ _ ih
theorem pow8:(256:Nat) ^ 8=18446744073709551616:=by decide
theorem digs_beF:∀ (l:List UInt8),(∀ h:0<l.length,l[0]≠0)→digs (beF 0 l).toNat=l:=by
  refine snoc_ind ?_ ?_
  · intro _;show digs 0=[];exact jfo
  · intro l c ih h0
    have hb:=jh8 l 0 (by omega)
    have hc:=c.toNat_lt
    rw [beF_snoc]
    have hl0:∀ h:0<l.length,l[0]≠0:=by
      intro h
      have:=h0 (by simp)
      have e:(l++[c])[0]'(by simp)=l[0]:=by rw [List.getElem_append_left h]
      rw [e] at this;exact this
    have hpos:0<beF 0 l*256+(c.toNat:Int):=by
      rcases Nat.eq_zero_or_pos l.length with h | h
      · have:l=[]:=List.eq_nil_of_length_eq_zero h
        subst this
        have:=h0 (by simp)
        simp at this
        have h2:c.toNat≠0:=fun h=>this (UInt8.toNat_inj.1 (by simpa using h))
        show 0<(0:Int)*256+_
        omega
      · have:=jjq l h (hl0 h)
        omega
    rw [jht (by omega)]
    have e1:(beF 0 l*256+(c.toNat:Int)).toNat / 256=(beF 0 l).toNat:=by omega
    have e2:UInt8.ofNat ((beF 0 l*256+(c.toNat:Int)).toNat % 256)=c:=by
      apply UInt8.toNat_inj.1
      rw [byte_nat];omega
    rw [e1,e2,ih hl0]
theorem jf3 (m:Nat):jat (m:Int)=UInt8.ofNat (m % 256):=by unfold jat;congr 1
theorem jfu (k:List UInt8→Option (List UInt8)):∀ (n j:Nat) (acc:List UInt8) (m:Nat),m<256 ^ j→j<n→acc.length+j≤1000→codec_AppendInt_l1 k n acc (m:Int)=k (digs m++acc)
  | 0,j,_,_,_,h,_=>by omega
  | n + 1,j,acc,m,hm,hj,hl=>by
    unfold codec_AppendInt_l1
    rcases Nat.eq_zero_or_pos m with rfl | hp
    · rw [if_neg (by simp),jfo];rfl
    · rw [if_pos (by simp;omega),jaC (by simp;omega),Let_eq,Let_eq]
      have e:bShr .u64 (m:Int) 8=((m / 256:Nat):Int):=by
        unfold bShr
        show (m:Int).fdiv (2 ^ 8)=_
        rw [Int.fdiv_eq_ediv_of_nonneg _ (by omega)]
        omega
      rw [e]
      cases j with
      | zero=>simp at hm;omega
      | succ j=>
        rw [jfu k n j _ (m / 256) (by rw [Nat.pow_succ] at hm;omega) (by omega) (by simp;omega),jht hp,jf3]
        simp
def jav (n:Int):List UInt8:=UInt8.ofNat ((digs n.natAbs).length+if n<0 then 16 else 0)::digs n.natAbs
theorem jgK (n:Int) (h : -9223372036854775808≤n∧n≤9223372036854775807):(digs n.natAbs).length≤8:=jlM 8 _ (by rw [pow8];omega)
theorem extend_eq (b more:List UInt8) (h:b.length+more.length≤140737488355328):codec_extend b more=some (b++more):=by
 unfold codec_extend;rw [jaC (by omega)];rfl
theorem codec_AppendInt_eq (b:List UInt8) (n:Int) (hn : -9223372036854775808≤n∧n≤9223372036854775807) (hb:b.length≤100000000000):codec_AppendInt b n=some (b++jav n):=by
  have hl:=jgK n hn
  unfold codec_AppendInt
  rw [Let_eq,jgZ n hn]
  have:=jfu (codec_AppendInt_j3 b n) fuel 8 [] n.natAbs (by rw [pow8];omega) (jjg _ (by omega)) (by simp)
  rw [this,List.append_nil]
  unfold codec_AppendInt_j3
  have hd:(digs n.natAbs).length≤8:=hl
  have fin:∀ h:Nat,h≤24→jcn b (digs n.natAbs) (h:Int)=some (b++UInt8.ofNat h::digs n.natAbs):=by
    intro h hh
    unfold jcn
    rw [extend_eq b _ (by simp;omega),Bind_some,extend_eq _ _ (by simp;omega),Bind_some,jf3]
    have:h % 256=h:=by omega
    rw [this];simp
  unfold jav
  by_cases h0:n<0
  · rw [if_pos (by simpa using h0),if_pos h0,Let_eq,jc4 _ (by omega)]
    exact fin ((digs n.natAbs).length+16) (by omega)
  · rw [if_neg (by simpa using h0),if_neg h0]
    exact fin (digs n.natAbs).length (by omega)
theorem enc_rdInt (b:List UInt8) (at_:Int) (h:(jbO b at_).2.2=0):0≤at_∧at_<(jbO b at_).2.1∧(jbO b at_).2.1≤b.length∧b.take at_.toNat++jav (jbO b at_).1=b.take (jbO b at_).2.1.toNat∧
    -9223372036854775808≤(jbO b at_).1∧(jbO b at_).1≤9223372036854775807:=by
  unfold jbO at h ⊢
  by_cases h1:at_<0∨(b.length:Int)<at_
  · rw [if_pos h1] at h;simp at h
  rw [if_neg h1] at h ⊢
  by_cases h2:at_=b.length
  · rw [if_pos h2] at h;simp at h
  rw [if_neg h2] at h ⊢
  obtain ⟨a,rfl⟩:=Int.eq_ofNat_of_zero_le (show 0≤at_ by omega)
  have ha:a<b.length:=by omega
  have hd:=(ix b (a:Int)).toNat_lt
  have e1:((a:Int)+1).toNat=a+1:=by omega
  simp only [e1] at h ⊢
  generalize hz:(if (16:Int)≤((ix b (a:Int)).toNat:Int) then ((ix b (a:Int)).toNat:Int) - 16 else ((ix b (a:Int)).toNat:Int))=z at h ⊢
  have hz0:0≤z:=by rw [← hz];split <;> omega
  by_cases h8:8<z∨((ix b (a:Int)).toNat:Int)=16
  · rw [if_pos h8] at h;simp at h
  rw [if_neg h8] at h ⊢
  by_cases h4:(b.length:Int) - a - 1<z
  · rw [if_pos h4] at h;simp at h
  rw [if_neg h4] at h ⊢
  obtain ⟨k,rfl⟩:=Int.eq_ofNat_of_zero_le hz0
  have e2:(k:Int).toNat=k:=by omega
  simp only [e2] at h ⊢
  have hlk:((b.drop (a+1)).take k).length=k:=by rw [List.length_take,List.length_drop];omega
  have hbd:=jh8 ((b.drop (a+1)).take k) 0 (by omega)
  by_cases hc:(0<(k:Int)∧ix b ((a:Int)+1)=0)∨(¬ (16:Int)≤(ix b (a:Int)).toNat∧9223372036854775807<beF 0 ((b.drop (a+1)).take k))∨((16:Int)≤(ix b (a:Int)).toNat∧9223372036854775808<beF 0 ((b.drop (a+1)).take k))
  · rw [if_pos hc] at h;simp at h
  rw [if_neg hc] at h ⊢
  have hfirst:∀ hh:0<((b.drop (a+1)).take k).length,((b.drop (a+1)).take k)[0]≠0:=by
    intro hh h0
    apply hc;left
    refine ⟨by omega,?_⟩
    have:ix b ((a+1:Nat):Int)=b[a+1]'(by omega):=jjV b (a+1) (by omega)
    rw [List.getElem_take,List.getElem_drop] at h0
    exact this.trans h0
  have hdig:=digs_beF _ hfirst
  have hnabs:(if (16:Int)≤((ix b (a:Int)).toNat:Int) then -beF 0 ((b.drop (a+1)).take k) else beF 0 ((b.drop (a+1)).take k)).natAbs=(beF 0 ((b.drop (a+1)).take k)).toNat:=by
    split <;> omega
  have hneg:(if (16:Int)≤((ix b (a:Int)).toNat:Int) then -beF 0 ((b.drop (a+1)).take k) else beF 0 ((b.drop (a+1)).take k))<0↔(16:Int)≤((ix b (a:Int)).toNat:Int):=by
    by_cases h16:(16:Int)≤((ix b (a:Int)).toNat:Int)
    · rw [if_pos h16] at hz ⊢
      have:=jjq _ (by rw [hlk];omega) (hfirst (by rw [hlk];omega))
      omega
    · rw [if_neg h16];omega
  refine ⟨by omega,by simp only;omega,by simp only;omega,?_,?_⟩
  · have henc:jav (if (16:Int)≤((ix b (a:Int)).toNat:Int) then -beF 0 ((b.drop (a+1)).take k) else beF 0 ((b.drop (a+1)).take k))=b[a]::(b.drop (a+1)).take k:=by
      unfold jav
      rw [hnabs,hdig,hlk]
      congr 1
      apply UInt8.toNat_inj.1
      have e5:(ix b (a:Int))=b[a]:=jjV b a ha
      rw [← e5]
      by_cases h16:(16:Int)≤((ix b (a:Int)).toNat:Int)
      · rw [if_pos (hneg.2 h16)]
        rw [if_pos h16] at hz
        have:(UInt8.ofNat (k+16)).toNat=(k+16) % 256:=UInt8.toNat_ofNat'
        omega
      · rw [if_neg (fun h=>h16 (hneg.1 h))]
        rw [if_neg h16] at hz
        have:(UInt8.ofNat (k+0)).toNat=(k+0) % 256:=UInt8.toNat_ofNat'
        omega
    rw [henc]
    have e6:((a:Int)+1+(k:Int)).toNat=a+(1+k):=by omega
    simp only [e6,Int.toNat_natCast]
    rw [List.take_add,List.drop_eq_getElem_cons ha,Nat.add_comm 1 k,List.take_succ_cons]
  · simp only
    have hpw:(256:Int) ^ ((b.drop (a+1)).take k).length≤18446744073709551616:=by
      rw [hlk]
      have:256 ^ k≤256 ^ 8:=Nat.pow_le_pow_right (by omega) (by omega)
      have h2:((256 ^ k:Nat):Int)≤((256 ^ 8:Nat):Int):=by exact_mod_cast this
      simpa using h2
    have hc2:¬ (¬ (16:Int)≤(ix b (a:Int)).toNat∧9223372036854775807<beF 0 ((b.drop (a+1)).take k)):=fun h=>hc (.inr (.inl h))
    have hc3:¬ ((16:Int)≤(ix b (a:Int)).toNat∧9223372036854775808<beF 0 ((b.drop (a+1)).take k)):=fun h=>hc (.inr (.inr h))
    split <;> omega
end GoOld
end

section
/- The plain laws of chapter 7, the third part: slices of integers, strings, and the laws. No conditions. -/
set_option linter.all false
open Go Go.Rx
namespace GoOld
abbrev I64 (n:Int):Prop := -9223372036854775808≤n∧n≤9223372036854775807
theorem encInt_le (n:Int) (h:I64 n):(jav n).length≤9:=by
 have:=jgK n h
 simp [jav];omega
theorem jlc (b s:List UInt8) (l:List Int):jhO b s l=(decide ((b.length:Int)≤2000)&&decide ((s.length:Int)≤500)&&decide ((l.length:Int)≤100)):=by
 simp only [jhO,Let_eq,jb9]
theorem abs_eq (n:Int) (h:I64 n):ref07_abs n=n.natAbs:=by
 unfold ref07_abs
 obtain ⟨h1,h2⟩:=h
 simp only [Let_eq,decide_eq_true_eq,jit]
 split
 ·rw [jc4 (n+1) (by omega),jc4 (0 - (n+1)) (by omega)];omega
 ·omega
theorem jl4 (m:Nat):jat (Int.tmod (m:Int) 256)=UInt8.ofNat (m % 256):=by
 have:Int.tmod (m:Int) 256=((m % 256:Nat):Int):=by
  rw [Int.tmod_eq_emod_of_nonneg (by omega)];omega
 rw [this,jf3];congr 1;omega
theorem jdM (k:List UInt8→Option (List UInt8)):∀ (n j:Nat) (acc:List UInt8) (m:Nat),m<256 ^ j→m<18446744073709551616→j<n→acc.length+j≤1000→ref07_AppendInt_l1 k n acc (m:Int)=k (digs m++acc)
  | 0,j,_,_,_,_,h,_=>by omega
  | n + 1,j,acc,m,hm,h64,hj,hl=>by
    unfold ref07_AppendInt_l1
    rcases Nat.eq_zero_or_pos m with rfl | hp
    · rw [if_neg (by simp),jfo];rfl
    · rw [if_pos (by simp;omega),jaC (by simp;omega),Let_eq,Let_eq]
      have e:IntKind.u64.wrap (Int.tdiv (m:Int) 256)=((m / 256:Nat):Int):=by
        rw [jit,Int.tdiv_eq_ediv_of_nonneg (by omega)];omega
      rw [e]
      cases j with
      | zero=>simp at hm;omega
      | succ j=>
        rw [jdM k n j _ (m / 256) (by rw [Nat.pow_succ] at hm;omega) (by omega) (by omega) (by simp;omega),jht hp,jl4]
        simp
theorem ref_AppendInt_eq (b:List UInt8) (n:Int) (hn:I64 n) (hb:b.length≤100000000000):ref07_AppendInt b n=some (b++jav n):=by
  have hl:=jgK n hn
  unfold ref07_AppendInt
  rw [Let_eq,abs_eq n hn]
  have:=jdM (ref07_AppendInt_j3 b n) fuel 8 [] n.natAbs (by rw [pow8];obtain ⟨_,_⟩:=hn;omega) (by obtain ⟨_,_⟩:=hn;omega) (jjg _ (by omega)) (by simp)
  rw [this,List.append_nil]
  unfold ref07_AppendInt_j3
  have fin:∀ h:UInt8,ref07_AppendInt_j2 b (digs n.natAbs) h=some (b++h::digs n.natAbs):=by
    intro h
    unfold ref07_AppendInt_j2
    rw [jaC (by simp;omega),Let_eq,jaC (by simp;omega),Let_eq,jaC (by simp;omega),Let_eq]
    simp
  have e0:jat ((digs n.natAbs).length:Int)=UInt8.ofNat (digs n.natAbs).length:=by rw [jf3];congr 1;omega
  rw [Let_eq,e0]
  unfold jav
  by_cases h0:n<0
  · rw [if_pos (by simpa using h0),if_pos h0,Let_eq,fin]
    have:UInt8.ofNat (digs n.natAbs).length+16=UInt8.ofNat ((digs n.natAbs).length+16):=by
      rw [UInt8.ofNat_add];rfl
    rw [this]
  · rw [if_neg (by simpa using h0),if_neg h0,fin]
    rfl
end GoOld
end

section
/- The plain forms of two printers are the same functions. No conditions. -/
set_option linter.all false
set_option maxRecDepth 100000
open Go Go.Rx
namespace GoForm
theorem joB {V ρ:Type} (K:V→Option ρ) (b:(V→Option ρ)→Option ρ):Join K b=b K:=rfl
theorem jk3 {V ρ:Type} {K K':V→Option ρ} {b:(V→Option ρ)→Option ρ} (h:∀ v,K v=K' v):Join K b=b K':=by
 rw [funext h];rfl
theorem jid {V X:Type} {step:(V→Option X)→V→Option X} (g:Nat→V→Option X) (h0:∀ v,g 0 v=none) (hs:∀ n (r:V→Option X),(∀ w,r w=g n w)→∀ v,step r v=g (n+1) v):∀ n v,LOOP step n v=g n v
 | 0,v=>(h0 v).symm
 | n+1,v=>hs n _ (jid g h0 hs n) v
theorem jh7 (b:List UInt8) (a:Int):codec_readByte b a=GoOld.codec_readByte b a:=by kernel_rfl
theorem jg4 (n:Int):codec_magnitude n=some (GoOld.codec_magnitude n):=by
 unfold codec_magnitude GoOld.codec_magnitude
 simp only [Let_eq]
 split <;> rfl
theorem br_abs (n:Int):jdh n=some (GoOld.ref07_abs n):=by
 unfold jdh GoOld.ref07_abs
 simp only [Let_eq]
 split <;> rfl
theorem jkb (b m:List UInt8):codec_extend b m=GoOld.codec_extend b m:=by
 unfold codec_extend GoOld.codec_extend
 simp only [Let_eq]
 rw [jaC ⟨by omega,Int.le_refl _,trivial⟩]
 have:List.take (b.length:Int).toNat b=b:=by simp
 rw [this]
theorem jkc (b:List UInt8) (n:Int):codec_AppendInt b n=GoOld.codec_AppendInt b n:=by
 unfold codec_AppendInt GoOld.codec_AppendInt
 rw [jg4,Bind_some,Let_eq]
 refine jid (fun k v=>GoOld.codec_AppendInt_l1 (GoOld.codec_AppendInt_j3 b n) k v.1 v.2) (fun _=>rfl) ?_ fuel ([],GoOld.codec_magnitude n)
 intro k r ih v
 show _=GoOld.codec_AppendInt_l1 (GoOld.codec_AppendInt_j3 b n) (k+1) v.1 v.2
 unfold GoOld.codec_AppendInt_l1
 simp only [Let_eq,ih,joB,jkb]
 rfl
theorem jhg (b:List UInt8) (n:Int):jay b n=GoOld.ref07_AppendInt b n:=by
 unfold jay GoOld.ref07_AppendInt
 rw [br_abs,Bind_some,Let_eq]
 refine jid (fun k v=>GoOld.ref07_AppendInt_l1 (GoOld.ref07_AppendInt_j3 b n) k v.1 v.2) (fun _=>rfl) ?_ fuel ([],GoOld.ref07_abs n)
 intro k r ih v
 show _=GoOld.ref07_AppendInt_l1 (GoOld.ref07_AppendInt_j3 b n) (k+1) v.1 v.2
 unfold GoOld.ref07_AppendInt_l1
 simp only [Let_eq,ih,joB]
 unfold GoOld.ref07_AppendInt_j3 GoOld.ref07_AppendInt_j2
 simp only [Let_eq,List.nil_append,List.length_nil,Nat.zero_add]
 first | done | rfl | (split <;> first | rfl | (split <;> rfl))
theorem jmA (b:List UInt8) (a:Int):codec_ReadInt b a=GoOld.codec_ReadInt b a:=by
  unfold codec_ReadInt GoOld.codec_ReadInt
  rw [jh7]
  refine congrArg (Bind _) (funext fun r=>?_)
  show (if (r.snd != 0)=true then some ((0:Int),(0:Int),r.snd) else _)=(if (r.2 != 0)=true then _ else (if decide (16<r.1)=true then _ else _))
  split
  · rfl
  rw [Let_eq,Let_eq]
  refine (jk3 (K':=GoOld.codec_ReadInt_j4 b a (decide (16<r.1))) ?_).trans ?_
  · intro v
    unfold GoOld.codec_ReadInt_j4
    show (if decide (v>8)=true then _ else Chk (0≤w64 (a+1)∧w64 (a+1)≤(b.length:Int)) (if decide (((b.drop (w64 (a+1)).toNat).length:Int)<v)=true then _ else Chk (0≤v∧v≤((b.drop (w64 (a+1)).toNat).length:Int)) (LOOP _ _ _)))=(if decide (8<v)=true then _ else Chk (0≤w64 (a+1)∧w64 (a+1)≤(b.length:Int)) (if decide (((b.drop (w64 (a+1)).toNat).length:Int)<v)=true then _ else Chk (0≤v∧v≤((b.drop (w64 (a+1)).toNat).length:Int)) _))
    split
    · rfl
    refine congrArg (Chk _) ?_
    split
    · rfl
    refine congrArg (Chk _) ?_
    refine jid (fun k s=>GoOld.codec_ReadInt_l1 (GoOld.codec_ReadInt_j3 a (decide (16<r.1)) v (b.drop (w64 (a+1)).toNat)) ((b.drop (w64 (a+1)).toNat).take v.toNat) k s.1 s.2) (fun _=>rfl) ?_ fuel (0,0)
    intro k q ih s
    show _=GoOld.codec_ReadInt_l1 (GoOld.codec_ReadInt_j3 a (decide (16<r.1)) v (b.drop (w64 (a+1)).toNat)) ((b.drop (w64 (a+1)).toNat).take v.toNat) (k+1) s.1 s.2
    unfold GoOld.codec_ReadInt_l1
    generalize b.drop (w64 (a+1)).toNat=y at ih ⊢
    show (if decide (s.2<((y.take v.toNat).length:Int))=true then Chk (0≤s.2∧s.2<((y.take v.toNat).length:Int)) (q _) else _)=(if decide (s.2<((y.take v.toNat).length:Int))=true then Chk (0≤s.2∧s.2<((y.take v.toNat).length:Int)) _ else _)
    split
    · rw [ih];rfl
    · rw [Let_eq]
      refine (jk3 (K':=GoOld.codec_ReadInt_j2 a (decide (16<r.1)) v y s.1) ?_).trans ?_
      · intro w
        unfold GoOld.codec_ReadInt_j2
        rw [Let_eq]
        show Chk ((decide (0<v)==true)=true→(0:Int)≤(0:Int)∧(0:Int)<(y.length:Int)) _=Chk ((decide (0<v)==true)=true→(0:Int)≤(0:Int)∧(0:Int)<(y.length:Int)) _
        refine congrArg (Chk _) ?_
        have h0:jat 0=0:=by decide
        have h16:jat 16=16:=by decide
        simp only [Let_eq,jg4,h0,h16,gt_iff_lt]
        cases hq:(bif decide (0<v) then ix y 0==0 else false) with
        | true=>simp
        | false=>simp
      · rfl
  · rfl
theorem jin (b:List UInt8) (a:Int):jaH b a=GoOld.ref07_ReadInt b a:=by
  unfold jaH GoOld.ref07_ReadInt
  show (if (bif decide (a<0) then true else decide (a>(b.length:Int)))=true then _ else (if (a==(b.length:Int))=true then _ else Chk (0≤a∧a<(b.length:Int)) _))=(if (bif decide (a<0) then true else decide ((b.length:Int)<a))=true then _ else (if (a==(b.length:Int))=true then _ else Chk (0≤a∧a<(b.length:Int)) (if decide (16≤((ix b a).toNat:Int))=true then _ else _)))
  split
  · rfl
  split
  · rfl
  refine congrArg (Chk _) ?_
  rw [Let_eq,Let_eq,Let_eq]
  refine (jk3 (K':=GoOld.ref07_ReadInt_j3 b a (decide (16≤((ix b a).toNat:Int)))) ?_).trans ?_
  · intro v
    unfold GoOld.ref07_ReadInt_j3
    show (if (bif bif decide (v>8) then true else decide (v<0) then true else bif decide (((ix b a).toNat:Int)≥16) then v==0 else false)=true then _ else (if decide (w64 (w64 ((b.length:Int) - a) - 1)<v)=true then _ else LOOP _ _ _))=(if (bif bif decide (8<v) then true else decide (v<0) then true else bif decide (16≤((ix b a).toNat:Int)) then v==0 else false)=true then _ else (if decide (w64 (w64 ((b.length:Int) - a) - 1)<v)=true then _ else _))
    split
    · rfl
    split
    · rfl
    refine jid (fun k s=>GoOld.ref07_ReadInt_l1 b a v (GoOld.ref07_ReadInt_j2 b a (decide (16≤((ix b a).toNat:Int))) v) k s.1 s.2) (fun _=>rfl) ?_ fuel (0,1)
    intro k q ih s
    show _=GoOld.ref07_ReadInt_l1 b a v (GoOld.ref07_ReadInt_j2 b a (decide (16≤((ix b a).toNat:Int))) v) (k+1) s.1 s.2
    have h0:jat 0=0:=by decide
    unfold GoOld.ref07_ReadInt_l1 GoOld.ref07_ReadInt_j2
    simp only [ih,Let_eq,h0,gt_iff_lt,ge_iff_le]
    first | done | rfl
  · rfl
end GoForm
end
