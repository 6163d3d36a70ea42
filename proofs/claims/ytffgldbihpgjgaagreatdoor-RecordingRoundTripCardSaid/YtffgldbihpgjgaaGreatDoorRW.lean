/- Several texts in one. No conditions. -/
import Derived.Test.YtffgldbihpgjgaaGreatDoorQE
import Derived.Test.YtffgldbihpgjgaaGreatDoorF47D
section
set_option linter.all false
open Go Go.Rx
namespace GoOld
structure Vec where
 X:Int
 Y:Int
 deriving DecidableEq,Inhabited
def Vec.zero:Vec:=⟨0,0⟩
def Vec.beq (x y:Vec):Bool:=decide (x.X=y.X)&&(decide (x.Y=y.Y))
def Wb (b:List UInt8)(s:List UInt8)(l:List Int):Bool:=
 Let ((cond (cond (decide (((b).length:Int)<=2000)) (decide (((s).length:Int)<=500)) false) (decide (((l).length:Int)<=100)) false)) fun x1=>
 x1
def yf (b:List UInt8)(at_1:Int):Option (UInt8 × Int):=
 Let ((cond (decide (at_1<0)) true (decide (((b).length:Int)<at_1)))) fun x1=>
 if x1=true then
  some (0,2)
 else
  Let ((at_1==((b).length:Int))) fun x2=>
  if x2=true then
   some (0,4)
  else
   Chk (0<=at_1/\at_1<((b).length:Int)) <|
   Let ((ix b at_1)) fun x4=>
   some (x4,0)
def Jr (n_0:Int):Int:=
 if(decide (n_0<0))=true then
  Let ((IntKind.u64.wrap (0 - (IntKind.u64.wrap (n_0))))) fun x1=>
  x1
 else
  Let ((IntKind.u64.wrap (n_0))) fun x2=>
  x2
def yp (kj2:Int->Option (Int × Int × Int))(x10:List UInt8):Nat->Int->Int->Option (Int × Int × Int)
 |0,_,_=>none
 |n + 1,v11,v12=>
  if(decide (v12<((x10).length:Int)))=true then
   Chk (0<=v12/\v12<((x10).length:Int)) <|
   Let ((ix x10 v12)) fun x14=>
   Let ((bOr .u64 (bShl .u64 v11 8) ((x14).toNat:Int))) fun x15=>
   Let ((w64 (v12+1))) fun x16=>
   (yp kj2 x10 n) x15 x16
  else
   kj2 v11
def Yc (at_1:Int)(x3:Bool)(v4:Int)(x7:List UInt8)(v8:Int)(v18:Int):Option (Int × Int × Int):=
 Chk (((decide (0<v4))==true)=true->0<=(0:Int)/\0<((x7).length:Int)) <|
 Let (Jr v18) fun r21=>
 if(cond (cond (cond (decide (0<v4)) ((ix x7 0)==0) false) true (r21 != v8)) true ((decide (v18<0)) != x3))=true then
  some (0,0,3)
 else
  Let ((w64 ((w64 (at_1+1))+v4))) fun x22=>
  some (v18,x22,0)
def Yb (at_1:Int)(x3:Bool)(v4:Int)(x7:List UInt8)(v8:Int):Option (Int × Int × Int):=
 Let ((w64 (v8))) fun x17=>
 if x3=true then
  Let ((w64 (0 - x17))) fun x19=>
  (Yc at_1 x3 v4 x7 v8) x19
 else
  (Yc at_1 x3 v4 x7 v8) x17
def Ya (b:List UInt8)(at_1:Int)(x3:Bool)(v4:Int):Option (Int × Int × Int):=
 if(decide (8<v4))=true then
  some (0,0,3)
 else
  Chk (0<=(w64 (at_1+1))/\(w64 (at_1+1))<=(b.length:Int)) <|
  Let ((b.drop ((w64 (at_1+1))).toNat)) fun x7=>
  if(decide (((x7).length:Int)<v4))=true then
   some (0,0,4)
  else
   Chk (0<=v4/\v4<=(x7.length:Int)) <|
   Let ((x7.take (v4).toNat)) fun x10=>
   yp (Yb at_1 x3 v4 x7) x10 fuel 0 0
def jd (b:List UInt8)(at_1:Int):Option (Int × Int × Int):=
 Bind (yf b at_1) fun r1=>
 if(r1.2 != 0)=true then
  some (0,0,r1.2)
 else
  Let (((r1.1).toNat:Int)) fun x2=>
  Let ((decide (16<r1.1))) fun x3=>
  if x3=true then
   Let ((w64 (x2 - 16))) fun x5=>
   (Ya b at_1 x3) x5
  else
   (Ya b at_1 x3) x2
def JC (b:List UInt8)(more:List UInt8):Option (List UInt8):=
 Chk (((b).length+(more).length)*1<=140737488355328) <|
 Let (b++more) fun x2=>
 some x2
def yl (kj1:List UInt8->Option (List UInt8)):Nat->List UInt8->Int->Option (List UInt8)
 |0,_,_=>none
 |n + 1,v3,v4=>
  if(decide (0<v4))=true then
   Chk (((([(toByte v4)]:List UInt8)).length+(v3).length)*1<=140737488355328) <|
   Let (([(toByte v4)]:List UInt8)++v3) fun x6=>
   Let ((vO .u64 v4 8)) fun x7=>
   (yl kj1 n) x6 x7
  else
   kj1 v3
def YU (b:List UInt8)(v1:List UInt8)(v8:Int):Option (List UInt8):=
 Bind (JC b ([(toByte v8)]:List UInt8)) fun r10=>
 Bind (JC r10 v1) fun r11=>
 some r11
def Yi (b:List UInt8)(n_1:Int)(v1:List UInt8):Option (List UInt8):=
 if(decide (n_1<0))=true then
  Let ((w64 (((v1).length:Int)+16))) fun x9=>
  (YU b v1) x9
 else
  (YU b v1) ((v1).length:Int)
def jO (b:List UInt8)(n_1:Int):Option (List UInt8):=
 Let (Jr n_1) fun r2=>
 yl (Yi b n_1) fuel ([]:List UInt8) r2
def jf (b:List UInt8)(at_1:Int):Option (Bool × Int × Int):=
 Bind (yf b at_1) fun r1=>
 Let ((r1.2 != 0)) fun x2=>
 if x2=true then
  some (false,0,r1.2)
 else
  Let ((decide (1<r1.1))) fun x3=>
  if x3=true then
   some (false,0,3)
  else
   Let ((r1.1==1)) fun x4=>
   Let ((w64 (at_1+1))) fun x5=>
   some (x4,x5,0)
def jh (b:List UInt8)(at_1:Int):Option (Vec × Int × Int):=
 Bind (jd b at_1) fun r1=>
 if(r1.2.2 != 0)=true then
  Let ((⟨0,0⟩:Vec)) fun x2=>
  some (x2,0,r1.2.2)
 else
  Bind (jd b r1.2.1) fun r3=>
  if(r3.2.2 != 0)=true then
   Let ((⟨0,0⟩:Vec)) fun x4=>
   some (x4,0,r3.2.2)
  else
   Let ((⟨r1.1,r3.1⟩:Vec)) fun x5=>
   some (x5,r3.2.1,0)
def YI (b:List UInt8)(x_1:Bool):Option (List UInt8):=
 if x_1=true then
  Bind (JC b ([1]:List UInt8)) fun r1=>
  some r1
 else
  Bind (JC b ([0]:List UInt8)) fun r2=>
  some r2
def yV (b:List UInt8)(v_1:Vec):Option (List UInt8):=
 Bind (jO b v_1.X) fun r1=>
 Bind (jO r1 v_1.Y) fun r2=>
 some r2
end GoOld
end

section
open Go Go.Rx
namespace GoOld
def beF (a:Int)(l:List UInt8):Int:=l.foldl (fun a c=>a*256+(c.toNat:Int)) a
theorem xR:∀(l:List UInt8) (a:Int),0<=a->0<=beF a l/\beF a l<(a+1)*256 ^ l.length
 | [],a,h=>by simp[beF];omega
 |c::l,a,h=>by
  have hc:=c.toNat_lt
  have ih:=xR l (a*256+c.toNat) (by omega)
  have e:beF a (c::l)=beF (a*256+c.toNat) l:=rfl
  rw[e,List.length_cons,Int.pow_succ]
  refine⟨ih.1,Int.lt_of_lt_of_le ih.2 ?_⟩
  rw[Int.mul_comm (256 ^ l.length) 256,<-Int.mul_assoc]
  exact Int.mul_le_mul_of_nonneg_right (by omega) (Int.pow_nonneg (by omega))
theorem jdY {x:Int}(c:UInt8)(h0:0<=x)(h1:x<72057594037927936):bOr .u64 (bShl .u64 x 8) (c.toNat:Int)=x*256+c.toNat:=by
 obtain⟨n,rfl⟩:=Int.eq_ofNat_of_zero_le h0
 have hm:c.toNat<2 ^ 8:=c.toNat_lt
 unfold bOr bShl
 have e1:IntKind.u64.wrap ((n:Int)*2 ^ (min (8:Int).toNat IntKind.u64.bits))=((n*256:Nat):Int):=by
  rw[wrap_u64];show((n:Int)*2 ^ 8) % _=_;omega
 rw[e1,wrap_u64]
 show(((BitVec.ofInt 64 ((n*256:Nat):Int)|||BitVec.ofInt 64 (c.toNat:Int)).toNat:Nat):Int) % _=_
 rw[BitVec.toNat_or]
 have e3:(BitVec.ofInt 64 ((n*256:Nat):Int)).toNat=n*256:=by
  rw[BitVec.toNat_ofInt];omega
 have e4:(BitVec.ofInt 64 (c.toNat:Int)).toNat=c.toNat:=by
  rw[BitVec.toNat_ofInt];omega
 rw[e3,e4]
 have e5:n*256|||c.toNat=n*256+c.toNat:=by
  have:=Nat.shiftLeft_add_eq_or_of_lt hm n
  rw[Nat.shiftLeft_eq]at this
  exact this.symm
 rw[e5]
 omega
theorem jgX {k:Nat}(h:k<=7):(256:Int) ^ k<=72057594037927936:=by
 have:256 ^ k<=256 ^ 7:=Nat.pow_le_pow_right (by omega) h
 have h2:((256 ^ k:Nat):Int)<=((256 ^ 7:Nat):Int):=by exact_mod_cast this
 simpa using h2
theorem vM (l:List UInt8)(hl:l.length<=8)(k:Int->Option (Int × Int × Int)):∀(n i:Nat),i<=l.length->l.length - i<n->
 yp k l n (beF 0 (l.take i)) (i:Int)=k (beF 0 l)
 |0,i,_,h=>by omega
 |n + 1,i,hi,h=>by
  unfold yp
  by_cases hlt:i<l.length
  ·rw[if_pos (by simpa using hlt)]
   have hb:=xR (l.take i) 0 (by omega)
   have hp:=jgX (k:=(l.take i).length) (by rw[List.length_take];omega)
   rw[jV (by omega),Let_eq,Let_eq,Let_eq,jdY _ hb.1 (by omega),UL _ (by omega)]
   have e:beF 0 (l.take i)*256+((ix l (i:Int)).toNat:Int)=beF 0 (l.take (i+1)):=by
    have e2:l.take (i+1)=l.take i++[l[i]]:=List.take_succ_eq_append_getElem hlt
    rw[e2,Ui l i hlt]
    unfold beF;rw[List.foldl_append];rfl
   rw[e]
   exact vM l hl k n (i+1) (by omega) (by omega)
  ·rw[if_neg (by simpa using hlt)]
   rw[List.take_of_length_le (by omega)]
def rdInt (b:List UInt8)(at_:Int):Int × Int × Int:=
 if at_<0\/(b.length:Int)<at_ then(0,0,2)else if at_=b.length then(0,0,4)else
 let hd:Int:=(ix b at_).toNat
 let size:=if 16<=hd then hd - 16 else hd
 if 8<size\/hd=16 then(0,0,3)else if(b.length:Int) - at_ - 1<size then(0,0,4)else
 let m:=beF 0 ((b.drop (at_+1).toNat).take size.toNat)
 if(0<size/\ix b (at_+1)=0)\/(¬ 16<=hd/\9223372036854775807<m)\/(16<=hd/\9223372036854775808<m)then(0,0,3)
 else(if 16<=hd then -m else m,at_+1+size,0)
theorem wM (b:List UInt8)(at_:Int):yf b at_=some (if at_<0\/(b.length:Int)<at_ then(0,2)else if at_=b.length then(0,4)else(ix b at_,0)):=by
 unfold yf
 simp only[Let_eq,Zf,Bool.or_eq_true,decide_eq_true_eq,beq_iff_eq]
 split
 ·rfl
 ·split
  ·rfl
  ·rw[jV (by omega)]
theorem MT (b:List UInt8)(k:Nat)(i:Nat)(hi:i<k)(h:k<=b.length):(b.take k)[i]'(by rw[List.length_take];omega)=b[i]:=by simp
theorem XV (l:List UInt8)(h:0<l.length)(h0:l[0]≠0):0<beF 0 l:=by
 cases l with
 |nil=>simp at h
 |cons c l=>
  have:0<(c.toNat:Int):=by
   have:c≠0:=h0
   have h2:c.toNat≠0:=fun h=>this (UInt8.toNat_inj.1 (by simpa using h))
   omega
  have e:beF 0 (c::l)=beF (c.toNat:Int) l:=by simp[beF]
  rw[e]
  have mono:∀(l:List UInt8) (a:Int),0<a->0<beF a l:=by
   intro l
   induction l with
   |nil=>intro a h;simpa [beF]using h
   |cons d l ih=>intro a h;exact ih (a*256+d.toNat) (by omega)
  exact mono l _ this
theorem VI (n:Int)(h : -9223372036854775808<=n/\n<=9223372036854775807):Jr n=n.natAbs:=by
 unfold Jr
 simp only[Let_eq,decide_eq_true_eq,Kh]
 split <;> omega
theorem VZ (b:List UInt8)(at_:Int)(hb:b.length<=4611686018427387904):jd b at_=some (rdInt b at_):=by
 unfold jd rdInt
 rw[wM,Bind_some]
 by_cases h1:at_<0\/(b.length:Int)<at_
 ·rw[if_pos h1,if_pos h1];rfl
 rw[if_neg h1,if_neg h1]
 by_cases h2:at_=b.length
 ·rw[if_pos h2,if_pos h2];rfl
 rw[if_neg h2,if_neg h2]
 have hd:=(ix b at_).toNat_lt
 simp only[Let_eq]
 have hgt:(16<ix b at_)↔(16:Int)<((ix b at_).toNat:Int):=by
  rw[UInt8.lt_iff_toNat_lt]
  show(16:Nat)<_↔_
  omega
 rw[if_neg (by simp)]
 have fin:∀(size:Int) (neg:Bool),(neg=true↔(16:Int)<(ix b at_).toNat)->size=(if(16:Int)<(ix b at_).toNat then((ix b at_).toNat:Int) - 16 else((ix b at_).toNat:Int))->
  Ya b at_ neg size=some (
   let hd:Int:=(ix b at_).toNat
   let size:=if 16<=hd then hd - 16 else hd
   if 8<size\/hd=16 then(0,0,3)else if(b.length:Int) - at_ - 1<size then(0,0,4)else
   let m:=beF 0 ((b.drop (at_+1).toNat).take size.toNat)
   if(0<size/\ix b (at_+1)=0)\/(¬ 16<=hd/\9223372036854775807<m)\/(16<=hd/\9223372036854775808<m)then(0,0,3)
   else(if 16<=hd then -m else m,at_+1+size,0)):=by
  intro size neg hneg hsize
  unfold Ya
  simp only
  by_cases h16:((ix b at_).toNat:Int)=16
  ·rw[if_neg (by omega)]at hsize
   rw[if_pos (by simp;omega),if_pos (.inr h16)]
  have hs2:size=(if(16:Int)<=(ix b at_).toNat then((ix b at_).toNat:Int) - 16 else((ix b at_).toNat:Int)):=by
   rw[hsize];split <;> split <;> omega
  have hneg2:neg=true↔(16:Int)<=(ix b at_).toNat:=by rw[hneg];omega
  rw[<-hs2]
  by_cases h8:8<size
  ·rw[if_pos (by simpa using h8),if_pos (.inl h8)]
  rw[if_neg (by simpa using h8),if_neg (by omega)]
  have hw:w64 (at_+1)=at_+1:=UL _ (by omega)
  rw[hw,jV (by omega)]
  have hs0:0<=size:=by rw[hs2];split <;> omega
  have hlen:(b.drop (at_+1).toNat).length=b.length - (at_+1).toNat:=List.length_drop
  simp only[Let_eq]
  by_cases h4:(b.length:Int) - at_ - 1<size
  ·rw[if_pos (by simp;omega),if_pos h4]
  rw[if_neg (by simp;omega),if_neg h4,jV (by omega)]
  have hlt:((b.drop (at_+1).toNat).take size.toNat).length=size.toNat:=by rw[List.length_take];omega
  have hloop:=vM ((b.drop (at_+1).toNat).take size.toNat) (by omega) (Yb at_ neg size (b.drop (at_+1).toNat)) fuel 0 (by omega) (fuel_lt _ (by omega))
  simp only[List.take_zero]at hloop
  have hb0:beF 0 []=0:=rfl
  rw[hb0]at hloop
  have hloop':yp (Yb at_ neg size (b.drop (at_+1).toNat)) ((b.drop (at_+1).toNat).take size.toNat) fuel 0 0=_:=hloop
  rw[hloop']
  have hbd:=xR ((b.drop (at_+1).toNat).take size.toNat) 0 (by omega)
  have hpw:(256:Int) ^ ((b.drop (at_+1).toNat).take size.toNat).length<=18446744073709551616:=by
   rw[hlt]
   have:256 ^ size.toNat<=256 ^ 8:=Nat.pow_le_pow_right (by omega) (by omega)
   have h2:((256 ^ size.toNat:Nat):Int)<=((256 ^ 8:Nat):Int):=by exact_mod_cast this
   simpa using h2
  have hz:ix (b.drop (at_+1).toNat) 0=ix b (at_+1):=by
   unfold ix;simp[List.getD]
  have hpos:0<size->ix b (at_+1)≠0->0<beF 0 ((b.drop (at_+1).toNat).take size.toNat):=by
   intro h0 h1
   refine XV _ (by omega) ?_
   rw[List.getElem_take,<-Ui _ 0 (by omega)]
   show ix (b.drop (at_+1).toNat) 0≠0
   rw[hz];exact h1
  have hzero:size=0->beF 0 ((b.drop (at_+1).toNat).take size.toNat)=0:=by
   intro h;rw[h];rfl
  generalize beF 0 ((b.drop (at_+1).toNat).take size.toNat)=m at hbd hpos hzero⊢
  have hm:0<=m/\m<18446744073709551616:=⟨hbd.1,by omega⟩
  unfold Yb
  simp only[Let_eq]
  -- the last test
  have last:∀v:Int,-9223372036854775808<=v/\v<=9223372036854775807->Yc at_ neg size (b.drop (at_+1).toNat) m v=
   some (if(0<size/\ix b (at_+1)=0)\/(v.natAbs:Int)≠m\/(decide (v<0)≠neg)then(0,0,3)else(v,at_+1+size,0)):=by
   intro v hv
   unfold Yc
   rw[jV (by intro _;refine⟨Int.le_refl _,?_⟩;rename_i h;simp at h;omega),VI v hv,hz]
   simp only[Let_eq,Zf,Yq,hw]
   rw[UL (at_+1+size) (by omega)]
   by_cases hc:(0<size/\ix b (at_+1)=0)\/(v.natAbs:Int)≠m\/(decide (v<0)≠neg)
   ·rw[if_pos hc,if_pos]
    simp only[Bool.or_eq_true,Bool.and_eq_true,decide_eq_true_eq,beq_iff_eq,bne_iff_ne,or_assoc]
    exact hc
   ·rw[if_neg hc,if_neg]
    simp only[Bool.or_eq_true,Bool.and_eq_true,decide_eq_true_eq,beq_iff_eq,bne_iff_ne,or_assoc]
    exact hc
  cases neg with
  |true=>
   have h17:=hneg2.1 rfl
   simp only[if_true,h17,true_and,not_true_eq_false,false_and,false_or]
   rw[last _ (by rcases VA (0 - w64 m)with h|h <;> omega)]
   congr 1
   have h0:size=0->False:=by intro h;rw[if_pos h17]at hs2;omega
   by_cases hf:0<size/\ix b (at_+1)=0
   ·rw[if_pos (.inl hf),if_pos (.inl hf)]
   ·have hmp:0<m:=hpos (by omega) (fun h=>hf ⟨by omega,h⟩)
    by_cases hbig:9223372036854775808<m
    ·rw[if_pos,if_pos (.inr hbig)]
     right;right
     have:0<w64 (0 - w64 m):=by rcases VA m with h|h <;> rcases VA (0 - w64 m)with h' |h' <;> omega
     rw[decide_eq_false (by omega)];decide
    ·have:w64 (0 - w64 m) = -m:=by rcases VA m with h|h <;> rcases VA (0 - w64 m)with h' |h' <;> omega
     rw[this,if_neg,if_neg (by rintro(h|h);exact hf h;exact hbig h)]
     rintro(h|h|h)
     ·exact hf h
     ·omega
     ·simp at h;omega
  |false=>
   have h17:¬ (16:Int)<=(ix b at_).toNat:=fun h=>by have:=hneg2.2 h;cases this
   simp only[h17,if_false,false_and,or_false,not_false_eq_true,true_and,Bool.false_eq_true]
   rw[last _ (by rcases VA m with h|h <;> omega)]
   congr 1
   by_cases hf:0<size/\ix b (at_+1)=0
   ·rw[if_pos (.inl hf),if_pos (.inl hf)]
   ·by_cases hbig:9223372036854775807<m
    ·rw[if_pos,if_pos (.inr hbig)]
     right;right
     have:w64 m<0:=by rcases VA m with h|h <;> omega
     simp;omega
    ·have:w64 m=m:=by rcases VA m with h|h <;> omega
     rw[this,if_neg,if_neg (by rintro(h|h);exact hf h;exact hbig h)]
     rintro(h|h|h)
     ·exact hf h
     ·omega
     ·simp at h;omega
 split
 ·rename_i hx
  simp only[decide_eq_true_eq]at hx
  rw[fin _ _ (by simp[hgt]) (by rw[if_pos (hgt.1 hx),UL _ (by omega)])]
 ·rename_i hx
  simp only[decide_eq_true_eq]at hx
  rw[fin _ _ (by simp[hgt]) (by rw[if_neg (fun h=>hx (hgt.2 h))])]
end GoOld
end

section
set_option linter.all false
open Go Go.Rx
namespace GoOld
def Yx (m:Nat):List UInt8:=if h:m=0 then[]else Yx (m / 256)++[UInt8.ofNat (m % 256)]
termination_by m
decreasing_by omega
theorem zx:Yx 0=[]:=by rw[Yx];rfl
theorem YE {m:Nat}(h:0<m):Yx m=Yx (m / 256)++[UInt8.ofNat (m % 256)]:=by rw[Yx,dif_neg (by omega)]
theorem Ka : ∀(k m:Nat),m<256 ^ k->(Yx m).length<=k
 |0, m, h => by have:m=0:=by simpa using h
                subst this;simp[zx]
 |k + 1,m,h=>by
  rcases Nat.eq_zero_or_pos m with rfl|hm
  ·simp[zx]
  ·rw[YE hm,List.length_append]
   have:=Ka k (m / 256) (by rw[Nat.pow_succ]at h;omega)
   simp;omega
theorem Us (m:Nat):(UInt8.ofNat (m % 256)).toNat=m % 256:=by
 have:(UInt8.ofNat (m % 256)).toNat=m % 256 % 256:=UInt8.toNat_ofNat'
 omega
theorem me (l:List UInt8)(c:UInt8):beF 0 (l++[c])=beF 0 l*256+c.toNat:=by unfold beF;rw[List.foldl_append];rfl
theorem jdW:∀(m:Nat),beF 0 (Yx m)=m:=by
 intro m
 induction m using Nat.strongRecOn with
 |_ m ih=>
  rcases Nat.eq_zero_or_pos m with rfl|hm
  ·rw[zx];rfl
  ·rw[YE hm,me,ih (m / 256) (by omega),Us];omega
theorem Mm:∀(m:Nat) (h:0<(Yx m).length),(Yx m)[0]≠0:=by
 intro m
 induction m using Nat.strongRecOn with
 |_ m ih=>
  rcases Nat.eq_zero_or_pos m with rfl|hm
  ·simp[zx]
  ·intro h
   have e:=YE hm
   by_cases h0:m / 256=0
   ·have:Yx m=[UInt8.ofNat (m % 256)]:=by rw[e,h0,zx];rfl
    simp only[this,List.getElem_cons_zero]
    intro hz
    have:=congrArg UInt8.toNat hz
    rw[Us]at this
    simp at this;omega
   ·have hl:0<(Yx (m / 256)).length:=by
     rw[YE (by omega)];simp
    have:=ih (m / 256) (by omega) hl
    have e2:(Yx m)[0]=(Yx (m / 256))[0]:=by
     have:(Yx m)[0]? = (Yx (m / 256))[0]? := by rw[e,List.getElem?_append_left hl]
     rw[List.getElem?_eq_getElem h,List.getElem?_eq_getElem hl]at this
     exact Option.some.inj this
    rw[e2];exact this
theorem xK {m:Nat}(h:0<m):0<(Yx m).length:=by rw[YE h];simp
theorem jcL {α:Type}{p:List α->Prop}(h0:p [])(h1:∀l c,p l->p (l++[c])):∀l,p l:=by
 intro l
 rw[<-List.reverse_reverse l]
 generalize l.reverse=m
 induction m with
 |nil=>exact h0
 |cons c m ih=>rw[List.reverse_cons];exact h1 _ _ ih
theorem jhE:(256:Nat) ^ 8=18446744073709551616:=by decide
theorem jdO:∀(l:List UInt8),(∀h:0<l.length,l[0]≠0)->Yx (beF 0 l).toNat=l:=by
 refine jcL ?_ ?_
 ·intro _;show Yx 0=[];exact zx
 ·intro l c ih h0
  have hb:=xR l 0 (by omega)
  have hc:=c.toNat_lt
  rw[me]
  have hl0:∀h:0<l.length,l[0]≠0:=by
   intro h
   have:=h0 (by simp)
   have e:(l++[c])[0]'(by simp)=l[0]:=by rw[List.getElem_append_left h]
   rw[e]at this;exact this
  have hpos:0<beF 0 l*256+(c.toNat:Int):=by
   rcases Nat.eq_zero_or_pos l.length with h|h
   ·have:l=[]:=List.eq_nil_of_length_eq_zero h
    subst this
    have:=h0 (by simp)
    simp at this
    have h2:c.toNat≠0:=fun h=>this (UInt8.toNat_inj.1 (by simpa using h))
    show 0<(0:Int)*256+_
    omega
   ·have:=XV l h (hl0 h)
    omega
  rw[YE (by omega)]
  have e1:(beF 0 l*256+(c.toNat:Int)).toNat / 256=(beF 0 l).toNat:=by omega
  have e2:UInt8.ofNat ((beF 0 l*256+(c.toNat:Int)).toNat % 256)=c:=by
   apply UInt8.toNat_inj.1
   rw[Us];omega
  rw[e1,e2,ih hl0]
theorem UO (m:Nat):toByte (m:Int)=UInt8.ofNat (m % 256):=by unfold toByte;congr 1
theorem kO (k:List UInt8->Option (List UInt8)):∀(n j:Nat) (acc:List UInt8) (m:Nat),m<256 ^ j->j<n->acc.length+j<=1000->yl k n acc (m:Int)=k (Yx m++acc)
 |0,j,_,_,_,h,_=>by omega
 |n + 1,j,acc,m,hm,hj,hl=>by
  unfold yl
  rcases Nat.eq_zero_or_pos m with rfl|hp
  ·rw[if_neg (by simp),zx];rfl
  ·rw[if_pos (by simp;omega),jV (by simp;omega),Let_eq,Let_eq]
   have e:vO .u64 (m:Int) 8=((m / 256:Nat):Int):=by
    unfold vO
    show(m:Int).fdiv (2 ^ 8)=_
    rw[Int.fdiv_eq_ediv_of_nonneg _ (by omega)]
    omega
   rw[e]
   cases j with
   |zero=>simp at hm;omega
   |succ j=>
    rw[kO k n j _ (m / 256) (by rw[Nat.pow_succ]at hm;omega) (by omega) (by simp;omega),YE hp,UO]
    simp
def encInt (n:Int):List UInt8:=UInt8.ofNat ((Yx n.natAbs).length+if n<0 then 16 else 0)::Yx n.natAbs
theorem Vn (n:Int)(h : -9223372036854775808<=n/\n<=9223372036854775807):(Yx n.natAbs).length<=8:=Ka 8 _ (by rw[jhE];omega)
theorem Wr (b more:List UInt8)(h:b.length+more.length<=140737488355328):JC b more=some (b++more):=by
 unfold JC;rw[jV (by omega)];rfl
theorem vH (b:List UInt8)(n:Int)(hn : -9223372036854775808<=n/\n<=9223372036854775807)(hb:b.length<=100000000000):jO b n=some (b++encInt n):=by
 have hl:=Vn n hn
 unfold jO
 rw[Let_eq,VI n hn]
 have:=kO (Yi b n) fuel 8 [] n.natAbs (by rw[jhE];omega) (fuel_lt _ (by omega)) (by simp)
 rw[this,List.append_nil]
 unfold Yi
 have hd:(Yx n.natAbs).length<=8:=hl
 have fin:∀h:Nat,h<=24->YU b (Yx n.natAbs) (h:Int)=some (b++UInt8.ofNat h::Yx n.natAbs):=by
  intro h hh
  unfold YU
  rw[Wr b _ (by simp;omega),Bind_some,Wr _ _ (by simp;omega),Bind_some,UO]
  have:h % 256=h:=by omega
  rw[this];simp
 unfold encInt
 by_cases h0:n<0
 ·rw[if_pos (by simpa using h0),if_pos h0,Let_eq,UL _ (by omega)]
  exact fin ((Yx n.natAbs).length+16) (by omega)
 ·rw[if_neg (by simpa using h0),if_neg h0]
  exact fin (Yx n.natAbs).length (by omega)
theorem jbc {α:Type}[Inhabited α](a b:List α)(i:Nat)(h:i<b.length):ix (a++b) ((a.length+i:Nat):Int)=b[i]:=by
 rw[Ui _ _ (by simp;omega),List.getElem_append_right (by omega)]
 simp
theorem jan (b more:List UInt8)(n:Int)(hn : -9223372036854775808<=n/\n<=9223372036854775807):rdInt (b++encInt n++more) b.length=(n,(b.length:Int)+((encInt n).length:Int),0):=by
 have hl:=Vn n hn
 have hlen:(b++encInt n++more).length=b.length+1+(Yx n.natAbs).length+more.length:=by simp[encInt];omega
 have h0:ix (b++encInt n++more) (b.length:Int)=UInt8.ofNat ((Yx n.natAbs).length+if n<0 then 16 else 0):=by
  rw[List.append_assoc]
  have:=jbc b (encInt n++more) 0 (by simp[encInt])
  simpa [encInt]using this
 have hhd:(((ix (b++encInt n++more) (b.length:Int)).toNat:Nat):Int)=(((Yx n.natAbs).length:Int)+(if n<0 then(16:Int)else 0)):=by
  rw[h0]
  have:(UInt8.ofNat ((Yx n.natAbs).length+if n<0 then 16 else 0)).toNat=((Yx n.natAbs).length+if n<0 then 16 else 0) % 256:=UInt8.toNat_ofNat'
  rw[this];split <;> omega
 have hdrop:((b++encInt n++more).drop (b.length+1)).take (Yx n.natAbs).length=Yx n.natAbs:=by
  have:b++encInt n++more=(b++[UInt8.ofNat ((Yx n.natAbs).length+if n<0 then 16 else 0)])++(Yx n.natAbs++more):=by simp[encInt]
  rw[this,List.drop_left' (by simp),List.take_left']
  rfl
 have hneg:n<0->0<n.natAbs:=by omega
 have hsz:n<0->0<(Yx n.natAbs).length:=fun h=>xK (hneg h)
 have e1:((b.length:Int)+1).toNat=b.length+1:=by omega
 have hfirst:0<(Yx n.natAbs).length->ix (b++encInt n++more) ((b.length:Int)+1)≠0:=by
  intro h
  have e2:ix (b++encInt n++more) ((b.length:Int)+1)=(Yx n.natAbs)[0]:=by
   have:b++encInt n++more=(b++[UInt8.ofNat ((Yx n.natAbs).length+if n<0 then 16 else 0)])++(Yx n.natAbs++more):=by simp[encInt]
   rw[this]
   have:=jbc (b++[UInt8.ofNat ((Yx n.natAbs).length+if n<0 then 16 else 0)]) (Yx n.natAbs++more) 0 (by simp;omega)
   simp only[List.length_append,List.length_cons,List.length_nil,Nat.add_zero,Nat.zero_add]at this
   rw[List.getElem_append_left h]at this
   exact this
  rw[e2];exact Mm _ h
 unfold rdInt
 rw[if_neg (by omega),if_neg (by omega)]
 have hsize:(if(16:Int)<=(((Yx n.natAbs).length:Int)+(if n<0 then(16:Int)else 0))then(((Yx n.natAbs).length:Int)+(if n<0 then(16:Int)else 0)) - 16 else(((Yx n.natAbs).length:Int)+(if n<0 then(16:Int)else 0)))=((Yx n.natAbs).length:Int):=by
  by_cases hn0:n<0
  ·rw[if_pos hn0,if_pos (by omega)];omega
  ·rw[if_neg hn0,if_neg (by omega)];omega
 simp only[hhd,e1,hsize]
 have e3:((Yx n.natAbs).length:Int).toNat=(Yx n.natAbs).length:=by omega
 rw[e3,hdrop,jdW]
 have hle:(encInt n).length=(Yx n.natAbs).length+1:=by simp[encInt]
 by_cases hn0:n<0
 ·rw[if_pos hn0,if_neg (by have:=hsz hn0;omega),if_neg (by omega),if_neg,if_pos (by omega),hle]
  ·refine Prod.ext (by simp only;omega) (Prod.ext (by simp only;omega) rfl)
  ·rintro(⟨h,h'⟩|⟨h,-⟩|⟨-,h⟩)
   ·exact hfirst (by omega) h'
   ·omega
   ·omega
 ·rw[if_neg hn0,if_neg (by omega),if_neg (by omega),if_neg,if_neg (by omega),hle]
  ·refine Prod.ext (by simp only;omega) (Prod.ext (by simp only;omega) rfl)
  ·rintro(⟨h,h'⟩|⟨-,h⟩|⟨h,-⟩)
   ·exact hfirst (by omega) h'
   ·omega
   ·omega
theorem jbK (b:List UInt8)(at_:Int)(h:(rdInt b at_).2.2=0):0<=at_/\at_<(rdInt b at_).2.1/\(rdInt b at_).2.1<=b.length/\b.take at_.toNat++encInt (rdInt b at_).1=b.take (rdInt b at_).2.1.toNat/\
 -9223372036854775808<=(rdInt b at_).1/\(rdInt b at_).1<=9223372036854775807:=by
 unfold rdInt at h⊢
 by_cases h1:at_<0\/(b.length:Int)<at_
 ·rw[if_pos h1]at h;simp at h
 rw[if_neg h1]at h⊢
 by_cases h2:at_=b.length
 ·rw[if_pos h2]at h;simp at h
 rw[if_neg h2]at h⊢
 obtain⟨a,rfl⟩:=Int.eq_ofNat_of_zero_le (show 0<=at_ by omega)
 have ha:a<b.length:=by omega
 have hd:=(ix b (a:Int)).toNat_lt
 have e1:((a:Int)+1).toNat=a+1:=by omega
 simp only[e1]at h⊢
 generalize hz:(if(16:Int)<=((ix b (a:Int)).toNat:Int)then((ix b (a:Int)).toNat:Int) - 16 else((ix b (a:Int)).toNat:Int))=z at h⊢
 have hz0:0<=z:=by rw[<-hz];split <;> omega
 by_cases h8:8<z\/((ix b (a:Int)).toNat:Int)=16
 ·rw[if_pos h8]at h;simp at h
 rw[if_neg h8]at h⊢
 by_cases h4:(b.length:Int) - a - 1<z
 ·rw[if_pos h4]at h;simp at h
 rw[if_neg h4]at h⊢
 obtain⟨k,rfl⟩:=Int.eq_ofNat_of_zero_le hz0
 have e2:(k:Int).toNat=k:=by omega
 simp only[e2]at h⊢
 have hlk:((b.drop (a+1)).take k).length=k:=by rw[List.length_take,List.length_drop];omega
 have hbd:=xR ((b.drop (a+1)).take k) 0 (by omega)
 by_cases hc:(0<(k:Int)/\ix b ((a:Int)+1)=0)\/(¬ (16:Int)<=(ix b (a:Int)).toNat/\9223372036854775807<beF 0 ((b.drop (a+1)).take k))\/((16:Int)<=(ix b (a:Int)).toNat/\9223372036854775808<beF 0 ((b.drop (a+1)).take k))
 ·rw[if_pos hc]at h;simp at h
 rw[if_neg hc]at h⊢
 have hfirst:∀hh:0<((b.drop (a+1)).take k).length,((b.drop (a+1)).take k)[0]≠0:=by
  intro hh h0
  apply hc;left
  refine⟨by omega,?_⟩
  have:ix b ((a+1:Nat):Int)=b[a+1]'(by omega):=Ui b (a+1) (by omega)
  rw[List.getElem_take,List.getElem_drop]at h0
  exact this.trans h0
 have hdig:=jdO _ hfirst
 have hnabs:(if(16:Int)<=((ix b (a:Int)).toNat:Int)then -beF 0 ((b.drop (a+1)).take k)else beF 0 ((b.drop (a+1)).take k)).natAbs=(beF 0 ((b.drop (a+1)).take k)).toNat:=by
  split <;> omega
 have hneg:(if(16:Int)<=((ix b (a:Int)).toNat:Int)then -beF 0 ((b.drop (a+1)).take k)else beF 0 ((b.drop (a+1)).take k))<0↔(16:Int)<=((ix b (a:Int)).toNat:Int):=by
  by_cases h16:(16:Int)<=((ix b (a:Int)).toNat:Int)
  ·rw[if_pos h16]at hz⊢
   have:=XV _ (by rw[hlk];omega) (hfirst (by rw[hlk];omega))
   omega
  ·rw[if_neg h16];omega
 refine⟨by omega,by simp only;omega,by simp only;omega,?_,?_⟩
 ·have henc:encInt (if(16:Int)<=((ix b (a:Int)).toNat:Int)then -beF 0 ((b.drop (a+1)).take k)else beF 0 ((b.drop (a+1)).take k))=b[a]::(b.drop (a+1)).take k:=by
   unfold encInt
   rw[hnabs,hdig,hlk]
   congr 1
   apply UInt8.toNat_inj.1
   have e5:(ix b (a:Int))=b[a]:=Ui b a ha
   rw[<-e5]
   by_cases h16:(16:Int)<=((ix b (a:Int)).toNat:Int)
   ·rw[if_pos (hneg.2 h16)]
    rw[if_pos h16]at hz
    have:(UInt8.ofNat (k+16)).toNat=(k+16) % 256:=UInt8.toNat_ofNat'
    omega
   ·rw[if_neg (fun h=>h16 (hneg.1 h))]
    rw[if_neg h16]at hz
    have:(UInt8.ofNat (k+0)).toNat=(k+0) % 256:=UInt8.toNat_ofNat'
    omega
  rw[henc]
  have e6:((a:Int)+1+(k:Int)).toNat=a+(1+k):=by omega
  simp only[e6,Int.toNat_natCast]
  rw[List.take_add,List.drop_eq_getElem_cons ha,Nat.add_comm 1 k,List.take_succ_cons]
 ·simp only
  have hpw:(256:Int) ^ ((b.drop (a+1)).take k).length<=18446744073709551616:=by
   rw[hlk]
   have:256 ^ k<=256 ^ 8:=Nat.pow_le_pow_right (by omega) (by omega)
   have h2:((256 ^ k:Nat):Int)<=((256 ^ 8:Nat):Int):=by exact_mod_cast this
   simpa using h2
  have hc2:¬ (¬ (16:Int)<=(ix b (a:Int)).toNat/\9223372036854775807<beF 0 ((b.drop (a+1)).take k)):=fun h=>hc (.inr (.inl h))
  have hc3:¬ ((16:Int)<=(ix b (a:Int)).toNat/\9223372036854775808<beF 0 ((b.drop (a+1)).take k)):=fun h=>hc (.inr (.inr h))
  split <;> omega
abbrev I64 (n:Int):Prop := -9223372036854775808<=n/\n<=9223372036854775807
theorem jbM (n:Int)(h:I64 n):(encInt n).length<=9:=by
 have:=Vn n h
 simp[encInt];omega
theorem pN (b s:List UInt8)(l:List Int):Wb b s l=(decide ((b.length:Int)<=2000)&&decide ((s.length:Int)<=500)&&decide ((l.length:Int)<=100)):=by
 simp only[Wb,Let_eq,Yq]
end GoOld
end

section
set_option linter.all false
set_option maxRecDepth 100000
open Go Go.Rx
namespace GoForm
theorem jgJ {V ρ:Type}(K:V->Option ρ)(b:(V->Option ρ)->Option ρ):Join K b=b K:=rfl
theorem jcq {V ρ:Type}{K K':V->Option ρ}{b:(V->Option ρ)->Option ρ}(h:∀v,K v=K' v):Join K b=b K':=by
 rw[funext h];rfl
theorem pw {V X:Type}{step:(V->Option X)->V->Option X}(g:Nat->V->Option X)(h0:∀v,g 0 v=none)(hs:∀n (r:V->Option X),(∀w,r w=g n w)->∀v,step r v=g (n+1) v):∀n v,qw step n v=g n v
 |0,v=>(h0 v).symm
 |n+1,v=>hs n _ (pw g h0 hs n) v
theorem Wx (b:List UInt8)(a:Int):yf b a=GoOld.yf b a:=by kernel_rfl
theorem VN (n:Int):Jr n=some (GoOld.Jr n):=by
 unfold Jr GoOld.Jr
 simp only[Let_eq]
 split <;> rfl
theorem xO (b m:List UInt8):JC b m=GoOld.JC b m:=by
 unfold JC GoOld.JC
 simp only[Let_eq]
 rw[jV ⟨by omega,Int.le_refl _,trivial⟩]
 have:List.take (b.length:Int).toNat b=b:=by simp
 rw[this]
theorem xP (b:List UInt8)(n:Int):jO b n=GoOld.jO b n:=by
 unfold jO GoOld.jO
 rw[VN,Bind_some,Let_eq]
 refine pw (fun k v=>GoOld.yl (GoOld.Yi b n) k v.1 v.2) (fun _=>rfl) ?_ fuel ([],GoOld.Jr n)
 intro k r ih v
 show _=GoOld.yl (GoOld.Yi b n) (k+1) v.1 v.2
 unfold GoOld.yl
 simp only[Let_eq,ih,jgJ,xO]
 rfl
theorem Mr (b:List UInt8)(a:Int):jd b a=GoOld.jd b a:=by
 unfold jd GoOld.jd
 rw[Wx]
 refine congrArg (Bind _) (funext fun r=>?_)
 show(if(r.snd != 0)=true then some ((0:Int),(0:Int),r.snd)else _)=(if(r.2 != 0)=true then _ else(if decide (16<r.1)=true then _ else _))
 split
 ·rfl
 rw[Let_eq,Let_eq]
 refine(jcq (K':=GoOld.Ya b a (decide (16<r.1))) ?_).trans ?_
 ·intro v
  unfold GoOld.Ya
  show(if decide (v>8)=true then _ else Chk (0<=w64 (a+1)/\w64 (a+1)<=(b.length:Int)) (if decide (((b.drop (w64 (a+1)).toNat).length:Int)<v)=true then _ else Chk (0<=v/\v<=((b.drop (w64 (a+1)).toNat).length:Int)) (qw _ _ _)))=(if decide (8<v)=true then _ else Chk (0<=w64 (a+1)/\w64 (a+1)<=(b.length:Int)) (if decide (((b.drop (w64 (a+1)).toNat).length:Int)<v)=true then _ else Chk (0<=v/\v<=((b.drop (w64 (a+1)).toNat).length:Int)) _))
  split
  ·rfl
  refine congrArg (Chk _) ?_
  split
  ·rfl
  refine congrArg (Chk _) ?_
  refine pw (fun k s=>GoOld.yp (GoOld.Yb a (decide (16<r.1)) v (b.drop (w64 (a+1)).toNat)) ((b.drop (w64 (a+1)).toNat).take v.toNat) k s.1 s.2) (fun _=>rfl) ?_ fuel (0,0)
  intro k q ih s
  show _=GoOld.yp (GoOld.Yb a (decide (16<r.1)) v (b.drop (w64 (a+1)).toNat)) ((b.drop (w64 (a+1)).toNat).take v.toNat) (k+1) s.1 s.2
  unfold GoOld.yp
  generalize b.drop (w64 (a+1)).toNat=y at ih⊢
  show(if decide (s.2<((y.take v.toNat).length:Int))=true then Chk (0<=s.2/\s.2<((y.take v.toNat).length:Int)) (q _)else _)=(if decide (s.2<((y.take v.toNat).length:Int))=true then Chk (0<=s.2/\s.2<((y.take v.toNat).length:Int)) _ else _)
  split
  ·rw[ih];rfl
  ·rw[Let_eq]
   refine(jcq (K':=GoOld.Yc a (decide (16<r.1)) v y s.1) ?_).trans ?_
   ·intro w
    unfold GoOld.Yc
    rw[Let_eq]
    show Chk ((decide (0<v)==true)=true->(0:Int)<=(0:Int)/\(0:Int)<(y.length:Int)) _=Chk ((decide (0<v)==true)=true->(0:Int)<=(0:Int)/\(0:Int)<(y.length:Int)) _
    refine congrArg (Chk _) ?_
    have h0:toByte 0=0:=by decide
    have h16:toByte 16=16:=by decide
    simp only[Let_eq,VN,h0,h16,gt_iff_lt]
    cases hq:(bif decide (0<v)then ix y 0==0 else false)with
    |true=>simp
    |false=>simp
   ·rfl
 ·rfl
end GoForm
end
