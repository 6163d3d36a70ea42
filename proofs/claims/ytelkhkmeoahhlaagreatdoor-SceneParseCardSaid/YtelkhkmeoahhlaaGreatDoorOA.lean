/- Several texts in one. No conditions. -/
import Derived.Test.YtelkhkmeoahhlaaGreatDoorQD
import Derived.Test.YtelkhkmeoahhlaaGreatDoorF52T
section
set_option linter.all false
open Go Go.Rx
namespace GoOld
section
open GoForm
def Vec.zero:Vec:=⟨0,0⟩
def Transform.zero:Transform:=⟨Vec.zero,0⟩
def Shape.zero:Shape:=⟨0,0,[]⟩
def jT.zero:jT:=⟨Shape.zero,0,0,0,false,0,0,0⟩
def Body.zero:Body:=⟨0,0,Transform.zero,Vec.zero,0,Vec.zero,0,0,0,0,false,false,false,false,0,[]⟩
def jy.zero:jy:=⟨Vec.zero,Vec.zero,0⟩
def Vec.beq (x y:Vec):Bool:=decide (x.X=y.X)&&(decide (x.Y=y.Y))
def Transform.beq (x y:Transform):Bool:=Vec.beq x.Position y.Position&&(decide (x.Zg=y.Zg))
def Vec.Wf (x:Vec):Prop:=(IntKind.i64.min<=x.X/\x.X<=IntKind.i64.max)/\(IntKind.i64.min<=x.Y/\x.Y<=IntKind.i64.max)
def Transform.Wf (x:Transform):Prop:=Vec.Wf x.Position/\(IntKind.i64.min<=x.Zg/\x.Zg<=IntKind.i64.max)
def Shape.Wf (x:Shape):Prop:=(IntKind.i64.min<=x.Kind/\x.Kind<=IntKind.i64.max)/\(IntKind.i64.min<=x.yn/\x.yn<=IntKind.i64.max)/\((∀a∈x.jg,Vec.Wf a)/\(x.jg).length<=9223372036854775807)
def jT.Wf (x:jT):Prop:=Shape.Wf x.Shape/\(IntKind.i64.min<=x.YN/\x.YN<=IntKind.i64.max)/\(IntKind.i64.min<=x.yA/\x.yA<=IntKind.i64.max)/\(IntKind.i64.min<=x.Je/\x.Je<=IntKind.i64.max)/\True/\(IntKind.i64.min<=x.Category/\x.Category<=IntKind.i64.max)/\(IntKind.i64.min<=x.Mask/\x.Mask<=IntKind.i64.max)/\(IntKind.i64.min<=x.Ki/\x.Ki<=IntKind.i64.max)
def Body.Wf (x:Body):Prop:=(IntKind.i64.min<=x.ID/\x.ID<=IntKind.i64.max)/\(IntKind.i64.min<=x.Kind/\x.Kind<=IntKind.i64.max)/\Transform.Wf x.Transform/\Vec.Wf x.jX/\(IntKind.i64.min<=x.jm/\x.jm<=IntKind.i64.max)/\Vec.Wf x.qu/\(IntKind.i64.min<=x.Yq/\x.Yq<=IntKind.i64.max)/\(IntKind.i64.min<=x.jR/\x.jR<=IntKind.i64.max)/\(IntKind.i64.min<=x.jJ/\x.jJ<=IntKind.i64.max)/\(IntKind.i64.min<=x.jW/\x.jW<=IntKind.i64.max)/\True/\True/\True/\True/\(IntKind.i64.min<=x.JC/\x.JC<=IntKind.i64.max)/\((∀a∈x.jf,jT.Wf a)/\(x.jf).length<=9223372036854775807)
def jO (x_0:Int)(low:Int)(high:Int):Bool:=
 Let ((cond (decide (low<=x_0)) (decide (x_0<=high)) false)) fun x1=>
 x1
def Yx (v_0:Vec)(limit:Int):Bool:=
 Let (jO v_0.X (w64 (0 - limit)) limit) fun r1=>
 Let (jO v_0.Y (w64 (0 - limit)) limit) fun r2=>
 Let ((cond r1 r2 false)) fun x3=>
 x3
def JG (x_0:Int):Bool:=
 Let ((cond (decide ((-268435456)<=x_0)) (decide (x_0<=268435456)) false)) fun x1=>
 x1
def yJ (t:Transform):Bool:=
 Let (JG t.Position.X) fun r1=>
 Let (JG t.Position.Y) fun r2=>
 Let ((cond (cond (cond r1 r2 false) (decide ((-205888)<=t.Zg)) false) (decide (t.Zg<205888)) false)) fun x3=>
 x3
def qK (b:Body):Bool:=
 Let (Yx b.jX (16777216)) fun r1=>
 Let (jO b.jm ((-4194304)) (4194304)) fun r2=>
 Let ((cond r1 r2 false)) fun x3=>
 Let (Yx b.qu (536870911)) fun r4=>
 Let (jO b.Yq ((-536870911)) (536870911)) fun r5=>
 Let ((cond r4 r5 false)) fun x6=>
 Let (jO b.jR (0) (65536)) fun r7=>
 Let (jO b.jJ (0) (65536)) fun r8=>
 Let ((cond r7 r8 false)) fun x9=>
 Let (jO b.jW ((-262144)) (262144)) fun r10=>
 Let (jO b.ID (1) (1099511627776)) fun r11=>
 Let (yJ b.Transform) fun r12=>
 Let (jO b.JC (0) (1048576)) fun r13=>
 Let ((cond (cond (cond (cond (cond (cond r11 r12 false) x3 false) x6 false) x9 false) r10 false) r13 false)) fun x14=>
 x14
def yr (s:Shape):Bool:=
 Let ((s.Kind==1)) fun x1=>
 if x1=true then
  Let ((((s.jg).length:Int)==1)) fun x2=>
  x2
 else
  Let ((s.Kind==2)) fun x3=>
  if x3=true then
   Let ((((s.jg).length:Int)==2)) fun x4=>
   x4
  else
   Let ((cond (decide (3<=((s.jg).length:Int))) (decide (((s.jg).length:Int)<=8)) false)) fun x5=>
   x5
def yw (s:List Vec)(f:Vec->Option Bool)(kj1:Option Int):Nat->Int->Option Int
 |0,_=>none
 |n + 1,v1=>
  if(decide (v1<((s).length:Int)))=true then
   Chk (0<=v1/\v1<((s).length:Int)) <|
   Bind (f (ix s v1)) fun r3=>
   if r3=true then
    some v1
   else
    Let ((w64 (v1+1))) fun x4=>
    (yw s f kj1 n) x4
  else
   kj1
def Yi:Option Int:=
 some (-1)
def QJ (s:List Vec)(f:Vec->Option Bool):Option Int:=
 yw s f Yi fuel 0
def JQ (s:List Vec)(f:Vec->Option Bool):Option Bool:=
 Bind (QJ s f) fun r1=>
 Let ((decide (0<=r1))) fun x2=>
 some x2
def JW (n_0:Int):Bool:=
 Let ((cond (decide (n_0<(-1048576))) true (decide (1048576<n_0)))) fun x1=>
 x1
def YF (v_0:Vec):Bool:=
 Let (JW v_0.X) fun r1=>
 Let (JW v_0.Y) fun r2=>
 Let ((cond r1 true r2)) fun x3=>
 x3
def Jn (x_0:Int):Int:=
 Let ((min (max x_0 (-536870911)) 536870911)) fun x1=>
 x1
def zC (a:Int)(b:Int):Int:=
 Let (Jn a) fun r1=>
 Let (Jn b) fun r2=>
 Let (Jn (w64 (r1 - r2))) fun r3=>
 r3
def ZL (a:Vec)(b:Vec):Vec:=
 Let (zC a.X b.X) fun r1=>
 Let (zC a.Y b.Y) fun r2=>
 Let ((⟨r1,r2⟩:Vec)) fun x3=>
 x3
def JB (v_0:Vec):Vec:=
 Let (Jn v_0.X) fun r1=>
 Let (Jn v_0.Y) fun r2=>
 Let ((⟨r1,r2⟩:Vec)) fun x3=>
 x3
def JF (a:Vec)(b:Vec):Int:=
 Let (JB a) fun r1=>
 Let (JB b) fun r2=>
 Let (r1) fun x3=>
 Let (r2) fun x4=>
 Let ((w64 (x4.X - x3.X))) fun x5=>
 Let ((w64 (x4.Y - x3.Y))) fun x6=>
 Let ((w64 ((w64 (x5*x5))+(w64 (x6*x6))))) fun x7=>
 x7
def ZG (v3:Int)(kn2:Int->Int->Option Int)(v4:Int):Option Int:=
 Let ((bShr .i64 v3 1)) fun x7=>
 kn2 v4 x7
def QC (n_0:Int)(kj1:Int->Option Int):Nat->Int->Int->Option Int
 |0,_,_=>none
 |n + 1,v2,v3=>
  if(decide (0<v3))=true then
   Let ((bOr .i64 v2 v3)) fun x5=>
   Let ((IntKind.u64.wrap ((IntKind.u64.wrap (x5))*(IntKind.u64.wrap (x5))))) fun x6=>
   if(decide (x6<=(IntKind.u64.wrap (n_0))))=true then
    (ZG v3 (QC n_0 kj1 n)) x5
   else
    (ZG v3 (QC n_0 kj1 n)) v2
  else
   kj1 v2
def ZF (v1:Int):Option Int:=
 some v1
def QD (n_0:Int):Option Int:=
 if(cond (decide (n_0<0)) true (decide (4611686018427387904<n_0)))=true then
  some 0
 else
  QC n_0 ZF fuel 0 2147483648
def yQ (v_0:Vec):Option Int:=
 Let (JF (⟨0,0⟩:Vec) v_0) fun r1=>
 Bind (QD r1) fun r2=>
 some r2
def yK (v_0:Vec):Bool:=
 Let ((cond (cond (cond (decide ((-1048576)<=v_0.X)) (decide (v_0.X<=1048576)) false) (decide ((-1048576)<=v_0.Y)) false) (decide (v_0.Y<=1048576)) false)) fun x1=>
 x1
def JN (points:List Vec)(kj1:Option Bool):Nat->Int->Option Bool
 |0,_=>none
 |n + 1,v1=>
  if(decide (v1<((points).length:Int)))=true then
   Chk (0<=v1/\v1<((points).length:Int)) <|
   Let ((ix points v1)) fun x3=>
   Let (yK x3) fun r4=>
   if(!r4)=true then
    some false
   else
    Let ((w64 (v1+1))) fun x5=>
    (JN points kj1 n) x5
  else
   kj1
def yX:Option Bool:=
 some true
def JI (points:List Vec):Option Bool:=
 JN points yX fuel 0
def yq (a:Vec)(b:Vec)(c_2:Vec):Int:=
 Let (JB a) fun r1=>
 Let (JB b) fun r2=>
 Let (JB c_2) fun r3=>
 Let (r1) fun x4=>
 Let (r2) fun x5=>
 Let (r3) fun x6=>
 Let ((w64 ((w64 ((w64 (x5.X - x4.X))*(w64 (x6.Y - x4.Y)))) - (w64 ((w64 (x5.Y - x4.Y))*(w64 (x6.X - x4.X))))))) fun x7=>
 Let ((min (1:Int) (max ((-1):Int) x7))) fun x8=>
 x8
def yR (jl:List Vec)(v2:Int)(kj3:Option Bool)(x4:Vec)(x6:Int):Nat->Int->Option Bool
 |0,_=>none
 |n + 1,v7=>
  if(decide (v7<((jl).length:Int)))=true then
   Chk (0<=v7/\v7<((jl).length:Int)) <|
   Let ((ix jl v7)) fun x9=>
   Chk (((cond (v7 != v2) (v7 != x6) false)==true)=true->0<=x6/\x6<((jl).length:Int)) <|
   Let (yq x4 (ix jl x6) x9) fun r11=>
   if(cond (cond (v7 != v2) (v7 != x6) false) (r11 != 1) false)=true then
    some false
   else
    Let ((w64 (v7+1))) fun x12=>
    (yR jl v2 kj3 x4 x6 n) x12
  else
   kj3
def ZX (v2:Int)(kn2:Int->Option Bool):Option Bool:=
 Let ((w64 (v2+1))) fun x13=>
 kn2 x13
def yh (jl:List Vec)(kj1:Option Bool):Nat->Int->Option Bool
 |0,_=>none
 |n + 1,v2=>
  if(decide (v2<((jl).length:Int)))=true then
   Chk (0<=v2/\v2<((jl).length:Int)) <|
   Let ((ix jl v2)) fun x4=>
   Chk (((jl).length:Int)≠0) <|
   Let ((Int.tmod (w64 (v2+1)) ((jl).length:Int))) fun x6=>
   yR jl v2 (ZX v2 (yh jl kj1 n)) x4 x6 fuel 0
  else
   kj1
def qT:Option Bool:=
 some true
def Jp (jl:List Vec):Option Bool:=
 Bind (if((cond (decide (((jl).length:Int)<3)) true (decide (8<((jl).length:Int))))==false)=true then JI jl else some default) fun r1=>
 if(cond (cond (decide (((jl).length:Int)<3)) true (decide (8<((jl).length:Int)))) true (!r1))=true then
  some false
 else
  yh jl qT fuel 0
def yx (jl:List Vec)(kj1:Int->Option Int):Nat->Int->Int->Option Int
 |0,_,_=>none
 |n + 1,v3,v4=>
  if(decide (v4<((jl).length:Int)))=true then
   Chk (0<=v4/\v4<((jl).length:Int)) <|
   Let ((ix jl v4)) fun x6=>
   Chk (((jl).length:Int)≠0) <|
   Chk (0<=(Int.tmod (w64 (v4+1)) ((jl).length:Int))/\(Int.tmod (w64 (v4+1)) ((jl).length:Int))<((jl).length:Int)) <|
   Let (ZL (ix jl (Int.tmod (w64 (v4+1)) ((jl).length:Int))) x6) fun r9=>
   Bind (yQ r9) fun r10=>
   Let ((min v3 r10)) fun x11=>
   Let ((w64 (v4+1))) fun x12=>
   (yx jl kj1 n) x11 x12
  else
   kj1 v3
def qx (v2:Int):Option Int:=
 some v2
def Ju (jl:List Vec):Option Int:=
 Bind (Jp jl) fun r1=>
 if(!r1)=true then
  some 0
 else
  yx jl qx fuel 536870911 0
def yu (n_0:Int)(d:Int):Option Int:=
 if(cond (cond (cond (decide (d<1)) true (decide (4611686018427387904<d))) true (decide (n_0<(-4611686018427387904)))) true (decide (4611686018427387904<n_0)))=true then
  some 0
 else
  Chk (d≠0) <|
  Chk (d≠0) <|
  Let ((w64 (Int.tdiv n_0 d))) fun x3=>
  Let ((Int.tmod n_0 d)) fun x4=>
  Let ((decide ((w64 (d - x4))<=x4))) fun x5=>
  if x5=true then
   Let ((w64 (x3+1))) fun x6=>
   some x6
  else
   Let ((decide ((w64 (d+x4))<=(w64 (0 - x4))))) fun x7=>
   if x7=true then
    Let ((w64 (x3 - 1))) fun x8=>
    some x8
   else
    some x3
def zH (jl:List Vec)(x2:Vec)(kj1:List jy->Int->Option (List jy × Int)):Nat->List jy->Int->Int->Option (List jy × Int)
 |0,_,_,_=>none
 |n + 1,v5,v6,v7=>
  if(decide ((w64 (v7+1))<((jl).length:Int)))=true then
   Chk (0<=v7/\v7<((jl).length:Int)) <|
   Chk (0<=v7/\v7<((jl).length:Int)) <|
   Let ((⟨(w64 (((ix jl v7).X) - x2.X)),(w64 (((ix jl v7).Y) - x2.Y))⟩:Vec)) fun x10=>
   Chk (0<=(w64 (v7+1))/\(w64 (v7+1))<((jl).length:Int)) <|
   Chk (0<=(w64 (v7+1))/\(w64 (v7+1))<((jl).length:Int)) <|
   Let ((⟨(w64 (((ix jl (w64 (v7+1))).X) - x2.X)),(w64 (((ix jl (w64 (v7+1))).Y) - x2.Y))⟩:Vec)) fun x13=>
   Bind (yu (w64 ((w64 (x10.X*x13.Y)) - (w64 (x10.Y*x13.X)))) (65536)) fun r14=>
   Chk (((v5).length+(([(⟨x10,x13,r14⟩:jy)]:List jy)).length)*40<=140737488355328) <|
   Let (v5++([(⟨x10,x13,r14⟩:jy)]:List jy)) fun x16=>
   Let ((w64 (v6+r14))) fun x17=>
   Let ((w64 (v7+1))) fun x18=>
   (zH jl x2 kj1 n) x16 x17 x18
  else
   kj1 v5 v6
def Ko (v3:List jy)(v4:Int):Option (List jy × Int):=
 some (v3,v4)
def QB (jl:List Vec):Option (List jy × Int):=
 Chk (0<=(0:Int)/\0<((jl).length:Int)) <|
 Let ((ix jl 0)) fun x2=>
 zH jl x2 Ko fuel ([]:List jy) 0 1
def qF (jl:List Vec):Option Int:=
 Bind (Jp jl) fun r1=>
 if(!r1)=true then
  some 0
 else
  Bind (QB jl) fun r2=>
  Bind (yu r2.2 (2)) fun r3=>
  some r3
def QX (s:Shape)(v5:Bool):Option Int:=
 if v5=true then
  some 6
 else
  Chk (((s.Kind==2)==true)=true->0<=(1:Int)/\1<((s.jg).length:Int)) <|
  Chk (((s.Kind==2)==true)=true->0<=(0:Int)/\0<((s.jg).length:Int)) <|
  Let (ZL (ix s.jg 1) (ix s.jg 0)) fun r10=>
  Bind (if((s.Kind==2)==true)=true then yQ r10 else some default) fun r11=>
  Let ((cond (s.Kind==2) (decide (r11<4096)) false)) fun x12=>
  if x12=true then
   some 12
  else
   Bind (if((s.Kind==3)==true)=true then Jp s.jg else some default) fun r13=>
   Bind (if(((s.Kind==3)==true)&&((!r13)==false))=true then Ju s.jg else some default) fun r14=>
   Bind (if(((s.Kind==3)==true)&&((cond (!r13) true (decide (r14<4096)))==false))=true then qF s.jg else some default) fun r15=>
   Let ((cond (s.Kind==3) (cond (cond (!r13) true (decide (r14<4096))) true (decide (r15<256))) false)) fun x16=>
   if x16=true then
    some 12
   else
    some 0
def Yf (s : Shape):Option Int:=
 Let ((cond (decide (s.Kind<1)) true (decide (3<s.Kind)))) fun x1=>
 if x1=true then
  some 10
 else
  Let (yr s) fun r2=>
  Let ((!r2)) fun x3=>
  if x3=true then
   some 11
  else
   Bind (JQ s.jg ((fun(y0:Vec)=>some (YF y0)))) fun r4=>
   if r4=true then
    some 6
   else
    Let ((cond (s.Kind==3) (s.yn != 0) false)) fun x6=>
    if x6=true then
     (QX s) x6
    else
     Let ((cond (s.Kind != 3) (cond (decide (s.yn<2048)) true (decide (524288<s.yn))) false)) fun x7=>
     (QX s) x7
def Jw (f:jT):Option Int:=
 Bind (Yf f.Shape) fun r1=>
 if(r1 != 0)=true then
  some r1
 else
  Let (jO f.YN (0) (262144)) fun r2=>
  Let (jO f.yA (0) (131072)) fun r3=>
  Let (jO f.Je (0) (65536)) fun r4=>
  Let ((cond (cond r2 r3 false) r4 false)) fun x5=>
  Let (jO f.Category (0) (65535)) fun r6=>
  Let (jO f.Mask (0) (65535)) fun r7=>
  Let (jO f.Ki ((-32)) (32)) fun r8=>
  Let ((cond (cond r6 r7 false) r8 false)) fun x9=>
  if(cond (!x5) true (!x9))=true then
   some 6
  else
   some 0
def qX (b:Body):Bool:=
 Let ((cond (!Vec.beq b.jX (⟨0,0⟩:Vec)) true (b.jm != 0))) fun x1=>
 x1
def yL (b:Body):Bool:=
 Let ((cond (!Vec.beq b.qu (⟨0,0⟩:Vec)) true (b.Yq != 0))) fun x1=>
 Let (qX b) fun r2=>
 Let ((cond (b.Kind==1) (cond r2 true x1) false)) fun x3=>
 if x3=true then
  false
 else
  Let ((cond (b.Kind != 3) (cond b.qe true b.QH) false)) fun x4=>
  if x4=true then
   false
  else
   Let (qX b) fun r5=>
   Let ((cond (!b.qe) true (!r5))) fun x6=>
   x6
def Qk (b:Body)(kj1:Option Int):Nat->Int->Option Int
 |0,_=>none
 |n + 1,v2=>
  if(decide (v2<((b.jf).length:Int)))=true then
   Chk (0<=v2/\v2<((b.jf).length:Int)) <|
   Let ((ix b.jf v2)) fun x4=>
   Bind (Jw x4) fun r5=>
   if(r5 != 0)=true then
    some 13
   else
    Let ((w64 (v2+1))) fun x6=>
    (Qk b kj1 n) x6
  else
   kj1
def Ql (b:Body):Option Int:=
 Let (yL b) fun r7=>
 if(!r7)=true then
  some 14
 else
  some 0
def YS (b:Body):Option Int:=
 if(cond (cond (b.Kind != 1) (b.Kind != 2) false) (b.Kind != 3) false)=true then
  some 10
 else
  Let (qK b) fun r1=>
  if(!r1)=true then
   some 6
  else
   if(decide (4<((b.jf).length:Int)))=true then
    some 11
   else
    Qk b (Ql b) fuel 0
def YP (x_0:Int)(low:Int)(high:Int):Bool:=
 Let ((cond (decide (low<=x_0)) (decide (x_0<=high)) false)) fun x1=>
 x1
def ku (x_0:Int):Bool:=
 Let ((cond (decide (x_0<(-268435456))) true (decide (268435456<x_0)))) fun x1=>
 x1
def vq (p:Transform):Bool:=
 Let (ku p.Position.X) fun r1=>
 Let (ku p.Position.Y) fun r2=>
 Let ((cond (cond (cond (!r1) (!r2) false) (decide ((-205888)<=p.Zg)) false) (decide (p.Zg<205888)) false)) fun x3=>
 x3
def kq (b:Body):Bool:=
 Let (YP b.ID (1) (1099511627776)) fun r1=>
 Let (vq b.Transform) fun r2=>
 Let (YP b.jX.X ((-16777216)) (16777216)) fun r3=>
 Let (YP b.jX.Y ((-16777216)) (16777216)) fun r4=>
 Let (YP b.jm ((-4194304)) (4194304)) fun r5=>
 if(cond (cond (cond (cond (!r1) true (!r2)) true (!r3)) true (!r4)) true (!r5))=true then
  false
 else
  Let (YP b.qu.X ((-536870911)) (536870911)) fun r6=>
  Let (YP b.qu.Y ((-536870911)) (536870911)) fun r7=>
  Let (YP b.Yq ((-536870911)) (536870911)) fun r8=>
  if(cond (cond (!r6) true (!r7)) true (!r8))=true then
   false
  else
   Let (YP b.jR (0) (65536)) fun r9=>
   Let (YP b.jJ (0) (65536)) fun r10=>
   Let (YP b.jW ((-262144)) (262144)) fun r11=>
   Let (YP b.JC (0) (1048576)) fun r12=>
   Let ((cond (cond (cond r9 r10 false) r11 false) r12 false)) fun x13=>
   x13
def Qr (s:Shape):Bool:=
 if(s.Kind==3)=true then
  Let ((cond (decide (3<=((s.jg).length:Int))) (decide (((s.jg).length:Int)<=8)) false)) fun x1=>
  x1
 else
  Let ((((s.jg).length:Int)==s.Kind)) fun x2=>
  x2
def Kv (x_0:Int)(m:Int):Bool:=
 Let ((cond (decide ((w64 (0 - m))<=x_0)) (decide (x_0<=m)) false)) fun x1=>
 x1
def YQ (x_0:Int):Int:=
 if(decide (536870911<x_0))=true then
  536870911
 else
  if(decide (x_0<(-536870911)))=true then
   (-536870911)
  else
   x_0
def VC (a:Int)(b:Int):Int:=
 Let (YQ a) fun r1=>
 Let (YQ b) fun r2=>
 Let (YQ (w64 (r1 - r2))) fun r3=>
 r3
def VB (a:Vec)(b:Vec):Vec:=
 Let (VC a.X b.X) fun r1=>
 Let (VC a.Y b.Y) fun r2=>
 Let ((⟨r1,r2⟩:Vec)) fun x3=>
 x3
def YZ (v_0:Vec):Vec:=
 Let (YQ v_0.X) fun r1=>
 Let (YQ v_0.Y) fun r2=>
 Let ((⟨r1,r2⟩:Vec)) fun x3=>
 x3
def qm (n_0:Int):Bool:=
 Let ((cond (decide (4611686018427387904<n_0)) true (decide (n_0<(-4611686018427387904))))) fun x1=>
 x1
def ZB (v4:Int)(kn2:Int->Int->Option Int)(v5:Int):Option Int:=
 Let ((w64 (Int.tdiv v4 2))) fun x9=>
 kn2 v5 x9
def QA (n_0:Int)(kj1:Int->Option Int):Nat->Int->Int->Option Int
 |0,_,_=>none
 |n + 1,v3,v4=>
  if(decide (0<v4))=true then
   Chk ((w64 (v3+v4))≠0) <|
   Let ((decide ((w64 (v3+v4))<=(w64 (Int.tdiv n_0 (w64 (v3+v4))))))) fun x7=>
   if x7=true then
    Let ((w64 (v3+v4))) fun x8=>
    (ZB v4 (QA n_0 kj1 n)) x8
   else
    (ZB v4 (QA n_0 kj1 n)) v3
  else
   kj1 v3
def Km (v2:Int):Option Int:=
 some v2
def vu (n_0:Int):Option Int:=
 Let (qm n_0) fun r1=>
 if(cond (decide (n_0<0)) true r1)=true then
  some 0
 else
  QA n_0 Km fuel 0 2147483648
def zk (v_0:Vec):Option Int:=
 Let (YZ v_0) fun r1=>
 Let (r1) fun x2=>
 Bind (vu (w64 ((w64 (x2.X*x2.X))+(w64 (x2.Y*x2.Y))))) fun r3=>
 some r3
def kr (v_0:Vec):Bool:=
 Let ((cond (cond (cond (decide ((-1048576)<=v_0.X)) (decide (v_0.X<=1048576)) false) (decide ((-1048576)<=v_0.Y)) false) (decide (v_0.Y<=1048576)) false)) fun x1=>
 x1
def QZ (a:Vec)(b:Vec)(c_2:Vec):Int:=
 Let (YZ a) fun r1=>
 Let (r1) fun x2=>
 Let (YZ b) fun r3=>
 Let (r3) fun x4=>
 Let (YZ c_2) fun r5=>
 Let (r5) fun x6=>
 Let ((w64 ((w64 ((w64 (x4.X - x2.X))*(w64 (x6.Y - x2.Y)))) - (w64 ((w64 (x4.Y - x2.Y))*(w64 (x6.X - x2.X))))))) fun x7=>
 if(decide (0<x7))=true then
  1
 else
  if(decide (x7<0))=true then
   (-1)
  else
   0
def yW (jl:List Vec)(kj1:Option Bool):Nat->Int->Option Bool
 |0,_=>none
 |n + 1,v1=>
  if(decide (v1<((jl).length:Int)))=true then
   Chk (0<=v1/\v1<((jl).length:Int)) <|
   Let (kr (ix jl v1)) fun r3=>
   if(!r3)=true then
    some false
   else
    Let ((w64 (v1+1))) fun x4=>
    (yW jl kj1 n) x4
  else
   kj1
def YG (jl:List Vec)(v5:Int)(kj5:Option Bool)(x7:Int):Nat->Int->Option Bool
 |0,_=>none
 |n + 1,v8=>
  if(decide (v8<((jl).length:Int)))=true then
   Chk (((cond (v8 != v5) (v8 != x7) false)==true)=true->0<=v5/\v5<((jl).length:Int)) <|
   Chk (((cond (v8 != v5) (v8 != x7) false)==true)=true->0<=x7/\x7<((jl).length:Int)) <|
   Chk (((cond (v8 != v5) (v8 != x7) false)==true)=true->0<=v8/\v8<((jl).length:Int)) <|
   Let (QZ (ix jl v5) (ix jl x7) (ix jl v8)) fun r12=>
   if(cond (cond (v8 != v5) (v8 != x7) false) (r12 != 1) false)=true then
    some false
   else
    Let ((w64 (v8+1))) fun x13=>
    (YG jl v5 kj5 x7 n) x13
  else
   kj5
def kZ (v5:Int)(kn4:Int->Option Bool):Option Bool:=
 Let ((w64 (v5+1))) fun x14=>
 kn4 x14
def yV (jl:List Vec)(kj3:Option Bool):Nat->Int->Option Bool
 |0,_=>none
 |n + 1,v5=>
  if(decide (v5<((jl).length:Int)))=true then
   Chk (((jl).length:Int)≠0) <|
   Let ((Int.tmod (w64 (v5+1)) ((jl).length:Int))) fun x7=>
   YG jl v5 (kZ v5 (yV jl kj3 n)) x7 fuel 0
  else
   kj3
def QY:Option Bool:=
 some true
def YH (jl:List Vec):Option Bool:=
 yV jl QY fuel 0
def Qz (jl:List Vec):Option Bool:=
 if(cond (decide (((jl).length:Int)<3)) true (decide (8<((jl).length:Int))))=true then
  some false
 else
  yW jl (YH jl) fuel 0
def YY (v4:Int)(kn2:Int->Int->Option Int)(v5:Int):Option Int:=
 Let ((w64 (v4+1))) fun x11=>
 kn2 v5 x11
def Jh (jl:List Vec)(kj1:Int->Option Int):Nat->Int->Int->Option Int
 |0,_,_=>none
 |n + 1,v3,v4=>
  if(decide (v4<((jl).length:Int)))=true then
   Chk (((jl).length:Int)≠0) <|
   Chk (0<=(Int.tmod (w64 (v4+1)) ((jl).length:Int))/\(Int.tmod (w64 (v4+1)) ((jl).length:Int))<((jl).length:Int)) <|
   Chk (0<=v4/\v4<((jl).length:Int)) <|
   Let (VB (ix jl (Int.tmod (w64 (v4+1)) ((jl).length:Int))) (ix jl v4)) fun r9=>
   Bind (zk r9) fun r10=>
   if(cond (decide (v3<0)) true (decide (r10<v3)))=true then
    (YY v4 (Jh jl kj1 n)) r10
   else
    (YY v4 (Jh jl kj1 n)) v3
  else
   kj1 v3
def JM (v2:Int):Option Int:=
 some v2
def Qs (jl:List Vec):Option Int:=
 Bind (Qz jl) fun r1=>
 if(!r1)=true then
  some 0
 else
  Jh jl JM fuel (-1) 0
def qN (n_0:Int)(v8:Int):Option Int:=
 if(decide (n_0<0))=true then
  Let ((w64 (0 - v8))) fun x10=>
  some x10
 else
  some v8
def za (n_0:Int)(d:Int)(v3:Int):Option Int:=
 Chk (d≠0) <|
 Let ((w64 (Int.tdiv v3 d))) fun x6=>
 Let ((w64 (v3 - (w64 (x6*d))))) fun x7=>
 if(decide ((w64 (d - x7))<=x7))=true then
  Let ((w64 (x6+1))) fun x9=>
  (qN n_0) x9
 else
  (qN n_0) x6
def zG (n_0:Int)(d:Int):Option Int:=
 Let (qm d) fun r1=>
 Let (qm n_0) fun r2=>
 if(cond (cond (decide (d<1)) true r1) true r2)=true then
  some 0
 else
  if(decide (n_0<0))=true then
   Let ((w64 (0 - n_0))) fun x4=>
   (za n_0 d) x4
  else
   (za n_0 d) n_0
def vp (v_0:List Vec)(i:Int):Option Int:=
 Chk (0<=i/\i<((v_0).length:Int)) <|
 Chk (0<=(0:Int)/\0<((v_0).length:Int)) <|
 Chk (0<=i/\i<((v_0).length:Int)) <|
 Chk (0<=(0:Int)/\0<((v_0).length:Int)) <|
 Let ((⟨(w64 (((ix v_0 i).X) - ((ix v_0 0).X))),(w64 (((ix v_0 i).Y) - ((ix v_0 0).Y)))⟩:Vec)) fun x5=>
 Chk (0<=(w64 (i+1))/\(w64 (i+1))<((v_0).length:Int)) <|
 Chk (0<=(0:Int)/\0<((v_0).length:Int)) <|
 Chk (0<=(w64 (i+1))/\(w64 (i+1))<((v_0).length:Int)) <|
 Chk (0<=(0:Int)/\0<((v_0).length:Int)) <|
 Let ((⟨(w64 (((ix v_0 (w64 (i+1))).X) - ((ix v_0 0).X))),(w64 (((ix v_0 (w64 (i+1))).Y) - ((ix v_0 0).Y)))⟩:Vec)) fun x10=>
 Bind (zG (w64 ((w64 (x5.X*x10.Y)) - (w64 (x5.Y*x10.X)))) (65536)) fun r11=>
 some r11
def Zo (jl:List Vec)(kj1:Int->Option Int):Nat->Int->Int->Option Int
 |0,_,_=>none
 |n + 1,v3,v4=>
  if(decide ((w64 (v4+1))<((jl).length:Int)))=true then
   Bind (vp jl v4) fun r5=>
   Let ((w64 (v3+r5))) fun x6=>
   Let ((w64 (v4+1))) fun x7=>
   (Zo jl kj1 n) x6 x7
  else
   kj1 v3
def kt (v2:Int):Option Int:=
 Bind (zG v2 (2)) fun r8=>
 some r8
def VA (jl:List Vec):Option Int:=
 Bind (Qz jl) fun r1=>
 if(!r1)=true then
  some 0
 else
  Zo jl kt fuel 0 1
def yT (s:Shape)(kj1:Option Int):Nat->Int->Option Int
 |0,_=>none
 |n + 1,v2=>
  if(decide (v2<((s.jg).length:Int)))=true then
   Chk (0<=v2/\v2<((s.jg).length:Int)) <|
   Let (Kv ((ix s.jg v2).X) (1048576)) fun r4=>
   Chk (((!r4)==false)=true->0<=v2/\v2<((s.jg).length:Int)) <|
   Let (Kv ((ix s.jg v2).Y) (1048576)) fun r6=>
   if(cond (!r4) true (!r6))=true then
    some 6
   else
    Let ((w64 (v2+1))) fun x7=>
    (yT s kj1 n) x7
  else
   kj1
def yU (s:Shape):Option Int:=
 if(cond (cond (s.Kind==3) (s.yn != 0) false) true (cond (s.Kind != 3) (cond (decide (s.yn<2048)) true (decide (524288<s.yn))) false))=true then
  some 6
 else
  Chk (((s.Kind==2)==true)=true->0<=(1:Int)/\1<((s.jg).length:Int)) <|
  Chk (((s.Kind==2)==true)=true->0<=(0:Int)/\0<((s.jg).length:Int)) <|
  Let (VB (ix s.jg 1) (ix s.jg 0)) fun r10=>
  Bind (if((s.Kind==2)==true)=true then zk r10 else some default) fun r11=>
  if(cond (s.Kind==2) (decide (r11<4096)) false)=true then
   some 12
  else
   Bind (if((s.Kind==3)==true)=true then Qz s.jg else some default) fun r12=>
   Bind (if(((s.Kind==3)==true)&&((!r12)==false))=true then Qs s.jg else some default) fun r13=>
   Bind (if(((s.Kind==3)==true)&&((cond (!r12) true (decide (r13<4096)))==false))=true then VA s.jg else some default) fun r14=>
   if(cond (s.Kind==3) (cond (cond (!r12) true (decide (r13<4096))) true (decide (r14<256))) false)=true then
    some 12
   else
    some 0
def ZA (s:Shape):Option Int:=
 if(cond (decide (s.Kind<1)) true (decide (3<s.Kind)))=true then
  some 10
 else
  Let (Qr s) fun r1=>
  if(!r1)=true then
   some 11
  else
   yT s (yU s) fuel 0
def YX (f:jT):Option Int:=
 Bind (ZA f.Shape) fun r1=>
 if(r1 != 0)=true then
  some r1
 else
  Let (YP f.YN (0) (262144)) fun r2=>
  Let (YP f.yA (0) (131072)) fun r3=>
  Let (YP f.Je (0) (65536)) fun r4=>
  Let (YP f.Category (0) (65535)) fun r5=>
  Let (YP f.Mask (0) (65535)) fun r6=>
  Let (YP f.Ki ((-32)) (32)) fun r7=>
  if(cond (cond (cond (cond (cond (!r2) true (!r3)) true (!r4)) true (!r5)) true (!r6)) true (!r7))=true then
   some 6
  else
   some 0
def qL (b:Body)(kj1:Option Int):Nat->Int->Option Int
 |0,_=>none
 |n + 1,v2=>
  if(decide (v2<((b.jf).length:Int)))=true then
   Chk (0<=v2/\v2<((b.jf).length:Int)) <|
   Bind (YX (ix b.jf v2)) fun r4=>
   if(r4 != 0)=true then
    some 13
   else
    Let ((w64 (v2+1))) fun x5=>
    (qL b kj1 n) x5
  else
   kj1
def qM (b:Body):Option Int:=
 Let ((cond (!Vec.beq b.jX (⟨0,0⟩:Vec)) true (b.jm != 0))) fun x6=>
 Let ((cond (!Vec.beq b.qu (⟨0,0⟩:Vec)) true (b.Yq != 0))) fun x7=>
 if(cond (cond (cond (b.Kind==1) (cond x6 true x7) false) true (cond (b.Kind != 3) (cond b.qe true b.QH) false)) true (cond b.qe x6 false))=true then
  some 14
 else
  some 0
def Kl (b:Body):Option Int:=
 if(cond (cond (b.Kind != 1) (b.Kind != 2) false) (b.Kind != 3) false)=true then
  some 10
 else
  Let (kq b) fun r1=>
  if(!r1)=true then
   some 6
  else
   if(decide (4<((b.jf).length:Int)))=true then
    some 11
   else
    qL b (qM b) fuel 0
def yG (a:List Vec)(b:List Vec)(kj1:Option Bool):Nat->Int->Option Bool
 |0,_=>none
 |n + 1,v1=>
  if(decide (v1<((a).length:Int)))=true then
   Chk (0<=v1/\v1<((a).length:Int)) <|
   Chk (0<=v1/\v1<((b).length:Int)) <|
   if(!Vec.beq (ix a v1) (ix b v1))=true then
    some false
   else
    Let ((w64 (v1+1))) fun x4=>
    (yG a b kj1 n) x4
  else
   kj1
def qg:Option Bool:=
 some true
def Zb (a:List Vec)(b:List Vec):Option Bool:=
 if(((a).length:Int) != ((b).length:Int))=true then
  some false
 else
  yG a b qg fuel 0
def vo (a:Shape)(b:Shape):Option Bool:=
 Bind (if((cond (a.Kind==b.Kind) (a.yn==b.yn) false)==true)=true then Zb a.jg b.jg else some default) fun r1=>
 Let ((cond (cond (a.Kind==b.Kind) (a.yn==b.yn) false) r1 false)) fun x2=>
 some x2
def Qq (a:jT)(b:jT):Option Bool:=
 Bind (vo a.Shape b.Shape) fun r1=>
 Let ((cond (cond (cond (cond (cond (cond (cond r1 (a.YN==b.YN) false) (a.yA==b.yA) false) (a.Je==b.Je) false) (a.kW==b.kW) false) (a.Category==b.Category) false) (a.Mask==b.Mask) false) (a.Ki==b.Ki) false)) fun x2=>
 some x2
def qD (a:Body)(b:Body)(kj1:Option Bool):Nat->Int->Option Bool
 |0,_=>none
 |n + 1,v1=>
  if(cond (decide (v1<((a.jf).length:Int))) (decide (v1<((b.jf).length:Int))) false)=true then
   Chk (0<=v1/\v1<((a.jf).length:Int)) <|
   Chk (0<=v1/\v1<((b.jf).length:Int)) <|
   Bind (Qq (ix a.jf v1) (ix b.jf v1)) fun r4=>
   if(!r4)=true then
    some false
   else
    Let ((w64 (v1+1))) fun x5=>
    (qD a b kj1 n) x5
  else
   kj1
def qE (a:Body)(b:Body):Option Bool:=
 if(cond (cond (cond (cond (cond (cond (a.ID != b.ID) true (a.Kind != b.Kind)) true (!Transform.beq a.Transform b.Transform)) true (!Vec.beq a.jX b.jX)) true (a.jm != b.jm)) true (!Vec.beq a.qu b.qu)) true (a.Yq != b.Yq))=true then
  some false
 else
  Let ((cond (cond (cond (cond (cond (cond (cond (a.jR==b.jR) (a.jJ==b.jJ) false) (a.jW==b.jW) false) (a.QH==b.QH) false) (a.Jf==b.Jf) false) (a.QG==b.QG) false) (a.qe==b.qe) false) (a.JC==b.JC) false)) fun x6=>
  some x6
def wc (a:Body)(b:Body):Option Bool:=
 if(((a.jf).length:Int) != ((b.jf).length:Int))=true then
  some false
 else
  qD a b (qE a b) fuel 0
end
section
open GoForm
theorem jbe {x y:Int}(M N:Int)(hx : -M<=x/\x<=M)(hy : -N<=y/\y<=N) : -(M*N)<=x*y/\x*y<=M*N:=by
 have h1:x.natAbs<=M.natAbs:=by omega
 have h2:y.natAbs<=N.natAbs:=by omega
 have h3:=Nat.mul_le_mul h1 h2
 rw[<-Int.natAbs_mul,<-Int.natAbs_mul]at h3
 have h4:0<=M*N:=Int.mul_nonneg (by omega) (by omega)
 omega
def sat (x:Int):Int:=min (max x (-536870911)) 536870911
theorem zM (x:Int) : -536870911<=sat x/\sat x<=536870911:=by unfold sat;omega
theorem jaJ {x:Int}(h : -536870911<=x/\x<=536870911):sat x=x:=by unfold sat;omega
theorem Mo (a b:Int) : -288230375077969921<=sat a*sat b/\sat a*sat b<=288230375077969921:=by
 have:=jbe 536870911 536870911 (zM a) (zM b)
 omega
def addS (a b:Int):Int:=sat (sat a+sat b)
def jj3 (a b:Int):Int:=sat (sat a - sat b)
def rdv (n d:Int):Int:=
 if d<1\/4611686018427387904<d\/n < -4611686018427387904\/4611686018427387904<n then 0 else
 if d - Int.tmod n d<=Int.tmod n d then Int.tdiv n d+1 else if d+Int.tmod n d <= - Int.tmod n d then Int.tdiv n d - 1 else Int.tdiv n d
theorem tdm (n d:Int)(hd:0<d):d*Int.tdiv n d+Int.tmod n d=n /\ -d<Int.tmod n d/\Int.tmod n d<d/\(0<=n->0<=Int.tmod n d/\0<=Int.tdiv n d/\Int.tdiv n d<=n)/\(n<=0->Int.tmod n d<=0/\n<=Int.tdiv n d/\Int.tdiv n d<=0):=by
 have pos:∀n:Int,0<=n->0<=Int.tmod n d/\Int.tmod n d<d/\0<=Int.tdiv n d/\Int.tdiv n d<=n:=by
  intro n hn
  refine⟨Int.tmod_nonneg d hn,Int.tmod_lt_of_pos n hd,Int.tdiv_nonneg hn (by omega),?_⟩
  rw[Int.tdiv_eq_ediv_of_nonneg hn]
  exact Int.ediv_le_self d hn
 refine⟨Int.mul_tdiv_add_tmod n d,?_⟩
 by_cases h:0<=n
 ·have:=pos n h
  refine⟨by omega,by omega,fun _=>⟨by omega,by omega,by omega⟩,fun h0=>?_⟩
  have:n=0:=by omega
  subst this;simp
 ·have:=pos (-n) (by omega)
  rw[Int.neg_tmod,Int.neg_tdiv]at this
  exact⟨by omega,by omega,fun _=>by omega,fun _=>by omega⟩
theorem VH (n d:Int):yu n d=some (rdv n d):=by
 unfold yu rdv
 simp only[Let_eq,jE,Bool.or_eq_true,decide_eq_true_eq]
 by_cases h:((d<1\/4611686018427387904<d)\/n < -4611686018427387904)\/4611686018427387904<n
 ·rw[if_pos h,if_pos (by omega)]
 have h':¬ (d<1\/4611686018427387904<d\/n < -4611686018427387904\/4611686018427387904<n):=by omega
 rw[if_neg h,if_neg h',ju (by omega),ju (by omega)]
 obtain⟨h1,h2,h3,h4,h5⟩:=tdm n d (by omega)
 have hq : -4611686018427387904<=Int.tdiv n d/\Int.tdiv n d<=4611686018427387904:=by
  by_cases hn:0<=n
  ·have:=h4 hn;omega
  ·have:=h5 (by omega);omega
 generalize Int.tdiv n d=q at*
 generalize Int.tmod n d=r at*
 rw[Jo q (by omega),Jo (d - r) (by omega),Jo (d+r) (by omega),Jo (0 - r) (by omega),Jo (q+1) (by omega),Jo (q - 1) (by omega)]
 by_cases c1:d - r<=r
 ·rw[if_pos c1,if_pos c1]
 rw[if_neg c1,if_neg c1]
 by_cases c2:d+r<=0 - r
 ·rw[if_pos c2,if_pos (by omega)]
 ·rw[if_neg c2,if_neg (by omega)]
theorem jfI (n d:Int):rdv (-n) d = - rdv n d:=by
 unfold rdv
 by_cases h:d<1\/4611686018427387904<d\/n < -4611686018427387904\/4611686018427387904<n
 ·rw[if_pos h,if_pos (by omega)];rfl
 rw[if_neg h,if_neg (by omega),Int.neg_tmod,Int.neg_tdiv]
 obtain⟨h1,h2,h3,h4,h5⟩:=tdm n d (by omega)
 generalize Int.tdiv n d=q at*
 generalize Int.tmod n d=r at*
 split <;> split <;> (try split) <;> omega
theorem rdv_le {n d:Int}(hn:0<=n):0<=rdv n d/\rdv n d<=n:=by
 unfold rdv
 split
 ·omega
 obtain⟨h1,h2,h3,h4,h5⟩:=tdm n d (by omega)
 have h4:=h4 hn
 split
 ·rename_i hh c
  by_cases hq:Int.tdiv n d<n
  ·omega
  ·have hq2:Int.tdiv n d=n:=by omega
   rw[hq2]at h1
   by_cases hd:d=1
   ·omega
   ·have:2*n<=d*n:=Int.mul_le_mul_of_nonneg_right (by omega) hn
    omega
 ·rw[if_neg (by omega)];omega
theorem xE (x:Int):Jn x=sat x:=rfl
theorem jby (a b:Int):zC a b=jj3 a b:=by
 unfold zC;simp only[Let_eq,xE]
 have:=zM a;have:=zM b
 rw[Jo _ (by omega)];rfl
def jez (n:Int):Nat->Int->Int
 |0,v=>v
 |k+1,v=>if(v+2 ^ k)*(v+2 ^ k)<=n then jez n k (v+2 ^ k)else jez n k v
def isq (n:Int):Int:=if n<0\/4611686018427387904<n then 0 else jez n 32 0
def jah (k:Nat):Int:=match k with|0=>0|k+1=>2 ^ k
theorem jcA (n:Int):∀(k:Nat) (v:Int),0<=v->v*v<=n->0<=jez n k v/\jez n k v*jez n k v<=n/\jez n k v<v+2 ^ k
 |0,v,h,h2=>⟨h,h2,by simp[jez];omega⟩
 |k + 1,v,h,h2=>by
  have hp:(0:Int)<2 ^ k:=Int.pow_pos (by omega)
  unfold jez
  rw[Int.pow_succ]
  split
  ·rename_i c
   have:=jcA n k (v+2 ^ k) (by omega) c
   omega
  ·have:=jcA n k v h h2
   omega
theorem isq_bd (n:Int):0<=isq n/\isq n<4294967296/\(0<=n->isq n*isq n<=n):=by
 unfold isq
 split
 ·omega
 ·have:=jcA n 32 0 (by omega) (by omega)
  omega
theorem jlw (k:Nat)(a:Int)(ha:0<=a)(hk:a*2 ^ (k+1)+2 ^ (k+1)<=4294967296):bOr .i64 (a*2 ^ (k+1)) (2 ^ k)=a*2 ^ (k+1)+2 ^ k:=by
 obtain⟨m,rfl⟩:=Int.eq_ofNat_of_zero_le ha
 have e1:((m:Int)*2 ^ (k+1))=((m*2 ^ (k+1):Nat):Int):=by push_cast;rfl
 have e2:((2:Int) ^ k)=((2 ^ k:Nat):Int):=by push_cast;rfl
 have e2':((2:Int) ^ (k+1))=((2 ^ (k+1):Nat):Int):=by push_cast;rfl
 rw[e1,e2']at hk
 have hlt:2 ^ k<2 ^ (k+1):=Nat.pow_lt_pow_right (by omega) (by omega)
 rw[e1,e2]
 unfold bOr
 show IntKind.i64.wrap ((BitVec.ofInt 64 ((m*2 ^ (k+1):Nat):Int)|||BitVec.ofInt 64 ((2 ^ k:Nat):Int)).toNat:Nat)=_
 rw[BitVec.toNat_or]
 have e3:(BitVec.ofInt 64 ((m*2 ^ (k+1):Nat):Int)).toNat=m*2 ^ (k+1):=by
  rw[BitVec.toNat_ofInt];omega
 have e4:(BitVec.ofInt 64 ((2 ^ k:Nat):Int)).toNat=2 ^ k:=by
  rw[BitVec.toNat_ofInt];omega
 rw[e3,e4]
 have e5:=Nat.shiftLeft_add_eq_or_of_lt hlt m
 rw[Nat.shiftLeft_eq]at e5
 rw[<-e5]
 have:=Jo ((m*2 ^ (k+1)+2 ^ k:Nat):Int) (by omega)
 rw[show IntKind.i64.wrap ((m*2 ^ (k+1)+2 ^ k:Nat):Int)=w64 ((m*2 ^ (k+1)+2 ^ k:Nat):Int)from rfl,this]
 push_cast;rfl
theorem jeN (k:Nat):bShr .i64 (2 ^ k) 1=jah k:=by
 unfold bShr
 show Int.fdiv (2 ^ k) (2 ^ 1)=_
 rw[Int.fdiv_eq_ediv_of_nonneg _ (by decide)]
 cases k with
 |zero=>rfl
 |succ k=>rw[Int.pow_succ];show _=(2:Int) ^ k;omega
theorem jgw (n:Int)(hn:0<=n/\n<=4611686018427387904)(kj:Int->Option Int):∀(k m:Nat) (a:Int),k<m->0<=a->a*2 ^ k+2 ^ k<=4294967296->
 QC n kj m (a*2 ^ k) (jah k)=kj (jez n k (a*2 ^ k))
 |k,0,a,h,_,_=>by omega
 |0,m+1,a,h,h0,h1=>by
  unfold QC
  rw[if_neg (by simp[jah])];rfl
 |k + 1,m+1,a,h,h0,h1=>by
  have hp:(0:Int)<2 ^ k:=Int.pow_pos (by omega)
  have hpos:0<=a*2 ^ (k+1):=Int.mul_nonneg h0 (Int.le_of_lt (Int.pow_pos (by omega)))
  unfold QC
  rw[show jah (k+1)=2 ^ k from rfl,if_pos (decide_eq_true hp)]
  rw[jlw k a h0 h1,Let_eq,Let_eq,pz,pz,pz]
  have hx:0<=a*2 ^ (k+1)+2 ^ k/\a*2 ^ (k+1)+2 ^ k<4294967296:=by
   rw[Int.pow_succ]at h1⊢;rw[Int.pow_succ]at hpos;omega
  have hsq:(a*2 ^ (k+1)+2 ^ k)*(a*2 ^ (k+1)+2 ^ k)<=4294967295*4294967295:=(jbe 4294967295 4294967295 (by omega) (by omega)).2
  have hsq0:0<=(a*2 ^ (k+1)+2 ^ k)*(a*2 ^ (k+1)+2 ^ k):=Int.mul_nonneg hx.1 hx.1
  rw[Int.emod_eq_of_lt hx.1 (by omega),Int.emod_eq_of_lt hsq0 (by omega),Int.emod_eq_of_lt hn.1 (by omega)]
  have ea:a*2 ^ (k+1)+2 ^ k=(2*a+1)*2 ^ k:=by rw[Int.pow_succ,Int.add_mul];rw[Int.mul_comm 2 a,Int.mul_assoc,Int.mul_comm 2];omega
  have eb:a*2 ^ (k+1)=(2*a)*2 ^ k:=by rw[Int.pow_succ,Int.mul_comm 2 a,Int.mul_assoc,Int.mul_comm 2]
  unfold jez ZG
  simp only[Let_eq,decide_eq_true_eq]
  rw[jeN]
  have h1':(2*a+1)*2 ^ k+2 ^ k<=4294967296:=by rw[<-ea];rw[Int.pow_succ]at h1⊢;omega
  have h1'':(2*a)*2 ^ k+2 ^ k<=4294967296:=by rw[<-eb];rw[Int.pow_succ]at h1⊢;omega
  by_cases c:(a*2 ^ (k+1)+2 ^ k)*(a*2 ^ (k+1)+2 ^ k)<=n
  ·rw[if_pos c,if_pos c,ea]
   exact jgw n hn kj k m (2*a+1) (by omega) (by omega) h1'
  ·rw[if_neg c,if_neg c,eb]
   exact jgw n hn kj k m (2*a) (by omega) (by omega) h1''
theorem mo (n:Int):QD n=some (isq n):=by
 unfold QD isq
 simp only[jE,Bool.or_eq_true,decide_eq_true_eq]
 by_cases h:n<0\/4611686018427387904<n
 ·rw[if_pos h,if_pos h]
 ·rw[if_neg h,if_neg h]
  have:=jgw n (by omega) ZF 32 fuel 0 (fuel_lt _ (by decide)) (by omega) (by decide)
  simpa [jah,ZF]using this
def jjg (a b:Vec):Vec:=⟨jj3 a.X b.X,jj3 a.Y b.Y⟩
def jhx (a b:Vec):Vec:=⟨addS a.X b.X,addS a.Y b.Y⟩
def satV (a:Vec):Vec:=⟨sat a.X,sat a.Y⟩
def jev (v:Vec):Int:=isq (sat v.X*sat v.X+sat v.Y*sat v.Y)
def oriV (a b c:Vec):Int:=min 1 (max (-1) ((sat b.X - sat a.X)*(sat c.Y - sat a.Y) - (sat b.Y - sat a.Y)*(sat c.X - sat a.X)))
theorem pq (a b:Vec):ZL a b=jjg a b:=by unfold ZL;simp only[Let_eq,jby];rfl
theorem wO (a:Vec):JB a=satV a:=rfl
theorem pb (a b c d:Int) : -1152921500311879684<=(sat a - sat b)*(sat c - sat d)/\(sat a - sat b)*(sat c - sat d)<=1152921500311879684:=by
 have h1:=zM a;have h2:=zM b;have h3:=zM c;have h4:=zM d
 have:=jbe (x:=sat a - sat b) (y:=sat c - sat d) 1073741822 1073741822 (by omega) (by omega)
 omega
theorem uD (a b c:Vec):yq a b c=oriV a b c:=by
 unfold yq;simp only[wO,Let_eq,satV]
 have h1:=pb b.X a.X c.Y a.Y;have h2:=pb b.Y a.Y c.X a.X
 have k1:=zM a.X;have k2:=zM a.Y;have k3:=zM b.X;have k4:=zM b.Y;have k5:=zM c.X;have k6:=zM c.Y
 rw[Jo (sat b.X - sat a.X) (by omega),Jo (sat c.Y - sat a.Y) (by omega),Jo (sat b.Y - sat a.Y) (by omega),Jo (sat c.X - sat a.X) (by omega),Jo ((sat b.X - sat a.X)*(sat c.Y - sat a.Y)) (by omega),Jo ((sat b.Y - sat a.Y)*(sat c.X - sat a.X)) (by omega),Jo _ (by omega)]
 rfl
theorem Ve (v:Vec):yQ v=some (jev v):=by
 unfold yQ JF;simp only[wO,Let_eq,satV]
 have h1:=Mo v.X v.X;have h2:=Mo v.Y v.Y
 have k1:=zM v.X;have k2:=zM v.Y
 rw[show sat 0=0 from rfl,Jo (sat v.X - 0) (by omega),Jo (sat v.Y - 0) (by omega),Int.sub_zero,Int.sub_zero,Jo (sat v.X*sat v.X) (by omega),Jo (sat v.Y*sat v.Y) (by omega),Jo _ (by omega),mo]
 rfl
end
section
open GoForm
theorem VD (x:Int):YQ x=sat x:=by
 unfold YQ sat
 simp only[decide_eq_true_eq]
 split
 ·omega
 ·split <;> omega
theorem jaY (a b:Int):VC a b=jj3 a b:=by
 unfold VC;simp only[Let_eq,VD]
 have:=zM a;have:=zM b
 rw[Jo _ (by omega)];rfl
theorem VE (n d:Int):zG n d=some (rdv n d):=by
 unfold zG qm
 simp only[Let_eq,jE,Bool.or_eq_true,decide_eq_true_eq]
 by_cases h:(d<1\/4611686018427387904<d\/d < -4611686018427387904)\/4611686018427387904<n\/n < -4611686018427387904
 ·unfold rdv;rw[if_pos h,if_pos (by omega)]
 rw[if_neg h]
 have core:∀m:Int,0<=m->m<=4611686018427387904->za n d m=qN n (rdv m d):=by
  intro m h0 h1
  unfold za rdv
  simp only[Let_eq,decide_eq_true_eq]
  obtain⟨t1,t2,t3,t4,t5⟩:=tdm m d (by omega)
  have t4:=t4 h0
  have hm:¬ (d<1\/4611686018427387904<d\/m < -4611686018427387904\/4611686018427387904<m):=by omega
  rw[if_neg hm]
  rw[ju (by omega)]
  generalize Int.tdiv m d=q at*
  generalize Int.tmod m d=r at*
  have hq:d*q=m - r:=by omega
  rw[Jo q (by omega),Int.mul_comm q d,hq,Jo (m - r) (by omega),Jo (m - (m - r)) (by omega)]
  have e:m - (m - r)=r:=by omega
  rw[e,Jo (d - r) (by omega),Jo (q+1) (by omega)]
  by_cases c:d - r<=r
  ·rw[if_pos c,if_pos c]
  ·rw[if_neg c,if_neg c]
   have c2:¬ (d+r <= -r):=by omega
   rw[if_neg c2]
 by_cases hn:n<0
 ·rw[if_pos hn,Jo _ (by omega),core _ (by omega) (by omega)]
  unfold qN
  simp only[Let_eq,decide_eq_true_eq]
  have e:0 - n = -n:=by omega
  have b:=rdv_le (n := -n) (d:=d) (by omega)
  rw[jfI]at b
  rw[if_pos hn,e,jfI,Jo _ (by omega)]
  congr 1;omega
 ·rw[if_neg hn,core _ (by omega) (by omega)]
  unfold qN
  rw[if_neg (by simpa using hn)]
theorem jiS (k:Nat)(hk:(2:Int) ^ k<=4294967296):w64 (Int.tdiv (2 ^ k) 2)=jah k:=by
 cases k with
 |zero=>rfl
 |succ k=>
  have hp:(0:Int)<2 ^ k:=Int.pow_pos (by omega)
  rw[Int.pow_succ]at hk⊢
  rw[Int.mul_tdiv_cancel _ (by decide),Jo _ (by omega)];rfl
theorem jjt (x n:Int)(hx:0<x)(hn:0<=n):x<=Int.tdiv n x↔x*x<=n:=by
 rw[Int.tdiv_eq_ediv_of_nonneg hn]
 exact Int.le_ediv_iff_mul_le hx
theorem xg (n:Int)(hn:0<=n/\n<=4611686018427387904)(kj:Int->Option Int):∀(k m:Nat) (v:Int),k<m->0<=v->v+2 ^ k<=4294967296->
 QA n kj m v (jah k)=kj (jez n k v)
 |k,0,v,h,_,_=>by omega
 |0,m+1,v,h,h0,h1=>by
  unfold QA
  rw[if_neg (by simp[jah])];rfl
 |k + 1,m+1,v,h,h0,h1=>by
  have hp:(0:Int)<2 ^ k:=Int.pow_pos (by omega)
  rw[Int.pow_succ]at h1
  unfold QA
  rw[show jah (k+1)=2 ^ k from rfl,if_pos (decide_eq_true hp),Jo (v+2 ^ k) (by omega),ju (by omega)]
  have hq:0<=Int.tdiv n (v+2 ^ k)/\Int.tdiv n (v+2 ^ k)<=n:=by
   have:=(tdm n (v+2 ^ k) (by omega)).2.2.2.1 hn.1
   omega
  simp only[Let_eq,decide_eq_true_eq]
  rw[Jo _ (by omega)]
  unfold jez ZB
  simp only[Let_eq]
  rw[jiS k (by omega)]
  by_cases c:(v+2 ^ k)*(v+2 ^ k)<=n
  ·rw[if_pos c,if_pos ((jjt _ _ (by omega) hn.1).2 c)]
   exact xg n hn kj k m (v+2 ^ k) (by omega) (by omega) (by omega)
  ·rw[if_neg c,if_neg (fun h=>c ((jjt _ _ (by omega) hn.1).1 h))]
   exact xg n hn kj k m v (by omega) h0 (by omega)
theorem mb (n:Int):vu n=some (isq n):=by
 unfold vu isq qm
 simp only[Let_eq,jE,Bool.or_eq_true,decide_eq_true_eq]
 by_cases h:n<0\/4611686018427387904<n
 ·rw[if_pos h,if_pos (by omega)]
 ·rw[if_neg h,if_neg (by omega)]
  exact xg n (by omega) Km 32 fuel 0 (fuel_lt _ (by decide)) (by omega) (by decide)
theorem Xl (a b:Vec):VB a b=jjg a b:=by unfold VB;simp only[Let_eq,jaY];rfl
theorem vR (a:Vec):YZ a=satV a:=by unfold YZ;simp only[Let_eq,VD];rfl
theorem ug (a b c:Vec):QZ a b c=oriV a b c:=by
 unfold QZ;simp only[vR,Let_eq,satV,decide_eq_true_eq]
 have h1:=pb b.X a.X c.Y a.Y;have h2:=pb b.Y a.Y c.X a.X
 have k1:=zM a.X;have k2:=zM a.Y;have k3:=zM b.X;have k4:=zM b.Y;have k5:=zM c.X;have k6:=zM c.Y
 rw[Jo (sat b.X - sat a.X) (by omega),Jo (sat c.Y - sat a.Y) (by omega),Jo (sat b.Y - sat a.Y) (by omega),Jo (sat c.X - sat a.X) (by omega),Jo ((sat b.X - sat a.X)*(sat c.Y - sat a.Y)) (by omega),Jo ((sat b.Y - sat a.Y)*(sat c.X - sat a.X)) (by omega),Jo _ (by omega)]
 unfold oriV
 split
 ·omega
 ·split <;> omega
theorem vr (v:Vec):zk v=some (jev v):=by
 unfold zk;simp only[vR,Let_eq,satV]
 have h1:=Mo v.X v.X;have h2:=Mo v.Y v.Y
 rw[Jo (sat v.X*sat v.X) (by omega),Jo (sat v.Y*sat v.Y) (by omega),Jo _ (by omega),mb]
 rfl
end
section
open GoForm
end
section
open GoForm
end
section
open GoForm
def KN (lim:Int)(v:Vec):Bool:=decide (-lim<=v.X)&&decide (v.X<=lim)&&decide (-lim<=v.Y)&&decide (v.Y<=lim)
theorem jbt (lim:Int)(v:Vec):KN lim v=true ↔ -lim<=v.X/\v.X<=lim /\ -lim<=v.Y/\v.Y<=lim:=by
 unfold KN;simp only[Bool.and_eq_true,decide_eq_true_eq];exact⟨fun h=>⟨h.1.1.1,h.1.1.2,h.1.2,h.2⟩,fun h=>⟨⟨⟨h.1,h.2.1⟩,h.2.2.1⟩,h.2.2.2⟩⟩
theorem Ut (v:Vec):yK v=KN 1048576 v:=by
 unfold yK KN;simp only[Let_eq,jr]
theorem Wo (vs:List Vec)(h:vs.length<=4611686018427387904):JI vs=some (vs.all (KN 1048576)):=by
 unfold JI
 have:=QP vs.length (fun j=>KN 1048576 (ix vs (j:Int))) (fun _ (s:Unit)=>s) (fun _ _=>True) (fun n _ i=>JN vs yX n i) (fun _=>some true) (some false)
  (fun n i s hi _=>by
    refine⟨?_,fun _=>trivial⟩
    rw[JN]
    rw[if_pos (by simpa using hi),ju (by omega),Let_eq,Let_eq,Let_eq,Ut,Jo _ (by omega)]
    cases KN 1048576 (ix vs (i:Int)) <;> rfl)
  (fun n s _=>by rw[JN,if_neg (by simp)];rfl)
  fuel 0 () (by omega) (fuel_lt _ (by omega)) trivial
 rw[Nat.sub_zero,UM]at this
 rw[show JN vs yX fuel 0=JN vs yX fuel ((0:Nat):Int)from rfl,this]
 cases vs.all (KN 1048576) <;> rfl
def nxt (vs:List Vec)(i:Nat):Int:=Int.tmod ((i:Int)+1) vs.length
theorem jba (vs:List Vec)(i:Nat)(h:0<vs.length):0<=nxt vs i/\nxt vs i<vs.length:=by
 have:=tdm ((i:Int)+1) vs.length (by omega)
 unfold nxt;omega
def leftOf (vs:List Vec)(i:Nat)(j:Nat):Bool:=(j:Int)==(i:Int)||(j:Int)==nxt vs i||oriV (ix vs (i:Int)) (ix vs (nxt vs i)) (ix vs (j:Int))==1
def zw (vs:List Vec):Bool:=
 decide (3<=vs.length)&&decide (vs.length<=8)&&vs.all (KN 1048576)&&Pz (fun i=>Pz (leftOf vs i) 0 vs.length) 0 vs.length
theorem vF {vs:List Vec}(h:zw vs=true):3<=vs.length/\vs.length<=8/\∀v∈vs,KN 1048576 v=true:=by
 unfold zw at h
 simp only[Bool.and_eq_true,decide_eq_true_eq,List.all_eq_true]at h
 exact⟨h.1.1.1,h.1.1.2,h.1.2⟩
theorem jc4 (vs:List Vec)(h8:3<=vs.length/\vs.length<=8)(i:Nat)(hi:i<vs.length)(kj:Option Bool):
 yR vs (i:Int) kj (ix vs (i:Int)) (nxt vs i) fuel 0=if Pz (leftOf vs i) 0 vs.length=true then kj else some false:=by
 have hb:=jba vs i (by omega)
 have := QP vs.length (leftOf vs i) (fun _ (s:Unit)=>s) (fun _ _=>True) (fun n _ j=>yR vs (i:Int) kj (ix vs (i:Int)) (nxt vs i) n j) (fun _=>kj) (some false)
  (fun n j s hj _=>by
    refine⟨?_,fun _=>trivial⟩
    rw[yR]
    rw[if_pos (by simpa using hj),ju (by omega),Let_eq,ju (by intro _;omega),Let_eq,Let_eq,uD,Jo _ (by omega)]
    unfold leftOf
    by_cases h1:(j:Int)=(i:Int)
    ·simp[h1]
    ·by_cases h2:(j:Int)=nxt vs i
     ·simp[h1,h2]
     ·by_cases h3:oriV (ix vs (i:Int)) (ix vs (nxt vs i)) (ix vs (j:Int))=1
      ·simp[h1,h2,h3]
      ·simp[h1,h2,h3])
  (fun n s _=>by rw[yR,if_neg (by simp)])
  fuel 0 () (by omega) (fuel_lt _ (by omega)) trivial
 simpa using this
theorem ZY (vs:List Vec):Jp vs=some (zw vs):=by
 unfold Jp
 simp only[jE]
 by_cases h:(vs.length:Int)<3\/8<(vs.length:Int)
 ·have e:(decide ((vs.length:Int)<3)||decide (8<(vs.length:Int)))=true:=by simpa using h
  rw[e,if_neg (by simp),Bind_some,if_pos (by simp)]
  unfold zw
  have:(decide (3<=vs.length)&&decide (vs.length<=8))=false:=by
   simp only[Bool.and_eq_false_iff,decide_eq_false_iff_not];omega
  rw[this];rfl
 ·have e:(decide ((vs.length:Int)<3)||decide (8<(vs.length:Int)))=false:=by simp;omega
  rw[e,if_pos (by simp),Wo vs (by omega),Bind_some]
  unfold zw
  have:(decide (3<=vs.length)&&decide (vs.length<=8))=true:=by simp;omega
  rw[this,Bool.true_and]
  cases hA:vs.all (KN 1048576)
  ·rfl
  rw[if_neg (by simp)]
  have:=QP vs.length (fun i=>Pz (leftOf vs i) 0 vs.length) (fun _ (s:Unit)=>s) (fun _ _=>True) (fun n _ j=>yh vs qT n j) (fun _=>some true) (some false)
   (fun n i s hi _=>by
     refine⟨?_,fun _=>trivial⟩
     rw[yh]
     rw[if_pos (by simpa using hi),ju (by omega),Let_eq,ju (by omega),Let_eq,Jo ((i:Int)+1) (by omega)]
     rw[show Int.tmod ((i:Int)+1) (vs.length:Int)=nxt vs i from rfl,jc4 vs (by omega) i hi]
     unfold ZX
     rw[Let_eq,Jo ((i:Int)+1) (by omega)])
   (fun n s _=>by rw[yh,if_neg (by simp)];rfl)
   fuel 0 () (by omega) (fuel_lt _ (by omega)) trivial
  rw[show yh vs qT fuel 0=yh vs qT fuel ((0:Nat):Int)from rfl,this,Nat.sub_zero,Bool.true_and]
  cases Pz (fun i=>Pz (leftOf vs i) 0 vs.length) 0 vs.length <;> rfl
def UF (vs:List Vec)(i:Nat):Int:=jev (jjg (ix vs (nxt vs i)) (ix vs (i:Int)))
def wP (vs:List Vec):Int:=if zw vs=true then uR (fun i m=>min m (UF vs i)) 0 vs.length 536870911 else 0
theorem wj (vs:List Vec):Ju vs=some (wP vs):=by
 unfold Ju wP
 rw[ZY,Bind_some]
 cases hc:zw vs
 ·rfl
 obtain⟨h3,h8,-⟩:=vF hc
 rw[if_neg (by simp),if_pos rfl]
 have:=QP vs.length (fun _=>true) (fun i m=>min m (UF vs i)) (fun _ _=>True) (fun n m j=>yx vs qx n m j) (fun m=>some m) (some 0)
  (fun n i m hi _=>by
    refine⟨?_,fun _=>trivial⟩
    have hb:=jba vs i (by omega)
    rw[yx]
    rw[if_pos (by simpa using hi),ju (by omega),Let_eq,ju (by omega),Jo ((i:Int)+1) (by omega)]
    rw[show Int.tmod ((i:Int)+1) (vs.length:Int)=nxt vs i from rfl,ju hb,Let_eq,pq,Ve,Bind_some,Let_eq,Let_eq,if_pos rfl];rfl)
  (fun n s _=>by rw[yx,if_neg (by simp)];rfl)
  fuel 0 536870911 (by omega) (fuel_lt _ (by omega)) trivial
 rw[Nat.sub_zero,Py,if_pos rfl]at this
 exact this
def xP (vs:List Vec)(i:Nat):Int:=
 rdv (w64 (((ix vs (i:Int)).X - (ix vs 0).X)*((ix vs ((i:Int)+1)).Y - (ix vs 0).Y) - ((ix vs (i:Int)).Y - (ix vs 0).Y)*((ix vs ((i:Int)+1)).X - (ix vs 0).X))) 65536
def jj1 (vs:List Vec)(i:Nat):jy:=
 ⟨⟨w64 ((ix vs (i:Int)).X - (ix vs 0).X),w64 ((ix vs (i:Int)).Y - (ix vs 0).Y)⟩,⟨w64 ((ix vs ((i:Int)+1)).X - (ix vs 0).X),w64 ((ix vs ((i:Int)+1)).Y - (ix vs 0).Y)⟩,xP vs i⟩
def jdL (vs:List Vec):Int:=uR (fun i a=>w64 (a+xP vs i)) 1 (vs.length - 2) 0
theorem mf (vs:List Vec)(h:3<=vs.length/\vs.length<=8):QB vs=some ((List.range' 1 (vs.length - 2)).map (jj1 vs),jdL vs):=by
 unfold QB
 rw[ju (by omega),Let_eq]
 have:=QP (vs.length - 1) (fun _=>true) (fun i (s:List jy × Int)=>(s.1++[jj1 vs i],w64 (s.2+xP vs i))) (fun i s=>1<=i/\s.1.length+1=i)
  (fun n s j=>zH vs (ix vs 0) Ko n s.1 s.2 j) (fun s=>some s) none
  (fun n i s hi hI=>by
    refine⟨?_,fun _=>⟨by omega,by simp;omega⟩⟩
    rw[zH]
    rw[Jo ((i:Int)+1) (by omega),if_pos (by simp;omega),ju (by omega),ju (by omega),Let_eq,ju (by omega),ju (by omega),Let_eq,VH,Bind_some,ju (by simp;omega),Let_eq,Let_eq,Let_eq,if_pos rfl]
    simp only[jje,jjd,jjc,jjb]
    rfl)
  (fun n s hI=>by rw[zH,Jo _ (by omega),if_neg (by simp;omega)];rfl)
  fuel 1 ([],0) (by omega) (fuel_lt _ (by omega)) ⟨by omega,rfl⟩
 rw[Py,if_pos rfl,show vs.length - 1 - 1=vs.length - 2 by omega,mQ (fun i (l:List jy)=>l++[jj1 vs i]) (fun i a=>w64 (a+xP vs i)),mS]at this
 exact this
def jbO (vs:List Vec):Int:=if zw vs=true then rdv (jdL vs) 2 else 0
theorem pS (vs:List Vec):qF vs=some (jbO vs):=by
 unfold qF jbO
 rw[ZY,Bind_some]
 cases hc:zw vs
 ·rfl
 obtain⟨h3,h8,-⟩:=vF hc
 rw[if_neg (by simp),if_pos rfl,mf vs ⟨h3,h8⟩,Bind_some,VH];rfl
def countB (s:Shape):Bool:=if s.Kind=1 then s.jg.length==1 else if s.Kind=2 then s.jg.length==2 else decide (3<=s.jg.length)&&decide (s.jg.length<=8)
theorem uG (s:Shape):yr s=countB s:=by
 unfold yr countB
 simp only[Let_eq,beq_iff_eq,jr]
 split
 ·rw[Bool.eq_iff_iff];simp only[beq_iff_eq];omega
 ·split
  ·rw[Bool.eq_iff_iff];simp only[beq_iff_eq];omega
  ·rw[Bool.eq_iff_iff];simp only[Bool.and_eq_true,decide_eq_true_eq];omega
theorem mX {s:Shape}(h:countB s=true):1<=s.jg.length/\s.jg.length<=8/\(s.Kind=2->s.jg.length=2):=by
 unfold countB at h
 by_cases h1:s.Kind=1
 ·rw[if_pos h1]at h;simp only[beq_iff_eq]at h;omega
 rw[if_neg h1]at h
 by_cases h2:s.Kind=2
 ·rw[if_pos h2]at h;simp only[beq_iff_eq]at h;omega
 rw[if_neg h2]at h;simp only[Bool.and_eq_true,decide_eq_true_eq]at h;omega
theorem XQ (l:List Vec)(p:Vec->Bool)(hl:l.length<=4611686018427387904):JQ l (fun y=>some (p y))=some (l.any p):=by
 have key:∀n i:Nat,i<=l.length->l.length - i<n->∃r,yw l (fun y=>some (p y)) Yi n (i:Int)=some r/\(decide (0<=r))=(l.drop i).any p:=by
  intro n
  induction n with
  |zero=>intro i _ h;omega
  |succ n ih=>
   intro i hi h
   unfold yw
   by_cases hlt:i<l.length
   ·rw[if_pos (by simpa using hlt),ju (by omega),Bind_some,Ke l i hlt,List.any_cons]
    cases hp:p (ix l (i:Int))
    ·rw[if_neg (by simp),Let_eq,Jo _ (by omega),Bool.false_or]
     exact ih (i+1) (by omega) (by omega)
    ·rw[if_pos rfl]
     exact⟨i,rfl,by simp⟩
   ·rw[if_neg (by simpa using hlt)]
    refine⟨-1,rfl,?_⟩
    rw[List.drop_of_length_le (by omega)];rfl
 obtain⟨r,h1,h2⟩:=key fuel 0 (by omega) (fuel_lt _ (by omega))
 unfold JQ QJ
 rw[show yw l (fun y=>some (p y)) Yi fuel 0=some r from h1,Bind_some,Let_eq,h2];rfl
def pP (s:Shape):Bool:=if s.Kind=3 then s.yn != 0 else decide (s.yn<2048)||decide (524288<s.yn)
def Xf (s:Shape):Int:=
 if s.Kind<1\/3<s.Kind then 10 else if countB s=false then 11 else if s.jg.all (KN 1048576)=false then 6 else if pP s=true then 6 else
 if s.Kind=2/\jev (jjg (ix s.jg 1) (ix s.jg 0))<4096 then 12 else
 if s.Kind=3/\(zw s.jg=false\/wP s.jg<4096\/jbO s.jg<256)then 12 else 0
theorem ue (v:Vec):YF v = !KN 1048576 v:=by
 unfold YF JW KN
 simp only[Let_eq,jE]
 rw[Bool.eq_iff_iff]
 simp only[Bool.or_eq_true,decide_eq_true_eq,Bool.not_eq_true',Bool.and_eq_false_iff,decide_eq_false_iff_not]
 omega
theorem jlC (l:List Vec)(p:Vec->Bool):l.any (fun v => !p v) = !l.all p:=by
 induction l with
 |nil=>rfl
 |cons a l ih=>rw[List.any_cons,List.all_cons,ih];cases p a <;> rfl
theorem UX (s:Shape):Yf s=some (Xf s):=by
 unfold Yf Xf
 simp only[Let_eq,jE,Bool.or_eq_true,decide_eq_true_eq,uG]
 by_cases h1:s.Kind<1\/3<s.Kind
 ·rw[if_pos h1,if_pos h1]
 rw[if_neg h1,if_neg h1]
 cases hc:countB s
 ·rfl
 obtain⟨l1,l8,l2⟩:=mX hc
 rw[if_neg (by simp),if_neg (show ¬ true=false by simp)]
 have ef:(fun(y0:Vec)=>some (YF y0))=fun y=>some (!KN 1048576 y):=funext fun y=>by rw[ue]
 rw[ef,XQ _ (fun y => !KN 1048576 y) (by omega),Bind_some,jlC]
 cases ha:s.jg.all (KN 1048576)
 ·rfl
 rw[if_neg (by simp),if_neg (show ¬ true=false by simp)]
 have j:∀v5,QX s v5=some (if v5=true then 6 else if s.Kind=2/\jev (jjg (ix s.jg 1) (ix s.jg 0))<4096 then 12 else
  if s.Kind=3/\(zw s.jg=false\/wP s.jg<4096\/jbO s.jg<256)then 12 else 0):=by
  intro v5
  unfold QX
  by_cases hv:v5=true
  ·rw[if_pos hv,if_pos hv]
  rw[if_neg hv,if_neg hv,ju (by intro h;simp at h;have:=l2 h;omega),ju (by intro h;simp at h;have:=l2 h;omega),Let_eq,pq]
  simp only[Ve,ZY,wj,pS,Let_eq,jr,jE,Bool.and_eq_true,decide_eq_true_eq,beq_iff_eq]
  by_cases k2:s.Kind=2
  ·by_cases hl:jev (jjg (ix s.jg 1) (ix s.jg 0))<4096
   ·simp[k2,hl]
   ·simp[k2,hl]
  ·by_cases k3:s.Kind=3
   ·cases hcx:zw s.jg
    ·simp[k3]
    ·by_cases hsE:wP s.jg<4096
     ·simp[k3,hsE,show ¬ (4096<=wP s.jg) by omega]
     ·by_cases hA:jbO s.jg<256 <;> simp[k3,hsE,hA,show(4096<=wP s.jg) by omega]
   ·simp[k2,k3]
 simp only[jr,jE]
 unfold pP
 by_cases k3:s.Kind=3
 ·have e1:(s.Kind==3)=true:=by simpa using k3
  have e2:(s.Kind != 3)=false:=by simpa using k3
  rw[e2,Bool.false_and,if_pos k3]
  cases h0:(s.yn != 0)
  ·simp[k3,h0,j]
  ·simp[k3,h0,j]
 ·have e1:(s.Kind==3)=false:=by simpa using k3
  have e2:(s.Kind != 3)=true:=by simpa using k3
  rw[e2,Bool.true_and,if_neg k3];simp[k3,j]
end
section
open GoForm
theorem XH (v:Vec):kr v=KN 1048576 v:=by
 unfold kr KN;simp only[Let_eq,jr]
theorem pI (vs:List Vec)(h8:3<=vs.length/\vs.length<=8)(i:Nat)(hi:i<vs.length)(kj:Option Bool):
 YG vs (i:Int) kj (nxt vs i) fuel 0=if Pz (leftOf vs i) 0 vs.length=true then kj else some false:=by
 have hb:=jba vs i (by omega)
 have := QP vs.length (leftOf vs i) (fun _ (s:Unit)=>s) (fun _ _=>True) (fun n _ j=>YG vs (i:Int) kj (nxt vs i) n j) (fun _=>kj) (some false)
  (fun n j s hj _=>by
    refine⟨?_,fun _=>trivial⟩
    rw[YG]
    rw[if_pos (by simpa using hj),ju (by intro _;omega),ju (by intro _;omega),ju (by intro _;omega),Let_eq,Let_eq,ug,Jo _ (by omega)]
    unfold leftOf
    by_cases h1:(j:Int)=(i:Int)
    ·simp[h1]
    ·by_cases h2:(j:Int)=nxt vs i
     ·simp[h1,h2]
     ·by_cases h3:oriV (ix vs (i:Int)) (ix vs (nxt vs i)) (ix vs (j:Int))=1
      ·simp[h1,h2,h3]
      ·simp[h1,h2,h3])
  (fun n s _=>by rw[YG,if_neg (by simp)])
  fuel 0 () (by omega) (fuel_lt _ (by omega)) trivial
 simpa using this
theorem Ka (vs:List Vec):Qz vs=some (zw vs):=by
 unfold Qz
 simp only[jE]
 by_cases h:(vs.length:Int)<3\/8<(vs.length:Int)
 ·rw[if_pos (by simpa using h)]
  unfold zw
  have:(decide (3<=vs.length)&&decide (vs.length<=8))=false:=by
   simp only[Bool.and_eq_false_iff,decide_eq_false_iff_not];omega
  rw[this];rfl
 ·rw[if_neg (by simpa using h)]
  unfold zw
  have:(decide (3<=vs.length)&&decide (vs.length<=8))=true:=by simp;omega
  rw[this,Bool.true_and]
  have:=QP vs.length (fun j=>KN 1048576 (ix vs (j:Int))) (fun _ (s:Unit)=>s) (fun _ _=>True) (fun n _ i=>yW vs (YH vs) n i) (fun _=>YH vs) (some false)
   (fun n i s hi _=>by
     refine⟨?_,fun _=>trivial⟩
     rw[yW]
     rw[if_pos (by simpa using hi),ju (by omega),Let_eq,Let_eq,XH,Jo _ (by omega)]
     cases KN 1048576 (ix vs (i:Int)) <;> rfl)
   (fun n s _=>by rw[yW,if_neg (by simp)])
   fuel 0 () (by omega) (fuel_lt _ (by omega)) trivial
  rw[Nat.sub_zero,UM]at this
  rw[show yW vs (YH vs) fuel 0=yW vs (YH vs) fuel ((0:Nat):Int)from rfl,this]
  cases hA:vs.all (KN 1048576)
  ·rfl
  rw[if_pos rfl]
  unfold YH
  have:=QP vs.length (fun i=>Pz (leftOf vs i) 0 vs.length) (fun _ (s:Unit)=>s) (fun _ _=>True) (fun n _ j=>yV vs QY n j) (fun _=>some true) (some false)
   (fun n i s hi _=>by
     refine⟨?_,fun _=>trivial⟩
     rw[yV]
     rw[if_pos (by simpa using hi),ju (by omega),Let_eq,Jo ((i:Int)+1) (by omega)]
     rw[show Int.tmod ((i:Int)+1) (vs.length:Int)=nxt vs i from rfl,pI vs (by omega) i hi]
     unfold kZ
     rw[Let_eq,Jo ((i:Int)+1) (by omega)])
   (fun n s _=>by rw[yV,if_neg (by simp)];rfl)
   fuel 0 () (by omega) (fuel_lt _ (by omega)) trivial
  rw[show yV vs QY fuel 0=yV vs QY fuel ((0:Nat):Int)from rfl,this,Nat.sub_zero,Bool.true_and]
  cases Pz (fun i=>Pz (leftOf vs i) 0 vs.length) 0 vs.length <;> rfl
theorem jkK (v:Vec)(h : -2097152<=v.X/\v.X<=2097152)(h2 : -2097152<=v.Y/\v.Y<=2097152):0<=jev v/\jev v<=4194304:=by
 have h3:=jbe 2097152 2097152 h h
 have h4:=jbe 2097152 2097152 h2 h2
 unfold jev
 rw[jaJ (x:=v.X) (by omega),jaJ (x:=v.Y) (by omega)]
 have h5:=isq_bd (v.X*v.X+v.Y*v.Y)
 have p1:0<=v.X*v.X:=by rw[<-Int.natAbs_mul_self];exact Int.natCast_nonneg _
 have p2:0<=v.Y*v.Y:=by rw[<-Int.natAbs_mul_self];exact Int.natCast_nonneg _
 have h6:=h5.2.2 (by omega)
 refine⟨h5.1,?_⟩
 by_cases c:isq (v.X*v.X+v.Y*v.Y)<=4194304
 ·exact c
 ·have:=Int.mul_le_mul (show(4194305:Int)<=isq (v.X*v.X+v.Y*v.Y) by omega) (show(4194305:Int)<=isq (v.X*v.X+v.Y*v.Y) by omega) (by omega) (by omega)
  omega
theorem jac {vs:List Vec}(hc:zw vs=true)(i:Nat)(hi:i<vs.length):0<=UF vs i/\UF vs i<=4194304:=by
 obtain⟨h3,h8,hr⟩:=vF hc
 have hb:=jba vs i (by omega)
 have h1:=(jbt _ _).1 (hr _ (Xt vs (nxt vs i) hb))
 have h2:=(jbt _ _).1 (hr _ (Xt vs (i:Int) (by omega)))
 have s:∀a b:Int,-1048576<=a/\a<=1048576 -> -1048576<=b/\b<=1048576 -> -2097152<=jj3 a b/\jj3 a b<=2097152:=by
  intro a b ha hb
  unfold jj3
  rw[jaJ (x:=a) (by omega),jaJ (x:=b) (by omega),jaJ (by omega)];omega
 exact jkK _ (s _ _ (by omega) (by omega)) (s _ _ (by omega) (by omega))
theorem Wl (vs:List Vec):Qs vs=some (wP vs):=by
 unfold Qs wP
 rw[Ka,Bind_some]
 cases hc:zw vs
 ·rfl
 obtain⟨h3,h8,-⟩:=vF hc
 rw[if_neg (by simp),if_pos rfl]
 have step:∀(n i:Nat) (m:Int),i<vs.length->Jh vs JM (n+1) m (i:Int)=Jh vs JM n (if m<0\/UF vs i<m then UF vs i else m) ((i:Int)+1):=by
  intro n i m hi
  have hb:=jba vs i (by omega)
  rw[Jh]
  rw[if_pos (by simpa using hi),ju (by omega),Jo ((i:Int)+1) (by omega)]
  rw[show Int.tmod ((i:Int)+1) (vs.length:Int)=nxt vs i from rfl,ju hb,ju (by omega),Let_eq,Xl,vr,Bind_some]
  unfold YY
  simp only[Let_eq,jE,Bool.or_eq_true,decide_eq_true_eq]
  rw[show jev (jjg (ix vs (nxt vs i)) (ix vs (i:Int)))=UF vs i from rfl,Jo ((i:Int)+1) (by omega)]
  split <;> rfl
 have:=QP vs.length (fun _=>true) (fun i m=>min m (UF vs i)) (fun i m=>1<=i/\0<=m) (fun n m j=>Jh vs JM n m j) (fun m=>some m) (some 0)
  (fun n i m hi hI=>by
    have he:=jac hc i hi
    refine⟨?_,fun _=>⟨by omega,by omega⟩⟩
    rw[step n i m hi,if_pos rfl]
    congr 1
    split <;> omega)
  (fun n s _=>by rw[Jh,if_neg (by simp)];rfl)
  (fuel - 1) 1 (UF vs 0) (by omega) (by have:=fuel_lt (vs.length+1) (by omega);omega) ⟨by omega,(jac hc 0 (by omega)).1⟩
 rw[Py,if_pos rfl]at this
 have he:=jac hc 0 (by omega)
 have e:fuel=(fuel - 1)+1:=by have:=fuel_lt 1 (by decide);omega
 rw[e,show Jh vs JM (fuel - 1+1) (-1) 0=Jh vs JM (fuel - 1+1) (-1) ((0:Nat):Int)from rfl,step _ 0 (-1) (by omega),if_pos (by omega)]
 refine Eq.trans this ?_
 have e2:vs.length=(vs.length - 1)+1:=by omega
 rw[show uR (fun i m=>min m (UF vs i)) 0 vs.length 536870911=uR (fun i m=>min m (UF vs i)) 0 (vs.length - 1+1) 536870911 by rw[<-e2]]
 show _=some (uR _ 1 (vs.length - 1) (min 536870911 (UF vs 0)))
 rw[show min 536870911 (UF vs 0)=UF vs 0 by omega]
theorem PY (vs:List Vec)(i:Nat)(h:i+1<vs.length)(h2:vs.length<=4611686018427387904):vp vs (i:Int)=some (xP vs i):=by
 unfold vp
 rw[ju (by omega),ju (by omega),ju (by omega),ju (by omega),Let_eq,Jo ((i:Int)+1) (by omega),ju (by omega),ju (by omega),ju (by omega),ju (by omega),Let_eq,VE,Bind_some]
 simp only[jje,jjd,jjc,jjb]
 rfl
theorem MA (vs:List Vec):VA vs=some (jbO vs):=by
 unfold VA jbO
 rw[Ka,Bind_some]
 cases hc:zw vs
 ·rfl
 obtain⟨h3,h8,-⟩:=vF hc
 rw[if_neg (by simp),if_pos rfl]
 have:=QP (vs.length - 1) (fun _=>true) (fun i a=>w64 (a+xP vs i)) (fun _ _=>True) (fun n a j=>Zo vs kt n a j) (fun a=>some (rdv a 2)) none
  (fun n i a hi _=>by
    refine⟨?_,fun _=>trivial⟩
    rw[Zo]
    rw[Jo ((i:Int)+1) (by omega),if_pos (by simp;omega),PY vs i (by omega) (by omega),Bind_some,Let_eq,Let_eq,if_pos rfl])
  (fun n s _=>by rw[Zo,Jo _ (by omega),if_neg (by simp;omega)];unfold kt;rw[VE];rfl)
  fuel 1 0 (by omega) (fuel_lt _ (by omega)) trivial
 rw[Py,if_pos rfl,show vs.length - 1 - 1=vs.length - 2 by omega]at this
 exact this
theorem Wk (s:Shape)(h:1<=s.Kind/\s.Kind<=3):Qr s=countB s:=by
 unfold Qr countB
 simp only[Let_eq,beq_iff_eq,jr]
 by_cases h3:s.Kind=3
 ·rw[if_pos h3,if_neg (by omega),if_neg (by omega),Bool.eq_iff_iff];simp only[Bool.and_eq_true,decide_eq_true_eq];omega
 ·rw[if_neg h3]
  by_cases h1:s.Kind=1
  ·rw[if_pos h1,Bool.eq_iff_iff];simp only[beq_iff_eq];omega
  ·rw[if_neg h1,if_pos (by omega),Bool.eq_iff_iff];simp only[beq_iff_eq];omega
theorem xh (s:Shape):ZA s=some (Xf s):=by
 unfold ZA Xf
 simp only[Let_eq,jE,Bool.or_eq_true,decide_eq_true_eq]
 by_cases h1:s.Kind<1\/3<s.Kind
 ·rw[if_pos h1,if_pos h1]
 rw[if_neg h1,if_neg h1,Wk s (by omega)]
 cases hc:countB s
 ·rfl
 obtain⟨l1,l8,l2⟩:=mX hc
 rw[if_neg (by simp),if_neg (show ¬ true=false by simp)]
 have:=QP s.jg.length (fun j=>KN 1048576 (ix s.jg (j:Int))) (fun _ (s:Unit)=>s) (fun _ _=>True) (fun n _ i=>yT s (yU s) n i) (fun _=>yU s) (some 6)
  (fun n i _ hi _=>by
    refine⟨?_,fun _=>trivial⟩
    rw[yT]
    rw[if_pos (by simpa using hi),ju (by omega),Let_eq,ju (by omega),Let_eq,Let_eq,Jo ((i:Int)+1) (by omega)]
    unfold Kv KN
    simp only[Let_eq,jr,jE]
    rw[show w64 (0 - 1048576) = -1048576 from rfl]
    cases h1:decide (-1048576<=(ix s.jg (i:Int)).X) <;> cases h2:decide ((ix s.jg (i:Int)).X<=1048576) <;> cases h3:decide (-1048576<=(ix s.jg (i:Int)).Y) <;> cases h4:decide ((ix s.jg (i:Int)).Y<=1048576) <;> rfl)
  (fun n s _=>by rw[yT,if_neg (by simp)])
  fuel 0 () (by omega) (fuel_lt _ (by omega)) trivial
 rw[Nat.sub_zero,UM]at this
 rw[show yT s (yU s) fuel 0=yT s (yU s) fuel ((0:Nat):Int)from rfl,this]
 cases ha:s.jg.all (KN 1048576)
 ·rfl
 rw[if_pos rfl,if_neg (show ¬ true=false by simp)]
 unfold yU pP
 simp only[jr,jE,Let_eq]
 have er:((s.Kind==3)&&(s.yn != 0)||(s.Kind != 3)&&(decide (s.yn<2048)||decide (524288<s.yn)))=(if s.Kind=3 then s.yn != 0 else decide (s.yn<2048)||decide (524288<s.yn)):=by
  by_cases k3:s.Kind=3
  ·simp[k3]
  ·have e1:(s.Kind==3)=false:=by simpa using k3
   have e2:(s.Kind != 3)=true:=by simpa using k3
   rw[e1,e2,if_neg k3,Bool.false_and,Bool.true_and,Bool.false_or]
 rw[er]
 cases hR:(if s.Kind=3 then s.yn != 0 else decide (s.yn<2048)||decide (524288<s.yn))
 case true=>rfl
 rw[if_neg (show ¬ false=true by simp),if_neg (show ¬ false=true by simp),ju (by intro h;simp at h;have:=l2 h;omega),ju (by intro h;simp at h;have:=l2 h;omega),Xl]
 simp only[vr,Ka,Wl,MA,Let_eq,jr,jE,Bool.and_eq_true,decide_eq_true_eq,beq_iff_eq]
 by_cases k2:s.Kind=2
 ·by_cases hl:jev (jjg (ix s.jg 1) (ix s.jg 0))<4096
  ·simp[k2,hl]
  ·simp[k2,hl]
 ·by_cases k3:s.Kind=3
  ·cases hcx:zw s.jg
   ·simp[k3]
   ·by_cases hsE:wP s.jg<4096
    ·simp[k3,hsE,show ¬ (4096<=wP s.jg) by omega]
    ·by_cases hA:jbO s.jg<256 <;> simp[k3,hsE,hA,show(4096<=wP s.jg) by omega]
  ·simp[k2,k3]
end
section
open GoForm
end
section
open GoForm
end
section
open GoForm
theorem VM (x y:Vec):Vec.beq x y=decide (x=y):=by
 cases x;cases y;unfold Vec.beq;rw[Bool.eq_iff_iff];simp
theorem XP (x y:Transform):Transform.beq x y=decide (x=y):=by
 cases x;cases y;unfold Transform.beq;rw[VM,Bool.eq_iff_iff];simp
def FixOk (b:Body):Prop:=b.jf.length<=4611686018427387904/\∀f∈b.jf,f.Shape.jg.length<=4611686018427387904
end
section
open GoForm
theorem Us (a b:List Vec)(h:a.length<=4611686018427387904):Zb a b=some (decide (a=b)):=by
 unfold Zb
 by_cases hl:a.length=b.length
 ·rw[if_neg (by simp[hl])]
  have:=QP a.length (fun i=>decide (ix a (i:Int)=ix b (i:Int))) (fun _ (s:Unit)=>s) (fun _ _=>True) (fun n _ i=>yG a b qg n i) (fun _=>some true) (some false)
   (fun n i s hi _=>by
     refine⟨?_,fun _=>trivial⟩
     rw[yG]
     rw[if_pos (by simpa using hi),ju (by omega),ju (by omega),Let_eq,VM,Jo _ (by omega)]
     by_cases e:ix a (i:Int)=ix b (i:Int)
     ·rw[decide_eq_true e];rfl
     ·rw[decide_eq_false e];rfl)
   (fun n s _=>by rw[yG,if_neg (by simp)];rfl)
   fuel 0 () (by omega) (fuel_lt _ (by omega)) trivial
  rw[Nat.sub_zero,jho a b hl]at this
  rw[show yG a b qg fuel 0=yG a b qg fuel ((0:Nat):Int)from rfl,this]
  by_cases e:a=b
  ·rw[decide_eq_true e];rfl
  ·rw[decide_eq_false e];rfl
 ·rw[if_pos (by simpa using fun h=>hl (by omega)),decide_eq_false (fun h=>hl (by rw[h]))]
theorem PW (a b:Shape)(h:a.jg.length<=4611686018427387904):vo a b=some (decide (a=b)):=by
 unfold vo
 rw[Us _ _ h]
 cases a with|mk ak ar av=>cases b with|mk bk br bv=>
 simp only[jr,Let_eq]
 by_cases h1:ak=bk
 ·by_cases h2:ar=br
  ·subst h1 h2;simp
  ·simp[h1,h2]
 ·simp[h1]
theorem Wj (a b:jT)(h:a.Shape.jg.length<=4611686018427387904):Qq a b=some (decide (a=b)):=by
 unfold Qq
 rw[PW _ _ h,Bind_some]
 cases a;cases b
 simp only[jr,Let_eq,Bind_some]
 congr 1
 rw[Bool.eq_iff_iff]
 simp only[Bool.and_eq_true,decide_eq_true_eq,beq_iff_eq,jT.mk.injEq]
 grind
theorem PU (a b:Body)(h:FixOk a):wc a b=some (decide (a=b)):=by
 obtain⟨h1,h2⟩:=h
 unfold wc
 by_cases hl:a.jf.length=b.jf.length
 ·rw[if_neg (by simp[hl])]
  have:=QP a.jf.length (fun i=>decide (ix a.jf (i:Int)=ix b.jf (i:Int))) (fun _ (s:Unit)=>s) (fun _ _=>True) (fun n _ i=>qD a b (qE a b) n i) (fun _=>qE a b) (some false)
   (fun n i s hi _=>by
     refine⟨?_,fun _=>trivial⟩
     rw[qD,jr]
     rw[if_pos (by simp;omega),ju (by omega),ju (by omega),Wj _ _ (h2 _ (Xt _ _ (by omega))),Bind_some,Let_eq,Jo _ (by omega)]
     by_cases e:ix a.jf (i:Int)=ix b.jf (i:Int)
     ·rw[decide_eq_true e];rfl
     ·rw[decide_eq_false e];rfl)
   (fun n s _=>by rw[qD,jr,if_neg (by simp)])
   fuel 0 () (by omega) (fuel_lt _ (by omega)) trivial
  rw[Nat.sub_zero,jho _ _ hl]at this
  rw[show qD a b (qE a b) fuel 0=qD a b (qE a b) fuel ((0:Nat):Int)from rfl,this]
  by_cases e:a.jf=b.jf
  ·rw[if_pos (decide_eq_true e)]
   unfold qE
   simp only[Let_eq,jr,jE,VM,XP]
   by_cases c:(a.ID≠b.ID\/a.Kind≠b.Kind\/a.Transform≠b.Transform\/a.jX≠b.jX\/a.jm≠b.jm\/a.qu≠b.qu\/a.Yq≠b.Yq)
   ·rw[if_pos (by simp only[Bool.or_eq_true,bne_iff_ne,Bool.not_eq_true',decide_eq_false_iff_not];grind),decide_eq_false (by rintro rfl;grind)]
   ·rw[if_neg (by simp only[Bool.or_eq_true,bne_iff_ne,Bool.not_eq_true',decide_eq_false_iff_not];grind)]
    congr 1
    cases a;cases b
    rw[Bool.eq_iff_iff]
    simp only[Bool.and_eq_true,decide_eq_true_eq,beq_iff_eq,Body.mk.injEq]at e c⊢
    grind
  ·rw[if_neg (by simpa using e),decide_eq_false (fun h=>e (by rw[h]))]
 ·rw[if_pos (by simpa using fun h=>hl (by omega)),decide_eq_false (fun h=>hl (by rw[h]))]
end
section
open GoForm
def Wn (x lo hi:Int):Prop:=lo<=x/\x<=hi
instance (x lo hi:Int):Decidable (Wn x lo hi):=inferInstanceAs (Decidable (_/\_))
def Bd (v:Vec)(lim:Int):Prop:=Wn v.X (-lim) lim/\Wn v.Y (-lim) lim
instance (v:Vec) (lim:Int):Decidable (Bd v lim):=inferInstanceAs (Decidable (_/\_))
theorem Vo (x lo hi:Int):jO x lo hi=decide (Wn x lo hi):=by
 unfold jO;rw[Let_eq,jr,Bool.eq_iff_iff];simp only[Bool.and_eq_true,decide_eq_true_eq];exact Iff.rfl
theorem WK (v:Vec)(lim:Int)(h:0<=lim/\lim<=9223372036854775807):Yx v lim=decide (Bd v lim):=by
 unfold Yx;simp only[Let_eq,jr,Vo]
 rw[Jo _ (by omega),show 0 - lim = -lim by omega,Bool.eq_iff_iff];simp only[Bool.and_eq_true,decide_eq_true_eq];exact Iff.rfl
def jjW (t:Transform):Prop:=Bd t.Position 268435456 /\ -205888<=t.Zg/\t.Zg<205888
instance (t:Transform):Decidable (jjW t):=inferInstanceAs (Decidable (_/\_))
theorem Up (t:Transform):yJ t=decide (jjW t):=by
 unfold yJ JG jjW Bd Wn;simp only[Let_eq,jr,Bool.decide_and]
 rw[Bool.eq_iff_iff];simp only[Bool.and_eq_true,decide_eq_true_eq];grind
def xZ (b:Body):Prop:=
 Wn b.ID 1 1099511627776/\jjW b.Transform/\Bd b.jX 16777216/\Wn b.jm (-4194304) 4194304/\Bd b.qu 536870911/\Wn b.Yq (-536870911) 536870911/\
 Wn b.jR 0 65536/\Wn b.jJ 0 65536/\Wn b.jW (-262144) 262144/\Wn b.JC 0 1048576
instance (b:Body):Decidable (xZ b):=inferInstanceAs (Decidable (_/\_))
theorem Pu (b:Body):qK b=decide (xZ b):=by
 unfold qK xZ
 simp only[Let_eq,jr,Vo,Up]
 rw[WK _ _ (by omega),WK _ _ (by omega)]
 rw[Bool.eq_iff_iff];simp only[Bool.and_eq_true,decide_eq_true_eq];grind
def Kt (f:jT):Int:=
 if Xf f.Shape≠0 then Xf f.Shape else
 if Wn f.YN 0 262144/\Wn f.yA 0 131072/\Wn f.Je 0 65536/\Wn f.Category 0 65535/\Wn f.Mask 0 65535/\Wn f.Ki (-32) 32 then 0 else 6
theorem wH (f:jT):Jw f=some (Kt f):=by
 unfold Jw Kt
 rw[UX,Bind_some]
 simp only[bne_iff_ne,Let_eq,jr,jE,Vo]
 by_cases h:Xf f.Shape≠0
 ·rw[if_pos h,if_pos h]
 rw[if_neg h,if_neg h]
 by_cases c:Wn f.YN 0 262144/\Wn f.yA 0 131072/\Wn f.Je 0 65536/\Wn f.Category 0 65535/\Wn f.Mask 0 65535/\Wn f.Ki (-32) 32
 ·rw[if_pos c,if_neg (by simp only[Bool.or_eq_true,Bool.not_eq_true',Bool.and_eq_false_iff,decide_eq_false_iff_not];grind)]
 ·rw[if_neg c,if_pos (by simp only[Bool.or_eq_true,Bool.not_eq_true',Bool.and_eq_false_iff,decide_eq_false_iff_not];grind)]
def jcN (b:Body):Bool:=
 if b.Kind=1/\(b.jX≠⟨0,0⟩\/b.jm≠0\/b.qu≠⟨0,0⟩\/b.Yq≠0)then false else
 if b.Kind≠3/\(b.qe=true\/b.QH=true)then false else
 decide (b.qe=true->b.jX=⟨0,0⟩/\b.jm=0)
theorem UJ (b:Body):yL b=jcN b:=by
 unfold yL jcN qX
 simp only[Let_eq,jr,jE,VM]
 by_cases h1:b.Kind=1/\(b.jX≠⟨0,0⟩\/b.jm≠0\/b.qu≠⟨0,0⟩\/b.Yq≠0)
 ·rw[if_pos h1,if_pos (by simp only[Bool.and_eq_true,Bool.or_eq_true,beq_iff_eq,bne_iff_ne,Bool.not_eq_true',decide_eq_false_iff_not];grind)]
 rw[if_neg h1,if_neg (by simp only[Bool.and_eq_true,Bool.or_eq_true,beq_iff_eq,bne_iff_ne,Bool.not_eq_true',decide_eq_false_iff_not];grind)]
 by_cases h2:b.Kind≠3/\(b.qe=true\/b.QH=true)
 ·rw[if_pos h2,if_pos (by simp only[Bool.and_eq_true,Bool.or_eq_true,bne_iff_ne];exact h2)]
 rw[if_neg h2,if_neg (by simp only[Bool.and_eq_true,Bool.or_eq_true,bne_iff_ne];exact h2),Bool.eq_iff_iff]
 simp only[Bool.or_eq_true,Bool.not_eq_true',decide_eq_true_eq,Bool.or_eq_false_iff,Bool.not_eq_false',bne_eq_false_iff_eq]
 cases b.qe <;> simp
def um (b:Body):Int:=
 if b.Kind≠1/\b.Kind≠2/\b.Kind≠3 then 10 else if ¬ xZ b then 6 else if 4<b.jf.length then 11 else
 if b.jf.all (fun f=>decide (Kt f=0))=false then 13 else if jcN b=false then 14 else 0
theorem XO (b:Body):YS b=some (um b):=by
 unfold YS um
 simp only[Let_eq,jr,Bool.and_eq_true,bne_iff_ne,Pu,Bool.not_eq_true',decide_eq_false_iff_not,decide_eq_true_eq,and_assoc]
 by_cases h1:b.Kind≠1/\b.Kind≠2/\b.Kind≠3
 ·rw[if_pos h1,if_pos h1]
 rw[if_neg h1,if_neg h1]
 by_cases h2:xZ b
 ·have h2':¬ ¬ xZ b:=fun h=>h h2
  rw[if_neg h2',if_neg h2']
  by_cases h3:4<b.jf.length
  ·rw[if_pos (show 4<(b.jf.length:Int) by omega),if_pos h3]
  rw[if_neg (show ¬ 4<(b.jf.length:Int) by omega),if_neg h3]
  have:=QP b.jf.length (fun i=>decide (Kt (ix b.jf (i:Int))=0)) (fun _ (s:Unit)=>s) (fun _ _=>True) (fun n _ i=>Qk b (Ql b) n i) (fun _=>Ql b) (some 13)
   (fun n i s hi _=>by
     refine⟨?_,fun _=>trivial⟩
     rw[Qk]
     rw[if_pos (by simpa using hi),ju (by omega),Let_eq,wH,Bind_some,Let_eq,Jo _ (by omega)]
     by_cases e:Kt (ix b.jf (i:Int))=0
     ·rw[if_neg (by simp[e]),if_pos (decide_eq_true e)]
     ·rw[if_pos (by simp[e]),if_neg (by simpa using e)])
   (fun n s _=>by rw[Qk,if_neg (by simp)])
   fuel 0 () (by omega) (fuel_lt _ (by omega)) trivial
  rw[Nat.sub_zero,UM (fun f=>decide (Kt f=0))]at this
  refine Eq.trans this ?_
  cases hA:b.jf.all (fun f=>decide (Kt f=0))
  ·rfl
  rw[if_pos rfl,if_neg (by simp)]
  unfold Ql
  simp only[Let_eq,UJ]
  cases jcN b <;> rfl
 ·rw[if_pos h2,if_pos h2]
theorem jfd {b:Body}:um b=0↔(b.Kind=1\/b.Kind=2\/b.Kind=3)/\xZ b/\b.jf.length<=4/\(∀f∈b.jf,Kt f=0)/\jcN b=true:=by
 unfold um
 by_cases h1:b.Kind≠1/\b.Kind≠2/\b.Kind≠3
 ·rw[if_pos h1];constructor
  ·intro h;omega
  ·intro h;omega
 rw[if_neg h1]
 by_cases h2:xZ b
 ·rw[if_neg (fun h=>h h2)]
  by_cases h3:4<b.jf.length
  ·rw[if_pos h3];constructor
   ·intro h;omega
   ·intro h;omega
  rw[if_neg h3]
  cases hA:b.jf.all (fun f=>decide (Kt f=0))
  ·rw[if_pos rfl]
   constructor
   ·intro h;omega
   ·intro h
    have:b.jf.all (fun f=>decide (Kt f=0))=true:=by rw[List.all_eq_true];intro f hf;exact decide_eq_true (h.2.2.2.1 f hf)
    rw[this]at hA;cases hA
  ·rw[if_neg (by simp)]
   have hA':∀f∈b.jf,Kt f=0:=by
    rw[List.all_eq_true]at hA;intro f hf;exact of_decide_eq_true (hA f hf)
   cases jcN b
   ·rw[if_pos rfl];constructor
    ·intro h;omega
    ·intro h;cases h.2.2.2.2
   ·rw[if_neg (by simp)]
    exact⟨fun _=>⟨by omega,h2,by omega,hA',rfl⟩,fun _=>rfl⟩
 ·rw[if_pos h2];constructor
  ·intro h;omega
  ·intro h;exact absurd h.2.1 h2
end
section
open GoForm
theorem pM (x lo hi:Int):YP x lo hi=decide (Wn x lo hi):=by
 unfold YP;rw[Let_eq,jr,Bool.eq_iff_iff];simp only[Bool.and_eq_true,decide_eq_true_eq];exact Iff.rfl
theorem ma (t:Transform):vq t=decide (jjW t):=by
 unfold vq ku jjW Bd Wn;simp only[Let_eq,jr,jE]
 rw[Bool.eq_iff_iff];simp only[Bool.and_eq_true,Bool.not_eq_true',Bool.or_eq_false_iff,decide_eq_true_eq,decide_eq_false_iff_not];grind
theorem XG (b:Body):kq b=decide (xZ b):=by
 unfold kq
 simp only[Let_eq,jr,jE,pM,ma]
 have e:decide (xZ b)=(decide (Wn b.ID 1 1099511627776)&&decide (jjW b.Transform)&&decide (Wn b.jX.X (-16777216) 16777216)&&decide (Wn b.jX.Y (-16777216) 16777216)&&decide (Wn b.jm (-4194304) 4194304)&&
  (decide (Wn b.qu.X (-536870911) 536870911)&&decide (Wn b.qu.Y (-536870911) 536870911)&&decide (Wn b.Yq (-536870911) 536870911))&&
  (decide (Wn b.jR 0 65536)&&decide (Wn b.jJ 0 65536)&&decide (Wn b.jW (-262144) 262144)&&decide (Wn b.JC 0 1048576))):=by
  rw[Bool.eq_iff_iff];simp only[Bool.and_eq_true,decide_eq_true_eq];unfold xZ Bd;grind
 rw[e]
 have n3:∀a b c d e:Bool,(!a|| !b|| !c|| !d|| !e) = !(a&&b&&c&&d&&e):=by intro a b c d e;cases a <;> cases b <;> cases c <;> cases d <;> cases e <;> rfl
 have n2:∀a b c:Bool,(!a|| !b|| !c) = !(a&&b&&c):=by intro a b c;cases a <;> cases b <;> cases c <;> rfl
 rw[n3,n2]
 generalize (decide (Wn b.ID 1 1099511627776)&&decide (jjW b.Transform)&&decide (Wn b.jX.X (-16777216) 16777216)&&decide (Wn b.jX.Y (-16777216) 16777216)&&decide (Wn b.jm (-4194304) 4194304))=P
 generalize (decide (Wn b.qu.X (-536870911) 536870911)&&decide (Wn b.qu.Y (-536870911) 536870911)&&decide (Wn b.Yq (-536870911) 536870911))=Q
 cases P
 ·rfl
 ·cases Q
  ·rfl
  ·simp
theorem Vz (f:jT):YX f=some (Kt f):=by
 unfold YX Kt
 rw[xh,Bind_some]
 simp only[bne_iff_ne,Let_eq,jE,pM]
 by_cases h:Xf f.Shape≠0
 ·rw[if_pos h,if_pos h]
 rw[if_neg h,if_neg h]
 by_cases c:Wn f.YN 0 262144/\Wn f.yA 0 131072/\Wn f.Je 0 65536/\Wn f.Category 0 65535/\Wn f.Mask 0 65535/\Wn f.Ki (-32) 32
 ·rw[if_pos c,if_neg (by simp only[Bool.or_eq_true,Bool.not_eq_true',decide_eq_false_iff_not];grind)]
 ·rw[if_neg c,if_pos (by simp only[Bool.or_eq_true,Bool.not_eq_true',decide_eq_false_iff_not];grind)]
theorem Vy (b:Body):Kl b=some (um b):=by
 unfold Kl um
 simp only[Let_eq,jr,Bool.and_eq_true,bne_iff_ne,XG,Bool.not_eq_true',decide_eq_false_iff_not,decide_eq_true_eq,and_assoc]
 by_cases h1:b.Kind≠1/\b.Kind≠2/\b.Kind≠3
 ·rw[if_pos h1,if_pos h1]
 rw[if_neg h1,if_neg h1]
 by_cases h2:xZ b
 ·have h2':¬ ¬ xZ b:=fun h=>h h2
  rw[if_neg h2',if_neg h2']
  by_cases h3:4<b.jf.length
  ·rw[if_pos (show 4<(b.jf.length:Int) by omega),if_pos h3]
  rw[if_neg (show ¬ 4<(b.jf.length:Int) by omega),if_neg h3]
  have:=QP b.jf.length (fun i=>decide (Kt (ix b.jf (i:Int))=0)) (fun _ (s:Unit)=>s) (fun _ _=>True) (fun n _ i=>qL b (qM b) n i) (fun _=>qM b) (some 13)
   (fun n i s hi _=>by
     refine⟨?_,fun _=>trivial⟩
     rw[qL]
     rw[if_pos (by simpa using hi),ju (by omega),Vz,Bind_some,Let_eq,Jo _ (by omega)]
     by_cases e:Kt (ix b.jf (i:Int))=0
     ·rw[if_neg (by simp[e]),if_pos (decide_eq_true e)]
     ·rw[if_pos (by simp[e]),if_neg (by simpa using e)])
   (fun n s _=>by rw[qL,if_neg (by simp)])
   fuel 0 () (by omega) (fuel_lt _ (by omega)) trivial
  rw[Nat.sub_zero,UM (fun f=>decide (Kt f=0))]at this
  refine Eq.trans this ?_
  cases hA:b.jf.all (fun f=>decide (Kt f=0))
  ·rfl
  rw[if_pos rfl,if_neg (by simp)]
  unfold qM jcN
  simp only[Let_eq,jr,jE,VM]
  by_cases c1:b.Kind=1/\(b.jX≠⟨0,0⟩\/b.jm≠0\/b.qu≠⟨0,0⟩\/b.Yq≠0)
  ·rw[if_pos c1,if_pos rfl,if_pos (by simp only[Bool.and_eq_true,Bool.or_eq_true,beq_iff_eq,bne_iff_ne,Bool.not_eq_true',decide_eq_false_iff_not];grind)]
  rw[if_neg c1]
  by_cases c2:b.Kind≠3/\(b.qe=true\/b.QH=true)
  ·rw[if_pos c2,if_pos rfl,if_pos (by simp only[Bool.and_eq_true,Bool.or_eq_true,beq_iff_eq,bne_iff_ne,Bool.not_eq_true',decide_eq_false_iff_not];grind)]
  rw[if_neg c2]
  by_cases c3:b.qe=true->b.jX=⟨0,0⟩/\b.jm=0
  ·rw[if_neg (show ¬ decide _=false by simpa using c3),if_neg (by simp only[Bool.and_eq_true,Bool.or_eq_true,beq_iff_eq,bne_iff_ne,Bool.not_eq_true',decide_eq_false_iff_not];grind)]
  ·rw[if_pos (show decide _=false by simpa using c3),if_pos (by simp only[Bool.and_eq_true,Bool.or_eq_true,beq_iff_eq,bne_iff_ne,Bool.not_eq_true',decide_eq_false_iff_not];grind)]
 ·rw[if_pos h2,if_pos h2]
end
end GoOld
end
