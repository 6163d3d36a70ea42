/- The functions' plain forms. Printed by go3.py. No conditions. -/
import Derived.Test.YtelkhkmeoahhlaaGreatDoorF52T
set_option linter.all false
set_option maxRecDepth 100000
open Go Go.Rx Go.Proofs Go.RowKit
namespace GoForm
noncomputable def kl (x0:Int)(low1:Int)(high2:Int):Option Bool:=
 Let (decide (x0>=low1)) fun a=>
 Let (decide (x0<=high2)) fun b=>Let (bif a then b else false) fun c=>some c
noncomputable def qY (a:jH):Option Int:=
 Rx.Bind (kl a.yF.X (-16777216:Int) 16777216) fun b=>
 Rx.Bind (if(b==true)=true then kl a.yF.Y (-16777216:Int) 16777216 else some default)
 fun e=>
 Let (bif b then e else false) fun f=>
 Rx.Bind (kl a.YA 64 8192) fun g=>
 Let (!g) fun h=>
 Let (!f) fun i=>
 Let (bif h then true else i) fun c=>
 Rx.Bind (if(c==false)=true then kl a.JP 1 32 else some default)
 fun j=>
 Let (!j) fun k=>
 Let (bif c then true else k) fun d=>
 Rx.Bind (if(d==false)=true then kl a.JO 0 1048576 else some default)
 fun l=>
 Let (!l) fun m=>
 Let (bif d then true else m) fun n=>if n then some (6:Int)else some (0:Int)
noncomputable def jO (x0:Int)(low1:Int)(high2:Int):Option Bool:=
 Let (decide (low1<=x0)) fun a=>
 Let (decide (x0<=high2)) fun b=>Let (bif a then b else false) fun c=>some c
noncomputable def Yx (v0:Vec)(limit1:Int):Option Bool:=
 Let (IntKind.i64.wrap ((0:Int) - limit1)) fun b=>
 Rx.Bind (jO v0.X b limit1) fun a=>
 Let (IntKind.i64.wrap ((0:Int) - limit1)) fun c=>
 Rx.Bind (if(a==true)=true then jO v0.Y c limit1 else some default) fun d=>
 Let (bif a then d else false) fun e=>some e
noncomputable def JG (x0:Int):Option Bool:=
 Let (decide (x0>=(-268435456:Int))) fun a=>
 Let (decide (x0<=268435456)) fun b=>Let (bif a then b else false) fun c=>some c
noncomputable def yJ (t0:Transform):Option Bool:=
 Rx.Bind (JG t0.Position.X) fun a=>
 Rx.Bind (if(a==true)=true then JG t0.Position.Y else some default) fun b=>
 Let (bif a then b else false) fun c=>
 Let (decide (t0.Zg>=(-205888:Int))) fun d=>
 Let (bif c then d else false) fun e=>
 Let (decide (t0.Zg<205888)) fun f=>
 Let (bif e then f else false) fun g=>some g
noncomputable def qK (b0:Body):Option Bool:=
 Rx.Bind (Yx b0.jX 16777216) fun a=>
 Rx.Bind (if(a==true)=true then jO b0.jm (-4194304:Int) 4194304 else some default)
 fun f=>
 Let (bif a then f else false) fun g=>
 Rx.Bind (Yx b0.qu 536870911) fun b=>
 Rx.Bind (if(b==true)=true then jO b0.Yq (-536870911:Int) 536870911 else some default)
 fun h=>
 Let (bif b then h else false) fun i=>
 Rx.Bind (jO b0.jR 0 65536) fun c=>
 Rx.Bind (if(c==true)=true then jO b0.jJ 0 65536 else some default)
 fun j=>
 Let (bif c then j else false) fun k=>
 Rx.Bind (jO b0.jW (-262144:Int) 262144) fun l=>
 Rx.Bind (jO b0.ID 1 1099511627776) fun d=>
 Rx.Bind (if(d==true)=true then yJ b0.Transform else some default) fun m=>
 Let (bif d then m else false) fun n=>
 Let (bif n then g else false) fun o=>
 Let (bif o then i else false) fun p=>
 Let (bif p then k else false) fun q=>
 Let (bif q then l else false) fun e=>
 Rx.Bind (if(e==true)=true then jO b0.JC 0 1048576 else some default)
 fun r=>Let (bif e then r else false) fun s=>some s
noncomputable def yr (b:Shape):Option Bool:=
 Let (b.jg.length:Int) fun a=>
 Let (b.Kind==1) fun c=>
 if c then Let (a==1) fun d=>some d
 else
 Let (b.Kind==2) fun e=>
 if e then Let (a==2) fun f=>some f
 else
 Let (decide (a>=3)) fun g=>
 Let (decide (a<=8)) fun h=>Let (bif g then h else false) fun i=>some i
noncomputable def QK (b:(List Vec))(c:(Vec->Option Bool)):Option Int:=
 Let (b.length:Int) fun d=>
 Yg
 (fun(e:Int->Option Int) (a:Int)=>
 Let (decide (a<d)) fun f=>
 if f then
 Chk (0<=a/\a<b.length)
 (Let (ix b a) fun g=>
 Rx.Bind (c g) fun h=>
 if h then some a else Let (IntKind.i64.wrap (a+1)) fun i=>e i)
 else some (-1:Int))
 fuel 0
noncomputable def Yj (a:(List Vec))(b:(Vec->Option Bool)):Option Bool:=
 Rx.Bind (QK a b) fun c=>Let (decide (c>=0)) fun d=>some d
noncomputable def JW (n0:Int):Option Bool:=
 Let (decide (n0<(-1048576:Int))) fun a=>
 Let (decide (n0>1048576)) fun b=>
 Let (bif a then true else b) fun c=>some c
noncomputable def Qi (v0:Vec):Option Bool:=
 Rx.Bind (JW v0.X) fun a=>
 Rx.Bind (if(a==false)=true then JW v0.Y else some default) fun b=>
 Let (bif a then true else b) fun c=>some c
noncomputable def Jn (x0:Int):Option Int:=
 Let (max x0 (-536870911:Int)) fun a=>Let (min a 536870911) fun b=>some b
noncomputable def zC (a0:Int)(b1:Int):Option Int:=
 Rx.Bind (Jn a0) fun a=>
 Rx.Bind (Jn b1) fun b=>
 Let (IntKind.i64.wrap (a - b)) fun c=>Rx.Bind (Jn c) fun d=>some d
noncomputable def ZL (a0:Vec)(b1:Vec):Option Vec:=
 Rx.Bind (zC a0.X b1.X) fun a=>
 Rx.Bind (zC a0.Y b1.Y) fun b=>some {X:=a,Y:=b:Vec}
noncomputable def JB (v0:Vec):Option Vec:=
 Rx.Bind (Jn v0.X) fun a=>
 Rx.Bind (Jn v0.Y) fun b=>some {X:=a,Y:=b:Vec}
noncomputable def JF (a0:Vec)(b1:Vec):Option Int:=
 Rx.Bind (JB a0) fun a=>
 Rx.Bind (JB b1) fun b=>
 Let (IntKind.i64.wrap (b.X - a.X)) fun c=>
 Let (IntKind.i64.wrap (b.Y - a.Y)) fun d=>
 Let (IntKind.i64.wrap (c*c)) fun e=>
 Let (IntKind.i64.wrap (d*d)) fun f=>
 Let (IntKind.i64.wrap (e+f)) fun g=>some g
noncomputable def QD (n0:Int):Option Int:=
 Let (decide (n0<0)) fun c=>
 Let (decide (n0>4611686018427387904)) fun d=>
 Let (bif c then true else d) fun e=>
 if e then some (0:Int)
 else
 Yg
 (fun(f:Int × Int->Option Int) (a:Int × Int)=>
 Let (decide (a.snd>0)) fun g=>
 if g then
 Join (fun(v139:Int)=>Let (bShr IntKind.i64 a.snd 1) fun h=>f (v139,h))
 fun(j141:Int->Option Int)=>
 Let (bOr IntKind.i64 a.fst a.snd) fun b=>
 Let (IntKind.u64.wrap b) fun i=>
 Let (IntKind.u64.wrap b) fun j=>
 Let (IntKind.u64.wrap (i*j)) fun k=>
 Let (IntKind.u64.wrap n0) fun l=>
 Let (decide (k<=l)) fun m=>if m then j141 b else j141 a.fst
 else some a.fst)
 fuel ((0:Int),2147483648)
noncomputable def yQ (v0:Vec):Option Int:=
 Rx.Bind (JF {X:=(0:Int),Y:=0:Vec} v0) fun a=>
 Rx.Bind (QD a) fun b=>some b
noncomputable def yK (v0:Vec):Option Bool:=
 Let (decide (v0.X>=(-1048576:Int))) fun a=>
 Let (decide (v0.X<=1048576)) fun b=>
 Let (bif a then b else false) fun c=>
 Let (decide (v0.Y>=(-1048576:Int))) fun d=>
 Let (bif c then d else false) fun e=>
 Let (decide (v0.Y<=1048576)) fun f=>
 Let (bif e then f else false) fun g=>some g
noncomputable def JI (points0:(List Vec)):Option Bool:=
 Let (points0.length:Int) fun b=>
 Yg
 (fun(c:Int->Option Bool) (a:Int)=>
 Let (decide (a<b)) fun d=>
 if d then
 Chk (0<=a/\a<points0.length)
 (Let (ix points0 a) fun e=>
 Rx.Bind (yK e) fun f=>
 Let (!f) fun g=>
 if g then some false else Let (IntKind.i64.wrap (a+1)) fun h=>c h)
 else some true)
 fuel 0
noncomputable def yq (a0:Vec)(b1:Vec)(c2:Vec):Option Int:=
 Rx.Bind (JB a0) fun a=>
 Rx.Bind (JB b1) fun b=>
 Rx.Bind (JB c2) fun c=>
 Let (IntKind.i64.wrap (b.X - a.X)) fun d=>
 Let (IntKind.i64.wrap (c.Y - a.Y)) fun e=>
 Let (IntKind.i64.wrap (d*e)) fun f=>
 Let (IntKind.i64.wrap (b.Y - a.Y)) fun g=>
 Let (IntKind.i64.wrap (c.X - a.X)) fun h=>
 Let (IntKind.i64.wrap (g*h)) fun i=>
 Let (IntKind.i64.wrap (f - i)) fun j=>
 Let (max (-1:Int) j) fun k=>Let (min 1 k) fun l=>some l
noncomputable def Jp (vertices0:(List Vec)):Option Bool:=
 Let (vertices0.length:Int) fun c=>
 Let (decide (c<3)) fun g=>
 Let (decide (c>8)) fun h=>
 Let (bif g then true else h) fun f=>
 Rx.Bind (if(f==false)=true then JI vertices0 else some default) fun i=>
 Let (!i) fun j=>
 Let (bif f then true else j) fun k=>
 if k then some false
 else
 Let (vertices0.length:Int) fun l=>
 Yg
 (fun(m:Int->Option Bool) (a:Int)=>
 Let (decide (a<l)) fun n=>
 if n then
 Chk (0<=a/\a<vertices0.length)
 (Let (ix vertices0 a) fun o=>
 Let (IntKind.i64.wrap (a+1)) fun p=>
 Chk (c≠0)
 (Let (p.tmod c) fun d=>
 Let (vertices0.length:Int) fun q=>
 Yg
 (fun(r:Int->Option Bool) (b:Int)=>
 Let (decide (b<q)) fun s=>
 if s then
 Chk (0<=b/\b<vertices0.length)
 (Let (ix vertices0 b) fun t=>
 Let (b != a) fun u=>
 Let (b != d) fun v=>
 Let (bif u then v else false) fun e=>
 Chk ((e==true)=true->0<=d/\d<vertices0.length)
 (Let (ix vertices0 d) fun w=>
 Rx.Bind (if(e==true)=true then yq o w t else some default) fun y=>
 Let (y != 1) fun z=>
 Let (bif e then z else false) fun A=>
 if A then some false else Let (IntKind.i64.wrap (b+1)) fun B=>r B))
 else Let (IntKind.i64.wrap (a+1)) fun C=>m C)
 fuel 0))
 else some true)
 fuel 0
noncomputable def Ju (vertices0:(List Vec)):Option Int:=
 Rx.Bind (Jp vertices0) fun d=>
 Let (!d) fun e=>
 if e then some (0:Int)
 else
 Let (vertices0.length:Int) fun f=>
 Yg
 (fun(g:Int × Int->Option Int) (a:Int × Int)=>
 Let (decide (a.snd<f)) fun h=>
 if h then
 Chk (0<=a.snd/\a.snd<vertices0.length)
 (Let (ix vertices0 a.snd) fun i=>
 Let (IntKind.i64.wrap (a.snd+1)) fun j=>
 Let (vertices0.length:Int) fun c=>
 Chk (c≠0)
 (Let (j.tmod c) fun b=>
 Chk (0<=b/\b<vertices0.length)
 (Let (ix vertices0 b) fun k=>
 Rx.Bind (ZL k i) fun l=>
 Rx.Bind (yQ l) fun m=>
 Let (min a.fst m) fun n=>
 Let (IntKind.i64.wrap (a.snd+1)) fun o=>g (n,o))))
 else some a.fst)
 fuel ((536870911:Int),0)
noncomputable def yu (n0:Int)(d1:Int):Option Int:=
 Let (decide (d1<1)) fun c=>
 Let (decide (d1>4611686018427387904)) fun d=>
 Let (bif c then true else d) fun e=>
 Let (decide (n0<(-4611686018427387904:Int))) fun f=>
 Let (bif e then true else f) fun g=>
 Let (decide (n0>4611686018427387904)) fun h=>
 Let (bif g then true else h) fun i=>
 if i then some (0:Int)
 else
 Chk (d1≠0)
 (Let (IntKind.i64.wrap (n0.tdiv d1)) fun b=>
 Chk (d1≠0)
 (Let (n0.tmod d1) fun a=>
 Join (fun(v229:Int)=>some v229) fun(j230:Int->Option Int)=>
 Let (IntKind.i64.wrap (d1 - a)) fun j=>
 Let (decide (a>=j)) fun k=>
 if k then Let (IntKind.i64.wrap (b+1)) fun l=>j230 l
 else
 Let (IntKind.i64.wrap ((0:Int) - a)) fun m=>
 Let (IntKind.i64.wrap (d1+a)) fun n=>
 Let (decide (m>=n)) fun o=>
 if o then Let (IntKind.i64.wrap (b - 1)) fun p=>j230 p else j230 b))
noncomputable def QB (vertices0:(List Vec)):Option ((List jy) × Int):=
 Chk ((0:Int)<=0/\0<(vertices0.length:Int))
 (Let (ix vertices0 0) fun b=>
 Yg
 (fun(l:List jy × Int × Int->Option (List jy × Int))
 (a:List jy × Int × Int)=>
 Let (IntKind.i64.wrap (a.snd.snd+1)) fun m=>
 Let (vertices0.length:Int) fun n=>
 Let (decide (m<n)) fun o=>
 if o then
 Chk ((0:Int)<=a.snd.snd/\a.snd.snd<(vertices0.length:Int))
 (Let (ix vertices0 a.snd.snd) fun p=>
 Let (IntKind.i64.wrap (p.X - b.X)) fun c=>
 Chk ((0:Int)<=a.snd.snd/\a.snd.snd<(vertices0.length:Int))
 (Let (ix vertices0 a.snd.snd) fun q=>
 Let (IntKind.i64.wrap (q.Y - b.Y)) fun d=>
 Let (IntKind.i64.wrap (a.snd.snd+1)) fun g=>
 Chk ((0:Int)<=g/\g<(vertices0.length:Int))
 (Let (ix vertices0 g) fun r=>
 Let (IntKind.i64.wrap (r.X - b.X)) fun h=>
 Let (IntKind.i64.wrap (a.snd.snd+1)) fun i=>
 Chk ((0:Int)<=i/\i<(vertices0.length:Int))
 (Let (ix vertices0 i) fun s=>
 Let (IntKind.i64.wrap (s.Y - b.Y)) fun j=>
 Let (IntKind.i64.wrap (c*j)) fun t=>
 Let (IntKind.i64.wrap (d*h)) fun u=>
 Let (IntKind.i64.wrap (t - u)) fun v=>
 Rx.Bind (yu v 65536) fun k=>
 Chk
 ((List.length a.fst+
 [{e:={X:=c,Y:=d:Vec},f:={X:=h,Y:=j:Vec},jiN:=k:jy}].length)*
 (40:Nat)<=
 (140737488355328:Nat))
 (Let
 (a.fst++
 [{e:={X:=c,Y:=d:Vec},f:={X:=h,Y:=j:Vec},jiN:=k:jy}])
 fun w=>
 Let (IntKind.i64.wrap (a.snd.fst+k)) fun y=>
 Let (IntKind.i64.wrap (a.snd.snd+1)) fun z=>l (w,y,z))))))
 else some (a.fst,a.snd.fst))
 fuel ([],(0:Int),1))
noncomputable def qF (vertices0:(List Vec)):Option Int:=
 Rx.Bind (Jp vertices0) fun a=>
 Let (!a) fun b=>
 if b then some (0:Int)
 else
 Rx.Bind (QB vertices0) fun c=>
 Rx.Bind (yu c.snd 2) fun d=>some d
noncomputable def Yf (b:Shape):Option Int:=
 Let (decide (b.Kind<(1:Int))) fun h=>
 Let (decide (b.Kind>(3:Int))) fun i=>
 Let (bif h then true else i) fun j=>
 if j=true then some (10:Int)
 else
 Rx.Bind (yr b) fun k=>
 Let (!k) fun l=>
 if l=true then some (11:Int)
 else
 Rx.Bind (Yj b.jg fun(a:Tup tb [Ix.tVec])=>Qi a) fun m=>
 if m=true then some (6:Int)
 else
 Join
 (fun(v271:Bool)=>
 if v271=true then some (6:Int)
 else
 Let (b.Kind==(2:Int)) fun c=>
 Chk ((c==true)=true->(0:Int)<=(1:Int)/\(1:Int)<(↑b.jg.length:Int))
 (Let (ix b.jg (1:Int)) fun n=>
 Chk ((c==true)=true->(0:Int)<=(0:Int)/\(0:Int)<(↑b.jg.length:Int))
 (Let (ix b.jg (0:Int)) fun o=>
 Rx.Bind (if(c==true)=true then ZL n o else some {X:=default,Y:=default:Vec})
 fun p=>
 Rx.Bind (if(c==true)=true then yQ p else some default) fun q=>
 Let (decide (q<(4096:Int))) fun r=>
 Let (bif c then r else false) fun s=>
 if s=true then some (12:Int)
 else
 Let (b.Kind==(3:Int)) fun d=>
 Rx.Bind (if(d==true)=true then Jp b.jg else some default) fun t=>
 Let (!t) fun e=>
 Rx.Bind (if(d==true&&e==false)=true then Ju b.jg else some default)
 fun u=>
 Let (decide (u<(4096:Int))) fun v=>
 Let (bif e then true else v) fun f=>
 Rx.Bind (if(d==true&&f==false)=true then qF b.jg else some default) fun w=>
 Let (decide (w<(256:Int))) fun y=>
 Let (bif f then true else y) fun z=>
 Let (bif d then z else false) fun A=>if A=true then some (12:Int)else some (0:Int))))
 fun(j289:Bool->Option Int)=>
 Let (b.Kind==(3:Int)) fun B=>
 Let (b.yn != (0:Int)) fun C=>
 Let (bif B then C else false) fun g=>
 if g=true then j289 g
 else
 Let (b.Kind != (3:Int)) fun D=>
 Let (decide (b.yn<(2048:Int))) fun E=>
 Let (decide (b.yn>(524288:Int))) fun F=>
 Let (bif E then true else F) fun G=>
 Let (bif D then G else false) fun H=>j289 H
noncomputable def Jw (a:jT):Option Int:=
 Rx.Bind (Yf a.Shape) fun b=>
 Let (b != 0) fun g=>
 if g then some b
 else
 Rx.Bind (jO a.YN 0 262144) fun c=>
 Rx.Bind (if(c==true)=true then jO a.yA 0 131072 else some default)
 fun h=>
 Let (bif c then h else false) fun d=>
 Rx.Bind (if(d==true)=true then jO a.Je 0 65536 else some default)
 fun i=>
 Let (bif d then i else false) fun j=>
 Rx.Bind (jO a.Category 0 65535) fun e=>
 Rx.Bind (if(e==true)=true then jO a.Mask 0 65535 else some default)
 fun k=>
 Let (bif e then k else false) fun f=>
 Rx.Bind (if(f==true)=true then jO a.Ki (-32:Int) 32 else some default)
 fun l=>
 Let (bif f then l else false) fun m=>
 Let (!j) fun n=>
 Let (!m) fun o=>
 Let (bif n then true else o) fun p=>if p then some (6:Int)else some (0:Int)
noncomputable def qX (b0:Body):Option Bool:=
 Let (!(decide (b0.jX.X=0)&&decide (b0.jX.Y=0))) fun a=>
 Let (b0.jm != 0) fun b=>
 Let (bif a then true else b) fun c=>some c
noncomputable def yL (b0:Body):Option Bool:=
 Let (!(decide (b0.qu.X=0)&&decide (b0.qu.Y=0))) fun c=>
 Let (b0.Yq != 0) fun d=>
 Let (bif c then true else d) fun e=>
 Let (b0.Kind==1) fun a=>
 Rx.Bind (if(a==true)=true then qX b0 else some default) fun f=>
 Let (bif f then true else e) fun g=>
 Let (bif a then g else false) fun h=>
 if h then some false
 else
 Let (b0.Kind != 3) fun i=>
 Let (bif b0.qe then true else b0.QH) fun j=>
 Let (bif i then j else false) fun k=>
 if k then some false
 else
 Let (!b0.qe) fun b=>
 Rx.Bind (if(b==false)=true then qX b0 else some default) fun l=>
 Let (!l) fun m=>Let (bif b then true else m) fun n=>some n
noncomputable def YS (b0:Body):Option Int:=
 Let (b0.Kind != 1) fun b=>
 Let (b0.Kind != 2) fun c=>
 Let (bif b then c else false) fun d=>
 Let (b0.Kind != 3) fun e=>
 Let (bif d then e else false) fun f=>
 if f then some (10:Int)
 else
 Rx.Bind (qK b0) fun g=>
 Let (!g) fun h=>
 if h then some (6:Int)
 else
 Let (b0.jf.length:Int) fun i=>
 Let (decide (i>4)) fun j=>
 if j then some (11:Int)
 else
 Let (b0.jf.length:Int) fun k=>
 Yg
 (fun(l:Int->Option Int) (a:Int)=>
 Let (decide (a<k)) fun m=>
 if m then
 Chk (0<=a/\a<b0.jf.length)
 (Let (ix b0.jf a) fun n=>
 Rx.Bind (Jw n) fun o=>
 Let (o != 0) fun p=>
 if p then some (13:Int)else Let (IntKind.i64.wrap (a+1)) fun q=>l q)
 else
 Rx.Bind (yL b0) fun r=>
 Let (!r) fun s=>if s then some (14:Int)else some (0:Int))
 fuel 0
noncomputable def Zi (w0:jo):Option Bool:=
 Let (w0.ji.length:Int) fun c=>
 Yg
 (fun(d:Int × Int->Option Bool) (a:Int × Int)=>
 Let (decide (a.snd<c)) fun e=>
 if e then
 Chk (0<=a.snd/\a.snd<w0.ji.length)
 (Let (ix w0.ji a.snd) fun b=>
 Rx.Bind (YS b) fun f=>
 Let (f != 0) fun g=>
 Let (decide (b.ID>=w0.yM)) fun h=>
 Let (bif g then true else h) fun i=>
 Let (decide (b.ID<=a.fst)) fun j=>
 Let (bif i then true else j) fun k=>
 if k then some false
 else Let (IntKind.i64.wrap (a.snd+1)) fun l=>d (b.ID,l))
 else some true)
 fuel ((0:Int),0)
noncomputable def ZN (k0:Int):Option (Int × Int):=
 Let (k0==1) fun a=>
 if a then some ((0:Int),268435456)
 else
 Let (k0==2) fun b=>
 if b then some ((-205888:Int),205888)else some ((-268435456:Int),268435456)
noncomputable def Js (n0:Int)(low1:Int)(high2:Int):Option Bool:=
 Let (decide (n0>=low1)) fun a=>
 Let (decide (n0<=high2)) fun b=>Let (bif a then b else false) fun c=>some c
noncomputable def qj (v0:Vec)(limit1:Int):Option Bool:=
 Let (IntKind.i64.wrap ((0:Int) - limit1)) fun b=>
 Rx.Bind (Js v0.X b limit1) fun a=>
 Let (IntKind.i64.wrap ((0:Int) - limit1)) fun c=>
 Rx.Bind (if(a==true)=true then Js v0.Y c limit1 else some default) fun d=>
 Let (bif a then d else false) fun e=>some e
noncomputable def QQ (j0:yP):Option Bool:=
 Join
 (fun(v371:Int)=>
 Rx.Bind (ZN j0.Kind) fun b=>
 Yg
 (fun(l:Int->Option Bool) (a:Int)=>
 Let (decide (a<4)) fun m=>
 if m then
 Chk (0<=a/\a<((4:Nat):Int))
 (Let (ix [j0.jD.fst,j0.jD.snd.fst,j0.jD.snd.snd.fst,j0.jD.snd.snd.snd] a)
 fun n=>
 Rx.Bind (Js n (-536870911:Int) 536870911) fun o=>
 Let (!o) fun p=>
 if p then some false else Let (IntKind.i64.wrap (a+1)) fun q=>l q)
 else
 Rx.Bind (Js j0.ID 1 1099511627776) fun c=>
 Rx.Bind (if(c==true)=true then qj j0.yN v371 else some default) fun r=>
 Let (bif c then r else false) fun d=>
 Rx.Bind (if(d==true)=true then qj j0.Ye 1048576 else some default)
 fun s=>
 Let (bif d then s else false) fun e=>
 Rx.Bind (if(e==true)=true then Js j0.Ja (-205888:Int) 205887 else some default)
 fun t=>
 Let (bif e then t else false) fun f=>
 Rx.Bind (if(f==true)=true then Js j0.kg b.fst b.snd else some default) fun u=>
 Let (bif f then u else false) fun g=>
 Rx.Bind (if(g==true)=true then Js j0.kO b.fst b.snd else some default) fun v=>
 Let (bif g then v else false) fun w=>
 Let (decide (j0.kg<=j0.kO)) fun y=>
 Let (bif w then y else false) fun h=>
 Rx.Bind (if(h==true)=true then Js j0.JY (-16777216:Int) 16777216 else some default)
 fun z=>
 Let (bif h then z else false) fun i=>
 Rx.Bind (if(i==true)=true then Js j0.YU 0 536870911 else some default)
 fun A=>
 Let (bif i then A else false) fun j=>
 Rx.Bind (if(j==true)=true then Js j0.YT 0 536870911 else some default)
 fun B=>
 Let (bif j then B else false) fun k=>
 Rx.Bind (if(k==true)=true then Js j0.JZ 0 536870911 else some default)
 fun C=>Let (bif k then C else false) fun D=>some D)
 fuel 0)
 fun(j401:Int->Option Bool)=>
 Let (j0.Kind==5) fun E=>if E then j401 268435456 else j401 1048576
noncomputable def Zq (j0:yP):Option Bool:=
 Let (j0.Kind==5) fun c=>
 if c then
 Let (j0.JE==0) fun a=>
 Rx.Bind (if(a==true)=true then Js j0.JH 1 1099511627776 else some default)
 fun d=>Let (bif a then d else false) fun e=>some e
 else
 Rx.Bind (Js j0.JE 1 1099511627776) fun b=>
 Rx.Bind (if(b==true)=true then Js j0.JH 1 1099511627776 else some default)
 fun f=>
 Let (bif b then f else false) fun g=>
 Let (j0.JE != j0.JH) fun h=>Let (bif g then h else false) fun i=>some i
noncomputable def zN (j0:yP):Option Bool:=
 Let (decide (j0.Wb.X=0)&&decide (j0.Wb.Y=0)) fun a=>
 Join
 (fun(v413:PUnit)=>
 Let (!a) fun b=>
 Let (bif b then true else j0.Jm) fun c=>
 Let (bif c then true else j0.Jk) fun d=>some d)
 fun(j417:PUnit->Option Bool)=>
 Let (j0.Kind==3) fun e=>
 if e then
 Rx.Bind (yQ j0.Wb) fun f=>
 Rx.Bind (Js f 65520 65552) fun g=>Let (!g) fun h=>some h
 else
 Let (j0.Kind==1) fun i=>
 if i then
 Let (!a) fun j=>
 Let (bif j then true else j0.Jm) fun k=>
 Let (!j0.Jk) fun l=>Let (bif k then true else l) fun m=>some m
 else
 Let (j0.Kind==4) fun n=>
 if n then j417 ()
 else
 Let (j0.Kind==5) fun o=>
 if o then j417 ()else Let (!a) fun p=>some p
noncomputable def Kp (j0:yP):Option Int:=
 Let (decide (j0.Kind<1)) fun a=>
 Let (decide (j0.Kind>5)) fun b=>
 Let (bif a then true else b) fun c=>
 if c then some (10:Int)
 else
 Rx.Bind (QQ j0) fun d=>
 Let (!d) fun e=>
 if e then some (6:Int)
 else
 Rx.Bind (Zq j0) fun f=>
 Let (!f) fun g=>
 if g then some (14:Int)
 else Rx.Bind (zN j0) fun h=>if h then some (15:Int)else some (0:Int)
noncomputable def KG (b0:Body)(p1:Int):Option Bool:=
 Let (b0.ID==p1) fun a=>some a
noncomputable def KI (b:(List Body))(c:(Body->Option Bool)):Option Int:=
 Let (b.length:Int) fun d=>
 Yg
 (fun(e:Int->Option Int) (a:Int)=>
 Let (decide (a<d)) fun f=>
 if f then
 Chk (0<=a/\a<b.length)
 (Let (ix b a) fun g=>
 Rx.Bind (c g) fun h=>
 if h then some a else Let (IntKind.i64.wrap (a+1)) fun i=>e i)
 else some (-1:Int))
 fuel 0
noncomputable def qC (w0:jo)(id1:Int):Option Int:=
 Rx.Bind (KI w0.ji fun(a:Tup tb [Ix.tBody])=>KG a id1) fun b=>some b
noncomputable def Zk (w0:jo)(j1:yP):Option Bool:=
 Rx.Bind (qC w0 j1.JH) fun c=>
 Let (decide (c>=0)) fun a=>
 Let (j1.Kind==5) fun b=>
 Rx.Bind (if(a==true&&b==false)=true then qC w0 j1.JE else some default)
 fun d=>
 Let (decide (d>=0)) fun e=>
 Let (bif b then true else e) fun f=>
 Let (bif a then f else false) fun g=>some g
noncomputable def Zh (w0:jo):Option Bool:=
 Let (w0.jP.length:Int) fun e=>
 Yg
 (fun(f:Int × Int->Option Bool) (a:Int × Int)=>
 Let (decide (a.snd<e)) fun g=>
 if g then
 Chk (0<=a.snd/\a.snd<w0.jP.length)
 (Let (ix w0.jP a.snd) fun b=>
 Rx.Bind (Kp b) fun h=>
 Let (h != 0) fun i=>
 Let (decide (b.ID>=w0.yM)) fun j=>
 Let (bif i then true else j) fun k=>
 Let (decide (b.ID<=a.fst)) fun l=>
 Let (bif k then true else l) fun c=>
 Rx.Bind (if(c==false)=true then Zk w0 b else some default) fun m=>
 Let (!m) fun n=>
 Let (bif c then true else n) fun d=>
 Rx.Bind (if(d==false)=true then qC w0 b.ID else some default) fun o=>
 Let (decide (o>=0)) fun p=>
 Let (bif d then true else p) fun q=>
 if q then some false
 else Let (IntKind.i64.wrap (a.snd+1)) fun r=>f (b.ID,r))
 else some true)
 fuel ((0:Int),0)
noncomputable def QL (b:(List Int))(c:(Int->Option Bool)):Option Int:=
 Let (b.length:Int) fun d=>
 Yg
 (fun(e:Int->Option Int) (a:Int)=>
 Let (decide (a<d)) fun f=>
 if f then
 Chk (0<=a/\a<b.length)
 (Let (ix b a) fun g=>
 Rx.Bind (c g) fun h=>
 if h then some a else Let (IntKind.i64.wrap (a+1)) fun i=>e i)
 else some (-1:Int))
 fuel 0
noncomputable def Yk (a:(List Int))(b:(Int->Option Bool)):Option Bool:=
 Rx.Bind (QL a b) fun c=>Let (decide (c>=0)) fun d=>some d
noncomputable def Zj (n0:Int):Option Bool:=
 Rx.Bind (kl n0 (-536870911:Int) 536870911) fun a=>
 Let (!a) fun b=>some b
noncomputable def zU (values0:(List Int)):Option Bool:=
 Rx.Bind (Yk values0 fun(a:Tup tb [Ix.tint])=>Zj a) fun b=>
 Let (!b) fun c=>some c
noncomputable def QM (b:(List jS))(c:(jS->Option Bool)):Option Int:=
 Let (b.length:Int) fun d=>
 Yg
 (fun(e:Int->Option Int) (a:Int)=>
 Let (decide (a<d)) fun f=>
 if f then
 Chk (0<=a/\a<b.length)
 (Let (ix b a) fun g=>
 Rx.Bind (c g) fun h=>
 if h then some a else Let (IntKind.i64.wrap (a+1)) fun i=>e i)
 else some (-1:Int))
 fuel 0
noncomputable def qw (a:(List jS))(b:(jS->Option Bool)):Option Bool:=
 Rx.Bind (QM a b) fun c=>Let (decide (c>=0)) fun d=>some d
noncomputable def Qm (p0:jS):Option Bool:=
 Let (decide (p0.Jt<0)) fun a=>
 Rx.Bind
 (if(a==false)=true then
 zU [p0.ve.X,p0.ve.Y,p0.Ys,p0.ID,p0.Jt,p0.Jx]
 else some default)
 fun b=>Let (!b) fun c=>Let (bif a then true else c) fun d=>some d
noncomputable def zm (m0:jt):Option Bool:=
 Let (↑m0.jY.length:Int) fun b=>
 Let (decide (b<(1:Int))) fun f=>
 Let (decide (b>(2:Int))) fun g=>
 Let (bif f then true else g) fun c=>
 Let (b==(2:Int)) fun d=>
 Chk ((c==false&&d==true)=true->(0:Int)<=(0:Int)/\(0:Int)<(↑m0.jY.length:Int))
 (Let (ix m0.jY (0:Int)) fun h=>
 Chk ((c==false&&d==true)=true->(0:Int)<=(1:Int)/\(1:Int)<(↑m0.jY.length:Int))
 (Let (ix m0.jY (1:Int)) fun i=>
 Let (h.ID==i.ID) fun j=>
 Let (bif d then j else false) fun k=>
 Let (bif c then true else k) fun e=>
 Rx.Bind (if(e==false)=true then zU [m0.zT.X,m0.zT.Y]else some default)
 fun l=>
 Let (!l) fun m=>
 Let (bif e then true else m) fun n=>
 if n=true then some false
 else
 Rx.Bind (qw m0.jY fun(a:Tup tb [Ix.tContactPoint])=>Qm a)
 fun o=>Let (!o) fun p=>some p))
noncomputable def ZW (a:jC):Option Bool:=
 Let (decide (a.JE<a.JH)) fun b=>
 Let (decide (a.Jd>=0)) fun c=>
 Let (bif b then c else false) fun d=>
 Let (decide (a.Jd<4)) fun e=>
 Let (bif d then e else false) fun f=>
 Let (decide (a.Jj>=0)) fun g=>
 Let (bif f then g else false) fun h=>
 Let (decide (a.Jj<4)) fun i=>
 Let (bif h then i else false) fun j=>some j
noncomputable def WC (x0:Int):Option Bool:=
 Let (x0 != x0) fun a=>some a
noncomputable def ka (x0:Int)(y1:Int):Option Int:=
 Rx.Bind (WC x0) fun b=>
 Rx.Bind (WC y1) fun a=>
 if b then if a then some (0:Int)else some (-1:Int)
 else
 if a then some (1:Int)
 else
 Let (decide (x0<y1)) fun c=>
 if c then some (-1:Int)
 else Let (decide (x0>y1)) fun d=>if d then some (1:Int)else some (0:Int)
noncomputable def jdO (vals0:(List Int)):Option Int:=
 Let (vals0.length:Int) fun c=>
 Yg
 (fun(d:Int->Option Int) (a:Int)=>
 Let (decide (a<c)) fun e=>
 if e then
 Chk (0<=a/\a<vals0.length)
 (Let (ix vals0 a) fun b=>
 Let (b != 0) fun f=>
 if f then some b else Let (IntKind.i64.wrap (a+1)) fun g=>d g)
 else some (0:Int))
 fuel 0
noncomputable def kI (a0:jC)(b1:jC):Option Int:=
 Rx.Bind (ka a0.JE b1.JE) fun a=>
 Rx.Bind (ka a0.Jd b1.Jd) fun b=>
 Rx.Bind (ka a0.JH b1.JH) fun c=>
 Rx.Bind (ka a0.Jj b1.Jj) fun d=>
 Rx.Bind (jdO [a,b,c,d]) fun e=>some e
noncomputable def kJ (a0:jC)(b1:jC):Option Bool:=
 Rx.Bind (kI a0 b1) fun a=>Let (decide (a<0)) fun b=>some b
noncomputable def yE (keys0:(List jC)):Option Bool:=
 Let (keys0.length:Int) fun f=>
 Yg
 (fun(g:Int × jC->Option Bool) (a:Int × jC)=>
 Let (decide (a.fst<f)) fun h=>
 if h then
 Chk (0<=a.fst/\a.fst<keys0.length)
 (Let (ix keys0 a.fst) fun b=>
 Rx.Bind (ZW b) fun i=>
 Let (!i) fun c=>
 Let (decide (a.fst>0)) fun d=>
 Let
 (decide (b.JE=a.snd.JE)&&
 (decide (b.Jd=a.snd.Jd)&&
 (decide (b.JH=a.snd.JH)&&decide (b.Jj=a.snd.Jj))))
 fun e=>
 Rx.Bind
 (if(c==false&&d==true&&e==false)=true then kJ a.snd b else some default)
 fun j=>
 Let (!j) fun k=>
 Let (bif e then true else k) fun l=>
 Let (bif d then l else false) fun m=>
 Let (bif c then true else m) fun n=>
 if n then some false
 else Let (IntKind.i64.wrap (a.fst+1)) fun o=>g (o,b))
 else some true)
 fuel ((0:Int),{JE:=(0:Int),Jd:=(0:Int),JH:=(0:Int),Jj:=0:jC})
noncomputable def kn (slices0:(List (List jC))):Option (List jC):=
 Let (slices0.length:Int) fun g=>
 Yg
 (fun(h:Int × Int->Option (List jC)) (a:Int × Int)=>
 Let (decide (a.snd<g)) fun i=>
 if i then
 Chk ((0:Int)<=a.snd/\a.snd<(slices0.length:Int))
 (Let (ix slices0 a.snd) fun j=>
 Let (j.length:Int) fun k=>
 Let (IntKind.i64.wrap (a.fst+k)) fun e=>
 Let (decide (e<0)) fun l=>
 if l then none else Let (IntKind.i64.wrap (a.snd+1)) fun m=>h (e,m))
 else
 Let (decide (a.fst<0)) fun n=>
 if n then none
 else
 Join
 (fun(v566:List jC)=>
 Let (slices0.length:Int) fun o=>
 Yg
 (fun(p:List jC × Int->Option (List jC)) (b:List jC × Int)=>
 Let (decide (b.snd<o)) fun q=>
 if q then
 Chk ((0:Int)<=b.snd/\b.snd<(slices0.length:Int))
 (Let (ix slices0 b.snd) fun f=>
 Chk ((List.length b.fst+f.length)*(32:Nat)<=(140737488355328:Nat))
 (Let (b.fst++f) fun r=>
 Let (IntKind.i64.wrap (b.snd+1)) fun s=>p (r,s)))
 else some b.fst)
 fuel (v566,0))
 fun(j574:List jC->Option (List jC))=>
 Let (IntKind.i64.wrap ((0:Int) - 0)) fun t=>
 Let (IntKind.i64.wrap (a.fst - t)) fun c=>
 Let (decide (c>0)) fun u=>
 if u then
 Chk ((0:Int)=0)
 (Chk ((0:Int)<c/\c.toNat*(32:Nat)<=(140737488355328:Nat)/\c<=9223372036854775807)
 (Let
 (List.replicate c.toNat
 {JE:=(0:Int),Jd:=(0:Int),JH:=(0:Int),Jj:=0:jC})
 fun d=>
 Chk
 ((0:Int)<=none.getD 0/\
 0<=(some (0:Int)).getD 0/\(0:Nat)<=Int.toNat 0/\Int.toNat 0<=d.length)
 (Chk (Int.toNat 0 - (0:Nat)<=d.length)
 (Let (List.take (Int.toNat 0 - (0:Nat)) d) fun v=>j574 v))))
 else j574 [])
 fuel ((0:Int),0)
noncomputable def zo (w0:jo)(a:jC):Option Bool:=
 Rx.Bind (qC w0 a.JE) fun b=>
 Rx.Bind (qC w0 a.JH) fun c=>
 Let (decide (b>=0)) fun f=>
 Let (decide (c>=0)) fun g=>
 Let (bif f then g else false) fun d=>
 Chk ((d==true)=true->0<=b/\b<w0.ji.length)
 (Let (ix w0.ji b) fun h=>
 Let (h.jf.length:Int) fun i=>
 Let (decide (a.Jd<i)) fun j=>
 Let (bif d then j else false) fun e=>
 Chk ((e==true)=true->0<=c/\c<w0.ji.length)
 (Let (ix w0.ji c) fun k=>
 Let (k.jf.length:Int) fun l=>
 Let (decide (a.Jj<l)) fun m=>
 Let (bif e then m else false) fun n=>some n))
noncomputable def Qn (a:jC)(p1:jo):Option Bool:=
 Rx.Bind (zo p1 a) fun b=>Let (!b) fun c=>some c
noncomputable def QN (b:(List jC))(c:(jC->Option Bool)):Option Int:=
 Let (b.length:Int) fun d=>
 Yg
 (fun(e:Int->Option Int) (a:Int)=>
 Let (decide (a<d)) fun f=>
 if f then
 Chk (0<=a/\a<b.length)
 (Let (ix b a) fun g=>
 Rx.Bind (c g) fun h=>
 if h then some a else Let (IntKind.i64.wrap (a+1)) fun i=>e i)
 else some (-1:Int))
 fuel 0
noncomputable def qR (a:(List jC))(b:(jC->Option Bool)):Option Bool:=
 Rx.Bind (QN a b) fun c=>Let (decide (c>=0)) fun d=>some d
noncomputable def zn (w0:jo):Option Bool:=
 Let (w0.jc.length:Int) fun e=>
 Yg
 (fun(f:List jC × Int->Option Bool) (b:List jC × Int)=>
 Let (decide (b.snd<e)) fun g=>
 if g then
 Chk (0<=b.snd/\b.snd<w0.jc.length)
 (Let (ix w0.jc b.snd) fun c=>
 Rx.Bind (zm c.jt) fun h=>
 Let (!h) fun i=>
 if i then some false
 else
 Chk ((List.length b.fst+[c.Key].length)*(32:Nat)<=(140737488355328:Nat))
 (Let (b.fst++[c.Key]) fun j=>
 Let (IntKind.i64.wrap (b.snd+1)) fun k=>f (j,k)))
 else
 Rx.Bind (yE b.fst) fun l=>
 Let (!l) fun d=>
 Rx.Bind (if(d==false)=true then yE w0.Overlaps else some default) fun m=>
 Let (!m) fun n=>
 Let (bif d then true else n) fun o=>
 if o then some false
 else
 Rx.Bind (kn [b.fst,w0.Overlaps]) fun p=>
 Rx.Bind (qR p fun(a:Tup tb [Ix.tPairKey])=>Qn a w0) fun q=>
 Let (!q) fun r=>some r)
 fuel ([],0)
noncomputable def zF (w0:jo):Option Int:=
 Rx.Bind (qY w0.jH) fun b=>
 Let (b != 0) fun c=>
 if c then some (17:Int)
 else
 Let (w0.ji.length:Int) fun d=>
 Let (decide (d>32)) fun e=>
 Let (w0.jP.length:Int) fun f=>
 Let (decide (f>32)) fun g=>
 Let (bif e then true else g) fun h=>
 Let (w0.jc.length:Int) fun i=>
 Let (decide (i>8192)) fun j=>
 Let (bif h then true else j) fun k=>
 Let (w0.Overlaps.length:Int) fun l=>
 Let (decide (l>8192)) fun m=>
 Let (bif k then true else m) fun n=>
 if n then some (11:Int)
 else
 Rx.Bind (kl w0.yM 1 1099511627776) fun o=>
 Let (!o) fun a=>
 Rx.Bind (if(a==false)=true then kl w0.Frame 0 1099511627776 else some default)
 fun p=>
 Let (!p) fun q=>
 Let (bif a then true else q) fun r=>
 if r then some (6:Int)
 else
 Rx.Bind (Zi w0) fun s=>
 Let (!s) fun t=>
 if t then some (14:Int)
 else
 Rx.Bind (Zh w0) fun u=>
 Let (!u) fun v=>
 if v then some (15:Int)
 else
 Rx.Bind (zn w0) fun w=>
 Let (!w) fun y=>if y then some (16:Int)else some (0:Int)
noncomputable def wQ (n0:Int):Option (List UInt8):=
 Let (IntKind.u64.wrap n0) fun e=>
 Join
 (fun(v646:Int)=>
 Yg
 (fun(g:Int × Int × List UInt8->Option (List UInt8)) (c:Int × Int × List UInt8)=>
 Let (IntKind.i64.wrap (c.snd.fst - (1:Int))) fun a=>
 Let (Int.tmod c.fst (10:Int)) fun h=>
 Let (IntKind.u64.wrap ((48:Int)+h)) fun i=>
 Let (toByte i) fun j=>
 Chk ((0:Int)<=a/\a<(↑(20:Nat):Int))
 (Chk ((0:Int)<=a/\a<(↑(List.length c.snd.snd):Int))
 (Let (List.set c.snd.snd a.toNat j) fun d=>
 Let (IntKind.u64.wrap (Int.tdiv c.fst (10:Int))) fun f=>
 Let (f==(0:Int)) fun k=>
 if k=true then
 Join
 (fun(v656:Int × List UInt8)=>
 Chk
 ((0:Int)<=(some v656.fst).getD (0:Int)/\
 (0:Int)<=none.getD (0:Int)/\
 Int.toNat v656.fst<=(20:Nat)/\(20:Nat)<=(20:Nat)/\(20:Nat)<=List.length v656.snd)
 (Chk (Int.toNat v656.fst+((20:Nat) - Int.toNat v656.fst)<=List.length v656.snd)
 (some (List.take ((20:Nat) - Int.toNat v656.fst) (List.drop (Int.toNat v656.fst) v656.snd)))))
 fun(j657:Int × List UInt8->Option (List UInt8))=>
 Let (decide (n0<(0:Int))) fun l=>
 if l=true then
 Let (IntKind.i64.wrap (a - (1:Int))) fun b=>
 Chk ((0:Int)<=b/\b<(↑(20:Nat):Int))
 (Chk ((0:Int)<=b/\b<(↑d.length:Int))
 (Let (d.set b.toNat (toByte (45:Int))) fun m=>j657 (b,m)))
 else j657 (a,d)
 else g (f,a,d))))
 fuel
 (v646,(20:Int),
 [toByte (0:Int),toByte (0:Int),toByte (0:Int),toByte (0:Int),toByte (0:Int),toByte (0:Int),
 toByte (0:Int),toByte (0:Int),toByte (0:Int),toByte (0:Int),toByte (0:Int),toByte (0:Int),
 toByte (0:Int),toByte (0:Int),toByte (0:Int),toByte (0:Int),toByte (0:Int),toByte (0:Int),
 toByte (0:Int),toByte (0:Int)]))
 fun(j661:Int->Option (List UInt8))=>
 Let (decide (n0<(0:Int))) fun n=>
 if n=true then Let (IntKind.u64.wrap ((0:Int) - e)) fun o=>j661 o else j661 e
noncomputable def strings_Join (elems0:(List (List UInt8)))(sep1:(List UInt8)):Option (List UInt8):=
 joinS elems0 sep1
noncomputable def VG (fields0:(List (List UInt8))):Option (List UInt8):=
 Rx.Bind (strings_Join fields0 #[(32:UInt8)].toList) fun a=>some a
noncomputable def Yu (keyword0:(List UInt8))(values1:(List Int)):Option (List UInt8):=
 Let (values1.length:Int) fun c=>
 Yg
 (fun(d:List (List UInt8) × Int->Option (List UInt8)) (a:List (List UInt8) × Int)=>
 Let (decide (a.snd<c)) fun e=>
 if e then
 Chk (0<=a.snd/\a.snd<values1.length)
 (Let (ix values1 a.snd) fun f=>
 Rx.Bind (wQ f) fun b=>
 Chk ((List.length a.fst+[b].length)*(16:Nat)<=(140737488355328:Nat))
 (Let (a.fst++[b]) fun g=>
 Let (IntKind.i64.wrap (a.snd+1)) fun h=>d (g,h)))
 else Rx.Bind (VG a.fst) fun i=>some i)
 fuel ([keyword0],0)
noncomputable def Yl (a:Bool):Option Int:=
 if a then some (1:Int)else some (0:Int)
noncomputable def Wh (b0:Body):Option (List (List UInt8)):=
 Rx.Bind (Yl b0.QH) fun f=>
 Rx.Bind (Yl b0.Jf) fun g=>
 Rx.Bind (Yl b0.QG) fun h=>
 Rx.Bind (Yl b0.qe) fun i=>
 Rx.Bind
 (Yu #[(98:UInt8),(111:UInt8),(100:UInt8),(121:UInt8)].toList
 [b0.ID,b0.Kind,b0.Transform.Position.X,b0.Transform.Position.Y,b0.Transform.Zg,b0.jX.X,b0.jX.Y,
 b0.jm,b0.qu.X,b0.qu.Y,b0.Yq,b0.jR,b0.jJ,b0.jW,f,g,
 h,i,b0.JC])
 fun j=>
 Let (b0.jf.length:Int) fun k=>
 Yg
 (fun(l:List (List UInt8) × Int->Option (List (List UInt8))) (b:List (List UInt8) × Int)=>
 Let (decide (b.snd<k)) fun m=>
 if m then
 Chk (0<=b.snd/\b.snd<b0.jf.length)
 (Let (ix b0.jf b.snd) fun a=>
 Rx.Bind (Yl a.kW) fun n=>
 Let (a.Shape.jg.length:Int) fun o=>
 Yg
 (fun(p:List Int × Int->Option (List (List UInt8))) (c:List Int × Int)=>
 Let (decide (c.snd<o)) fun q=>
 if q then
 Chk (0<=c.snd/\c.snd<a.Shape.jg.length)
 (Let (ix a.Shape.jg c.snd) fun d=>
 Chk ((List.length c.fst+[d.X,d.Y].length)*(8:Nat)<=(140737488355328:Nat))
 (Let (c.fst++[d.X,d.Y]) fun r=>
 Let (IntKind.i64.wrap (c.snd+1)) fun s=>p (r,s)))
 else
 Rx.Bind
 (Yu
 #[(102:UInt8),(105:UInt8),(120:UInt8),(116:UInt8),(117:UInt8),(114:UInt8),(101:UInt8)].toList
 c.fst)
 fun e=>
 Chk ((List.length b.fst+[e].length)*(16:Nat)<=(140737488355328:Nat))
 (Let (b.fst++[e]) fun t=>
 Let (IntKind.i64.wrap (b.snd+1)) fun u=>l (t,u)))
 fuel
 ([a.YN,a.yA,a.Je,n,a.Category,a.Mask,a.Ki,a.Shape.Kind,
 a.Shape.yn],
 0))
 else some b.fst)
 fuel ([j],0)
noncomputable def Wg (j0:yP):Option (List UInt8):=
 Rx.Bind (Yl j0.Jk) fun a=>
 Rx.Bind (Yl j0.Jm) fun b=>
 Rx.Bind (Yl j0.Jc) fun c=>
 Chk
 (([j0.ID,j0.Kind,j0.JE,j0.JH,j0.yN.X,j0.yN.Y,j0.Ye.X,j0.Ye.Y,j0.Wb.X,j0.Wb.Y,
 j0.Ja,a,j0.kg,j0.kO,b,j0.JY,j0.YU,j0.YT,j0.JZ,
 c].length+
 [j0.jD.fst,j0.jD.snd.fst,j0.jD.snd.snd.fst,j0.jD.snd.snd.snd].length)*
 (8:Nat)<=
 (140737488355328:Nat))
 (Let
 ([j0.ID,j0.Kind,j0.JE,j0.JH,j0.yN.X,j0.yN.Y,j0.Ye.X,j0.Ye.Y,j0.Wb.X,j0.Wb.Y,
 j0.Ja,a,j0.kg,j0.kO,b,j0.JY,j0.YU,j0.YT,j0.JZ,c]++
 [j0.jD.fst,j0.jD.snd.fst,j0.jD.snd.snd.fst,j0.jD.snd.snd.snd])
 fun d=>
 Rx.Bind (Yu #[(106:UInt8),(111:UInt8),(105:UInt8),(110:UInt8),(116:UInt8)].toList d)
 fun e=>some e)
noncomputable def vQ (c0:JL):Option (List (List UInt8)):=
 Rx.Bind
 (Yu
 #[(99:UInt8),(111:UInt8),(110:UInt8),(116:UInt8),(97:UInt8),(99:UInt8),(116:UInt8)].toList
 [c0.Key.JE,c0.Key.Jd,c0.Key.JH,c0.Key.Jj,c0.jt.zT.X,c0.jt.zT.Y])
 fun d=>
 Let (c0.jt.jY.length:Int) fun e=>
 Yg
 (fun(f:List (List UInt8) × Int->Option (List (List UInt8))) (a:List (List UInt8) × Int)=>
 Let (decide (a.snd<e)) fun g=>
 if g then
 Chk (0<=a.snd/\a.snd<c0.jt.jY.length)
 (Let (ix c0.jt.jY a.snd) fun b=>
 Rx.Bind
 (Yu #[(112:UInt8),(111:UInt8),(105:UInt8),(110:UInt8),(116:UInt8)].toList
 [b.ve.X,b.ve.Y,b.Ys,b.ID,b.Jt,b.Jx])
 fun c=>
 Chk ((List.length a.fst+[c].length)*(16:Nat)<=(140737488355328:Nat))
 (Let (a.fst++[c]) fun h=>
 Let (IntKind.i64.wrap (a.snd+1)) fun i=>f (h,i)))
 else some a.fst)
 fuel ([d],0)
noncomputable def Xi (w0:jo):Option ((List UInt8) × Int):=
 Rx.Bind (zF w0) fun m=>
 Let (m != 0) fun n=>
 if n then some (#[].toList,18)
 else
 Rx.Bind
 (Yu #[(119:UInt8),(111:UInt8),(114:UInt8),(108:UInt8),(100:UInt8)].toList
 [w0.jH.YA,w0.jH.yF.X,w0.jH.yF.Y,w0.jH.JP,w0.jH.JO,
 w0.yM,w0.Frame])
 fun o=>
 Let (w0.ji.length:Int) fun p=>
 Yg
 (fun(q:List (List UInt8) × Int->Option (List UInt8 × Int)) (c:List (List UInt8) × Int)=>
 Let (decide (c.snd<p)) fun r=>
 if r then
 Chk (0<=c.snd/\c.snd<w0.ji.length)
 (Let (ix w0.ji c.snd) fun s=>
 Rx.Bind (Wh s) fun g=>
 Chk ((List.length c.fst+g.length)*(16:Nat)<=(140737488355328:Nat))
 (Let (c.fst++g) fun t=>
 Let (IntKind.i64.wrap (c.snd+1)) fun u=>q (t,u)))
 else
 Let (w0.jP.length:Int) fun v=>
 Yg
 (fun(w:List (List UInt8) × Int->Option (List UInt8 × Int)) (d:List (List UInt8) × Int)=>
 Let (decide (d.snd<v)) fun y=>
 if y then
 Chk (0<=d.snd/\d.snd<w0.jP.length)
 (Let (ix w0.jP d.snd) fun z=>
 Rx.Bind (Wg z) fun h=>
 Chk ((List.length d.fst+[h].length)*(16:Nat)<=(140737488355328:Nat))
 (Let (d.fst++[h]) fun A=>
 Let (IntKind.i64.wrap (d.snd+1)) fun B=>w (A,B)))
 else
 Let (w0.jc.length:Int) fun C=>
 Yg
 (fun(D:List (List UInt8) × Int->Option (List UInt8 × Int)) (e:List (List UInt8) × Int)=>
 Let (decide (e.snd<C)) fun E=>
 if E then
 Chk (0<=e.snd/\e.snd<w0.jc.length)
 (Let (ix w0.jc e.snd) fun F=>
 Rx.Bind (vQ F) fun i=>
 Chk ((List.length e.fst+i.length)*(16:Nat)<=(140737488355328:Nat))
 (Let (e.fst++i) fun G=>
 Let (IntKind.i64.wrap (e.snd+1)) fun H=>D (G,H)))
 else
 Let (w0.Overlaps.length:Int) fun I=>
 Yg
 (fun(J:List (List UInt8) × Int->Option (List UInt8 × Int)) (a:List (List UInt8) × Int)=>
 Let (decide (a.snd<I)) fun K=>
 if K then
 Chk (0<=a.snd/\a.snd<w0.Overlaps.length)
 (Let (ix w0.Overlaps a.snd) fun f=>
 Rx.Bind
 (Yu
 #[(111:UInt8),(118:UInt8),(101:UInt8),(114:UInt8),(108:UInt8),(97:UInt8),(112:UInt8)].toList
 [f.JE,f.Jd,f.JH,f.Jj])
 fun j=>
 Chk ((List.length a.fst+[j].length)*(16:Nat)<=(140737488355328:Nat))
 (Let (a.fst++[j]) fun L=>
 Let (IntKind.i64.wrap (a.snd+1)) fun M=>J (L,M)))
 else
 Let ((List.length a.fst):Int) fun N=>
 Yg
 (fun(O:List UInt8 × Int->Option (List UInt8 × Int)) (b:List UInt8 × Int)=>
 Let (decide (b.snd<N)) fun P=>
 if P then
 Chk (0<=b.snd/\b.snd<((List.length a.fst):Int))
 (Chk (0<=b.snd/\b.snd<((List.length a.fst):Int))
 (Let (ix a.fst b.snd) fun k=>
 Chk (k.length+(1:Nat)<=(9223372036854775807:Nat))
 (Let (k++#[(10:UInt8)].toList) fun l=>
 Chk (List.length b.fst+l.length<=(9223372036854775807:Nat))
 (Let (b.fst++l) fun Q=>
 Let (IntKind.i64.wrap (b.snd+1)) fun R=>O (Q,R)))))
 else some (b.fst,0))
 fuel (#[].toList,0))
 fuel (e.fst,0))
 fuel (d.fst,0))
 fuel (c.fst,0))
 fuel ([o],0)
noncomputable def zW (a:(List UInt8))(suffix1:(List UInt8)):Option Bool:=
 Let (a.length:Int) fun d=>
 Let (suffix1.length:Int) fun e=>
 Let (decide (d>=e)) fun c=>
 Let (a.length:Int) fun f=>
 Let (suffix1.length:Int) fun g=>
 Let (IntKind.i64.wrap (f - g)) fun b=>
 Chk ((c==true)=true->0<=b/\b<=a.length)
 (Let (List.drop b.toNat a) fun h=>
 Let (h==suffix1) fun i=>Let (bif c then i else false) fun j=>some j)
noncomputable def zX (a:(List UInt8))(suffix1:(List UInt8)):Option ((List UInt8) × Bool):=
 Rx.Bind (zW a suffix1) fun c=>
 Let (!c) fun d=>
 if d then some (a,false)
 else
 Let (a.length:Int) fun e=>
 Let (suffix1.length:Int) fun f=>
 Let (IntKind.i64.wrap (e - f)) fun b=>
 Chk (0<=b/\b<=a.length)
 (Let (List.take b.toNat a) fun g=>some (g,true))
noncomputable def Zl (a:(List UInt8))(suffix1:(List UInt8)):Option ((List UInt8) × Bool):=
 Rx.Bind (zX a suffix1) fun b=>some b
noncomputable def We (a:(List UInt8))(n1:Int):Option (List (List UInt8)):=
 none
noncomputable def strings_Count (a:(List UInt8))(substr1:(List UInt8)):Option Int:=
 jdM a substr1
noncomputable def strings_Index (a:(List UInt8))(substr1:(List UInt8)):Option Int:=
 jdA a substr1
noncomputable def KH (d:(List UInt8))(sep1:(List UInt8))(sepSave2:Int)(n3:Int):Option (List (List UInt8)):=
 Let (n3==0) fun i=>
 if i then some []
 else
 Let (sep1==#[].toList) fun j=>
 if j then Rx.Bind (We d n3) fun k=>some k
 else
 Join
 (fun(v771:Int)=>
 Let (d.length:Int) fun l=>
 Let (IntKind.i64.wrap (l+1)) fun m=>
 Let (min v771 m) fun b=>
 Chk
 ((0:Int)<=b/\
 b<=b/\((16:Nat):Int)*b<=281474976710656/\b<=9223372036854775807)
 (Let (List.replicate b.toNat #[].toList) fun n=>
 Let (IntKind.i64.wrap (b - 1)) fun o=>
 Join
 (fun(v777:List UInt8 × Int × List (List UInt8))=>
 Chk ((0:Int)<=v777.snd.fst/\v777.snd.fst<((List.length v777.snd.snd):Int))
 (Chk ((0:Int)<=v777.snd.fst/\v777.snd.fst<((List.length v777.snd.snd):Int))
 (Let (List.set v777.snd.snd (Int.toNat v777.snd.fst) v777.fst) fun e=>
 Let (IntKind.i64.wrap (v777.snd.fst+1)) fun c=>
 Chk
 ((0:Int)<=none.getD 0/\
 0<=(some c).getD 0/\(0:Nat)<=c.toNat/\c.toNat<=e.length)
 (Chk (c.toNat - (0:Nat)<=e.length)
 (Let (List.take (c.toNat - (0:Nat)) e) fun p=>some p)))))
 fun(j781:List UInt8 × Int × List (List UInt8)->Option (List (List UInt8)))=>
 Yg
 (fun(q:List UInt8 × Int × List (List UInt8)->Option (List (List UInt8)))
 (a:List UInt8 × Int × List (List UInt8))=>
 Let (decide (a.snd.fst<o)) fun r=>
 if r then
 Rx.Bind (strings_Index a.fst sep1) fun f=>
 Let (decide (f<0)) fun s=>
 if s then j781 a
 else
 Let (IntKind.i64.wrap (f+sepSave2)) fun g=>
 Chk ((0:Int)<=g/\g<=((List.length a.fst):Int))
 (Let (List.take g.toNat a.fst) fun t=>
 Chk ((0:Int)<=a.snd.fst/\a.snd.fst<((List.length a.snd.snd):Int))
 (Chk ((0:Int)<=a.snd.fst/\a.snd.fst<((List.length a.snd.snd):Int))
 (Let (List.set a.snd.snd (Int.toNat a.snd.fst) t) fun u=>
 Let (sep1.length:Int) fun v=>
 Let (IntKind.i64.wrap (f+v)) fun h=>
 Chk ((0:Int)<=h/\h<=((List.length a.fst):Int))
 (Let (List.drop h.toNat a.fst) fun w=>
 Let (IntKind.i64.wrap (a.snd.fst+1)) fun y=>q (w,y,u)))))
 else j781 a)
 fuel (d,(0:Int),n)))
 fun(j794:Int->Option (List (List UInt8)))=>
 Let (decide (n3<0)) fun z=>
 if z then
 Rx.Bind (strings_Count d sep1) fun A=>
 Let (IntKind.i64.wrap (A+1)) fun B=>j794 B
 else j794 n3
noncomputable def km (a:(List UInt8))(sep1:(List UInt8)):Option (List (List UInt8)):=
 Rx.Bind (KH a sep1 0 (-1:Int)) fun b=>some b
noncomputable def zd (text0:(List UInt8)):Option ((List (List UInt8)) × Int):=
 Let (text0==#[].toList) fun b=>
 if b then some ([],0)
 else
 Rx.Bind (Zl text0 #[(10:UInt8)].toList) fun a=>
 Let (!a.snd) fun c=>
 if c then some ([],3)
 else Rx.Bind (km a.fst #[(10:UInt8)].toList) fun d=>some (d,0)
noncomputable def zu (line0:(List UInt8)):Option ((List (List UInt8)) × Int):=
 Let (line0==#[].toList) fun e=>
 if e then some ([],0)
 else
 Let (line0.length:Int) fun f=>
 Yg
 (fun(g:Int->Option (List (List UInt8) × Int)) (a:Int)=>
 Let (decide (a<f)) fun h=>
 if h then
 Chk (0<=a/\a<line0.length)
 (Let (ix line0 a) fun d=>
 Let (decide (d<toByte 32)) fun i=>
 Let (decide (toByte 126<d)) fun j=>
 Let (bif i then true else j) fun k=>
 if k then some ([],3)else Let (IntKind.i64.wrap (a+1)) fun l=>g l)
 else
 Rx.Bind (km line0 #[(32:UInt8)].toList) fun c=>
 Let (c.length:Int) fun m=>
 Yg
 (fun(n:Int->Option (List (List UInt8) × Int)) (b:Int)=>
 Let (decide (b<m)) fun o=>
 if o then
 Chk (0<=b/\b<c.length)
 (Let (ix c b) fun p=>
 Let (p==#[].toList) fun q=>
 if q then some ([],3)else Let (IntKind.i64.wrap (b+1)) fun r=>n r)
 else some (c,0))
 fuel 0)
 fuel 0
noncomputable def YV (k0:Int)(p1:Int):Option Bool:=
 Let (k0==p1) fun a=>some a
noncomputable def Qp (a:(List UInt8))(prefix1:(List UInt8)):Option Bool:=
 Let (a.length:Int) fun d=>
 Let (prefix1.length:Int) fun e=>
 Let (decide (d>=e)) fun c=>
 Let (prefix1.length:Int) fun b=>
 Chk ((c==true)=true->0<=b/\b<=a.length)
 (Let (List.take b.toNat a) fun f=>
 Let (f==prefix1) fun g=>Let (bif c then g else false) fun h=>some h)
noncomputable def zY (a:(List UInt8))(prefix1:(List UInt8)):Option ((List UInt8) × Bool):=
 Rx.Bind (Qp a prefix1) fun c=>
 Let (!c) fun d=>
 if d then some (a,false)
 else
 Let (prefix1.length:Int) fun b=>
 Chk (0<=b/\b<=a.length)
 (Let (List.drop b.toNat a) fun e=>some (e,true))
noncomputable def Zm (a:(List UInt8))(prefix1:(List UInt8)):Option ((List UInt8) × Bool):=
 Rx.Bind (zY a prefix1) fun b=>some b
noncomputable def zt (c:(List UInt8)):Option (jw × Bool):=
 Rx.Bind (Zm c #[(45:UInt8)].toList) fun b=>
 Let (b.fst==#[].toList) fun d=>
 Chk ((d==false)=true->(0:Int)<=(0:Int)/\(0:Int)<(↑(List.length b.fst):Int))
 (Let (ix b.fst (0:Int)) fun f=>
 Let (f==toByte (48:Int)) fun g=>
 Let (c != #[(48:UInt8)].toList) fun h=>
 Let (bif g then h else false) fun i=>
 Let (bif d then true else i) fun j=>
 if j=true then some ({negative:=false,qq:=(0:Int),unit:=(0:Int):jw},false)
 else
 Yg
 (fun(k:jw × jw × List UInt8 × Nat->Option (jw × Bool))
 (a:jw × jw × List UInt8 × Nat)=>
 if decide (a.snd.snd.snd<a.snd.snd.fst.length)=true then
 Let (decide ((↑(Utf8.decode {data:=a.snd.snd.fst.toArray:ByteArray} a.snd.snd.snd).fst:Int)<(48:Int)))
 fun l=>
 Let (decide ((↑(Utf8.decode {data:=a.snd.snd.fst.toArray:ByteArray} a.snd.snd.snd).fst:Int)>(57:Int)))
 fun m=>
 Let (bif l then true else m) fun n=>
 if n=true then some ({negative:=false,qq:=(0:Int),unit:=(0:Int):jw},false)
 else
 Let
 (IntKind.i32.wrap
 ((↑(Utf8.decode {data:=a.snd.snd.fst.toArray:ByteArray} a.snd.snd.snd).fst:Int) - (48:Int)))
 fun o=>
 Let (IntKind.u64.wrap o) fun e=>
 Join
 (fun(v848:jw)=>
 Let (IntKind.u64.wrap (v848.unit*(10:Int))) fun p=>
 Let (IntKind.u64.wrap (p+e)) fun q=>
 Let (q.tmod (65536:Int)) fun r=>
 k
 (a.fst,{negative:=v848.negative,qq:=v848.qq,unit:=r:jw},a.snd.snd.fst,
 a.snd.snd.snd+(Utf8.decode {data:=a.snd.snd.fst.toArray:ByteArray} a.snd.snd.snd).snd))
 fun(j852:jw->Option (jw × Bool))=>
 Let (decide (a.snd.fst.qq>(461168601842738790:Int))) fun s=>
 if s=true then
 j852
 {negative:=a.snd.fst.negative,qq:=(4611686018427387905:Int),unit:=a.snd.fst.unit:jw}
 else
 Let (IntKind.u64.wrap (a.snd.fst.qq*(10:Int))) fun t=>
 Let (IntKind.u64.wrap (t+e)) fun u=>
 Let (min u (4611686018427387905:Int)) fun v=>
 j852 {negative:=a.snd.fst.negative,qq:=v,unit:=a.snd.fst.unit:jw}
 else some (a.snd.fst,true))
 fuel
 ({negative:=false,qq:=(0:Int),unit:=(0:Int):jw},
 {negative:=b.snd,qq:=(0:Int),unit:=(0:Int):jw},b.fst,(0:Nat)))
noncomputable def QR (d0:jw):Option Int:=
 if d0.negative=true then
 Let (IntKind.i64.wrap d0.qq) fun a=>
 Let (IntKind.i64.wrap ((0:Int) - a)) fun b=>some b
 else Let (IntKind.i64.wrap d0.qq) fun c=>some c
noncomputable def kA (b:(List UInt8)):Option (Int × Int):=
 Rx.Bind (zt b) fun a=>
 Let (!a.snd) fun c=>
 if c then some ((0:Int),3)
 else
 Let (decide (a.fst.qq>4611686018427387904)) fun d=>
 if d then some ((0:Int),6)
 else Rx.Bind (QR a.fst) fun e=>some (e,0)
noncomputable def JX (fields0:(List (List UInt8)))(keyword1:(List UInt8))(valid2:(Int->Option Bool))(bools3:(List Int)):Option ((List Int) × Int):=
 Let (↑fields0.length:Int) fun l=>
 Let (l==(0:Int)) fun h=>
 Chk ((h==false)=true->(0:Int)<=(0:Int)/\(0:Int)<(↑fields0.length:Int))
 (Let (ix fields0 (0:Int)) fun m=>
 Let (m != keyword1) fun n=>
 Let (bif h then true else n) fun i=>
 Let (↑fields0.length:Int) fun o=>
 Let (IntKind.i64.wrap (o - (1:Int))) fun p=>
 Rx.Bind (if(i==false)=true then valid2 p else some default) fun q=>
 Let (!q) fun r=>
 Let (bif i then true else r) fun s=>
 if s=true then some ([],(3:Int))
 else
 Let (↑fields0.length:Int) fun t=>
 Let (IntKind.i64.wrap (t - (1:Int))) fun d=>
 Chk
 ((0:Int)<=(0:Int)/\
 (0:Int)<=d/\(↑(8:Nat):Int)*d<=(281474976710656:Int)/\d<=(9223372036854775807:Int))
 (Let (List.replicate (0:Nat) (0:Int)) fun u=>
 Chk ((0:Int)<=(1:Int)/\(1:Int)<=(↑fields0.length:Int))
 (Let (List.drop (1:Nat) fields0) fun e=>
 Let (↑e.length:Int) fun v=>
 Yg
 (fun(w:List Int × Bool × Int->Option (List Int × Int)) (a:List Int × Bool × Int)=>
 Let (decide (a.snd.snd<v)) fun y=>
 if y=true then
 Chk ((0:Int)<=a.snd.snd/\a.snd.snd<(↑e.length:Int))
 (Let (ix e a.snd.snd) fun z=>
 Rx.Bind (kA z) fun c=>
 Let (c.snd==(3:Int)) fun A=>
 if A=true then some ([],(3:Int))
 else
 Let (c.snd != (0:Int)) fun B=>
 Let (bif a.snd.fst then true else B) fun C=>
 Chk ((List.length a.fst+[c.fst].length)*(8:Nat)<=(140737488355328:Nat))
 (Let (a.fst++[c.fst]) fun D=>
 Let (IntKind.i64.wrap (a.snd.snd+(1:Int))) fun E=>w (D,C,E)))
 else
 Let (↑bools3.length:Int) fun F=>
 Yg
 (fun(G:Int->Option (List Int × Int)) (b:Int)=>
 Let (decide (b<F)) fun H=>
 if H=true then
 Chk ((0:Int)<=b/\b<(↑bools3.length:Int))
 (Let (ix bools3 b) fun j=>
 Let (IntKind.i64.wrap ((1:Int)+j)) fun f=>
 Chk ((0:Int)<=f/\f<(↑fields0.length:Int))
 (Let (ix fields0 f) fun I=>
 Let (I != #[(48:UInt8)].toList) fun k=>
 Let (IntKind.i64.wrap ((1:Int)+j)) fun g=>
 Chk ((k==true)=true->(0:Int)<=g/\g<(↑fields0.length:Int))
 (Let (ix fields0 g) fun J=>
 Let (J != #[(49:UInt8)].toList) fun K=>
 Let (bif k then K else false) fun L=>
 if L=true then some ([],(3:Int))
 else Let (IntKind.i64.wrap (b+(1:Int))) fun M=>G M)))
 else if a.snd.fst=true then some ([],(6:Int))else some (a.fst,(0:Int)))
 fuel (0:Int))
 fuel (u,false,(0:Int)))))
noncomputable def jZ (fields0:(List (List UInt8)))(n1:Int):Option ((List Int) × Bool):=
 Chk ((0:Int)<=0/\0<(fields0.length:Int))
 (Let (ix fields0 0) fun c=>
 Rx.Bind (JX fields0 c (fun(a:Tup tb [Ix.tint])=>YV a n1) [])
 fun b=>Let (b.snd==0) fun d=>some (b.fst,d))
noncomputable def Ym (fields0:(List (List UInt8))):Option (Body × Int):=
 Rx.Bind
 (JX fields0 #[(98:UInt8),(111:UInt8),(100:UInt8),(121:UInt8)].toList
 (fun(a:Tup tb [Ix.tint])=>YV a 19) [(14:Int),(15:Int),(16:Int),17])
 fun b=>
 Let (b.snd != 0) fun c=>
 if c then
 some
 ({ID:=(0:Int),Kind:=(0:Int),Transform:={Position:={X:=(0:Int),Y:=0:Vec},Zg:=0:Transform},jX:={X:=(0:Int),Y:=0:Vec},jm:=(0:Int),qu:={X:=(0:Int),Y:=0:Vec},Yq:=(0:Int),jR:=(0:Int),jJ:=(0:Int),jW:=(0:Int),QH:=false,Jf:=false,QG:=false,qe:=false,JC:=(0:Int),jf:=[]:Body},
 b.snd)
 else
 Chk ((0:Int)<=0/\0<((List.length b.fst):Int))
 (Let (ix b.fst 0) fun d=>
 Chk ((0:Int)<=1/\1<((List.length b.fst):Int))
 (Let (ix b.fst 1) fun e=>
 Chk ((0:Int)<=2/\2<((List.length b.fst):Int))
 (Let (ix b.fst 2) fun f=>
 Chk ((0:Int)<=3/\3<((List.length b.fst):Int))
 (Let (ix b.fst 3) fun g=>
 Chk ((0:Int)<=4/\4<((List.length b.fst):Int))
 (Let (ix b.fst 4) fun h=>
 Chk ((0:Int)<=5/\5<((List.length b.fst):Int))
 (Let (ix b.fst 5) fun i=>
 Chk ((0:Int)<=6/\6<((List.length b.fst):Int))
 (Let (ix b.fst 6) fun j=>
 Chk ((0:Int)<=7/\7<((List.length b.fst):Int))
 (Let (ix b.fst 7) fun k=>
 Chk ((0:Int)<=8/\8<((List.length b.fst):Int))
 (Let (ix b.fst 8) fun l=>
 Chk ((0:Int)<=9/\9<((List.length b.fst):Int))
 (Let (ix b.fst 9) fun m=>
 Chk ((0:Int)<=10/\10<((List.length b.fst):Int))
 (Let (ix b.fst 10) fun n=>
 Chk ((0:Int)<=11/\11<((List.length b.fst):Int))
 (Let (ix b.fst 11) fun o=>
 Chk ((0:Int)<=12/\12<((List.length b.fst):Int))
 (Let (ix b.fst 12) fun p=>
 Chk ((0:Int)<=13/\13<((List.length b.fst):Int))
 (Let (ix b.fst 13) fun q=>
 Chk ((0:Int)<=14/\14<((List.length b.fst):Int))
 (Let (ix b.fst 14) fun r=>
 Let (r==1) fun s=>
 Chk ((0:Int)<=15/\15<((List.length b.fst):Int))
 (Let (ix b.fst 15) fun t=>
 Let (t==1) fun u=>
 Chk ((0:Int)<=16/\16<((List.length b.fst):Int))
 (Let (ix b.fst 16) fun v=>
 Let (v==1) fun w=>
 Chk ((0:Int)<=17/\17<((List.length b.fst):Int))
 (Let (ix b.fst 17) fun y=>
 Let (y==1) fun z=>
 Chk ((0:Int)<=18/\18<((List.length b.fst):Int))
 (Let (ix b.fst 18) fun A=>
 some
 ({ID:=d,Kind:=e,Transform:={Position:={X:=f,Y:=g:Vec},Zg:=h:Transform},jX:={X:=i,Y:=j:Vec},jm:=k,qu:={X:=l,Y:=m:Vec},Yq:=n,jR:=o,jJ:=p,jW:=q,QH:=s,Jf:=u,QG:=w,qe:=z,JC:=A,jf:=[]:Body},
 0))))))))))))))))))))
noncomputable def QO (a:Int):Option Bool:=
 Let (decide (a>=(9:Int))) fun b=>
 Let (a.tmod (2:Int)) fun c=>
 Let (c==(1:Int)) fun d=>Let (bif b then d else false) fun e=>some e
noncomputable def ye (fields0:(List (List UInt8))):Option (jT × Int):=
 Rx.Bind
 (JX fields0
 #[(102:UInt8),(105:UInt8),(120:UInt8),(116:UInt8),(117:UInt8),(114:UInt8),(101:UInt8)].toList
 (fun(a:Tup tb [Ix.tint])=>QO a) [3])
 fun b=>
 Let (b.snd != 0) fun g=>
 if g then
 some
 ({Shape:={Kind:=(0:Int),yn:=(0:Int),jg:=[]:Shape},YN:=(0:Int),yA:=(0:Int),Je:=(0:Int),kW:=false,Category:=(0:Int),Mask:=(0:Int),Ki:=0:jT},
 b.snd)
 else
 Chk ((0:Int)<=0/\0<((List.length b.fst):Int))
 (Let (ix b.fst 0) fun h=>
 Chk ((0:Int)<=1/\1<((List.length b.fst):Int))
 (Let (ix b.fst 1) fun i=>
 Chk ((0:Int)<=2/\2<((List.length b.fst):Int))
 (Let (ix b.fst 2) fun j=>
 Chk ((0:Int)<=3/\3<((List.length b.fst):Int))
 (Let (ix b.fst 3) fun k=>
 Let (k==1) fun l=>
 Chk ((0:Int)<=4/\4<((List.length b.fst):Int))
 (Let (ix b.fst 4) fun m=>
 Chk ((0:Int)<=5/\5<((List.length b.fst):Int))
 (Let (ix b.fst 5) fun n=>
 Chk ((0:Int)<=6/\6<((List.length b.fst):Int))
 (Let (ix b.fst 6) fun o=>
 Chk ((0:Int)<=7/\7<((List.length b.fst):Int))
 (Let (ix b.fst 7) fun p=>
 Chk ((0:Int)<=8/\8<((List.length b.fst):Int))
 (Let (ix b.fst 8) fun q=>
 Yg
 (fun(r:Int × jT->Option (jT × Int)) (c:Int × jT)=>
 Let ((List.length b.fst):Int) fun s=>
 Let (decide (c.fst<s)) fun t=>
 if t then
 Chk ((0:Int)<=c.fst/\c.fst<((List.length b.fst):Int))
 (Let (ix b.fst c.fst) fun e=>
 Let (IntKind.i64.wrap (c.fst+1)) fun d=>
 Chk ((0:Int)<=d/\d<((List.length b.fst):Int))
 (Let (ix b.fst d) fun f=>
 Chk ((c.snd.Shape.jg.length+[{X:=e,Y:=f:Vec}].length)*(16:Nat)<=(140737488355328:Nat))
 (Let (c.snd.Shape.jg++[{X:=e,Y:=f:Vec}]) fun u=>
 Let (IntKind.i64.wrap (c.fst+2)) fun v=>
 r
 (v,
 {Shape:={Kind:=c.snd.Shape.Kind,yn:=c.snd.Shape.yn,jg:=u:Shape},YN:=c.snd.YN,yA:=c.snd.yA,Je:=c.snd.Je,kW:=c.snd.kW,Category:=c.snd.Category,Mask:=c.snd.Mask,Ki:=c.snd.Ki:jT}))))
 else some (c.snd,0))
 fuel
 ((9:Int),
 {Shape:={Kind:=p,yn:=q,jg:=[]:Shape},YN:=h,yA:=i,Je:=j,kW:=l,Category:=m,Mask:=n,Ki:=o:jT}))))))))))
noncomputable def Yt (fields0:(List (List UInt8))):Option (yP × Int):=
 Rx.Bind
 (JX fields0 #[(106:UInt8),(111:UInt8),(105:UInt8),(110:UInt8),(116:UInt8)].toList
 (fun(a:Tup tb [Ix.tint])=>YV a (24:Int)) [(11:Int),(14:Int),(19:Int)])
 fun b=>
 Let (b.snd != (0:Int)) fun d=>
 if d=true then
 some
 ({ID:=(0:Int),Kind:=(0:Int),JE:=(0:Int),JH:=(0:Int),yN:={X:=(0:Int),Y:=(0:Int):Vec},Ye:={X:=(0:Int),Y:=(0:Int):Vec},Wb:={X:=(0:Int),Y:=(0:Int):Vec},Ja:=(0:Int),Jk:=false,kg:=(0:Int),kO:=(0:Int),Jm:=false,JY:=(0:Int),YU:=(0:Int),YT:=(0:Int),JZ:=(0:Int),Jc:=false,jD:=((0:Int),(0:Int),(0:Int),(0:Int)):yP},
 b.snd)
 else
 Chk ((0:Int)<=(0:Int)/\(0:Int)<(↑(List.length b.fst):Int))
 (Let (ix b.fst (0:Int)) fun e=>
 Chk ((0:Int)<=(1:Int)/\(1:Int)<(↑(List.length b.fst):Int))
 (Let (ix b.fst (1:Int)) fun f=>
 Chk ((0:Int)<=(2:Int)/\(2:Int)<(↑(List.length b.fst):Int))
 (Let (ix b.fst (2:Int)) fun g=>
 Chk ((0:Int)<=(3:Int)/\(3:Int)<(↑(List.length b.fst):Int))
 (Let (ix b.fst (3:Int)) fun h=>
 Chk ((0:Int)<=(4:Int)/\(4:Int)<(↑(List.length b.fst):Int))
 (Let (ix b.fst (4:Int)) fun i=>
 Chk ((0:Int)<=(5:Int)/\(5:Int)<(↑(List.length b.fst):Int))
 (Let (ix b.fst (5:Int)) fun j=>
 Chk ((0:Int)<=(6:Int)/\(6:Int)<(↑(List.length b.fst):Int))
 (Let (ix b.fst (6:Int)) fun k=>
 Chk ((0:Int)<=(7:Int)/\(7:Int)<(↑(List.length b.fst):Int))
 (Let (ix b.fst (7:Int)) fun l=>
 Chk ((0:Int)<=(8:Int)/\(8:Int)<(↑(List.length b.fst):Int))
 (Let (ix b.fst (8:Int)) fun m=>
 Chk ((0:Int)<=(9:Int)/\(9:Int)<(↑(List.length b.fst):Int))
 (Let (ix b.fst (9:Int)) fun n=>
 Chk ((0:Int)<=(10:Int)/\(10:Int)<(↑(List.length b.fst):Int))
 (Let (ix b.fst (10:Int)) fun o=>
 Chk ((0:Int)<=(11:Int)/\(11:Int)<(↑(List.length b.fst):Int))
 (Let (ix b.fst (11:Int)) fun p=>
 Let (p==(1:Int)) fun q=>
 Chk ((0:Int)<=(12:Int)/\(12:Int)<(↑(List.length b.fst):Int))
 (Let (ix b.fst (12:Int)) fun r=>
 Chk ((0:Int)<=(13:Int)/\(13:Int)<(↑(List.length b.fst):Int))
 (Let (ix b.fst (13:Int)) fun s=>
 Chk ((0:Int)<=(14:Int)/\(14:Int)<(↑(List.length b.fst):Int))
 (Let (ix b.fst (14:Int)) fun t=>
 Let (t==(1:Int)) fun u=>
 Chk ((0:Int)<=(15:Int)/\(15:Int)<(↑(List.length b.fst):Int))
 (Let (ix b.fst (15:Int)) fun v=>
 Chk ((0:Int)<=(16:Int)/\(16:Int)<(↑(List.length b.fst):Int))
 (Let (ix b.fst (16:Int)) fun w=>
 Chk ((0:Int)<=(17:Int)/\(17:Int)<(↑(List.length b.fst):Int))
 (Let (ix b.fst (17:Int)) fun y=>
 Chk ((0:Int)<=(18:Int)/\(18:Int)<(↑(List.length b.fst):Int))
 (Let (ix b.fst (18:Int)) fun z=>
 Chk ((0:Int)<=(19:Int)/\(19:Int)<(↑(List.length b.fst):Int))
 (Let (ix b.fst (19:Int)) fun A=>
 Let (A==(1:Int)) fun B=>
 Chk ((0:Int)<=(20:Int)/\(20:Int)<=(24:Int)/\(24:Int)<=(↑(List.length b.fst):Int))
 (Let (sub b.fst (20:Int) (24:Int)) fun c=>
 Chk ((4:Nat)<=c.length)
 (Let (ix c (↑(0:Nat):Int)) fun C=>
 Let (ix c (↑(1:Nat):Int)) fun D=>
 Let (ix c (↑(2:Nat):Int)) fun E=>
 Let (ix c (↑(3:Nat):Int)) fun F=>
 some
 ({ID:=e,Kind:=f,JE:=g,JH:=h,yN:={X:=i,Y:=j:Vec},Ye:={X:=k,Y:=l:Vec},Wb:={X:=m,Y:=n:Vec},Ja:=o,Jk:=q,kg:=r,kO:=s,Jm:=u,JY:=v,YU:=w,YT:=y,JZ:=z,Jc:=B,jD:=(C,D,E,F):yP},
 (0:Int))))))))))))))))))))))))
def Yw (sec s:Int):Bool := !((sec==0&&s != 1)||(s==1&&sec != 0)||decide (s<sec))
def JU (l:List Int):jo:={jH:={YA:=ix l 0,yF:=⟨ix l 1,ix l 2⟩,JP:=ix l 3,JO:=ix l 4},ji:=[],jP:=[],jc:=[],Overlaps:=[],yM:=ix l 5,Frame:=ix l 6}
def Qv (l:List Int):JL:={Key:=⟨ix l 0,ix l 1,ix l 2,ix l 3⟩,jt:={zT:=⟨ix l 4,ix l 5⟩,jY:=[]}}
def kv (l:List Int):jS:={ve:=⟨ix l 0,ix l 1⟩,Ys:=ix l 2,ID:=ix l 3,Jt:=ix l 4,Jx:=ix l 5}
def keyOf (l:List Int):jC:=⟨ix l 0,ix l 1,ix l 2,ix l 3⟩
def noW:jo:={jH:={YA:=0,yF:={X:=0,Y:=0},JP:=0,JO:=0},ji:=[],jP:=[],jc:=[],Overlaps:=[],yM:=0,Frame:=0}
def MT (l:List Body)(f:jT):Option (List Body):=
 match l.getLast? with
 |some b=>if l.length<1048576/\b.jf.length<1048576 then some (l.dropLast++[{b with jf:=b.jf++[f]}])else none
 |none=>none
def MS (l:List JL)(p:jS):Option (List JL):=
 match l.getLast? with
 |some c=>if l.length<1048576/\c.jt.jY.length<1048576 then some (l.dropLast++[{c with jt:={c.jt with jY:=c.jt.jY++[p]}}])else none
 |none=>none
noncomputable def jaG (x:jo)(sec:Int):List (List UInt8)->Option (jo × Int × Bool)
 | []=>some (x,sec,false)
 |k::rest=>
 if k=[119,111,114,108,100]then
 Rx.Bind (jZ (k::rest) 7) fun(r:List Int × Bool)=>if r.2=true->r.1.length=7 then some (if(r.2&&Yw sec 1)=true then(JU r.1,1,true)else(x,sec,false))else none
 else if k=[98,111,100,121]then
 Rx.Bind (Ym (k::rest)) fun(r:Body × Int)=>if r.1.jf=[]/\x.ji.length<1048576 then some (if(r.2==0&&Yw sec 2)=true then({x with ji:=x.ji++[r.1]},2,true)else(x,sec,false))else none
 else if k=[102,105,120,116,117,114,101]then
 Rx.Bind (ye (k::rest)) fun(r:jT × Int)=>if sec=2 then Rx.Bind (MT x.ji r.1) fun(l:List Body)=>some (if(r.2==0)=true then({x with ji:=l},2,true)else(x,sec,false))else some (x,sec,false)
 else if k=[106,111,105,110,116]then
 Rx.Bind (Yt (k::rest)) fun(r:yP × Int)=>if x.jP.length<1048576 then some (if(r.2==0&&Yw sec 3)=true then({x with jP:=x.jP++[r.1]},3,true)else(x,sec,false))else none
 else if k=[99,111,110,116,97,99,116]then
 Rx.Bind (jZ (k::rest) 6) fun(r:List Int × Bool)=>if(r.2=true->r.1.length=6)/\x.jc.length<1048576 then some (if(r.2&&Yw sec 4)=true then({x with jc:=x.jc++[Qv r.1]},4,true)else(x,sec,false))else none
 else if k=[112,111,105,110,116]then
 Rx.Bind (jZ (k::rest) 6) fun(r:List Int × Bool)=>if r.2=true->r.1.length=6 then(if sec=4 then Rx.Bind (MS x.jc (kv r.1)) fun(l:List JL)=>some (if r.2=true then({x with jc:=l},4,true)else(x,sec,false))else some (x,sec,false))else none
 else if k=[111,118,101,114,108,97,112]then
 Rx.Bind (jZ (k::rest) 4) fun(r:List Int × Bool)=>if(r.2=true->r.1.length=4)/\x.Overlaps.length<1048576 then some (if(r.2&&Yw sec 5)=true then({x with Overlaps:=x.Overlaps++[keyOf r.1]},5,true)else(x,sec,false))else none
 else some (x,sec,false)
noncomputable def vU:List (List UInt8)->Nat->jo->Int->Option (jo × Int)
 | [],i,x,sec=>some (if sec=0 then(noW,(i:Int)+1)else(x,0))
 |l::ls,i,x,sec=>Rx.Bind (zu l) fun(r:List (List UInt8) × Int)=>Rx.Bind (jaG x sec (if r.2=0 then r.1 else[])) fun(s:jo × Int × Bool)=>if s.2.2=true then vU ls (i+1) s.1 s.2.1 else some (noW,(i:Int)+1)
noncomputable def zq (text0:List UInt8):Option (jo × Int × Int):=
 Rx.Bind (zd text0) fun(r:List (List UInt8) × Int)=>if r.2≠0 then some (noW,0,r.2)else if r.1.length<1048576 then Rx.Bind (vU r.1 0 noW 0) fun(t:jo × Int)=>if t.2≠0 then some (noW,t.2,27)else Rx.Bind (zF t.1) fun(v:Int)=>if v≠0 then some (noW,0,18)else some (t.1,0,0)else none
noncomputable def kG (a0:(List jC))(b1:(List jC)):Option Bool:=
 Let (a0.length:Int) fun d=>
 Let (b1.length:Int) fun e=>
 Let (d != e) fun f=>
 if f then some false
 else
 Yg
 (fun(g:Int->Option Bool) (a:Int)=>
 Let (a0.length:Int) fun h=>
 Let (decide (a<h)) fun i=>
 if i then
 Chk (0<=a/\a<a0.length)
 (Let (ix a0 a) fun b=>
 Chk (0<=a/\a<b1.length)
 (Let (ix b1 a) fun c=>
 Let
 (!(decide (b.JE=c.JE)&&
 (decide (b.Jd=c.Jd)&&
 (decide (b.JH=c.JH)&&decide (b.Jj=c.Jj)))))
 fun j=>
 if j then some false else Let (IntKind.i64.wrap (a+1)) fun k=>g k))
 else some true)
 fuel 0
noncomputable def QT (a0:(List Vec))(b1:(List Vec)):Option Bool:=
 Let (a0.length:Int) fun d=>
 Let (b1.length:Int) fun e=>
 Let (d != e) fun f=>
 if f then some false
 else
 Yg
 (fun(g:Int->Option Bool) (a:Int)=>
 Let (a0.length:Int) fun h=>
 Let (decide (a<h)) fun i=>
 if i then
 Chk (0<=a/\a<a0.length)
 (Let (ix a0 a) fun b=>
 Chk (0<=a/\a<b1.length)
 (Let (ix b1 a) fun c=>
 Let (!(decide (b.X=c.X)&&decide (b.Y=c.Y))) fun j=>
 if j then some false else Let (IntKind.i64.wrap (a+1)) fun k=>g k))
 else some true)
 fuel 0
noncomputable def ZQ (a0:Shape)(b1:Shape):Option Bool:=
 Let (a0.Kind==b1.Kind) fun b=>
 Let (a0.yn==b1.yn) fun c=>
 Let (bif b then c else false) fun a=>
 Rx.Bind (if(a==true)=true then QT a0.jg b1.jg else some default)
 fun d=>Let (bif a then d else false) fun e=>some e
noncomputable def qy (a0:jT)(b1:jT):Option Bool:=
 Rx.Bind (ZQ a0.Shape b1.Shape) fun a=>
 Let (a0.YN==b1.YN) fun b=>
 Let (bif a then b else false) fun c=>
 Let (a0.yA==b1.yA) fun d=>
 Let (bif c then d else false) fun e=>
 Let (a0.Je==b1.Je) fun f=>
 Let (bif e then f else false) fun g=>
 Let (a0.kW==b1.kW) fun h=>
 Let (bif g then h else false) fun i=>
 Let (a0.Category==b1.Category) fun j=>
 Let (bif i then j else false) fun k=>
 Let (a0.Mask==b1.Mask) fun l=>
 Let (bif k then l else false) fun m=>
 Let (a0.Ki==b1.Ki) fun n=>Let (bif m then n else false) fun o=>some o
noncomputable def zD (a0:Body)(b1:Body):Option Bool:=
 Let (a0.jf.length:Int) fun b=>
 Let (b1.jf.length:Int) fun c=>
 Let (b != c) fun d=>
 if d then some false
 else
 Yg
 (fun(e:Int->Option Bool) (a:Int)=>
 Let (a0.jf.length:Int) fun f=>
 Let (decide (a<f)) fun g=>
 Let (b1.jf.length:Int) fun h=>
 Let (decide (a<h)) fun i=>
 Let (bif g then i else false) fun j=>
 if j then
 Chk (0<=a/\a<a0.jf.length)
 (Let (ix a0.jf a) fun k=>
 Chk (0<=a/\a<b1.jf.length)
 (Let (ix b1.jf a) fun l=>
 Rx.Bind (qy k l) fun m=>
 Let (!m) fun n=>
 if n then some false else Let (IntKind.i64.wrap (a+1)) fun o=>e o))
 else
 Let (a0.ID != b1.ID) fun p=>
 Let (a0.Kind != b1.Kind) fun q=>
 Let (bif p then true else q) fun r=>
 Let
 (!(decide (a0.Transform.Position.X=b1.Transform.Position.X)&&
 decide (a0.Transform.Position.Y=b1.Transform.Position.Y)&&
 decide (a0.Transform.Zg=b1.Transform.Zg)))
 fun s=>
 Let (bif r then true else s) fun t=>
 Let (!(decide (a0.jX.X=b1.jX.X)&&decide (a0.jX.Y=b1.jX.Y))) fun u=>
 Let (bif t then true else u) fun v=>
 Let (a0.jm != b1.jm) fun w=>
 Let (bif v then true else w) fun y=>
 Let (!(decide (a0.qu.X=b1.qu.X)&&decide (a0.qu.Y=b1.qu.Y))) fun z=>
 Let (bif y then true else z) fun A=>
 Let (a0.Yq != b1.Yq) fun B=>
 Let (bif A then true else B) fun C=>
 if C then some false
 else
 Let (a0.jR==b1.jR) fun D=>
 Let (a0.jJ==b1.jJ) fun E=>
 Let (bif D then E else false) fun F=>
 Let (a0.jW==b1.jW) fun G=>
 Let (bif F then G else false) fun H=>
 Let (a0.QH==b1.QH) fun I=>
 Let (bif H then I else false) fun J=>
 Let (a0.Jf==b1.Jf) fun K=>
 Let (bif J then K else false) fun L=>
 Let (a0.QG==b1.QG) fun M=>
 Let (bif L then M else false) fun N=>
 Let (a0.qe==b1.qe) fun O=>
 Let (bif N then O else false) fun P=>
 Let (a0.JC==b1.JC) fun Q=>
 Let (bif P then Q else false) fun R=>some R)
 fuel 0
noncomputable def ZP (a0:jt)(b1:jt):Option Bool:=
 Let (!(decide (a0.zT.X=b1.zT.X)&&decide (a0.zT.Y=b1.zT.Y))) fun d=>
 Let (a0.jY.length:Int) fun e=>
 Let (b1.jY.length:Int) fun f=>
 Let (e != f) fun g=>
 Let (bif d then true else g) fun h=>
 if h then some false
 else
 Yg
 (fun(i:Int->Option Bool) (a:Int)=>
 Let (a0.jY.length:Int) fun j=>
 Let (decide (a<j)) fun k=>
 if k then
 Chk (0<=a/\a<a0.jY.length)
 (Let (ix a0.jY a) fun b=>
 Chk (0<=a/\a<b1.jY.length)
 (Let (ix b1.jY a) fun c=>
 Let
 (!(decide (b.ve.X=c.ve.X)&&decide (b.ve.Y=c.ve.Y)&&
 (decide (b.Ys=c.Ys)&&
 (decide (b.ID=c.ID)&&
 (decide (b.Jt=c.Jt)&&decide (b.Jx=c.Jx))))))
 fun l=>
 if l then some false else Let (IntKind.i64.wrap (a+1)) fun m=>i m))
 else some true)
 fuel 0
noncomputable def Qj (a0:jo)(b1:jo):Option Bool:=
 Let
 (!(decide (a0.jH.YA=b1.jH.YA)&&
 (decide (a0.jH.yF.X=b1.jH.yF.X)&&decide (a0.jH.yF.Y=b1.jH.yF.Y)&&
 (decide (a0.jH.JP=b1.jH.JP)&&
 decide (a0.jH.JO=b1.jH.JO)))))
 fun j=>
 Let (a0.yM != b1.yM) fun k=>
 Let (bif j then true else k) fun l=>
 Let (a0.Frame != b1.Frame) fun m=>
 Let (bif l then true else m) fun n=>
 Let (a0.ji.length:Int) fun o=>
 Let (b1.ji.length:Int) fun p=>
 Let (o != p) fun q=>
 Let (bif n then true else q) fun r=>
 Let (a0.jP.length:Int) fun s=>
 Let (b1.jP.length:Int) fun t=>
 Let (s != t) fun u=>
 Let (bif r then true else u) fun v=>
 Let (a0.jc.length:Int) fun w=>
 Let (b1.jc.length:Int) fun y=>
 Let (w != y) fun z=>
 Let (bif v then true else z) fun i=>
 Rx.Bind (if(i==false)=true then kG a0.Overlaps b1.Overlaps else some default)
 fun A=>
 Let (!A) fun B=>
 Let (bif i then true else B) fun C=>
 if C then some false
 else
 Yg
 (fun(D:Int->Option Bool) (d:Int)=>
 Let (a0.ji.length:Int) fun E=>
 Let (decide (d<E)) fun F=>
 if F then
 Chk (0<=d/\d<a0.ji.length)
 (Let (ix a0.ji d) fun G=>
 Chk (0<=d/\d<b1.ji.length)
 (Let (ix b1.ji d) fun H=>
 Rx.Bind (zD G H) fun I=>
 Let (!I) fun J=>
 if J then some false else Let (IntKind.i64.wrap (d+1)) fun K=>D K))
 else
 Yg
 (fun(L:Int->Option Bool) (e:Int)=>
 Let (a0.jP.length:Int) fun M=>
 Let (decide (e<M)) fun N=>
 if N then
 Chk (0<=e/\e<a0.jP.length)
 (Let (ix a0.jP e) fun a=>
 Chk (0<=e/\e<b1.jP.length)
 (Let (ix b1.jP e) fun b=>
 Let
 (!(decide (a.ID=b.ID)&&
 (decide (a.Kind=b.Kind)&&
 (decide (a.JE=b.JE)&&
 (decide (a.JH=b.JH)&&
 (decide (a.yN.X=b.yN.X)&&decide (a.yN.Y=b.yN.Y)&&
 (decide (a.Ye.X=b.Ye.X)&&decide (a.Ye.Y=b.Ye.Y)&&
 (decide (a.Wb.X=b.Wb.X)&&decide (a.Wb.Y=b.Wb.Y)&&
 (decide (a.Ja=b.Ja)&&
 (decide (a.Jk=b.Jk)&&
 (decide (a.kg=b.kg)&&
 (decide (a.kO=b.kO)&&
 (decide (a.Jm=b.Jm)&&
 (decide (a.JY=b.JY)&&
 (decide (a.YU=b.YU)&&
 (decide (a.YT=b.YT)&&
 (decide (a.JZ=b.JZ)&&
 (decide (a.Jc=b.Jc)&&
 (decide (a.jD.fst=b.jD.fst)&&
 (decide (a.jD.snd.fst=b.jD.snd.fst)&&
 (decide (a.jD.snd.snd.fst=b.jD.snd.snd.fst)&&
 decide (a.jD.snd.snd.snd=b.jD.snd.snd.snd))))))))))))))))))))))
 fun O=>
 if O then some false else Let (IntKind.i64.wrap (e+1)) fun P=>L P))
 else
 Yg
 (fun(Q:Int->Option Bool) (c:Int)=>
 Let (a0.jc.length:Int) fun R=>
 Let (decide (c<R)) fun S=>
 if S then
 Chk (0<=c/\c<a0.jc.length)
 (Let (ix a0.jc c) fun f=>
 Chk (0<=c/\c<b1.jc.length)
 (Let (ix b1.jc c) fun g=>
 Let
 (!(decide (f.Key.JE=g.Key.JE)&&
 (decide (f.Key.Jd=g.Key.Jd)&&
 (decide (f.Key.JH=g.Key.JH)&&decide (f.Key.Jj=g.Key.Jj)))))
 fun h=>
 Chk ((h==false)=true->0<=c/\c<a0.jc.length)
 (Let (ix a0.jc c) fun T=>
 Chk ((h==false)=true->0<=c/\c<b1.jc.length)
 (Let (ix b1.jc c) fun U=>
 Rx.Bind (if(h==false)=true then ZP T.jt U.jt else some default)
 fun V=>
 Let (!V) fun W=>
 Let (bif h then true else W) fun Z=>
 if Z then some false else Let (IntKind.i64.wrap (c+1)) fun x0=>Q x0))))
 else some true)
 fuel 0)
 fuel 0)
 fuel 0
noncomputable def Qx  : Option Bool:=
 Rx.Bind
 (Xi
 {jH:={YA:=(1092:Int),yF:={X:=(0:Int),Y:=(-655360:Int):Vec},JP:=(8:Int),JO:=60:jH},ji:=[],jP:=[],jc:=[],Overlaps:=[],yM:=(1:Int),Frame:=0:jo})
 fun b=>
 Rx.Bind
 (zq
 #[(119:UInt8),(111:UInt8),(114:UInt8),(108:UInt8),(100:UInt8),(32:UInt8),(49:UInt8),(48:UInt8),
 (57:UInt8),(50:UInt8),(32:UInt8),(48:UInt8),(32:UInt8),(45:UInt8),(54:UInt8),(53:UInt8),
 (53:UInt8),(51:UInt8),(54:UInt8),(48:UInt8),(32:UInt8),(56:UInt8),(32:UInt8),(54:UInt8),
 (48:UInt8),(32:UInt8),(49:UInt8),(32:UInt8),(48:UInt8),(10:UInt8)].toList)
 fun a=>
 Rx.Bind
 (zq
 #[(119:UInt8),(111:UInt8),(114:UInt8),(108:UInt8),(100:UInt8),(32:UInt8),(49:UInt8),(48:UInt8),
 (57:UInt8),(50:UInt8),(32:UInt8),(48:UInt8),(32:UInt8),(45:UInt8),(54:UInt8),(53:UInt8),
 (53:UInt8),(51:UInt8),(54:UInt8),(48:UInt8),(32:UInt8),(56:UInt8),(32:UInt8),(54:UInt8),
 (48:UInt8),(32:UInt8),(49:UInt8),(32:UInt8),(48:UInt8),(10:UInt8),(119:UInt8),(111:UInt8),
 (114:UInt8),(108:UInt8),(100:UInt8),(32:UInt8),(49:UInt8),(48:UInt8),(57:UInt8),(50:UInt8),
 (32:UInt8),(48:UInt8),(32:UInt8),(45:UInt8),(54:UInt8),(53:UInt8),(53:UInt8),(51:UInt8),
 (54:UInt8),(48:UInt8),(32:UInt8),(56:UInt8),(32:UInt8),(54:UInt8),(48:UInt8),(32:UInt8),
 (49:UInt8),(32:UInt8),(48:UInt8),(10:UInt8)].toList)
 fun c=>
 Let
 (b.fst==
 #[(119:UInt8),(111:UInt8),(114:UInt8),(108:UInt8),(100:UInt8),(32:UInt8),(49:UInt8),(48:UInt8),
 (57:UInt8),(50:UInt8),(32:UInt8),(48:UInt8),(32:UInt8),(45:UInt8),(54:UInt8),(53:UInt8),
 (53:UInt8),(51:UInt8),(54:UInt8),(48:UInt8),(32:UInt8),(56:UInt8),(32:UInt8),(54:UInt8),
 (48:UInt8),(32:UInt8),(49:UInt8),(32:UInt8),(48:UInt8),(10:UInt8)].toList)
 fun e=>
 Let (b.snd==0) fun f=>
 Let (bif e then f else false) fun d=>
 Rx.Bind
 (if(d==true)=true then
 Qj a.fst
 {jH:={YA:=(1092:Int),yF:={X:=(0:Int),Y:=(-655360:Int):Vec},JP:=(8:Int),JO:=60:jH},ji:=[],jP:=[],jc:=[],Overlaps:=[],yM:=(1:Int),Frame:=0:jo}
 else some default)
 fun g=>
 Let (bif d then g else false) fun h=>
 Let (a.snd.fst==0) fun i=>
 Let (bif h then i else false) fun j=>
 Let (a.snd.snd==0) fun k=>
 Let (bif j then k else false) fun l=>
 Let (c.snd.fst==2) fun m=>
 Let (bif l then m else false) fun n=>
 Let (c.snd.snd==27) fun o=>
 Let (bif n then o else false) fun p=>some p
noncomputable def yg (n0:Int)(low1:Int)(high2:Int):Option Bool:=
 Let (decide (n0>=low1)) fun a=>
 Let (decide (n0<=high2)) fun b=>Let (bif a then b else false) fun c=>some c
noncomputable def Yp (a:jH):Option Int:=
 Rx.Bind (yg a.YA 64 8192) fun f=>
 Let (!f) fun b=>
 Rx.Bind
 (if(b==false)=true then yg a.yF.X (-16777216:Int) 16777216 else some default)
 fun g=>
 Let (!g) fun h=>
 Let (bif b then true else h) fun c=>
 Rx.Bind
 (if(c==false)=true then yg a.yF.Y (-16777216:Int) 16777216 else some default)
 fun i=>
 Let (!i) fun j=>
 Let (bif c then true else j) fun d=>
 Rx.Bind (if(d==false)=true then yg a.JP 1 32 else some default)
 fun k=>
 Let (!k) fun l=>
 Let (bif d then true else l) fun e=>
 Rx.Bind (if(e==false)=true then yg a.JO 0 1048576 else some default)
 fun m=>
 Let (!m) fun n=>
 Let (bif e then true else n) fun o=>if o then some (6:Int)else some (0:Int)
noncomputable def Ji (x0:Int)(low1:Int)(high2:Int):Option Bool:=
 Let (decide (x0>=low1)) fun a=>
 Let (decide (x0<=high2)) fun b=>Let (bif a then b else false) fun c=>some c
noncomputable def Qw (x0:Int):Option Bool:=
 Let (decide (x0<(-268435456:Int))) fun a=>
 Let (decide (x0>268435456)) fun b=>
 Let (bif a then true else b) fun c=>some c
noncomputable def ZT (p0:Transform):Option Bool:=
 Rx.Bind (Qw p0.Position.X) fun b=>
 Let (!b) fun a=>
 Rx.Bind (if(a==true)=true then Qw p0.Position.Y else some default) fun c=>
 Let (!c) fun d=>
 Let (bif a then d else false) fun e=>
 Let (decide (p0.Zg>=(-205888:Int))) fun f=>
 Let (bif e then f else false) fun g=>
 Let (decide (p0.Zg<205888)) fun h=>
 Let (bif g then h else false) fun i=>some i
noncomputable def zP (b0:Body):Option Bool:=
 Rx.Bind (Ji b0.ID 1 1099511627776) fun j=>
 Let (!j) fun a=>
 Rx.Bind (if(a==false)=true then ZT b0.Transform else some default) fun k=>
 Let (!k) fun l=>
 Let (bif a then true else l) fun b=>
 Rx.Bind
 (if(b==false)=true then Ji b0.jX.X (-16777216:Int) 16777216 else some default)
 fun m=>
 Let (!m) fun n=>
 Let (bif b then true else n) fun c=>
 Rx.Bind
 (if(c==false)=true then Ji b0.jX.Y (-16777216:Int) 16777216 else some default)
 fun o=>
 Let (!o) fun p=>
 Let (bif c then true else p) fun d=>
 Rx.Bind
 (if(d==false)=true then Ji b0.jm (-4194304:Int) 4194304 else some default)
 fun q=>
 Let (!q) fun r=>
 Let (bif d then true else r) fun s=>
 if s then some false
 else
 Rx.Bind (Ji b0.qu.X (-536870911:Int) 536870911) fun t=>
 Let (!t) fun e=>
 Rx.Bind
 (if(e==false)=true then Ji b0.qu.Y (-536870911:Int) 536870911 else some default)
 fun u=>
 Let (!u) fun v=>
 Let (bif e then true else v) fun f=>
 Rx.Bind (if(f==false)=true then Ji b0.Yq (-536870911:Int) 536870911 else some default)
 fun w=>
 Let (!w) fun y=>
 Let (bif f then true else y) fun z=>
 if z then some false
 else
 Rx.Bind (Ji b0.jR 0 65536) fun g=>
 Rx.Bind (if(g==true)=true then Ji b0.jJ 0 65536 else some default)
 fun A=>
 Let (bif g then A else false) fun h=>
 Rx.Bind (if(h==true)=true then Ji b0.jW (-262144:Int) 262144 else some default)
 fun B=>
 Let (bif h then B else false) fun i=>
 Rx.Bind (if(i==true)=true then Ji b0.JC 0 1048576 else some default)
 fun C=>Let (bif i then C else false) fun D=>some D
noncomputable def qz (a:Shape):Option Bool:=
 Let (a.jg.length:Int) fun b=>
 Let (a.Kind==3) fun c=>
 if c then
 Let (decide (b>=3)) fun d=>
 Let (decide (b<=8)) fun e=>
 Let (bif d then e else false) fun f=>some f
 else Let (b==a.Kind) fun g=>some g
noncomputable def zf (x0:Int)(m1:Int):Option Bool:=
 Let (IntKind.i64.wrap ((0:Int) - m1)) fun a=>
 Let (decide (x0>=a)) fun b=>
 Let (decide (x0<=m1)) fun c=>Let (bif b then c else false) fun d=>some d
noncomputable def yl (x0:Int):Option Int:=
 Let (decide (x0>536870911)) fun a=>
 if a then some (536870911:Int)
 else
 Let (decide (x0<(-536870911:Int))) fun b=>if b then some (-536870911:Int)else some x0
noncomputable def ZJ (a0:Int)(b1:Int):Option Int:=
 Rx.Bind (yl a0) fun a=>
 Rx.Bind (yl b1) fun b=>
 Let (IntKind.i64.wrap (a - b)) fun c=>
 Rx.Bind (yl c) fun d=>some d
noncomputable def ZI (a0:Vec)(b1:Vec):Option Vec:=
 Rx.Bind (ZJ a0.X b1.X) fun a=>
 Rx.Bind (ZJ a0.Y b1.Y) fun b=>some {X:=a,Y:=b:Vec}
noncomputable def yD (v0:Vec):Option Vec:=
 Rx.Bind (yl v0.X) fun a=>
 Rx.Bind (yl v0.Y) fun b=>some {X:=a,Y:=b:Vec}
noncomputable def yZ (n0:Int):Option Bool:=
 Let (decide (n0>4611686018427387904)) fun a=>
 Let (decide (n0<(-4611686018427387904:Int))) fun b=>
 Let (bif a then true else b) fun c=>some c
noncomputable def ZU (n0:Int):Option Int:=
 Let (decide (n0<(0:Int))) fun b=>
 Rx.Bind (if(b==false)=true then yZ n0 else some default) fun d=>
 Let (bif b then true else d) fun e=>
 if e=true then some (0:Int)
 else
 Yg
 (fun(f:Int × Int->Option Int) (a:Int × Int)=>
 Let (decide (a.snd>(0:Int))) fun g=>
 if g=true then
 Join
 (fun(v1457:Int)=>Let (IntKind.i64.wrap (Int.tdiv a.snd (2:Int))) fun h=>f (v1457,h))
 fun(j1459:Int->Option Int)=>
 Let (IntKind.i64.wrap (a.fst+a.snd)) fun i=>
 Let (IntKind.i64.wrap (a.fst+a.snd)) fun c=>
 Chk (c≠(0:Int))
 (Let (IntKind.i64.wrap (n0.tdiv c)) fun j=>
 Let (decide (i<=j)) fun k=>
 if k=true then Let (IntKind.i64.wrap (a.fst+a.snd)) fun l=>j1459 l
 else j1459 a.fst)
 else some a.fst)
 fuel ((0:Int),(2147483648:Int))
noncomputable def qP (v0:Vec):Option Int:=
 Rx.Bind (yD v0) fun a=>
 Let (IntKind.i64.wrap (a.X*a.X)) fun b=>
 Let (IntKind.i64.wrap (a.Y*a.Y)) fun c=>
 Let (IntKind.i64.wrap (b+c)) fun d=>
 Rx.Bind (ZU d) fun e=>some e
noncomputable def zQ (v0:Vec):Option Bool:=
 Let (decide (v0.X>=(-1048576:Int))) fun a=>
 Let (decide (v0.X<=1048576)) fun b=>
 Let (bif a then b else false) fun c=>
 Let (decide (v0.Y>=(-1048576:Int))) fun d=>
 Let (bif c then d else false) fun e=>
 Let (decide (v0.Y<=1048576)) fun f=>
 Let (bif e then f else false) fun g=>some g
noncomputable def Qf (a0:Vec)(b1:Vec)(c2:Vec):Option Int:=
 Rx.Bind (yD a0) fun a=>
 Rx.Bind (yD b1) fun b=>
 Rx.Bind (yD c2) fun c=>
 Let (IntKind.i64.wrap (b.X - a.X)) fun e=>
 Let (IntKind.i64.wrap (c.Y - a.Y)) fun f=>
 Let (IntKind.i64.wrap (e*f)) fun g=>
 Let (IntKind.i64.wrap (b.Y - a.Y)) fun h=>
 Let (IntKind.i64.wrap (c.X - a.X)) fun i=>
 Let (IntKind.i64.wrap (h*i)) fun j=>
 Let (IntKind.i64.wrap (g - j)) fun d=>
 Let (decide (d>0)) fun k=>
 if k then some (1:Int)
 else Let (decide (d<0)) fun l=>if l then some (-1:Int)else some (0:Int)
noncomputable def YL (vertices0:(List Vec)):Option Bool:=
 Let (vertices0.length:Int) fun a=>
 Let (decide (a<3)) fun g=>
 Let (decide (a>8)) fun h=>
 Let (bif g then true else h) fun i=>
 if i then some false
 else
 Yg
 (fun(j:Int->Option Bool) (d:Int)=>
 Let (decide (d<a)) fun k=>
 if k then
 Chk (0<=d/\d<vertices0.length)
 (Let (ix vertices0 d) fun l=>
 Rx.Bind (zQ l) fun m=>
 Let (!m) fun n=>
 if n then some false else Let (IntKind.i64.wrap (d+1)) fun o=>j o)
 else
 Yg
 (fun(p:Int->Option Bool) (b:Int)=>
 Let (decide (b<a)) fun q=>
 if q then
 Let (IntKind.i64.wrap (b+1)) fun r=>
 Chk (a≠0)
 (Let (r.tmod a) fun f=>
 Yg
 (fun(s:Int->Option Bool) (c:Int)=>
 Let (decide (c<a)) fun t=>
 if t then
 Let (c != b) fun u=>
 Let (c != f) fun v=>
 Let (bif u then v else false) fun e=>
 Chk ((e==true)=true->0<=b/\b<vertices0.length)
 (Let (ix vertices0 b) fun w=>
 Chk ((e==true)=true->0<=f/\f<vertices0.length)
 (Let (ix vertices0 f) fun y=>
 Chk ((e==true)=true->0<=c/\c<vertices0.length)
 (Let (ix vertices0 c) fun z=>
 Rx.Bind (if(e==true)=true then Qf w y z else some default) fun A=>
 Let (A != 1) fun B=>
 Let (bif e then B else false) fun C=>
 if C then some false else Let (IntKind.i64.wrap (c+1)) fun D=>s D)))
 else Let (IntKind.i64.wrap (b+1)) fun E=>p E)
 fuel 0)
 else some true)
 fuel 0)
 fuel 0
noncomputable def qA (vertices0:(List Vec)):Option Int:=
 Rx.Bind (YL vertices0) fun e=>
 Let (!e) fun f=>
 if f then some (0:Int)
 else
 Yg
 (fun(g:Int × Int->Option Int) (a:Int × Int)=>
 Let (vertices0.length:Int) fun h=>
 Let (decide (a.snd<h)) fun i=>
 if i then
 Join (fun(v1525:Int)=>Let (IntKind.i64.wrap (a.snd+1)) fun j=>g (v1525,j))
 fun(j1527:Int->Option Int)=>
 Let (IntKind.i64.wrap (a.snd+1)) fun k=>
 Let (vertices0.length:Int) fun c=>
 Chk (c≠0)
 (Let (k.tmod c) fun b=>
 Chk (0<=b/\b<vertices0.length)
 (Let (ix vertices0 b) fun l=>
 Chk (0<=a.snd/\a.snd<vertices0.length)
 (Let (ix vertices0 a.snd) fun m=>
 Rx.Bind (ZI l m) fun n=>
 Rx.Bind (qP n) fun d=>
 Let (decide (a.fst<0)) fun o=>
 Let (decide (d<a.fst)) fun p=>
 Let (bif o then true else p) fun q=>if q then j1527 d else j1527 a.fst)))
 else some a.fst)
 fuel ((-1:Int),0)
noncomputable def qW (n0:Int)(d1:Int):Option Int:=
 Let (decide (d1<1)) fun b=>
 Rx.Bind (if(b==false)=true then yZ d1 else some default) fun e=>
 Let (bif b then true else e) fun c=>
 Rx.Bind (if(c==false)=true then yZ n0 else some default) fun f=>
 Let (bif c then true else f) fun g=>
 if g then some (0:Int)
 else
 Join
 (fun(v1543:Int)=>
 Chk (d1≠0)
 (Let (IntKind.i64.wrap (v1543.tdiv d1)) fun a=>
 Let (IntKind.i64.wrap (a*d1)) fun h=>
 Let (IntKind.i64.wrap (v1543 - h)) fun d=>
 Join
 (fun(v1547:Int)=>
 Let (decide (n0<0)) fun i=>
 if i then Let (IntKind.i64.wrap ((0:Int) - v1547)) fun j=>some j else some v1547)
 fun(j1550:Int->Option Int)=>
 Let (IntKind.i64.wrap (d1 - d)) fun k=>
 Let (decide (d>=k)) fun l=>
 if l then Let (IntKind.i64.wrap (a+1)) fun m=>j1550 m else j1550 a))
 fun(j1554:Int->Option Int)=>
 Let (decide (n0<0)) fun n=>
 if n then Let (IntKind.i64.wrap ((0:Int) - n0)) fun o=>j1554 o else j1554 n0
noncomputable def ZR (v0:(List Vec))(i1:Int):Option Int:=
 Chk ((0:Int)<=i1/\i1<(v0.length:Int))
 (Let (ix v0 i1) fun c=>
 Chk ((0:Int)<=0/\0<(v0.length:Int))
 (Let (ix v0 0) fun d=>
 Let (IntKind.i64.wrap (c.X - d.X)) fun e=>
 Chk ((0:Int)<=i1/\i1<(v0.length:Int))
 (Let (ix v0 i1) fun f=>
 Chk ((0:Int)<=0/\0<(v0.length:Int))
 (Let (ix v0 0) fun g=>
 Let (IntKind.i64.wrap (f.Y - g.Y)) fun h=>
 Let (IntKind.i64.wrap (i1+1)) fun a=>
 Chk ((0:Int)<=a/\a<(v0.length:Int))
 (Let (ix v0 a) fun i=>
 Chk ((0:Int)<=0/\0<(v0.length:Int))
 (Let (ix v0 0) fun j=>
 Let (IntKind.i64.wrap (i.X - j.X)) fun k=>
 Let (IntKind.i64.wrap (i1+1)) fun b=>
 Chk ((0:Int)<=b/\b<(v0.length:Int))
 (Let (ix v0 b) fun l=>
 Chk ((0:Int)<=0/\0<(v0.length:Int))
 (Let (ix v0 0) fun m=>
 Let (IntKind.i64.wrap (l.Y - m.Y)) fun n=>
 Let (IntKind.i64.wrap (e*n)) fun o=>
 Let (IntKind.i64.wrap (h*k)) fun p=>
 Let (IntKind.i64.wrap (o - p)) fun q=>
 Rx.Bind (qW q 65536) fun r=>some r))))))))
noncomputable def kH (vertices0:(List Vec)):Option Int:=
 Rx.Bind (YL vertices0) fun b=>
 Let (!b) fun c=>
 if c then some (0:Int)
 else
 Yg
 (fun(d:Int × Int->Option Int) (a:Int × Int)=>
 Let (IntKind.i64.wrap (a.snd+1)) fun e=>
 Let (vertices0.length:Int) fun f=>
 Let (decide (e<f)) fun g=>
 if g then
 Rx.Bind (ZR vertices0 a.snd) fun h=>
 Let (IntKind.i64.wrap (a.fst+h)) fun i=>
 Let (IntKind.i64.wrap (a.snd+1)) fun j=>d (i,j)
 else Rx.Bind (qW a.fst 2) fun k=>some k)
 fuel ((0:Int),1)
noncomputable def zy (a:Shape):Option Int:=
 Let (decide (a.Kind<(1:Int))) fun h=>
 Let (decide (a.Kind>(3:Int))) fun i=>
 Let (bif h then true else i) fun j=>
 if j=true then some (10:Int)
 else
 Rx.Bind (qz a) fun k=>
 Let (!k) fun l=>
 if l=true then some (11:Int)
 else
 Yg
 (fun(m:Int->Option Int) (b:Int)=>
 Let (↑a.jg.length:Int) fun n=>
 Let (decide (b<n)) fun o=>
 if o=true then
 Chk ((0:Int)<=b/\b<(↑a.jg.length:Int))
 (Let (ix a.jg b) fun p=>
 Rx.Bind (zf p.X (1048576:Int)) fun q=>
 Let (!q) fun e=>
 Chk ((e==false)=true->(0:Int)<=b/\b<(↑a.jg.length:Int))
 (Let (ix a.jg b) fun r=>
 Rx.Bind (if(e==false)=true then zf r.Y (1048576:Int)else some default)
 fun s=>
 Let (!s) fun t=>
 Let (bif e then true else t) fun u=>
 if u=true then some (6:Int)else Let (IntKind.i64.wrap (b+(1:Int))) fun v=>m v))
 else
 Let (a.Kind==(3:Int)) fun w=>
 Let (a.yn != (0:Int)) fun y=>
 Let (bif w then y else false) fun z=>
 Let (a.Kind != (3:Int)) fun A=>
 Let (decide (a.yn<(2048:Int))) fun B=>
 Let (decide (a.yn>(524288:Int))) fun C=>
 Let (bif B then true else C) fun D=>
 Let (bif A then D else false) fun E=>
 Let (bif z then true else E) fun F=>
 if F=true then some (6:Int)
 else
 Let (a.Kind==(2:Int)) fun c=>
 Chk ((c==true)=true->(0:Int)<=(1:Int)/\(1:Int)<(↑a.jg.length:Int))
 (Let (ix a.jg (1:Int)) fun G=>
 Chk ((c==true)=true->(0:Int)<=(0:Int)/\(0:Int)<(↑a.jg.length:Int))
 (Let (ix a.jg (0:Int)) fun H=>
 Rx.Bind (if(c==true)=true then ZI G H else some {X:=default,Y:=default:Vec})
 fun I=>
 Rx.Bind (if(c==true)=true then qP I else some default) fun J=>
 Let (decide (J<(4096:Int))) fun K=>
 Let (bif c then K else false) fun L=>
 if L=true then some (12:Int)
 else
 Let (a.Kind==(3:Int)) fun d=>
 Rx.Bind (if(d==true)=true then YL a.jg else some default) fun M=>
 Let (!M) fun f=>
 Rx.Bind (if(d==true&&f==false)=true then qA a.jg else some default)
 fun N=>
 Let (decide (N<(4096:Int))) fun O=>
 Let (bif f then true else O) fun g=>
 Rx.Bind (if(d==true&&g==false)=true then kH a.jg else some default)
 fun P=>
 Let (decide (P<(256:Int))) fun Q=>
 Let (bif g then true else Q) fun R=>
 Let (bif d then R else false) fun S=>if S=true then some (12:Int)else some (0:Int))))
 fuel (0:Int)
noncomputable def Yz (a:jT):Option Int:=
 Rx.Bind (zy a.Shape) fun b=>
 Let (b != 0) fun h=>
 if h then some b
 else
 Rx.Bind (Ji a.YN 0 262144) fun i=>
 Let (!i) fun c=>
 Rx.Bind (if(c==false)=true then Ji a.yA 0 131072 else some default)
 fun j=>
 Let (!j) fun k=>
 Let (bif c then true else k) fun d=>
 Rx.Bind (if(d==false)=true then Ji a.Je 0 65536 else some default)
 fun l=>
 Let (!l) fun m=>
 Let (bif d then true else m) fun e=>
 Rx.Bind (if(e==false)=true then Ji a.Category 0 65535 else some default)
 fun n=>
 Let (!n) fun o=>
 Let (bif e then true else o) fun f=>
 Rx.Bind (if(f==false)=true then Ji a.Mask 0 65535 else some default)
 fun p=>
 Let (!p) fun q=>
 Let (bif f then true else q) fun g=>
 Rx.Bind (if(g==false)=true then Ji a.Ki (-32:Int) 32 else some default)
 fun r=>
 Let (!r) fun s=>
 Let (bif g then true else s) fun t=>if t then some (6:Int)else some (0:Int)
noncomputable def YK (b0:Body):Option Int:=
 Let (b0.Kind != 1) fun c=>
 Let (b0.Kind != 2) fun d=>
 Let (bif c then d else false) fun e=>
 Let (b0.Kind != 3) fun f=>
 Let (bif e then f else false) fun g=>
 if g then some (10:Int)
 else
 Rx.Bind (zP b0) fun h=>
 Let (!h) fun i=>
 if i then some (6:Int)
 else
 Let (b0.jf.length:Int) fun j=>
 Let (decide (j>4)) fun k=>
 if k then some (11:Int)
 else
 Yg
 (fun(l:Int->Option Int) (a:Int)=>
 Let (b0.jf.length:Int) fun m=>
 Let (decide (a<m)) fun n=>
 if n then
 Chk (0<=a/\a<b0.jf.length)
 (Let (ix b0.jf a) fun o=>
 Rx.Bind (Yz o) fun p=>
 Let (p != 0) fun q=>
 if q then some (13:Int)else Let (IntKind.i64.wrap (a+1)) fun r=>l r)
 else
 Let (!(decide (b0.jX.X=0)&&decide (b0.jX.Y=0))) fun s=>
 Let (b0.jm != 0) fun t=>
 Let (bif s then true else t) fun b=>
 Let (!(decide (b0.qu.X=0)&&decide (b0.qu.Y=0))) fun u=>
 Let (b0.Yq != 0) fun v=>
 Let (bif u then true else v) fun w=>
 Let (b0.Kind==1) fun y=>
 Let (bif b then true else w) fun z=>
 Let (bif y then z else false) fun A=>
 Let (b0.Kind != 3) fun B=>
 Let (bif b0.qe then true else b0.QH) fun C=>
 Let (bif B then C else false) fun D=>
 Let (bif A then true else D) fun E=>
 Let (bif b0.qe then b else false) fun F=>
 Let (bif E then true else F) fun G=>if G then some (14:Int)else some (0:Int))
 fuel 0
noncomputable def Qb (w0:jo):Option Bool:=
 Yg
 (fun(c:Int × Int->Option Bool) (a:Int × Int)=>
 Let (w0.ji.length:Int) fun d=>
 Let (decide (a.snd<d)) fun e=>
 if e then
 Chk (0<=a.snd/\a.snd<w0.ji.length)
 (Let (ix w0.ji a.snd) fun b=>
 Rx.Bind (YK b) fun f=>
 Let (f != 0) fun g=>
 Let (decide (b.ID>=w0.yM)) fun h=>
 Let (bif g then true else h) fun i=>
 Let (decide (a.snd>0)) fun j=>
 Let (decide (b.ID<=a.fst)) fun k=>
 Let (bif j then k else false) fun l=>
 Let (bif i then true else l) fun m=>
 if m then some false
 else Let (IntKind.i64.wrap (a.snd+1)) fun n=>c (b.ID,n))
 else some true)
 fuel ((0:Int),0)
noncomputable def jV (x0:Int)(low1:Int)(high2:Int):Option Bool:=
 Let (decide (x0>=low1)) fun a=>
 Let (decide (x0<=high2)) fun b=>Let (bif a then b else false) fun c=>some c
noncomputable def YJ (v0:Vec)(m1:Int):Option Bool:=
 Let (IntKind.i64.wrap ((0:Int) - m1)) fun b=>
 Rx.Bind (jV v0.X b m1) fun a=>
 Let (IntKind.i64.wrap ((0:Int) - m1)) fun c=>
 Rx.Bind (if(a==true)=true then jV v0.Y c m1 else some default) fun d=>
 Let (bif a then d else false) fun e=>some e
noncomputable def Qe (j0:yP):Option Bool:=
 Rx.Bind (jV j0.kg (-268435456:Int) 268435456) fun b=>
 Let (!b) fun a=>
 Rx.Bind
 (if(a==false)=true then jV j0.kO (-268435456:Int) 268435456 else some default)
 fun c=>
 Let (!c) fun d=>
 Let (bif a then true else d) fun e=>
 Let (decide (j0.kg>j0.kO)) fun f=>
 Let (bif e then true else f) fun g=>
 if g then some false
 else
 Let (j0.Kind==1) fun h=>
 if h then Let (decide (j0.kg>=0)) fun i=>some i
 else
 Let (j0.Kind != 2) fun j=>
 Let (decide (j0.kg>=(-205888:Int))) fun k=>
 Let (decide (j0.kO<=205888)) fun l=>
 Let (bif k then l else false) fun m=>
 Let (bif j then true else m) fun n=>some n
noncomputable def Qd (j0:yP):Option Bool:=
 Join
 (fun(v1716:Int)=>
 Yg
 (fun(i:Int->Option Bool) (a:Int)=>
 Let (decide (a<4)) fun j=>
 if j then
 Chk (0<=a/\a<((4:Nat):Int))
 (Chk
 (0<=a/\
 a<([j0.jD.fst,j0.jD.snd.fst,j0.jD.snd.snd.fst,j0.jD.snd.snd.snd].length:Int))
 (Let (ix [j0.jD.fst,j0.jD.snd.fst,j0.jD.snd.snd.fst,j0.jD.snd.snd.snd] a)
 fun k=>
 Rx.Bind (jV k (-536870911:Int) 536870911) fun l=>
 Let (!l) fun m=>
 if m then some false else Let (IntKind.i64.wrap (a+1)) fun n=>i n))
 else
 Rx.Bind (jV j0.ID 1 1099511627776) fun o=>
 Let (!o) fun b=>
 Rx.Bind (if(b==false)=true then YJ j0.yN v1716 else some default) fun p=>
 Let (!p) fun q=>
 Let (bif b then true else q) fun c=>
 Rx.Bind (if(c==false)=true then YJ j0.Ye 1048576 else some default)
 fun r=>
 Let (!r) fun s=>
 Let (bif c then true else s) fun d=>
 Rx.Bind
 (if(d==false)=true then jV j0.Ja (-205888:Int) 205887 else some default)
 fun t=>
 Let (!t) fun u=>
 Let (bif d then true else u) fun e=>
 Rx.Bind (if(e==false)=true then Qe j0 else some default) fun v=>
 Let (!v) fun w=>
 Let (bif e then true else w) fun y=>
 if y then some false
 else
 Rx.Bind (jV j0.JY (-16777216:Int) 16777216) fun f=>
 Rx.Bind (if(f==true)=true then jV j0.YU 0 536870911 else some default)
 fun z=>
 Let (bif f then z else false) fun g=>
 Rx.Bind (if(g==true)=true then jV j0.YT 0 536870911 else some default)
 fun A=>
 Let (bif g then A else false) fun h=>
 Rx.Bind (if(h==true)=true then jV j0.JZ 0 536870911 else some default)
 fun B=>Let (bif h then B else false) fun C=>some C)
 fuel 0)
 fun(j1745:Int->Option Bool)=>
 Let (j0.Kind==5) fun D=>if D then j1745 268435456 else j1745 1048576
noncomputable def zx (j0:yP):Option Int:=
 Let (decide (j0.Kind<1)) fun f=>
 Let (decide (j0.Kind>5)) fun g=>
 Let (bif f then true else g) fun h=>
 if h then some (10:Int)
 else
 Rx.Bind (Qd j0) fun i=>
 Let (!i) fun j=>
 if j then some (6:Int)
 else
 Rx.Bind (jV j0.JH 1 1099511627776) fun k=>
 Let (!k) fun l=>
 Let (j0.Kind==5) fun m=>
 Let (j0.JE != 0) fun n=>
 Let (bif m then n else false) fun o=>
 Let (bif l then true else o) fun b=>
 Let (j0.Kind != 5) fun c=>
 Rx.Bind
 (if(b==false&&c==true)=true then jV j0.JE 1 1099511627776
 else some default)
 fun p=>
 Let (!p) fun q=>
 Let (j0.JE==j0.JH) fun r=>
 Let (bif q then true else r) fun s=>
 Let (bif c then s else false) fun t=>
 Let (bif b then true else t) fun u=>
 if u then some (14:Int)
 else
 Let (decide (j0.Wb.X=0)&&decide (j0.Wb.Y=0)) fun v=>
 Let (j0.Kind==3) fun a=>
 Rx.Bind (if(a==true)=true then qP j0.Wb else some default) fun w=>
 Rx.Bind (if(a==true)=true then jV w 65520 65552 else some default)
 fun y=>
 Let (!y) fun z=>
 Let (bif a then z else false) fun A=>
 Let (j0.Kind != 3) fun B=>
 Let (!v) fun C=>
 Let (bif B then C else false) fun D=>
 Let (bif A then true else D) fun E=>
 if E then some (15:Int)
 else
 Let (j0.Kind==1) fun d=>
 Let (j0.Kind==4) fun F=>
 Let (j0.Kind==5) fun G=>
 Let (bif F then true else G) fun e=>
 Let (bif d then true else e) fun H=>
 Let (bif H then j0.Jm else false) fun I=>
 Let (bif e then j0.Jk else false) fun J=>
 Let (bif I then true else J) fun K=>
 Let (!j0.Jk) fun L=>
 Let (bif d then L else false) fun M=>
 Let (bif K then true else M) fun N=>if N then some (15:Int)else some (0:Int)
noncomputable def yS (w0:jo)(id1:Int):Option Int:=
 Yg
 (fun(b:Int->Option Int) (a:Int)=>
 Let (w0.ji.length:Int) fun c=>
 Let (decide (a<c)) fun d=>
 if d then
 Chk (0<=a/\a<w0.ji.length)
 (Let (ix w0.ji a) fun e=>
 Let (e.ID==id1) fun f=>
 if f then some a else Let (IntKind.i64.wrap (a+1)) fun g=>b g)
 else some (-1:Int))
 fuel 0
noncomputable def QS (w0:jo)(j1:yP):Option Bool:=
 Let (j1.JE==0) fun a=>
 Rx.Bind (if(a==false)=true then yS w0 j1.JE else some default) fun d=>
 Let (decide (d>=0)) fun e=>
 Let (bif a then true else e) fun b=>
 Let (j1.JH==0) fun c=>
 Rx.Bind (if(b==true&&c==false)=true then yS w0 j1.JH else some default)
 fun f=>
 Let (decide (f>=0)) fun g=>
 Let (bif c then true else g) fun h=>
 Let (bif b then h else false) fun i=>some i
noncomputable def Qa (w0:jo):Option Bool:=
 Yg
 (fun(e:Int × Int->Option Bool) (a:Int × Int)=>
 Let (w0.jP.length:Int) fun f=>
 Let (decide (a.snd<f)) fun g=>
 if g then
 Chk (0<=a.snd/\a.snd<w0.jP.length)
 (Let (ix w0.jP a.snd) fun b=>
 Rx.Bind (zx b) fun h=>
 Let (h != 0) fun i=>
 Let (decide (b.ID>=w0.yM)) fun j=>
 Let (bif i then true else j) fun k=>
 Let (decide (a.snd>0)) fun l=>
 Let (decide (b.ID<=a.fst)) fun m=>
 Let (bif l then m else false) fun n=>
 Let (bif k then true else n) fun c=>
 Rx.Bind (if(c==false)=true then QS w0 b else some default) fun o=>
 Let (!o) fun p=>
 Let (bif c then true else p) fun d=>
 Rx.Bind (if(d==false)=true then yS w0 b.ID else some default) fun q=>
 Let (decide (q>=0)) fun r=>
 Let (bif d then true else r) fun s=>
 if s then some false
 else Let (IntKind.i64.wrap (a.snd+1)) fun t=>e (b.ID,t))
 else some true)
 fuel ((0:Int),0)
noncomputable def Ze (l0:(List JL)):Option (List jC):=
 Yg
 (fun(c:List jC × Int->Option (List jC)) (a:List jC × Int)=>
 Let (l0.length:Int) fun d=>
 Let (decide (a.snd<d)) fun e=>
 if e then
 Chk (0<=a.snd/\a.snd<l0.length)
 (Let (ix l0 a.snd) fun b=>
 Chk ((List.length a.fst+[b.Key].length)*(32:Nat)<=(140737488355328:Nat))
 (Let (a.fst++[b.Key]) fun f=>
 Let (IntKind.i64.wrap (a.snd+1)) fun g=>c (f,g)))
 else some a.fst)
 fuel ([],0)
noncomputable def kF (a0:jC)(b1:jC):Option Bool:=
 Let (a0.JE != b1.JE) fun a=>
 if a then Let (decide (a0.JE<b1.JE)) fun b=>some b
 else
 Let (a0.Jd != b1.Jd) fun c=>
 if c then Let (decide (a0.Jd<b1.Jd)) fun d=>some d
 else
 Let (a0.JH != b1.JH) fun e=>
 if e then Let (decide (a0.JH<b1.JH)) fun f=>some f
 else Let (decide (a0.Jj<b1.Jj)) fun g=>some g
noncomputable def qt (l0:(List jC)):Option Bool:=
 Yg
 (fun(f:Int->Option Bool) (a:Int)=>
 Let (l0.length:Int) fun g=>
 Let (decide (a<g)) fun h=>
 if h then
 Chk (0<=a/\a<l0.length)
 (Let (ix l0 a) fun b=>
 Let (decide (b.JE>=b.JH)) fun i=>
 Let (decide (b.Jd<0)) fun j=>
 Let (bif i then true else j) fun k=>
 Let (decide (b.Jd>3)) fun l=>
 Let (bif k then true else l) fun m=>
 Let (decide (b.Jj<0)) fun n=>
 Let (bif m then true else n) fun o=>
 Let (decide (b.Jj>3)) fun p=>
 Let (bif o then true else p) fun c=>
 Let (decide (a>0)) fun d=>
 Let (IntKind.i64.wrap (a - 1)) fun e=>
 Chk ((c==false&&d==true)=true->0<=e/\e<l0.length)
 (Let (ix l0 e) fun q=>
 Rx.Bind (if(c==false&&d==true)=true then kF q b else some default)
 fun r=>
 Let (!r) fun s=>
 Let (bif d then s else false) fun t=>
 Let (bif c then true else t) fun u=>
 if u then some false else Let (IntKind.i64.wrap (a+1)) fun v=>f v))
 else some true)
 fuel 0
noncomputable def ze (w0:jo)(id1:Int)(n2:Int):Option Bool:=
 Rx.Bind (yS w0 id1) fun a=>
 Let (decide (a>=0)) fun c=>
 Let (decide (n2>=0)) fun d=>
 Let (bif c then d else false) fun b=>
 Chk ((b==true)=true->0<=a/\a<w0.ji.length)
 (Let (ix w0.ji a) fun e=>
 Let (e.jf.length:Int) fun f=>
 Let (decide (n2<f)) fun g=>Let (bif b then g else false) fun h=>some h)
noncomputable def qV (w0:jo)(l1:(List jC)):Option Bool:=
 Yg
 (fun(c:Int->Option Bool) (a:Int)=>
 Let (l1.length:Int) fun d=>
 Let (decide (a<d)) fun e=>
 if e then
 Chk (0<=a/\a<l1.length)
 (Let (ix l1 a) fun f=>
 Chk (0<=a/\a<l1.length)
 (Let (ix l1 a) fun g=>
 Rx.Bind (ze w0 f.JE g.Jd) fun h=>
 Let (!h) fun b=>
 Chk ((b==false)=true->0<=a/\a<l1.length)
 (Let (ix l1 a) fun i=>
 Chk ((b==false)=true->0<=a/\a<l1.length)
 (Let (ix l1 a) fun j=>
 Rx.Bind (if(b==false)=true then ze w0 i.JH j.Jj else some default)
 fun k=>
 Let (!k) fun l=>
 Let (bif b then true else l) fun m=>
 if m then some false else Let (IntKind.i64.wrap (a+1)) fun n=>c n))))
 else some true)
 fuel 0
noncomputable def Yr (v0:Vec):Option Bool:=
 Rx.Bind (yg v0.X (-536870911:Int) 536870911) fun a=>
 Rx.Bind (if(a==true)=true then yg v0.Y (-536870911:Int) 536870911 else some default)
 fun b=>Let (bif a then b else false) fun c=>some c
noncomputable def YD (m0:jt):Option Bool:=
 Let (↑m0.jY.length:Int) fun c=>
 Let (decide (c<(1:Int))) fun j=>
 Let (decide (c>(2:Int))) fun k=>
 Let (bif j then true else k) fun d=>
 Let (c==(2:Int)) fun e=>
 Chk ((d==false&&e==true)=true->(0:Int)<=(0:Int)/\(0:Int)<(↑m0.jY.length:Int))
 (Let (ix m0.jY (0:Int)) fun l=>
 Chk ((d==false&&e==true)=true->(0:Int)<=(1:Int)/\(1:Int)<(↑m0.jY.length:Int))
 (Let (ix m0.jY (1:Int)) fun m=>
 Let (l.ID==m.ID) fun n=>
 Let (bif e then n else false) fun o=>
 Let (bif d then true else o) fun f=>
 Rx.Bind (if(f==false)=true then Yr m0.zT else some default) fun p=>
 Let (!p) fun q=>
 Let (bif f then true else q) fun r=>
 if r=true then some false
 else
 Yg
 (fun(s:Int->Option Bool) (a:Int)=>
 Let (decide (a<c)) fun t=>
 if t=true then
 Chk ((0:Int)<=a/\a<(↑m0.jY.length:Int))
 (Let (ix m0.jY a) fun b=>
 Rx.Bind (yg b.Jt (0:Int) (536870911:Int)) fun u=>
 Let (!u) fun g=>
 Rx.Bind
 (if(g==false)=true then yg b.Jx (-536870911:Int) (536870911:Int)
 else some default)
 fun v=>
 Let (!v) fun w=>
 Let (bif g then true else w) fun h=>
 Rx.Bind (if(h==false)=true then Yr b.ve else some default) fun y=>
 Let (!y) fun z=>
 Let (bif h then true else z) fun i=>
 Rx.Bind
 (if(i==false)=true then Yr {X:=b.Ys,Y:=b.ID:Vec}else some default)
 fun A=>
 Let (!A) fun B=>
 Let (bif i then true else B) fun C=>
 if C=true then some false else Let (IntKind.i64.wrap (a+(1:Int))) fun D=>s D)
 else some true)
 fuel (0:Int)))
noncomputable def ql (w0:jo):Option Bool:=
 Rx.Bind (Ze w0.jc) fun b=>
 Rx.Bind (qt b) fun f=>
 Let (!f) fun c=>
 Rx.Bind (if(c==false)=true then qt w0.Overlaps else some default) fun g=>
 Let (!g) fun h=>
 Let (bif c then true else h) fun d=>
 Rx.Bind (if(d==false)=true then qV w0 b else some default) fun i=>
 Let (!i) fun j=>
 Let (bif d then true else j) fun e=>
 Rx.Bind (if(e==false)=true then qV w0 w0.Overlaps else some default) fun k=>
 Let (!k) fun l=>
 Let (bif e then true else l) fun m=>
 if m then some false
 else
 Yg
 (fun(n:Int->Option Bool) (a:Int)=>
 Let (w0.jc.length:Int) fun o=>
 Let (decide (a<o)) fun p=>
 if p then
 Chk (0<=a/\a<w0.jc.length)
 (Let (ix w0.jc a) fun q=>
 Rx.Bind (YD q.jt) fun r=>
 Let (!r) fun s=>
 if s then some false else Let (IntKind.i64.wrap (a+1)) fun t=>n t)
 else some true)
 fuel 0
noncomputable def YI (w0:jo):Option Int:=
 Rx.Bind (Yp w0.jH) fun b=>
 Let (b != 0) fun c=>
 if c then some (17:Int)
 else
 Let (w0.ji.length:Int) fun d=>
 Let (decide (d>32)) fun e=>
 Let (w0.jP.length:Int) fun f=>
 Let (decide (f>32)) fun g=>
 Let (bif e then true else g) fun h=>
 Let (w0.jc.length:Int) fun i=>
 Let (decide (i>8192)) fun j=>
 Let (bif h then true else j) fun k=>
 Let (w0.Overlaps.length:Int) fun l=>
 Let (decide (l>8192)) fun m=>
 Let (bif k then true else m) fun n=>
 if n then some (11:Int)
 else
 Rx.Bind (yg w0.yM 1 1099511627776) fun o=>
 Let (!o) fun a=>
 Rx.Bind (if(a==false)=true then yg w0.Frame 0 1099511627776 else some default)
 fun p=>
 Let (!p) fun q=>
 Let (bif a then true else q) fun r=>
 if r then some (6:Int)
 else
 Rx.Bind (Qb w0) fun s=>
 Let (!s) fun t=>
 if t then some (14:Int)
 else
 Rx.Bind (Qa w0) fun u=>
 Let (!u) fun v=>
 if v then some (15:Int)
 else
 Rx.Bind (ql w0) fun w=>
 Let (!w) fun y=>if y then some (16:Int)else some (0:Int)
noncomputable def ZV (b:(List UInt8)):Option Bool:=
 Yg
 (fun(c:Int × Int->Option Bool) (a:Int × Int)=>
 Let (b.length:Int) fun d=>
 Let (decide (a.snd<d)) fun e=>
 if e then
 Join (fun(v2097:Int)=>Let (IntKind.i64.wrap (a.snd+1)) fun f=>c (v2097,f))
 fun(j2099:Int->Option Bool)=>
 Chk (0<=a.snd/\a.snd<b.length)
 (Let (ix b a.snd) fun g=>
 Let (g==toByte 10) fun h=>
 if h then Let (IntKind.i64.wrap (a.fst+1)) fun i=>j2099 i
 else j2099 a.fst)
 else
 Let (b.length:Int) fun j=>
 Let (decide (j<=20000)) fun k=>
 Let (decide (a.fst<=200)) fun l=>
 Let (bif k then l else false) fun m=>some m)
 fuel ((0:Int),0)
noncomputable def qd (text0:(List UInt8)):Option ((List (List UInt8)) × Int):=
 Yg
 (fun(c:List (List UInt8) × Int × Int->Option (List (List UInt8) × Int))
 (a:List (List UInt8) × Int × Int)=>
 Let (text0.length:Int) fun d=>
 Let (decide (a.snd.snd<d)) fun e=>
 if e then
 Join
 (fun(v2111:List (List UInt8) × Int)=>
 Let (IntKind.i64.wrap (a.snd.snd+1)) fun f=>c (v2111.fst,v2111.snd,f))
 fun(j2113:List (List UInt8) × Int->Option (List (List UInt8) × Int))=>
 Chk (0<=a.snd.snd/\a.snd.snd<text0.length)
 (Let (ix text0 a.snd.snd) fun g=>
 Let (g==toByte 10) fun h=>
 if h then
 Chk (0<=a.snd.fst/\a.snd.fst<=a.snd.snd/\a.snd.snd<=text0.length)
 (Let (sub text0 a.snd.fst a.snd.snd) fun b=>
 Chk ((List.length a.fst+[b].length)*(16:Nat)<=(140737488355328:Nat))
 (Let (a.fst++[b]) fun i=>
 Let (IntKind.i64.wrap (a.snd.snd+1)) fun j=>j2113 (i,j)))
 else j2113 (a.fst,a.snd.fst))
 else
 Let (text0.length:Int) fun k=>
 Let (decide (a.snd.fst<k)) fun l=>
 if l then some ([],3)else some (a.fst,0))
 fuel ([],(0:Int),0)
noncomputable def zR (b:(List UInt8)):Option Bool:=
 Yg
 (fun(d:Int->Option Bool) (a:Int)=>
 Let (b.length:Int) fun e=>
 Let (decide (a<e)) fun f=>
 if f then
 Chk (0<=a/\a<b.length)
 (Let (ix b a) fun g=>
 Let (decide (g<toByte 33)) fun c=>
 Chk ((c==false)=true->0<=a/\a<b.length)
 (Let (ix b a) fun h=>
 Let (decide (toByte 126<h)) fun i=>
 Let (bif c then true else i) fun j=>
 if j then some false else Let (IntKind.i64.wrap (a+1)) fun k=>d k))
 else Let (b != #[].toList) fun l=>some l)
 fuel 0
noncomputable def qO (line0:(List UInt8)):Option ((List (List UInt8)) × Int):=
 Let (line0==#[].toList) fun d=>
 if d then some ([],0)
 else
 Yg
 (fun(e:List (List UInt8) × Int × Int->Option (List (List UInt8) × Int))
 (a:List (List UInt8) × Int × Int)=>
 Let (line0.length:Int) fun f=>
 Let (decide (a.snd.snd<=f)) fun g=>
 if g then
 Join
 (fun(v2137:List (List UInt8) × Int)=>
 Let (IntKind.i64.wrap (a.snd.snd+1)) fun h=>e (v2137.fst,v2137.snd,h))
 fun(j2139:List (List UInt8) × Int->Option (List (List UInt8) × Int))=>
 Let (line0.length:Int) fun i=>
 Let (decide (a.snd.snd<i)) fun b=>
 Chk ((b==true)=true->0<=a.snd.snd/\a.snd.snd<line0.length)
 (Let (ix line0 a.snd.snd) fun j=>
 Let (j != toByte 32) fun k=>
 Let (bif b then k else false) fun l=>
 if l then j2139 (a.fst,a.snd.fst)
 else
 Chk (0<=a.snd.fst/\a.snd.fst<=a.snd.snd/\a.snd.snd<=line0.length)
 (Let (sub line0 a.snd.fst a.snd.snd) fun m=>
 Rx.Bind (zR m) fun n=>
 Let (!n) fun o=>
 if o then some ([],3)
 else
 Chk (0<=a.snd.fst/\a.snd.fst<=a.snd.snd/\a.snd.snd<=line0.length)
 (Let (sub line0 a.snd.fst a.snd.snd) fun c=>
 Chk ((List.length a.fst+[c].length)*(16:Nat)<=(140737488355328:Nat))
 (Let (a.fst++[c]) fun p=>
 Let (IntKind.i64.wrap (a.snd.snd+1)) fun q=>j2139 (p,q)))))
 else some (a.fst,0))
 fuel ([],(0:Int),0)
noncomputable def qk (keyword0:(List UInt8)):Option Int:=
 Let (keyword0==#[(119:UInt8),(111:UInt8),(114:UInt8),(108:UInt8),(100:UInt8)].toList)
 fun c=>
 if c then some (0:Int)
 else
 Join
 (fun(v2152:Bool)=>
 if v2152 then some (1:Int)
 else
 Let (keyword0==#[(106:UInt8),(111:UInt8),(105:UInt8),(110:UInt8),(116:UInt8)].toList)
 fun d=>
 if d then some (2:Int)
 else
 Join
 (fun(v2154:Bool)=>
 if v2154 then some (3:Int)
 else
 Let
 (keyword0==
 #[(111:UInt8),(118:UInt8),(101:UInt8),(114:UInt8),(108:UInt8),(97:UInt8),(112:UInt8)].toList)
 fun e=>if e then some (4:Int)else some (-1:Int))
 fun(j2156:Bool->Option Int)=>
 Let
 (keyword0==
 #[(99:UInt8),(111:UInt8),(110:UInt8),(116:UInt8),(97:UInt8),(99:UInt8),(116:UInt8)].toList)
 fun a=>
 if a then j2156 a
 else
 Let (keyword0==#[(112:UInt8),(111:UInt8),(105:UInt8),(110:UInt8),(116:UInt8)].toList)
 fun f=>j2156 f)
 fun(j2159:Bool->Option Int)=>
 Let (keyword0==#[(98:UInt8),(111:UInt8),(100:UInt8),(121:UInt8)].toList) fun b=>
 if b then j2159 b
 else
 Let
 (keyword0==
 #[(102:UInt8),(105:UInt8),(120:UInt8),(116:UInt8),(117:UInt8),(114:UInt8),(101:UInt8)].toList)
 fun g=>j2159 g
noncomputable def jU (last0:(List UInt8))(keyword1:(List UInt8)):Option Bool:=
 Let (keyword1==#[(119:UInt8),(111:UInt8),(114:UInt8),(108:UInt8),(100:UInt8)].toList)
 fun c=>
 if c then Let (last0==#[].toList) fun d=>some d
 else
 Let
 (keyword1==
 #[(102:UInt8),(105:UInt8),(120:UInt8),(116:UInt8),(117:UInt8),(114:UInt8),(101:UInt8)].toList)
 fun e=>
 if e then
 Let (last0==#[(98:UInt8),(111:UInt8),(100:UInt8),(121:UInt8)].toList) fun f=>
 Let
 (last0==
 #[(102:UInt8),(105:UInt8),(120:UInt8),(116:UInt8),(117:UInt8),(114:UInt8),(101:UInt8)].toList)
 fun g=>Let (bif f then true else g) fun h=>some h
 else
 Let (keyword1==#[(112:UInt8),(111:UInt8),(105:UInt8),(110:UInt8),(116:UInt8)].toList)
 fun i=>
 if i then
 Let
 (last0==
 #[(99:UInt8),(111:UInt8),(110:UInt8),(116:UInt8),(97:UInt8),(99:UInt8),(116:UInt8)].toList)
 fun j=>
 Let (last0==#[(112:UInt8),(111:UInt8),(105:UInt8),(110:UInt8),(116:UInt8)].toList) fun k=>
 Let (bif j then true else k) fun l=>some l
 else
 Let (last0 != #[].toList) fun b=>
 Rx.Bind (if(b==true)=true then qk keyword1 else some default) fun m=>
 Let (decide (m>=0)) fun n=>
 Let (bif b then n else false) fun a=>
 Rx.Bind (if(a==true)=true then qk last0 else some default) fun o=>
 Rx.Bind (if(a==true)=true then qk keyword1 else some default) fun p=>
 Let (decide (o<=p)) fun q=>
 Let (bif a then q else false) fun r=>some r
noncomputable def QU (b:(List UInt8)):Option Bool:=
 Let (b==#[(48:UInt8)].toList) fun f=>
 if f=true then some true
 else
 Join
 (fun(v2181:List UInt8)=>
 Yg
 (fun(g:Int->Option Bool) (a:Int)=>
 Let (↑v2181.length:Int) fun h=>
 Let (decide (a<h)) fun i=>
 if i=true then
 Chk ((0:Int)<=a/\a<(↑v2181.length:Int))
 (Let (ix v2181 a) fun j=>
 Let (decide (j<toByte (48:Int))) fun c=>
 Chk ((c==false)=true->(0:Int)<=a/\a<(↑v2181.length:Int))
 (Let (ix v2181 a) fun k=>
 Let (decide (toByte (57:Int)<k)) fun l=>
 Let (bif c then true else l) fun m=>
 if m=true then some false else Let (IntKind.i64.wrap (a+(1:Int))) fun n=>g n))
 else
 Let (↑v2181.length:Int) fun o=>
 Let (decide (o>(0:Int))) fun d=>
 Chk ((d==true)=true->(0:Int)<=(0:Int)/\(0:Int)<(↑v2181.length:Int))
 (Let (ix v2181 (0:Int)) fun p=>
 Let (p != toByte (48:Int)) fun q=>
 Let (bif d then q else false) fun r=>some r))
 fuel (0:Int))
 fun(j2197:List UInt8->Option Bool)=>
 Let (↑b.length:Int) fun s=>
 Let (decide (s>(0:Int))) fun e=>
 Chk ((e==true)=true->(0:Int)<=(0:Int)/\(0:Int)<(↑b.length:Int))
 (Let (ix b (0:Int)) fun t=>
 Let (t==toByte (45:Int)) fun u=>
 Let (bif e then u else false) fun v=>
 if v=true then
 Chk ((0:Int)<=(1:Int)/\(1:Int)<=(↑b.length:Int))
 (Let (List.drop (1:Nat) b) fun w=>j2197 w)
 else j2197 b)
noncomputable def ZS (b:(List UInt8))(limit1:Int):Option (Int × Bool):=
 Yg
 (fun(d:Int × Bool × Int->Option (Int × Bool)) (a:Int × Bool × Int)=>
 Let (↑b.length:Int) fun e=>
 Let (decide (a.snd.snd<e)) fun f=>
 if f=true then
 Join
 (fun(v2208:Int × Bool)=>
 Let (IntKind.i64.wrap (a.snd.snd+(1:Int))) fun g=>d (v2208.fst,v2208.snd,g))
 fun(j2210:Int × Bool->Option (Int × Bool))=>
 Chk ((0:Int)<=a.snd.snd/\a.snd.snd<(↑b.length:Int))
 (Let (ix b a.snd.snd) fun h=>
 Let (h==toByte (45:Int)) fun i=>
 if i=true then j2210 (a.fst,true)
 else
 Chk ((0:Int)<=a.snd.snd/\a.snd.snd<(↑b.length:Int))
 (Let (ix b a.snd.snd) fun j=>
 Let (↑j.toNat:Int) fun k=>
 Let (IntKind.i64.wrap (k - (48:Int))) fun c=>
 Let (IntKind.i64.wrap (limit1 - c)) fun l=>
 Let (IntKind.i64.wrap (l.tdiv (10:Int))) fun m=>
 Let (decide (a.fst>m)) fun n=>
 if n=true then some ((0:Int),false)
 else
 Let (IntKind.i64.wrap ((10:Int)*a.fst)) fun o=>
 Let (IntKind.i64.wrap (o+c)) fun p=>j2210 (p,a.snd.fst)))
 else
 Join (fun(v2221:Int)=>some (v2221,true)) fun(j2222:Int->Option (Int × Bool))=>
 if a.snd.fst=true then Let (IntKind.i64.wrap ((0:Int) - a.fst)) fun q=>j2222 q
 else j2222 a.fst)
 fuel ((0:Int),false,(0:Int))
noncomputable def zz (a:(List UInt8)):Option (Int × Int):=
 Rx.Bind (QU a) fun c=>
 Let (!c) fun d=>
 if d then some ((0:Int),3)
 else
 Rx.Bind (ZS a 4611686018427387904) fun b=>
 Let (!b.snd) fun e=>if e then some ((0:Int),6)else some (b.fst,0)
noncomputable def jB (fields0:(List (List UInt8)))(keyword1:(List UInt8))(n2:Int)(more3:Bool)(bools4:(List Int)):Option ((List Int) × Int):=
 Let (↑fields0.length:Int) fun g=>
 Let (IntKind.i64.wrap (n2+(1:Int))) fun h=>
 Let (decide (g<h)) fun e=>
 Chk ((e==false)=true->(0:Int)<=(0:Int)/\(0:Int)<(↑fields0.length:Int))
 (Let (ix fields0 (0:Int)) fun i=>
 Let (i != keyword1) fun j=>
 Let (bif e then true else j) fun k=>
 Let (!more3) fun l=>
 Let (↑fields0.length:Int) fun m=>
 Let (IntKind.i64.wrap (n2+(1:Int))) fun n=>
 Let (m != n) fun o=>
 Let (bif l then o else false) fun p=>
 Let (bif k then true else p) fun q=>
 Let (↑fields0.length:Int) fun r=>
 Let (IntKind.i64.wrap (r - n2)) fun s=>
 Let (IntKind.i64.wrap (s - (1:Int))) fun t=>
 Let (t.tmod (2:Int)) fun u=>
 Let (u != (0:Int)) fun v=>
 Let (bif q then true else v) fun w=>
 if w=true then some ([],(3:Int))
 else
 Yg
 (fun(y:Int->Option (List Int × Int)) (b:Int)=>
 Let (↑bools4.length:Int) fun z=>
 Let (decide (b<z)) fun A=>
 if A=true then
 Chk ((0:Int)<=b/\b<(↑bools4.length:Int))
 (Let (ix bools4 b) fun B=>
 Let (IntKind.i64.wrap ((1:Int)+B)) fun d=>
 Chk ((0:Int)<=d/\d<(↑fields0.length:Int))
 (Let (ix fields0 d) fun f=>
 Let (f != #[(48:UInt8)].toList) fun C=>
 Let (f != #[(49:UInt8)].toList) fun D=>
 Let (bif C then D else false) fun E=>
 if E=true then some ([],(3:Int))
 else Let (IntKind.i64.wrap (b+(1:Int))) fun F=>y F))
 else
 Yg
 (fun(G:List Int × Int × Int->Option (List Int × Int)) (a:List Int × Int × Int)=>
 Let (↑fields0.length:Int) fun H=>
 Let (decide (a.snd.snd<H)) fun I=>
 if I=true then
 Chk ((0:Int)<=a.snd.snd/\a.snd.snd<(↑fields0.length:Int))
 (Let (ix fields0 a.snd.snd) fun J=>
 Rx.Bind (zz J) fun c=>
 Let (c.snd==(3:Int)) fun K=>
 if K=true then some ([],(3:Int))
 else
 Join
 (fun(v2264:Int)=>
 Chk ((List.length a.fst+[c.fst].length)*(8:Nat)<=(140737488355328:Nat))
 (Let (a.fst++[c.fst]) fun L=>
 Let (IntKind.i64.wrap (a.snd.snd+(1:Int))) fun M=>G (L,v2264,M)))
 fun(j2267:Int->Option (List Int × Int))=>
 Let (c.snd != (0:Int)) fun N=>if N=true then j2267 (6:Int)else j2267 a.snd.fst)
 else
 Let (a.snd.fst != (0:Int)) fun O=>
 if O=true then some ([],a.snd.fst)else some (a.fst,(0:Int)))
 fuel ([],(0:Int),(1:Int)))
 fuel (0:Int))
noncomputable def Jv (l0:(List Int))(at1:Int):Option Vec:=
 Chk (0<=at1/\at1<l0.length)
 (Let (ix l0 at1) fun b=>
 Let (IntKind.i64.wrap (at1+1)) fun a=>
 Chk (0<=a/\a<l0.length)
 (Let (ix l0 a) fun c=>some {X:=b,Y:=c:Vec}))
noncomputable def ya (fields0:(List (List UInt8))):Option (Body × Int):=
 Rx.Bind
 (jB fields0 #[(98:UInt8),(111:UInt8),(100:UInt8),(121:UInt8)].toList 19 false
 [(14:Int),(15:Int),(16:Int),17])
 fun a=>
 Let (a.snd != 0) fun b=>
 if b then
 some
 ({ID:=(0:Int),Kind:=(0:Int),Transform:={Position:={X:=(0:Int),Y:=0:Vec},Zg:=0:Transform},jX:={X:=(0:Int),Y:=0:Vec},jm:=(0:Int),qu:={X:=(0:Int),Y:=0:Vec},Yq:=(0:Int),jR:=(0:Int),jJ:=(0:Int),jW:=(0:Int),QH:=false,Jf:=false,QG:=false,qe:=false,JC:=(0:Int),jf:=[]:Body},
 a.snd)
 else
 Chk ((0:Int)<=0/\0<((List.length a.fst):Int))
 (Let (ix a.fst 0) fun c=>
 Chk ((0:Int)<=1/\1<((List.length a.fst):Int))
 (Let (ix a.fst 1) fun d=>
 Rx.Bind (Jv a.fst 2) fun e=>
 Chk ((0:Int)<=4/\4<((List.length a.fst):Int))
 (Let (ix a.fst 4) fun f=>
 Rx.Bind (Jv a.fst 5) fun g=>
 Chk ((0:Int)<=7/\7<((List.length a.fst):Int))
 (Let (ix a.fst 7) fun h=>
 Rx.Bind (Jv a.fst 8) fun i=>
 Chk ((0:Int)<=10/\10<((List.length a.fst):Int))
 (Let (ix a.fst 10) fun j=>
 Chk ((0:Int)<=11/\11<((List.length a.fst):Int))
 (Let (ix a.fst 11) fun k=>
 Chk ((0:Int)<=12/\12<((List.length a.fst):Int))
 (Let (ix a.fst 12) fun l=>
 Chk ((0:Int)<=13/\13<((List.length a.fst):Int))
 (Let (ix a.fst 13) fun m=>
 Chk ((0:Int)<=14/\14<((List.length a.fst):Int))
 (Let (ix a.fst 14) fun n=>
 Let (n==1) fun o=>
 Chk ((0:Int)<=15/\15<((List.length a.fst):Int))
 (Let (ix a.fst 15) fun p=>
 Let (p==1) fun q=>
 Chk ((0:Int)<=16/\16<((List.length a.fst):Int))
 (Let (ix a.fst 16) fun r=>
 Let (r==1) fun s=>
 Chk ((0:Int)<=17/\17<((List.length a.fst):Int))
 (Let (ix a.fst 17) fun t=>
 Let (t==1) fun u=>
 Chk ((0:Int)<=18/\18<((List.length a.fst):Int))
 (Let (ix a.fst 18) fun v=>
 some
 ({ID:=c,Kind:=d,Transform:={Position:=e,Zg:=f:Transform},jX:=g,jm:=h,qu:=i,Yq:=j,jR:=k,jJ:=l,jW:=m,QH:=o,Jf:=q,QG:=s,qe:=u,JC:=v,jf:=[]:Body},
 0))))))))))))))
noncomputable def JR (fields0:(List (List UInt8))):Option (jT × Int):=
 Rx.Bind
 (jB fields0
 #[(102:UInt8),(105:UInt8),(120:UInt8),(116:UInt8),(117:UInt8),(114:UInt8),(101:UInt8)].toList
 9 true [3])
 fun a=>
 Let (a.snd != 0) fun d=>
 if d then
 some
 ({Shape:={Kind:=(0:Int),yn:=(0:Int),jg:=[]:Shape},YN:=(0:Int),yA:=(0:Int),Je:=(0:Int),kW:=false,Category:=(0:Int),Mask:=(0:Int),Ki:=0:jT},
 a.snd)
 else
 Chk ((0:Int)<=0/\0<((List.length a.fst):Int))
 (Let (ix a.fst 0) fun e=>
 Chk ((0:Int)<=1/\1<((List.length a.fst):Int))
 (Let (ix a.fst 1) fun f=>
 Chk ((0:Int)<=2/\2<((List.length a.fst):Int))
 (Let (ix a.fst 2) fun g=>
 Chk ((0:Int)<=3/\3<((List.length a.fst):Int))
 (Let (ix a.fst 3) fun h=>
 Let (h==1) fun i=>
 Chk ((0:Int)<=4/\4<((List.length a.fst):Int))
 (Let (ix a.fst 4) fun j=>
 Chk ((0:Int)<=5/\5<((List.length a.fst):Int))
 (Let (ix a.fst 5) fun k=>
 Chk ((0:Int)<=6/\6<((List.length a.fst):Int))
 (Let (ix a.fst 6) fun l=>
 Chk ((0:Int)<=7/\7<((List.length a.fst):Int))
 (Let (ix a.fst 7) fun m=>
 Chk ((0:Int)<=8/\8<((List.length a.fst):Int))
 (Let (ix a.fst 8) fun n=>
 Yg
 (fun(o:Int × jT->Option (jT × Int)) (b:Int × jT)=>
 Let ((List.length a.fst):Int) fun p=>
 Let (decide (b.fst<p)) fun q=>
 if q then
 Rx.Bind (Jv a.fst b.fst) fun c=>
 Chk ((b.snd.Shape.jg.length+[c].length)*(16:Nat)<=(140737488355328:Nat))
 (Let (b.snd.Shape.jg++[c]) fun r=>
 Let (IntKind.i64.wrap (b.fst+2)) fun s=>
 o
 (s,
 {Shape:={Kind:=b.snd.Shape.Kind,yn:=b.snd.Shape.yn,jg:=r:Shape},YN:=b.snd.YN,yA:=b.snd.yA,Je:=b.snd.Je,kW:=b.snd.kW,Category:=b.snd.Category,Mask:=b.snd.Mask,Ki:=b.snd.Ki:jT}))
 else some (b.snd,0))
 fuel
 ((9:Int),
 {Shape:={Kind:=m,yn:=n,jg:=[]:Shape},YN:=e,yA:=f,Je:=g,kW:=i,Category:=j,Mask:=k,Ki:=l:jT}))))))))))
noncomputable def yi (fields0:(List (List UInt8))):Option (yP × Int):=
 Rx.Bind
 (jB fields0 #[(106:UInt8),(111:UInt8),(105:UInt8),(110:UInt8),(116:UInt8)].toList
 24 false [(11:Int),(14:Int),19])
 fun a=>
 Let (a.snd != 0) fun b=>
 if b then
 some
 ({ID:=(0:Int),Kind:=(0:Int),JE:=(0:Int),JH:=(0:Int),yN:={X:=(0:Int),Y:=0:Vec},Ye:={X:=(0:Int),Y:=0:Vec},Wb:={X:=(0:Int),Y:=0:Vec},Ja:=(0:Int),Jk:=false,kg:=(0:Int),kO:=(0:Int),Jm:=false,JY:=(0:Int),YU:=(0:Int),YT:=(0:Int),JZ:=(0:Int),Jc:=false,jD:=((0:Int),(0:Int),(0:Int),0):yP},
 a.snd)
 else
 Chk ((0:Int)<=0/\0<((List.length a.fst):Int))
 (Let (ix a.fst 0) fun c=>
 Chk ((0:Int)<=1/\1<((List.length a.fst):Int))
 (Let (ix a.fst 1) fun d=>
 Chk ((0:Int)<=2/\2<((List.length a.fst):Int))
 (Let (ix a.fst 2) fun e=>
 Chk ((0:Int)<=3/\3<((List.length a.fst):Int))
 (Let (ix a.fst 3) fun f=>
 Rx.Bind (Jv a.fst 4) fun g=>
 Rx.Bind (Jv a.fst 6) fun h=>
 Rx.Bind (Jv a.fst 8) fun i=>
 Chk ((0:Int)<=10/\10<((List.length a.fst):Int))
 (Let (ix a.fst 10) fun j=>
 Chk ((0:Int)<=11/\11<((List.length a.fst):Int))
 (Let (ix a.fst 11) fun k=>
 Let (k==1) fun l=>
 Chk ((0:Int)<=12/\12<((List.length a.fst):Int))
 (Let (ix a.fst 12) fun m=>
 Chk ((0:Int)<=13/\13<((List.length a.fst):Int))
 (Let (ix a.fst 13) fun n=>
 Chk ((0:Int)<=14/\14<((List.length a.fst):Int))
 (Let (ix a.fst 14) fun o=>
 Let (o==1) fun p=>
 Chk ((0:Int)<=15/\15<((List.length a.fst):Int))
 (Let (ix a.fst 15) fun q=>
 Chk ((0:Int)<=16/\16<((List.length a.fst):Int))
 (Let (ix a.fst 16) fun r=>
 Chk ((0:Int)<=17/\17<((List.length a.fst):Int))
 (Let (ix a.fst 17) fun s=>
 Chk ((0:Int)<=18/\18<((List.length a.fst):Int))
 (Let (ix a.fst 18) fun t=>
 Chk ((0:Int)<=19/\19<((List.length a.fst):Int))
 (Let (ix a.fst 19) fun u=>
 Let (u==1) fun v=>
 Chk ((0:Int)<=20/\20<((List.length a.fst):Int))
 (Let (ix a.fst 20) fun w=>
 Chk ((0:Int)<=21/\21<((List.length a.fst):Int))
 (Let (ix a.fst 21) fun y=>
 Chk ((0:Int)<=22/\22<((List.length a.fst):Int))
 (Let (ix a.fst 22) fun z=>
 Chk ((0:Int)<=23/\23<((List.length a.fst):Int))
 (Let (ix a.fst 23) fun A=>
 some
 ({ID:=c,Kind:=d,JE:=e,JH:=f,yN:=g,Ye:=h,Wb:=i,Ja:=j,Jk:=l,kg:=m,kO:=n,Jm:=p,JY:=q,YU:=r,YT:=s,JZ:=t,Jc:=v,jD:=(w,y,z,A):yP},
 0)))))))))))))))))))
noncomputable def uJ (x:jo):List (List UInt8)->Option (jo × Bool)
 | []=>none
 |k::rest=>
 if k=[98,111,100,121]then
 Rx.Bind (ya (k::rest)) fun(r:Body × Int)=>if r.1.jf=[]/\x.ji.length<1048576 then some ({x with ji:=x.ji++[r.1]},r.2==0)else none
 else if k=[102,105,120,116,117,114,101]then
 Rx.Bind (JR (k::rest)) fun(r:jT × Int)=>Rx.Bind (MT x.ji r.1) fun(l:List Body)=>some ({x with ji:=l},r.2==0)
 else if k=[106,111,105,110,116]then
 Rx.Bind (yi (k::rest)) fun(r:yP × Int)=>if x.jP.length<1048576 then some ({x with jP:=x.jP++[r.1]},r.2==0)else none
 else if k=[119,111,114,108,100]then
 Rx.Bind (jB (k::rest) [119,111,114,108,100] 7 false []) fun(r:List Int × Int)=>if r.2=0 then(if r.1.length=7 then some ({x with jH:=(JU r.1).jH,yM:=(JU r.1).yM,Frame:=(JU r.1).Frame},true)else none)else some (x,false)
 else
 Rx.Bind (jB (k::rest) k (if k=[111,118,101,114,108,97,112]then 4 else 6) false []) fun(r:List Int × Int)=>if r.2=0 then(
 if k=[99,111,110,116,97,99,116]then(if r.1.length=6/\x.jc.length<1048576 then some ({x with jc:=x.jc++[Qv r.1]},true)else none)
 else if k=[112,111,105,110,116]then(if r.1.length=6 then Rx.Bind (MS x.jc (kv r.1)) fun(l:List JL)=>some ({x with jc:=l},true)else none)
 else if k=[111,118,101,114,108,97,112]then(if r.1.length=4/\x.Overlaps.length<1048576 then some ({x with Overlaps:=x.Overlaps++[keyOf r.1]},true)else none)
 else some (x,true))else some (x,false)
noncomputable def Vg:List (List UInt8)->Nat->jo->List UInt8->Option (jo × Int × Int)
 | [],i,x,last=>if last=[]then some (noW,(i:Int)+1,27)else Rx.Bind (YI x) fun(v:Int)=>if v≠0 then some (noW,0,18)else some (x,0,0)
 |l::ls,i,x,last=>Rx.Bind (qO l) fun(r:List (List UInt8) × Int)=>if r.2≠0\/r.1=[]then some (noW,(i:Int)+1,27)else
 Rx.Bind (jU last (ix r.1 0)) fun(a:Bool)=>if a=false then some (noW,(i:Int)+1,27)else
 Rx.Bind (uJ x r.1) fun(s:jo × Bool)=>if s.2=false then some (noW,(i:Int)+1,27)else Vg ls (i+1) s.1 (ix r.1 0)
noncomputable def qo (text0:List UInt8):Option (jo × Int × Int):=
 Rx.Bind (qd text0) fun(r:List (List UInt8) × Int)=>if r.2≠0 then some (noW,0,r.2)else if r.1.length<1048576 then Vg r.1 0 noW []else none
noncomputable def Zf (a:(List UInt8)):Option Bool:=
 Rx.Bind (ZV a) fun e=>
 Let (!e) fun f=>
 if f then Rx.Bind Qx fun g=>some g
 else
 Rx.Bind (zq a) fun b=>
 Rx.Bind (qo a) fun c=>
 Rx.Bind (Qj b.fst c.fst) fun h=>
 Let (b.snd.fst==c.snd.fst) fun i=>
 Let (bif h then i else false) fun j=>
 Let (b.snd.snd==c.snd.snd) fun k=>
 Let (bif j then k else false) fun d=>
 Rx.Bind (if(d==true)=true then Qx else some default) fun l=>
 Let (bif d then l else false) fun m=>some m
end GoForm
