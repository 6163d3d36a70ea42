/- Several texts in one. No conditions. -/
import Derived.Test.YtffgldbihpgjgaaGreatDoorRW
import Derived.Test.YtffgldbihpgjgaaGreatDoorRX
import Derived.Test.YtffgldbihpgjgaaGreatDoorGX
import Derived.Test.YtffgldbihpgjgaaGreatDoorGZ
section
set_option linter.all false
set_option maxRecDepth 100000
open Go Go.Rx
open GoOld (encInt rdInt)
namespace GoForm
def KM (x:Vec):Prop:=(IntKind.i64.min<=x.X/\x.X<=IntKind.i64.max)/\(IntKind.i64.min<=x.Y/\x.Y<=IntKind.i64.max)
def pn (x:Transform):Prop:=KM x.Position/\(IntKind.i64.min<=x.qy/\x.qy<=IntKind.i64.max)
def jgG (x:Shape):Prop:=(IntKind.i64.min<=x.Kind/\x.Kind<=IntKind.i64.max)/\(IntKind.i64.min<=x.qM/\x.qM<=IntKind.i64.max)/\((∀a∈x.jS,KM a)/\(x.jS).length<=9223372036854775807)
def kN (x:Jy):Prop:=jgG x.Shape/\(IntKind.i64.min<=x.yy/\x.yy<=IntKind.i64.max)/\(IntKind.i64.min<=x.JL/\x.JL<=IntKind.i64.max)/\(IntKind.i64.min<=x.jX/\x.jX<=IntKind.i64.max)/\True/\(IntKind.i64.min<=x.Category/\x.Category<=IntKind.i64.max)/\(IntKind.i64.min<=x.Mask/\x.Mask<=IntKind.i64.max)/\(IntKind.i64.min<=x.QH/\x.QH<=IntKind.i64.max)
def xZ (x:Body):Prop:=(IntKind.i64.min<=x.ID/\x.ID<=IntKind.i64.max)/\(IntKind.i64.min<=x.Kind/\x.Kind<=IntKind.i64.max)/\pn x.Transform/\KM x.jZ/\(IntKind.i64.min<=x.jC/\x.jC<=IntKind.i64.max)/\KM x.YA/\(IntKind.i64.min<=x.Yl/\x.Yl<=IntKind.i64.max)/\(IntKind.i64.min<=x.jN/\x.jN<=IntKind.i64.max)/\(IntKind.i64.min<=x.jI/\x.jI<=IntKind.i64.max)/\(IntKind.i64.min<=x.jR/\x.jR<=IntKind.i64.max)/\True/\True/\True/\True/\(IntKind.i64.min<=x.Jt/\x.Jt<=IntKind.i64.max)/\((∀a∈x.jk,kN a)/\(x.jk).length<=9223372036854775807)
def WK (x:jn):Prop:=(IntKind.i64.min<=x.ID/\x.ID<=IntKind.i64.max)/\(IntKind.i64.min<=x.Kind/\x.Kind<=IntKind.i64.max)/\(IntKind.i64.min<=x.QS/\x.QS<=IntKind.i64.max)/\(IntKind.i64.min<=x.QR/\x.QR<=IntKind.i64.max)/\KM x.JS/\KM x.JR/\KM x.KO/\(IntKind.i64.min<=x.jM/\x.jM<=IntKind.i64.max)/\True/\(IntKind.i64.min<=x.QP/\x.QP<=IntKind.i64.max)/\(IntKind.i64.min<=x.QN/\x.QN<=IntKind.i64.max)/\True/\(IntKind.i64.min<=x.Jl/\x.Jl<=IntKind.i64.max)/\(IntKind.i64.min<=x.JQ/\x.JQ<=IntKind.i64.max)/\(IntKind.i64.min<=x.JP/\x.JP<=IntKind.i64.max)/\(IntKind.i64.min<=x.Jm/\x.Jm<=IntKind.i64.max)/\True/\((IntKind.i64.min<=x.jx.1/\x.jx.1<=IntKind.i64.max)/\(IntKind.i64.min<=x.jx.2.1/\x.jx.2.1<=IntKind.i64.max)/\(IntKind.i64.min<=x.jx.2.2.1/\x.jx.2.2.1<=IntKind.i64.max)/\(IntKind.i64.min<=x.jx.2.2.2/\x.jx.2.2.2<=IntKind.i64.max))
def Vx (x:Input):Prop:=(IntKind.i64.min<=x.Kind/\x.Kind<=IntKind.i64.max)/\(IntKind.i64.min<=x.ID/\x.ID<=IntKind.i64.max)/\KM x.Vec/\(IntKind.i64.min<=x.Value/\x.Value<=IntKind.i64.max)/\xZ x.Body/\WK x.jn
def Kg:Nat:=1000000000
theorem zQ {n:Int}(h:IntKind.i64.min<=n/\n<=IntKind.i64.max):(encInt n).length<=9:=GoOld.jbM n h
theorem aI {b:List UInt8}{n:Int}(h:IntKind.i64.min<=n/\n<=IntKind.i64.max)(hb:b.length<=Kg):jO b n=some (b++encInt n):=(xP b n).trans (GoOld.vH b n h (Nat.le_trans hb (by decide)))
def KE (v:Vec):List UInt8:=encInt v.X++encInt v.Y
def Zt (x:Bool):List UInt8:=[if x=true then 1 else 0]
theorem aV {b:List UInt8}{v:Vec}(h:KM v)(hb:b.length+(KE v).length<=Kg):yV b v=some (b++KE v):=by
 unfold KE at hb⊢
 rw[List.length_append]at hb
 unfold yV
 rw[aI h.1 (by omega),Bind_some,aI h.2 (by rw[List.length_append];omega),Bind_some,List.append_assoc]
theorem aB {b:List UInt8}(x:Bool)(hb:b.length<=Kg):YI b x=some (b++Zt x):=by
 have hc:b.length<=1000000000:=hb
 unfold YI Zt
 cases x <;> simp only[if_true,if_false,xO,Bool.false_eq_true] <;> rw[GoOld.Wr _ _ (by simp;omega)] <;> rfl
def App {α X:Type}(B:α->(jB->Option X)->jB->Option X)(E:α->List UInt8)(x:α):Prop:=
 ∀(k:jB->Option X) (b:List UInt8),b.length+(E x).length<=Kg->B x k {buf:=b}=k {buf:=b++E x}
theorem PL {α X:Type}[Inhabited α]{B:α->(jB->Option X)->jB->Option X}{E:α->List UInt8}{l:List α}(K:jB->Option X){b:List UInt8}(hl:l.length<=1000000)(hB:∀x∈l,App B E x)(hb:b.length+(l.flatMap E).length<=Kg):eLK B l K {buf:=b}=K {buf:=b++l.flatMap E}:=by
 unfold eLK
 rw[JD]
 have key:=LOOP_j l (fun i (s:jB)=>s.buf.length+((l.drop i).flatMap E).length<=Kg) (fun t _ s=>K {buf:=s.buf++t.flatMap E}) (fun rec s=>Let (decide (s.1<(l.length:Int))) fun x=>if x=true then Chk ((0:Int)<=s.1/\s.1<(l.length:Int)) (Let (ix l s.1) fun v=>B v (fun e'=>Let (IntKind.i64.wrap (s.1+1)) fun z=>rec (z,e')) s.2)else K s.2) {buf:=b} (Zy hl (by decide)) (by simpa using hb) ?_ ?_
 ·exact key
 ·intro r i t s hp hw hc hm hr
  simp only[Let_eq]
  rw[if_pos (dlt hc),jV hc,hw]
  rw[zw l i (by omega),List.flatMap_cons,List.length_append]at hp
  rw[show s={buf:=s.buf}from rfl,hB _ hm _ _ (by omega),hr _ (by first|(simp only[List.length_append];omega)|omega)]
  simp only[List.flatMap_cons,List.append_assoc]
 ·intro r s hp
  simp only[Let_eq]
  rw[dll,if_neg (by simp)]
  simp
theorem jg9 {X:Type}{n:Int}(h:IntKind.i64.min<=n/\n<=IntKind.i64.max):App (X:=X) bI encInt n:=fun k b hb=>by unfold bI;rw[aI h (by show b.length<=Kg;omega),Bind_some]
theorem jg8 {X:Type}{v:Vec}(h:KM v):App (X:=X) bV KE v:=fun k b hb=>by unfold bV;rw[aV h hb,Bind_some]
theorem jhb {X:Type}(x:Bool):App (X:=X) bB Zt x:=fun k b hb=>by unfold bB;rw[aB x (by show b.length<=Kg;omega),Bind_some]
def PH (f:Jy):List UInt8:=[f.Shape.Kind,f.Shape.qM,(f.Shape.jS.length:Int)].flatMap encInt++(f.Shape.jS.flatMap KE++([f.yy,f.JL,f.jX].flatMap encInt++([f.YX].flatMap Zt++[f.Category,f.Mask,f.QH].flatMap encInt)))
def MC (x:Body):List UInt8:=[x.ID,x.Kind].flatMap encInt++([x.Transform.Position].flatMap KE++([x.Transform.qy].flatMap encInt++([x.jZ].flatMap KE++([x.jC].flatMap encInt++([x.YA].flatMap KE++([x.Yl,x.jN,x.jI,x.jR].flatMap encInt++([x.YO,x.jQ,x.yE,x.YP].flatMap Zt++([x.Jt,(x.jk.length:Int)].flatMap encInt++x.jk.flatMap PH))))))))
def MB (x:jn):List UInt8:=[x.ID,x.Kind,x.QS,x.QR].flatMap encInt++([x.JS,x.JR,x.KO].flatMap KE++([x.jM].flatMap encInt++([x.Jf].flatMap Zt++([x.QP,x.QN].flatMap encInt++([x.Je].flatMap Zt++([x.Jl,x.JQ,x.JP,x.Jm].flatMap encInt++([x.jH].flatMap Zt++[x.jx.1,x.jx.2.1,x.jx.2.2.1,x.jx.2.2.2].flatMap encInt)))))))
theorem kE {α:Type}{l:List α}(h:l.length<=1000000):IntKind.i64.min<=(l.length:Int)/\(l.length:Int)<=IntKind.i64.max:=by
 have h1:IntKind.i64.min = -9223372036854775808:=rfl
 have h2:IntKind.i64.max=9223372036854775807:=rfl
 omega
theorem jgP {α:Type}{p:α->Prop}{a b:α}(h1:p a)(h2:p b):∀x∈[a,b],p x:=by simp[h1,h2]
theorem jeT {α:Type}{p:α->Prop}{a b c:α}(h1:p a)(h2:p b)(h3:p c):∀x∈[a,b,c],p x:=by simp[h1,h2,h3]
theorem jeS {α:Type}{p:α->Prop}{a b c d:α}(h1:p a)(h2:p b)(h3:p c)(h4:p d):∀x∈[a,b,c,d],p x:=by simp[h1,h2,h3,h4]
theorem MD {α:Type}{p:α->Prop}{a:α}(h1:p a):∀x∈[a],p x:=by simp[h1]
theorem stI {X:Type}{l:List Int}(h:∀n∈l,IntKind.i64.min<=n/\n<=IntKind.i64.max)(K:jB->Option X){b:List UInt8}(hl:l.length<=1000)(hb:b.length+(l.flatMap encInt).length<=Kg):eLK bI l K {buf:=b}=K {buf:=b++l.flatMap encInt}:=PL K (by omega) (fun x hx=>jg9 (h x hx)) hb
theorem stV {X:Type}{l:List Vec}(h:∀n∈l,KM n)(K:jB->Option X){b:List UInt8}(hl:l.length<=1000000)(hb:b.length+(l.flatMap KE).length<=Kg):eLK bV l K {buf:=b}=K {buf:=b++l.flatMap KE}:=PL K hl (fun x hx=>jg8 (h x hx)) hb
theorem stB {X:Type}(l:List Bool)(K:jB->Option X){b:List UInt8}(hl:l.length<=1000)(hb:b.length+(l.flatMap Zt).length<=Kg):eLK bB l K {buf:=b}=K {buf:=b++l.flatMap Zt}:=PL K (by omega) (fun x _=>jhb x) hb
theorem jha {X:Type}{f:Jy}(h:kN f)(hv:f.Shape.jS.length<=1000000):App (X:=X) bF PH f:=by
 intro k b hb
 obtain⟨⟨h1,h2,h3,-⟩,h4,h5,h6,-,h7,h8,h9⟩:=h
 unfold PH at hb
 simp only[List.length_append]at hb
 unfold bF
 rw[JD]
 rw[stI (jeT h1 h2 (kE (by omega))) _ (by first|decide|(simp;done)|omega) (by first|(simp only[List.length_append];omega)|omega)]
 rw[stV h3 _ (by first|decide|(simp;done)|omega) (by first|(simp only[List.length_append];omega)|omega)]
 rw[stI (jeT h4 h5 h6) _ (by first|decide|(simp;done)|omega) (by first|(simp only[List.length_append];omega)|omega)]
 rw[stB [f.YX] _ (by first|decide|(simp;done)|omega) (by first|(simp only[List.length_append];omega)|omega)]
 rw[stI (jeT h7 h8 h9) _ (by first|decide|(simp;done)|omega) (by first|(simp only[List.length_append];omega)|omega)]
 unfold PH
 simp only[List.append_assoc]
theorem sAB (b:List UInt8)(x:Body):yR b x=Chk (b.length*1<=140737488355328) (eLK bI [x.ID,x.Kind] (fun e=>eLK bV [x.Transform.Position] (fun e=>eLK bI [x.Transform.qy] (fun e=>eLK bV [x.jZ] (fun e=>eLK bI [x.jC] (fun e=>eLK bV [x.YA] (fun e=>eLK bI [x.Yl,x.jN,x.jI,x.jR] (fun e=>eLK bB [x.YO,x.jQ,x.yE,x.YP] (fun e=>Let (x.jk.length:Int) fun n=>eLK bI [x.Jt,n] (fun e=>eLK bF x.jk (fun e=>some e.buf) e) e) e) e) e) e) e) e) e) {buf:=b}):=rfl
theorem pAB {b:List UInt8}{x:Body}(h:xZ x)(hf:x.jk.length<=1000000)(hv:∀f∈x.jk,f.Shape.jS.length<=1000000)(hb:b.length+(MC x).length<=Kg):yR b x=some (b++MC x):=by
 obtain⟨h1,h2,h3,h4,h5,h6,h7,h8,h9,h10,-,-,-,-,h11,h12,-⟩:=h
 unfold MC at hb
 simp only[List.length_append]at hb
 rw[sAB,jV (by have:Kg=1000000000:=rfl;omega)]
 rw[stI (jgP h1 h2) _ (by first|decide|(simp;done)|omega) (by first|(simp only[List.length_append];omega)|omega)]
 rw[stV (MD h3.1) _ (by first|decide|(simp;done)|omega) (by first|(simp only[List.length_append];omega)|omega)]
 rw[stI (MD h3.2) _ (by first|decide|(simp;done)|omega) (by first|(simp only[List.length_append];omega)|omega)]
 rw[stV (MD h4) _ (by first|decide|(simp;done)|omega) (by first|(simp only[List.length_append];omega)|omega)]
 rw[stI (MD h5) _ (by first|decide|(simp;done)|omega) (by first|(simp only[List.length_append];omega)|omega)]
 rw[stV (MD h6) _ (by first|decide|(simp;done)|omega) (by first|(simp only[List.length_append];omega)|omega)]
 rw[stI (jeS h7 h8 h9 h10) _ (by first|decide|(simp;done)|omega) (by first|(simp only[List.length_append];omega)|omega)]
 rw[stB [x.YO,x.jQ,x.yE,x.YP] _ (by first|decide|(simp;done)|omega) (by first|(simp only[List.length_append];omega)|omega)]
 rw[JD]
 rw[stI (jgP h11 (kE (by omega))) _ (by first|decide|(simp;done)|omega) (by first|(simp only[List.length_append];omega)|omega)]
 rw[PL (E:=PH) _ hf (fun f hf=>jha (h12 f hf) (hv f hf)) (by first|(simp only[List.length_append];omega)|omega)]
 unfold MC
 simp only[List.append_assoc]
theorem sAJ (b:List UInt8)(x:jn):yF b x=Chk (b.length*1<=140737488355328) (eLK bI [x.ID,x.Kind,x.QS,x.QR] (fun e=>eLK bV [x.JS,x.JR,x.KO] (fun e=>eLK bI [x.jM] (fun e=>eLK bB [x.Jf] (fun e=>eLK bI [x.QP,x.QN] (fun e=>eLK bB [x.Je] (fun e=>eLK bI [x.Jl,x.JQ,x.JP,x.Jm] (fun e=>eLK bB [x.jH] (fun e=>eLK bI [x.jx.1,x.jx.2.1,x.jx.2.2.1,x.jx.2.2.2] (fun e=>some e.buf) e) e) e) e) e) e) e) e) {buf:=b}):=rfl
theorem pAJ {b:List UInt8}{x:jn}(h:WK x)(hb:b.length+(MB x).length<=Kg):yF b x=some (b++MB x):=by
 obtain⟨h1,h2,h3,h4,h5,h6,h7,h8,-,h9,h10,-,h11,h12,h13,h14,-,h15,h16,h17,h18⟩:=h
 unfold MB at hb
 simp only[List.length_append]at hb
 rw[sAJ,jV (by have:Kg=1000000000:=rfl;omega)]
 rw[stI (jeS h1 h2 h3 h4) _ (by first|decide|(simp;done)|omega) (by first|(simp only[List.length_append];omega)|omega)]
 rw[stV (jeT h5 h6 h7) _ (by first|decide|(simp;done)|omega) (by first|(simp only[List.length_append];omega)|omega)]
 rw[stI (MD h8) _ (by first|decide|(simp;done)|omega) (by first|(simp only[List.length_append];omega)|omega)]
 rw[stB [x.Jf] _ (by first|decide|(simp;done)|omega) (by first|(simp only[List.length_append];omega)|omega)]
 rw[stI (jgP h9 h10) _ (by first|decide|(simp;done)|omega) (by first|(simp only[List.length_append];omega)|omega)]
 rw[stB [x.Je] _ (by first|decide|(simp;done)|omega) (by first|(simp only[List.length_append];omega)|omega)]
 rw[stI (jeS h11 h12 h13 h14) _ (by first|decide|(simp;done)|omega) (by first|(simp only[List.length_append];omega)|omega)]
 rw[stB [x.jH] _ (by first|decide|(simp;done)|omega) (by first|(simp only[List.length_append];omega)|omega)]
 rw[stI (jeS h15 h16 h17 h18) _ (by first|decide|(simp;done)|omega) (by first|(simp only[List.length_append];omega)|omega)]
 unfold MB
 simp only[List.append_assoc]
def uw (x:Input):List UInt8:=encInt x.Kind++(encInt x.ID++(KE x.Vec++(encInt x.Value++(MC x.Body++MB x.jn))))
def ZM (f:List Input):List UInt8:=encInt f.length++f.flatMap uw
def PG (r:List (List Input)):List UInt8:=encInt r.length++r.flatMap ZM
def Kd (b:List UInt8):List UInt8:=b++[toByte (PO b),toByte (vO .u32 (PO b) 8),toByte (vO .u32 (PO b) 16),toByte (vO .u32 (PO b) 24)]
theorem US (b:List UInt8):(Kd b).length=b.length+4:=by unfold Kd;rw[List.length_append];rfl
theorem jac {b:List UInt8}(h:b.length<=Kg):QX b=some (Kd b):=by
 show jae b=_
 unfold jae
 rw[if_pos (Nat.le_trans h (by decide))];rfl
structure SmI (x:Input):Prop where
 p:Vx x
 f:x.Body.jk.length<=1000000
 v:∀f∈x.Body.jk,f.Shape.jS.length<=1000000
theorem pIn {X:Type}(K:List UInt8->Option X)(s:List UInt8)(x:Input)(h:SmI x)(hb:s.length+(uw x).length<=Kg):
 (Rx.Bind (jO s x.Kind) fun a=>Rx.Bind (jO a x.ID) fun a=>Rx.Bind (yV a x.Vec) fun a=>Rx.Bind (jO a x.Value) fun a=>Rx.Bind (yR a x.Body) fun a=>Rx.Bind (yF a x.jn) fun a=>K a)=K (s++uw x):=by
 obtain⟨h1,h2,h3,h4,h5,h6⟩:=h.p
 unfold uw at hb
 simp only[List.length_append]at hb
 rw[aI h1 (by omega),Bind_some,aI h2 (by simp only[List.length_append];omega),Bind_some,aV h3 (by simp only[List.length_append];omega),Bind_some,aI h4 (by simp only[List.length_append];omega),Bind_some,pAB h5 h.f h.v (by simp only[List.length_append];omega),Bind_some,pAJ h6 (by simp only[List.length_append];omega),Bind_some]
 unfold uw
 simp only[List.append_assoc]
structure SmR (r:List (List Input)):Prop where
 l:r.length<=1000000
 f:∀f∈r,f.length<=1000000/\∀x∈f,SmI x
 b:(PG r).length<=900000000
noncomputable def VL (r:List (List Input)):List UInt8 × Int:=if rvl r≠0 then([],25)else(Kd (PG r),0)
theorem jaB {r:List (List Input)}(h:SmR r):yo r=some (VL r):=by
 unfold yo VL
 rw[wQ,jG]
 simp only[JD]
 have hc9:Kg=1000000000:=rfl
 by_cases h2:rvl r≠0
 ·rw[if_pos h2,if_pos (by simpa using h2)]
 ·rw[if_neg h2,if_neg (by simpa using h2)]
  have hb:=h.b
  unfold PG at hb
  rw[List.length_append]at hb
  rw[aI (kE h.l) (by simp[hc9]),Bind_some,List.nil_append]
  refine(mo r (fun i s=>s.length+((r.drop i).flatMap ZM).length<=900000000) (fun t _ s=>some (Kd (s++t.flatMap ZM),0)) _ _ (Zy h.l (by decide)) (by rw[List.drop_zero];omega) ?_ ?_).trans rfl
  ·intro q i t s hs hw hc hm hr
   obtain⟨hf40,hfx⟩:=h.f _ hm
   rw[zw r i (by omega),List.flatMap_cons,List.length_append]at hs
   have hfr:(ZM (ix r (i:Int))).length=(encInt ((ix r (i:Int)).length:Int)).length+((ix r (i:Int)).flatMap uw).length:=by unfold ZM;rw[List.length_append]
   simp only
   rw[if_pos (dlt hc),jV hc,aI (kE hf40) (by omega),Bind_some]
   refine(mo (ix r (i:Int)) (fun j s'=>s'.length+(((ix r (i:Int)).drop j).flatMap uw).length+((r.drop (i+1)).flatMap ZM).length<=900000000) (fun t' _ s'=>some (Kd ((s'++t'.flatMap uw)++t.flatMap ZM),0)) _ _ (Zy hf40 (by decide)) (by rw[List.drop_zero];simp only[List.length_append];omega) ?_ ?_).trans ?_
   ·intro q2 j t2 s2 hs2 hw2 hd hm2 hr2
    have hxx:=hfx _ hm2
    rw[zw (ix r (i:Int)) j (by omega),List.flatMap_cons,List.length_append]at hs2
    simp only
    rw[if_pos (dlt hd),jV hd,pIn _ _ _ hxx (by omega),hw2,hr2 _ (by simp only[List.length_append];omega)]
    simp only[List.flatMap_cons,List.append_assoc]
   ·intro q2 s2 hs2
    simp only
    rw[dll,if_neg (by simp),hw,hr s2 (by omega)]
    simp only[List.flatMap_nil,List.append_nil]
   ·simp only[List.flatMap_cons,List.append_assoc,ZM]
  ·intro q s hs
   simp only
   rw[dll,if_neg (by simp),jac (by omega),Bind_some]
   simp only[List.flatMap_nil,List.append_nil]
def Kv (b:List UInt8):List UInt8 × Int:=if b.length<4 then([],4)else if Kd (b.take (b.length - 4))≠b then([],22)else(b.take (b.length - 4),0)
theorem jc0 {b:List UInt8}(h:b.length<=Kg):yH b=some (Kv b):=by
 have hc9:Kg=1000000000:=rfl
 unfold yH Kv
 simp only[JD]
 have e:IntKind.i64.wrap ((b.length:Int) - 4)=(b.length:Int) - 4:=qq _ (by omega) (by omega)
 rw[e]
 by_cases h1:b.length<4
 ·rw[if_pos (decide_eq_true (by omega)),if_pos h1]
 ·have e2:((b.length:Int) - 4).toNat=b.length - 4:=by omega
  have hc:0<=(b.length:Int) - 4/\(b.length:Int) - 4<=(b.length:Int):=by omega
  rw[if_neg (by simp;omega),if_neg h1,jV hc,e2,jac (by rw[List.length_take];omega),Bind_some]
  by_cases h2:Kd (b.take (b.length - 4))≠b
  ·rw[if_pos (by simpa using h2),if_pos h2]
  ·rw[if_neg (by simpa using h2),if_neg h2,jV hc,jV (by rw[List.length_take];omega)]
theorem jaO (p:List UInt8):Kv (Kd p)=(p,0):=by
 have h:=US p
 have e:(Kd p).take ((Kd p).length - 4)=p:=by
  rw[h,show p.length+4 - 4=p.length by omega]
  unfold Kd
  exact List.take_left
 unfold Kv
 rw[if_neg (by omega),e,if_neg (by simp)]
theorem jaP {b p:List UInt8}(h:Kv b=(p,0)):b=Kd p:=by
 unfold Kv at h
 by_cases h1:b.length<4
 ·rw[if_pos h1]at h
  have:=congrArg Prod.snd h
  exact absurd this (by simp)
 ·rw[if_neg h1]at h
  by_cases h2:Kd (b.take (b.length - 4))≠b
  ·rw[if_pos h2]at h
   have:=congrArg Prod.snd h
   exact absurd this (by simp)
  ·rw[if_neg h2]at h
   have e:b.take (b.length - 4)=p:=congrArg Prod.fst h
   rw[e]at h2
   exact(Decidable.of_not_not h2).symm
theorem jbL {v:Vec}(h:KM v):(KE v).length<=18:=by have h1:=zQ h.1;have h2:=zQ h.2;unfold KE;rw[List.length_append];omega
theorem JZ {α:Type}{E:α->List UInt8}{c:Nat}:∀(l:List α),(∀x∈l,(E x).length<=c)->(l.flatMap E).length<=l.length*c
 | [],_=>by simp
 |x::t,h=>by
  have h1:=h x (List.mem_cons_self ..)
  have h2:=JZ t (fun y hy=>h y (List.mem_cons_of_mem _ hy))
  rw[List.flatMap_cons,List.length_append,List.length_cons,Nat.add_mul];omega
theorem Zu {l:List Int}(h:∀n∈l,IntKind.i64.min<=n/\n<=IntKind.i64.max):(l.flatMap encInt).length<=l.length*9:=JZ l fun x hx=>zQ (h x hx)
theorem xI {l:List Vec}(h:∀n∈l,KM n):(l.flatMap KE).length<=l.length*18:=JZ l fun x hx=>jbL (h x hx)
theorem xJ (l:List Bool):(l.flatMap Zt).length<=l.length*1:=JZ l fun x _=>Nat.le_refl _
theorem jdH {f:Jy}(h:kN f)(hv:f.Shape.jS.length<=12):(PH f).length<=298:=by
 obtain⟨⟨h1,h2,h3,-⟩,h4,h5,h6,-,h7,h8,h9⟩:=h
 have L0:([f.Shape.Kind,f.Shape.qM,(f.Shape.jS.length:Int)].flatMap encInt).length<=27:=Nat.le_trans (Zu (l:=[f.Shape.Kind,f.Shape.qM,(f.Shape.jS.length:Int)]) (jeT h1 h2 (kE (by omega)))) (by first|exact Nat.le_refl _|(show _*18<=216;omega))
 have L1:(f.Shape.jS.flatMap KE).length<=216:=Nat.le_trans (xI (l:=f.Shape.jS) h3) (by first|exact Nat.le_refl _|(show _*18<=216;omega))
 have L2:([f.yy,f.JL,f.jX].flatMap encInt).length<=27:=Nat.le_trans (Zu (l:=[f.yy,f.JL,f.jX]) (jeT h4 h5 h6)) (by first|exact Nat.le_refl _|(show _*18<=216;omega))
 have L3:([f.YX].flatMap Zt).length<=1:=Nat.le_trans (xJ [f.YX]) (by first|exact Nat.le_refl _|(show _*18<=216;omega))
 have L4:([f.Category,f.Mask,f.QH].flatMap encInt).length<=27:=Nat.le_trans (Zu (l:=[f.Category,f.Mask,f.QH]) (jeT h7 h8 h9)) (by first|exact Nat.le_refl _|(show _*18<=216;omega))
 unfold PH
 simp only[List.length_append]
 omega
theorem jdI {x:Body}(h:xZ x)(hf:x.jk.length<=6)(hv:∀f∈x.jk,f.Shape.jS.length<=12):(MC x).length<=1936:=by
 obtain⟨h1,h2,h3,h4,h5,h6,h7,h8,h9,h10,-,-,-,-,h11,h12,-⟩:=h
 have L0:([x.ID,x.Kind].flatMap encInt).length<=18:=Nat.le_trans (Zu (l:=[x.ID,x.Kind]) (jgP h1 h2)) (by first|exact Nat.le_refl _|(show _*18<=216;omega))
 have L1:([x.Transform.Position].flatMap KE).length<=18:=Nat.le_trans (xI (l:=[x.Transform.Position]) (MD h3.1)) (by first|exact Nat.le_refl _|(show _*18<=216;omega))
 have L2:([x.Transform.qy].flatMap encInt).length<=9:=Nat.le_trans (Zu (l:=[x.Transform.qy]) (MD h3.2)) (by first|exact Nat.le_refl _|(show _*18<=216;omega))
 have L3:([x.jZ].flatMap KE).length<=18:=Nat.le_trans (xI (l:=[x.jZ]) (MD h4)) (by first|exact Nat.le_refl _|(show _*18<=216;omega))
 have L4:([x.jC].flatMap encInt).length<=9:=Nat.le_trans (Zu (l:=[x.jC]) (MD h5)) (by first|exact Nat.le_refl _|(show _*18<=216;omega))
 have L5:([x.YA].flatMap KE).length<=18:=Nat.le_trans (xI (l:=[x.YA]) (MD h6)) (by first|exact Nat.le_refl _|(show _*18<=216;omega))
 have L6:([x.Yl,x.jN,x.jI,x.jR].flatMap encInt).length<=36:=Nat.le_trans (Zu (l:=[x.Yl,x.jN,x.jI,x.jR]) (jeS h7 h8 h9 h10)) (by first|exact Nat.le_refl _|(show _*18<=216;omega))
 have L7:([x.YO,x.jQ,x.yE,x.YP].flatMap Zt).length<=4:=Nat.le_trans (xJ [x.YO,x.jQ,x.yE,x.YP]) (by first|exact Nat.le_refl _|(show _*18<=216;omega))
 have L8:([x.Jt,(x.jk.length:Int)].flatMap encInt).length<=18:=Nat.le_trans (Zu (l:=[x.Jt,(x.jk.length:Int)]) (jgP h11 (kE (by omega)))) (by first|exact Nat.le_refl _|(show _*18<=216;omega))
 have L9:(x.jk.flatMap PH).length<=1788:=Nat.le_trans (JZ (c:=298) _ fun f hf=>jdH (h12 f hf) (hv f hf)) (by omega)
 unfold MC
 simp only[List.length_append]
 omega
theorem jdF {x:jn}(h:WK x):(MB x).length<=192:=by
 obtain⟨h1,h2,h3,h4,h5,h6,h7,h8,-,h9,h10,-,h11,h12,h13,h14,-,h15,h16,h17,h18⟩:=h
 have L0:([x.ID,x.Kind,x.QS,x.QR].flatMap encInt).length<=36:=Nat.le_trans (Zu (l:=[x.ID,x.Kind,x.QS,x.QR]) (jeS h1 h2 h3 h4)) (by first|exact Nat.le_refl _|(show _*18<=216;omega))
 have L1:([x.JS,x.JR,x.KO].flatMap KE).length<=54:=Nat.le_trans (xI (l:=[x.JS,x.JR,x.KO]) (jeT h5 h6 h7)) (by first|exact Nat.le_refl _|(show _*18<=216;omega))
 have L2:([x.jM].flatMap encInt).length<=9:=Nat.le_trans (Zu (l:=[x.jM]) (MD h8)) (by first|exact Nat.le_refl _|(show _*18<=216;omega))
 have L3:([x.Jf].flatMap Zt).length<=1:=Nat.le_trans (xJ [x.Jf]) (by first|exact Nat.le_refl _|(show _*18<=216;omega))
 have L4:([x.QP,x.QN].flatMap encInt).length<=18:=Nat.le_trans (Zu (l:=[x.QP,x.QN]) (jgP h9 h10)) (by first|exact Nat.le_refl _|(show _*18<=216;omega))
 have L5:([x.Je].flatMap Zt).length<=1:=Nat.le_trans (xJ [x.Je]) (by first|exact Nat.le_refl _|(show _*18<=216;omega))
 have L6:([x.Jl,x.JQ,x.JP,x.Jm].flatMap encInt).length<=36:=Nat.le_trans (Zu (l:=[x.Jl,x.JQ,x.JP,x.Jm]) (jeS h11 h12 h13 h14)) (by first|exact Nat.le_refl _|(show _*18<=216;omega))
 have L7:([x.jH].flatMap Zt).length<=1:=Nat.le_trans (xJ [x.jH]) (by first|exact Nat.le_refl _|(show _*18<=216;omega))
 have L8:([x.jx.1,x.jx.2.1,x.jx.2.2.1,x.jx.2.2.2].flatMap encInt).length<=36:=Nat.le_trans (Zu (l:=[x.jx.1,x.jx.2.1,x.jx.2.2.1,x.jx.2.2.2]) (jeS h15 h16 h17 h18)) (by first|exact Nat.le_refl _|(show _*18<=216;omega))
 unfold MB
 simp only[List.length_append]
 omega
theorem jdG {x:Input}(h:Vx x)(hf:x.Body.jk.length<=6)(hv:∀f∈x.Body.jk,f.Shape.jS.length<=12):(uw x).length<=2173:=by
 obtain⟨h1,h2,h3,h4,h5,h6⟩:=h
 have q1:=zQ h1
 have q2:=zQ h2
 have q3:=jbL h3
 have q4:=zQ h4
 have q5:=jdI h5 hf hv
 have q6:=jdF h6
 unfold uw
 simp only[List.length_append];omega
abbrev Typed (r:List (List Input)):Prop:=(∀a∈r,((∀b∈a,Vx b)/\(a).length<=9223372036854775807))/\(r).length<=9223372036854775807
theorem SmR.of {r:List (List Input)}(h:Typed r)(hs:smR r=true):SmR r:=by
 obtain⟨h1,h2⟩:=UR hs
 have hx:∀f∈r,∀x∈f,Vx x/\x.Body.jk.length<=6/\∀g∈x.Body.jk,g.Shape.jS.length<=12:=fun f hf x hx=>by
  obtain⟨h3,h4⟩:=uf (h2 f hf)
  exact⟨(h.1 f hf).1 x hx,(h4 x hx).1,(h4 x hx).2⟩
 have hf:∀f∈r,(ZM f).length<=86929:=fun f hf=>by
  obtain⟨h40,-⟩:=uf (h2 f hf)
  have q1:=zQ (kE (l:=f) (Nat.le_trans h40 (by decide)))
  have q2:=JZ (E:=uw) (c:=2173) f (fun x hxx=>jdG (hx f hf x hxx).1 (hx f hf x hxx).2.1 (hx f hf x hxx).2.2)
  unfold ZM
  rw[List.length_append]
  omega
 have q0:=zQ (kE (l:=r) (Nat.le_trans h1 (by decide)))
 have q3:=JZ (E:=ZM) (c:=86929) r hf
 refine⟨by omega,fun f hf'=>⟨by have:=(uf (h2 f hf')).1;omega,fun x hxx=>⟨(hx f hf' x hxx).1,by have:=(hx f hf' x hxx).2.1;omega,fun g hg=>by have:=(hx f hf' x hxx).2.2 g hg;omega⟩⟩,?_⟩
 unfold PG
 rw[List.length_append]
 omega
def jgO:List (List Input)->Nat
 | []=>0
 |f::t=>f.length+jgO t
theorem jaa {len:Nat}:∀{t:List (List Input)} {n:Int},0<=n->n<=100->smG len t n=true->n+(jgO t:Int)<=100
 | [],n,h0,h1,h=>by show n+((0:Nat):Int)<=100;omega
 |f :: t,n,h0,h1,h=>by
  unfold smG at h
  by_cases hc:decide (IntKind.i64.wrap (n+(f.length:Int))>100)=true\/smF f=false
  ·rw[if_pos hc]at h;cases h
  ·rw[if_neg hc]at h
   have hf:smF f=true:=by
    cases e:smF f with
    |true=>rfl
    |false=>exact absurd (.inr e) hc
   have h40:=(uf hf).1
   have hw:IntKind.i64.wrap (n+(f.length:Int))=n+(f.length:Int):=qq _ (by omega) (by omega)
   rw[hw]at h
   have hle:¬ n+(f.length:Int)>100:=fun q=>hc (.inl (decide_eq_true (by rw[hw];exact q)))
   have ih:=jaa (by omega) (by omega) h
   show n+((f.length+jgO t:Nat):Int)<=100
   omega
theorem je3 {r:List (List Input)}(h:smR r=true):jgO r<=100:=by
 have h1:=(UR h).1
 unfold smR at h
 rw[List.take_of_length_le h1]at h
 have:=jaa (by omega) (by omega) h
 omega
theorem Ux {α β:Type}(x:α)(o:Int)(k:α->Int->Option (Int ⊕ β)):JH (some (.inr (x,o))) k=k x o:=rfl
abbrev jhB (n:Int):Prop:=IntKind.i64.min<=n/\n<=IntKind.i64.max
def Seg (b:List UInt8)(o o':Int)(s:List UInt8):Prop:=0<=o/\o<=o'/\o'<=(b.length:Int)/\b.take o.toNat++s=b.take o'.toNat
theorem Seg.trans {b:List UInt8}{o o1 o2:Int}{s u:List UInt8}(h:Seg b o o1 s)(h2:Seg b o1 o2 u):Seg b o o2 (s++u):=
 ⟨h.1,Int.le_trans h.2.1 h2.2.1,h2.2.2.1,by rw[<-List.append_assoc,h.2.2.2,h2.2.2.2]⟩
theorem Seg.nil {b:List UInt8}{o:Int}(h0:0<=o)(h1:o<=(b.length:Int)):Seg b o o []:=⟨h0,Int.le_refl _,h1,List.append_nil _⟩
def Fw {α:Type}(b:List UInt8)(d:Int->Option (Int ⊕ (α × Int)))(E:α->List UInt8)(x:α):Prop:=∀pre post:List UInt8,b=pre++(E x++post)->d (pre.length:Int)=some (.inr (x,((pre++E x).length:Int)))
def Bw {α:Type}(b:List UInt8)(d:Int->Option (Int ⊕ (α × Int)))(E:α->List UInt8)(Q:α->Prop):Prop:=∀o x o',d o=some (.inr (x,o'))->Seg b o o' (E x)/\Q x
theorem asc {b pre s post:List UInt8}(e:b=pre++(s++post)):b=(pre++s)++post:=by rw[List.append_assoc];exact e
theorem Fw.st {α β:Type}{b:List UInt8}{d:Int->Option (Int ⊕ (α × Int))}{E:α->List UInt8}{x:α}(h:Fw b d E x){k:α->Int->Option (Int ⊕ β)}{pre post:List UInt8}(e:b=pre++(E x++post)):JH (d (pre.length:Int)) k=k x ((pre++E x).length:Int):=by
 rw[h pre post e];rfl
theorem jJ {α β:Type}{r:Option (Int ⊕ (α × Int))}{k:α->Int->Option (Int ⊕ β)}{y:β}(h:JH r k=some (.inr y)):∃x o,r=some (.inr (x,o))/\k x o=some (.inr y):=by
 match r,h with
 |none,h=>cases h
 |some (.inl _),h=>cases h
 |some (.inr (x,o)),h=>exact⟨x,o,rfl,h⟩
section
variable {b:List UInt8} (hb:b.length<=Kg)
include hb
theorem cI (o:Int):jd b o=some (rdInt b o):=(Mr b o).trans (GoOld.VZ b o (Nat.le_trans hb (by decide)))
theorem fI {n:Int}(h:jhB n):Fw b (fun o=>rdR (jd b o)) encInt n:=by
 intro pre post e
 show rdR (jd b pre.length)=_
 rw[cI hb]
 have q:=GoOld.jan pre post n h
 rw[List.append_assoc,<-e]at q
 rw[q]
 unfold rdR
 simp only
 rw[if_pos trivial,List.length_append]
 simp
theorem bkI:Bw b (fun o=>rdR (jd b o)) encInt jhB:=by
 intro o x o' h
 have h:rdR (jd b o)=some (.inr (x,o')):=h
 rw[cI hb]at h
 have h:(if(rdInt b o).2.2=0 then some (.inr ((rdInt b o).1,(rdInt b o).2.1))else some (.inl (rdInt b o).2.2))=some (Sum.inr (x,o')):=h
 by_cases h0:(rdInt b o).2.2=0
 ·rw[if_pos h0]at h
  have e1:(rdInt b o).1=x:=congrArg Prod.fst (Sum.inr.inj (Option.some.inj h))
  have e2:(rdInt b o).2.1=o':=congrArg Prod.snd (Sum.inr.inj (Option.some.inj h))
  have q:=GoOld.jbK b o h0
  rw[e1,e2]at q
  exact⟨⟨q.1,by omega,q.2.2.1,q.2.2.2.1⟩,q.2.2.2.2.1,q.2.2.2.2.2⟩
 ·rw[if_neg h0]at h;cases h
omit hb in
theorem uS (o:Int):rdR (jf b o)=if o<0\/(b.length:Int)<o then some (.inl 2)else if o=(b.length:Int)then some (.inl 4)else if toByte 1<ix b o then some (.inl 3)else some (.inr (ix b o==toByte 1,IntKind.i64.wrap (o+1))):=by
 unfold jf
 rw[Wx,GoOld.wM,jG]
 simp only[JD]
 by_cases h1:o<0\/(b.length:Int)<o
 ·rw[if_pos h1,if_pos h1];rfl
 ·rw[if_neg h1,if_neg h1]
  by_cases h2:o=(b.length:Int)
  ·rw[if_pos h2,if_pos h2];rfl
  ·rw[if_neg h2,if_neg h2,if_neg (by simp)]
   by_cases h3:toByte 1<ix b o
   ·rw[if_pos h3,if_pos (by simpa using h3)];rfl
   ·rw[if_neg h3,if_neg (by simpa using h3)];rfl
theorem fB (x:Bool):Fw b (fun o=>rdR (jf b o)) Zt x:=by
 intro pre post e
 show rdR (jf b pre.length)=_
 have hc9:b.length<=1000000000:=hb
 have hl:b.length=pre.length+(1+post.length):=by rw[e,List.length_append,List.length_append];rfl
 have hx:ix b (pre.length:Int)=if x=true then 1 else 0:=by
  have q:=GoOld.jbc pre (Zt x++post) 0 (by rw[List.length_append];show 0<1+_;omega)
  rw[<-e]at q
  exact q
 rw[uS,if_neg (by omega),if_neg (by omega),hx,qq _ (by omega) (by omega),List.length_append]
 cases x <;> rfl
theorem bkB : Bw b (fun o=>rdR (jf b o)) Zt (fun _=>True):=by
 intro o x o' h
 have h:rdR (jf b o)=some (.inr (x,o')):=h
 have hc9:b.length<=1000000000:=hb
 rw[uS]at h
 by_cases h1:o<0\/(b.length:Int)<o
 ·rw[if_pos h1]at h;cases h
 ·rw[if_neg h1]at h
  by_cases h2:o=(b.length:Int)
  ·rw[if_pos h2]at h;cases h
  ·rw[if_neg h2]at h
   by_cases h3:toByte 1<ix b o
   ·rw[if_pos h3]at h;cases h
   ·rw[if_neg h3,qq _ (by omega) (by omega)]at h
    have e1:(ix b o==toByte 1)=x:=congrArg Prod.fst (Sum.inr.inj (Option.some.inj h))
    have e2:o+1=o':=congrArg Prod.snd (Sum.inr.inj (Option.some.inj h))
    obtain⟨n,rfl⟩:∃n:Nat,o=n:=⟨o.toNat,by omega⟩
    refine⟨⟨by omega,by omega,by omega,?_⟩,trivial⟩
    have e3:o'.toNat=n+1:=by omega
    have e4:((n:Int)).toNat=n:=by omega
    have hn:n<b.length:=by omega
    rw[e3,e4,<-List.take_append_getElem hn]
    refine congrArg _ ?_
    have e5:ix b (n:Int)=b[n]:=Ui b n hn
    rw[e5]at e1 h3
    unfold Zt
    have h1b:toByte 1=1:=by decide
    rw[h1b]at e1 h3
    rw[<-e1]
    by_cases hz:b[n]=1
    ·rw[hz];rfl
    ·have:b[n]=0:=by
      have h4:b[n].toNat<=1:=by
       have:¬ (1:UInt8)<b[n]:=h3
       exact Nat.le_of_not_lt fun hh=>this (UInt8.lt_iff_toNat_lt.2 hh)
      have h5:b[n].toNat≠1:=fun hh=>hz (UInt8.toNat_inj.1 hh)
      exact UInt8.toNat_inj.1 (by show b[n].toNat=0;omega)
     rw[this];rfl
theorem UY (o:Int):rdR (jh b o)=JH (rdR (jd b o)) fun x o=>JH (rdR (jd b o)) fun y o=>some (.inr (⟨x,y⟩,o)):=by
 have e:∀o,rdR (jd b o)=if(rdInt b o).2.2=0 then some (.inr ((rdInt b o).1,(rdInt b o).2.1))else some (.inl (rdInt b o).2.2):=fun o=>by rw[cI hb];rfl
 unfold jh
 simp only[JD]
 rw[e,cI hb,jG]
 by_cases h:(rdInt b o).2.2=0
 ·rw[if_neg (by simp[h]),if_pos h,Ux,e,cI hb,jG]
  by_cases h2:(rdInt b (rdInt b o).2.1).2.2=0
  ·rw[if_neg (by simp[h2]),if_pos h2];rfl
  ·rw[if_pos (by simpa using h2),if_neg h2]
   show(if(rdInt b (rdInt b o).2.1).2.2=0 then _ else _)=_
   rw[if_neg h2];rfl
 ·rw[if_pos (by simpa using h),if_neg h]
  show(if(rdInt b o).2.2=0 then _ else _)=_
  rw[if_neg h];rfl
theorem fV {v:Vec}(h:KM v):Fw b (fun o=>rdR (jh b o)) KE v:=by
 intro pre post e
 show rdR (jh b pre.length)=_
 unfold KE at e
 rw[List.append_assoc]at e
 rw[UY hb,(fI hb h.1).st e,(fI hb h.2).st (asc e)]
 simp only[KE,List.append_assoc]
theorem bkV:Bw b (fun o=>rdR (jh b o)) KE KM:=by
 intro o v o' h
 have h:rdR (jh b o)=some (.inr (v,o')):=h
 rw[UY hb]at h
 obtain⟨x,o1,q1,h⟩:=jJ h
 obtain⟨y,o2,q2,h⟩:=jJ h
 cases h
 have s1:=bkI hb _ _ _ q1
 have s2:=bkI hb _ _ _ q2
 exact⟨s1.1.trans s2.1,s1.2,s2.2⟩
theorem fC {n:Int}(h0:0<=n)(h1:n<=8192):Fw b (fun o=>KI (jd b) o) encInt n:=by
 intro pre post e
 show KI (jd b) pre.length=_
 unfold KI
 have hm:IntKind.i64.min = -9223372036854775808:=rfl
 have hM:IntKind.i64.max=9223372036854775807:=rfl
 rw[(fI hb (n:=n) ⟨by omega,by omega⟩).st e,if_neg (by omega),if_neg (by omega)]
theorem bkC:Bw b (fun o=>KI (jd b) o) encInt (fun n=>0<=n/\n<=8192/\jhB n):=by
 intro o n o' h
 have h:KI (jd b) o=some (.inr (n,o')):=h
 unfold KI at h
 obtain⟨x,o1,q1,h⟩:=jJ h
 by_cases h1:x<0
 ·rw[if_pos h1]at h;cases h
 ·rw[if_neg h1]at h
  by_cases h2:8192<x
  ·rw[if_pos h2]at h;cases h
  ·rw[if_neg h2]at h
   cases h
   have s1:=bkI hb _ _ _ q1
   exact⟨s1.1,by omega,by omega,s1.2⟩
end
theorem fL {α:Type}{b:List UInt8}{d:Int->Option (Int ⊕ (α × Int))}{E:α->List UInt8}:∀(l acc:List α) (pre post:List UInt8),(∀x∈l,Fw b d E x)->b=pre++(l.flatMap E++post)->Qa d l.length acc (pre.length:Int)=some (.inr (acc++l,((pre++l.flatMap E).length:Int)))
 | [],acc,pre,post,_,e=>by
   show some _=_
   simp
 |x::l,acc,pre,post,h,e=>by
  rw[List.flatMap_cons,List.append_assoc]at e
  show JH (d pre.length) (fun x o=>Qa d l.length (acc++[x]) o)=_
  rw[(h x (List.mem_cons_self ..)).st e]
  refine(fL l (acc++[x]) (pre++E x) post (fun y hy=>h y (List.mem_cons_of_mem _ hy)) (asc e)).trans ?_
  simp only[List.flatMap_cons,List.append_assoc,List.cons_append,List.nil_append]
theorem bkL {α:Type}{b:List UInt8}{d:Int->Option (Int ⊕ (α × Int))}{E:α->List UInt8}{Q:α->Prop}(hB:Bw b d E Q):∀(n:Nat) (acc:List α) (o:Int) (l':List α) (o':Int),0<=o->o<=(b.length:Int)->Qa d n acc o=some (.inr (l',o'))->∃l,l'=acc++l/\l.length=n/\Seg b o o' (l.flatMap E)/\∀x∈l,Q x
 |0,acc,o,l',o',h0,h1,h=>by
  have h:some (Sum.inr (acc,o))=some (Sum.inr (l',o')):=h
  cases h
  exact⟨[],by simp,rfl,Seg.nil h0 h1,by simp⟩
 |n+1,acc,o,l',o',h0,h1,h=>by
  obtain⟨x,o1,q1,h⟩:=jJ (show JH (d o) (fun x o=>Qa d n (acc++[x]) o)=_ from h)
  have s1:=hB _ _ _ q1
  obtain⟨l,e1,e2,s2,q2⟩:=bkL hB n (acc++[x]) o1 l' o' (Int.le_trans h0 s1.1.2.1) s1.1.2.2.1 h
  refine⟨x::l,by rw[e1];simp,by simp[e2],by rw[List.flatMap_cons];exact s1.1.trans s2,?_⟩
  intro y hy
  rcases List.mem_cons.1 hy with rfl|hy
  ·exact s1.2
  ·exact q2 y hy
section
set_option maxHeartbeats 2000000
section
variable {b:List UInt8} (hb:b.length<=Kg)
theorem dfx (o:Int):vG (jd b) (jh b) (jf b) o=(JH (rdR (jd b o)) fun kd o=>JH (rdR (jd b o)) fun ra o=>JH (KI (jd b) o) fun n o=>JH (Qa (fun o=>rdR (jh b o)) n.toNat [] o) fun l o=>JH (rdR (jd b o)) fun de o=>JH (rdR (jd b o)) fun fr o=>JH (rdR (jd b o)) fun re o=>JH (rdR (jf b o)) fun se o=>JH (rdR (jd b o)) fun ca o=>JH (rdR (jd b o)) fun ma o=>JH (rdR (jd b o)) fun gr o=>some (.inr (({Shape:={Kind:=kd,qM:=ra,jS:=l},yy:=de,JL:=fr,jX:=re,YX:=se,Category:=ca,Mask:=ma,QH:=gr}:Jy),o))):=by
 unfold vG kI
 simp only[qK]
include hb
theorem dbo (o:Int):QD (jd b) (jh b) (jf b) o=(JH (rdR (jd b o)) fun id o=>JH (rdR (jd b o)) fun kd o=>JH (rdR (jd b o)) fun px o=>JH (rdR (jd b o)) fun py o=>JH (rdR (jd b o)) fun an o=>JH (rdR (jd b o)) fun vx o=>JH (rdR (jd b o)) fun vy o=>JH (rdR (jd b o)) fun av o=>JH (rdR (jd b o)) fun fx o=>JH (rdR (jd b o)) fun fy o=>JH (rdR (jd b o)) fun tq o=>JH (rdR (jd b o)) fun ld o=>JH (rdR (jd b o)) fun ad o=>JH (rdR (jd b o)) fun gs o=>JH (rdR (jf b o)) fun bu o=>JH (rdR (jf b o)) fun fr o=>JH (rdR (jf b o)) fun ns o=>JH (rdR (jf b o)) fun asl o=>JH (rdR (jd b o)) fun idl o=>JH (KI (jd b) o) fun n o=>JH (Qa (vG (jd b) (jh b) (jf b)) n.toNat [] o) fun l o=>some (.inr (({ID:=id,Kind:=kd,Transform:={Position:={X:=px,Y:=py},qy:=an},jZ:={X:=vx,Y:=vy},jC:=av,YA:={X:=fx,Y:=fy},Yl:=tq,jN:=ld,jI:=ad,jR:=gs,YO:=bu,jQ:=fr,yE:=ns,YP:=asl,Jt:=idl,jk:=l}:Body),o))):=by
 unfold QD kI
 simp only[UY hb,qK,Ux]
theorem djo (o:Int):qi (jd b) (jh b) (jf b) o=(JH (rdR (jd b o)) fun id o=>JH (rdR (jd b o)) fun kd o=>JH (rdR (jd b o)) fun ja o=>JH (rdR (jd b o)) fun jb o=>JH (rdR (jd b o)) fun ax o=>JH (rdR (jd b o)) fun ay o=>JH (rdR (jd b o)) fun bx o=>JH (rdR (jd b o)) fun yb o=>JH (rdR (jd b o)) fun cx o=>JH (rdR (jd b o)) fun cy o=>JH (rdR (jd b o)) fun ra o=>JH (rdR (jf b o)) fun el o=>JH (rdR (jd b o)) fun lo o=>JH (rdR (jd b o)) fun up o=>JH (rdR (jf b o)) fun em o=>JH (rdR (jd b o)) fun ms o=>JH (rdR (jd b o)) fun mf o=>JH (rdR (jd b o)) fun so o=>JH (rdR (jd b o)) fun bf o=>JH (rdR (jf b o)) fun cc o=>JH (rdR (jd b o)) fun i0 o=>JH (rdR (jd b o)) fun i1 o=>JH (rdR (jd b o)) fun i2 o=>JH (rdR (jd b o)) fun i3 o=>some (.inr (({ID:=id,Kind:=kd,QS:=ja,QR:=jb,JS:={X:=ax,Y:=ay},JR:={X:=bx,Y:=yb},KO:={X:=cx,Y:=cy},jM:=ra,Jf:=el,QP:=lo,QN:=up,Je:=em,Jl:=ms,JQ:=mf,JP:=so,Jm:=bf,jH:=cc,jx:=(i0,i1,i2,i3)}:jn),o))):=by
 unfold qi
 simp only[UY hb,qK,Ux]
theorem jhG {α β:Type}{d:Int->Option (Int ⊕ (α × Int))}{E:α->List UInt8}{l:List α}{pre post:List UInt8}{k:List α->Int->Option (Int ⊕ β)}(h:∀x∈l,Fw b d E x)(e:b=pre++(l.flatMap E++post)):JH (Qa d ((l.length:Int)).toNat [] (pre.length:Int)) k=k l ((pre++l.flatMap E).length:Int):=by
 rw[Int.toNat_natCast,fL l [] pre post h e];rfl
theorem fF {f:Jy}(h:kN f)(hv:f.Shape.jS.length<=8192):Fw b (vG (jd b) (jh b) (jf b)) PH f:=by
 intro pre post e
 obtain⟨⟨h1,h2,h3,-⟩,h4,h5,h6,-,h7,h8,h9⟩:=h
 rw[dfx]
 unfold PH at e
 simp only[List.flatMap_cons,List.flatMap_nil,List.append_nil,List.append_assoc]at e
 rw[(fI hb h1).st e]
 have e0:=asc e
 rw[(fI hb h2).st e0]
 have e1:=asc e0
 rw[(fC hb (n:=(f.Shape.jS.length:Int)) (by omega) (by omega)).st e1]
 have e2:=asc e1
 rw[jhG hb (fun v hv=>fV hb (h3 v hv)) e2]
 have e3:=asc e2
 rw[(fI hb h4).st e3]
 have e4:=asc e3
 rw[(fI hb h5).st e4]
 have e5:=asc e4
 rw[(fI hb h6).st e5]
 have e6:=asc e5
 rw[(fB hb f.YX).st e6]
 have e7:=asc e6
 rw[(fI hb h7).st e7]
 have e8:=asc e7
 rw[(fI hb h8).st e8]
 have e9:=asc e8
 rw[(fI hb h9).st e9]
 simp only[PH,List.flatMap_cons,List.flatMap_nil,List.append_nil,List.append_assoc]
theorem bkF:Bw b (vG (jd b) (jh b) (jf b)) PH (fun f=>kN f/\f.Shape.jS.length<=8192):=by
 intro o v o' h
 rw[dfx]at h
 obtain⟨kd,o1,q0,h⟩:=jJ h
 obtain⟨ra,o2,q1,h⟩:=jJ h
 obtain⟨n,o3,q2,h⟩:=jJ h
 obtain⟨l,o4,q3,h⟩:=jJ h
 obtain⟨de,o5,q4,h⟩:=jJ h
 obtain⟨fr,o6,q5,h⟩:=jJ h
 obtain⟨re,o7,q6,h⟩:=jJ h
 obtain⟨se,o8,q7,h⟩:=jJ h
 obtain⟨ca,o9,q8,h⟩:=jJ h
 obtain⟨ma,o10,q9,h⟩:=jJ h
 obtain⟨gr,o11,q10,h⟩:=jJ h
 cases h
 have s0:=bkI hb _ _ _ q0
 have s1:=bkI hb _ _ _ q1
 have s2:=bkC hb _ _ _ q2
 obtain⟨l,el,en,sl,ql⟩:=bkL (bkV hb) _ [] _ _ _ (Int.le_trans s0.1.1 (Int.le_trans s0.1.2.1 (Int.le_trans s1.1.2.1 s2.1.2.1))) s2.1.2.2.1 q3
 rw[List.nil_append]at el
 subst el
 have en:(n:Int)=(l.length:Int):=by have:=s2.2;omega
 have s3:Seg b o3 o4 (l.flatMap KE)/\True:=⟨sl,trivial⟩
 have s4:=bkI hb _ _ _ q4
 have s5:=bkI hb _ _ _ q5
 have s6:=bkI hb _ _ _ q6
 have s7:=bkB hb _ _ _ q7
 have s8:=bkI hb _ _ _ q8
 have s9:=bkI hb _ _ _ q9
 have s10:=bkI hb _ _ _ q10
 have hS:=(s0.1.trans (s1.1.trans (s2.1.trans (s3.1.trans (s4.1.trans (s5.1.trans (s6.1.trans (s7.1.trans (s8.1.trans (s9.1.trans s10.1))))))))))
 rw[en]at hS
 refine⟨?_,⟨⟨s0.2,s1.2,ql,by show l.length<=_;have:=s2.2;omega⟩,s4.2,s5.2,s6.2,trivial,s8.2,s9.2,s10.2⟩,by show l.length<=8192;have:=s2.2;omega⟩
 simpa only[PH,List.flatMap_cons,List.flatMap_nil,List.append_nil,List.append_assoc]using hS
def jhA (x:Body):Prop:=x.jk.length<=8192/\∀f∈x.jk,f.Shape.jS.length<=8192
theorem fBo {x:Body}(h:xZ x)(hk:jhA x):Fw b (QD (jd b) (jh b) (jf b)) MC x:=by
 intro pre post e
 obtain⟨h1,h2,h3,h4,h5,h6,h7,h8,h9,h10,-,-,-,-,h11,h12,-⟩:=h
 rw[dbo hb]
 unfold MC at e
 simp only[KE,List.flatMap_cons,List.flatMap_nil,List.append_nil,List.append_assoc]at e
 rw[(fI hb h1).st e]
 have e0:=asc e
 rw[(fI hb h2).st e0]
 have e1:=asc e0
 rw[(fI hb h3.1.1).st e1]
 have e2:=asc e1
 rw[(fI hb h3.1.2).st e2]
 have e3:=asc e2
 rw[(fI hb h3.2).st e3]
 have e4:=asc e3
 rw[(fI hb h4.1).st e4]
 have e5:=asc e4
 rw[(fI hb h4.2).st e5]
 have e6:=asc e5
 rw[(fI hb h5).st e6]
 have e7:=asc e6
 rw[(fI hb h6.1).st e7]
 have e8:=asc e7
 rw[(fI hb h6.2).st e8]
 have e9:=asc e8
 rw[(fI hb h7).st e9]
 have e10:=asc e9
 rw[(fI hb h8).st e10]
 have e11:=asc e10
 rw[(fI hb h9).st e11]
 have e12:=asc e11
 rw[(fI hb h10).st e12]
 have e13:=asc e12
 rw[(fB hb x.YO).st e13]
 have e14:=asc e13
 rw[(fB hb x.jQ).st e14]
 have e15:=asc e14
 rw[(fB hb x.yE).st e15]
 have e16:=asc e15
 rw[(fB hb x.YP).st e16]
 have e17:=asc e16
 rw[(fI hb h11).st e17]
 have e18:=asc e17
 rw[(fC hb (n:=(x.jk.length:Int)) (by omega) (by have:=hk.1;omega)).st e18]
 have e19:=asc e18
 rw[jhG hb (fun f hf=>fF hb (h12 f hf) (hk.2 f hf)) e19]
 simp only[MC,KE,List.flatMap_cons,List.flatMap_nil,List.append_nil,List.append_assoc]
theorem jh3:Bw b (QD (jd b) (jh b) (jf b)) MC (fun x=>xZ x/\jhA x):=by
 intro o v o' h
 rw[dbo hb]at h
 obtain⟨id,o1,q0,h⟩:=jJ h
 obtain⟨kd,o2,q1,h⟩:=jJ h
 obtain⟨px,o3,q2,h⟩:=jJ h
 obtain⟨py,o4,q3,h⟩:=jJ h
 obtain⟨an,o5,q4,h⟩:=jJ h
 obtain⟨vx,o6,q5,h⟩:=jJ h
 obtain⟨vy,o7,q6,h⟩:=jJ h
 obtain⟨av,o8,q7,h⟩:=jJ h
 obtain⟨fx,o9,q8,h⟩:=jJ h
 obtain⟨fy,o10,q9,h⟩:=jJ h
 obtain⟨tq,o11,q10,h⟩:=jJ h
 obtain⟨ld,o12,q11,h⟩:=jJ h
 obtain⟨ad,o13,q12,h⟩:=jJ h
 obtain⟨gs,o14,q13,h⟩:=jJ h
 obtain⟨bu,o15,q14,h⟩:=jJ h
 obtain⟨fr,o16,q15,h⟩:=jJ h
 obtain⟨ns,o17,q16,h⟩:=jJ h
 obtain⟨asl,o18,q17,h⟩:=jJ h
 obtain⟨idl,o19,q18,h⟩:=jJ h
 obtain⟨n,o20,q19,h⟩:=jJ h
 obtain⟨l,o21,q20,h⟩:=jJ h
 cases h
 have s0:=bkI hb _ _ _ q0
 have s1:=bkI hb _ _ _ q1
 have s2:=bkI hb _ _ _ q2
 have s3:=bkI hb _ _ _ q3
 have s4:=bkI hb _ _ _ q4
 have s5:=bkI hb _ _ _ q5
 have s6:=bkI hb _ _ _ q6
 have s7:=bkI hb _ _ _ q7
 have s8:=bkI hb _ _ _ q8
 have s9:=bkI hb _ _ _ q9
 have s10:=bkI hb _ _ _ q10
 have s11:=bkI hb _ _ _ q11
 have s12:=bkI hb _ _ _ q12
 have s13:=bkI hb _ _ _ q13
 have s14:=bkB hb _ _ _ q14
 have s15:=bkB hb _ _ _ q15
 have s16:=bkB hb _ _ _ q16
 have s17:=bkB hb _ _ _ q17
 have s18:=bkI hb _ _ _ q18
 have s19:=bkC hb _ _ _ q19
 obtain⟨l,el,en,sl,ql⟩:=bkL (bkF hb) _ [] _ _ _ (Int.le_trans s19.1.1 s19.1.2.1) s19.1.2.2.1 q20
 rw[List.nil_append]at el
 subst el
 have en:(n:Int)=(l.length:Int):=by have:=s19.2;omega
 have s20:Seg b o20 _ (l.flatMap PH)/\True:=⟨sl,trivial⟩
 have hS:=(s0.1.trans (s1.1.trans (s2.1.trans (s3.1.trans (s4.1.trans (s5.1.trans (s6.1.trans (s7.1.trans (s8.1.trans (s9.1.trans (s10.1.trans (s11.1.trans (s12.1.trans (s13.1.trans (s14.1.trans (s15.1.trans (s16.1.trans (s17.1.trans (s18.1.trans (s19.1.trans s20.1))))))))))))))))))))
 rw[en]at hS
 refine⟨?_,⟨s0.2,s1.2,⟨⟨s2.2,s3.2⟩,s4.2⟩,⟨s5.2,s6.2⟩,s7.2,⟨s8.2,s9.2⟩,s10.2,s11.2,s12.2,s13.2,trivial,trivial,trivial,trivial,s18.2,(fun f hf=>(ql f hf).1),by show l.length<=_;have:=s19.2;omega⟩,by show l.length<=8192;have:=s19.2;omega,fun f hf=>(ql f hf).2⟩
 simpa only[MC,KE,List.flatMap_cons,List.flatMap_nil,List.append_nil,List.append_assoc]using hS
theorem fJo {x:jn}(h:WK x):Fw b (qi (jd b) (jh b) (jf b)) MB x:=by
 intro pre post e
 obtain⟨h1,h2,h3,h4,h5,h6,h7,h8,-,h9,h10,-,h11,h12,h13,h14,-,h15,h16,h17,h18⟩:=h
 rw[djo hb]
 unfold MB at e
 simp only[KE,List.flatMap_cons,List.flatMap_nil,List.append_nil,List.append_assoc]at e
 rw[(fI hb h1).st e]
 have e0:=asc e
 rw[(fI hb h2).st e0]
 have e1:=asc e0
 rw[(fI hb h3).st e1]
 have e2:=asc e1
 rw[(fI hb h4).st e2]
 have e3:=asc e2
 rw[(fI hb h5.1).st e3]
 have e4:=asc e3
 rw[(fI hb h5.2).st e4]
 have e5:=asc e4
 rw[(fI hb h6.1).st e5]
 have e6:=asc e5
 rw[(fI hb h6.2).st e6]
 have e7:=asc e6
 rw[(fI hb h7.1).st e7]
 have e8:=asc e7
 rw[(fI hb h7.2).st e8]
 have e9:=asc e8
 rw[(fI hb h8).st e9]
 have e10:=asc e9
 rw[(fB hb x.Jf).st e10]
 have e11:=asc e10
 rw[(fI hb h9).st e11]
 have e12:=asc e11
 rw[(fI hb h10).st e12]
 have e13:=asc e12
 rw[(fB hb x.Je).st e13]
 have e14:=asc e13
 rw[(fI hb h11).st e14]
 have e15:=asc e14
 rw[(fI hb h12).st e15]
 have e16:=asc e15
 rw[(fI hb h13).st e16]
 have e17:=asc e16
 rw[(fI hb h14).st e17]
 have e18:=asc e17
 rw[(fB hb x.jH).st e18]
 have e19:=asc e18
 rw[(fI hb h15).st e19]
 have e20:=asc e19
 rw[(fI hb h16).st e20]
 have e21:=asc e20
 rw[(fI hb h17).st e21]
 have e22:=asc e21
 rw[(fI hb h18).st e22]
 simp only[MB,KE,List.flatMap_cons,List.flatMap_nil,List.append_nil,List.append_assoc]
theorem jh1:Bw b (qi (jd b) (jh b) (jf b)) MB WK:=by
 intro o v o' h
 rw[djo hb]at h
 obtain⟨id,o1,q0,h⟩:=jJ h
 obtain⟨kd,o2,q1,h⟩:=jJ h
 obtain⟨ja,o3,q2,h⟩:=jJ h
 obtain⟨jb,o4,q3,h⟩:=jJ h
 obtain⟨ax,o5,q4,h⟩:=jJ h
 obtain⟨ay,o6,q5,h⟩:=jJ h
 obtain⟨bx,o7,q6,h⟩:=jJ h
 obtain⟨yb,o8,q7,h⟩:=jJ h
 obtain⟨cx,o9,q8,h⟩:=jJ h
 obtain⟨cy,o10,q9,h⟩:=jJ h
 obtain⟨ra,o11,q10,h⟩:=jJ h
 obtain⟨el,o12,q11,h⟩:=jJ h
 obtain⟨lo,o13,q12,h⟩:=jJ h
 obtain⟨up,o14,q13,h⟩:=jJ h
 obtain⟨em,o15,q14,h⟩:=jJ h
 obtain⟨ms,o16,q15,h⟩:=jJ h
 obtain⟨mf,o17,q16,h⟩:=jJ h
 obtain⟨so,o18,q17,h⟩:=jJ h
 obtain⟨bf,o19,q18,h⟩:=jJ h
 obtain⟨cc,o20,q19,h⟩:=jJ h
 obtain⟨i0,o21,q20,h⟩:=jJ h
 obtain⟨i1,o22,q21,h⟩:=jJ h
 obtain⟨i2,o23,q22,h⟩:=jJ h
 obtain⟨i3,o24,q23,h⟩:=jJ h
 cases h
 have s0:=bkI hb _ _ _ q0
 have s1:=bkI hb _ _ _ q1
 have s2:=bkI hb _ _ _ q2
 have s3:=bkI hb _ _ _ q3
 have s4:=bkI hb _ _ _ q4
 have s5:=bkI hb _ _ _ q5
 have s6:=bkI hb _ _ _ q6
 have s7:=bkI hb _ _ _ q7
 have s8:=bkI hb _ _ _ q8
 have s9:=bkI hb _ _ _ q9
 have s10:=bkI hb _ _ _ q10
 have s11:=bkB hb _ _ _ q11
 have s12:=bkI hb _ _ _ q12
 have s13:=bkI hb _ _ _ q13
 have s14:=bkB hb _ _ _ q14
 have s15:=bkI hb _ _ _ q15
 have s16:=bkI hb _ _ _ q16
 have s17:=bkI hb _ _ _ q17
 have s18:=bkI hb _ _ _ q18
 have s19:=bkB hb _ _ _ q19
 have s20:=bkI hb _ _ _ q20
 have s21:=bkI hb _ _ _ q21
 have s22:=bkI hb _ _ _ q22
 have s23:=bkI hb _ _ _ q23
 have hS:=(s0.1.trans (s1.1.trans (s2.1.trans (s3.1.trans (s4.1.trans (s5.1.trans (s6.1.trans (s7.1.trans (s8.1.trans (s9.1.trans (s10.1.trans (s11.1.trans (s12.1.trans (s13.1.trans (s14.1.trans (s15.1.trans (s16.1.trans (s17.1.trans (s18.1.trans (s19.1.trans (s20.1.trans (s21.1.trans (s22.1.trans s23.1)))))))))))))))))))))))
 refine⟨?_,s0.2,s1.2,s2.2,s3.2,⟨s4.2,s5.2⟩,⟨s6.2,s7.2⟩,⟨s8.2,s9.2⟩,s10.2,trivial,s12.2,s13.2,trivial,s15.2,s16.2,s17.2,s18.2,trivial,s20.2,s21.2,s22.2,s23.2⟩
 simpa only[MB,KE,List.flatMap_cons,List.flatMap_nil,List.append_nil,List.append_assoc]using hS
end
end
theorem YM {α β:Type}(x:α)(o c:Int)(k:α->Int->Int->Option β):Zi (some (x,o,c)) k=k x o c:=rfl
theorem h0n:¬ ((0:Int)≠0):=by simp
theorem Wl {α:Type}{z:α}{rd:Int->Option (α × Int × Int)}{o o':Int}{x:α}(h:rd o=some (x,o',0)):Uk z rd o 0=some (x,o',0):=by
 unfold Uk;rw[if_neg h0n,h];rfl
theorem KB {α:Type}{z:α}{rd:Int->Option (α × Int × Int)}{o o' c:Int}{x:α}(h:Uk z rd o c=some (x,o',0)):c=0/\rd o=some (x,o',0):=by
 unfold Uk at h
 by_cases hc:c≠0
 ·rw[if_pos hc]at h
  have:=congrArg (fun q=>q.map fun p=>p.2.2) h
  exact absurd (Option.some.inj this) hc
 ·rw[if_neg hc]at h
  refine⟨Decidable.of_not_not hc,?_⟩
  cases hr:rd o with
  |none=>rw[hr]at h;cases h
  |some q=>
   obtain⟨x1,o1,e⟩:=q
   rw[hr]at h
   have h:(if e≠0 then some (z,o,e)else some (x1,o1,0))=some (x,o',0):=h
   by_cases he:e≠0
   ·rw[if_pos he]at h
    have:=congrArg (fun q=>q.map fun p=>p.2.2) h
    exact absurd (Option.some.inj this) he
   ·rw[if_neg he]at h
    rw[Decidable.of_not_not he]
    exact h
theorem wN {α:Type}{r:Option (α × Int × Int)}{x:α}{o:Int}(h:rdR r=some (.inr (x,o))):r=some (x,o,0):=by
 match r,h with
 |none,h=>cases h
 |some (x1,o1,e),h=>
  have h:(if e=0 then some (Sum.inr (x1,o1))else some (.inl e))=some (.inr (x,o)):=h
  by_cases he:e=0
  ·rw[if_pos he]at h
   have e1:=Sum.inr.inj (Option.some.inj h)
   rw[he,show x1=x from congrArg Prod.fst e1,show o1=o from congrArg Prod.snd e1]
  ·rw[if_neg he]at h;cases h
theorem UZ {α:Type}{r:Option (α × Int × Int)}{x:α}{o:Int}(h:r=some (x,o,0)):rdR r=some (.inr (x,o)):=by
 rw[h];unfold rdR;simp only;rw[if_pos trivial]
theorem jeb {α:Type}{z:α}{r:Option (Int ⊕ (α × Int))}{x:α}{o:Int}(h:r=some (.inr (x,o))):rdF z r=some (x,o,0):=by rw[h];rfl
theorem jao {α:Type}{z:α}{r:Option (Int ⊕ (α × Int))}{x:α}{o:Int}(hz:∀e,r=some (.inl e)->e≠0)(h:rdF z r=some (x,o,0)):r=some (.inr (x,o)):=by
 match r,h,hz with
 |none,h,_=>cases h
 |some (.inl e),h,hz=>
  have h:some (z,(0:Int),e)=some (x,o,0):=h
  have:=congrArg (fun q=>q.map fun p=>p.2.2) h
  exact absurd (Option.some.inj this) (hz e rfl)
 |some (.inr (x1,o1)),h,_=>
  have h:some (x1,o1,(0:Int))=some (x,o,0):=h
  cases h;rfl
noncomputable abbrev inD (b:List UInt8):=rInR (jd b) (jh b) (jf b)
noncomputable abbrev jbj (b:List UInt8):=mF (jd b) (jh b) (jf b)
noncomputable abbrev jdv (b:List UInt8):=uT (jd b) (jh b) (jf b)
def NZ {α:Type}(r:Option (Int ⊕ α)):Prop:=∀e,r=some (.inl e)->e≠0
theorem NZ.rd {α:Type}(r:Option (α × Int × Int)):NZ (rdR r):=fun e h=>by
 match r,h with
 |none,h=>cases h
 |some (x1,o1,e1),h=>
  have h:(if e1=0 then some (Sum.inr (x1,o1))else some (.inl e1))=some (.inl e):=h
  by_cases he:e1=0
  ·rw[if_pos he]at h;cases h
  ·rw[if_neg he]at h;cases h;exact he
theorem NZ.and {α β:Type}{r:Option (Int ⊕ (α × Int))}{k:α->Int->Option (Int ⊕ β)}(h:NZ r)(hk:∀x o,NZ (k x o)):NZ (JH r k):=fun e he=>by
 match r,h,he with
 |none,_,he=>cases he
 |some (.inl e1),h,he=>
  have he:some (Sum.inl e1)=some (Sum.inl e):=he
  cases he;exact h _ rfl
 |some (.inr (x,o)),_,he=>exact hk x o e he
theorem NZ.ok {α:Type}(x:α):NZ (some (.inr x):Option (Int ⊕ α)):=fun e h=>by cases h
theorem NZ.len (b:List UInt8)(o:Int):NZ (KI (jd b) o):=by
 unfold KI
 refine(NZ.rd _).and fun n o=>?_
 by_cases h1:n<0
 ·rw[if_pos h1];intro e h;cases h;omega
 ·rw[if_neg h1]
  by_cases h2:8192<n
  ·rw[if_pos h2];intro e h;cases h;omega
  ·rw[if_neg h2];exact .ok _
theorem NZ.list {α:Type}{d:Int->Option (Int ⊕ (α × Int))}(h:∀o,NZ (d o)):∀(n:Nat) (l:List α) (o:Int),NZ (Qa d n l o)
 |0,l,o=>.ok _
 |n+1,l,o=>(h o).and fun x o=>NZ.list h n _ o
theorem NZ.fix (b:List UInt8)(o:Int):NZ (vG (jd b) (jh b) (jf b) o):=by
 rw[dfx]
 repeat' (first|exact NZ.ok _|refine NZ.and (NZ.rd _) fun _ _=>?_|refine NZ.and (NZ.len _ _) fun _ _=>?_|refine NZ.and (NZ.list (fun _=>NZ.rd _) _ _ _) fun _ _=>?_)
section
variable {b:List UInt8} (hb:b.length<=Kg)
include hb
theorem NZ.body (o:Int):NZ (QD (jd b) (jh b) (jf b) o):=by
 rw[dbo hb]
 repeat' (first|exact NZ.ok _|refine NZ.and (NZ.rd _) fun _ _=>?_|refine NZ.and (NZ.len _ _) fun _ _=>?_|refine NZ.and (NZ.list (fun _=>NZ.fix _ _) _ _ _) fun _ _=>?_)
theorem NZ.Mb (o:Int):NZ (qi (jd b) (jh b) (jf b) o):=by
 rw[djo hb]
 repeat' (first|exact NZ.ok _|refine NZ.and (NZ.rd _) fun _ _=>?_)
def jgH (x:Input):Prop:=Vx x/\jhA x.Body
theorem fIn {x:Input}(hx:jgH x){pre post:List UInt8}(e:b=pre++(uw x++post)):inD b (pre.length:Int) 0=some (x,((pre++uw x).length:Int),0):=by
 obtain⟨⟨h1,h2,h3,h4,h5,h6⟩,hk⟩:=hx
 unfold uw at e
 simp only[List.append_assoc]at e
 have e0:=asc e
 have e1:=asc e0
 have e2:=asc e1
 have e3:=asc e2
 have e4:=asc e3
 unfold inD rInR
 rw[Wl (wN (fI hb h1 _ _ e)),YM,Wl (wN (fI hb h2 _ _ e0)),YM,Wl (wN (fV hb h3 _ _ e1)),YM,Wl (wN (fI hb h4 _ _ e2)),YM,Wl (rd:=fun o=>rdF exB (QD (jd b) (jh b) (jf b) o)) (jeb (fBo hb h5 hk _ _ e3)),YM,Wl (rd:=fun o=>rdF exJ (qi (jd b) (jh b) (jf b) o)) (jeb (fJo hb h6 _ _ e4)),YM]
 simp only[uw,List.append_assoc]
theorem jh2 {o o':Int}{x:Input}(h:inD b o 0=some (x,o',0)):Seg b o o' (uw x)/\jgH x:=by
 unfold inD rInR at h
 obtain⟨kd,o1,c1,q1,h⟩:=JK h
 obtain⟨id,o2,c2,q2,h⟩:=JK h
 obtain⟨ve,o3,c3,q3,h⟩:=JK h
 obtain⟨va,o4,c4,q4,h⟩:=JK h
 obtain⟨bo,o5,c5,q5,h⟩:=JK h
 obtain⟨jo,o6,c6,q6,h⟩:=JK h
 cases h
 obtain⟨rfl,p6⟩:=KB q6
 obtain⟨rfl,p5⟩:=KB q5
 obtain⟨rfl,p4⟩:=KB q4
 obtain⟨rfl,p3⟩:=KB q3
 obtain⟨rfl,p2⟩:=KB q2
 obtain⟨-,p1⟩:=KB q1
 have s1:=bkI hb _ _ _ (UZ p1)
 have s2:=bkI hb _ _ _ (UZ p2)
 have s3:=bkV hb _ _ _ (UZ p3)
 have s4:=bkI hb _ _ _ (UZ p4)
 have s5:=jh3 hb _ _ _ (jao (NZ.body hb o4) p5)
 have s6:=jh1 hb _ _ _ (jao (NZ.Mb hb o5) p6)
 exact⟨s1.1.trans (s2.1.trans (s3.1.trans (s4.1.trans (s5.1.trans s6.1)))),⟨s1.2,s2.2,s3.2,s4.2,s5.2.1,s6.2⟩,s5.2.2⟩
theorem jhI:∀(l acc:List Input) (pre post:List UInt8),(∀x∈l,jgH x)->b=pre++(l.flatMap uw++post)->jbj b l.length acc (pre.length:Int) 0=some (acc++l,((pre++l.flatMap uw).length:Int),0)
 | [],acc,pre,post,_,e=>by
   show some _=_
   simp
 |x::l,acc,pre,post,h,e=>by
  rw[List.flatMap_cons,List.append_assoc]at e
  show(if(0:Int)≠0 then _ else Zi (inD b pre.length 0) fun x o c=>jbj b l.length (acc++[x]) o c)=_
  rw[if_neg h0n,fIn hb (h x (List.mem_cons_self ..)) e,YM]
  refine(jhI l (acc++[x]) (pre++uw x) post (fun y hy=>h y (List.mem_cons_of_mem _ hy)) (asc e)).trans ?_
  simp only[List.flatMap_cons,List.append_assoc,List.cons_append,List.nil_append]
omit hb in
theorem jf5 {k:Nat}{l:List Input}{o e:Int}(he:e≠0):jbj b k l o e=some (l,o,e):=by
 cases k with
 |zero=>rfl
 |succ k=>show(if e≠0 then _ else _)=_;rw[if_pos he]
omit hb in
theorem jgd {k:Nat}{l:List (List Input)}{o e:Int}(he:e≠0):jdv b k l o e=some (l,o,e):=by
 cases k with
 |zero=>rfl
 |succ k=>show(if e≠0 then _ else _)=_;rw[if_pos he]
omit hb in
theorem jgZ {k:Nat}{l l':List Input}{o o' c:Int}(h:jbj b k l o c=some (l',o',0)):c=0:=Decidable.byContradiction fun hc=>by
 rw[jf5 hc]at h
 have:=congrArg (fun q=>q.map fun p=>p.2.2) h
 exact absurd (Option.some.inj this) hc
omit hb in
theorem jg1 {k:Nat}{l l':List (List Input)}{o o' c:Int}(h:jdv b k l o c=some (l',o',0)):c=0:=Decidable.byContradiction fun hc=>by
 rw[jgd hc]at h
 have:=congrArg (fun q=>q.map fun p=>p.2.2) h
 exact absurd (Option.some.inj this) hc
theorem jg6:∀(n:Nat) (acc:List Input) (o:Int) (l':List Input) (o':Int),0<=o->o<=(b.length:Int)->jbj b n acc o 0=some (l',o',0)->∃l,l'=acc++l/\l.length=n/\Seg b o o' (l.flatMap uw)/\∀x∈l,jgH x
 |0,acc,o,l',o',h0,h1,h=>by
  have h:some (acc,o,(0:Int))=some (l',o',0):=h
  cases h
  exact⟨[],by simp,rfl,Seg.nil h0 h1,by simp⟩
 |n+1,acc,o,l',o',h0,h1,h=>by
  have h:(if(0:Int)≠0 then some (acc,o,(0:Int))else Zi (inD b o 0) fun x o c=>jbj b n (acc++[x]) o c)=some (l',o',0):=h
  rw[if_neg h0n]at h
  obtain⟨x,o1,c1,q1,h⟩:=JK h
  obtain rfl:=jgZ h
  have s1:=jh2 hb q1
  obtain⟨l,e1,e2,s2,q2⟩:=jg6 n (acc++[x]) o1 l' o' (Int.le_trans h0 s1.1.2.1) s1.1.2.2.1 h
  refine⟨x::l,by rw[e1];simp,by simp[e2],by rw[List.flatMap_cons];exact s1.1.trans s2,?_⟩
  intro y hy
  rcases List.mem_cons.1 hy with rfl|hy
  ·exact s1.2
  ·exact q2 y hy
theorem jhH {n:Int}(h0:0<=n)(h1:n<=8192){pre post:List UInt8}(e:b=pre++(encInt n++post)):kt (jd b) (pre.length:Int) 0=some (n,((pre++encInt n).length:Int),0):=by
 have hm:IntKind.i64.min = -9223372036854775808:=rfl
 have hM:IntKind.i64.max=9223372036854775807:=rfl
 unfold kt
 rw[Wl (wN (fI hb (n:=n) ⟨by omega,by omega⟩ _ _ e)),YM,if_neg (by omega),if_neg (by omega),if_neg h0n]
theorem jg5 {o o' c n:Int}(h:kt (jd b) o c=some (n,o',0)):c=0/\Seg b o o' (encInt n)/\0<=n/\n<=8192:=by
 unfold kt at h
 obtain⟨x,o1,c1,q1,h⟩:=JK h
 by_cases h1:x<0
 ·rw[if_pos h1]at h
  have:=congrArg (fun q=>q.map fun p=>p.2.2) h
  exact absurd (Option.some.inj this) (by simp)
 ·rw[if_neg h1]at h
  by_cases h2:8192<x
  ·rw[if_pos h2]at h
   have:=congrArg (fun q=>q.map fun p=>p.2.2) h
   exact absurd (Option.some.inj this) (by simp)
  ·rw[if_neg h2]at h
   by_cases h3:c1≠0
   ·rw[if_pos h3]at h
    have:=congrArg (fun q=>q.map fun p=>p.2.2) h
    exact absurd (Option.some.inj this) h3
   ·rw[if_neg h3]at h
    cases h
    obtain⟨rfl,p1⟩:=KB q1
    have s1:=bkI hb _ _ _ (UZ p1)
    exact⟨rfl,s1.1,by omega,by omega⟩
def jhc (f:List Input):Prop:=f.length<=8192/\∀x∈f,jgH x
theorem jhJ:∀(l acc:List (List Input)) (pre post:List UInt8),(∀f∈l,jhc f)->b=pre++(l.flatMap ZM++post)->jdv b l.length acc (pre.length:Int) 0=some (acc++l,((pre++l.flatMap ZM).length:Int),0)
 | [],acc,pre,post,_,e=>by
   show some _=_
   simp
 |f::l,acc,pre,post,h,e=>by
  obtain⟨h1,h2⟩:=h f (List.mem_cons_self ..)
  rw[List.flatMap_cons,List.append_assoc]at e
  have e':=e
  unfold ZM at e'
  simp only[List.append_assoc]at e'
  show(if(0:Int)≠0 then _ else Zi (kt (jd b) pre.length 0) fun n o c=>Zi (jbj b n.toNat [] o c) fun f o c=>jdv b l.length (acc++[f]) o c)=_
  rw[if_neg h0n,jhH hb (n:=(f.length:Int)) (by omega) (by omega) e',YM,Int.toNat_natCast,jhI hb f [] _ _ h2 (asc e'),YM,List.nil_append,List.append_assoc]
  refine(jhJ l (acc++[f]) (pre++ZM f) post (fun y hy=>h y (List.mem_cons_of_mem _ hy)) (asc e)).trans ?_
  simp only[List.flatMap_cons,List.append_assoc,List.cons_append,List.nil_append]
theorem jg7:∀(n:Nat) (acc:List (List Input)) (o:Int) (l':List (List Input)) (o':Int),0<=o->o<=(b.length:Int)->jdv b n acc o 0=some (l',o',0)->∃l,l'=acc++l/\l.length=n/\Seg b o o' (l.flatMap ZM)/\∀f∈l,jhc f
 |0,acc,o,l',o',h0,h1,h=>by
  have h:some (acc,o,(0:Int))=some (l',o',0):=h
  cases h
  exact⟨[],by simp,rfl,Seg.nil h0 h1,by simp⟩
 |n + 1,acc,o,l',o',h0,h1,h=>by
  have h:(if(0:Int)≠0 then some (acc,o,(0:Int))else Zi (kt (jd b) o 0) fun n1 o c=>Zi (jbj b n1.toNat [] o c) fun f o c=>jdv b n (acc++[f]) o c)=some (l',o',0):=h
  rw[if_neg h0n]at h
  obtain⟨m,o1,c1,q1,ha⟩:=JK h
  obtain⟨f,o2,c2,q2,hc⟩:=JK ha
  obtain rfl:=jg1 hc
  obtain rfl:=jgZ q2
  obtain⟨-,s1,m0,m1⟩:=jg5 hb q1
  obtain⟨fr,e1,e2,s2,k2⟩:=jg6 hb m.toNat [] o1 f o2 (Int.le_trans h0 s1.2.1) s1.2.2.1 q2
  rw[List.nil_append]at e1
  subst e1
  obtain⟨l,e3,e4,s3,k3⟩:=jg7 n (acc++[f]) o2 l' o' (Int.le_trans (Int.le_trans h0 s1.2.1) s2.2.1) s2.2.2.1 hc
  have em:m=(f.length:Int):=by omega
  refine⟨f::l,by rw[e3];simp,by simp[e4],?_,?_⟩
  ·rw[List.flatMap_cons]
   refine Seg.trans ?_ s3
   unfold ZM
   rw[<-em]
   exact s1.trans s2
  ·intro y hy
   rcases List.mem_cons.1 hy with rfl|hy
   ·exact⟨by omega,k2⟩
   ·exact k3 y hy
end
def Tot {α:Type}(r:Option α):Prop:=∃y,r=some y
theorem Tot.ok {α:Type}(x:α):Tot (some x):=⟨x,rfl⟩
theorem Tot.and {α β:Type}{r:Option (Int ⊕ (α × Int))}{k:α->Int->Option (Int ⊕ β)}(h:Tot r)(hk:∀x o,Tot (k x o)):Tot (JH r k):=by
 obtain⟨y,rfl⟩:=h
 match y with
 | .inl e=>exact⟨.inl e,rfl⟩
 | .inr (x,o)=>exact hk x o
theorem Tot.Zi {α β:Type}{r:Option (α × Int × Int)}{k:α->Int->Int->Option β}(h:Tot r)(hk:∀x o c,Tot (k x o c)):Tot (Zi r k):=by
 obtain⟨⟨x,o,c⟩,rfl⟩:=h
 exact hk x o c
theorem Tot.rd {α:Type}{r:Option (α × Int × Int)}(h:Tot r):Tot (rdR r):=by
 obtain⟨⟨x,o,c⟩,rfl⟩:=h
 unfold rdR
 simp only
 by_cases hc:c=0
 ·rw[if_pos hc];exact .ok _
 ·rw[if_neg hc];exact .ok _
theorem Tot.rdF {α:Type}{z:α}{r:Option (Int ⊕ (α × Int))}(h:Tot r):Tot (rdF z r):=by
 obtain⟨y,rfl⟩:=h
 match y with
 | .inl e=>exact⟨_,rfl⟩
 | .inr (x,o)=>exact⟨_,rfl⟩
theorem Tot.fld {α:Type}{z:α}{rd:Int->Option (α × Int × Int)}(h:∀o,Tot (rd o))(o c:Int):Tot (Uk z rd o c):=by
 unfold Uk
 by_cases hc:c≠0
 ·rw[if_pos hc];exact .ok _
 ·rw[if_neg hc]
  obtain⟨⟨x,o1,e⟩,h1⟩:=h o
  rw[h1]
  show Tot (if e≠0 then some (z,o,e)else some (x,o1,0))
  by_cases he:e≠0
  ·rw[if_pos he];exact .ok _
  ·rw[if_neg he];exact .ok _
theorem Tot.list {α:Type}{d:Int->Option (Int ⊕ (α × Int))}(h:∀o,Tot (d o)):∀(n:Nat) (l:List α) (o:Int),Tot (Qa d n l o)
 |0,l,o=>.ok _
 |n+1,l,o=>(h o).and fun x o=>Tot.list h n _ o
theorem Tot.bool (b:List UInt8)(o:Int):Tot (rdR (jf b o)):=by
 rw[uS]
 by_cases h1:o<0\/(b.length:Int)<o
 ·rw[if_pos h1];exact .ok _
 ·rw[if_neg h1]
  by_cases h2:o=(b.length:Int)
  ·rw[if_pos h2];exact .ok _
  ·rw[if_neg h2]
   by_cases h3:toByte 1<ix b o
   ·rw[if_pos h3];exact .ok _
   ·rw[if_neg h3];exact .ok _
section
variable {b:List UInt8} (hb:b.length<=Kg)
include hb
theorem Tot.jgY (o:Int):Tot (jd b o):=⟨_,cI hb o⟩
theorem Tot.int (o:Int):Tot (rdR (jd b o)):=(Tot.jgY hb o).rd
theorem Tot.len (o:Int):Tot (KI (jd b) o):=by
 unfold KI
 refine(Tot.int hb o).and fun n o=>?_
 by_cases h1:n<0
 ·rw[if_pos h1];exact .ok _
 ·rw[if_neg h1]
  by_cases h2:8192<n
  ·rw[if_pos h2];exact .ok _
  ·rw[if_neg h2];exact .ok _
theorem Tot.vec (o:Int):Tot (rdR (jh b o)):=by
 rw[UY hb]
 exact(Tot.int hb _).and fun _ _=>(Tot.int hb _).and fun _ _=>.ok _
theorem Tot.jhL (o:Int):Tot (jh b o):=by
 have h:=Tot.vec hb o
 cases hr:jh b o with
 |none=>rw[hr]at h;obtain⟨y,h⟩:=h;cases h
 |some q=>exact .ok _
theorem Tot.fix (o:Int):Tot (vG (jd b) (jh b) (jf b) o):=by
 rw[dfx]
 repeat' (first|exact Tot.ok _|refine Tot.and (Tot.int hb _) fun _ _=>?_|refine Tot.and (Tot.bool _ _) fun _ _=>?_|refine Tot.and (Tot.len hb _) fun _ _=>?_|refine Tot.and (Tot.list (fun _=>Tot.vec hb _) _ _ _) fun _ _=>?_)
theorem Tot.body (o:Int):Tot (QD (jd b) (jh b) (jf b) o):=by
 rw[dbo hb]
 repeat' (first|exact Tot.ok _|refine Tot.and (Tot.int hb _) fun _ _=>?_|refine Tot.and (Tot.bool _ _) fun _ _=>?_|refine Tot.and (Tot.len hb _) fun _ _=>?_|refine Tot.and (Tot.list (fun _=>Tot.fix hb _) _ _ _) fun _ _=>?_)
theorem Tot.Mb (o:Int):Tot (qi (jd b) (jh b) (jf b) o):=by
 rw[djo hb]
 repeat' (first|exact Tot.ok _|refine Tot.and (Tot.int hb _) fun _ _=>?_|refine Tot.and (Tot.bool _ _) fun _ _=>?_)
theorem Tot.inp (o c:Int):Tot (inD b o c):=by
 unfold inD rInR
 exact(Tot.fld (Tot.jgY hb) _ _).Zi fun _ _ _=>(Tot.fld (Tot.jgY hb) _ _).Zi fun _ _ _=>(Tot.fld (Tot.jhL hb) _ _).Zi fun _ _ _=>(Tot.fld (Tot.jgY hb) _ _).Zi fun _ _ _=>(Tot.fld (fun o=>(Tot.body hb o).rdF) _ _).Zi fun _ _ _=>(Tot.fld (fun o=>(Tot.Mb hb o).rdF) _ _).Zi fun _ _ _=>.ok _
theorem Tot.jhF:∀(n:Nat) (l:List Input) (o c:Int),Tot (jbj b n l o c)
 |0,l,o,c=>.ok _
 |n+1,l,o,c=>by
  show Tot (if c≠0 then some (l,o,c)else GoForm.Zi (inD b o c) fun x o c=>jbj b n (l++[x]) o c)
  by_cases hc:c≠0
  ·rw[if_pos hc];exact .ok _
  ·rw[if_neg hc];exact(Tot.inp hb _ _).Zi fun x o c=>Tot.jhF n _ o c
theorem Tot.rlen (o c:Int):Tot (kt (jd b) o c):=by
 unfold kt
 refine(Tot.fld (Tot.jgY hb) _ _).Zi fun n o c=>?_
 by_cases h1:n<0
 ·rw[if_pos h1];exact .ok _
 ·rw[if_neg h1]
  by_cases h2:8192<n
  ·rw[if_pos h2];exact .ok _
  ·rw[if_neg h2]
   by_cases h3:c≠0
   ·rw[if_pos h3];exact .ok _
   ·rw[if_neg h3];exact .ok _
theorem Tot.frs:∀(n:Nat) (l:List (List Input)) (o c:Int),Tot (jdv b n l o c)
 |0,l,o,c=>.ok _
 |n+1,l,o,c=>by
  show Tot (if c≠0 then some (l,o,c)else GoForm.Zi (kt (jd b) o c) fun n1 o c=>GoForm.Zi (jbj b n1.toNat [] o c) fun f o c=>jdv b n (l++[f]) o c)
  by_cases hc:c≠0
  ·rw[if_pos hc];exact .ok _
  ·rw[if_neg hc];exact(Tot.rlen hb _ _).Zi fun n1 o c=>(Tot.jhF hb _ _ _ _).Zi fun f o c=>Tot.frs n _ o c
end
theorem jgH.sm {x:Input}(h:jgH x):SmI x:=⟨h.1,by have:=h.2.1;omega,fun f hf=>by have:=h.2.2 f hf;omega⟩
noncomputable def jeK (p:List UInt8):Option (List (List Input) × Int):=
 Zi (kt (jd p) 0 0) fun n o c=>Zi (jdv p n.toNat [] o c) fun r o c=>if c≠0 then some ([],c)else if o<(p.length:Int)then some ([],3)else if rvl r≠0 then some ([],25)else some (r,0)
theorem Ur {b:List UInt8}(hb:b.length<=Kg):JN b=if(Kv b).2≠0 then some ([],(Kv b).2)else jeK (Kv b).1:=by
 show zb yH jd jh jf jy b=_
 unfold zb jeK
 rw[jc0 hb]
 simp only[wQ]
theorem xg (b:List UInt8):(Kv b).1.length<=b.length:=by
 unfold Kv
 by_cases h1:b.length<4
 ·rw[if_pos h1];simp
 ·rw[if_neg h1]
  by_cases h2:Kd (b.take (b.length - 4))≠b
  ·rw[if_pos h2];simp
  ·rw[if_neg h2];show(b.take _).length<=_;rw[List.length_take];omega
theorem jdP {p:List UInt8}(hp:p.length<=Kg):Tot (jeK p):=by
 unfold jeK
 refine(Tot.rlen hp _ _).Zi fun n o c=>(Tot.frs hp _ _ _ _).Zi fun r o c=>?_
 by_cases h1:c≠0
 ·rw[if_pos h1];exact .ok _
 ·rw[if_neg h1]
  by_cases h2:o<(p.length:Int)
  ·rw[if_pos h2];exact .ok _
  ·rw[if_neg h2]
   by_cases h3:rvl r≠0
   ·rw[if_pos h3];exact .ok _
   ·rw[if_neg h3];exact .ok _
theorem jgn {b:List UInt8}(hb:b.length<=Kg):Tot (JN b):=by
 rw[Ur hb]
 by_cases h:(Kv b).2≠0
 ·rw[if_pos h];exact .ok _
 ·rw[if_neg h];exact jdP (Nat.le_trans (xg b) hb)
theorem jdQ {r:List (List Input)}(hl:r.length<=8192)(hk:∀f∈r,jhc f)(hv:rvl r=0)(hp:(PG r).length<=Kg):jeK (PG r)=some (r,0):=by
 have e:PG r=[]++(encInt (r.length:Int)++(r.flatMap ZM++[])):=by unfold PG;simp
 have q1:=jhH hp (n:=(r.length:Int)) (by omega) (by omega) e
 have e2:=asc e
 have q2:=jhJ hp r [] _ _ hk e2
 rw[List.nil_append r]at q2
 have hz:((([]:List UInt8).length:Nat):Int)=0:=rfl
 rw[hz]at q1
 unfold jeK
 rw[q1,YM,Int.toNat_natCast,q2,YM,if_neg h0n]
 have hlen:(([]++encInt (r.length:Int))++r.flatMap ZM).length=(PG r).length:=by unfold PG;simp
 rw[hlen,if_neg (by omega),if_neg (by omega)]
theorem jbT {p:List UInt8}(hp:p.length<=Kg){q:List (List Input)}(h:jeK p=some (q,0)):p=PG q/\q.length<=8192/\(∀f∈q,jhc f)/\rvl q=0:=by
 unfold jeK at h
 obtain⟨n,o1,c1,q1,ha⟩:=JK h
 obtain⟨r,o2,c2,q2,hc⟩:=JK ha
 by_cases h1:c2≠0
 ·rw[if_pos h1]at hc
  have:=congrArg Prod.snd (Option.some.inj hc)
  exact absurd this h1
 ·rw[if_neg h1]at hc
  obtain rfl:c2=0:=Decidable.of_not_not h1
  by_cases h2:o2<(p.length:Int)
  ·rw[if_pos h2]at hc
   have:=congrArg Prod.snd (Option.some.inj hc)
   exact absurd this (by simp)
  ·rw[if_neg h2]at hc
   by_cases h3:rvl r≠0
   ·rw[if_pos h3]at hc
    have:=congrArg Prod.snd (Option.some.inj hc)
    exact absurd this (by simp)
   ·rw[if_neg h3]at hc
    have er:r=q:=congrArg Prod.fst (Option.some.inj hc)
    subst er
    obtain rfl:=jg1 q2
    obtain⟨-,s1,n0,n1⟩:=jg5 hp q1
    obtain⟨l,e1,e2,s2,k2⟩:=jg7 hp n.toNat [] o1 r o2 s1.2.1 s1.2.2.1 q2
    rw[List.nil_append]at e1
    subst e1
    have en:n=(r.length:Int):=by omega
    have s:=s1.trans s2
    refine⟨?_,by omega,k2,by omega⟩
    have e3:=s.2.2.2
    have e4:o2.toNat=p.length:=by have:=s.2.2.1;omega
    rw[e4,List.take_length,en]at e3
    unfold PG
    simpa using e3.symm
theorem jgo {r:List (List Input)}(hl:r.length<=8192)(hk:∀f∈r,jhc f)(hv:rvl r=0)(hp:(PG r).length<=900000000):JN (Kd (PG r))=some (r,0):=by
 have hc:Kg=1000000000:=rfl
 rw[Ur (by rw[US];omega),jaO,if_neg h0n]
 exact jdQ hl hk hv (by omega)
theorem jgi {b:List UInt8}(hb:b.length<=100000){q:List (List Input)}(h:JN b=some (q,0)):yo q=some (b,0):=by
 have hc:Kg=1000000000:=rfl
 rw[Ur (by omega)]at h
 by_cases h0:(Kv b).2≠0
 ·rw[if_pos h0]at h
  have:=congrArg Prod.snd (Option.some.inj h)
  exact absurd this h0
 ·rw[if_neg h0]at h
  have hol:=xg b
  obtain⟨e1,e2,e3,e4⟩:=jbT (by omega) h
  have hs:SmR q:=⟨by omega,fun f hf=>⟨by have:=(e3 f hf).1;omega,fun x hx=>((e3 f hf).2 x hx).sm⟩,by rw[<-e1];omega⟩
  rw[jaB hs]
  unfold VL
  rw[if_neg (by omega),<-e1]
  have:=jaP (b:=b) (p:=(Kv b).1) (by
   have:(Kv b).2=0:=Decidable.of_not_not h0
   rw[<-this])
  rw[<-this]
theorem jaD:∀(L:List (List UInt8)),(∀p∈L,(10:UInt8)∉p)->spl 10 (flat 10 L)=L++[[]]
 | [],_=>rfl
 |p::L,h=>by
  rw[QB,Xg 10 _ p (h p (List.mem_cons_self ..)),jaD L fun q hq=>h q (List.mem_cons_of_mem _ hq)];rfl
theorem jdA {L M:List (List UInt8)}(hL:∀p∈L,(10:UInt8)∉p)(hM:∀p∈M,(10:UInt8)∉p)(h:flat 10 L=flat 10 M):L=M:=by
 have e:=jaD L hL
 rw[h,jaD M hM]at e
 exact(List.append_cancel_right e).symm
theorem jbD (L:List (List UInt8))(h:L≠[]):zu 10 (flat 10 L)=true:=by
 unfold zu
 rw[decide_eq_true_iff]
 unfold flat
 obtain⟨M,p,rfl⟩:∃M p,L=M++[p]:=⟨L.dropLast,L.getLast h,(List.dropLast_concat_getLast h).symm⟩
 rw[List.flatMap_append]
 simp
theorem Xq (L:List (List UInt8))(h:∀p∈L,(10:UInt8)∉p):Qz (flat 10 L)=(L,0):=by
 rcases VE (flat 10 L)with ⟨h0,he,-⟩|⟨M,h1,h2,h3,-⟩
 ·have:L≠[]:=by rintro rfl;exact h0 rfl
  rw[jbD L this]at he;cases he
 ·rw[h1,jdA h3 h h2]
theorem We {s:List UInt8}(h:∀c∈s,33<=c.toNat/\c.toNat<=126)(hn:s≠[]):isF s=true:=by
 unfold isF
 rw[Bool.and_eq_true,List.all_eq_true,decide_eq_true_iff]
 refine⟨fun c hc=>?_,hn⟩
 obtain⟨h1,h2⟩:=h c hc
 simp[h1,h2]
theorem jbS {m:Nat}:∀c∈Yx m,48<=c.toNat/\c.toNat<=57:=by
 intro c hc
 have:=List.all_eq_true.1 (Qq m m (Nat.le_refl _)).1 c hc
 unfold isD at this
 simpa using this
theorem jgm (m:Nat):Yx m≠[]:=by
 obtain⟨-,-,x,l,h,-⟩:=Qq m m (Nat.le_refl _)
 rw[h];simp
theorem Wk {n:Int}:∀c∈yv n,33<=c.toNat/\c.toNat<=126:=by
 intro c hc
 unfold yv at hc
 by_cases h:n<0
 ·rw[if_pos h]at hc
  rcases List.mem_cons.1 hc with rfl|hc
  ·decide
  ·have:=jbS c hc;omega
 ·rw[if_neg h]at hc
  have:=jbS c hc;omega
theorem xz (n:Int):yv n≠[]:=by
 unfold yv
 by_cases h:n<0
 ·rw[if_pos h];simp
 ·rw[if_neg h];exact jgm _
theorem xB {n:Int}:∀c∈YH n,33<=c.toNat/\c.toNat<=126:=by
 intro c hc
 unfold YH at hc
 by_cases h:n≠0/\n.tmod 65536=0
 ·rw[if_pos h]at hc
  rcases List.mem_append.1 hc with hc|hc
  ·exact Wk c hc
  ·rw[List.mem_singleton.1 hc];decide
 ·rw[if_neg h]at hc
  exact Wk c hc
theorem xA (n:Int):YH n≠[]:=by
 unfold YH
 by_cases h:n≠0/\n.tmod 65536=0
 ·rw[if_pos h];simp
 ·rw[if_neg h];exact xz _
def KW (k:Int):Prop:=k=1\/k=2\/k=3\/k=4\/k=5\/k=6\/k=7\/k=8\/k=10\/k=12
theorem jhn {k:Int}(h:KW k):isF (wdv k)=true:=by
 rcases h with rfl|rfl|rfl|rfl|rfl|rfl|rfl|rfl|rfl|rfl <;> kernel_rfl
theorem jdg {k:Int}(h:KW k):qV jm (wdv k) 12=k:=by
 rcases h with rfl|rfl|rfl|rfl|rfl|rfl|rfl|rfl|rfl|rfl <;> kernel_rfl
theorem jho {k:Int}(h:KW k):(usd k).1=true:=by
 rcases h with rfl|rfl|rfl|rfl|rfl|rfl|rfl|rfl|rfl|rfl <;> kernel_rfl
theorem jeA {x:Input}(h:KW x.Kind):(uv x).all isF=true:=by
 rw[List.all_eq_true]
 intro p hp
 unfold uv at hp
 rcases List.mem_append.1 hp with hp|hp
 ·simp at hp
  rcases hp with rfl|rfl
  ·exact jhn h
  ·exact We Wk (xz _)
 ·rcases List.mem_append.1 hp with hp|hp
  ·split at hp
   ·simp at hp
    rcases hp with rfl|rfl <;> exact We xB (xA _)
   ·cases hp
  ·split at hp
   ·simp at hp
    subst hp;exact We xB (xA _)
   ·cases hp
theorem jeB (x:Input):∃t,uv x=wdv x.Kind::yv x.ID::t:=⟨_,rfl⟩
theorem jaM {x:Input}(h:KW x.Kind):JM (Zc x)=(uv x,0):=VF _ (jeA h)
theorem Pd:JM zp=([zp],0):=VF [zp] (by decide)
theorem mX {x:Input}(h:KW x.Kind):Zc x≠zp:=by
 intro e
 have h1:=jaM h
 rw[e,Pd]at h1
 obtain⟨t,ht⟩:=jeB x
 rw[ht]at h1
 have:=congrArg (fun q=>q.1.length) h1
 simp at this
theorem jfW {L:List (List UInt8)}(h:∀p∈L,(10:UInt8)∉p):(10:UInt8)∉Lib.join L [32]:=by
 cases L with
 |nil=>simp[Lib.join]
 |cons x r=>
  rw[Lib.join_cons]
  intro hm
  rcases List.mem_append.1 hm with hm|hm
  ·exact h x (List.mem_cons_self ..) hm
  ·have:∀(r:List (List UInt8)),(∀p∈r,(10:UInt8)∉p)->(10:UInt8)∉Lib.joinTail [32] r:=by
    intro r
    induction r with
    |nil=>intro _ hh;cases hh
    |cons y r ih=>
     intro hr hh
     rw[ZF,List.cons_append]at hh
     rcases List.mem_cons.1 hh with hh|hh
     ·exact absurd hh (by decide)
     ·rcases List.mem_append.1 hh with hh|hh
      ·exact hr y (List.mem_cons_self ..) hh
      ·exact ih (fun p hp=>hr p (List.mem_cons_of_mem _ hp)) hh
   exact this r (fun p hp=>h p (List.mem_cons_of_mem _ hp)) hm
theorem jdo {p:List UInt8}(h:isF p=true):(10:UInt8)∉p:=by
 unfold isF at h
 rw[Bool.and_eq_true,List.all_eq_true]at h
 intro hm
 have:=h.1 _ hm
 exact absurd this (by decide)
theorem jfN {x:Input}(h:KW x.Kind):(10:UInt8)∉Zc x:=jfW fun p hp=>jdo (List.all_eq_true.1 (jeA h) p hp)
theorem jhY {k:Int}(h:KW k):(k != 9)=true/\(k != 11)=true/\(decide (k<1)||decide (k>12))=false:=by
 rcases h with rfl|rfl|rfl|rfl|rfl|rfl|rfl|rfl|rfl|rfl <;> decide
theorem UM {x:Input}(h:vld x=0)(hk:KW x.Kind)(hb:Bd x.Body):(1<=x.ID/\x.ID<=1099511627776)/\(if(usd x.Kind).2.1=true then sat x.Vec.X=true/\sat x.Vec.Y=true else x.Vec=⟨0,0⟩)/\(if(usd x.Kind).2.2=true then sat x.Value=true else x.Value=0)/\x.Body=exB/\x.jn=exJ:=by
 have h1:=jeX x
 rw[h]at h1
 have hz:=jhi x.Body MF hb
 obtain⟨k9,k11,k0⟩:=jhY hk
 unfold MF at hz
 have hu:=jho hk
 unfold yK at h1
 rw[ML]at h1
 simp only[JD,QQ,jG,hz,Pq,pA,Zf,Yq,ZG]at h1
 rw[hu,k9,k11,k0]at h1
 have h1:=Option.some.inj h1
 generalize hj:(!(decide (x.jn.ID=0)&&_))=jz at h1
 generalize hbz:decide (x.Body=_)=bz at h1
 generalize hv1:(!(decide (x.Vec.X=0)&&decide (x.Vec.Y=0)))=v1 at h1
 generalize hv2:(x.Value != 0)=v2 at h1
 generalize hi0:(decide (x.ID<1)||decide (x.ID>1099511627776))=i0 at h1
 generalize hi1:(x.ID != 0)=i1 at h1
 generalize hsx:sat x.Vec.X=sx at h1⊢
 generalize hsy:sat x.Vec.Y=sy at h1⊢
 generalize hsv:sat x.Value=sv at h1⊢
 generalize hu2:(usd x.Kind).2.1=u2 at h1⊢
 generalize hu3:(usd x.Kind).2.2=u3 at h1⊢
 have key:i0=false/\(if u2=true then sx=true/\sy=true else v1=false)/\(if u3=true then sv=true else v2=false)/\bz=true/\jz=false:=by
  clear hj hbz hv1 hv2 hi0 hi1 hsx hsy hsv hu2 hu3 hz k9 k11 k0 hu h
  revert h1
  cases i0 <;> cases i1 <;> cases jz <;> cases bz <;> cases u2 <;> cases u3 <;> cases v1 <;> cases v2 <;> cases sx <;> cases sy <;> cases sv <;> first|(intro h1;exact absurd h1 (by decide))|(intro _;decide)
 obtain⟨q1,q2,q3,q4,q5⟩:=key
 subst q1 q4 q5
 refine⟨?_,?_,?_,?_,?_⟩
 ·rw[Bool.or_eq_false_iff,decide_eq_false_iff_not,decide_eq_false_iff_not]at hi0
  omega
 ·cases u2
  ·simp only[Bool.false_eq_true,if_false]at q2⊢
   subst q2
   have:x.Vec.X=0/\x.Vec.Y=0:=by simpa using hv1
   cases hx:x.Vec with
   |mk a b=>rw[hx]at this;obtain⟨rfl,rfl⟩:=this;rfl
  ·simpa using q2
 ·cases u3
  ·simp only[Bool.false_eq_true,if_false]at q3⊢
   subst q3
   simpa using hv2
  ·simpa using q3
 ·exact of_decide_eq_true hbz
 ·simp only[Bool.not_eq_false',Bool.and_eq_true,decide_eq_true_eq]at hj
  generalize x.jn=J at hj
  obtain⟨a,b,c,d,⟨e1,e2⟩,⟨f1,f2⟩,⟨g1,g2⟩,h1,i1,j1,k1,l1,m1,n1,o1,p1,q1,r1,r2,r3,r4⟩:=J
  simp only at hj
  obtain⟨rfl,rfl,rfl,rfl,⟨rfl,rfl⟩,⟨rfl,rfl⟩,⟨rfl,rfl⟩,rfl,rfl,rfl,rfl,rfl,rfl,rfl,rfl,rfl,rfl,rfl,rfl,rfl,rfl⟩:=hj
  rfl
theorem jaf {n:Int}(h:sat n=true):n.natAbs<=536870911:=by
 unfold sat at h
 rw[Bool.and_eq_true,decide_eq_true_iff,decide_eq_true_iff]at h
 omega
theorem Pt {n:Int}(h:n.natAbs<=4611686018427387904):IntKind.i64.min<=n/\n<=IntKind.i64.max:=by
 rw[Vf,Vg];omega
theorem jfE {n:Int}(h:sat n=true):Pc (YH n)=(n,0):=by
 have h1:=jaf h
 have h2:=Pt (n:=n) (by omega)
 rw[jc5 n h2.1 h2.2,if_pos h1]
theorem jfD {n:Int}(h:1<=n/\n<=1099511627776):mO (yv n)=(n,0):=by
 rw[jc4,if_pos (by omega)]
theorem wm {n:Int}(h:1<=n/\n<=1099511627776)(t:List (List UInt8)):xf 0 (yv n::t)=match xf 1 t with|none=>none|some l=>some (n::l):=by
 rw[xf,if_pos rfl,jfD h,if_neg (by simp)]
 rfl
theorem uk {n:Int}(h:sat n=true)(i:Nat)(hi:i≠0)(t:List (List UInt8)):xf i (YH n::t)=match xf (i+1) t with|none=>none|some l=>some (n::l):=by
 rw[xf,if_neg hi,jfE h,if_neg (by simp)]
 rfl
theorem jhk {k:Int}(h:KW k):k≠0:=by
 rcases h with rfl|rfl|rfl|rfl|rfl|rfl|rfl|rfl|rfl|rfl <;> omega
theorem jaE {x:Input}(h:vld x=0)(hk:KW x.Kind)(hb:Bd x.Body):uj (uv x)=(x,true):=by
 obtain⟨hid,hv,hu,hB,hJ⟩:=UM h hk hb
 have e1:(uv x).headD []=wdv x.Kind:=rfl
 have e2:(uv x).tail=yv x.ID::((if(usd x.Kind).2.1=true then[YH x.Vec.X,YH x.Vec.Y]else[])++(if(usd x.Kind).2.2=true then[YH x.Value]else[])):=rfl
 unfold uj
 rw[e1,e2,jdg hk]
 unfold jfA
 have hx:∀a b c d,a=x.Vec->b=x.Value->c=x.Body->d=x.jn->({Kind:=x.Kind,ID:=x.ID,Vec:=a,Value:=b,Body:=c,jn:=d}:Input)=x:=by
  rintro a b c d rfl rfl rfl rfl;rfl
 cases h2:(usd x.Kind).2.1 <;> cases h3:(usd x.Kind).2.2 <;> rw[h2]at hv <;> rw[h3]at hu <;> simp only[Bool.false_eq_true,if_false,if_true]at hv hu⊢
 ·rw[if_neg (by rintro(q|q);exact jhk hk q;exact q rfl)]
  rw[List.append_nil,wm hid]
  show(qu x.Kind false false [x.ID],true)=(x,true)
  refine congrArg (fun y=>(y,true)) (hx _ _ _ _ hv.symm hu.symm hB.symm hJ.symm)
 ·rw[if_neg (by rintro(q|q);exact jhk hk q;exact q rfl)]
  rw[List.nil_append,wm hid,uk hu 1 (by omega)]
  show(qu x.Kind false true [x.ID,x.Value],true)=(x,true)
  refine congrArg (fun y=>(y,true)) (hx _ _ _ _ hv.symm rfl hB.symm hJ.symm)
 ·rw[if_neg (by rintro(q|q);exact jhk hk q;exact q rfl)]
  rw[List.append_nil,wm hid,uk hv.1 1 (by omega),uk hv.2 2 (by omega)]
  show(qu x.Kind true false [x.ID,x.Vec.X,x.Vec.Y],true)=(x,true)
  refine congrArg (fun y=>(y,true)) (hx _ _ _ _ rfl hu.symm hB.symm hJ.symm)
 ·rw[if_neg (by rintro(q|q);exact jhk hk q;exact q rfl)]
  rw[List.cons_append,List.cons_append,List.nil_append,wm hid,uk hv.1 1 (by omega),uk hv.2 2 (by omega),uk hu 3 (by omega)]
  show(qu x.Kind true true [x.ID,x.Vec.X,x.Vec.Y,x.Value],true)=(x,true)
  refine congrArg (fun y=>(y,true)) (hx _ _ _ _ rfl rfl hB.symm hJ.symm)
noncomputable def Qi (r:List (List Input)):List (List UInt8):=r.flatMap fun f=>zp::f.map Zc
theorem jdB (c:UInt8)(L M:List (List UInt8)):flat c (L++M)=flat c L++flat c M:=by unfold flat;rw[List.flatMap_append]
theorem vW:∀r,mD r=flat 10 (Qi r)
 | []=>rfl
 |f :: r=>by
  have ih:=vW r
  unfold mD Qi at ih⊢
  rw[List.flatMap_cons,List.flatMap_cons,jdB,ih]
  refine congrArg (·++_) ?_
  unfold frT
  rw[QB]
  have:∀f:List Input,f.flatMap (fun x=>Zc x++[10])=flat 10 (f.map Zc):=by
   intro f
   induction f with
   |nil=>rfl
   |cons x f ih=>rw[List.flatMap_cons,ih,List.map_cons,QB];simp
  rw[this];rfl
def jcr (x:Input):Prop:=vld x=0/\KW x.Kind/\Bd x.Body
theorem pO (acc:List (List Input))(g:List Input)(x:Input):(acc++[g]).set ((acc++[g]).length - 1) ((acc++[g]).getD ((acc++[g]).length - 1) []++[x])=acc++[g++[x]]:=by
 have e:(acc++[g]).length - 1=acc.length:=by simp
 rw[e,List.getD_eq_getElem?_getD,List.getElem?_append_right (Nat.le_refl _),List.set_append_right _ _ (Nat.le_refl _)]
 simp
theorem ja0 {x:Input}(h:jcr x)(t:List (List UInt8))(i:Nat)(acc:List (List Input))(g:List Input):vq (Zc x::t) i (acc++[g])=vq t (i+1) (acc++[g++[x]]):=by
 obtain⟨h1,h2,h3⟩:=h
 have hp:=jaM h2
 rw[vq,hp]
 have hne:uv x≠[]:=by obtain⟨u,hu⟩:=jeB x;rw[hu];simp
 rw[if_neg (by rintro(q|q);exact q rfl;exact hne q),if_neg (mX h2)]
 show(if(uj (uv x)).2=false\/acc++[g]=[]then _ else vq t (i+1) ((acc++[g]).set _ (_++[(uj (uv x)).1])))=_
 rw[jaE h1 h2 h3,if_neg (by rintro(q|q);cases q;simp at q),pO]
theorem mY (t:List (List UInt8))(i:Nat)(acc:List (List Input)):vq (zp::t) i acc=vq t (i+1) (acc++[[]]):=by
 rw[vq,Pd,if_neg (by rintro(q|q);exact q rfl;cases q),if_pos rfl]
theorem jeo:∀(f:List Input) (t:List (List UInt8)) (i:Nat) (acc:List (List Input)) (g:List Input),(∀x∈f,jcr x)->vq (f.map Zc++t) i (acc++[g])=vq t (i+f.length) (acc++[g++f])
 | [],t,i,acc,g,_=>by simp
 |x::f,t,i,acc,g,h=>by
  rw[List.map_cons,List.cons_append,ja0 (h x (List.mem_cons_self ..)),jeo f t (i+1) acc (g++[x]) fun y hy=>h y (List.mem_cons_of_mem _ hy),List.length_cons,List.append_assoc]
  rw[show i+1+f.length=i+(f.length+1) by omega]
  rfl
theorem jen:∀(r:List (List Input)) (i:Nat) (acc:List (List Input)),(∀f∈r,∀x∈f,jcr x)->vq (Qi r) i acc=(acc++r,0)
 | [],i,acc,_=>by rw[List.append_nil];rfl
 |f::r,i,acc,h=>by
  have e:Qi (f::r)=zp::(f.map Zc++Qi r):=by unfold Qi;rw[List.flatMap_cons];rfl
  rw[e,mY,jeo f _ _ acc [] (h f (List.mem_cons_self ..)),jen r _ _ fun g hg=>h g (List.mem_cons_of_mem _ hg)]
  simp
theorem jdw:(10:UInt8)∉zp:=by decide
theorem jc8 {r:List (List Input)}(h:∀f∈r,∀x∈f,KW x.Kind):∀p∈Qi r,(10:UInt8)∉p:=by
 intro p hp
 unfold Qi at hp
 obtain⟨f,hf,hp⟩:=List.mem_flatMap.1 hp
 rcases List.mem_cons.1 hp with rfl|hp
 ·exact jdw
 ·obtain⟨x,hx,rfl⟩:=List.mem_map.1 hp
  exact jfN (h f hf x hx)
theorem jhv {x:Input}(h:vld x=0)(hk:okK x=true):KW x.Kind:=by
 have h1:=jeX x
 rw[h]at h1
 have h12:1<=x.Kind/\x.Kind<=12:=Decidable.byContradiction fun hn=>by
  unfold yK at h1
  simp only[JD,Zf]at h1
  have:(decide (x.Kind<1)||decide (x.Kind>12))=true:=by
   rw[Bool.or_eq_true,decide_eq_true_iff,decide_eq_true_iff];omega
  rw[if_pos this]at h1
  have:=Option.some.inj h1
  omega
 unfold okK at hk
 rw[decide_eq_true_iff]at hk
 have h9:x.Kind≠9:=fun e=>hk (by rw[e];exact kq9)
 have h11:x.Kind≠11:=fun e=>hk (by rw[e];exact jhZ)
 unfold KW
 omega
theorem jbv {r:List (List Input)}(hv:rvl r=0)(hk:r.all (fun f=>f.all okK)=true)(ho:OkR r):∀f∈r,∀x∈f,jcr x:=by
 intro f hf x hx
 obtain⟨i,hi⟩:=List.mem_iff_getElem?.1 hf
 have h1:=(((pP r).1 hv).2 i).2
 rw[List.getD_eq_getElem?_getD,hi]at h1
 have h2:=List.all_eq_true.1 h1 x hx
 have h3:vld x=0:=by unfold okV at h2;simpa using h2
 have h4:=List.all_eq_true.1 (List.all_eq_true.1 hk f hf) x hx
 exact⟨h3,jhv h3 h4,(ho.fr f hf).b hx⟩
theorem jaI {r:List (List Input)}(hv:rvl r=0)(hk:r.all (fun f=>f.all okK)=true)(ho:OkR r):Kj (mD r)=(r,0,0):=by
 have hg:=jbv hv hk ho
 unfold Kj
 rw[vW,Xq _ (jc8 fun f hf x hx=>(hg f hf x hx).2.1),if_neg (by simp)]
 show jgf (vq (Qi r) 0 [])=_
 rw[jen r 0 [] hg,List.nil_append]
 unfold jgf
 rw[if_neg (by simp),if_neg (by simpa using hv)]
theorem vw:∀r:List (List UInt8),Lib.joinTail [32] r++[32]=32::flat 32 r
 | []=>rfl
 |x::r=>by
  rw[ZF,QB,List.append_assoc,vw r];rfl
theorem jdj (l:List UInt8):Lib.join (spl 32 l) [32]=l:=by
 have h:=Ul 32 l
 cases hs:spl 32 l with
 |nil=>exact absurd hs (ue _ _)
 |cons x r=>
  rw[hs,QB]at h
  rw[Lib.join_cons]
  have h2:(x++Lib.joinTail [32] r)++[32]=l++[32]:=by rw[List.append_assoc,vw,h]
  exact List.append_cancel_right h2
theorem jfF {l:List UInt8}(h:(JM l).2=0)(hn:(JM l).1≠[]):Lib.join (JM l).1 [32]=l/\(JM l).1.all isF=true:=by
 unfold JM at h hn⊢
 by_cases h1:l=[]
 ·rw[if_pos h1]at hn;exact absurd rfl hn
 ·rw[if_neg h1]at h hn⊢
  by_cases h2:(spl 32 l).all isF=true
  ·rw[if_pos h2];exact⟨jdj l,h2⟩
  ·rw[if_neg h2]at h;exact absurd h (by simp)
theorem uo (f0:List UInt8):∀n:Nat,qV jm f0 n≠0->wdv (qV jm f0 n)=f0
 |0,h=>absurd rfl h
 |n+1,h=>by
  unfold qV at h⊢
  by_cases h1:jm ((n:Int)+1)=some f0
  ·rw[if_pos h1];unfold wdv;rw[h1];rfl
  ·rw[if_neg h1]at h⊢;exact uo f0 n h
theorem XL {s:List UInt8}(h:(mO s).2=0):yv (mO s).1=s:=by
 unfold mO at h⊢
 by_cases hi:isInt s=true
 ·rw[if_pos hi]at h⊢
  by_cases hb:dv (body s)<=4611686018427387904
  ·rw[if_pos hb];exact jbA s hi
  ·rw[if_neg hb]at h;exact absurd h (by decide)
 ·rw[if_neg hi]at h;exact absurd h (by decide)
theorem Qu {i:Nat}{s:List UInt8}{t:List (List UInt8)}{l:List Int}(h:xf i (s::t)=some l):∃v l',l=v::l'/\(if i=0 then yv v else YH v)=s/\xf (i+1) t=some l':=by
 rw[xf]at h
 by_cases h1:(if i=0 then mO s else Pc s).2≠0
 ·rw[if_pos h1]at h;cases h
 ·rw[if_neg h1]at h
  have h1:=Decidable.of_not_not h1
  cases h2:xf (i+1) t with
  |none=>rw[h2]at h;cases h
  |some l'=>
   rw[h2]at h
   cases h
   refine⟨_,l',rfl,?_,rfl⟩
   by_cases hi:i=0
   ·rw[if_pos hi]at h1⊢;rw[if_pos hi];exact XL h1
   ·rw[if_neg hi]at h1⊢;rw[if_neg hi];exact jdC s h1
theorem jaG {F:List (List UInt8)}(hF:F.all isF=true)(hn:F≠[])(h:(uj F).2≠false):uv (uj F).1=F/\okK (uj F).1=true:=by
 cases F with
 |nil=>exact absurd rfl hn
 |cons f0 rest=>
  have hf0:=(jbg (List.all_eq_true.1 hF f0 (List.mem_cons_self ..))).2
  have e:uj (f0::rest)=jfA (qV jm f0 12) (usd (qV jm f0 12)) rest:=rfl
  rw[e]at h⊢
  have hkb:=uo f0 12
  generalize hK:qV jm f0 12=k at h hkb⊢
  unfold jfA at h⊢
  by_cases h1:k=0\/rest.length≠(WT (usd k).2.1 (usd k).2.2).length
  ·rw[if_pos h1]at h;exact absurd rfl h
  ·rw[if_neg h1]at h⊢
   have hk0:k≠0:=fun q=>h1 (.inl q)
   have hl:rest.length=(WT (usd k).2.1 (usd k).2.2).length:=Decidable.byContradiction fun q=>h1 (.inr q)
   have hw:=hkb hk0
   cases hp:xf 0 rest with
   |none=>rw[hp]at h;exact absurd rfl h
   |some l=>
    refine⟨?_,?_⟩
    ·show uv (qu k (usd k).2.1 (usd k).2.2 l)=_
     unfold uv
     show[wdv k,yv (l.getD 0 0)]++((if(usd k).2.1=true then[YH (qu k (usd k).2.1 (usd k).2.2 l).Vec.X,YH (qu k (usd k).2.1 (usd k).2.2 l).Vec.Y]else[])++(if(usd k).2.2=true then[YH (qu k (usd k).2.1 (usd k).2.2 l).Value]else[]))=_
     rw[hw]
     cases hu:(usd k).2.1 <;> cases hv:(usd k).2.2 <;> rw[hu,hv]at hl <;> simp only[WT,List.length_cons,List.length_append,List.length_nil,if_true,if_false,Bool.false_eq_true]at hl
     ·match rest,hl,hp with
      | [a],_,hp=>
        obtain⟨v,l1,rfl,q1,hp⟩:=Qu hp
        rw[<-q1];rfl
     ·match rest,hl,hp with
      | [a,b],_,hp=>
        obtain⟨v,l1,rfl,q1,hp⟩:=Qu hp
        obtain⟨v2,l2,rfl,q2,hp⟩:=Qu hp
        rw[<-q1,<-q2];rfl
     ·match rest,hl,hp with
      | [a,b,c],_,hp=>
        obtain⟨v,l1,rfl,q1,hp⟩:=Qu hp
        obtain⟨v2,l2,rfl,q2,hp⟩:=Qu hp
        obtain⟨v3,l3,rfl,q3,hp⟩:=Qu hp
        rw[<-q1,<-q2,<-q3];rfl
     ·match rest,hl,hp with
      | [a,b,c,d],_,hp=>
        obtain⟨v,l1,rfl,q1,hp⟩:=Qu hp
        obtain⟨v2,l2,rfl,q2,hp⟩:=Qu hp
        obtain⟨v3,l3,rfl,q3,hp⟩:=Qu hp
        obtain⟨v4,l4,rfl,q4,hp⟩:=Qu hp
        rw[<-q1,<-q2,<-q3,<-q4];rfl
    ·show okK (qu k (usd k).2.1 (usd k).2.2 l)=true
     unfold okK
     rw[decide_eq_true_iff]
     show wdv k≠[]
     rw[hw];exact hf0
theorem wX (r:List (List Input))(g:List (List Input)):Qi (r++g)=Qi r++Qi g:=by unfold Qi;rw[List.flatMap_append]
theorem wZ:∀(t:List (List UInt8)) (i:Nat) (r q:List (List Input)),r.all (fun f=>f.all okK)=true->vq t i r=(q,0)->Qi q=Qi r++t/\q.all (fun f=>f.all okK)=true
 | [],i,r,q,hr,h=>by
   cases h
   exact⟨(List.append_nil _).symm,hr⟩
 |line :: t,i,r,q,hr,h=>by
  rw[vq]at h
  by_cases h1:(JM line).2≠0\/(JM line).1=[]
  ·rw[if_pos h1]at h;exact absurd (congrArg Prod.snd h) (by simp)
  ·rw[if_neg h1]at h
   have hp0:(JM line).2=0:=Decidable.byContradiction fun q=>h1 (.inl q)
   have hpn:(JM line).1≠[]:=fun q=>h1 (.inr q)
   by_cases h2:line=zp
   ·rw[if_pos h2]at h
    obtain⟨e1,e2⟩:=wZ t (i+1) (r++[[]]) q (by rw[List.all_append,hr];rfl) h
    rw[wX]at e1
    refine⟨?_,e2⟩
    rw[e1,List.append_assoc,h2];rfl
   ·rw[if_neg h2]at h
    by_cases h3:(uj (JM line).1).2=false\/r=[]
    ·rw[if_pos h3]at h;exact absurd (congrArg Prod.snd h) (by simp)
    ·rw[if_neg h3]at h
     have hr0:r≠[]:=fun q=>h3 (.inr q)
     obtain⟨M,g,rfl⟩:∃M g,r=M++[g]:=⟨r.dropLast,r.getLast hr0,(List.dropLast_concat_getLast hr0).symm⟩
     rw[pO]at h
     obtain⟨j1,j2⟩:=jfF hp0 hpn
     obtain⟨k1,k2⟩:=jaG j2 hpn (fun q=>h3 (.inl q))
     have hl:Zc (uj (JM line).1).1=line:=by unfold Zc;rw[k1];exact j1
     rw[List.all_append,Bool.and_eq_true]at hr
     have hg:g.all okK=true:=by simpa using hr.2
     obtain⟨e1,e2⟩:=wZ t (i+1) (M++[g++[(uj (JM line).1).1]]) q (by rw[List.all_append,hr.1];simp[hg,k2]) h
     refine⟨?_,e2⟩
     rw[e1,wX,wX]
     have e3:Qi [g++[(uj (JM line).1).1]]=Qi [g]++[line]:=by
      unfold Qi
      simp only[List.flatMap_cons,List.flatMap_nil,List.append_nil,List.map_append,List.map_cons,List.map_nil,hl]
      rfl
     rw[e3]
     simp only[List.append_assoc,List.cons_append,List.nil_append]
theorem xy {s:List UInt8}{q:List (List Input)}{n:Int}(h:Kj s=(q,n,0)):jdz q=(s,0):=by
 unfold Kj at h
 rcases VE s with ⟨-,-,h1⟩|⟨L,h1,h2,-,-⟩
 ·rw[h1,if_pos (by simp)]at h
  exact absurd (congrArg (fun p=>p.2.2) h) (by simp)
 ·rw[h1,if_neg (by simp)]at h
  have h:jgf (vq L 0 [])=(q,n,0):=h
  unfold jgf at h
  by_cases h3:(vq L 0 []).2≠0
  ·rw[if_pos h3]at h
   exact absurd (congrArg (fun p=>p.2.2) h) (by simp)
  ·rw[if_neg h3]at h
   by_cases h4:rvl (vq L 0 []).1≠0
   ·rw[if_pos h4]at h
    exact absurd (congrArg (fun p=>p.2.2) h) (by simp)
   ·rw[if_neg h4]at h
    have eq:(vq L 0 []).1=q:=congrArg Prod.fst h
    have e0:(vq L 0 []).2=0:=Decidable.of_not_not h3
    obtain⟨k1,k2⟩:=wZ L 0 [] q rfl (by rw[<-eq];exact Prod.ext rfl e0)
    have hv:rvl q=0:=by rw[<-eq];exact Decidable.of_not_not h4
    unfold jdz
    rw[if_neg (by simpa using hv),if_pos k2,vW,k1]
    show(flat 10 ([]++L),(0:Int))=(s,0)
    rw[List.nil_append,h2]
theorem jh0 {a b:List UInt8}(h:a.length<=Kg+4):Yj a b=some (decide (a=b)):=by
 unfold Yj
 simp only[JD]
 by_cases hl:a.length=b.length
 ·rw[if_neg (by simp[hl])]
  refine(vN a b (some true) (some false) _ (Zy h (by decide)) hl ?_ ?_).trans ?_
  ·intro r i hw hc hc2
   rw[dlt hc,dlt hc2]
   simp only[cond_true,if_true]
   rw[jV hc,jV hc2,hw]
   by_cases e:ix a (i:Int)=ix b (i:Int) <;> simp[e]
  ·intro r
   rw[dll];simp
  ·split <;> simp[*]
 ·rw[if_pos (by simpa using (show(a.length:Int)≠b.length by omega))]
  rw[decide_eq_false (fun e=>hl (by rw[e]))]
theorem pT:∀(r:List (List Input)),(∀f∈r,∀x∈f,Ij x)->(mD r).length<=6*r.length+111*jgO r
 | [],_=>by simp[mD]
 |f :: r,h=>by
  have ih:=pT r fun g hg=>h g (List.mem_cons_of_mem _ hg)
  have h1:∀x∈f,(Zc x++[10]).length<=111:=fun x hx=>by have:=wY x (h f (List.mem_cons_self ..) x hx);simp;omega
  have h2:=jbC (fun x=>Zc x++[10]) 111 f h1
  have h3:(frT f).length<=6+111*f.length:=by
   unfold frT
   rw[List.length_append]
   simp only[List.length_cons,List.length_nil]
   omega
  unfold mD at ih⊢
  rw[List.flatMap_cons,List.length_append,List.length_cons]
  show(frT f).length+_<=6*(r.length+1)+111*(f.length+jgO r)
  omega
theorem jgK {x:Input}(h:jcr x):Ij x:=by
 obtain⟨h1,h2,h3⟩:=h
 obtain⟨q1,q2,q3,-,-⟩:=UM h1 h2 h3
 have hI:∀{n:Int},sat n=true->I64 n:=fun {n} hn=>Pt (by have:=jaf hn;omega)
 have hz:I64 0:=Pt (by decide)
 refine⟨Pt (by omega),?_,?_,?_⟩
 ·by_cases hu:(usd x.Kind).2.1=true
  ·rw[if_pos hu]at q2;exact hI q2.1
  ·rw[if_neg hu]at q2;rw[q2];exact hz
 ·by_cases hu:(usd x.Kind).2.1=true
  ·rw[if_pos hu]at q2;exact hI q2.2
  ·rw[if_neg hu]at q2;rw[q2];exact hz
 ·by_cases hu:(usd x.Kind).2.2=true
  ·rw[if_pos hu]at q3;exact hI q3
  ·rw[if_neg hu]at q3;rw[q3];exact hz
theorem mN {s:List UInt8}(hs:s.length<=90000){q:List (List Input)}{n:Int}(h:Kj s=(q,n,0)):IOR q:=by
 have hf:=xy h
 have ho:=jaK s hs
 rw[h]at ho
 have ho:OkR q:=ho
 unfold jdz at hf
 by_cases h1:rvl q≠0
 ·rw[if_pos h1]at hf;exact absurd (congrArg Prod.snd hf) (by simp)
 ·rw[if_neg h1]at hf
  by_cases h2:q.all (fun f=>f.all okK)=true
  ·exact fun f hf' x hx=>jgK (jbv (Decidable.of_not_not h1) h2 ho f hf' x hx)
  ·rw[if_neg h2]at hf;exact absurd (congrArg Prod.snd hf) (by simp)
theorem stp {c:Bool}{A R:Option Bool}(h:c=true->A=R):(if c=true then A else R)=R:=by
 cases c
 ·rfl
 ·exact h rfl
theorem eq0 {n:Int}(h:(n==0)=true):n=0:=by simpa using h
theorem jhd {r:List (List Input)}(h:Typed r):IOR r:=fun f hf x hx=>by
 obtain⟨-,h2,⟨h3,h4⟩,h5,-⟩:=(h.1 f hf).1 x hx
 exact⟨h2,h3,h4,h5⟩
theorem Mw (r:List (List Input))(b s:List UInt8)(h:Typed r):JO r b s=some true:=by
 unfold JO
 rw[jgS,jG]
 simp only[JD,QQ]
 by_cases hc:smR r=true/\b.length<=4000/\s.length<=2000
 ·obtain⟨h1,h2,h3⟩:=hc
  have hs:=SmR.of h h1
  have ho:=je4 h1
  have hio:=jhd h
  have hcap:Kg=1000000000:=rfl
  rw[if_neg (by rw[h1,decide_eq_false (by omega),decide_eq_false (by omega)];decide),jaB hs,jG]
  refine(stp fun hz=>?_).trans ?_
  ·have hv:rvl r=0:=by
    have hz:=eq0 hz
    unfold VL at hz
    by_cases hv:rvl r≠0
    ·rw[if_pos hv]at hz;exact absurd hz (by decide)
    ·omega
   have hd:JN (VL r).1=some (r,0):=by
    unfold VL
    rw[if_neg (by omega)]
    obtain⟨g1,g2⟩:=UR h1
    refine jgo (by omega) (fun f hf=>?_) hv hs.b
    obtain⟨g3,g4⟩:=uf (g2 f hf)
    exact⟨by omega,fun x hx=>⟨(h.1 f hf).1 x hx,by have:=(g4 x hx).1;omega,fun w hw=>by have:=(g4 x hx).2 w hw;omega⟩⟩
   rw[hd,jG,if_pos (by simp),jea _ _ ho,jg2 _ ho,jG,if_neg (by simp)]
  rw[jaA r hio,jG]
  refine(stp fun hz=>?_).trans ?_
  ·have hz:=eq0 hz
   have ht:jdz r=(mD r,0)/\rvl r=0/\r.all (fun f=>f.all okK)=true:=by
    unfold jdz at hz⊢
    by_cases hv:rvl r≠0
    ·rw[if_pos hv]at hz;exact absurd hz (by decide)
    ·rw[if_neg hv]at hz⊢
     by_cases hk:r.all (fun f=>f.all okK)=true
     ·rw[if_pos hk];exact⟨rfl,by omega,hk⟩
     ·rw[if_neg hk]at hz;exact absurd hz (by decide)
   obtain⟨ht,hv,hk⟩:=ht
   have hl:=pT r hio
   have hsum:=je3 h1
   have h5:=(UR h1).1
   have hp:yx (jdz r).1=some (r,0,0):=by
    rw[ht,xd _ (by show(mD r).length<=90000;omega)]
    rw[jaI hv hk ho]
   rw[hp,jG,if_pos (by simp),jea _ _ ho,jg2 _ ho,jG,if_neg (by simp)]
  obtain⟨⟨q,c⟩,hq⟩:=jgn (b:=b) (by omega)
  rw[hq,jG]
  refine(stp fun hz=>?_).trans ?_
  ·have hz:c=0:=eq0 hz
   subst hz
   have he:=jgi (by omega) hq
   rw[show yo ((q,(0:Int)):List (List Input) × Int).1=some (b,0)from he,jG,if_pos (by simp),jh0 (a:=b) (by omega),jG,if_neg (by simp)]
  rw[xd s (by omega),jG]
  refine(stp fun hz=>?_).trans ?_
  ·have hz:=eq0 hz
   obtain⟨q2,n,e,hp⟩:∃q2 n e,Kj s=(q2,n,e):=⟨_,_,_,rfl⟩
   rw[hp]at hz⊢
   have hz:e=0:=hz
   subst hz
   have hf:=xy hp
   rw[show yA ((q2,n,(0:Int)):List (List Input) × Int × Int).1=some (jdz q2)from jaA q2 (mN (by omega) hp),jG,hf,if_neg (by simp)]
  rw[wQ,jG]
  have e1:((VL r).2==0)=(rvl r==0):=by
   unfold VL
   by_cases hv:rvl r≠0
   ·rw[if_pos hv]
    have:(rvl r==0)=false:=by simpa using hv
    rw[this];rfl
   ·rw[if_neg hv]
    have:(rvl r==0)=true:=by simpa using hv
    rw[this];rfl
  rw[e1]
  simp only[beq_self_eq_true,if_true,cond_true]
  rw[xF,jG]
 ·have:(bif (bif !smR r then true else decide ((b.length:Int)>4000))then true else decide ((s.length:Int)>2000))=true:=by
   by_cases h1:smR r=true
   ·by_cases h2:b.length<=4000
    ·have h3:¬ s.length<=2000:=fun h3=>hc ⟨h1,h2,h3⟩
     rw[h1,decide_eq_false (show ¬ (b.length:Int)>4000 by omega),decide_eq_true (show(s.length:Int)>2000 by omega)];rfl
    ·rw[h1,decide_eq_true (show(b.length:Int)>4000 by omega)];rfl
   ·have:smR r=false:=by simpa using h1
    rw[this];rfl
  rw[if_pos this]
  exact jgh
theorem qO (r:List (List Input))(b s:List UInt8)(h:(∀a∈r,((∀b∈a,Vx b)/\(a).length<=9223372036854775807))/\(r).length<=9223372036854775807){P Q:Prop}(_:P)(_:Q):JO r b s=some true:=Mw r b s h
end GoForm
end
