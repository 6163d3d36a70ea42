/- Several texts in one. No conditions. -/
import Derived.Test.YtelkhkmeoahhlaaGreatDoorF52D
import Derived.Test.YtelkhkmeoahhlaaGreatDoorQE
import Derived.Test.YtelkhkmeoahhlaaGreatDoorOA
section
set_option linter.all false
set_option maxRecDepth 100000
open Go Go.Rx
namespace GoForm
theorem qp {α β:Type}{m:Option α}{k k':α->Option β}(h:∀x,k x=k' x):Rx.Bind m k=Rx.Bind m k':=by rw[funext h]
theorem qU {α:Type}{c:Prop}[Decidable c]{a b a' b':α}(h1:a=a')(h2:b=b'):(if c then a else b)=(if c then a' else b'):=by rw[h1,h2]
theorem zi {α:Type}{c:Prop}[Decidable c]{k k':Option α}(h:k=k'):Chk c k=Chk c k':=by rw[h]
theorem qB {A X:Type}{step:(A->Option X)->A->Option X}{g:Nat->A->Option X}(h0:∀a,g 0 a=none)(hs:∀n (r:A->Option X),(∀a,r a=g n a)->∀a,step r a=g (n+1) a):∀n a,Yg step n a=g n a
 |0,a=>(h0 a).symm
 |n+1,a=>hs n _ (qB h0 hs n) a
theorem kP {A B X:Type}{step:(A × B->Option X)->A × B->Option X}{g:Nat->A->B->Option X}(h0:∀a b,g 0 a b=none)(hs:∀n (r:A × B->Option X),(∀a b,r (a,b)=g n a b)->∀a b,step r (a,b)=g (n+1) a b):∀n a b,Yg step n (a,b)=g n a b
 |0,a,b=>(h0 a b).symm
 |n+1,a,b=>hs n _ (kP h0 hs n) a b
theorem jaq {A B C X:Type}{step:(A × B × C->Option X)->A × B × C->Option X}{g:Nat->A->B->C->Option X}(h0:∀a b c,g 0 a b c=none)(hs:∀n (r:A × B × C->Option X),(∀a b c,r (a,b,c)=g n a b c)->∀a b c,step r (a,b,c)=g (n+1) a b c):∀n a b c,Yg step n (a,b,c)=g n a b c
 |0,a,b,c=>(h0 a b c).symm
 |n+1,a,b,c=>hs n _ (jaq h0 hs n) a b c
theorem Vn (x0:Int)(low1:Int)(high2:Int):jO x0 low1 high2=some (GoOld.jO x0 low1 high2):=by
 unfold jO GoOld.jO
 try simp only[jj,jb,jz,gd1,gd2,gd3,gd4,gd5,gd6,w64,gt_iff_lt,ge_iff_le,jI]
 first|done|rfl|((try simp only[jE,jr]);first|done|rfl|grind|(((repeat' split) <;> simp_all);done))
theorem Pt (v0:Vec)(limit1:Int):Yx v0 limit1=some (GoOld.Yx v0 limit1):=by
 unfold Yx GoOld.Yx
 try simp only[jj,jb,jz,gd1,gd2,gd3,gd4,gd5,gd6,w64,gt_iff_lt,ge_iff_le,jI,GoOld.Vec.beq,GoOld.Transform.beq,Vn]
 first|done|rfl|((try simp only[jE,jr]);first|done|rfl|grind|(((repeat' split) <;> simp_all);done))
theorem uj (x0:Int):JG x0=some (GoOld.JG x0):=by
 unfold JG GoOld.JG
 try simp only[jj,jb,jz,gd1,gd2,gd3,gd4,gd5,gd6,w64,gt_iff_lt,ge_iff_le,jI]
 first|done|rfl|((try simp only[jE,jr]);first|done|rfl|grind|(((repeat' split) <;> simp_all);done))
theorem UH (t0:Transform):yJ t0=some (GoOld.yJ t0):=by
 unfold yJ GoOld.yJ
 try simp only[jj,jb,jz,gd1,gd2,gd3,gd4,gd5,gd6,w64,gt_iff_lt,ge_iff_le,jI,GoOld.Vec.beq,GoOld.Transform.beq,uj]
 first|done|rfl|((try simp only[jE,jr]);first|done|rfl|grind|(((repeat' split) <;> simp_all);done))
theorem WJ (b0:Body):qK b0=some (GoOld.qK b0):=by
 unfold qK GoOld.qK
 try simp only[jj,jb,jz,gd1,gd2,gd3,gd4,gd5,gd6,w64,gt_iff_lt,ge_iff_le,jI,GoOld.Vec.beq,GoOld.Transform.beq,Vn,Pt,UH]
 first|done|rfl|((try simp only[jE,jr]);first|done|rfl|grind|(((repeat' split) <;> simp_all);done))
theorem uZ (s0:Shape):yr s0=some (GoOld.yr s0):=by
 unfold yr GoOld.yr
 try simp only[jj,jb,jz,gd1,gd2,gd3,gd4,gd5,gd6,w64,gt_iff_lt,ge_iff_le,jI,GoOld.Vec.beq,GoOld.Transform.beq]
 first|done|rfl|((try simp only[jE,jr]);first|done|rfl|grind|(((repeat' split) <;> simp_all);done))
theorem wE (s0:(List Vec))(f1:(Vec->Option Bool)):QK s0 f1=GoOld.QJ s0 f1:=by
 unfold QK GoOld.QJ
 generalize fuel=N
 try simp only[jj,jb,jz,gd1,gd2,gd3,gd4,gd5,gd6,w64,gt_iff_lt,ge_iff_le,jI,GoOld.Yi]
 (repeat (first|refine qB (fun _=>rfl) ?_ _ _|refine zi ?_|refine qp (fun _=>?_)|refine qU ?_ ?_|rfl))
 all_goals first|rfl|(intro n r ih v0;(first|rw[GoOld.yw]);(try simp only[ih,jj,jb,jz,gd1,gd2,gd3,gd4,gd5,gd6,w64,gt_iff_lt,ge_iff_le,jI,GoOld.Yi]);first|done|rfl|((repeat (first|refine qB (fun _=>rfl) ?_ _ _|refine zi ?_|refine qp (fun _=>?_)|refine qU ?_ ?_|rfl));all_goals first|rfl))
theorem vN (s0:(List Vec))(f1:(Vec->Option Bool)):Yj s0 f1=GoOld.JQ s0 f1:=by
 unfold Yj GoOld.JQ
 try simp only[jj,jb,jz,gd1,gd2,gd3,gd4,gd5,gd6,w64,gt_iff_lt,ge_iff_le,jI,wE]
 first|done|rfl|((try simp only[jE,jr]);first|done|rfl|grind|(((repeat' split) <;> simp_all);done))
theorem Ua (n0:Int):JW n0=some (GoOld.JW n0):=by
 unfold JW GoOld.JW
 try simp only[jj,jb,jz,gd1,gd2,gd3,gd4,gd5,gd6,w64,gt_iff_lt,ge_iff_le,jI]
 first|done|rfl|((try simp only[jE,jr]);first|done|rfl|grind|(((repeat' split) <;> simp_all);done))
theorem Ub (v0:Vec):Qi v0=some (GoOld.YF v0):=by
 unfold Qi GoOld.YF
 try simp only[jj,jb,jz,gd1,gd2,gd3,gd4,gd5,gd6,w64,gt_iff_lt,ge_iff_le,jI,GoOld.Vec.beq,GoOld.Transform.beq,Ua]
 first|done|rfl|((try simp only[jE,jr]);first|done|rfl|grind|(((repeat' split) <;> simp_all);done))
theorem VK (x0:Int):Jn x0=some (GoOld.Jn x0):=by
 unfold Jn GoOld.Jn
 try simp only[jj,jb,jz,gd1,gd2,gd3,gd4,gd5,gd6,w64,gt_iff_lt,ge_iff_le,jI]
 first|done|rfl|((try simp only[jE,jr]);first|done|rfl|grind|(((repeat' split) <;> simp_all);done))
theorem jbL (a0:Int)(b1:Int):zC a0 b1=some (GoOld.zC a0 b1):=by
 unfold zC GoOld.zC
 try simp only[jj,jb,jz,gd1,gd2,gd3,gd4,gd5,gd6,w64,gt_iff_lt,ge_iff_le,jI,VK]
 first|done|rfl|((try simp only[jE,jr]);first|done|rfl|grind|(((repeat' split) <;> simp_all);done))
theorem uX (a0:Vec)(b1:Vec):ZL a0 b1=some (GoOld.ZL a0 b1):=by
 unfold ZL GoOld.ZL
 try simp only[jj,jb,jz,gd1,gd2,gd3,gd4,gd5,gd6,w64,gt_iff_lt,ge_iff_le,jI,jbL]
 first|done|rfl|((try simp only[jE,jr]);first|done|rfl|grind|(((repeat' split) <;> simp_all);done))
theorem wU (v0:Vec):JB v0=some (GoOld.JB v0):=by
 unfold JB GoOld.JB
 try simp only[jj,jb,jz,gd1,gd2,gd3,gd4,gd5,gd6,w64,gt_iff_lt,ge_iff_le,jI,VK]
 first|done|rfl|((try simp only[jE,jr]);first|done|rfl|grind|(((repeat' split) <;> simp_all);done))
theorem wD (a0:Vec)(b1:Vec):JF a0 b1=some (GoOld.JF a0 b1):=by
 unfold JF GoOld.JF
 try simp only[jj,jb,jz,gd1,gd2,gd3,gd4,gd5,gd6,w64,gt_iff_lt,ge_iff_le,jI,wU]
 first|done|rfl|((try simp only[jE,jr]);first|done|rfl|grind|(((repeat' split) <;> simp_all);done))
theorem mu (n0:Int):QD n0=GoOld.QD n0:=by
 unfold QD GoOld.QD
 generalize fuel=N
 try simp only[jj,jb,jz,gd1,gd2,gd3,gd4,gd5,gd6,w64,gt_iff_lt,ge_iff_le,jI,GoOld.ZG,GoOld.ZF]
 (repeat (first|refine kP (fun _ _=>rfl) ?_ _ _ _|refine zi ?_|refine qp (fun _=>?_)|refine qU ?_ ?_|rfl))
 all_goals first|rfl|(intro n r ih v0 v1;(first|rw[GoOld.QC]);(try simp only[ih,jj,jb,jz,gd1,gd2,gd3,gd4,gd5,gd6,w64,gt_iff_lt,ge_iff_le,jI,GoOld.ZG,GoOld.ZF]);first|done|rfl|((repeat (first|refine kP (fun _ _=>rfl) ?_ _ _ _|refine zi ?_|refine qp (fun _=>?_)|refine qU ?_ ?_|rfl));all_goals first|rfl))
theorem Kr (v0:Vec):yQ v0=GoOld.yQ v0:=by
 unfold yQ GoOld.yQ
 try simp only[jj,jb,jz,gd1,gd2,gd3,gd4,gd5,gd6,w64,gt_iff_lt,ge_iff_le,jI,wD,mu]
 first|done|rfl|((try simp only[jE,jr]);first|done|rfl|grind|(((repeat' split) <;> simp_all);done))
theorem Vb (v0:Vec):yK v0=some (GoOld.yK v0):=by
 unfold yK GoOld.yK
 try simp only[jj,jb,jz,gd1,gd2,gd3,gd4,gd5,gd6,w64,gt_iff_lt,ge_iff_le,jI]
 first|done|rfl|((try simp only[jE,jr]);first|done|rfl|grind|(((repeat' split) <;> simp_all);done))
theorem WD (points0:(List Vec)):JI points0=GoOld.JI points0:=by
 unfold JI GoOld.JI
 generalize fuel=N
 try simp only[jj,jb,jz,gd1,gd2,gd3,gd4,gd5,gd6,w64,gt_iff_lt,ge_iff_le,jI,Vb,GoOld.yX]
 (repeat (first|refine qB (fun _=>rfl) ?_ _ _|refine zi ?_|refine qp (fun _=>?_)|refine qU ?_ ?_|rfl))
 all_goals first|rfl|(intro n r ih v0;(first|rw[GoOld.JN]);(try simp only[ih,jj,jb,jz,gd1,gd2,gd3,gd4,gd5,gd6,w64,gt_iff_lt,ge_iff_le,jI,Vb,GoOld.yX]);first|done|rfl|((repeat (first|refine qB (fun _=>rfl) ?_ _ _|refine zi ?_|refine qp (fun _=>?_)|refine qU ?_ ?_|rfl));all_goals first|rfl))
theorem uY (a0:Vec)(b1:Vec)(c2:Vec):yq a0 b1 c2=some (GoOld.yq a0 b1 c2):=by
 unfold yq GoOld.yq
 try simp only[jj,jb,jz,gd1,gd2,gd3,gd4,gd5,gd6,w64,gt_iff_lt,ge_iff_le,jI,wU]
 first|done|rfl|((try simp only[jE,jr]);first|done|rfl|grind|(((repeat' split) <;> simp_all);done))
theorem zA (vertices0:(List Vec)):Jp vertices0=GoOld.Jp vertices0:=by
 unfold Jp GoOld.Jp
 simp only[jj,jb,jz,gd1,gd2,gd3,gd4,gd5,gd6,w64,gt_iff_lt,ge_iff_le,jI,WD,uY]
 refine qp (fun q=>?_)
 refine qU rfl ?_
 refine qB (fun _=>rfl) ?_ _ _
 intro n r ih v
 rw[GoOld.yh]
 simp only[ih,jj,jb,jz,gd1,gd2,gd3,gd4,gd5,gd6,w64,gt_iff_lt,ge_iff_le,jI,GoOld.qT]
 refine qU ?_ rfl
 refine zi ?_
 refine zi ?_
 refine qB (fun _=>rfl) ?_ _ _
 intro n' r' ih' v'
 rw[GoOld.yR]
 simp only[ih',jj,jb,jz,gd1,gd2,gd3,gd4,gd5,gd6,w64,gt_iff_lt,ge_iff_le,jI,GoOld.ZX]
theorem wF (vertices0:(List Vec)):Ju vertices0=GoOld.Ju vertices0:=by
 unfold Ju GoOld.Ju
 generalize fuel=N
 try simp only[jj,jb,jz,gd1,gd2,gd3,gd4,gd5,gd6,w64,gt_iff_lt,ge_iff_le,jI,uX,Kr,zA,GoOld.qx]
 (repeat (first|refine kP (fun _ _=>rfl) ?_ _ _ _|refine zi ?_|refine qp (fun _=>?_)|refine qU ?_ ?_|rfl))
 all_goals first|rfl|(intro n r ih v0 v1;(first|rw[GoOld.yx]);(try simp only[ih,jj,jb,jz,gd1,gd2,gd3,gd4,gd5,gd6,w64,gt_iff_lt,ge_iff_le,jI,uX,Kr,zA,GoOld.qx]);first|done|rfl|((repeat (first|refine kP (fun _ _=>rfl) ?_ _ _ _|refine zi ?_|refine qp (fun _=>?_)|refine qU ?_ ?_|rfl));all_goals first|rfl))
theorem Kf (n0:Int)(d1:Int):yu n0 d1=GoOld.yu n0 d1:=by
 unfold yu GoOld.yu
 try simp only[jj,jb,jz,gd1,gd2,gd3,gd4,gd5,gd6,w64,gt_iff_lt,ge_iff_le,jI]
 first|done|rfl|((try simp only[jE,jr]);first|done|rfl|grind|(((repeat' split) <;> simp_all);done))
theorem mr (vertices0:(List Vec)):QB vertices0=GoOld.QB vertices0:=by
 unfold QB GoOld.QB
 generalize fuel=N
 try simp only[jj,jb,jz,gd1,gd2,gd3,gd4,gd5,gd6,w64,gt_iff_lt,ge_iff_le,jI,Kf,GoOld.Ko]
 (repeat (first|refine jaq (fun _ _ _=>rfl) ?_ _ _ _ _|refine zi ?_|refine qp (fun _=>?_)|refine qU ?_ ?_|rfl))
 all_goals first|rfl|(intro n r ih v0 v1 v2;(first|rw[GoOld.zH]);(try simp only[ih,jj,jb,jz,gd1,gd2,gd3,gd4,gd5,gd6,w64,gt_iff_lt,ge_iff_le,jI,Kf,GoOld.Ko]);first|done|rfl|((repeat (first|refine jaq (fun _ _ _=>rfl) ?_ _ _ _ _|refine zi ?_|refine qp (fun _=>?_)|refine qU ?_ ?_|rfl));all_goals first|rfl))
theorem Ps (vertices0:(List Vec)):qF vertices0=GoOld.qF vertices0:=by
 unfold qF GoOld.qF
 try simp only[jj,jb,jz,gd1,gd2,gd3,gd4,gd5,gd6,w64,gt_iff_lt,ge_iff_le,jI,zA,Kf,mr]
 first|done|rfl|((try simp only[jE,jr]);first|done|rfl|grind|(((repeat' split) <;> simp_all);done))
theorem xQ (s0:Shape):Yf s0=GoOld.Yf s0:=by
 unfold Yf GoOld.Yf
 have hc:Yj s0.jg (fun(a:Tup tb [Ix.tVec])=>Qi a)=GoOld.JQ s0.jg (fun y0=>some (GoOld.YF y0)):=(vN s0.jg (fun a=>Qi a)).trans (congrArg (GoOld.JQ s0.jg) (funext Ub))
 have gs:∀(c:Prop) [Decidable c] (a d:Vec) (e:Option Int),(if c then GoOld.yQ (if c then a else d)else e)=if c then GoOld.yQ a else e:=by intro c _ a d e;by_cases h:c <;> simp[h]
 simp only[hc,gs,jj,jb,jz,gd1,gd2,gd3,gd4,gd5,gd6,w64,gt_iff_lt,ge_iff_le,jI,uZ,uX,Kr,zA,wF,Ps,GoOld.QX]
theorem kL (f0:jT):Jw f0=GoOld.Jw f0:=by
 unfold Jw GoOld.Jw
 try simp only[jj,jb,jz,gd1,gd2,gd3,gd4,gd5,gd6,w64,gt_iff_lt,ge_iff_le,jI,GoOld.Vec.beq,GoOld.Transform.beq,Vn,xQ]
 first|done|rfl|((try simp only[jE,jr]);first|done|rfl|grind|(((repeat' split) <;> simp_all);done))
theorem mv (b0:Body):qX b0=some (GoOld.qX b0):=by
 unfold qX GoOld.qX
 try simp only[jj,jb,jz,gd1,gd2,gd3,gd4,gd5,gd6,w64,gt_iff_lt,ge_iff_le,jI]
 first|done|rfl|((try simp only[jE,jr]);first|done|rfl|grind|(((repeat' split) <;> simp_all);done))
theorem Vc (b0:Body):yL b0=some (GoOld.yL b0):=by
 unfold yL GoOld.yL
 try simp only[jj,jb,jz,gd1,gd2,gd3,gd4,gd5,gd6,w64,gt_iff_lt,ge_iff_le,jI,GoOld.Vec.beq,GoOld.Transform.beq,mv]
 first|done|rfl|((try simp only[jE,jr]);first|done|rfl|grind|(((repeat' split) <;> simp_all);done))
theorem XN (b0:Body):YS b0=GoOld.YS b0:=by
 unfold YS GoOld.YS
 generalize fuel=N
 try simp only[jj,jb,jz,gd1,gd2,gd3,gd4,gd5,gd6,w64,gt_iff_lt,ge_iff_le,jI,WJ,kL,Vc,GoOld.Ql]
 (repeat (first|refine qB (fun _=>rfl) ?_ _ _|refine zi ?_|refine qp (fun _=>?_)|refine qU ?_ ?_|rfl))
 all_goals first|rfl|(intro n r ih v0;(first|rw[GoOld.Qk]);(try simp only[ih,jj,jb,jz,gd1,gd2,gd3,gd4,gd5,gd6,w64,gt_iff_lt,ge_iff_le,jI,WJ,kL,Vc,GoOld.Ql]);first|done|rfl|((repeat (first|refine qB (fun _=>rfl) ?_ _ _|refine zi ?_|refine qp (fun _=>?_)|refine qU ?_ ?_|rfl));all_goals first|rfl))
theorem wG (a0:(List Vec))(b1:(List Vec)):QT a0 b1=GoOld.Zb a0 b1:=by
 unfold QT GoOld.Zb
 generalize fuel=N
 try simp only[jj,jb,jz,gd1,gd2,gd3,gd4,gd5,gd6,w64,gt_iff_lt,ge_iff_le,jI,GoOld.qg]
 (repeat (first|refine qB (fun _=>rfl) ?_ _ _|refine zi ?_|refine qp (fun _=>?_)|refine qU ?_ ?_|rfl))
 all_goals first|rfl|(intro n r ih v0;(first|rw[GoOld.yG]);(try simp only[ih,jj,jb,jz,gd1,gd2,gd3,gd4,gd5,gd6,w64,gt_iff_lt,ge_iff_le,jI,GoOld.qg]);first|done|rfl|((repeat (first|refine qB (fun _=>rfl) ?_ _ _|refine zi ?_|refine qp (fun _=>?_)|refine qU ?_ ?_|rfl));all_goals first|rfl))
theorem Ud (a0:Shape)(b1:Shape):ZQ a0 b1=GoOld.vo a0 b1:=by
 unfold ZQ GoOld.vo
 try simp only[jj,jb,jz,gd1,gd2,gd3,gd4,gd5,gd6,w64,gt_iff_lt,ge_iff_le,jI,GoOld.Vec.beq,GoOld.Transform.beq,wG]
 first|done|rfl|((try simp only[jE,jr]);first|done|rfl|grind|(((repeat' split) <;> simp_all);done))
theorem Zt (a0:jT)(b1:jT):qy a0 b1=GoOld.Qq a0 b1:=by
 unfold qy GoOld.Qq
 try simp only[jj,jb,jz,gd1,gd2,gd3,gd4,gd5,gd6,w64,gt_iff_lt,ge_iff_le,jI,GoOld.Vec.beq,GoOld.Transform.beq,Ud]
 first|done|rfl|((try simp only[jE,jr]);first|done|rfl|grind|(((repeat' split) <;> simp_all);done))
theorem Uc (a0:Body)(b1:Body):zD a0 b1=GoOld.wc a0 b1:=by
 unfold zD GoOld.wc
 generalize fuel=N
 try simp only[jj,jb,jz,gd1,gd2,gd3,gd4,gd5,gd6,w64,gt_iff_lt,ge_iff_le,jI,GoOld.Vec.beq,GoOld.Transform.beq,Zt,GoOld.qE]
 (repeat (first|refine qB (fun _=>rfl) ?_ _ _|refine zi ?_|refine qp (fun _=>?_)|refine qU ?_ ?_|rfl))
 all_goals first|rfl|(intro n r ih v0;(first|rw[GoOld.qD]);(try simp only[ih,jj,jb,jz,gd1,gd2,gd3,gd4,gd5,gd6,w64,gt_iff_lt,ge_iff_le,jI,GoOld.Vec.beq,GoOld.Transform.beq,Zt,GoOld.qE]);first|done|rfl|((repeat (first|refine qB (fun _=>rfl) ?_ _ _|refine zi ?_|refine qp (fun _=>?_)|refine qU ?_ ?_|rfl));all_goals first|rfl))
theorem wV (x0:Int)(low1:Int)(high2:Int):Ji x0 low1 high2=some (GoOld.YP x0 low1 high2):=by
 unfold Ji GoOld.YP
 try simp only[jj,jb,jz,gd1,gd2,gd3,gd4,gd5,gd6,w64,gt_iff_lt,ge_iff_le,jI]
 first|done|rfl|((try simp only[jE,jr]);first|done|rfl|grind|(((repeat' split) <;> simp_all);done))
theorem WI (x0:Int):Qw x0=some (GoOld.ku x0):=by
 unfold Qw GoOld.ku
 try simp only[jj,jb,jz,gd1,gd2,gd3,gd4,gd5,gd6,w64,gt_iff_lt,ge_iff_le,jI]
 first|done|rfl|((try simp only[jE,jr]);first|done|rfl|grind|(((repeat' split) <;> simp_all);done))
theorem Ue (p0:Transform):ZT p0=some (GoOld.vq p0):=by
 unfold ZT GoOld.vq
 try simp only[jj,jb,jz,gd1,gd2,gd3,gd4,gd5,gd6,w64,gt_iff_lt,ge_iff_le,jI,GoOld.Vec.beq,GoOld.Transform.beq,WI]
 first|done|rfl|((try simp only[jE,jr]);first|done|rfl|grind|(((repeat' split) <;> simp_all);done))
theorem KD (b0:Body):zP b0=some (GoOld.kq b0):=by
 unfold zP GoOld.kq
 try simp only[jj,jb,jz,gd1,gd2,gd3,gd4,gd5,gd6,w64,gt_iff_lt,ge_iff_le,jI,GoOld.Vec.beq,GoOld.Transform.beq,wV,Ue]
 first|done|rfl|((try simp only[jE,jr]);first|done|rfl|grind|(((repeat' split) <;> simp_all);done))
theorem vO (s0:Shape):qz s0=some (GoOld.Qr s0):=by
 unfold qz GoOld.Qr
 try simp only[jj,jb,jz,gd1,gd2,gd3,gd4,gd5,gd6,w64,gt_iff_lt,ge_iff_le,jI,GoOld.Vec.beq,GoOld.Transform.beq]
 first|done|rfl|((try simp only[jE,jr]);first|done|rfl|grind|(((repeat' split) <;> simp_all);done))
theorem uk (x0:Int)(m1:Int):zf x0 m1=some (GoOld.Kv x0 m1):=by
 unfold zf GoOld.Kv
 try simp only[jj,jb,jz,gd1,gd2,gd3,gd4,gd5,gd6,w64,gt_iff_lt,ge_iff_le,jI]
 first|done|rfl|((try simp only[jE,jr]);first|done|rfl|grind|(((repeat' split) <;> simp_all);done))
theorem kV (x0:Int):yl x0=some (GoOld.YQ x0):=by
 unfold yl GoOld.YQ
 try simp only[jj,jb,jz,gd1,gd2,gd3,gd4,gd5,gd6,w64,gt_iff_lt,ge_iff_le,jI]
 first|done|rfl|((try simp only[jE,jr]);first|done|rfl|grind|(((repeat' split) <;> simp_all);done))
theorem xR (a0:Int)(b1:Int):ZJ a0 b1=some (GoOld.VC a0 b1):=by
 unfold ZJ GoOld.VC
 try simp only[jj,jb,jz,gd1,gd2,gd3,gd4,gd5,gd6,w64,gt_iff_lt,ge_iff_le,jI,kV]
 first|done|rfl|((try simp only[jE,jr]);first|done|rfl|grind|(((repeat' split) <;> simp_all);done))
theorem Kg (a0:Vec)(b1:Vec):ZI a0 b1=some (GoOld.VB a0 b1):=by
 unfold ZI GoOld.VB
 try simp only[jj,jb,jz,gd1,gd2,gd3,gd4,gd5,gd6,w64,gt_iff_lt,ge_iff_le,jI,xR]
 first|done|rfl|((try simp only[jE,jr]);first|done|rfl|grind|(((repeat' split) <;> simp_all);done))
theorem kK (v0:Vec):yD v0=some (GoOld.YZ v0):=by
 unfold yD GoOld.YZ
 try simp only[jj,jb,jz,gd1,gd2,gd3,gd4,gd5,gd6,w64,gt_iff_lt,ge_iff_le,jI,kV]
 first|done|rfl|((try simp only[jE,jr]);first|done|rfl|grind|(((repeat' split) <;> simp_all);done))
theorem zg (n0:Int):yZ n0=some (GoOld.qm n0):=by
 unfold yZ GoOld.qm
 try simp only[jj,jb,jz,gd1,gd2,gd3,gd4,gd5,gd6,w64,gt_iff_lt,ge_iff_le,jI]
 first|done|rfl|((try simp only[jE,jr]);first|done|rfl|grind|(((repeat' split) <;> simp_all);done))
theorem Uf (n0:Int):ZU n0=GoOld.vu n0:=by
 unfold ZU GoOld.vu
 generalize fuel=N
 try simp only[jj,jb,jz,gd1,gd2,gd3,gd4,gd5,gd6,w64,gt_iff_lt,ge_iff_le,jI,GoOld.Vec.beq,GoOld.Transform.beq,zg,GoOld.ZB,GoOld.Km]
 (repeat (first|refine kP (fun _ _=>rfl) ?_ _ _ _|refine zi ?_|refine qp (fun _=>?_)|refine qU ?_ ?_|rfl))
 all_goals first|rfl|(intro n r ih v0 v1;(first|rw[GoOld.QA]);(try simp only[ih,jj,jb,jz,gd1,gd2,gd3,gd4,gd5,gd6,w64,gt_iff_lt,ge_iff_le,jI,GoOld.Vec.beq,GoOld.Transform.beq,zg,GoOld.ZB,GoOld.Km]);first|done|rfl|((repeat (first|refine kP (fun _ _=>rfl) ?_ _ _ _|refine zi ?_|refine qp (fun _=>?_)|refine qU ?_ ?_|rfl));all_goals first|rfl))
theorem QV (v0:Vec):qP v0=GoOld.zk v0:=by
 unfold qP GoOld.zk
 try simp only[jj,jb,jz,gd1,gd2,gd3,gd4,gd5,gd6,w64,gt_iff_lt,ge_iff_le,jI,kK,Uf]
 first|done|rfl|((try simp only[jE,jr]);first|done|rfl|grind|(((repeat' split) <;> simp_all);done))
theorem WG (v0:Vec):zQ v0=some (GoOld.kr v0):=by
 unfold zQ GoOld.kr
 try simp only[jj,jb,jz,gd1,gd2,gd3,gd4,gd5,gd6,w64,gt_iff_lt,ge_iff_le,jI]
 first|done|rfl|((try simp only[jE,jr]);first|done|rfl|grind|(((repeat' split) <;> simp_all);done))
theorem Vm (a0:Vec)(b1:Vec)(c2:Vec):Qf a0 b1 c2=some (GoOld.QZ a0 b1 c2):=by
 unfold Qf GoOld.QZ
 try simp only[jj,jb,jz,gd1,gd2,gd3,gd4,gd5,gd6,w64,gt_iff_lt,ge_iff_le,jI,kK]
 first|done|rfl|((try simp only[jE,jr]);first|done|rfl|grind|(((repeat' split) <;> simp_all);done))
theorem YE (vertices0:(List Vec)):YL vertices0=GoOld.Qz vertices0:=by
 unfold YL GoOld.Qz
 simp only[jj,jb,jz,gd1,gd2,gd3,gd4,gd5,gd6,w64,gt_iff_lt,ge_iff_le,jI,WG,Vm]
 refine qU rfl ?_
 refine qB (fun _=>rfl) ?_ _ _
 intro n r ih v
 rw[GoOld.yW]
 simp only[ih,jj,jb,jz,gd1,gd2,gd3,gd4,gd5,gd6,w64,gt_iff_lt,ge_iff_le,jI,GoOld.YH]
 refine qU rfl ?_
 refine qB (fun _=>rfl) ?_ _ _
 intro n' r' ih' v'
 rw[GoOld.yV]
 simp only[ih',jj,jb,jz,gd1,gd2,gd3,gd4,gd5,gd6,w64,gt_iff_lt,ge_iff_le,jI,GoOld.QY]
 refine qU ?_ rfl
 refine zi ?_
 refine qB (fun _=>rfl) ?_ _ _
 intro n2 r2 ih2 v2
 rw[GoOld.YG]
 simp only[ih2,jj,jb,jz,gd1,gd2,gd3,gd4,gd5,gd6,w64,gt_iff_lt,ge_iff_le,jI,GoOld.kZ]
theorem vP (vertices0:(List Vec)):qA vertices0=GoOld.Qs vertices0:=by
 unfold qA GoOld.Qs
 generalize fuel=N
 try simp only[jj,jb,jz,gd1,gd2,gd3,gd4,gd5,gd6,w64,gt_iff_lt,ge_iff_le,jI,Kg,QV,YE,GoOld.YY,GoOld.JM]
 (repeat (first|refine kP (fun _ _=>rfl) ?_ _ _ _|refine zi ?_|refine qp (fun _=>?_)|refine qU ?_ ?_|rfl))
 all_goals first|rfl|(intro n r ih v0 v1;(first|rw[GoOld.Jh]);(try simp only[ih,jj,jb,jz,gd1,gd2,gd3,gd4,gd5,gd6,w64,gt_iff_lt,ge_iff_le,jI,Kg,QV,YE,GoOld.YY,GoOld.JM]);first|done|rfl|((repeat (first|refine kP (fun _ _=>rfl) ?_ _ _ _|refine zi ?_|refine qp (fun _=>?_)|refine qU ?_ ?_|rfl));all_goals first|rfl))
theorem zK (n0:Int)(d1:Int):qW n0 d1=GoOld.zG n0 d1:=by
 unfold qW GoOld.zG
 try simp only[jj,jb,jz,gd1,gd2,gd3,gd4,gd5,gd6,w64,gt_iff_lt,ge_iff_le,jI,GoOld.Vec.beq,GoOld.Transform.beq,zg,GoOld.qN,GoOld.za]
 first|done|rfl|((try simp only[jE,jr]);first|done|rfl|grind|(((repeat' split) <;> simp_all);done))
theorem vH (v0:(List Vec))(i1:Int):ZR v0 i1=GoOld.vp v0 i1:=by
 unfold ZR GoOld.vp
 try simp only[jj,jb,jz,gd1,gd2,gd3,gd4,gd5,gd6,w64,gt_iff_lt,ge_iff_le,jI,zK]
 first|done|rfl|((try simp only[jE,jr]);first|done|rfl|grind|(((repeat' split) <;> simp_all);done))
theorem UI (vertices0:(List Vec)):kH vertices0=GoOld.VA vertices0:=by
 unfold kH GoOld.VA
 generalize fuel=N
 try simp only[jj,jb,jz,gd1,gd2,gd3,gd4,gd5,gd6,w64,gt_iff_lt,ge_iff_le,jI,YE,zK,vH,GoOld.kt]
 (repeat (first|refine kP (fun _ _=>rfl) ?_ _ _ _|refine zi ?_|refine qp (fun _=>?_)|refine qU ?_ ?_|rfl))
 all_goals first|rfl|(intro n r ih v0 v1;(first|rw[GoOld.Zo]);(try simp only[ih,jj,jb,jz,gd1,gd2,gd3,gd4,gd5,gd6,w64,gt_iff_lt,ge_iff_le,jI,YE,zK,vH,GoOld.kt]);first|done|rfl|((repeat (first|refine kP (fun _ _=>rfl) ?_ _ _ _|refine zi ?_|refine qp (fun _=>?_)|refine qU ?_ ?_|rfl));all_goals first|rfl))
theorem wZ (s0:Shape):zy s0=GoOld.ZA s0:=by
 have gs:∀(c:Prop) [Decidable c] (a d:Vec) (e:Option Int),(if c then GoOld.zk (if c then a else d)else e)=if c then GoOld.zk a else e:=by intro c _ a d e;by_cases h:c <;> simp[h]
 unfold zy GoOld.ZA
 simp only[gs,jj,jb,jz,gd1,gd2,gd3,gd4,gd5,gd6,w64,gt_iff_lt,ge_iff_le,jI,vO,uk,Kg,QV,YE,vP,UI,GoOld.yU]
 refine qU rfl ?_
 refine qU rfl ?_
 refine qB (fun _=>rfl) ?_ _ _
 intro n r ih v
 rw[GoOld.yT]
 simp only[ih,jj,jb,jz,gd1,gd2,gd3,gd4,gd5,gd6,w64,gt_iff_lt,ge_iff_le,jI,GoOld.yU]
theorem zE (f0:jT):Yz f0=GoOld.YX f0:=by
 unfold Yz GoOld.YX
 try simp only[jj,jb,jz,gd1,gd2,gd3,gd4,gd5,gd6,w64,gt_iff_lt,ge_iff_le,jI,GoOld.Vec.beq,GoOld.Transform.beq,wV,wZ]
 first|done|rfl|((try simp only[jE,jr]);first|done|rfl|grind|(((repeat' split) <;> simp_all);done))
theorem kU (b0:Body):YK b0=GoOld.Kl b0:=by
 unfold YK GoOld.Kl
 generalize fuel=N
 try simp only[jj,jb,jz,gd1,gd2,gd3,gd4,gd5,gd6,w64,gt_iff_lt,ge_iff_le,jI,GoOld.Vec.beq,GoOld.Transform.beq,KD,zE,GoOld.qM]
 (repeat (first|refine qB (fun _=>rfl) ?_ _ _|refine zi ?_|refine qp (fun _=>?_)|refine qU ?_ ?_|rfl))
 all_goals first|rfl|(intro n r ih v0;(first|rw[GoOld.qL]);(try simp only[ih,jj,jb,jz,gd1,gd2,gd3,gd4,gd5,gd6,w64,gt_iff_lt,ge_iff_le,jI,GoOld.Vec.beq,GoOld.Transform.beq,KD,zE,GoOld.qM]);first|done|rfl|((repeat (first|refine qB (fun _=>rfl) ?_ _ _|refine zi ?_|refine qp (fun _=>?_)|refine qU ?_ ?_|rfl));all_goals first|rfl))
theorem bodyV (b:Body):YS b=YK b:=by rw[XN,kU,GoOld.XO,GoOld.Vy]
theorem jjQ (b:Body):YK b=some (GoOld.um b):=by rw[kU,GoOld.Vy]
def inb (x a b:Int):Bool:=decide (a<=x)&&decide (x<=b)
theorem uC (x a b:Int):kl x a b=some (inb x a b):=by
 unfold kl inb;simp only[jj,ge_iff_le,jr]
theorem VZ (x a b:Int):yg x a b=some (inb x a b):=by
 unfold yg inb;simp only[jj,ge_iff_le,jr]
theorem wm (x a b:Int):Js x a b=some (inb x a b):=by
 unfold Js inb;simp only[jj,ge_iff_le,jr]
theorem wb (x a b:Int):jV x a b=some (inb x a b):=by
 unfold jV inb;simp only[jj,ge_iff_le,jr]
def vset (s:jH):Int:=if(inb s.YA 64 8192&&inb s.yF.X (-16777216) 16777216&&inb s.yF.Y (-16777216) 16777216&&inb s.JP 1 32&&inb s.JO 0 1048576)=true then 0 else 6
theorem jav (s:jH):qY s=some (vset s):=by
 unfold qY vset
 simp only[uC,jj,jb,jz]
 generalize inb s.YA 64 8192=b1
 generalize inb s.yF.X (-16777216) 16777216=b2
 generalize inb s.yF.Y (-16777216) 16777216=b3
 generalize inb s.JP 1 32=b4
 generalize inb s.JO 0 1048576=b5
 cases b1 <;> cases b2 <;> cases b3 <;> cases b4 <;> cases b5 <;> rfl
theorem jaP (s:jH):Yp s=some (vset s):=by
 unfold Yp vset
 simp only[VZ,jj,jb,jz]
 generalize inb s.YA 64 8192=b1
 generalize inb s.yF.X (-16777216) 16777216=b2
 generalize inb s.yF.Y (-16777216) 16777216=b3
 generalize inb s.JP 1 32=b4
 generalize inb s.JO 0 1048576=b5
 cases b1 <;> cases b2 <;> cases b3 <;> cases b4 <;> cases b5 <;> rfl
/-! FindBody -/
def fb (w:jo)(id:Int):Int:=idx (fun b:Body=>b.ID==id) w.ji 0
theorem VR (w:jo)(id:Int)(h:Sm w.ji):qC w id=some (fb w id):=by
 unfold qC KI fb
 simp only[jj]
 rw[show Yg _ fuel (0:Int)=_ from Zw w.ji (fun t i=>some (idx (fun b:Body=>b.ID==id) t i)) _ h ?_ ?_]
 ·exact jb _ _
 ·intro r i t hw hc hm hr
  simp only[dlt hc,if_true,hw,ju hc,KG,jj,jb,hr,idx]
  split <;> rfl
 ·intro r;simp only[dll,ff,if_false,idx]
theorem wa (w:jo)(id:Int)(h:Sm w.ji):yS w id=some (fb w id):=by
 unfold yS fb
 simp only[jj]
 refine Zw w.ji (fun t i=>some (idx (fun b:Body=>b.ID==id) t i)) _ h ?_ ?_
 ·intro r i t hw hc hm hr
  simp only[dlt hc,if_true,hw,ju hc,jj,jb,hr,idx]
  split <;> rfl
 ·intro r;simp only[dll,ff,if_false,idx]
theorem jla (w:jo)(id:Int):fb w id = -1\/(0<=fb w id/\fb w id<(w.ji.length:Int)):=by
 have:=jjy (fun b:Body=>b.ID==id) w.ji 0;unfold fb;simpa using this
/-! ux -/
def vbs (N:Int):List Body->Nat->Int->Bool
 | [],_,_=>true
 |b::t,i,p=>if(GoOld.um b != 0||decide (N<=b.ID)||decide (b.ID<=p))=true then false else vbs N t (i+1) b.ID
theorem po (w:jo)(h:Sm w.ji):Zi w=some (vbs w.yM w.ji 0 0):=by
 unfold Zi
 simp only[jj]
 refine PI w.ji (fun t i p=>some (vbs w.yM t i p)) _ 0 h ?_ ?_
 ·intro r i t s hw hc hm hr
  simp only[dlt hc,if_true,hw,ju hc,jj,bodyV,jjQ,jb,hr,vbs,jE,ge_iff_le]
  split <;> rfl
 ·intro r s;simp only[dll,ff,if_false,vbs]
theorem jfe {b:Body}(h:GoOld.um b=0):1<=b.ID:=by
 have:=(GoOld.jfd.1 h).2.1.1
 unfold GoOld.Wn at this;exact this.1
theorem pK (w:jo)(h:Sm w.ji):Qb w=some (vbs w.yM w.ji 0 0):=by
 unfold Qb
 simp only[jj]
 have key:∀(r:Int × Int->Option Bool),True:=fun _=>trivial
 rw[show Yg _ fuel ((0:Int),(0:Int))=(fun(t:List Body) (i:Nat) (p:Int)=>some (if i=0 then vbs w.yM t i 0 else vbs w.yM t i p)) w.ji 0 0 from PI w.ji (fun t i p=>some (if i=0 then vbs w.yM t i 0 else vbs w.yM t i p)) _ 0 h ?_ ?_]
 ·rfl
 ·intro r i t s hw hc hm hr
  simp only[dlt hc,if_true,hw,ju hc,jj,jjQ,jb,hr,vbs,jE,jr,ge_iff_le,gt_iff_lt,Nat.succ_ne_zero,Nat.add_eq_zero_iff,if_false]
  by_cases hv:GoOld.um (ix w.ji (i:Int))=0
  ·have h1:=jfe hv
   simp[hv]
   by_cases hi:i=0
   ·subst hi;simp;split <;> simp_all <;> omega
   ·have:(0:Int)<(i:Int):=by omega
    simp[hi,this];split <;> simp_all <;> (intros;omega)
  ·simp[hv]
 ·intro r s;simp only[dll,ff,if_false,vbs,ite_self]
/-! Pb -/
def jhG (v:Vec)(m:Int):Bool:=inb v.X (-m) m&&inb v.Y (-m) m
theorem Pc (v:Vec)(m:Int)(h:0<=m/\m<=1000000000000):qj v m=some (jhG v m):=by
 unfold qj jhG
 have e:IntKind.i64.wrap ((0:Int) - m) = -m:=by rw[Yh _ (by omega) (by omega)];omega
 simp only[jj,wm,jb,jz,e,jr,ga1]
theorem pL (v:Vec)(m:Int)(h:0<=m/\m<=1000000000000):YJ v m=some (jhG v m):=by
 unfold YJ jhG
 have e:IntKind.i64.wrap ((0:Int) - m) = -m:=by rw[Yh _ (by omega) (by omega)];omega
 simp only[jj,wb,jb,jz,e,jr,ga1]
def reach (k:Int):Int:=if(k==5)=true then 268435456 else 1048576
def jcp (k:Int):Int × Int:=if(k==1)=true then(0,268435456)else if(k==2)=true then(-205888,205888)else(-268435456,268435456)
theorem jbl (k:Int):ZN k=some (jcp k):=by
 unfold ZN jcp;simp only[jj];split <;> (try split) <;> rfl
def jk4 (j:yP):Bool:=[j.jD.fst,j.jD.snd.fst,j.jD.snd.snd.fst,j.jD.snd.snd.snd].all fun x=>inb x (-536870911) 536870911
def jbb (j:yP):Bool:=jk4 j&&(inb j.ID 1 1099511627776&&jhG j.yN (reach j.Kind)&&jhG j.Ye 1048576&&inb j.Ja (-205888) 205887&&inb j.kg (jcp j.Kind).1 (jcp j.Kind).2&&inb j.kO (jcp j.Kind).1 (jcp j.Kind).2&&decide (j.kg<=j.kO)&&inb j.JY (-16777216) 16777216&&inb j.YU 0 536870911&&inb j.YT 0 536870911&&inb j.JZ 0 536870911)
theorem jhZ (k:Int):0<=reach k/\reach k<=1000000000000:=by unfold reach;split <;> omega
theorem sm4 (a b c d:Int):Sm [a,b,c,d]:=by unfold Sm;simp
def jiX (fin:Bool):List Int->Bool
 | []=>fin
 |a::t=>if(!inb a (-536870911) 536870911)=true then false else jiX fin t
theorem jcW (fin:Bool):∀l:List Int,jiX fin l=(l.all (fun x=>inb x (-536870911) 536870911)&&fin)
 | []=>rfl
 |a::t=>by unfold jiX;rw[jcW fin t];cases h:inb a (-536870911) 536870911 <;> simp[h]
theorem jbk (j:yP):QQ j=some (jbb j):=by
 unfold QQ jbb jk4
 rw[<-jcW]
 have h1:∀m:Int,0<=m/\m<=1000000000000->qj j.yN m=some (jhG j.yN m):=fun m=>Pc _ m
 have h2:=Pc j.Ye 1048576 (by omega)
 have hK:∀m:Int,reach j.Kind=m->0<=m/\m<=1000000000000:=fun m h=>h ▸ jhZ _
 by_cases hk:(j.Kind==5)=true <;> simp only[jI,jj,hk,ff,if_true,if_false,jbl,jb,wm,h2,h1 268435456 (by omega),h1 1048576 (by omega),jz,jr,ga1,reach]
 all_goals
  refine Zw [j.jD.fst,j.jD.snd.fst,j.jD.snd.snd.fst,j.jD.snd.snd.snd] (fun t _=>some (jiX _ t)) _ (sm4 _ _ _ _) ?_ ?_
  ·intro r i t hw hc hm hr
   have hc4:(0:Int)<=(i:Int)/\(i:Int)<((4:Nat):Int):=hc
   have hd4:decide ((i:Int)<(4:Int))=true:=dlt hc
   simp only[hd4,if_true,hw,ju hc4,hr,jiX]
   split <;> rfl
  ·intro r
   have:decide (([j.jD.fst,j.jD.snd.fst,j.jD.snd.snd.fst,j.jD.snd.snd.snd].length:Int)<(4:Int))=false:=rfl
   simp only[this,ff,if_false,jiX]
theorem jaW (j:yP):Qe j=some (inb j.kg (jcp j.Kind).1 (jcp j.Kind).2&&inb j.kO (jcp j.Kind).1 (jcp j.Kind).2&&decide (j.kg<=j.kO)):=by
 unfold Qe jcp
 simp only[jj,wb,jb,jz,jr,jE,ga1,ga2,ga3,ge_iff_le,gt_iff_lt]
 have e:∀x a b,inb x a b=decide (a<=x/\x<=b):=fun x a b=>by unfold inb;rw[Bool.eq_iff_iff];simp
 simp only[e]
 have k1:(j.Kind==1)=decide (j.Kind=1):=by rw[Bool.eq_iff_iff];simp
 have k2:(j.Kind==2)=decide (j.Kind=2):=by rw[Bool.eq_iff_iff];simp
 have k3:(j.Kind != 2) = !decide (j.Kind=2):=by rw[Bool.eq_iff_iff];simp
 simp only[k1,k2,k3]
 have go:∀(p:Option Bool) (b:Bool),(∃a,p=some a/\(a=true↔b=true))->p=some b:=fun p b ⟨a,h1,h2⟩=>by rw[h1];exact congrArg some (Bool.eq_iff_iff.2 h2)
 apply go
 repeat' split
 all_goals refine⟨_,rfl,?_⟩
 all_goals simp only[Bool.or_eq_true,Bool.and_eq_true,Bool.not_eq_true',decide_eq_true_eq,decide_eq_false_iff_not,Bool.false_eq_true,false_iff,true_iff]at*
 all_goals omega
theorem jaV (j:yP):Qd j=some (jbb j):=by
 unfold Qd jbb jk4
 rw[<-jcW]
 have h1:∀m:Int,0<=m/\m<=1000000000000->YJ j.yN m=some (jhG j.yN m):=fun m=>pL _ m
 have h2:=pL j.Ye 1048576 (by omega)
 by_cases hk:(j.Kind==5)=true <;> simp only[jI,jj,hk,ff,if_true,if_false,jaW,jb,wb,h2,h1 268435456 (by omega),h1 1048576 (by omega),jz,jr,jE,ga1,ga2,ga3,reach]
 all_goals
  refine Zw [j.jD.fst,j.jD.snd.fst,j.jD.snd.snd.fst,j.jD.snd.snd.snd] (fun t _=>some (jiX _ t)) _ (sm4 _ _ _ _) ?_ ?_
  ·intro r i t hw hc hm hr
   have hc4:(0:Int)<=(i:Int)/\(i:Int)<((4:Nat):Int):=hc
   have hd4:decide ((i:Int)<(4:Int))=true:=dlt hc
   simp only[hd4,if_true,hw,ju hc4,ju hc,hr,jiX]
   split <;> rfl
  ·intro r
   have:decide (([j.jD.fst,j.jD.snd.fst,j.jD.snd.snd.fst,j.jD.snd.snd.snd].length:Int)<(4:Int))=false:=rfl
   simp only[this,ff,if_false,jiX]
   generalize inb j.kg (jcp j.Kind).1 (jcp j.Kind).2=b1
   generalize inb j.kO (jcp j.Kind).1 (jcp j.Kind).2=b2
   generalize decide (j.kg<=j.kO)=b3
   generalize inb j.ID 1 1099511627776=b4
   generalize jhG j.Ye 1048576=b6
   generalize inb j.Ja (-205888) 205887=b7
   generalize jhG j.yN _=b5
   cases b1 <;> cases b2 <;> cases b3 <;> cases b4 <;> cases b5 <;> cases b6 <;> cases b7 <;> simp
def jbOk (j:yP):Bool:=if(j.Kind==5)=true then(j.JE==0&&inb j.JH 1 1099511627776)else(inb j.JE 1 1099511627776&&inb j.JH 1 1099511627776&&(j.JE != j.JH))
theorem jbn (j:yP):Zq j=some (jbOk j):=by
 unfold Zq jbOk
 simp only[jj,wm,jb,jz,jr,ga1]
 split <;> rfl
def mE (j:yP):Bool:=decide (j.Wb.X=0)&&decide (j.Wb.Y=0)
def jinc (j:yP):Bool:=if(j.Kind==3)=true then !inb (GoOld.jev j.Wb) 65520 65552 else if(j.Kind==1)=true then(!mE j||j.Jm|| !j.Jk)else if(j.Kind==4)=true then(!mE j||j.Jm||j.Jk)else if(j.Kind==5)=true then(!mE j||j.Jm||j.Jk)else !mE j
theorem jbm (j:yP):zN j=some (jinc j):=by
 unfold zN jinc mE
 simp only[jj,jI,Kr,GoOld.Ve,wm,jb,jz,jr,jE]
 repeat' split
 all_goals rfl
def jv (j:yP):Int:=if(decide (j.Kind<1)||decide (5<j.Kind))=true then 10 else if(!jbb j)=true then 6 else if(!jbOk j)=true then 14 else if jinc j=true then 15 else 0
theorem jbo (j:yP):Kp j=some (jv j):=by
 unfold Kp jv
 simp only[jj,jbk,jbn,jbm,jb,jE,gt_iff_lt]
 repeat' split
 all_goals rfl
theorem jaX (j:yP):zx j=some (jv j):=by
 have g10:∀(c:Bool) (a d lo hi:Int),(c && !inb (if(c==true)=true then a else d) lo hi)=(c && !inb a lo hi):=by intro c a d lo hi;cases c <;> rfl
 unfold zx jv
 simp only[jj,jaV,QV,GoOld.vr,wb,jb,jz,jE,jr,gt_iff_lt,ga1,ga2,ga3,ga4,ga9,g10]
 have k:∀n:Int,(j.Kind != n) = !(j.Kind==n):=fun n=>rfl
 by_cases hk:(decide (j.Kind<1)||decide (5<j.Kind))=true
 ·simp only[hk,if_true]
 ·simp only[hk,if_false]
  cases hn:jbb j
  ·rfl
  ·simp only[Bool.not_true,ff,if_false]
   simp only[Bool.or_eq_true,decide_eq_true_eq,not_or,Int.not_lt]at hk
   have hk':j.Kind=1\/j.Kind=2\/j.Kind=3\/j.Kind=4\/j.Kind=5:=by omega
   unfold jbOk jinc mE
   generalize inb (GoOld.jev j.Wb) 65520 65552=b1
   generalize inb j.JE 1 1099511627776=b2
   generalize inb j.JH 1 1099511627776=b3
   have k0:(j.JE != 0) = !(j.JE==0):=rfl
   have k00:(j.JE != j.JH) = !(j.JE==j.JH):=rfl
   rw[k0,k00]
   generalize (j.JE==0)=b4
   generalize (j.JE==j.JH)=b5
   generalize (decide (j.Wb.X=0)&&decide (j.Wb.Y=0))=b6
   generalize j.Jm=b7
   generalize j.Jk=b8
   rcases hk' with h|h|h|h|h <;> simp only[h,k] <;> cases b1 <;> cases b2 <;> cases b3 <;> cases b4 <;> cases b5 <;> cases b6 <;> cases b7 <;> cases b8 <;> rfl
def jex (w:jo)(j:yP):Bool:=decide (0<=fb w j.JH)&&(j.Kind==5||decide (0<=fb w j.JE))
theorem jb0 (w:jo)(j:yP)(h:Sm w.ji):Zk w j=some (jex w j):=by
 unfold Zk jex
 simp only[jj,VR w _ h,jb,jz,jr,jE,ge_iff_le,ga8]
def jcon (w:jo)(j:yP):Bool:=(j.JE==0||decide (0<=fb w j.JE))&&(j.JH==0||decide (0<=fb w j.JH))
theorem jaT (w:jo)(j:yP)(h:Sm w.ji):QS w j=some (jcon w j):=by
 unfold QS jcon
 simp only[jj,wa w _ h,jb,jz,jr,jE,ge_iff_le,ga8,ga5]
theorem jgs {j:yP}(h:jv j=0):jbb j=true/\jbOk j=true/\jinc j=false/\1<=j.Kind/\j.Kind<=5:=by
 unfold jv at h
 split at h
 ·omega
 ·split at h
  ·omega
  ·split at h
   ·omega
   ·split at h
    ·omega
    ·simp_all
theorem jkU {w:jo}{j:yP}(h:jv j=0):jex w j=jcon w j:=by
 have h2:=(jgs h).2.1
 unfold jbOk inb at h2
 unfold jex jcon
 by_cases hk:j.Kind=5
 ·simp[hk]at h2⊢
  have:¬ j.JH=0:=by omega
  simp[h2.1,this]
 ·simp[hk]at h2⊢
  have:¬ j.JH=0:=by omega
  have:¬ j.JE=0:=by omega
  have e1:(j.JE==0)=false:=by simpa using this
  have e2:(j.JH==0)=false:=by simp;omega
  have e3:(j.Kind==5)=false:=by simpa using hk
  rw[e1,e2,e3];simp only[Bool.false_or];exact Bool.and_comm _ _
theorem jv_ID {j:yP}(h:jv j=0):1<=j.ID:=by
 have h2:=(jgs h).1
 unfold jbb inb at h2
 simp at h2;omega
def vjs (w:jo):List yP->Nat->Int->Bool
 | [],_,_=>true
 |j::t,i,p=>if(jv j != 0||decide (w.yM<=j.ID)||decide (j.ID<=p)|| !jcon w j||decide (0<=fb w j.ID))=true then false else vjs w t (i+1) j.ID
theorem pn (w:jo)(h:Sm w.jP)(hb:Sm w.ji):Zh w=some (vjs w w.jP 0 0):=by
 unfold Zh
 simp only[jj]
 refine PI w.jP (fun t i p=>some (vjs w t i p)) _ 0 h ?_ ?_
 ·intro r i t s hw hc hm hr
  simp only[dlt hc,if_true,hw,ju hc,jj,jbo,jb0 w _ hb,VR w _ hb,jb,jz,hr,vjs,jE,ge_iff_le,ga3,ga5]
  by_cases hj:jv (ix w.jP (i:Int))=0
  ·rw[jkU hj];split <;> rfl
  ·simp[hj]
 ·intro r s;simp only[dll,ff,if_false,vjs]
theorem pJ (w:jo)(h:Sm w.jP)(hb:Sm w.ji):Qa w=some (vjs w w.jP 0 0):=by
 unfold Qa
 simp only[jj]
 rw[show Yg _ fuel ((0:Int),(0:Int))=(fun(t:List yP) (i:Nat) (p:Int)=>some (if i=0 then vjs w t i 0 else vjs w t i p)) w.jP 0 0 from PI w.jP (fun t i p=>some (if i=0 then vjs w t i 0 else vjs w t i p)) _ 0 h ?_ ?_]
 ·rfl
 ·intro r i t s hw hc hm hr
  simp only[dlt hc,if_true,hw,ju hc,jj,jaX,jaT w _ hb,wa w _ hb,jb,jz,hr,vjs,jE,jr,ge_iff_le,gt_iff_lt,ga3,ga5,Nat.succ_ne_zero,Nat.add_eq_zero_iff,if_false]
  by_cases hv:jv (ix w.jP (i:Int))=0
  ·have h1:=jv_ID hv
   have e:decide ((ix w.jP (i:Int)).ID<=0)=false:=decide_eq_false (by omega)
   by_cases hi:i=0
   ·subst hi
    have e1:decide ((0:Int)<((0:Nat):Int))=false:=rfl
    simp only[e1,e,Bool.false_and,Bool.or_false,if_true];split <;> rfl
   ·have e1:decide ((0:Int)<(i:Int))=true:=decide_eq_true (by omega)
    simp only[e1,Bool.true_and,hi,if_false];split <;> rfl
  ·simp[hv]
 ·intro r s;simp only[dll,ff,if_false,vjs,ite_self]
theorem jll (x:Int):WC x=some false:=by unfold WC;simp[jj]
def cmpZ (x y:Int):Int:=if x<y then -1 else if y<x then 1 else 0
theorem cmp_eq (x y:Int):ka x y=some (cmpZ x y):=by
 unfold ka cmpZ
 simp only[jll,jb,ff,if_false,jj,decide_eq_true_eq,gt_iff_lt]
 split
 ·rfl
 ·split <;> rfl
def orZ:List Int->Int
 | []=>0
 |a::t=>if(a != 0)=true then a else orZ t
theorem or_eq (l:List Int)(h:Sm l):jdO l=some (orZ l):=by
 unfold jdO
 simp only[jj]
 refine Zw l (fun t _=>some (orZ t)) _ h ?_ ?_
 ·intro r i t hw hc hm hr
  simp only[dlt hc,if_true,hw,ju hc,jj,hr,orZ]
  split <;> rfl
 ·intro r;simp only[dll,ff,if_false,orZ]
def MO (a b:jC):Bool:=if a.JE≠b.JE then decide (a.JE<b.JE)else if a.Jd≠b.Jd then decide (a.Jd<b.Jd)else if a.JH≠b.JH then decide (a.JH<b.JH)else decide (a.Jj<b.Jj)
theorem cmpZ_0 (x y:Int):cmpZ x y=0↔x=y:=by unfold cmpZ;split <;> (try split) <;> omega
theorem jdP (x y:Int):cmpZ x y<0↔x<y:=by unfold cmpZ;split <;> (try split) <;> omega
theorem jkJ (a b:jC):kJ a b=some (MO a b):=by
 unfold kJ kI MO
 simp only[cmp_eq,jb]
 rw[or_eq _ (sm4 _ _ _ _)]
 simp only[jb,jj,orZ,bne_iff_ne,ne_eq,cmpZ_0]
 by_cases h1:a.JE=b.JE
 ·by_cases h2:a.Jd=b.Jd
  ·by_cases h3:a.JH=b.JH
   ·by_cases h4:a.Jj=b.Jj
    ·simp[h1,h2,h3,h4]
    ·simp[h1,h2,h3,h4,jdP]
   ·simp[h1,h2,h3,jdP]
  ·simp[h1,h2,jdP]
 ·simp[h1,jdP]
theorem My (a b:jC):kF a b=some (MO a b):=by
 unfold kF MO
 simp only[jj,bne_iff_ne,ne_eq]
 repeat' split
 all_goals rfl
theorem jgh (a:jC):MO a a=false:=by unfold MO;simp
def okK (k:jC):Bool:=decide (k.JE<k.JH)&&decide (0<=k.Jd)&&decide (k.Jd<4)&&decide (0<=k.Jj)&&decide (k.Jj<4)
theorem jhN (k:jC):ZW k=some (okK k):=by
 unfold ZW okK;simp only[jj,jr,ge_iff_le]
def vks:List jC->Nat->jC->Bool
 | [],_,_=>true
 |k::t,i,p=>if(!okK k||(decide (0<(i:Int)) && !MO p k))=true then false else vks t (i+1) k
theorem keq (a b:jC):(decide (a.JE=b.JE)&&(decide (a.Jd=b.Jd)&&(decide (a.JH=b.JH)&&decide (a.Jj=b.Jj))))=decide (a=b):=by
 rw[Bool.eq_iff_iff];cases a;cases b;simp
theorem vk_eq (l:List jC)(h:Sm l):yE l=some (vks l 0 ⟨0,0,0,0⟩):=by
 unfold yE
 simp only[jj,keq]
 refine jlI l (fun t i p=>some (vks t i p)) _ _ h ?_ ?_
 ·intro r i t s hw hc hm hr
  have g:∀(c e f a d:Bool),(c||(e&&(f|| !(if(c==false&&e==true&&f==false)=true then a else d))))=(c||(e&&(f|| !a))):=by intro c e f a d;cases c <;> cases e <;> cases f <;> rfl
  simp only[dlt hc,if_true,hw,ju hc,jj,jhN,jkJ,jb,jz,hr,vks,jE,jr,gt_iff_lt,g]
  have e:(decide (ix l (i:Int)=s)|| !MO s (ix l (i:Int))) = !MO s (ix l (i:Int)):=by
   by_cases hh:ix l (i:Int)=s
   ·rw[hh,jgh];simp
   ·simp[hh]
  rw[e];split <;> rfl
 ·intro r s;simp only[dll,ff,if_false,vks]
theorem pO (l:List jC)(h:Sm l):qt l=some (vks l 0 ⟨0,0,0,0⟩):=by
 unfold qt
 simp only[jj]
 refine Zw l (fun t i=>some (vks t i (if i=0 then⟨0,0,0,0⟩else ix l ((i:Int) - 1)))) _ h ?_ ?_
 ·intro r i t hw hc hm hr
  have hk:∀k:jC,((((decide (k.JE>=k.JH)||decide (k.Jd<0))||decide (k.Jd>3))||decide (k.Jj<0))||decide (k.Jj>3)) = !okK k:=by
   intro k;unfold okK;rw[Bool.eq_iff_iff];simp;omega
  have g:∀(c e a d:Bool),(c||(e && !(if(c==false&&e==true)=true then a else d)))=(c||(e && !a)):=by intro c e a d;cases c <;> cases e <;> rfl
  have e3:((i:Int)+1 - 1)=(i:Int):=by omega
  simp only[dlt hc,if_true,hw,ju hc,jj,My,jb,jz,hr,vks,jE,jr,hk,Nat.succ_ne_zero,Nat.add_eq_zero_iff,if_false]
  by_cases hi:i=0
  ·subst hi
   have e1:decide (((0:Nat):Int)>(0:Int))=false:=rfl
   have e2:decide ((0:Int)<((0:Nat):Int))=false:=rfl
   simp only[e1,e2,Bool.false_and,Bool.and_false,Bool.or_false,ff,Bool.beq_eq_decide_eq]
   simp
   cases okK (ix l 0) <;> rfl
  ·have e1:decide (((i:Nat):Int)>(0:Int))=true:=decide_eq_true (by omega)
   have e2:decide ((0:Int)<((i:Nat):Int))=true:=decide_eq_true (by omega)
   have e4:IntKind.i64.wrap ((i:Int) - 1)=(i:Int) - 1:=Yh _ (by omega) (by unfold Sm at h;omega)
   rw[e4,ju (fun _=>by omega)]
   simp only[e1,e2,Bool.true_and,g,hi,if_false]
   have g2:∀(c a d:Bool),(c|| !(if(c==false&&true==true)=true then a else d))=(c|| !a):=by intro c a d;cases c <;> rfl
   simp only[g2]
   have e5:(((i+1:Nat):Int) - 1)=(i:Int):=by omega
   rw[e5]
   split <;> rfl
 ·intro r;simp only[dll,ff,if_false,vks]
/-! the standard library's searches -/
theorem jkW (l:List Int)(f:Int->Option Bool)(g:Int->Bool)(h:Sm l)(hf:∀a∈l,f a=some (g a)):QL l f=some (idx g l 0):=by
 unfold QL
 simp only[jj]
 refine Zw l (fun t i=>some (idx g t i)) _ h ?_ ?_
 ·intro r i t hw hc hm hr
  simp only[dlt hc,if_true,hw,ju hc,jj,hf _ hm,jb,hr,idx]
  split <;> rfl
 ·intro r;simp only[dll,ff,if_false,idx]
theorem ixf_pt (l:List jS)(f:jS->Option Bool)(g:jS->Bool)(h:Sm l)(hf:∀a∈l,f a=some (g a)):QM l f=some (idx g l 0):=by
 unfold QM
 simp only[jj]
 refine Zw l (fun t i=>some (idx g t i)) _ h ?_ ?_
 ·intro r i t hw hc hm hr
  simp only[dlt hc,if_true,hw,ju hc,jj,hf _ hm,jb,hr,idx]
  split <;> rfl
 ·intro r;simp only[dll,ff,if_false,idx]
theorem jkV (l:List jC)(f:jC->Option Bool)(g:jC->Bool)(h:Sm l)(hf:∀a∈l,f a=some (g a)):QN l f=some (idx g l 0):=by
 unfold QN
 simp only[jj]
 refine Zw l (fun t i=>some (idx g t i)) _ h ?_ ?_
 ·intro r i t hw hc hm hr
  simp only[dlt hc,if_true,hw,ju hc,jj,hf _ hm,jb,hr,idx]
  split <;> rfl
 ·intro r;simp only[dll,ff,if_false,idx]
theorem jlj (l:List Int)(f:Int->Option Bool)(g:Int->Bool)(h:Sm l)(hf:∀a∈l,f a=some (g a)):Yk l f=some (l.any g):=by
 unfold Yk;simp only[jkW l f g h hf,jb,jj,ge_iff_le,MW]
theorem ctf_pt (l:List jS)(f:jS->Option Bool)(g:jS->Bool)(h:Sm l)(hf:∀a∈l,f a=some (g a)):qw l f=some (l.any g):=by
 unfold qw;simp only[ixf_pt l f g h hf,jb,jj,ge_iff_le,MW]
theorem jli (l:List jC)(f:jC->Option Bool)(g:jC->Bool)(h:Sm l)(hf:∀a∈l,f a=some (g a)):qR l f=some (l.any g):=by
 unfold qR;simp only[jkV l f g h hf,jb,jj,ge_iff_le,MW]
/-! manifolds -/
def sat (x:Int):Bool:=inb x (-536870911) 536870911
theorem Xd (l:List Int)(h:Sm l):zU l=some (l.all sat):=by
 unfold zU
 show Rx.Bind (Yk l Zj) (fun r=>Let (!r) fun x=>some x)=_
 rw[jlj l _ (fun n => !sat n) h (fun a _=>by unfold Zj sat;simp only[uC,jb,jj])]
 simp only[jb,jj,List.any_eq_not_all_not,Bool.not_not]
def pOk (p:jS):Bool := !decide (p.Jt<0)&&(sat p.ve.X&&(sat p.ve.Y&&(sat p.Ys&&(sat p.ID&&(sat p.Jt&&sat p.Jx)))))
def mOk (m:jt):Bool := !(decide ((m.jY.length:Int)<1)||decide (2<(m.jY.length:Int))||((m.jY.length:Int)==2&&(ix m.jY 0).ID==(ix m.jY 1).ID)|| !(sat m.zT.X&&sat m.zT.Y))&&m.jY.all pOk
theorem je8 (p:jS):Qm p=some (!pOk p):=by
 have h6:∀a b c d e f:Int,Sm [a,b,c,d,e,f]:=by intros;unfold Sm;simp
 unfold Qm pOk
 simp only[jj,Xd _ (h6 _ _ _ _ _ _),jb,jz,jE,ga3,List.all_cons,List.all_nil,Bool.and_true,Bool.not_and,Bool.not_not]
theorem chkP {l:List jS}{a:Bool}:((!a&&((l.length:Int)==2))=true->(0:Int)<=(0:Int)/\(0:Int)<(l.length:Int))/\((!a&&((l.length:Int)==2))=true->(0:Int)<=(1:Int)/\(1:Int)<(l.length:Int)):=by
 constructor <;> intro h <;> simp at h <;> omega
theorem jaw (m:jt)(h:Sm m.jY):zm m=some (mOk m):=by
 have h2:∀a b:Int,Sm [a,b]:=by intros;unfold Sm;simp
 have hg:∀a b:Bool,(a==false&&b==true)=(!a&&b):=by intro a b;cases a <;> cases b <;> rfl
 unfold zm mOk
 simp only[jj,hg]
 rw[ju chkP.1,ju chkP.2]
 simp only[Xd _ (h2 _ _),jb,jz,jE,jr,ga3,List.all_cons,List.all_nil,Bool.and_true,gt_iff_lt]
 rw[ctf_pt m.jY _ (fun p => !pOk p) h (fun p _=>je8 p)]
 simp only[jb,List.any_eq_not_all_not,Bool.not_not]
 generalize (decide ((m.jY.length:Int)<1)||decide (2<(m.jY.length:Int))||((m.jY.length:Int)==2&&(ix m.jY 0).ID==(ix m.jY 1).ID)|| !(sat m.zT.X&&sat m.zT.Y))=c
 cases c <;> simp
theorem Xj (v:Vec):Yr v=some (sat v.X&&sat v.Y):=by
 unfold Yr sat;simp only[jj,VZ,jb,jz,jr,ga1]
def allP:List jS->Bool
 | []=>true
 |p::t=>if(!pOk p)=true then false else allP t
theorem jhp:∀l:List jS,allP l=l.all pOk
 | []=>rfl
 |p::t=>by unfold allP;rw[jhp t];cases h:pOk p <;> simp[h]
theorem jaQ (m:jt)(h:Sm m.jY):YD m=some (mOk m):=by
 have hg:∀a b:Bool,(a==false&&b==true)=(!a&&b):=by intro a b;cases a <;> cases b <;> rfl
 unfold YD mOk
 simp only[jj,hg]
 rw[ju chkP.1,ju chkP.2]
 simp only[Xj,jb,jz,jE,jr,ga3,gt_iff_lt]
 rw[<-jhp]
 generalize (decide ((m.jY.length:Int)<1)||decide (2<(m.jY.length:Int))||((m.jY.length:Int)==2&&(ix m.jY 0).ID==(ix m.jY 1).ID)|| !(sat m.zT.X&&sat m.zT.Y))=c
 cases c
 rotate_left
 ·rfl
 ·simp only[ff,if_false,Bool.not_false,Bool.true_and]
  refine Zw m.jY (fun t _=>some (allP t)) _ h ?_ ?_
  ·intro r i t hw hc hm hr
   have hp:∀p:jS,(((!inb p.Jt 0 536870911|| !inb p.Jx (-536870911) 536870911)|| !(sat p.ve.X&&sat p.ve.Y))|| !(sat p.Ys&&sat p.ID)) = !pOk p:=by
    intro p;unfold pOk sat inb;rw[Bool.eq_iff_iff];simp;omega
   simp only[dlt hc,if_true,hw,ju hc,jj,VZ,Xj,jb,jz,jE,ga3,hp,hr,allP]
   split <;> rfl
  ·intro r;simp only[dll,ff,if_false,allP]
def exw (w:jo)(id n:Int):Bool:=decide (0<=fb w id)&&decide (0<=n)&&decide (n<((ix w.ji (fb w id)).jf.length:Int))
theorem jaR (w:jo)(id n:Int)(h:Sm w.ji):ze w id n=some (exw w id n):=by
 unfold ze exw
 simp only[jj,wa w _ h,jb,ge_iff_le,jr]
 rw[ju]
 intro hh;simp at hh
 have:=jla w id;omega
def exk (w:jo)(k:jC):Bool:=exw w k.JE k.Jd&&exw w k.JH k.Jj
theorem jax (w:jo)(k:jC)(h:Sm w.ji)(hk:okK k=true):zo w k=some (exk w k):=by
 unfold zo exk exw
 simp only[jj,VR w _ h,jb,ge_iff_le,jr]
 have h1:=jla w k.JE
 have h2:=jla w k.JH
 rw[ju (by intro hh;simp at hh;omega),ju (by intro hh;simp at hh;omega)]
 refine congrArg some ?_
 unfold okK at hk;simp at hk
 rw[Bool.eq_iff_iff];simp;omega
def allK (w:jo):List jC->Bool
 | []=>true
 |k::t=>if(!exk w k)=true then false else allK w t
theorem jhr (w:jo):∀l:List jC,allK w l=l.all (exk w)
 | []=>rfl
 |k::t=>by unfold allK;rw[jhr w t];cases h:exk w k <;> simp[h]
theorem Xk (w:jo)(l:List jC)(h:Sm w.ji)(hl:Sm l):qV w l=some (l.all (exk w)):=by
 unfold qV
 rw[<-jhr]
 simp only[jj]
 refine Zw l (fun t _=>some (allK w t)) _ hl ?_ ?_
 ·intro r i t hw hc hm hr
  have e:∀k:jC,(!exw w k.JE k.Jd|| !exw w k.JH k.Jj) = !exk w k:=by intro k;unfold exk;rw[Bool.not_and]
  simp only[dlt hc,if_true,hw,ju hc,jj,jaR w _ _ h,jb,ju (fun _=>hc),jz,jE,ga3,e,hr,allK]
  split <;> rfl
 ·intro r;simp only[dll,ff,if_false,allK]
theorem Mx (l:List JL)(hl:l.length<=10000):Ze l=some (l.map (·.Key)):=by
 unfold Ze
 simp only[jj]
 refine(jjY l (fun i s=>s.length=i) (fun t _ s=>some (s++t.map (·.Key))) _ _ (vk hl (by omega)) rfl ?_ ?_)
 ·intro r i t s hp hw hc hm hr
  have hp2:(s++[(ix l (i:Int)).Key]).length=i+1:=by simp[hp]
  have hb:(List.length s+[(ix l (i:Int)).Key].length)*32<=140737488355328:=by simp[hp];omega
  simp only[dlt hc,if_true,hw,ju hc,ju hb,jj,hr _ hp2,List.map_cons,List.append_assoc,List.singleton_append]
 ·intro r s hp;simp only[dll,ff,if_false,List.map_nil,List.append_nil]
theorem jg3 (a b:List jC)(ha:a.length<=10000)(hb:b.length<=10000):kn [a,b]=some (a++b):=by
 obtain⟨n,hn⟩:∃n,fuel=n+3:=⟨2 ^ 70 - 3,rfl⟩
 have w1:IntKind.i64.wrap ((0:Int)+(a.length:Int))=(a.length:Int):=by rw[Yh _ (by omega) (by omega)];omega
 have w2:IntKind.i64.wrap ((a.length:Int)+(b.length:Int))=(a.length:Int)+(b.length:Int):=Yh _ (by omega) (by omega)
 have w3:IntKind.i64.wrap ((0:Int)+(1:Int))=1:=rfl
 have w4:IntKind.i64.wrap ((1:Int)+(1:Int))=2:=rfl
 have w5:IntKind.i64.wrap ((0:Int) - (0:Int))=0:=rfl
 have w6:IntKind.i64.wrap ((a.length:Int)+(b.length:Int) - 0)=(a.length:Int)+(b.length:Int):=by rw[Yh _ (by omega) (by omega)];omega
 have x0:ix [a,b] (0:Int)=a:=rfl
 have x1:ix [a,b] (1:Int)=b:=rfl
 have l2:(([a,b]:List (List jC)).length:Int)=2:=rfl
 have d0:decide ((0:Int)<2)=true:=rfl
 have d1:decide ((1:Int)<2)=true:=rfl
 have d2:decide ((2:Int)<2)=false:=rfl
 have e1:decide ((a.length:Int)<0)=false:=decide_eq_false (by omega)
 have e2:decide ((a.length:Int)+(b.length:Int)<0)=false:=decide_eq_false (by omega)
 have c0:(0:Int)<=(0:Int)/\(0:Int)<2:=by omega
 have c1:(0:Int)<=(1:Int)/\(1:Int)<2:=by omega
 have inner:∀v:List jC,v=[]->Yg (fun(rec688:List jC × Int->Option (List jC)) (s689:List jC × Int)=>
  if decide (s689.snd<(2:Int))=true then Chk ((0:Int)<=s689.snd/\s689.snd<(2:Int))
  (Chk ((List.length s689.fst+(ix [a,b] s689.snd).length)*(32:Nat)<=(140737488355328:Nat)) (rec688 (s689.fst++ix [a,b] s689.snd,IntKind.i64.wrap (s689.snd+(1:Int)))))else some s689.fst) (n+3) (v,(0:Int))=some (a++b):=by
  intro v hv;subst hv
  have b1:(List.length ([]:List jC)+a.length)*32<=140737488355328:=by simp;omega
  have b2:(a.length+b.length)*32<=140737488355328:=by omega
  simp only[kY,d0,d1,d2,if_true,ff,if_false,ju c0,ju c1,x0,x1,w3,w4,ju b1,List.nil_append,ju b2]
 unfold kn
 rw[hn]
 simp only[jj,jI,l2]
 rw[kY]
 simp only[d0,if_true,ju c0,x0,w1,e1,ff,if_false,w3]
 rw[kY]
 simp only[d1,if_true,ju c1,x1,w2,e2,ff,if_false,w4]
 rw[kY]
 simp only[d2,ff,if_false,e2,w5,w6]
 by_cases hz:(a.length:Int)+(b.length:Int)>0
 ·rw[if_pos (decide_eq_true hz)]
  rw[Chk_true,ju ⟨hz,by omega,by omega⟩,ju (by simp),ju (by simp)]
  exact inner _ (by simp)
 ·rw[if_neg (by simpa using hz)]
  exact inner _ rfl
structure Few (w:jo):Prop where
 ux:w.ji.length<=1000
 Pb:w.jP.length<=1000
 kD:w.jc.length<=1000
 overlaps:w.Overlaps.length<=1000
 points:∀c∈w.jc,c.jt.jY.length<=1000
 wx:∀b∈w.ji,b.jf.length<=1000
 jl:∀b∈w.ji,∀f∈b.jf,f.Shape.jg.length<=10000
theorem Few.sb {w:jo}(h:Few w):Sm w.ji:=vk h.ux (by omega)
theorem Few.sj {w:jo}(h:Few w):Sm w.jP:=vk h.Pb (by omega)
theorem Few.sc {w:jo}(h:Few w):Sm w.jc:=vk h.kD (by omega)
theorem Few.so {w:jo}(h:Few w):Sm w.Overlaps:=vk h.overlaps (by omega)
def Ux (w:jo):List jC:=w.jc.map (·.Key)
theorem Few.sk {w:jo}(h:Few w):Sm (Ux w):=vk (n:=1000) (by unfold Ux;rw[List.length_map];exact h.kD) (by omega)
def k0:jC:=⟨0,0,0,0⟩
def cOk (w:jo):Bool:=w.jc.all (fun c=>mOk c.jt)&&(vks (Ux w) 0 k0&&vks w.Overlaps 0 k0&&((Ux w).all (exk w)&&w.Overlaps.all (exk w)))
theorem jfb:∀(l:List jC) (i:Nat) (p:jC),vks l i p=true->∀k∈l,okK k=true
 | [],_,_,_,_,h=>by simp at h
 |a :: t,i,p,h,k,hk=>by
  unfold vks at h
  split at h
  ·exact absurd h (by simp)
  ·rename_i hh
   rcases List.mem_cons.1 hk with e|e
   ·subst e;simp at hh;exact hh.1
   ·exact jfb t _ _ h k e
def vcs (fin:List jC->Bool):List JL->List jC->Bool
 | [],s=>fin s
 |c::t,s=>if(!mOk c.jt)=true then false else vcs fin t (s++[c.Key])
theorem jjf (fin:List jC->Bool):∀(l:List JL) (s:List jC),vcs fin l s=(l.all (fun c=>mOk c.jt)&&fin (s++l.map (·.Key)))
 | [],s=>by simp[vcs]
 |c::t,s=>by unfold vcs;rw[jjf fin t];cases h:mOk c.jt <;> simp[h]
theorem jay (w:jo)(h:Few w):zn w=some (cOk w):=by
 have hf : ∀s:List jC,s.length<=1000->(Rx.Bind (yE s) fun(r726:Bool)=>
  Rx.Bind (if((!r726)==false)=true then yE w.Overlaps else some default) fun(r728:Bool)=>
  if(bif !r726 then true else !r728)=true then some false
  else
  Rx.Bind (kn [s,w.Overlaps]) fun(r731:List jC)=>
  Rx.Bind (qR r731 fun a=>Qn a w) fun(r732:Bool)=>some !r732)=some (vks s 0 k0&&vks w.Overlaps 0 k0&&(s.all (exk w)&&w.Overlaps.all (exk w))):=by
  intro s hs
  simp only[vk_eq s (vk hs (by omega)),vk_eq _ h.so,jb,jz,jE,ga3]
  show(if(!vks s 0 k0|| !vks w.Overlaps 0 k0)=true then some false else _)=_
  cases h1:vks s 0 k0
  ·rfl
  ·cases h2:vks w.Overlaps 0 k0
   ·rfl
   ·simp only[Bool.not_true,Bool.or_false,ff,if_false,Bool.true_and]
    rw[jg3 s w.Overlaps (by omega) (by have:=h.overlaps;omega),jb]
    rw[jli (s++w.Overlaps) _ (fun k => !exk w k) (vk (n:=2000) (by have:=h.overlaps;simp;omega) (by omega))]
    ·rw[jb,List.any_append,List.any_eq_not_all_not,List.any_eq_not_all_not]
     simp only[Bool.not_not,Bool.not_or]
    ·intro k hk
     have:okK k=true:=by
      rcases List.mem_append.1 hk with e|e
      ·exact jfb _ _ _ h1 k e
      ·exact jfb _ _ _ h2 k e
     unfold Qn
     rw[jax w k h.sb this,jb,jj]
 unfold zn
 simp only[jj]
 have hc0:cOk w=vcs (fun s=>vks s 0 k0&&vks w.Overlaps 0 k0&&(s.all (exk w)&&w.Overlaps.all (exk w))) w.jc []:=by rw[jjf];rfl
 rw[hc0]
 refine(jjY w.jc (fun i s=>s.length=i) (fun t _ s=>some (vcs (fun s=>vks s 0 k0&&vks w.Overlaps 0 k0&&(s.all (exk w)&&w.Overlaps.all (exk w))) t s)) _ _ h.sc rfl ?_ ?_)
 ·intro r i t s hp hw hc hm hr
  have hl:=h.kD
  have hp2:(s++[(ix w.jc (i:Int)).Key]).length=i+1:=by simp[hp]
  have hb:(List.length s+[(ix w.jc (i:Int)).Key].length)*32<=140737488355328:=by simp[hp];omega
  simp only[dlt hc,if_true,hw,ju hc,ju hb,jaw _ (vk (h.points _ hm) (by omega)),jb,jj,hr _ hp2,vcs]
  split <;> rfl
 ·intro r s hp
  have hl:=h.kD
  simp only[dll,ff,if_false]
  exact hf s (by omega)
def jeT:List JL->Bool
 | []=>true
 |c::t=>if(!mOk c.jt)=true then false else jeT t
theorem jdW:∀l:List JL,jeT l=l.all (fun c=>mOk c.jt)
 | []=>rfl
 |c::t=>by unfold jeT;rw[jdW t];cases h:mOk c.jt <;> simp[h]
theorem jaS (w:jo)(h:Few w):ql w=some (cOk w):=by
 unfold ql cOk
 have hk:Ze w.jc=some (Ux w):=Mx _ (by have:=h.kD;omega)
 have hL:Yg (fun(rec1339:Int->Option Bool) (s1340:Int)=>
  if decide (s1340<(w.jc.length:Int))=true then Chk ((0:Int)<=s1340/\s1340<(w.jc.length:Int))
  (Rx.Bind (YD (ix w.jc s1340).jt) fun(r1344:Bool)=>
  if(!r1344)=true then some false else rec1339 (IntKind.i64.wrap (s1340+(1:Int))))else some true) fuel (0:Int)=some (w.jc.all (fun c=>mOk c.jt)):=by
  rw[<-jdW]
  refine Zw w.jc (fun t _=>some (jeT t)) _ h.sc ?_ ?_
  ·intro r i t hw hc hm hr
   simp only[dlt hc,if_true,hw,ju hc,jaQ _ (vk (h.points _ hm) (by omega)),jb,hr,jeT]
   split <;> rfl
  ·intro r;simp only[dll,ff,if_false,jeT]
 simp only[jj,hk,pO _ h.sk,pO _ h.so,Xk w _ h.sb h.sk,Xk w _ h.sb h.so,jb,jz,jE,ga3,hL]
 show(if(((!vks (Ux w) 0 k0|| !vks w.Overlaps 0 k0)|| !(Ux w).all (exk w))|| !w.Overlaps.all (exk w))=true then some false else _)=_
 generalize vks (Ux w) 0 k0=b1
 generalize vks w.Overlaps 0 k0=b2
 generalize (Ux w).all (exk w)=b3
 generalize w.Overlaps.all (exk w)=b4
 cases b1 <;> cases b2 <;> cases b3 <;> cases b4 <;> simp
def wv (w:jo):Int:=if(vset w.jH != 0)=true then 17 else if(decide (32<(w.ji.length:Int))||decide (32<(w.jP.length:Int))||decide (8192<(w.jc.length:Int))||decide (8192<(w.Overlaps.length:Int)))=true then 11 else if(!inb w.yM 1 1099511627776|| !inb w.Frame 0 1099511627776)=true then 6 else if(!vbs w.yM w.ji 0 0)=true then 14 else if(!vjs w w.jP 0 0)=true then 15 else if(!cOk w)=true then 16 else 0
theorem jaz (w:jo)(h:Few w):zF w=some (wv w):=by
 unfold zF wv
 simp only[jj,jav,uC,po w h.sb,pn w h.sj h.sb,jay w h,jb,jz,jE,ga3,gt_iff_lt]
 repeat' split
 all_goals rfl
theorem jaU (w:jo)(h:Few w):YI w=some (wv w):=by
 unfold YI wv
 simp only[jj,jaP,VZ,pK w h.sb,pJ w h.sj h.sb,jaS w h,jb,jz,jE,ga3,gt_iff_lt]
 repeat' split
 all_goals rfl
def SmB (b:Body):Prop:=b.jf.length<=10000/\∀f∈b.jf,f.Shape.jg.length<=10000
theorem Few.smb {w:jo}(h:Few w):∀b∈w.ji,SmB b:=fun b hb=>⟨Nat.le_trans (h.wx b hb) (by omega),fun f hf=>Nat.le_trans (h.jl b hb f hf) (by omega)⟩
structure SmW (w:jo):Prop where
 ux:w.ji.length<=10000
 Pb:w.jP.length<=10000
 kD:w.jc.length<=10000
 overlaps:w.Overlaps.length<=10000
 points:∀c∈w.jc,c.jt.jY.length<=10000
 body:∀b∈w.ji,SmB b
theorem Few.smw {w:jo}(h:Few w):SmW w:=⟨Nat.le_trans h.ux (by omega),Nat.le_trans h.Pb (by omega),Nat.le_trans h.kD (by omega),Nat.le_trans h.overlaps (by omega),fun c hc=>Nat.le_trans (h.points c hc) (by omega),h.smb⟩
def zeroW:jo:={jH:={YA:=0,yF:={X:=0,Y:=0},JP:=0,JO:=0},ji:=[],jP:=[],jc:=[],Overlaps:=[],yM:=0,Frame:=0}
def fewB (b:Body):Bool:=decide ((b.jf.length:Int)<=8)&&b.jf.all (fun f=>decide ((f.Shape.jg.length:Int)<=20))
def jlD:List Body->Bool
 | []=>true
 |b::t=>if decide ((b.jf.length:Int)>8)=true then false else if b.jf.all (fun f=>decide ((f.Shape.jg.length:Int)<=20))=true then jlD t else false
def few (w:jo):Bool:=decide ((w.jP.length:Int)<=40)&&decide ((w.jc.length:Int)<=80)&&decide ((w.Overlaps.length:Int)<=80)&&(decide ((w.ji.length:Int)<=40)&&w.ji.all fewB)&&w.jc.all (fun c=>decide ((c.jt.jY.length:Int)<=8))
def jjp (s:jH)(n:Int):jo:={jH:=s,ji:=[],jP:=[],jc:=[],Overlaps:=[],yM:=n,Frame:=0}
theorem jih (s:jH)(n:Int):Few (jjp s n):=⟨by unfold jjp;simp,by unfold jjp;simp,by unfold jjp;simp,by unfold jjp;simp,by unfold jjp;simp,by unfold jjp;simp,by unfold jjp;simp⟩
def b9:Body:={ID:=1,Kind:=1,Transform:=⟨⟨0,0⟩,0⟩,jX:=⟨0,0⟩,jm:=0,qu:=⟨0,0⟩,Yq:=0,jR:=0,jJ:=0,jW:=0,QH:=false,Jf:=false,QG:=false,qe:=false,JC:=0,jf:=[]}
def w9:jo:={jH:=⟨1024,⟨0,0⟩,4,60⟩,ji:=[b9],jP:=[],jc:=[],Overlaps:=[],yM:=2,Frame:=0}
theorem veq (a b:Vec):(decide (a.X=b.X)&&decide (a.Y=b.Y))=decide (a=b):=by
 rw[Bool.eq_iff_iff];cases a;cases b;simp
theorem jeq (x y:yP):(decide (x.ID=y.ID)&&(decide (x.Kind=y.Kind)&&(decide (x.JE=y.JE)&&(decide (x.JH=y.JH)&&(decide (x.yN=y.yN)&&(decide (x.Ye=y.Ye)&&(decide (x.Wb=y.Wb)&&(decide (x.Ja=y.Ja)&&(decide (x.Jk=y.Jk)&&(decide (x.kg=y.kg)&&(decide (x.kO=y.kO)&&(decide (x.Jm=y.Jm)&&(decide (x.JY=y.JY)&&(decide (x.YU=y.YU)&&(decide (x.YT=y.YT)&&(decide (x.JZ=y.JZ)&&(decide (x.Jc=y.Jc)&&(decide (x.jD.fst=y.jD.fst)&&(decide (x.jD.snd.fst=y.jD.snd.fst)&&(decide (x.jD.snd.snd.fst=y.jD.snd.snd.fst)&&decide (x.jD.snd.snd.snd=y.jD.snd.snd.snd)))))))))))))))))))))=decide (x=y):=by
 obtain⟨x1,x2,x3,x4,⟨x5,x6⟩,⟨x7,x8⟩,⟨x9,x10⟩,x11,x12,x13,x14,x15,x16,x17,x18,x19,x20,⟨x21,x22,x23,x24⟩⟩:=x
 obtain⟨y1,y2,y3,y4,⟨y5,y6⟩,⟨y7,y8⟩,⟨y9,y10⟩,y11,y12,y13,y14,y15,y16,y17,y18,y19,y20,⟨y21,y22,y23,y24⟩⟩:=y
 rw[Bool.eq_iff_iff];simp[and_assoc]
theorem peq (x y:jS):(decide (x.ve=y.ve)&&(decide (x.Ys=y.Ys)&&(decide (x.ID=y.ID)&&(decide (x.Jt=y.Jt)&&decide (x.Jx=y.Jx)))))=decide (x=y):=by
 obtain⟨⟨x5,x6⟩,x1,x2,x3,x4⟩:=x
 obtain⟨⟨y5,y6⟩,y1,y2,y3,y4⟩:=y
 rw[Bool.eq_iff_iff];simp[and_assoc]
theorem steq (x y:jH):(decide (x.YA=y.YA)&&(decide (x.yF=y.yF)&&(decide (x.JP=y.JP)&&decide (x.JO=y.JO))))=decide (x=y):=by
 obtain⟨x1,⟨x5,x6⟩,x2,x3⟩:=x
 obtain⟨y1,⟨y5,y6⟩,y2,y3⟩:=y
 rw[Bool.eq_iff_iff];simp[and_assoc]
theorem jcr {α:Type}(l m:List α):((l.length:Int) != (m.length:Int)) = !decide (l.length=m.length):=by rw[Bool.eq_iff_iff];simp;omega
theorem WV {α:Type}{p:Prop}[Decidable p](a b:α):(if(!decide p)=true then a else b)=if p then b else a:=by by_cases h:p <;> simp[h]
theorem PV (a b:jt)(h:a.jY.length<=10000):ZP a b=some (decide (a=b)):=by
 obtain⟨an,ap⟩:=a
 obtain⟨bn,bp⟩:=b
 unfold ZP
 simp only[jj,veq,peq,jcr,jE]
 by_cases hl:ap.length=bp.length
 ·rw[show Yg _ fuel (0:Int)=_ from UR ap bp (some true) (some false) _ (vk h (by omega)) hl ?_ ?_]
  ·by_cases h1:an=bn
   ·by_cases h2:ap=bp <;> simp[h1,h2,hl]
   ·simp[h1]
  ·intro r i hw hc hc2 hm
   simp only[dlt hc,if_true,hw,ju hc,ju hc2,WV]
  ·intro r;simp only[dll,ff,if_false]
 ·have:¬ ap=bp:=fun e=>hl (by rw[e])
  simp[hl,this]
theorem Mz (a b:List jC)(h:a.length<=10000):kG a b=some (decide (a=b)):=by
 unfold kG
 simp only[jj,keq,jcr]
 by_cases hl:a.length=b.length
 ·rw[show Yg _ fuel (0:Int)=_ from UR a b (some true) (some false) _ (vk h (by omega)) hl ?_ ?_]
  ·by_cases h2:a=b <;> simp[h2,hl]
  ·intro r i hw hc hc2 hm
   simp only[dlt hc,if_true,hw,ju hc,ju hc2,WV]
  ·intro r;simp only[dll,ff,if_false]
 ·have:¬ a=b:=fun e=>hl (by rw[e])
  simp[hl,this]
theorem fixok {b:Body}(h:SmB b):GoOld.FixOk b:=⟨Nat.le_trans h.1 (by omega),fun f hf=>Nat.le_trans (h.2 f hf) (by omega)⟩
theorem pN (a b:Body)(h:SmB a):zD a b=some (decide (a=b)):=by rw[Uc,GoOld.PU a b (fixok h)]
theorem PT (a b:jo)(h:SmW a):Qj a b=some (decide (a=b)):=by
 obtain⟨a_s,ab,aj,ac,ao,an,af⟩:=a
 obtain⟨b_s,bb,bj,bc,bo,bn,bf⟩:=b
 obtain⟨h1,h2,h3,h4,h5,h6⟩:=h
 dsimp only at h1 h2 h3 h4 h5 h6
 unfold Qj
 simp only[jj,veq,jeq,keq,steq,jcr,jE,Mz ao bo h4,jb,jz,ga3]
 simp only[ne_bne]
 by_cases hb:ab.length=bb.length
 ·by_cases hj:aj.length=bj.length
  ·by_cases hc:ac.length=bc.length
   ·rw[show Yg _ fuel (0:Int)=_ from UR ab bb (if aj=bj then(if ac=bc then some true else some false)else some false) (some false) _ (vk h1 (by omega)) hb ?_ ?_]
    ·by_cases e1:a_s=b_s <;> by_cases e2:an=bn <;> by_cases e3:af=bf <;> by_cases e4:ao=bo <;> by_cases e5:ab=bb <;> by_cases e6:aj=bj <;> by_cases e7:ac=bc <;> simp[e1,e2,e3,e4,e5,e6,e7,hb,hj,hc]
    ·intro r i hw hc hc2 hm
     simp only[dlt hc,if_true,hw,ju hc,ju hc2,pN _ _ (h6 _ hm),jb,WV]
    ·intro r
     simp only[dll,ff,if_false]
     refine UR aj bj (if ac=bc then some true else some false) (some false) _ (vk h2 (by omega)) hj ?_ ?_
     ·intro r i hw hc hc2 hm
      simp only[dlt hc,if_true,hw,ju hc,ju hc2,WV]
     ·intro r
      simp only[dll,ff,if_false]
      refine UR ac bc (some true) (some false) _ (vk h3 (by omega)) hc ?_ ?_
      ·intro r i hw hc hc2 hm
       simp only[dlt hc,if_true,hw,ju hc,ju hc2,ju (fun _=>hc),ju (fun _=>hc2),PV _ _ (h5 _ hm),jb,jz,ga3]
       generalize ix ac (i:Int)=x
       generalize ix bc (i:Int)=y
       obtain⟨xk,xm⟩:=x
       obtain⟨yk,ym⟩:=y
       by_cases e1:xk=yk <;> by_cases e2:xm=ym <;> simp[e1,e2]
      ·intro r;simp only[dll,ff,if_false]
   ·have:¬ ac=bc:=fun e=>hc (by rw[e])
    simp[hc,this]
  ·have:¬ aj=bj:=fun e=>hj (by rw[e])
   simp[hj,this]
 ·have:¬ ab=bb:=fun e=>hb (by rw[e])
  simp[hb,this]
theorem Md:SmW zeroW:=(jih ⟨0,⟨0,0⟩,0,0⟩ 0).smw
end GoForm
end
