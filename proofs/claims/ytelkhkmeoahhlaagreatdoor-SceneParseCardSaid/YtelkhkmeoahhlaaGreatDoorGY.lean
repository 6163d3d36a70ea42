/- Several texts in one. No conditions. -/
import Derived.Test.YtelkhkmeoahhlaaGreatDoorGX
section
set_option linter.all false
set_option maxRecDepth 100000
open Go Go.Rx Go.Proofs Go.RowKit
namespace GoForm
section
variable {W0:World} {x:jo} {sec:Int} {M M':Mem} {bp:Nat} {h0 h1 h2 h3 hF hP:Value} {nF nP:Nat} {xb xj xc xo xf xp:List Value} {w w1 w2:World}
set_option maxHeartbeats 4000000 in
theorem jhv {rest:List (List UInt8)}{vf:Value}(hS:PS W0 x sec M bp h0 h1 h2 h3 hF hP nF nP xb xj xc xo xf xp w)(hr:Rep M jh (jQ ([106,111,105,110,116]::rest)) vf){j:yP}{c:Int}(h:Yt ([106,111,105,110,116]::rest)=some (j,c))(hlen:x.jP.length<1048576):
 Calls Tryz.prog 121 #[.pointer (some ⟨bp,0,none⟩),vf] w fun e w'=>∃ok:Bool,ok=(c==0&&Yw sec 3)/\e=.returned (.bool ok)/\Below W0.heap.size W0 w'/\(ok=true->PX W0 {x with jP:=x.jP++[j]} 3 bp w'):=by
 have kk:=ja6 h hS.o.iM hr
 obtain⟨ad,cap,rfl,hm⟩:=YW hr
 obtain⟨blk,off,rfl,hm2⟩:=hm (by simp)
 have c0:w.cell? ⟨blk,off,none⟩=some (.string ⟨List.toArray [106,111,105,110,116]⟩):=hS.o.iM _ _ _ (hm2 0 _ rfl)
 have HP:Hid (_):=hS
 have hr0:Hid (Rep M jh _ _):=hr
 obtain⟨n,hn⟩:∃n,(([106,111,105,110,116]:List UInt8)::rest).length=n:=⟨_,rfl⟩
 rw[hn]at hr0⊢
 have hn0:(0:Int)<(n:Int):=by rw[<-hn];simp
 have e158:=Tryz.call158
 rw[hn]at kk
 have ek:=Tryz.call25
 obtain⟨iE,a1,a2,a3,a4⟩:=info_parts (P:=Tryz.prog) (e:=75) (z:=.agg je2.toArray) (size:=24) (bytes:=192) (by kernel_rfl)
 have HI:Hid (_/\_/\_/\_):=⟨a1,a2,a3,a4⟩
 clear a1 a2 a3 a4
 have ra:tSz Tryz.prog 75=some 24:=by kernel_rfl
 have HR:Hid (_):=ra
 clear hr hm hm2 hS hn ra h
 by_cases hc:c=0
 ·subst hc
  by_cases ht:Yw sec 3=true
  ·rw[ht]
   go_enter Tryz.func121,Tryz.ntmps121
   go_wp2_with (first
    |(go_at_call 25;refine kk.mono ?_;rintro e w1 ⟨A,M1,rfl,hn,hA,hA1⟩
      have S1:Hid (_/\_/\_):=⟨HP.out.call hn,hA,hA1⟩
      clear hn hA hA1 kk c0)
    |(refine jA (cs:=A) (arr:=je2) rfl rfl rfl rfl rfl (by rw[<-S1.out.2.1.length];exact HR.out) (yy w1 _ _ rfl) (by rw[<-S1.out.2.1.length];exact Nat.le_refl 24) (S1.out.2.2) ?_
      intro w3 hz hg
      have S3:Hid (_/\_):=S1.out.1.made (A:=A) (Z:=je2) (k:=24) (S1.out.2.1.length.symm) rfl hz hg
      clear hz hg)
    |(go_at_call 158;refine(QF (K:=YB x h0 h1 h2 h3) rfl S3.out.1.o.box).mono ?_
      rintro e w4 ⟨rfl,hs1,hs2⟩
      rw[ht]
      have S4:Hid (_/\_):=PS.jjI S3.out (hs2 ht)
      clear hs1 hs2))
   refine yO zJ 12 7 8 (fun i=>137+i) (fun i=>([.pointer (some ⟨bp,0,none⟩),.pointer (some ⟨bp,0,none⟩),.pointer (some ⟨bp,0,none⟩),.pointer (some ⟨bp,0,none⟩),.pointer (some ⟨bp,6,none⟩),h1,.agg (List.toArray A),undef,undef,.pointer (some ⟨bp,0,none⟩),.pointer (some ⟨bp,0,none⟩),.pointer (some ⟨bp,6,none⟩)]:List Value).getD i undef) (fun w'=>w'.heap[bp]? = some (.cells (YB x h0 h1 h2 h3++[Value.int .i64 3]).toArray 147 (0,0))/\w'.heap[w1.heap.size]? = some (.cells (List.toArray A) 75 (0,0))) W0.heap.size 27 75 iE (.agg je2.toArray) 24 192 Tryz.underlying27 HI.out.1 HI.out.2.1 HI.out.2.2.1 HI.out.2.2.2 rfl (by decide) h1 x.jP.length xj A (S4.out.1.o.rows ⟨75,24,x.jP.length,h1,xj⟩ (by simp[jG])) (S1.out.2.1.length.symm) (S1.out.2.2) (by simp[maxLen];omega) (by omega) (S4.out.1.o.bel.size) rfl (zL rfl) (fun i i' _ _ h=>by omega) (by decide) (fun w1 w2 b1 b2=>(⟨(S4.out.1.o.base (r:=⟨75,24,x.jP.length,h1,xj⟩) (by simp[jG]) b1 b2).1,S4.out.2.base (r:=⟨75,24,x.jP.length,h1,xj⟩) (by simp[jG]) b1 b2⟩:_/\_)) ?_ ?_ ?_ ?_
   ·intro i o hi n1 n2 ho
    match i,hi,n1,n2 with
    |0,_,_,_=>
     cases ho
     exact⟨rfl,rfl,by simp,fun a w' hb hd hr=>quiet_move rfl (ev ((hr 0 (by intro i _;show 137+i≠0;omega)).trans rfl))⟩
    |1,_,_,_=>
     cases ho
     exact⟨rfl,rfl,by simp,fun a w' hb hd hr=>quiet_move rfl (ev ((hr 0 (by intro i _;show 137+i≠0;omega)).trans rfl))⟩
    |2,_,_,_=>
     cases ho
     exact⟨rfl,rfl,by simp,fun a w' hb hd hr=>qa rfl (ev (hd ⟨1,.data⟩ (by simp) rfl (by decide) (by decide)))⟩
    |3,_,_,_=>
     cases ho
     exact⟨rfl,rfl,by simp,fun a w' hb hd hr=>jN (fo:=0) rfl (ev (hd ⟨2,.data⟩ (by simp) rfl (by decide) (by decide))) (by kernel_rfl)⟩
    |4,_,_,_=>
     cases ho
     exact⟨rfl,rfl,by simp,fun a w' hb hd hr=>jN (fo:=6) rfl (ev (hd ⟨3,.data⟩ (by simp) rfl (by decide) (by decide))) (by kernel_rfl)⟩
    |5,_,_,_=>
     cases ho
     exact⟨rfl,rfl,by simp,fun a w' hb hd hr=>jF rfl (ev (hd ⟨4,.data⟩ (by simp) rfl (by decide) (by decide))) (by kernel_rfl) (Jq hb.1 6 rfl)⟩
    |6,_,_,_=>
     cases ho
     exact⟨rfl,rfl,by simp,fun a w' hb hd hr=>vw rfl (ev ((hr 12 (by intro i _;show 137+i≠12;omega)).trans rfl)) (by kernel_rfl) (by rw[<-S1.out.2.1.length];exact HR.out) (hb.2)⟩
    |7,_,h,_=>exact absurd rfl h
    |8,_,_,h=>exact absurd rfl h
    |9,_,_,_=>
     cases ho
     exact⟨rfl,rfl,by simp,fun a w' hb hd hr=>qa rfl (ev (hd ⟨0,.data⟩ (by simp) rfl (by decide) (by decide)))⟩
    |10,_,_,_=>
     cases ho
     exact⟨rfl,rfl,by simp,fun a w' hb hd hr=>jN (fo:=0) rfl (ev (hd ⟨9,.data⟩ (by simp) rfl (by decide) (by decide))) (by kernel_rfl)⟩
    |11,_,_,_=>
     cases ho
     exact⟨rfl,rfl,by simp,fun a w' hb hd hr=>jN (fo:=6) rfl (ev (hd ⟨10,.data⟩ (by simp) rfl (by decide) (by decide))) (by kernel_rfl)⟩
    |j+12,h,_,_=>exact absurd h (by omega)
   ·exact⟨_,_,rfl,rfl,rfl,by simp,rfl,fun a hd=>ev (hd ⟨6,.data⟩ (by simp) rfl (by decide) (by decide))⟩
   ·exact⟨_,_,rfl,rfl,rfl,by simp,rfl,⟨⟨7,.data⟩,by simp,rfl,rfl⟩,fun a hd=>ev (hd ⟨5,.data⟩ (by simp) rfl (by decide) (by decide))⟩
   ·refine⟨_,rfl,rfl,fun f h1 h2=>by
     have t11:f 11=true:=h1 ⟨11,.data⟩ (by simp) rfl
     have t8:f 8=true:=h1 ⟨8,.data⟩ (by simp) rfl
     have t0:f 0=true:=h1 ⟨0,.phase⟩ (by simp) rfl
     have t1:f 1=true:=h1 ⟨1,.phase⟩ (by simp) rfl
     have t2:f 2=true:=h1 ⟨2,.phase⟩ (by simp) rfl
     have t3:f 3=true:=h1 ⟨3,.phase⟩ (by simp) rfl
     have t4:f 4=true:=h1 ⟨4,.phase⟩ (by simp) rfl
     have t5:f 5=true:=h1 ⟨5,.phase⟩ (by simp) rfl
     have t6:f 6=true:=h1 ⟨6,.phase⟩ (by simp) rfl
     have t7:f 7=true:=h1 ⟨7,.phase⟩ (by simp) rfl
     have t10:f 10=true:=h2 11 _ rfl t11 ⟨10,.data⟩ (by simp) rfl
     have t9:f 9=true:=h2 10 _ rfl t10 ⟨9,.data⟩ (by simp) rfl
     intro i hi
     match i,hi with
     |0,_=>exact t0
     |1,_=>exact t1
     |2,_=>exact t2
     |3,_=>exact t3
     |4,_=>exact t4
     |5,_=>exact t5
     |6,_=>exact t6
     |7,_=>exact t7
     |8,_=>exact t8
     |9,_=>exact t9
     |10,_=>exact t10
     |11,_=>exact t11
     |j+12,h=>exact absurd h (by omega),?_⟩
    intro v6 w5 w6 a g1 g2 g3 g4 hsz hdf hv hA hr
    have hb:=(⟨(S4.out.1.o.base (r:=⟨75,24,x.jP.length,h1,xj⟩) (by simp[jG]) g1 g2).1,S4.out.2.base (r:=⟨75,24,x.jP.length,h1,xj⟩) (by simp[jG]) g1 g2⟩:_/\_)
    refine Kb rfl rfl (ev (hv 11 (by decide) (by decide) (by decide))) (ev hA) (Yd g3).1 (by kernel_rfl) (Jq hb.1 6 rfl) (kM hb.1 6) (Yd g3).2 ?_
    rename_i hK
    refine hK _ _ (VU rfl rfl rfl rfl ?_)
    simp only[Exit.inBlock,Exit.then]
    refine bodyPost_ret (jkc (fn:=Tryz.f121) rfl (by show 4<a.tmps.size;rw[hsz];simp)) hdf ?_
    have Z:=(S4.out.1.below g1).jis (S1.out.2.1.mono (zc _ _)) g3 g2 g4
    exact⟨true,rfl,rfl,Z.o.bel,fun _=>Z.px⟩
  ·have ht:Yw sec 3=false:=by simpa using ht
   rw[ht]
   go_enter Tryz.func121,Tryz.ntmps121
   go_wp2_with (first
    |(go_at_call 25;refine kk.mono ?_;rintro e w1 ⟨A,M1,rfl,hn,hA,hA1⟩
      have S1:Hid (_/\_/\_):=⟨HP.out.call hn,hA,hA1⟩
      clear hn hA hA1 kk c0)
    |(refine jA (cs:=A) (arr:=je2) rfl rfl rfl rfl rfl (by rw[<-S1.out.2.1.length];exact HR.out) (yy w1 _ _ rfl) (by rw[<-S1.out.2.1.length];exact Nat.le_refl 24) (S1.out.2.2) ?_
      intro w3 hz hg
      have S3:Hid (_/\_):=S1.out.1.made (A:=A) (Z:=je2) (k:=24) (S1.out.2.1.length.symm) rfl hz hg
      clear hz hg)
    |(go_at_call 158;refine(QF (K:=YB x h0 h1 h2 h3) rfl S3.out.1.o.box).mono ?_
      rintro e w4 ⟨rfl,hs1,hs2⟩
      rw[ht]
      have S4:Hid (_):=(hs1 ht ▸ S3.out.1:PS W0 x sec (zr M M1) bp h0 h1 h2 h3 hF hP nF nP xb xj xc xo xf xp w4)
      clear hs1 hs2))
   go_ret
   exact⟨false,rfl,rfl,S4.out.o.bel,by simp⟩
 ·have hc1:(c==0)=false:=by rw[beq_eq_false_iff_ne];exact hc
  rw[hc1]
  go_enter Tryz.func121,Tryz.ntmps121
  go_wp2_with (first
   |(go_at_call 25;refine kk.mono ?_;rintro e w1 ⟨A,M1,rfl,hn,hA,hA1⟩
     have S1:Hid (_/\_/\_):=⟨HP.out.call hn,hA,hA1⟩
     clear hn hA hA1 kk c0)
   |(refine jA (cs:=A) (arr:=je2) rfl rfl rfl rfl rfl (by rw[<-S1.out.2.1.length];exact HR.out) (yy w1 _ _ rfl) (by rw[<-S1.out.2.1.length];exact Nat.le_refl 24) (S1.out.2.2) ?_
     intro w3 hz hg
     have S3:Hid (_/\_):=S1.out.1.made (A:=A) (Z:=je2) (k:=24) (S1.out.2.1.length.symm) rfl hz hg
     clear hz hg))
  go_ret
  exact⟨false,rfl,rfl,S3.out.1.o.bel,by simp⟩
end
section
variable {W0:World} {x:jo} {sec:Int} {M M':Mem} {bp:Nat} {h0 h1 h2 h3 hF hP:Value} {nF nP:Nat} {xb xj xc xo xf xp:List Value} {w w1 w2:World}
set_option maxHeartbeats 4000000 in
theorem ji3 {rest:List (List UInt8)}{vf:Value}(hS:PS W0 x sec M bp h0 h1 h2 h3 hF hP nF nP xb xj xc xo xf xp w)(hr:Rep M jh (jQ ([98,111,100,121]::rest)) vf){b:Body}{c:Int}(h:Ym ([98,111,100,121]::rest)=some (b,c))(hbF:b.jf=[])(hlen:x.ji.length<1048576):
 Calls Tryz.prog 121 #[.pointer (some ⟨bp,0,none⟩),vf] w fun e w'=>∃ok:Bool,ok=(c==0&&Yw sec 2)/\e=.returned (.bool ok)/\Below W0.heap.size W0 w'/\(ok=true->PX W0 {x with ji:=x.ji++[b]} 2 bp w'):=by
 have kk:=jci h hS.o.iM hr
 obtain⟨ad,cap,rfl,hm⟩:=YW hr
 obtain⟨blk,off,rfl,hm2⟩:=hm (by simp)
 have c0:w.cell? ⟨blk,off,none⟩=some (.string ⟨List.toArray [98,111,100,121]⟩):=hS.o.iM _ _ _ (hm2 0 _ rfl)
 have HP:Hid (_):=hS
 have hr0:Hid (Rep M jh _ _):=hr
 obtain⟨n,hn⟩:∃n,(([98,111,100,121]:List UInt8)::rest).length=n:=⟨_,rfl⟩
 rw[hn]at hr0⊢
 have hn0:(0:Int)<(n:Int):=by rw[<-hn];simp
 have e158:=Tryz.call158
 rw[hn]at kk
 have ek:=Tryz.call20
 obtain⟨iE,a1,a2,a3,a4⟩:=info_parts (P:=Tryz.prog) (e:=56) (z:=.agg je6.toArray) (size:=20) (bytes:=152) (by kernel_rfl)
 have HI:Hid (_/\_/\_/\_):=⟨a1,a2,a3,a4⟩
 clear a1 a2 a3 a4
 have ra:tSz Tryz.prog 56=some 20:=by kernel_rfl
 have HR:Hid (_):=ra
 clear hr hm hm2 hS hn ra h
 by_cases hc:c=0
 ·subst hc
  by_cases ht:Yw sec 2=true
  ·rw[ht]
   go_enter Tryz.func121,Tryz.ntmps121
   go_wp2_with (first
    |(go_at_call 20;refine kk.mono ?_;rintro e w1 ⟨rfl,hn⟩
      have S1:Hid (_):=HP.out.below hn
      clear hn kk c0)
    |(refine jA (cs:=(UK b (.slice none 0 0))) (arr:=je6) rfl rfl rfl rfl rfl (by exact HR.out) (yy w1 _ _ rfl) (by exact Nat.le_refl 20) (ua b rfl) ?_
      intro w3 hz hg
      have S3:Hid (_/\_):=S1.out.made (A:=(UK b (.slice none 0 0))) (Z:=je6) (k:=20) (rfl) rfl hz hg
      clear hz hg)
    |(go_at_call 158;refine(QF (K:=YB x h0 h1 h2 h3) rfl S3.out.1.o.box).mono ?_
      rintro e w4 ⟨rfl,hs1,hs2⟩
      rw[ht]
      have S4:Hid (_/\_):=PS.jjI S3.out (hs2 ht)
      clear hs1 hs2))
   refine yO zJ 12 7 8 (fun i=>72+i) (fun i=>([.pointer (some ⟨bp,0,none⟩),.pointer (some ⟨bp,0,none⟩),.pointer (some ⟨bp,0,none⟩),.pointer (some ⟨bp,0,none⟩),.pointer (some ⟨bp,5,none⟩),h0,.agg (List.toArray (UK b (.slice none 0 0))),undef,undef,.pointer (some ⟨bp,0,none⟩),.pointer (some ⟨bp,0,none⟩),.pointer (some ⟨bp,5,none⟩)]:List Value).getD i undef) (fun w'=>w'.heap[bp]? = some (.cells (YB x h0 h1 h2 h3++[Value.int .i64 2]).toArray 147 (0,0))/\w'.heap[w1.heap.size]? = some (.cells (List.toArray (UK b (.slice none 0 0))) 56 (0,0))) W0.heap.size 26 56 iE (.agg je6.toArray) 20 152 Tryz.underlying26 HI.out.1 HI.out.2.1 HI.out.2.2.1 HI.out.2.2.2 rfl (by decide) h0 x.ji.length xb (UK b (.slice none 0 0)) (S4.out.1.o.rows ⟨56,20,x.ji.length,h0,xb⟩ (by simp[jG])) (rfl) (ua b rfl) (by simp[maxLen];omega) (by omega) (S4.out.1.o.bel.size) rfl (zL rfl) (fun i i' _ _ h=>by omega) (by decide) (fun w1 w2 b1 b2=>(⟨(S4.out.1.o.base (r:=⟨56,20,x.ji.length,h0,xb⟩) (by simp[jG]) b1 b2).1,S4.out.2.base (r:=⟨56,20,x.ji.length,h0,xb⟩) (by simp[jG]) b1 b2⟩:_/\_)) ?_ ?_ ?_ ?_
   ·intro i o hi n1 n2 ho
    match i,hi,n1,n2 with
    |0,_,_,_=>
     cases ho
     exact⟨rfl,rfl,by simp,fun a w' hb hd hr=>quiet_move rfl (ev ((hr 0 (by intro i _;show 72+i≠0;omega)).trans rfl))⟩
    |1,_,_,_=>
     cases ho
     exact⟨rfl,rfl,by simp,fun a w' hb hd hr=>quiet_move rfl (ev ((hr 0 (by intro i _;show 72+i≠0;omega)).trans rfl))⟩
    |2,_,_,_=>
     cases ho
     exact⟨rfl,rfl,by simp,fun a w' hb hd hr=>qa rfl (ev (hd ⟨1,.data⟩ (by simp) rfl (by decide) (by decide)))⟩
    |3,_,_,_=>
     cases ho
     exact⟨rfl,rfl,by simp,fun a w' hb hd hr=>jN (fo:=0) rfl (ev (hd ⟨2,.data⟩ (by simp) rfl (by decide) (by decide))) (by kernel_rfl)⟩
    |4,_,_,_=>
     cases ho
     exact⟨rfl,rfl,by simp,fun a w' hb hd hr=>jN (fo:=5) rfl (ev (hd ⟨3,.data⟩ (by simp) rfl (by decide) (by decide))) (by kernel_rfl)⟩
    |5,_,_,_=>
     cases ho
     exact⟨rfl,rfl,by simp,fun a w' hb hd hr=>jF rfl (ev (hd ⟨4,.data⟩ (by simp) rfl (by decide) (by decide))) (by kernel_rfl) (Jq hb.1 5 rfl)⟩
    |6,_,_,_=>
     cases ho
     exact⟨rfl,rfl,by simp,fun a w' hb hd hr=>vw rfl (ev ((hr 7 (by intro i _;show 72+i≠7;omega)).trans rfl)) (by kernel_rfl) (by exact HR.out) (hb.2)⟩
    |7,_,h,_=>exact absurd rfl h
    |8,_,_,h=>exact absurd rfl h
    |9,_,_,_=>
     cases ho
     exact⟨rfl,rfl,by simp,fun a w' hb hd hr=>qa rfl (ev (hd ⟨0,.data⟩ (by simp) rfl (by decide) (by decide)))⟩
    |10,_,_,_=>
     cases ho
     exact⟨rfl,rfl,by simp,fun a w' hb hd hr=>jN (fo:=0) rfl (ev (hd ⟨9,.data⟩ (by simp) rfl (by decide) (by decide))) (by kernel_rfl)⟩
    |11,_,_,_=>
     cases ho
     exact⟨rfl,rfl,by simp,fun a w' hb hd hr=>jN (fo:=5) rfl (ev (hd ⟨10,.data⟩ (by simp) rfl (by decide) (by decide))) (by kernel_rfl)⟩
    |j+12,h,_,_=>exact absurd h (by omega)
   ·exact⟨_,_,rfl,rfl,rfl,by simp,rfl,fun a hd=>ev (hd ⟨6,.data⟩ (by simp) rfl (by decide) (by decide))⟩
   ·exact⟨_,_,rfl,rfl,rfl,by simp,rfl,⟨⟨7,.data⟩,by simp,rfl,rfl⟩,fun a hd=>ev (hd ⟨5,.data⟩ (by simp) rfl (by decide) (by decide))⟩
   ·refine⟨_,rfl,rfl,fun f h1 h2=>by
     have t11:f 11=true:=h1 ⟨11,.data⟩ (by simp) rfl
     have t8:f 8=true:=h1 ⟨8,.data⟩ (by simp) rfl
     have t0:f 0=true:=h1 ⟨0,.phase⟩ (by simp) rfl
     have t1:f 1=true:=h1 ⟨1,.phase⟩ (by simp) rfl
     have t2:f 2=true:=h1 ⟨2,.phase⟩ (by simp) rfl
     have t3:f 3=true:=h1 ⟨3,.phase⟩ (by simp) rfl
     have t4:f 4=true:=h1 ⟨4,.phase⟩ (by simp) rfl
     have t5:f 5=true:=h1 ⟨5,.phase⟩ (by simp) rfl
     have t6:f 6=true:=h1 ⟨6,.phase⟩ (by simp) rfl
     have t7:f 7=true:=h1 ⟨7,.phase⟩ (by simp) rfl
     have t10:f 10=true:=h2 11 _ rfl t11 ⟨10,.data⟩ (by simp) rfl
     have t9:f 9=true:=h2 10 _ rfl t10 ⟨9,.data⟩ (by simp) rfl
     intro i hi
     match i,hi with
     |0,_=>exact t0
     |1,_=>exact t1
     |2,_=>exact t2
     |3,_=>exact t3
     |4,_=>exact t4
     |5,_=>exact t5
     |6,_=>exact t6
     |7,_=>exact t7
     |8,_=>exact t8
     |9,_=>exact t9
     |10,_=>exact t10
     |11,_=>exact t11
     |j+12,h=>exact absurd h (by omega),?_⟩
    intro v6 w5 w6 a g1 g2 g3 g4 hsz hdf hv hA hr
    have hb:=(⟨(S4.out.1.o.base (r:=⟨56,20,x.ji.length,h0,xb⟩) (by simp[jG]) g1 g2).1,S4.out.2.base (r:=⟨56,20,x.ji.length,h0,xb⟩) (by simp[jG]) g1 g2⟩:_/\_)
    refine Kb rfl rfl (ev (hv 11 (by decide) (by decide) (by decide))) (ev hA) (Yd g3).1 (by kernel_rfl) (Jq hb.1 5 rfl) (kM hb.1 5) (Yd g3).2 ?_
    rename_i hK
    refine hK _ _ (VU rfl rfl rfl rfl ?_)
    simp only[Exit.inBlock,Exit.then]
    refine bodyPost_ret (jkc (fn:=Tryz.f121) rfl (by show 4<a.tmps.size;rw[hsz];simp)) hdf ?_
    have Z:=(S4.out.1.below g1).body hbF g3 g2 g4
    exact⟨true,rfl,rfl,Z.o.bel,fun _=>Z.px⟩
  ·have ht:Yw sec 2=false:=by simpa using ht
   rw[ht]
   go_enter Tryz.func121,Tryz.ntmps121
   go_wp2_with (first
    |(go_at_call 20;refine kk.mono ?_;rintro e w1 ⟨rfl,hn⟩
      have S1:Hid (_):=HP.out.below hn
      clear hn kk c0)
    |(refine jA (cs:=(UK b (.slice none 0 0))) (arr:=je6) rfl rfl rfl rfl rfl (by exact HR.out) (yy w1 _ _ rfl) (by exact Nat.le_refl 20) (ua b rfl) ?_
      intro w3 hz hg
      have S3:Hid (_/\_):=S1.out.made (A:=(UK b (.slice none 0 0))) (Z:=je6) (k:=20) (rfl) rfl hz hg
      clear hz hg)
    |(go_at_call 158;refine(QF (K:=YB x h0 h1 h2 h3) rfl S3.out.1.o.box).mono ?_
      rintro e w4 ⟨rfl,hs1,hs2⟩
      rw[ht]
      have S4:Hid (_):=(hs1 ht ▸ S3.out.1:PS W0 x sec M bp h0 h1 h2 h3 hF hP nF nP xb xj xc xo xf xp w4)
      clear hs1 hs2))
   go_ret
   exact⟨false,rfl,rfl,S4.out.o.bel,by simp⟩
 ·have hc1:(c==0)=false:=by rw[beq_eq_false_iff_ne];exact hc
  rw[hc1]
  go_enter Tryz.func121,Tryz.ntmps121
  go_wp2_with (first
   |(go_at_call 20;refine kk.mono ?_;rintro e w1 ⟨rfl,hn⟩
     have S1:Hid (_):=HP.out.below hn
     clear hn kk c0)
   |(refine jA (cs:=(UK b (.slice none 0 0))) (arr:=je6) rfl rfl rfl rfl rfl (by exact HR.out) (yy w1 _ _ rfl) (by exact Nat.le_refl 20) (ua b rfl) ?_
     intro w3 hz hg
     have S3:Hid (_/\_):=S1.out.made (A:=(UK b (.slice none 0 0))) (Z:=je6) (k:=20) (rfl) rfl hz hg
     clear hz hg))
  go_ret
  exact⟨false,rfl,rfl,S3.out.1.o.bel,by simp⟩
end
section
variable {W0:World} {x:jo} {sec:Int} {M M':Mem} {bp:Nat} {h0 h1 h2 h3 hF hP:Value} {nF nP:Nat} {xb xj xc xo xf xp:List Value} {w w1 w2:World}
set_option maxHeartbeats 4000000 in
theorem jcY {rest:List (List UInt8)}{vf:Value}(hS:PS W0 x sec M bp h0 h1 h2 h3 hF hP nF nP xb xj xc xo xf xp w)(hr:Rep M jh (jQ ([99,111,110,116,97,99,116]::rest)) vf){l:List Int}{ok1:Bool}(h:jZ ([99,111,110,116,97,99,116]::rest) 6=some (l,ok1))(hl:ok1=true->l.length=6)(hlen:x.jc.length<1048576):
 Calls Tryz.prog 159 #[.pointer (some ⟨bp,0,none⟩),vf] w fun e w'=>∃ok:Bool,ok=(ok1&&Yw sec 4)/\e=.returned (.bool ok)/\Below W0.heap.size W0 w'/\(ok=true->PX W0 {x with jc:=x.jc++[Qv l]} 4 bp w'):=by
 obtain⟨ad,cap,rfl,hm⟩:=YW hr
 obtain⟨blk,off,rfl,hm2⟩:=hm (by simp)
 have c0:w.cell? ⟨blk,off,none⟩=some (.string ⟨List.toArray [99,111,110,116,97,99,116]⟩):=hS.o.iM _ _ _ (hm2 0 _ rfl)
 have HP:Hid (_):=hS
 have hr0:Hid (Rep M jh _ _):=hr
 obtain⟨n,hn⟩:∃n,(([99,111,110,116,97,99,116]:List UInt8)::rest).length=n:=⟨_,rfl⟩
 rw[hn]at hr0⊢
 have hn0:(0:Int)<(n:Int):=by rw[<-hn];simp
 have e158:=Tryz.call158
 have ek:=Tryz.call157
 obtain⟨iE,a1,a2,a3,a4⟩:=info_parts (P:=Tryz.prog) (e:=88) (z:=.agg conZ.toArray) (size:=7) (bytes:=72) (by kernel_rfl)
 have HI:Hid (_/\_/\_/\_):=⟨a1,a2,a3,a4⟩
 clear a1 a2 a3 a4
 cases ok1 with
 |true=>
  have hl2:=hl rfl
  have kk:=WU h hl2 (by decide) HP.out.o.iM hr0.out
  obtain⟨a0,a1,a2,a3,a4,a5,rfl⟩:=len6 hl2
  clear hr hm hm2 hS hn h hl hl2
  by_cases ht:Yw sec 4=true
  ·rw[ht]
   go_enter Tryz.func159,Tryz.ntmps159
   go_wp2_with (first
    |(go_at_call 157;refine kk.mono ?_;rintro e w1 ⟨ib,io,ic,M1,rfl,hn,hv⟩
      have S1:Hid (_):=HP.out.call hn
      have HV:Hid (_):=hv
      clear hn hv kk c0)
    |(go_at_call 158;refine(QF (K:=YB x h0 h1 h2 h3) rfl S1.out.o.box).mono ?_
      rintro e w4 ⟨rfl,hs1,hs2⟩
      rw[ht]
      have S4:Hid (_):=PS.jgU S1.out (hs2 ht)
      clear hs1 hs2))
   refine yO zJ 33 28 29 (fun i=>29+i) (fun i=>([.pointer (some ⟨bp,0,none⟩),.pointer (some ⟨bp,0,none⟩),.pointer (some ⟨bp,0,none⟩),.pointer (some ⟨bp,0,none⟩),.pointer (some ⟨bp,7,none⟩),h2,.slice (some ⟨ib,io,none⟩) 6 ic,.pointer (some ⟨ib,io+0,none⟩),.int .i64 a0,.slice (some ⟨ib,io,none⟩) 6 ic,.pointer (some ⟨ib,io+1,none⟩),.int .i64 a1,.slice (some ⟨ib,io,none⟩) 6 ic,.pointer (some ⟨ib,io+2,none⟩),.int .i64 a2,.slice (some ⟨ib,io,none⟩) 6 ic,.pointer (some ⟨ib,io+3,none⟩),.int .i64 a3,.agg (List.toArray [.int .i64 a0,.int .i64 a1,.int .i64 a2,.int .i64 a3]),.slice (some ⟨ib,io,none⟩) 6 ic,.pointer (some ⟨ib,io+4,none⟩),.int .i64 a4,.slice (some ⟨ib,io,none⟩) 6 ic,.pointer (some ⟨ib,io+5,none⟩),.int .i64 a5,.agg (List.toArray [.int .i64 a4,.int .i64 a5]),.agg (List.toArray [.int .i64 a4,.int .i64 a5,.slice none 0 0]),.agg (List.toArray [.int .i64 a0,.int .i64 a1,.int .i64 a2,.int .i64 a3,.int .i64 a4,.int .i64 a5,.slice none 0 0]),undef,undef,.pointer (some ⟨bp,0,none⟩),.pointer (some ⟨bp,0,none⟩),.pointer (some ⟨bp,7,none⟩)]:List Value).getD i undef) (fun w'=>w'.heap[bp]? = some (.cells (YB x h0 h1 h2 h3++[Value.int .i64 4]).toArray 147 (0,0))/\Imm (zr M M1) w') W0.heap.size 28 88 iE (.agg conZ.toArray) 7 72 Tryz.underlying28 HI.out.1 HI.out.2.1 HI.out.2.2.1 HI.out.2.2.2 rfl (by decide) h2 x.jc.length xc (je5 (Qv [a0,a1,a2,a3,a4,a5]) (.slice none 0 0)) (S4.out.o.rows ⟨88,7,x.jc.length,h2,xc⟩ (by simp[jG])) (rfl) (jdN (Qv [a0,a1,a2,a3,a4,a5]) rfl) (by simp[maxLen];omega) (by omega) (S4.out.o.bel.size) rfl (zL rfl) (fun i i' _ _ h=>by omega) (by decide) (fun w1 w2 b1 b2=>(S4.out.o.base (r:=⟨88,7,x.jc.length,h2,xc⟩) (by simp[jG]) b1 b2)) ?_ ?_ ?_ ?_
   ·intro i o hi n1 n2 ho
    match i,hi,n1,n2 with
    |0,_,_,_=>
     cases ho
     exact⟨rfl,rfl,by simp,fun a w' hb hd hr=>quiet_move rfl (ev ((hr 0 (by intro i _;show 29+i≠0;omega)).trans rfl))⟩
    |1,_,_,_=>
     cases ho
     exact⟨rfl,rfl,by simp,fun a w' hb hd hr=>quiet_move rfl (ev ((hr 0 (by intro i _;show 29+i≠0;omega)).trans rfl))⟩
    |2,_,_,_=>
     cases ho
     exact⟨rfl,rfl,by simp,fun a w' hb hd hr=>qa rfl (ev (hd ⟨1,.data⟩ (by simp) rfl (by decide) (by decide)))⟩
    |3,_,_,_=>
     cases ho
     exact⟨rfl,rfl,by simp,fun a w' hb hd hr=>jN (fo:=0) rfl (ev (hd ⟨2,.data⟩ (by simp) rfl (by decide) (by decide))) (by kernel_rfl)⟩
    |4,_,_,_=>
     cases ho
     exact⟨rfl,rfl,by simp,fun a w' hb hd hr=>jN (fo:=7) rfl (ev (hd ⟨3,.data⟩ (by simp) rfl (by decide) (by decide))) (by kernel_rfl)⟩
    |5,_,_,_=>
     cases ho
     exact⟨rfl,rfl,by simp,fun a w' hb hd hr=>jF rfl (ev (hd ⟨4,.data⟩ (by simp) rfl (by decide) (by decide))) (by kernel_rfl) (Jq hb.1 7 rfl)⟩
    |6,_,_,_=>
     cases ho
     exact⟨rfl,rfl,by simp,fun a w' hb hd hr=>quiet_move rfl (ev ((hr 5 (by intro i _;show 29+i≠5;omega)).trans rfl))⟩
    |7,_,_,_=>
     cases ho
     exact⟨rfl,rfl,by simp,fun a w' hb hd hr=>Jb (i:=0) (sz:=1) rfl (ev (hd ⟨6,.data⟩ (by simp) rfl (by decide) (by decide))) (by exact rfl) (by kernel_rfl) (by decide) (by decide)⟩
    |8,_,_,_=>
     cases ho
     exact⟨rfl,rfl,by simp,fun a w' hb hd hr=>jF rfl (ev (hd ⟨7,.data⟩ (by simp) rfl (by decide) (by decide))) (by kernel_rfl) (hb.2 _ _ _ (HV.out 0 _ rfl))⟩
    |9,_,_,_=>
     cases ho
     exact⟨rfl,rfl,by simp,fun a w' hb hd hr=>quiet_move rfl (ev ((hr 5 (by intro i _;show 29+i≠5;omega)).trans rfl))⟩
    |10,_,_,_=>
     cases ho
     exact⟨rfl,rfl,by simp,fun a w' hb hd hr=>Jb (i:=1) (sz:=1) rfl (ev (hd ⟨9,.data⟩ (by simp) rfl (by decide) (by decide))) (by exact rfl) (by kernel_rfl) (by decide) (by decide)⟩
    |11,_,_,_=>
     cases ho
     exact⟨rfl,rfl,by simp,fun a w' hb hd hr=>jF rfl (ev (hd ⟨10,.data⟩ (by simp) rfl (by decide) (by decide))) (by kernel_rfl) (hb.2 _ _ _ (HV.out 1 _ rfl))⟩
    |12,_,_,_=>
     cases ho
     exact⟨rfl,rfl,by simp,fun a w' hb hd hr=>quiet_move rfl (ev ((hr 5 (by intro i _;show 29+i≠5;omega)).trans rfl))⟩
    |13,_,_,_=>
     cases ho
     exact⟨rfl,rfl,by simp,fun a w' hb hd hr=>Jb (i:=2) (sz:=1) rfl (ev (hd ⟨12,.data⟩ (by simp) rfl (by decide) (by decide))) (by exact rfl) (by kernel_rfl) (by decide) (by decide)⟩
    |14,_,_,_=>
     cases ho
     exact⟨rfl,rfl,by simp,fun a w' hb hd hr=>jF rfl (ev (hd ⟨13,.data⟩ (by simp) rfl (by decide) (by decide))) (by kernel_rfl) (hb.2 _ _ _ (HV.out 2 _ rfl))⟩
    |15,_,_,_=>
     cases ho
     exact⟨rfl,rfl,by simp,fun a w' hb hd hr=>quiet_move rfl (ev ((hr 5 (by intro i _;show 29+i≠5;omega)).trans rfl))⟩
    |16,_,_,_=>
     cases ho
     exact⟨rfl,rfl,by simp,fun a w' hb hd hr=>Jb (i:=3) (sz:=1) rfl (ev (hd ⟨15,.data⟩ (by simp) rfl (by decide) (by decide))) (by exact rfl) (by kernel_rfl) (by decide) (by decide)⟩
    |17,_,_,_=>
     cases ho
     exact⟨rfl,rfl,by simp,fun a w' hb hd hr=>jF rfl (ev (hd ⟨16,.data⟩ (by simp) rfl (by decide) (by decide))) (by kernel_rfl) (hb.2 _ _ _ (HV.out 3 _ rfl))⟩
    |18,_,_,_=>
     cases ho
     exact⟨rfl,rfl,by simp,fun a w' hb hd hr=>qb (parts:=[(0,.int .i64 a0),(1,.int .i64 a1),(2,.int .i64 a2),(3,.int .i64 a3)]) rfl (by simp;exact⟨ev (hd ⟨8,.data⟩ (by simp) rfl (by decide) (by decide)),ev (hd ⟨11,.data⟩ (by simp) rfl (by decide) (by decide)),ev (hd ⟨14,.data⟩ (by simp) rfl (by decide) (by decide)),ev (hd ⟨17,.data⟩ (by simp) rfl (by decide) (by decide))⟩) (by kernel_rfl)⟩
    |19,_,_,_=>
     cases ho
     exact⟨rfl,rfl,by simp,fun a w' hb hd hr=>quiet_move rfl (ev ((hr 5 (by intro i _;show 29+i≠5;omega)).trans rfl))⟩
    |20,_,_,_=>
     cases ho
     exact⟨rfl,rfl,by simp,fun a w' hb hd hr=>Jb (i:=4) (sz:=1) rfl (ev (hd ⟨19,.data⟩ (by simp) rfl (by decide) (by decide))) (by exact rfl) (by kernel_rfl) (by decide) (by decide)⟩
    |21,_,_,_=>
     cases ho
     exact⟨rfl,rfl,by simp,fun a w' hb hd hr=>jF rfl (ev (hd ⟨20,.data⟩ (by simp) rfl (by decide) (by decide))) (by kernel_rfl) (hb.2 _ _ _ (HV.out 4 _ rfl))⟩
    |22,_,_,_=>
     cases ho
     exact⟨rfl,rfl,by simp,fun a w' hb hd hr=>quiet_move rfl (ev ((hr 5 (by intro i _;show 29+i≠5;omega)).trans rfl))⟩
    |23,_,_,_=>
     cases ho
     exact⟨rfl,rfl,by simp,fun a w' hb hd hr=>Jb (i:=5) (sz:=1) rfl (ev (hd ⟨22,.data⟩ (by simp) rfl (by decide) (by decide))) (by exact rfl) (by kernel_rfl) (by decide) (by decide)⟩
    |24,_,_,_=>
     cases ho
     exact⟨rfl,rfl,by simp,fun a w' hb hd hr=>jF rfl (ev (hd ⟨23,.data⟩ (by simp) rfl (by decide) (by decide))) (by kernel_rfl) (hb.2 _ _ _ (HV.out 5 _ rfl))⟩
    |25,_,_,_=>
     cases ho
     exact⟨rfl,rfl,by simp,fun a w' hb hd hr=>qb (parts:=[(0,.int .i64 a4),(1,.int .i64 a5)]) rfl (by simp;exact⟨ev (hd ⟨21,.data⟩ (by simp) rfl (by decide) (by decide)),ev (hd ⟨24,.data⟩ (by simp) rfl (by decide) (by decide))⟩) (by kernel_rfl)⟩
    |26,_,_,_=>
     cases ho
     exact⟨rfl,rfl,by simp,fun a w' hb hd hr=>qb (parts:=[(0,.agg (List.toArray [.int .i64 a4,.int .i64 a5]))]) rfl (by simp;exact ev (hd ⟨25,.data⟩ (by simp) rfl (by decide) (by decide))) (by kernel_rfl)⟩
    |27,_,_,_=>
     cases ho
     exact⟨rfl,rfl,by simp,fun a w' hb hd hr=>qb (parts:=[(0,.agg (List.toArray [.int .i64 a0,.int .i64 a1,.int .i64 a2,.int .i64 a3])),(1,.agg (List.toArray [.int .i64 a4,.int .i64 a5,.slice none 0 0]))]) rfl (by simp;exact⟨ev (hd ⟨18,.data⟩ (by simp) rfl (by decide) (by decide)),ev (hd ⟨26,.data⟩ (by simp) rfl (by decide) (by decide))⟩) (by kernel_rfl)⟩
    |28,_,h,_=>exact absurd rfl h
    |29,_,_,h=>exact absurd rfl h
    |30,_,_,_=>
     cases ho
     exact⟨rfl,rfl,by simp,fun a w' hb hd hr=>qa rfl (ev (hd ⟨0,.data⟩ (by simp) rfl (by decide) (by decide)))⟩
    |31,_,_,_=>
     cases ho
     exact⟨rfl,rfl,by simp,fun a w' hb hd hr=>jN (fo:=0) rfl (ev (hd ⟨30,.data⟩ (by simp) rfl (by decide) (by decide))) (by kernel_rfl)⟩
    |32,_,_,_=>
     cases ho
     exact⟨rfl,rfl,by simp,fun a w' hb hd hr=>jN (fo:=7) rfl (ev (hd ⟨31,.data⟩ (by simp) rfl (by decide) (by decide))) (by kernel_rfl)⟩
    |j+33,h,_,_=>exact absurd h (by omega)
   ·exact⟨_,_,rfl,rfl,rfl,by simp,rfl,fun a hd=>ev (hd ⟨27,.data⟩ (by simp) rfl (by decide) (by decide))⟩
   ·exact⟨_,_,rfl,rfl,rfl,by simp,rfl,⟨⟨28,.data⟩,by simp,rfl,rfl⟩,fun a hd=>ev (hd ⟨5,.data⟩ (by simp) rfl (by decide) (by decide))⟩
   ·refine⟨_,rfl,rfl,fun f h1 h2=>by
     have t32:f 32=true:=h1 ⟨32,.data⟩ (by simp) rfl
     have t29:f 29=true:=h1 ⟨29,.data⟩ (by simp) rfl
     have t0:f 0=true:=h1 ⟨0,.phase⟩ (by simp) rfl
     have t1:f 1=true:=h1 ⟨1,.phase⟩ (by simp) rfl
     have t2:f 2=true:=h1 ⟨2,.phase⟩ (by simp) rfl
     have t3:f 3=true:=h1 ⟨3,.phase⟩ (by simp) rfl
     have t4:f 4=true:=h1 ⟨4,.phase⟩ (by simp) rfl
     have t5:f 5=true:=h1 ⟨5,.phase⟩ (by simp) rfl
     have t6:f 6=true:=h1 ⟨6,.phase⟩ (by simp) rfl
     have t7:f 7=true:=h1 ⟨7,.phase⟩ (by simp) rfl
     have t8:f 8=true:=h1 ⟨8,.phase⟩ (by simp) rfl
     have t9:f 9=true:=h1 ⟨9,.phase⟩ (by simp) rfl
     have t10:f 10=true:=h1 ⟨10,.phase⟩ (by simp) rfl
     have t11:f 11=true:=h1 ⟨11,.phase⟩ (by simp) rfl
     have t12:f 12=true:=h1 ⟨12,.phase⟩ (by simp) rfl
     have t13:f 13=true:=h1 ⟨13,.phase⟩ (by simp) rfl
     have t14:f 14=true:=h1 ⟨14,.phase⟩ (by simp) rfl
     have t15:f 15=true:=h1 ⟨15,.phase⟩ (by simp) rfl
     have t16:f 16=true:=h1 ⟨16,.phase⟩ (by simp) rfl
     have t17:f 17=true:=h1 ⟨17,.phase⟩ (by simp) rfl
     have t18:f 18=true:=h1 ⟨18,.phase⟩ (by simp) rfl
     have t19:f 19=true:=h1 ⟨19,.phase⟩ (by simp) rfl
     have t20:f 20=true:=h1 ⟨20,.phase⟩ (by simp) rfl
     have t21:f 21=true:=h1 ⟨21,.phase⟩ (by simp) rfl
     have t22:f 22=true:=h1 ⟨22,.phase⟩ (by simp) rfl
     have t23:f 23=true:=h1 ⟨23,.phase⟩ (by simp) rfl
     have t24:f 24=true:=h1 ⟨24,.phase⟩ (by simp) rfl
     have t25:f 25=true:=h1 ⟨25,.phase⟩ (by simp) rfl
     have t26:f 26=true:=h1 ⟨26,.phase⟩ (by simp) rfl
     have t27:f 27=true:=h1 ⟨27,.phase⟩ (by simp) rfl
     have t28:f 28=true:=h1 ⟨28,.phase⟩ (by simp) rfl
     have t31:f 31=true:=h2 32 _ rfl t32 ⟨31,.data⟩ (by simp) rfl
     have t30:f 30=true:=h2 31 _ rfl t31 ⟨30,.data⟩ (by simp) rfl
     intro i hi
     match i,hi with
     |0,_=>exact t0
     |1,_=>exact t1
     |2,_=>exact t2
     |3,_=>exact t3
     |4,_=>exact t4
     |5,_=>exact t5
     |6,_=>exact t6
     |7,_=>exact t7
     |8,_=>exact t8
     |9,_=>exact t9
     |10,_=>exact t10
     |11,_=>exact t11
     |12,_=>exact t12
     |13,_=>exact t13
     |14,_=>exact t14
     |15,_=>exact t15
     |16,_=>exact t16
     |17,_=>exact t17
     |18,_=>exact t18
     |19,_=>exact t19
     |20,_=>exact t20
     |21,_=>exact t21
     |22,_=>exact t22
     |23,_=>exact t23
     |24,_=>exact t24
     |25,_=>exact t25
     |26,_=>exact t26
     |27,_=>exact t27
     |28,_=>exact t28
     |29,_=>exact t29
     |30,_=>exact t30
     |31,_=>exact t31
     |32,_=>exact t32
     |j+33,h=>exact absurd h (by omega),?_⟩
    intro v6 w5 w6 a g1 g2 g3 g4 hsz hdf hv hA hr
    have hb:=(S4.out.o.base (r:=⟨88,7,x.jc.length,h2,xc⟩) (by simp[jG]) g1 g2)
    refine Kb rfl rfl (ev (hv 32 (by decide) (by decide) (by decide))) (ev hA) (Yd g3).1 (by kernel_rfl) (Jq hb.1 7 rfl) (kM hb.1 7) (Yd g3).2 ?_
    rename_i hK
    refine hK _ _ (VU rfl rfl rfl rfl ?_)
    simp only[Exit.inBlock,Exit.then]
    refine bodyPost_ret (jkc (fn:=Tryz.f159) rfl (by show 4<a.tmps.size;rw[hsz];simp)) hdf ?_
    have Z:=(S4.out.below g1).jag (b:=Qv [a0,a1,a2,a3,a4,a5]) rfl g3 g2 g4
    exact⟨true,rfl,rfl,Z.o.bel,fun _=>Z.px⟩
  ·have ht:Yw sec 4=false:=by simpa using ht
   rw[ht]
   go_enter Tryz.func159,Tryz.ntmps159
   go_wp2_with (first
    |(go_at_call 157;refine kk.mono ?_;rintro e w1 ⟨ib,io,ic,M1,rfl,hn,hv⟩
      have S1:Hid (_):=HP.out.call hn
      have HV:Hid (_):=hv
      clear hn hv kk c0)
    |(go_at_call 158;refine(QF (K:=YB x h0 h1 h2 h3) rfl S1.out.o.box).mono ?_
      rintro e w4 ⟨rfl,hs1,hs2⟩
      rw[ht]
      have S4:Hid (_):=(hs1 ht ▸ S1.out:PS W0 x sec (zr M M1) bp h0 h1 h2 h3 hF hP nF nP xb xj xc xo xf xp w4)
      clear hs1 hs2))
   go_ret
   exact⟨false,rfl,rfl,S4.out.o.bel,by simp⟩
 |false=>
  have kk:=ZE h HP.out.o.iM hr0.out
  clear hr hm hm2 hS hn h hl
  go_enter Tryz.func159,Tryz.ntmps159
  go_wp2_with (first
   |(go_at_call 157;refine kk.mono ?_;rintro e w1 ⟨u,M1,rfl,hn,hv⟩
     have S1:Hid (_):=HP.out.call hn
     clear hn hv kk c0))
  go_ret
  exact⟨false,rfl,rfl,S1.out.o.bel,by simp⟩
end
section
variable {W0:World} {x:jo} {sec:Int} {M M':Mem} {bp:Nat} {h0 h1 h2 h3 hF hP:Value} {nF nP:Nat} {xb xj xc xo xf xp:List Value} {w w1 w2:World}
set_option maxHeartbeats 4000000 in
theorem jcX {rest:List (List UInt8)}{vf:Value}(hS:PS W0 x sec M bp h0 h1 h2 h3 hF hP nF nP xb xj xc xo xf xp w)(hr:Rep M jh (jQ ([111,118,101,114,108,97,112]::rest)) vf){l:List Int}{ok1:Bool}(h:jZ ([111,118,101,114,108,97,112]::rest) 4=some (l,ok1))(hl:ok1=true->l.length=4)(hlen:x.Overlaps.length<1048576):
 Calls Tryz.prog 159 #[.pointer (some ⟨bp,0,none⟩),vf] w fun e w'=>∃ok:Bool,ok=(ok1&&Yw sec 5)/\e=.returned (.bool ok)/\Below W0.heap.size W0 w'/\(ok=true->PX W0 {x with Overlaps:=x.Overlaps++[keyOf l]} 5 bp w'):=by
 obtain⟨ad,cap,rfl,hm⟩:=YW hr
 obtain⟨blk,off,rfl,hm2⟩:=hm (by simp)
 have c0:w.cell? ⟨blk,off,none⟩=some (.string ⟨List.toArray [111,118,101,114,108,97,112]⟩):=hS.o.iM _ _ _ (hm2 0 _ rfl)
 have HP:Hid (_):=hS
 have hr0:Hid (Rep M jh _ _):=hr
 obtain⟨n,hn⟩:∃n,(([111,118,101,114,108,97,112]:List UInt8)::rest).length=n:=⟨_,rfl⟩
 rw[hn]at hr0⊢
 have hn0:(0:Int)<(n:Int):=by rw[<-hn];simp
 have e158:=Tryz.call158
 have ek:=Tryz.call157
 obtain⟨iE,a1,a2,a3,a4⟩:=info_parts (P:=Tryz.prog) (e:=86) (z:=.agg i4Z.toArray) (size:=4) (bytes:=32) (by kernel_rfl)
 have HI:Hid (_/\_/\_/\_):=⟨a1,a2,a3,a4⟩
 clear a1 a2 a3 a4
 cases ok1 with
 |true=>
  have hl2:=hl rfl
  have kk:=WU h hl2 (by decide) HP.out.o.iM hr0.out
  obtain⟨a0,a1,a2,a3,rfl⟩:=len4 hl2
  clear hr hm hm2 hS hn h hl hl2
  by_cases ht:Yw sec 5=true
  ·rw[ht]
   go_enter Tryz.func159,Tryz.ntmps159
   go_wp2_with (first
    |(go_at_call 157;refine kk.mono ?_;rintro e w1 ⟨ib,io,ic,M1,rfl,hn,hv⟩
      have S1:Hid (_):=HP.out.call hn
      have HV:Hid (_):=hv
      clear hn hv kk c0)
    |(go_at_call 158;refine(QF (K:=YB x h0 h1 h2 h3) rfl S1.out.o.box).mono ?_
      rintro e w4 ⟨rfl,hs1,hs2⟩
      rw[ht]
      have S4:Hid (_):=PS.jgU S1.out (hs2 ht)
      clear hs1 hs2))
   refine yO zJ 24 19 20 (fun i=>135+i) (fun i=>([.pointer (some ⟨bp,0,none⟩),.pointer (some ⟨bp,0,none⟩),.pointer (some ⟨bp,0,none⟩),.pointer (some ⟨bp,0,none⟩),.pointer (some ⟨bp,8,none⟩),h3,.slice (some ⟨ib,io,none⟩) 4 ic,.pointer (some ⟨ib,io+0,none⟩),.int .i64 a0,.slice (some ⟨ib,io,none⟩) 4 ic,.pointer (some ⟨ib,io+1,none⟩),.int .i64 a1,.slice (some ⟨ib,io,none⟩) 4 ic,.pointer (some ⟨ib,io+2,none⟩),.int .i64 a2,.slice (some ⟨ib,io,none⟩) 4 ic,.pointer (some ⟨ib,io+3,none⟩),.int .i64 a3,.agg (List.toArray [.int .i64 a0,.int .i64 a1,.int .i64 a2,.int .i64 a3]),undef,undef,.pointer (some ⟨bp,0,none⟩),.pointer (some ⟨bp,0,none⟩),.pointer (some ⟨bp,8,none⟩)]:List Value).getD i undef) (fun w'=>w'.heap[bp]? = some (.cells (YB x h0 h1 h2 h3++[Value.int .i64 5]).toArray 147 (0,0))/\Imm (zr M M1) w') W0.heap.size 29 86 iE (.agg i4Z.toArray) 4 32 Tryz.underlying29 HI.out.1 HI.out.2.1 HI.out.2.2.1 HI.out.2.2.2 rfl (by decide) h3 x.Overlaps.length xo [Value.int .i64 a0,Value.int .i64 a1,Value.int .i64 a2,Value.int .i64 a3] (S4.out.o.rows ⟨86,4,x.Overlaps.length,h3,xo⟩ (by simp[jG])) (rfl) (vV [a0,a1,a2,a3]) (by simp[maxLen];omega) (by omega) (S4.out.o.bel.size) rfl (zL rfl) (fun i i' _ _ h=>by omega) (by decide) (fun w1 w2 b1 b2=>(S4.out.o.base (r:=⟨86,4,x.Overlaps.length,h3,xo⟩) (by simp[jG]) b1 b2)) ?_ ?_ ?_ ?_
   ·intro i o hi n1 n2 ho
    match i,hi,n1,n2 with
    |0,_,_,_=>
     cases ho
     exact⟨rfl,rfl,by simp,fun a w' hb hd hr=>quiet_move rfl (ev ((hr 0 (by intro i _;show 135+i≠0;omega)).trans rfl))⟩
    |1,_,_,_=>
     cases ho
     exact⟨rfl,rfl,by simp,fun a w' hb hd hr=>quiet_move rfl (ev ((hr 0 (by intro i _;show 135+i≠0;omega)).trans rfl))⟩
    |2,_,_,_=>
     cases ho
     exact⟨rfl,rfl,by simp,fun a w' hb hd hr=>qa rfl (ev (hd ⟨1,.data⟩ (by simp) rfl (by decide) (by decide)))⟩
    |3,_,_,_=>
     cases ho
     exact⟨rfl,rfl,by simp,fun a w' hb hd hr=>jN (fo:=0) rfl (ev (hd ⟨2,.data⟩ (by simp) rfl (by decide) (by decide))) (by kernel_rfl)⟩
    |4,_,_,_=>
     cases ho
     exact⟨rfl,rfl,by simp,fun a w' hb hd hr=>jN (fo:=8) rfl (ev (hd ⟨3,.data⟩ (by simp) rfl (by decide) (by decide))) (by kernel_rfl)⟩
    |5,_,_,_=>
     cases ho
     exact⟨rfl,rfl,by simp,fun a w' hb hd hr=>jF rfl (ev (hd ⟨4,.data⟩ (by simp) rfl (by decide) (by decide))) (by kernel_rfl) (Jq hb.1 8 rfl)⟩
    |6,_,_,_=>
     cases ho
     exact⟨rfl,rfl,by simp,fun a w' hb hd hr=>quiet_move rfl (ev ((hr 10 (by intro i _;show 135+i≠10;omega)).trans rfl))⟩
    |7,_,_,_=>
     cases ho
     exact⟨rfl,rfl,by simp,fun a w' hb hd hr=>Jb (i:=0) (sz:=1) rfl (ev (hd ⟨6,.data⟩ (by simp) rfl (by decide) (by decide))) (by exact rfl) (by kernel_rfl) (by decide) (by decide)⟩
    |8,_,_,_=>
     cases ho
     exact⟨rfl,rfl,by simp,fun a w' hb hd hr=>jF rfl (ev (hd ⟨7,.data⟩ (by simp) rfl (by decide) (by decide))) (by kernel_rfl) (hb.2 _ _ _ (HV.out 0 _ rfl))⟩
    |9,_,_,_=>
     cases ho
     exact⟨rfl,rfl,by simp,fun a w' hb hd hr=>quiet_move rfl (ev ((hr 10 (by intro i _;show 135+i≠10;omega)).trans rfl))⟩
    |10,_,_,_=>
     cases ho
     exact⟨rfl,rfl,by simp,fun a w' hb hd hr=>Jb (i:=1) (sz:=1) rfl (ev (hd ⟨9,.data⟩ (by simp) rfl (by decide) (by decide))) (by exact rfl) (by kernel_rfl) (by decide) (by decide)⟩
    |11,_,_,_=>
     cases ho
     exact⟨rfl,rfl,by simp,fun a w' hb hd hr=>jF rfl (ev (hd ⟨10,.data⟩ (by simp) rfl (by decide) (by decide))) (by kernel_rfl) (hb.2 _ _ _ (HV.out 1 _ rfl))⟩
    |12,_,_,_=>
     cases ho
     exact⟨rfl,rfl,by simp,fun a w' hb hd hr=>quiet_move rfl (ev ((hr 10 (by intro i _;show 135+i≠10;omega)).trans rfl))⟩
    |13,_,_,_=>
     cases ho
     exact⟨rfl,rfl,by simp,fun a w' hb hd hr=>Jb (i:=2) (sz:=1) rfl (ev (hd ⟨12,.data⟩ (by simp) rfl (by decide) (by decide))) (by exact rfl) (by kernel_rfl) (by decide) (by decide)⟩
    |14,_,_,_=>
     cases ho
     exact⟨rfl,rfl,by simp,fun a w' hb hd hr=>jF rfl (ev (hd ⟨13,.data⟩ (by simp) rfl (by decide) (by decide))) (by kernel_rfl) (hb.2 _ _ _ (HV.out 2 _ rfl))⟩
    |15,_,_,_=>
     cases ho
     exact⟨rfl,rfl,by simp,fun a w' hb hd hr=>quiet_move rfl (ev ((hr 10 (by intro i _;show 135+i≠10;omega)).trans rfl))⟩
    |16,_,_,_=>
     cases ho
     exact⟨rfl,rfl,by simp,fun a w' hb hd hr=>Jb (i:=3) (sz:=1) rfl (ev (hd ⟨15,.data⟩ (by simp) rfl (by decide) (by decide))) (by exact rfl) (by kernel_rfl) (by decide) (by decide)⟩
    |17,_,_,_=>
     cases ho
     exact⟨rfl,rfl,by simp,fun a w' hb hd hr=>jF rfl (ev (hd ⟨16,.data⟩ (by simp) rfl (by decide) (by decide))) (by kernel_rfl) (hb.2 _ _ _ (HV.out 3 _ rfl))⟩
    |18,_,_,_=>
     cases ho
     exact⟨rfl,rfl,by simp,fun a w' hb hd hr=>qb (parts:=[(0,.int .i64 a0),(1,.int .i64 a1),(2,.int .i64 a2),(3,.int .i64 a3)]) rfl (by simp;exact⟨ev (hd ⟨8,.data⟩ (by simp) rfl (by decide) (by decide)),ev (hd ⟨11,.data⟩ (by simp) rfl (by decide) (by decide)),ev (hd ⟨14,.data⟩ (by simp) rfl (by decide) (by decide)),ev (hd ⟨17,.data⟩ (by simp) rfl (by decide) (by decide))⟩) (by kernel_rfl)⟩
    |19,_,h,_=>exact absurd rfl h
    |20,_,_,h=>exact absurd rfl h
    |21,_,_,_=>
     cases ho
     exact⟨rfl,rfl,by simp,fun a w' hb hd hr=>qa rfl (ev (hd ⟨0,.data⟩ (by simp) rfl (by decide) (by decide)))⟩
    |22,_,_,_=>
     cases ho
     exact⟨rfl,rfl,by simp,fun a w' hb hd hr=>jN (fo:=0) rfl (ev (hd ⟨21,.data⟩ (by simp) rfl (by decide) (by decide))) (by kernel_rfl)⟩
    |23,_,_,_=>
     cases ho
     exact⟨rfl,rfl,by simp,fun a w' hb hd hr=>jN (fo:=8) rfl (ev (hd ⟨22,.data⟩ (by simp) rfl (by decide) (by decide))) (by kernel_rfl)⟩
    |j+24,h,_,_=>exact absurd h (by omega)
   ·exact⟨_,_,rfl,rfl,rfl,by simp,rfl,fun a hd=>ev (hd ⟨18,.data⟩ (by simp) rfl (by decide) (by decide))⟩
   ·exact⟨_,_,rfl,rfl,rfl,by simp,rfl,⟨⟨19,.data⟩,by simp,rfl,rfl⟩,fun a hd=>ev (hd ⟨5,.data⟩ (by simp) rfl (by decide) (by decide))⟩
   ·refine⟨_,rfl,rfl,fun f h1 h2=>by
     have t23:f 23=true:=h1 ⟨23,.data⟩ (by simp) rfl
     have t20:f 20=true:=h1 ⟨20,.data⟩ (by simp) rfl
     have t0:f 0=true:=h1 ⟨0,.phase⟩ (by simp) rfl
     have t1:f 1=true:=h1 ⟨1,.phase⟩ (by simp) rfl
     have t2:f 2=true:=h1 ⟨2,.phase⟩ (by simp) rfl
     have t3:f 3=true:=h1 ⟨3,.phase⟩ (by simp) rfl
     have t4:f 4=true:=h1 ⟨4,.phase⟩ (by simp) rfl
     have t5:f 5=true:=h1 ⟨5,.phase⟩ (by simp) rfl
     have t6:f 6=true:=h1 ⟨6,.phase⟩ (by simp) rfl
     have t7:f 7=true:=h1 ⟨7,.phase⟩ (by simp) rfl
     have t8:f 8=true:=h1 ⟨8,.phase⟩ (by simp) rfl
     have t9:f 9=true:=h1 ⟨9,.phase⟩ (by simp) rfl
     have t10:f 10=true:=h1 ⟨10,.phase⟩ (by simp) rfl
     have t11:f 11=true:=h1 ⟨11,.phase⟩ (by simp) rfl
     have t12:f 12=true:=h1 ⟨12,.phase⟩ (by simp) rfl
     have t13:f 13=true:=h1 ⟨13,.phase⟩ (by simp) rfl
     have t14:f 14=true:=h1 ⟨14,.phase⟩ (by simp) rfl
     have t15:f 15=true:=h1 ⟨15,.phase⟩ (by simp) rfl
     have t16:f 16=true:=h1 ⟨16,.phase⟩ (by simp) rfl
     have t17:f 17=true:=h1 ⟨17,.phase⟩ (by simp) rfl
     have t18:f 18=true:=h1 ⟨18,.phase⟩ (by simp) rfl
     have t19:f 19=true:=h1 ⟨19,.phase⟩ (by simp) rfl
     have t22:f 22=true:=h2 23 _ rfl t23 ⟨22,.data⟩ (by simp) rfl
     have t21:f 21=true:=h2 22 _ rfl t22 ⟨21,.data⟩ (by simp) rfl
     intro i hi
     match i,hi with
     |0,_=>exact t0
     |1,_=>exact t1
     |2,_=>exact t2
     |3,_=>exact t3
     |4,_=>exact t4
     |5,_=>exact t5
     |6,_=>exact t6
     |7,_=>exact t7
     |8,_=>exact t8
     |9,_=>exact t9
     |10,_=>exact t10
     |11,_=>exact t11
     |12,_=>exact t12
     |13,_=>exact t13
     |14,_=>exact t14
     |15,_=>exact t15
     |16,_=>exact t16
     |17,_=>exact t17
     |18,_=>exact t18
     |19,_=>exact t19
     |20,_=>exact t20
     |21,_=>exact t21
     |22,_=>exact t22
     |23,_=>exact t23
     |j+24,h=>exact absurd h (by omega),?_⟩
    intro v6 w5 w6 a g1 g2 g3 g4 hsz hdf hv hA hr
    have hb:=(S4.out.o.base (r:=⟨86,4,x.Overlaps.length,h3,xo⟩) (by simp[jG]) g1 g2)
    refine Kb rfl rfl (ev (hv 23 (by decide) (by decide) (by decide))) (ev hA) (Yd g3).1 (by kernel_rfl) (Jq hb.1 8 rfl) (kM hb.1 8) (Yd g3).2 ?_
    rename_i hK
    refine hK _ _ (VU rfl rfl rfl rfl ?_)
    simp only[Exit.inBlock,Exit.then]
    refine bodyPost_ret (jkc (fn:=Tryz.f159) rfl (by show 4<a.tmps.size;rw[hsz];simp)) hdf ?_
    have Z:=(S4.out.below g1).key (j:=keyOf [a0,a1,a2,a3]) (jfE [Value.int .i64 a0,Value.int .i64 a1,Value.int .i64 a2,Value.int .i64 a3]) g3 g2 g4
    exact⟨true,rfl,rfl,Z.o.bel,fun _=>Z.px⟩
  ·have ht:Yw sec 5=false:=by simpa using ht
   rw[ht]
   go_enter Tryz.func159,Tryz.ntmps159
   go_wp2_with (first
    |(go_at_call 157;refine kk.mono ?_;rintro e w1 ⟨ib,io,ic,M1,rfl,hn,hv⟩
      have S1:Hid (_):=HP.out.call hn
      have HV:Hid (_):=hv
      clear hn hv kk c0)
    |(go_at_call 158;refine(QF (K:=YB x h0 h1 h2 h3) rfl S1.out.o.box).mono ?_
      rintro e w4 ⟨rfl,hs1,hs2⟩
      rw[ht]
      have S4:Hid (_):=(hs1 ht ▸ S1.out:PS W0 x sec (zr M M1) bp h0 h1 h2 h3 hF hP nF nP xb xj xc xo xf xp w4)
      clear hs1 hs2))
   go_ret
   exact⟨false,rfl,rfl,S4.out.o.bel,by simp⟩
 |false=>
  have kk:=ZE h HP.out.o.iM hr0.out
  clear hr hm hm2 hS hn h hl
  go_enter Tryz.func159,Tryz.ntmps159
  go_wp2_with (first
   |(go_at_call 157;refine kk.mono ?_;rintro e w1 ⟨u,M1,rfl,hn,hv⟩
     have S1:Hid (_):=HP.out.call hn
     clear hn hv kk c0))
  go_ret
  exact⟨false,rfl,rfl,S1.out.o.bel,by simp⟩
end
section
variable {W0:World} {x:jo} {sec:Int} {M M':Mem} {bp:Nat} {h0 h1 h2 h3 hF hP:Value} {nF nP:Nat} {xb xj xc xo xf xp:List Value} {w w1 w2:World}
set_option maxHeartbeats 4000000 in
theorem jht {rest:List (List UInt8)}{vf:Value}(hS:PS W0 x sec M bp h0 h1 h2 h3 hF hP nF nP xb xj xc xo xf xp w)(hr:Rep M jh (jQ ([119,111,114,108,100]::rest)) vf){l:List Int}{ok1:Bool}(h:jZ ([119,111,114,108,100]::rest) 7=some (l,ok1))(hl:ok1=true->l.length=7):
 Calls Tryz.prog 121 #[.pointer (some ⟨bp,0,none⟩),vf] w fun e w'=>∃ok:Bool,ok=(ok1&&Yw sec 1)/\e=.returned (.bool ok)/\Below W0.heap.size W0 w'/\(ok=true->PX W0 (JU l) 1 bp w'):=by
 obtain⟨ad,cap,rfl,hm⟩:=YW hr
 obtain⟨blk,off,rfl,hm2⟩:=hm (by simp)
 have c0:w.cell? ⟨blk,off,none⟩=some (.string ⟨List.toArray [119,111,114,108,100]⟩):=hS.o.iM _ _ _ (hm2 0 _ rfl)
 have HP:Hid (_):=hS
 have hr0:Hid (Rep M jh _ _):=hr
 obtain⟨n,hn⟩:∃n,(([119,111,114,108,100]:List UInt8)::rest).length=n:=⟨_,rfl⟩
 rw[hn]at hr0⊢
 have hn0:(0:Int)<(n:Int):=by rw[<-hn];simp
 have e158:=Tryz.call158
 have ek:=Tryz.call157
 cases ok1 with
 |true=>
  have hl2:=hl rfl
  have kk:=WU h hl2 (by decide) HP.out.o.iM hr0.out
  obtain⟨a0,a1,a2,a3,a4,a5,a6,rfl⟩:=len7 hl2
  clear hr hm hm2 hS hn h hl hl2
  by_cases ht:Yw sec 1=true
  ·rw[ht]
   go_enter Tryz.func121,Tryz.ntmps121
   go_wp2_with (first
    |(go_at_call 157;refine kk.mono ?_;rintro e w1 ⟨ib,io,ic,M1,rfl,hn,hv⟩
      have S1:Hid (_):=HP.out.call hn
      have HV:Hid (_):=hv
      clear hn hv kk c0)
    |(go_at_call 158;refine(QF (K:=YB x h0 h1 h2 h3) rfl S1.out.o.box).mono ?_
      rintro e w4 ⟨rfl,hs1,hs2⟩
      rw[ht]
      have S4:Hid (_):=PS.jgU S1.out (hs2 ht)
      clear hs1 hs2))
   refine Kk zJ 27 (fun i=>31+i) (fun i=>([.pointer (some ⟨bp,0,none⟩),.slice (some ⟨ib,io,none⟩) 7 ic,.pointer (some ⟨ib,io+0,none⟩),.int .i64 a0,.slice (some ⟨ib,io,none⟩) 7 ic,.pointer (some ⟨ib,io+1,none⟩),.int .i64 a1,.slice (some ⟨ib,io,none⟩) 7 ic,.pointer (some ⟨ib,io+2,none⟩),.int .i64 a2,.agg (List.toArray [.int .i64 a1,.int .i64 a2]),.slice (some ⟨ib,io,none⟩) 7 ic,.pointer (some ⟨ib,io+3,none⟩),.int .i64 a3,.slice (some ⟨ib,io,none⟩) 7 ic,.pointer (some ⟨ib,io+4,none⟩),.int .i64 a4,.agg (List.toArray [.int .i64 a0,.int .i64 a1,.int .i64 a2,.int .i64 a3,.int .i64 a4]),.slice (some ⟨ib,io,none⟩) 7 ic,.pointer (some ⟨ib,io+5,none⟩),.int .i64 a5,.slice (some ⟨ib,io,none⟩) 7 ic,.pointer (some ⟨ib,io+6,none⟩),.int .i64 a6,.agg (List.toArray [.int .i64 a0,.int .i64 a1,.int .i64 a2,.int .i64 a3,.int .i64 a4,.slice none 0 0,.slice none 0 0,.slice none 0 0,.slice none 0 0,.int .i64 a5,.int .i64 a6]),.pointer (some ⟨bp,0,none⟩),.pointer (some ⟨bp,0,none⟩)]:List Value).getD i undef) rfl (zL rfl) (fun i i' _ _ h=>by omega) ?_ ?_
   ·intro i o hi ho
    match i,hi with
    |0,_=>
     cases ho
     refine⟨rfl,rfl,by simp,fun a w' hb0 hd hr=>?_⟩
     have hb:=(⟨(S4.out.below hb0).o.box,(S4.out.below hb0).o.iM⟩:_/\_)
     exact quiet_move rfl (ev ((hr 0 (by intro i _;show 31+i≠0;omega)).trans rfl))
    |1,_=>
     cases ho
     refine⟨rfl,rfl,by simp,fun a w' hb0 hd hr=>?_⟩
     have hb:=(⟨(S4.out.below hb0).o.box,(S4.out.below hb0).o.iM⟩:_/\_)
     exact quiet_move rfl (ev ((hr 5 (by intro i _;show 31+i≠5;omega)).trans rfl))
    |2,_=>
     cases ho
     refine⟨rfl,rfl,by simp,fun a w' hb0 hd hr=>?_⟩
     have hb:=(⟨(S4.out.below hb0).o.box,(S4.out.below hb0).o.iM⟩:_/\_)
     exact Jb (i:=0) (sz:=1) rfl (ev (hd ⟨1,.data⟩ (by simp) rfl)) (by exact rfl) (by kernel_rfl) (by decide) (by decide)
    |3,_=>
     cases ho
     refine⟨rfl,rfl,by simp,fun a w' hb0 hd hr=>?_⟩
     have hb:=(⟨(S4.out.below hb0).o.box,(S4.out.below hb0).o.iM⟩:_/\_)
     exact jF rfl (ev (hd ⟨2,.data⟩ (by simp) rfl)) (by kernel_rfl) (hb.2 _ _ _ (HV.out 0 _ rfl))
    |4,_=>
     cases ho
     refine⟨rfl,rfl,by simp,fun a w' hb0 hd hr=>?_⟩
     have hb:=(⟨(S4.out.below hb0).o.box,(S4.out.below hb0).o.iM⟩:_/\_)
     exact quiet_move rfl (ev ((hr 5 (by intro i _;show 31+i≠5;omega)).trans rfl))
    |5,_=>
     cases ho
     refine⟨rfl,rfl,by simp,fun a w' hb0 hd hr=>?_⟩
     have hb:=(⟨(S4.out.below hb0).o.box,(S4.out.below hb0).o.iM⟩:_/\_)
     exact Jb (i:=1) (sz:=1) rfl (ev (hd ⟨4,.data⟩ (by simp) rfl)) (by exact rfl) (by kernel_rfl) (by decide) (by decide)
    |6,_=>
     cases ho
     refine⟨rfl,rfl,by simp,fun a w' hb0 hd hr=>?_⟩
     have hb:=(⟨(S4.out.below hb0).o.box,(S4.out.below hb0).o.iM⟩:_/\_)
     exact jF rfl (ev (hd ⟨5,.data⟩ (by simp) rfl)) (by kernel_rfl) (hb.2 _ _ _ (HV.out 1 _ rfl))
    |7,_=>
     cases ho
     refine⟨rfl,rfl,by simp,fun a w' hb0 hd hr=>?_⟩
     have hb:=(⟨(S4.out.below hb0).o.box,(S4.out.below hb0).o.iM⟩:_/\_)
     exact quiet_move rfl (ev ((hr 5 (by intro i _;show 31+i≠5;omega)).trans rfl))
    |8,_=>
     cases ho
     refine⟨rfl,rfl,by simp,fun a w' hb0 hd hr=>?_⟩
     have hb:=(⟨(S4.out.below hb0).o.box,(S4.out.below hb0).o.iM⟩:_/\_)
     exact Jb (i:=2) (sz:=1) rfl (ev (hd ⟨7,.data⟩ (by simp) rfl)) (by exact rfl) (by kernel_rfl) (by decide) (by decide)
    |9,_=>
     cases ho
     refine⟨rfl,rfl,by simp,fun a w' hb0 hd hr=>?_⟩
     have hb:=(⟨(S4.out.below hb0).o.box,(S4.out.below hb0).o.iM⟩:_/\_)
     exact jF rfl (ev (hd ⟨8,.data⟩ (by simp) rfl)) (by kernel_rfl) (hb.2 _ _ _ (HV.out 2 _ rfl))
    |10,_=>
     cases ho
     refine⟨rfl,rfl,by simp,fun a w' hb0 hd hr=>?_⟩
     have hb:=(⟨(S4.out.below hb0).o.box,(S4.out.below hb0).o.iM⟩:_/\_)
     exact qb (parts:=[(0,.int .i64 a1),(1,.int .i64 a2)]) rfl (by simp;exact⟨ev (hd ⟨6,.data⟩ (by simp) rfl),ev (hd ⟨9,.data⟩ (by simp) rfl)⟩) (by kernel_rfl)
    |11,_=>
     cases ho
     refine⟨rfl,rfl,by simp,fun a w' hb0 hd hr=>?_⟩
     have hb:=(⟨(S4.out.below hb0).o.box,(S4.out.below hb0).o.iM⟩:_/\_)
     exact quiet_move rfl (ev ((hr 5 (by intro i _;show 31+i≠5;omega)).trans rfl))
    |12,_=>
     cases ho
     refine⟨rfl,rfl,by simp,fun a w' hb0 hd hr=>?_⟩
     have hb:=(⟨(S4.out.below hb0).o.box,(S4.out.below hb0).o.iM⟩:_/\_)
     exact Jb (i:=3) (sz:=1) rfl (ev (hd ⟨11,.data⟩ (by simp) rfl)) (by exact rfl) (by kernel_rfl) (by decide) (by decide)
    |13,_=>
     cases ho
     refine⟨rfl,rfl,by simp,fun a w' hb0 hd hr=>?_⟩
     have hb:=(⟨(S4.out.below hb0).o.box,(S4.out.below hb0).o.iM⟩:_/\_)
     exact jF rfl (ev (hd ⟨12,.data⟩ (by simp) rfl)) (by kernel_rfl) (hb.2 _ _ _ (HV.out 3 _ rfl))
    |14,_=>
     cases ho
     refine⟨rfl,rfl,by simp,fun a w' hb0 hd hr=>?_⟩
     have hb:=(⟨(S4.out.below hb0).o.box,(S4.out.below hb0).o.iM⟩:_/\_)
     exact quiet_move rfl (ev ((hr 5 (by intro i _;show 31+i≠5;omega)).trans rfl))
    |15,_=>
     cases ho
     refine⟨rfl,rfl,by simp,fun a w' hb0 hd hr=>?_⟩
     have hb:=(⟨(S4.out.below hb0).o.box,(S4.out.below hb0).o.iM⟩:_/\_)
     exact Jb (i:=4) (sz:=1) rfl (ev (hd ⟨14,.data⟩ (by simp) rfl)) (by exact rfl) (by kernel_rfl) (by decide) (by decide)
    |16,_=>
     cases ho
     refine⟨rfl,rfl,by simp,fun a w' hb0 hd hr=>?_⟩
     have hb:=(⟨(S4.out.below hb0).o.box,(S4.out.below hb0).o.iM⟩:_/\_)
     exact jF rfl (ev (hd ⟨15,.data⟩ (by simp) rfl)) (by kernel_rfl) (hb.2 _ _ _ (HV.out 4 _ rfl))
    |17,_=>
     cases ho
     refine⟨rfl,rfl,by simp,fun a w' hb0 hd hr=>?_⟩
     have hb:=(⟨(S4.out.below hb0).o.box,(S4.out.below hb0).o.iM⟩:_/\_)
     exact qb (parts:=[(0,.int .i64 a0),(1,.agg (List.toArray [.int .i64 a1,.int .i64 a2])),(2,.int .i64 a3),(3,.int .i64 a4)]) rfl (by simp;exact⟨ev (hd ⟨3,.data⟩ (by simp) rfl),ev (hd ⟨10,.data⟩ (by simp) rfl),ev (hd ⟨13,.data⟩ (by simp) rfl),ev (hd ⟨16,.data⟩ (by simp) rfl)⟩) (by kernel_rfl)
    |18,_=>
     cases ho
     refine⟨rfl,rfl,by simp,fun a w' hb0 hd hr=>?_⟩
     have hb:=(⟨(S4.out.below hb0).o.box,(S4.out.below hb0).o.iM⟩:_/\_)
     exact quiet_move rfl (ev ((hr 5 (by intro i _;show 31+i≠5;omega)).trans rfl))
    |19,_=>
     cases ho
     refine⟨rfl,rfl,by simp,fun a w' hb0 hd hr=>?_⟩
     have hb:=(⟨(S4.out.below hb0).o.box,(S4.out.below hb0).o.iM⟩:_/\_)
     exact Jb (i:=5) (sz:=1) rfl (ev (hd ⟨18,.data⟩ (by simp) rfl)) (by exact rfl) (by kernel_rfl) (by decide) (by decide)
    |20,_=>
     cases ho
     refine⟨rfl,rfl,by simp,fun a w' hb0 hd hr=>?_⟩
     have hb:=(⟨(S4.out.below hb0).o.box,(S4.out.below hb0).o.iM⟩:_/\_)
     exact jF rfl (ev (hd ⟨19,.data⟩ (by simp) rfl)) (by kernel_rfl) (hb.2 _ _ _ (HV.out 5 _ rfl))
    |21,_=>
     cases ho
     refine⟨rfl,rfl,by simp,fun a w' hb0 hd hr=>?_⟩
     have hb:=(⟨(S4.out.below hb0).o.box,(S4.out.below hb0).o.iM⟩:_/\_)
     exact quiet_move rfl (ev ((hr 5 (by intro i _;show 31+i≠5;omega)).trans rfl))
    |22,_=>
     cases ho
     refine⟨rfl,rfl,by simp,fun a w' hb0 hd hr=>?_⟩
     have hb:=(⟨(S4.out.below hb0).o.box,(S4.out.below hb0).o.iM⟩:_/\_)
     exact Jb (i:=6) (sz:=1) rfl (ev (hd ⟨21,.data⟩ (by simp) rfl)) (by exact rfl) (by kernel_rfl) (by decide) (by decide)
    |23,_=>
     cases ho
     refine⟨rfl,rfl,by simp,fun a w' hb0 hd hr=>?_⟩
     have hb:=(⟨(S4.out.below hb0).o.box,(S4.out.below hb0).o.iM⟩:_/\_)
     exact jF rfl (ev (hd ⟨22,.data⟩ (by simp) rfl)) (by kernel_rfl) (hb.2 _ _ _ (HV.out 6 _ rfl))
    |24,_=>
     cases ho
     refine⟨rfl,rfl,by simp,fun a w' hb0 hd hr=>?_⟩
     have hb:=(⟨(S4.out.below hb0).o.box,(S4.out.below hb0).o.iM⟩:_/\_)
     exact qb (parts:=[(0,.agg (List.toArray [.int .i64 a0,.int .i64 a1,.int .i64 a2,.int .i64 a3,.int .i64 a4])),(5,.int .i64 a5),(6,.int .i64 a6)]) rfl (by simp;exact⟨ev (hd ⟨17,.data⟩ (by simp) rfl),ev (hd ⟨20,.data⟩ (by simp) rfl),ev (hd ⟨23,.data⟩ (by simp) rfl)⟩) (by kernel_rfl)
    |25,_=>
     cases ho
     refine⟨rfl,rfl,by simp,fun a w' hb0 hd hr=>?_⟩
     have hb:=(⟨(S4.out.below hb0).o.box,(S4.out.below hb0).o.iM⟩:_/\_)
     exact qa rfl (ev (hd ⟨0,.data⟩ (by simp) rfl))
    |26,_=>
     cases ho
     refine⟨rfl,rfl,by simp,fun a w' hb0 hd hr=>?_⟩
     have hb:=(⟨(S4.out.below hb0).o.box,(S4.out.below hb0).o.iM⟩:_/\_)
     exact jN (fo:=0) rfl (ev (hd ⟨25,.data⟩ (by simp) rfl)) (by kernel_rfl)
    |j+27,h=>exact absurd h (by omega)
   ·refine⟨_,rfl,rfl,fun f h1 h2=>by
     have t26:f 26=true:=h1 ⟨26,.data⟩ (by simp) rfl
     have t24:f 24=true:=h1 ⟨24,.data⟩ (by simp) rfl
     have t0:f 0=true:=h1 ⟨0,.phase⟩ (by simp) rfl
     have t1:f 1=true:=h1 ⟨1,.phase⟩ (by simp) rfl
     have t2:f 2=true:=h1 ⟨2,.phase⟩ (by simp) rfl
     have t3:f 3=true:=h1 ⟨3,.phase⟩ (by simp) rfl
     have t4:f 4=true:=h1 ⟨4,.phase⟩ (by simp) rfl
     have t5:f 5=true:=h1 ⟨5,.phase⟩ (by simp) rfl
     have t6:f 6=true:=h1 ⟨6,.phase⟩ (by simp) rfl
     have t7:f 7=true:=h1 ⟨7,.phase⟩ (by simp) rfl
     have t8:f 8=true:=h1 ⟨8,.phase⟩ (by simp) rfl
     have t9:f 9=true:=h1 ⟨9,.phase⟩ (by simp) rfl
     have t10:f 10=true:=h1 ⟨10,.phase⟩ (by simp) rfl
     have t11:f 11=true:=h1 ⟨11,.phase⟩ (by simp) rfl
     have t12:f 12=true:=h1 ⟨12,.phase⟩ (by simp) rfl
     have t13:f 13=true:=h1 ⟨13,.phase⟩ (by simp) rfl
     have t14:f 14=true:=h1 ⟨14,.phase⟩ (by simp) rfl
     have t15:f 15=true:=h1 ⟨15,.phase⟩ (by simp) rfl
     have t16:f 16=true:=h1 ⟨16,.phase⟩ (by simp) rfl
     have t17:f 17=true:=h1 ⟨17,.phase⟩ (by simp) rfl
     have t18:f 18=true:=h1 ⟨18,.phase⟩ (by simp) rfl
     have t19:f 19=true:=h1 ⟨19,.phase⟩ (by simp) rfl
     have t20:f 20=true:=h1 ⟨20,.phase⟩ (by simp) rfl
     have t21:f 21=true:=h1 ⟨21,.phase⟩ (by simp) rfl
     have t22:f 22=true:=h1 ⟨22,.phase⟩ (by simp) rfl
     have t23:f 23=true:=h1 ⟨23,.phase⟩ (by simp) rfl
     have t25:f 25=true:=h2 26 _ rfl t26 ⟨25,.data⟩ (by simp) rfl
     intro i hi
     match i,hi with
     |0,_=>exact t0
     |1,_=>exact t1
     |2,_=>exact t2
     |3,_=>exact t3
     |4,_=>exact t4
     |5,_=>exact t5
     |6,_=>exact t6
     |7,_=>exact t7
     |8,_=>exact t8
     |9,_=>exact t9
     |10,_=>exact t10
     |11,_=>exact t11
     |12,_=>exact t12
     |13,_=>exact t13
     |14,_=>exact t14
     |15,_=>exact t15
     |16,_=>exact t16
     |17,_=>exact t17
     |18,_=>exact t18
     |19,_=>exact t19
     |20,_=>exact t20
     |21,_=>exact t21
     |22,_=>exact t22
     |23,_=>exact t23
     |24,_=>exact t24
     |25,_=>exact t25
     |26,_=>exact t26
     |j+27,h=>exact absurd h (by omega),?_⟩
    intro w6 a g1 hsz hdf hv hr
    refine xx (cs:=YB (JU [a0,a1,a2,a3,a4,a5,a6]) (.slice none 0 0) (.slice none 0 0) (.slice none 0 0) (.slice none 0 0)) (arr:=YB x h0 h1 h2 h3++[Value.int .i64 1]) rfl rfl (ev (hv 26 (by decide))) (ev (hv 24 (by decide))) (by kernel_rfl) (S4.out.below g1).o.box (by exact Nat.le_succ 11) (XS rfl rfl rfl rfl) ?_
    intro w7 hb2 hg2
    rename_i hK
    refine hK _ _ (VU rfl rfl rfl rfl ?_)
    simp only[Exit.inBlock,Exit.then]
    refine bodyPost_ret (jkc (fn:=Tryz.f121) rfl (by show 4<a.tmps.size;rw[hsz];simp)) hdf ?_
    have Z:=(S4.out.below g1).world (y:=JU [a0,a1,a2,a3,a4,a5,a6]) ⟨rfl,rfl,rfl,rfl⟩ hb2 hg2
    exact⟨true,rfl,rfl,Z.o.bel,fun _=>Z.px⟩
  ·have ht:Yw sec 1=false:=by simpa using ht
   rw[ht]
   go_enter Tryz.func121,Tryz.ntmps121
   go_wp2_with (first
    |(go_at_call 157;refine kk.mono ?_;rintro e w1 ⟨ib,io,ic,M1,rfl,hn,hv⟩
      have S1:Hid (_):=HP.out.call hn
      have HV:Hid (_):=hv
      clear hn hv kk c0)
    |(go_at_call 158;refine(QF (K:=YB x h0 h1 h2 h3) rfl S1.out.o.box).mono ?_
      rintro e w4 ⟨rfl,hs1,hs2⟩
      rw[ht]
      have S4:Hid (_):=(hs1 ht ▸ S1.out:PS W0 x sec (zr M M1) bp h0 h1 h2 h3 hF hP nF nP xb xj xc xo xf xp w4)
      clear hs1 hs2))
   go_ret
   exact⟨false,rfl,rfl,S4.out.o.bel,by simp⟩
 |false=>
  have kk:=ZE h HP.out.o.iM hr0.out
  clear hr hm hm2 hS hn h hl
  go_enter Tryz.func121,Tryz.ntmps121
  go_wp2_with (first
   |(go_at_call 157;refine kk.mono ?_;rintro e w1 ⟨u,M1,rfl,hn,hv⟩
     have S1:Hid (_):=HP.out.call hn
     clear hn hv kk c0))
  go_ret
  exact⟨false,rfl,rfl,S1.out.o.bel,by simp⟩
end
section
variable {W0:World} {x:jo} {sec:Int} {M M':Mem} {bp:Nat} {h0 h1 h2 h3 hF hP:Value} {nF nP:Nat} {xb xj xc xo xf xp:List Value} {w w1 w2:World}
set_option maxHeartbeats 4000000 in
theorem PB {rest:List (List UInt8)}{vf:Value}(hS:PS W0 x sec M bp h0 h1 h2 h3 hF hP nF nP xb xj xc xo xf xp w)(hr:Rep M jh (jQ ([102,105,120,116,117,114,101]::rest)) vf){f:jT}{c:Int}{init:List Body}{last:Body}(h:ye ([102,105,120,116,117,114,101]::rest)=some (f,c))(hx:sec=2->x.ji=init++[last])(hlb:init.length<1048576)(hlen:last.jf.length<1048576):
 Calls Tryz.prog 121 #[.pointer (some ⟨bp,0,none⟩),vf] w fun e w'=>∃ok:Bool,ok=(c==0&&sec==2)/\e=.returned (.bool ok)/\Below W0.heap.size W0 w'/\(ok=true->PX W0 {x with ji:=init++[{last with jf:=last.jf++[f]}]} 2 bp w'):=by
 have kk:=jen h hS.o.iM hr
 obtain⟨ad,cap,rfl,hm⟩:=YW hr
 obtain⟨blk,off,rfl,hm2⟩:=hm (by simp)
 have c0:w.cell? ⟨blk,off,none⟩=some (.string ⟨List.toArray [102,105,120,116,117,114,101]⟩):=hS.o.iM _ _ _ (hm2 0 _ rfl)
 have HP:Hid (_):=hS
 have hr0:Hid (Rep M jh _ _):=hr
 obtain⟨n,hn⟩:∃n,(([102,105,120,116,117,114,101]:List UInt8)::rest).length=n:=⟨_,rfl⟩
 rw[hn]at hr0⊢
 have hn0:(0:Int)<(n:Int):=by rw[<-hn];simp
 have e158:=Tryz.call158
 rw[hn]at kk
 have ek:=Tryz.call23
 obtain⟨iE,a1,a2,a3,a4⟩:=info_parts (P:=Tryz.prog) (e:=67) (z:=.agg je4.toArray) (size:=10) (bytes:=96) (by kernel_rfl)
 have HI:Hid (_/\_/\_/\_):=⟨a1,a2,a3,a4⟩
 clear a1 a2 a3 a4
 have u147:=Tryz.underlying147
 have ra:tSz Tryz.prog 67=some 10:=by kernel_rfl
 have HR:Hid (_):=ra
 clear hr hm hm2 hS hn ra h
 by_cases hc:c=0
 ·subst hc
  by_cases hs:sec=2
  ·subst hs
   have hxb:=hx rfl
   have hpos:0<x.ji.length:=by rw[hxb];simp
   obtain⟨gB,cB,hgb⟩:∃g cap,h0=.slice (some ⟨g,0,none⟩) x.ji.length cap:=Mv (HP.out.o.rows ⟨56,20,x.ji.length,h0,xb⟩ (by simp[jG])) hpos
   subst hgb
   have HC:Hid (_/\_):=HP.out.fcell hxb
   have nB:x.ji.length=init.length+1:=by rw[hxb];simp
   have wk:IntKind.i64.wrap ((x.ji.length:Int) - 1)=(init.length:Int):=by rw[nB,IntKind.wrap_i64];omega
   go_enter Tryz.func121,Tryz.ntmps121
   go_wp2_with (first
    |(go_at_call 23;refine kk.mono ?_;rintro e w1 ⟨A,M1,rfl,hn,hA,hA1⟩
      have S1:Hid (_/\_/\_):=⟨HP.out.call hn,hA,hA1⟩
      clear hn hA hA1 kk c0)
    |(refine jA (cs:=A) (arr:=je4) rfl rfl rfl rfl rfl (by rw[<-S1.out.2.1.length];exact HR.out) (yy w1 _ _ rfl) (by rw[<-S1.out.2.1.length];exact Nat.le_refl 10) S1.out.2.2 ?_
      intro w3 hz hg
      have S3:Hid (_/\_):=S1.out.1.made (A:=A) (Z:=je4) (k:=10) S1.out.2.1.length.symm rfl hz hg
      have c11:w3.cell? ⟨bp,11,none⟩=some (.int .i64 2):=Jq S3.out.1.o.box 11 rfl
      clear hz hg))
   refine Kk zJ 13 (fun i=>100+i) (fun i=>([.pointer (some ⟨bp,0,none⟩),.pointer (some ⟨bp,0,none⟩),.pointer (some ⟨bp,0,none⟩),.pointer (some ⟨bp,5,none⟩),.slice (some ⟨gB,0,none⟩) x.ji.length cB,.pointer (some ⟨bp,0,none⟩),.pointer (some ⟨bp,0,none⟩),.pointer (some ⟨bp,0,none⟩),.pointer (some ⟨bp,5,none⟩),.slice (some ⟨gB,0,none⟩) x.ji.length cB,.int .i64 (x.ji.length:Int),.int .i64 (init.length:Int),.pointer (some ⟨gB,init.length*20,none⟩)]:List Value).getD i undef) rfl (zL rfl) (fun i i' _ _ h=>by omega) ?_ ?_
   ·intro i o hi ho
    match i,hi with
    |0,_=>
     cases ho
     refine⟨rfl,rfl,by simp,fun a w' hb0 hd hr=>?_⟩
     have hb:=(⟨(S3.out.1.below hb0).o.box,trivial⟩:_/\True)
     exact quiet_move rfl (ev ((hr 0 (by intro i _;show 100+i≠0;omega)).trans rfl))
    |1,_=>
     cases ho
     refine⟨rfl,rfl,by simp,fun a w' hb0 hd hr=>?_⟩
     have hb:=(⟨(S3.out.1.below hb0).o.box,trivial⟩:_/\True)
     exact qa rfl (ev (hd ⟨0,.data⟩ (by simp) rfl))
    |2,_=>
     cases ho
     refine⟨rfl,rfl,by simp,fun a w' hb0 hd hr=>?_⟩
     have hb:=(⟨(S3.out.1.below hb0).o.box,trivial⟩:_/\True)
     exact jN (fo:=0) rfl (ev (hd ⟨1,.data⟩ (by simp) rfl)) (by kernel_rfl)
    |3,_=>
     cases ho
     refine⟨rfl,rfl,by simp,fun a w' hb0 hd hr=>?_⟩
     have hb:=(⟨(S3.out.1.below hb0).o.box,trivial⟩:_/\True)
     exact jN (fo:=5) rfl (ev (hd ⟨2,.data⟩ (by simp) rfl)) (by kernel_rfl)
    |4,_=>
     cases ho
     refine⟨rfl,rfl,by simp,fun a w' hb0 hd hr=>?_⟩
     have hb:=(⟨(S3.out.1.below hb0).o.box,trivial⟩:_/\True)
     exact jF rfl (ev (hd ⟨3,.data⟩ (by simp) rfl)) (by kernel_rfl) (Jq hb.1 5 rfl)
    |5,_=>
     cases ho
     refine⟨rfl,rfl,by simp,fun a w' hb0 hd hr=>?_⟩
     have hb:=(⟨(S3.out.1.below hb0).o.box,trivial⟩:_/\True)
     exact quiet_move rfl (ev ((hr 0 (by intro i _;show 100+i≠0;omega)).trans rfl))
    |6,_=>
     cases ho
     refine⟨rfl,rfl,by simp,fun a w' hb0 hd hr=>?_⟩
     have hb:=(⟨(S3.out.1.below hb0).o.box,trivial⟩:_/\True)
     exact qa rfl (ev (hd ⟨5,.data⟩ (by simp) rfl))
    |7,_=>
     cases ho
     refine⟨rfl,rfl,by simp,fun a w' hb0 hd hr=>?_⟩
     have hb:=(⟨(S3.out.1.below hb0).o.box,trivial⟩:_/\True)
     exact jN (fo:=0) rfl (ev (hd ⟨6,.data⟩ (by simp) rfl)) (by kernel_rfl)
    |8,_=>
     cases ho
     refine⟨rfl,rfl,by simp,fun a w' hb0 hd hr=>?_⟩
     have hb:=(⟨(S3.out.1.below hb0).o.box,trivial⟩:_/\True)
     exact jN (fo:=5) rfl (ev (hd ⟨7,.data⟩ (by simp) rfl)) (by kernel_rfl)
    |9,_=>
     cases ho
     refine⟨rfl,rfl,by simp,fun a w' hb0 hd hr=>?_⟩
     have hb:=(⟨(S3.out.1.below hb0).o.box,trivial⟩:_/\True)
     exact jF rfl (ev (hd ⟨8,.data⟩ (by simp) rfl)) (by kernel_rfl) (Jq hb.1 5 rfl)
    |10,_=>
     cases ho
     refine⟨rfl,rfl,by simp,fun a w' hb0 hd hr=>?_⟩
     have hb:=(⟨(S3.out.1.below hb0).o.box,trivial⟩:_/\True)
     exact ja4 (E:=56) rfl Tryz.underlying26 (ev (hd ⟨9,.data⟩ (by simp) rfl))
    |11,_=>
     cases ho
     refine⟨rfl,rfl,by simp,fun a w' hb0 hd hr=>?_⟩
     have hb:=(⟨(S3.out.1.below hb0).o.box,trivial⟩:_/\True)
     exact ja3 rfl (ev (hd ⟨10,.data⟩ (by simp) rfl)) (by exact rfl) wk
    |12,_=>
     cases ho
     refine⟨rfl,rfl,by simp,fun a w' hb0 hd hr=>?_⟩
     have hb:=(⟨(S3.out.1.below hb0).o.box,trivial⟩:_/\True)
     exact vg (sz:=20) rfl (ev (hd ⟨4,.data⟩ (by simp) rfl)) (ev (hd ⟨11,.data⟩ (by simp) rfl)) (by kernel_rfl) (by omega)
    |j+13,h=>exact absurd h (by omega)
   ·refine⟨_,rfl,rfl,fun f h1 h2=>by
     have t12:f 12=true:=h1 ⟨12,.data⟩ (by simp) rfl
     have t0:f 0=true:=h1 ⟨0,.phase⟩ (by simp) rfl
     have t1:f 1=true:=h1 ⟨1,.phase⟩ (by simp) rfl
     have t2:f 2=true:=h1 ⟨2,.phase⟩ (by simp) rfl
     have t3:f 3=true:=h1 ⟨3,.phase⟩ (by simp) rfl
     have t4:f 4=true:=h1 ⟨4,.phase⟩ (by simp) rfl
     have t5:f 5=true:=h1 ⟨5,.phase⟩ (by simp) rfl
     have t6:f 6=true:=h1 ⟨6,.phase⟩ (by simp) rfl
     have t7:f 7=true:=h1 ⟨7,.phase⟩ (by simp) rfl
     have t8:f 8=true:=h1 ⟨8,.phase⟩ (by simp) rfl
     have t9:f 9=true:=h1 ⟨9,.phase⟩ (by simp) rfl
     have t10:f 10=true:=h1 ⟨10,.phase⟩ (by simp) rfl
     have t11:f 11=true:=h1 ⟨11,.phase⟩ (by simp) rfl
     intro i hi
     match i,hi with
     |0,_=>exact t0
     |1,_=>exact t1
     |2,_=>exact t2
     |3,_=>exact t3
     |4,_=>exact t4
     |5,_=>exact t5
     |6,_=>exact t6
     |7,_=>exact t7
     |8,_=>exact t8
     |9,_=>exact t9
     |10,_=>exact t10
     |11,_=>exact t11
     |12,_=>exact t12
     |j+13,h=>exact absurd h (by omega),?_⟩
    intro w6 a g1 hsz hdf hv hr
    refine Ws rfl rfl (ev (hv 12 (by decide))) ?_
    rename_i hK
    refine hK _ _ (wp_seq ?_)
    have r1:(a.put (some 11) (.pointer (some ⟨gB,init.length*20,none⟩))).tmps[11]? = some (.pointer (some ⟨gB,init.length*20,none⟩)):=put_eq (by rw[hsz];simp)
    have r2:(a.put (some 11) (.pointer (some ⟨gB,init.length*20,none⟩))).tmps[9]? = some (.pointer (some ⟨w1.heap.size,0,none⟩)):=(qh (by decide)).trans ((hr 9 (by intro i _;show 100+i≠9;omega)).trans rfl)
    have hsz2:(a.put (some 11) (.pointer (some ⟨gB,init.length*20,none⟩))).tmps.size=152:=Zc.trans (hsz.trans (by simp))
    have hdf2:(a.put (some 11) (.pointer (some ⟨gB,init.length*20,none⟩))).defers=[]:=hdf
    have S6:Hid (_/\_):=⟨S3.out.1.below g1,S3.out.2.below g1⟩
    change Code.wp _ _ _ (a.put (some 11) (.pointer (some ⟨gB,init.length*20,none⟩))) _
    generalize a.put (some 11) (.pointer (some ⟨gB,init.length*20,none⟩))=aQ at r1 r2 hsz2 hdf2⊢
    clear hv hr hsz hdf
    refine yO zJ 10 6 7 (fun i=>113+i) (fun i=>([.pointer (some ⟨gB,init.length*20,none⟩),.pointer (some ⟨gB,init.length*20,none⟩),.pointer (some ⟨gB,init.length*20,none⟩),.pointer (some ⟨gB,init.length*20+19,none⟩),hF,.agg (List.toArray A),undef,undef,.pointer (some ⟨gB,init.length*20,none⟩),.pointer (some ⟨gB,init.length*20+19,none⟩)]:List Value).getD i undef) (fun w'=>w'.ownsRow W0.heap.size 56 20 (.slice (some ⟨gB,0,none⟩) x.ji.length cB) x.ji.length xb/\w'.heap[w1.heap.size]? = some (.cells (List.toArray A) 67 (0,0))) W0.heap.size 54 67 iE (.agg je4.toArray) 10 96 Tryz.underlying54 HI.out.1 HI.out.2.1 HI.out.2.2.1 HI.out.2.2.2 rfl (by decide) hF nF xf A (S6.out.1.o.rows ⟨67,10,nF,hF,xf⟩ (by simp[jG])) (S1.out.2.1.length.symm) (S1.out.2.2) (by have:=HC.out.2;simp[maxLen];omega) (by have:=HC.out.2;omega) (S6.out.1.o.bel.size) rfl (zL rfl) (fun i i' _ _ h=>by omega) (by decide) (fun w1 w2 b1 b2=>(⟨S6.out.1.o.other (i:=4) (j:=0) (r:=⟨67,10,nF,hF,xf⟩) rfl rfl (by decide) b1 b2,S6.out.2.base (r:=⟨67,10,nF,hF,xf⟩) (by simp[jG]) b1 b2⟩:_/\_)) ?_ ?_ ?_ ?_
    ·intro i o hi n1 n2 ho
     match i,hi,n1,n2 with
     |0,_,_,_=>
      cases ho
      exact⟨rfl,rfl,(by show(_:Nat)<aQ.tmps.size;rw[hsz2];decide),fun a w' hb hd hr=>quiet_move rfl (ev ((hr 11 (by intro i _;show 113+i≠11;omega)).trans r1))⟩
     |1,_,_,_=>
      cases ho
      exact⟨rfl,rfl,(by show(_:Nat)<aQ.tmps.size;rw[hsz2];decide),fun a w' hb hd hr=>quiet_move rfl (ev ((hr 11 (by intro i _;show 113+i≠11;omega)).trans r1))⟩
     |2,_,_,_=>
      cases ho
      exact⟨rfl,rfl,(by show(_:Nat)<aQ.tmps.size;rw[hsz2];decide),fun a w' hb hd hr=>qa rfl (ev (hd ⟨1,.data⟩ (by simp) rfl (by decide) (by decide)))⟩
     |3,_,_,_=>
      cases ho
      exact⟨rfl,rfl,(by show(_:Nat)<aQ.tmps.size;rw[hsz2];decide),fun a w' hb hd hr=>jN (fo:=19) rfl (ev (hd ⟨2,.data⟩ (by simp) rfl (by decide) (by decide))) (by kernel_rfl)⟩
     |4,_,_,_=>
      cases ho
      exact⟨rfl,rfl,(by show(_:Nat)<aQ.tmps.size;rw[hsz2];decide),fun a w' hb hd hr=>jF rfl (ev (hd ⟨3,.data⟩ (by simp) rfl (by decide) (by decide))) (by kernel_rfl) ((ZM hb.1 HC.out.1 hpos).1)⟩
     |5,_,_,_=>
      cases ho
      exact⟨rfl,rfl,(by show(_:Nat)<aQ.tmps.size;rw[hsz2];decide),fun a w' hb hd hr=>vw rfl (ev ((hr 9 (by intro i _;show 113+i≠9;omega)).trans r2)) (by kernel_rfl) (by rw[<-S1.out.2.1.length];exact HR.out) (hb.2)⟩
     |6,_,h,_=>exact absurd rfl h
     |7,_,_,h=>exact absurd rfl h
     |8,_,_,_=>
      cases ho
      exact⟨rfl,rfl,(by show(_:Nat)<aQ.tmps.size;rw[hsz2];decide),fun a w' hb hd hr=>qa rfl (ev (hd ⟨0,.data⟩ (by simp) rfl (by decide) (by decide)))⟩
     |9,_,_,_=>
      cases ho
      exact⟨rfl,rfl,(by show(_:Nat)<aQ.tmps.size;rw[hsz2];decide),fun a w' hb hd hr=>jN (fo:=19) rfl (ev (hd ⟨8,.data⟩ (by simp) rfl (by decide) (by decide))) (by kernel_rfl)⟩
     |j+10,h,_,_=>exact absurd h (by omega)
    ·exact⟨_,_,rfl,rfl,rfl,(by show(_:Nat)<aQ.tmps.size;rw[hsz2];decide),rfl,fun a hd=>ev (hd ⟨5,.data⟩ (by simp) rfl (by decide) (by decide))⟩
    ·exact⟨_,_,rfl,rfl,rfl,(by show(_:Nat)<aQ.tmps.size;rw[hsz2];decide),rfl,⟨⟨6,.data⟩,by simp,rfl,rfl⟩,fun a hd=>ev (hd ⟨4,.data⟩ (by simp) rfl (by decide) (by decide))⟩
    ·refine⟨_,rfl,rfl,fun f h1 h2=>by
      have t9:f 9=true:=h1 ⟨9,.data⟩ (by simp) rfl
      have t7:f 7=true:=h1 ⟨7,.data⟩ (by simp) rfl
      have t0:f 0=true:=h1 ⟨0,.phase⟩ (by simp) rfl
      have t1:f 1=true:=h1 ⟨1,.phase⟩ (by simp) rfl
      have t2:f 2=true:=h1 ⟨2,.phase⟩ (by simp) rfl
      have t3:f 3=true:=h1 ⟨3,.phase⟩ (by simp) rfl
      have t4:f 4=true:=h1 ⟨4,.phase⟩ (by simp) rfl
      have t5:f 5=true:=h1 ⟨5,.phase⟩ (by simp) rfl
      have t6:f 6=true:=h1 ⟨6,.phase⟩ (by simp) rfl
      have t8:f 8=true:=h2 9 _ rfl t9 ⟨8,.data⟩ (by simp) rfl
      intro i hi
      match i,hi with
      |0,_=>exact t0
      |1,_=>exact t1
      |2,_=>exact t2
      |3,_=>exact t3
      |4,_=>exact t4
      |5,_=>exact t5
      |6,_=>exact t6
      |7,_=>exact t7
      |8,_=>exact t8
      |9,_=>exact t9
      |j+10,h=>exact absurd h (by omega),?_⟩
     intro v6 w5 w6 a g1 g2 g3 g4 hsz hdf hv hA hr
     have hb:=(⟨S6.out.1.o.other (i:=4) (j:=0) (r:=⟨67,10,nF,hF,xf⟩) rfl rfl (by decide) g1 g2,S6.out.2.base (r:=⟨67,10,nF,hF,xf⟩) (by simp[jG]) g1 g2⟩:_/\_)
     refine Kb rfl rfl (ev (hv 9 (by decide) (by decide) (by decide))) (ev hA) (Yd g3).1 (by kernel_rfl) ((ZM hb.1 HC.out.1 hpos).1) ((ZM hb.1 HC.out.1 hpos).2) (Yd g3).2 ?_
     change Code.wp _ _ _ _ _;refine VU rfl rfl rfl rfl ?_
     simp only[Exit.inBlock,Exit.then]
     refine bodyPost_ret (jkc (fn:=Tryz.f121) rfl (by show 4<a.tmps.size;rw[hsz,hsz2];decide)) (hdf.trans hdf2) ?_
     obtain⟨xq,Z⟩:=(S6.out.1.below g1).Pj hxb rfl (S1.out.2.1.mono (zc _ _)) S1.out.2.2 g3 g2 g4 (Yd g3).2
     exact⟨true,rfl,rfl,Z.o.bel,fun _=>Z.px⟩
  ·have hs1:(sec==2)=false:=by rw[beq_eq_false_iff_ne];exact hs
   have hs2:(sec != 2)=true:=by rw[bne_iff_ne];exact hs
   clear hx
   go_enter Tryz.func121,Tryz.ntmps121
   go_wp2_with (first
    |(go_at_call 23;refine kk.mono ?_;rintro e w1 ⟨A,M1,rfl,hn,hA,hA1⟩
      have S1:Hid (_/\_/\_):=⟨HP.out.call hn,hA,hA1⟩
      clear hn hA hA1 kk c0)
    |(refine jA (cs:=A) (arr:=je4) rfl rfl rfl rfl rfl (by rw[<-S1.out.2.1.length];exact HR.out) (yy w1 _ _ rfl) (by rw[<-S1.out.2.1.length];exact Nat.le_refl 10) S1.out.2.2 ?_
      intro w3 hz hg
      have S3:Hid (_/\_):=S1.out.1.made (A:=A) (Z:=je4) (k:=10) S1.out.2.1.length.symm rfl hz hg
      have c11:w3.cell? ⟨bp,11,none⟩=some (.int .i64 sec):=Jq S3.out.1.o.box 11 rfl
      clear hz hg))
   go_ret
   exact⟨false,by rw[hs1];rfl,rfl,S3.out.1.o.bel,by simp⟩
 ·have hc1:(c==0)=false:=by rw[beq_eq_false_iff_ne];exact hc
  clear hx
  rw[hc1]
  go_enter Tryz.func121,Tryz.ntmps121
  go_wp2_with (first
   |(go_at_call 23;refine kk.mono ?_;rintro e w1 ⟨A,M1,rfl,hn,hA,hA1⟩
     have S1:Hid (_/\_/\_):=⟨HP.out.call hn,hA,hA1⟩
     clear hn hA hA1 kk c0)
   |(refine jA (cs:=A) (arr:=je4) rfl rfl rfl rfl rfl (by rw[<-S1.out.2.1.length];exact HR.out) (yy w1 _ _ rfl) (by rw[<-S1.out.2.1.length];exact Nat.le_refl 10) S1.out.2.2 ?_
     intro w3 hz hg
     have S3:Hid (_/\_):=S1.out.1.made (A:=A) (Z:=je4) (k:=10) S1.out.2.1.length.symm rfl hz hg
     have c11:w3.cell? ⟨bp,11,none⟩=some (.int .i64 sec):=Jq S3.out.1.o.box 11 rfl
     clear hz hg))
  go_ret
  exact⟨false,rfl,rfl,S3.out.1.o.bel,by simp⟩
end
section
variable {W0:World} {x:jo} {sec:Int} {M M':Mem} {bp:Nat} {h0 h1 h2 h3 hF hP:Value} {nF nP:Nat} {xb xj xc xo xf xp:List Value} {w w1 w2:World}
set_option maxHeartbeats 4000000 in
theorem jbT {rest:List (List UInt8)}{vf:Value}(hS:PS W0 x sec M bp h0 h1 h2 h3 hF hP nF nP xb xj xc xo xf xp w)(hr:Rep M jh (jQ ([112,111,105,110,116]::rest)) vf){l:List Int}{ok1:Bool}{init:List JL}{last:JL}(h:jZ ([112,111,105,110,116]::rest) 6=some (l,ok1))(hl:ok1=true->l.length=6)(hx:sec=4->x.jc=init++[last])(hlb:init.length<1048576)(hlen:last.jt.jY.length<1048576):
 Calls Tryz.prog 159 #[.pointer (some ⟨bp,0,none⟩),vf] w fun e w'=>∃ok:Bool,ok=(ok1&&sec==4)/\e=.returned (.bool ok)/\Below W0.heap.size W0 w'/\(ok=true->PX W0 {x with jc:=init++[{last with jt:={last.jt with jY:=last.jt.jY++[kv l]}}]} 4 bp w'):=by
 obtain⟨ad,cap,rfl,hm⟩:=YW hr
 obtain⟨blk,off,rfl,hm2⟩:=hm (by simp)
 have c0:w.cell? ⟨blk,off,none⟩=some (.string ⟨List.toArray [112,111,105,110,116]⟩):=hS.o.iM _ _ _ (hm2 0 _ rfl)
 have HP:Hid (_):=hS
 have hr0:Hid (Rep M jh _ _):=hr
 obtain⟨n,hn⟩:∃n,(([112,111,105,110,116]:List UInt8)::rest).length=n:=⟨_,rfl⟩
 rw[hn]at hr0⊢
 have hn0:(0:Int)<(n:Int):=by rw[<-hn];simp
 have e158:=Tryz.call158
 have ek:=Tryz.call157
 obtain⟨iE,a1,a2,a3,a4⟩:=info_parts (P:=Tryz.prog) (e:=131) (z:=.agg i6Z.toArray) (size:=6) (bytes:=48) (by kernel_rfl)
 have HI:Hid (_/\_/\_/\_):=⟨a1,a2,a3,a4⟩
 clear a1 a2 a3 a4
 have u147:=Tryz.underlying147
 cases ok1 with
 |true=>
  have hl2:=hl rfl
  have kk:=WU h hl2 (by decide) HP.out.o.iM hr0.out
  obtain⟨a0,a1,a2,a3,a4,a5,rfl⟩:=len6 hl2
  clear hr hm hm2 hS hn h hl hl2
  by_cases hs:sec=4
  ·subst hs
   have hxb:=hx rfl
   have hpos:0<x.jc.length:=by rw[hxb];simp
   obtain⟨gB,cB,hgb⟩:∃g cap,h2=.slice (some ⟨g,0,none⟩) x.jc.length cap:=Mv (HP.out.o.rows ⟨88,7,x.jc.length,h2,xc⟩ (by simp[jG])) hpos
   subst hgb
   have HC:Hid (_/\_):=HP.out.pcell hxb
   have nB:x.jc.length=init.length+1:=by rw[hxb];simp
   have wk:IntKind.i64.wrap ((x.jc.length:Int) - 1)=(init.length:Int):=by rw[nB,IntKind.wrap_i64];omega
   go_enter Tryz.func159,Tryz.ntmps159
   go_wp2_with (first
    |(go_at_call 157;refine kk.mono ?_;rintro e w1 ⟨ib,io,ic,M1,rfl,hn,hv⟩
      have S1:Hid (_):=HP.out.call hn
      have HV:Hid (_):=hv
      have c11:w1.cell? ⟨bp,11,none⟩=some (.int .i64 4):=Jq S1.out.o.box 11 rfl
      clear hn hv kk c0))
   refine Kk zJ 14 (fun i=>78+i) (fun i=>([.pointer (some ⟨bp,0,none⟩),.pointer (some ⟨bp,0,none⟩),.pointer (some ⟨bp,0,none⟩),.pointer (some ⟨bp,7,none⟩),.slice (some ⟨gB,0,none⟩) x.jc.length cB,.pointer (some ⟨bp,0,none⟩),.pointer (some ⟨bp,0,none⟩),.pointer (some ⟨bp,0,none⟩),.pointer (some ⟨bp,7,none⟩),.slice (some ⟨gB,0,none⟩) x.jc.length cB,.int .i64 (x.jc.length:Int),.int .i64 (init.length:Int),.pointer (some ⟨gB,init.length*7,none⟩),.pointer (some ⟨gB,init.length*7+4,none⟩)]:List Value).getD i undef) rfl (zL rfl) (fun i i' _ _ h=>by omega) ?_ ?_
   ·intro i o hi ho
    match i,hi with
    |0,_=>
     cases ho
     refine⟨rfl,rfl,by simp,fun a w' hb0 hd hr=>?_⟩
     have hb:=(⟨(S1.out.below hb0).o.box,trivial⟩:_/\True)
     exact quiet_move rfl (ev ((hr 0 (by intro i _;show 78+i≠0;omega)).trans rfl))
    |1,_=>
     cases ho
     refine⟨rfl,rfl,by simp,fun a w' hb0 hd hr=>?_⟩
     have hb:=(⟨(S1.out.below hb0).o.box,trivial⟩:_/\True)
     exact qa rfl (ev (hd ⟨0,.data⟩ (by simp) rfl))
    |2,_=>
     cases ho
     refine⟨rfl,rfl,by simp,fun a w' hb0 hd hr=>?_⟩
     have hb:=(⟨(S1.out.below hb0).o.box,trivial⟩:_/\True)
     exact jN (fo:=0) rfl (ev (hd ⟨1,.data⟩ (by simp) rfl)) (by kernel_rfl)
    |3,_=>
     cases ho
     refine⟨rfl,rfl,by simp,fun a w' hb0 hd hr=>?_⟩
     have hb:=(⟨(S1.out.below hb0).o.box,trivial⟩:_/\True)
     exact jN (fo:=7) rfl (ev (hd ⟨2,.data⟩ (by simp) rfl)) (by kernel_rfl)
    |4,_=>
     cases ho
     refine⟨rfl,rfl,by simp,fun a w' hb0 hd hr=>?_⟩
     have hb:=(⟨(S1.out.below hb0).o.box,trivial⟩:_/\True)
     exact jF rfl (ev (hd ⟨3,.data⟩ (by simp) rfl)) (by kernel_rfl) (Jq hb.1 7 rfl)
    |5,_=>
     cases ho
     refine⟨rfl,rfl,by simp,fun a w' hb0 hd hr=>?_⟩
     have hb:=(⟨(S1.out.below hb0).o.box,trivial⟩:_/\True)
     exact quiet_move rfl (ev ((hr 0 (by intro i _;show 78+i≠0;omega)).trans rfl))
    |6,_=>
     cases ho
     refine⟨rfl,rfl,by simp,fun a w' hb0 hd hr=>?_⟩
     have hb:=(⟨(S1.out.below hb0).o.box,trivial⟩:_/\True)
     exact qa rfl (ev (hd ⟨5,.data⟩ (by simp) rfl))
    |7,_=>
     cases ho
     refine⟨rfl,rfl,by simp,fun a w' hb0 hd hr=>?_⟩
     have hb:=(⟨(S1.out.below hb0).o.box,trivial⟩:_/\True)
     exact jN (fo:=0) rfl (ev (hd ⟨6,.data⟩ (by simp) rfl)) (by kernel_rfl)
    |8,_=>
     cases ho
     refine⟨rfl,rfl,by simp,fun a w' hb0 hd hr=>?_⟩
     have hb:=(⟨(S1.out.below hb0).o.box,trivial⟩:_/\True)
     exact jN (fo:=7) rfl (ev (hd ⟨7,.data⟩ (by simp) rfl)) (by kernel_rfl)
    |9,_=>
     cases ho
     refine⟨rfl,rfl,by simp,fun a w' hb0 hd hr=>?_⟩
     have hb:=(⟨(S1.out.below hb0).o.box,trivial⟩:_/\True)
     exact jF rfl (ev (hd ⟨8,.data⟩ (by simp) rfl)) (by kernel_rfl) (Jq hb.1 7 rfl)
    |10,_=>
     cases ho
     refine⟨rfl,rfl,by simp,fun a w' hb0 hd hr=>?_⟩
     have hb:=(⟨(S1.out.below hb0).o.box,trivial⟩:_/\True)
     exact ja4 (E:=88) rfl Tryz.underlying28 (ev (hd ⟨9,.data⟩ (by simp) rfl))
    |11,_=>
     cases ho
     refine⟨rfl,rfl,by simp,fun a w' hb0 hd hr=>?_⟩
     have hb:=(⟨(S1.out.below hb0).o.box,trivial⟩:_/\True)
     exact ja3 rfl (ev (hd ⟨10,.data⟩ (by simp) rfl)) (by exact rfl) wk
    |12,_=>
     cases ho
     refine⟨rfl,rfl,by simp,fun a w' hb0 hd hr=>?_⟩
     have hb:=(⟨(S1.out.below hb0).o.box,trivial⟩:_/\True)
     exact vg (sz:=7) rfl (ev (hd ⟨4,.data⟩ (by simp) rfl)) (ev (hd ⟨11,.data⟩ (by simp) rfl)) (by kernel_rfl) (by omega)
    |13,_=>
     cases ho
     refine⟨rfl,rfl,by simp,fun a w' hb0 hd hr=>?_⟩
     have hb:=(⟨(S1.out.below hb0).o.box,trivial⟩:_/\True)
     exact jN (fo:=4) rfl (ev (hd ⟨12,.data⟩ (by simp) rfl)) (by kernel_rfl)
    |j+14,h=>exact absurd h (by omega)
   ·refine⟨_,rfl,rfl,fun f h1 h2=>by
     have t13:f 13=true:=h1 ⟨13,.data⟩ (by simp) rfl
     have t0:f 0=true:=h1 ⟨0,.phase⟩ (by simp) rfl
     have t1:f 1=true:=h1 ⟨1,.phase⟩ (by simp) rfl
     have t2:f 2=true:=h1 ⟨2,.phase⟩ (by simp) rfl
     have t3:f 3=true:=h1 ⟨3,.phase⟩ (by simp) rfl
     have t4:f 4=true:=h1 ⟨4,.phase⟩ (by simp) rfl
     have t5:f 5=true:=h1 ⟨5,.phase⟩ (by simp) rfl
     have t6:f 6=true:=h1 ⟨6,.phase⟩ (by simp) rfl
     have t7:f 7=true:=h1 ⟨7,.phase⟩ (by simp) rfl
     have t8:f 8=true:=h1 ⟨8,.phase⟩ (by simp) rfl
     have t9:f 9=true:=h1 ⟨9,.phase⟩ (by simp) rfl
     have t10:f 10=true:=h1 ⟨10,.phase⟩ (by simp) rfl
     have t11:f 11=true:=h1 ⟨11,.phase⟩ (by simp) rfl
     have t12:f 12=true:=h1 ⟨12,.phase⟩ (by simp) rfl
     intro i hi
     match i,hi with
     |0,_=>exact t0
     |1,_=>exact t1
     |2,_=>exact t2
     |3,_=>exact t3
     |4,_=>exact t4
     |5,_=>exact t5
     |6,_=>exact t6
     |7,_=>exact t7
     |8,_=>exact t8
     |9,_=>exact t9
     |10,_=>exact t10
     |11,_=>exact t11
     |12,_=>exact t12
     |13,_=>exact t13
     |j+14,h=>exact absurd h (by omega),?_⟩
    intro w6 a g1 hsz hdf hv hr
    refine Ws rfl rfl (ev (hv 13 (by decide))) ?_
    rename_i hK
    refine hK _ _ (wp_seq ?_)
    have r1:(a.put (some 9) (.pointer (some ⟨gB,init.length*7+4,none⟩))).tmps[9]? = some (.pointer (some ⟨gB,init.length*7+4,none⟩)):=put_eq (by rw[hsz];simp)
    have r2:(a.put (some 9) (.pointer (some ⟨gB,init.length*7+4,none⟩))).tmps[7]? = some (.slice (some ⟨ib,io,none⟩) 6 ic):=(qh (by decide)).trans ((hr 7 (by intro i _;show 78+i≠7;omega)).trans rfl)
    have hsz2:(a.put (some 9) (.pointer (some ⟨gB,init.length*7+4,none⟩))).tmps.size=159:=Zc.trans (hsz.trans (by simp))
    have hdf2:(a.put (some 9) (.pointer (some ⟨gB,init.length*7+4,none⟩))).defers=[]:=hdf
    have S6:Hid (_/\_):=⟨S1.out.below g1,trivial⟩
    change Code.wp _ _ _ (a.put (some 9) (.pointer (some ⟨gB,init.length*7+4,none⟩))) _
    generalize a.put (some 9) (.pointer (some ⟨gB,init.length*7+4,none⟩))=aQ at r1 r2 hsz2 hdf2⊢
    clear hv hr hsz hdf
    refine yO zJ 29 25 26 (fun i=>92+i) (fun i=>([.pointer (some ⟨gB,init.length*7+4,none⟩),.pointer (some ⟨gB,init.length*7+4,none⟩),.pointer (some ⟨gB,init.length*7+4,none⟩),.pointer (some ⟨gB,init.length*7+4+2,none⟩),hP,.slice (some ⟨ib,io,none⟩) 6 ic,.pointer (some ⟨ib,io+0,none⟩),.int .i64 a0,.slice (some ⟨ib,io,none⟩) 6 ic,.pointer (some ⟨ib,io+1,none⟩),.int .i64 a1,.agg (List.toArray [.int .i64 a0,.int .i64 a1]),.slice (some ⟨ib,io,none⟩) 6 ic,.pointer (some ⟨ib,io+2,none⟩),.int .i64 a2,.slice (some ⟨ib,io,none⟩) 6 ic,.pointer (some ⟨ib,io+3,none⟩),.int .i64 a3,.slice (some ⟨ib,io,none⟩) 6 ic,.pointer (some ⟨ib,io+4,none⟩),.int .i64 a4,.slice (some ⟨ib,io,none⟩) 6 ic,.pointer (some ⟨ib,io+5,none⟩),.int .i64 a5,.agg (List.toArray [.int .i64 a0,.int .i64 a1,.int .i64 a2,.int .i64 a3,.int .i64 a4,.int .i64 a5]),undef,undef,.pointer (some ⟨gB,init.length*7+4,none⟩),.pointer (some ⟨gB,init.length*7+4+2,none⟩)]:List Value).getD i undef) (fun w'=>w'.ownsRow W0.heap.size 88 7 (.slice (some ⟨gB,0,none⟩) x.jc.length cB) x.jc.length xc/\Imm (zr M M1) w') W0.heap.size 82 131 iE (.agg i6Z.toArray) 6 48 Tryz.underlying82 HI.out.1 HI.out.2.1 HI.out.2.2.1 HI.out.2.2.2 rfl (by decide) hP nP xp [Value.int .i64 a0,Value.int .i64 a1,Value.int .i64 a2,Value.int .i64 a3,Value.int .i64 a4,Value.int .i64 a5] (S6.out.1.o.rows ⟨131,6,nP,hP,xp⟩ (by simp[jG])) (rfl) (vV [a0,a1,a2,a3,a4,a5]) (by have:=HC.out.2;simp[maxLen];omega) (by have:=HC.out.2;omega) (S6.out.1.o.bel.size) rfl (zL rfl) (fun i i' _ _ h=>by omega) (by decide) (fun w1 w2 b1 b2=>(⟨S6.out.1.o.other (i:=5) (j:=2) (r:=⟨131,6,nP,hP,xp⟩) rfl rfl (by decide) b1 b2,(S6.out.1.o.base (r:=⟨131,6,nP,hP,xp⟩) (by simp[jG]) b1 b2).2⟩:_/\_)) ?_ ?_ ?_ ?_
    ·intro i o hi n1 n2 ho
     match i,hi,n1,n2 with
     |0,_,_,_=>
      cases ho
      exact⟨rfl,rfl,(by show(_:Nat)<aQ.tmps.size;rw[hsz2];decide),fun a w' hb hd hr=>quiet_move rfl (ev ((hr 9 (by intro i _;show 92+i≠9;omega)).trans r1))⟩
     |1,_,_,_=>
      cases ho
      exact⟨rfl,rfl,(by show(_:Nat)<aQ.tmps.size;rw[hsz2];decide),fun a w' hb hd hr=>quiet_move rfl (ev ((hr 9 (by intro i _;show 92+i≠9;omega)).trans r1))⟩
     |2,_,_,_=>
      cases ho
      exact⟨rfl,rfl,(by show(_:Nat)<aQ.tmps.size;rw[hsz2];decide),fun a w' hb hd hr=>qa rfl (ev (hd ⟨1,.data⟩ (by simp) rfl (by decide) (by decide)))⟩
     |3,_,_,_=>
      cases ho
      exact⟨rfl,rfl,(by show(_:Nat)<aQ.tmps.size;rw[hsz2];decide),fun a w' hb hd hr=>jN (fo:=2) rfl (ev (hd ⟨2,.data⟩ (by simp) rfl (by decide) (by decide))) (by kernel_rfl)⟩
     |4,_,_,_=>
      cases ho
      exact⟨rfl,rfl,(by show(_:Nat)<aQ.tmps.size;rw[hsz2];decide),fun a w' hb hd hr=>jF rfl (ev (hd ⟨3,.data⟩ (by simp) rfl (by decide) (by decide))) (by kernel_rfl) ((ZM hb.1 HC.out.1 hpos).1)⟩
     |5,_,_,_=>
      cases ho
      exact⟨rfl,rfl,(by show(_:Nat)<aQ.tmps.size;rw[hsz2];decide),fun a w' hb hd hr=>quiet_move rfl (ev ((hr 7 (by intro i _;show 92+i≠7;omega)).trans r2))⟩
     |6,_,_,_=>
      cases ho
      exact⟨rfl,rfl,(by show(_:Nat)<aQ.tmps.size;rw[hsz2];decide),fun a w' hb hd hr=>Jb (i:=0) (sz:=1) rfl (ev (hd ⟨5,.data⟩ (by simp) rfl (by decide) (by decide))) (by exact rfl) (by kernel_rfl) (by decide) (by decide)⟩
     |7,_,_,_=>
      cases ho
      exact⟨rfl,rfl,(by show(_:Nat)<aQ.tmps.size;rw[hsz2];decide),fun a w' hb hd hr=>jF rfl (ev (hd ⟨6,.data⟩ (by simp) rfl (by decide) (by decide))) (by kernel_rfl) (hb.2 _ _ _ (HV.out 0 _ rfl))⟩
     |8,_,_,_=>
      cases ho
      exact⟨rfl,rfl,(by show(_:Nat)<aQ.tmps.size;rw[hsz2];decide),fun a w' hb hd hr=>quiet_move rfl (ev ((hr 7 (by intro i _;show 92+i≠7;omega)).trans r2))⟩
     |9,_,_,_=>
      cases ho
      exact⟨rfl,rfl,(by show(_:Nat)<aQ.tmps.size;rw[hsz2];decide),fun a w' hb hd hr=>Jb (i:=1) (sz:=1) rfl (ev (hd ⟨8,.data⟩ (by simp) rfl (by decide) (by decide))) (by exact rfl) (by kernel_rfl) (by decide) (by decide)⟩
     |10,_,_,_=>
      cases ho
      exact⟨rfl,rfl,(by show(_:Nat)<aQ.tmps.size;rw[hsz2];decide),fun a w' hb hd hr=>jF rfl (ev (hd ⟨9,.data⟩ (by simp) rfl (by decide) (by decide))) (by kernel_rfl) (hb.2 _ _ _ (HV.out 1 _ rfl))⟩
     |11,_,_,_=>
      cases ho
      exact⟨rfl,rfl,(by show(_:Nat)<aQ.tmps.size;rw[hsz2];decide),fun a w' hb hd hr=>qb (parts:=[(0,.int .i64 a0),(1,.int .i64 a1)]) rfl (by simp;exact⟨ev (hd ⟨7,.data⟩ (by simp) rfl (by decide) (by decide)),ev (hd ⟨10,.data⟩ (by simp) rfl (by decide) (by decide))⟩) (by kernel_rfl)⟩
     |12,_,_,_=>
      cases ho
      exact⟨rfl,rfl,(by show(_:Nat)<aQ.tmps.size;rw[hsz2];decide),fun a w' hb hd hr=>quiet_move rfl (ev ((hr 7 (by intro i _;show 92+i≠7;omega)).trans r2))⟩
     |13,_,_,_=>
      cases ho
      exact⟨rfl,rfl,(by show(_:Nat)<aQ.tmps.size;rw[hsz2];decide),fun a w' hb hd hr=>Jb (i:=2) (sz:=1) rfl (ev (hd ⟨12,.data⟩ (by simp) rfl (by decide) (by decide))) (by exact rfl) (by kernel_rfl) (by decide) (by decide)⟩
     |14,_,_,_=>
      cases ho
      exact⟨rfl,rfl,(by show(_:Nat)<aQ.tmps.size;rw[hsz2];decide),fun a w' hb hd hr=>jF rfl (ev (hd ⟨13,.data⟩ (by simp) rfl (by decide) (by decide))) (by kernel_rfl) (hb.2 _ _ _ (HV.out 2 _ rfl))⟩
     |15,_,_,_=>
      cases ho
      exact⟨rfl,rfl,(by show(_:Nat)<aQ.tmps.size;rw[hsz2];decide),fun a w' hb hd hr=>quiet_move rfl (ev ((hr 7 (by intro i _;show 92+i≠7;omega)).trans r2))⟩
     |16,_,_,_=>
      cases ho
      exact⟨rfl,rfl,(by show(_:Nat)<aQ.tmps.size;rw[hsz2];decide),fun a w' hb hd hr=>Jb (i:=3) (sz:=1) rfl (ev (hd ⟨15,.data⟩ (by simp) rfl (by decide) (by decide))) (by exact rfl) (by kernel_rfl) (by decide) (by decide)⟩
     |17,_,_,_=>
      cases ho
      exact⟨rfl,rfl,(by show(_:Nat)<aQ.tmps.size;rw[hsz2];decide),fun a w' hb hd hr=>jF rfl (ev (hd ⟨16,.data⟩ (by simp) rfl (by decide) (by decide))) (by kernel_rfl) (hb.2 _ _ _ (HV.out 3 _ rfl))⟩
     |18,_,_,_=>
      cases ho
      exact⟨rfl,rfl,(by show(_:Nat)<aQ.tmps.size;rw[hsz2];decide),fun a w' hb hd hr=>quiet_move rfl (ev ((hr 7 (by intro i _;show 92+i≠7;omega)).trans r2))⟩
     |19,_,_,_=>
      cases ho
      exact⟨rfl,rfl,(by show(_:Nat)<aQ.tmps.size;rw[hsz2];decide),fun a w' hb hd hr=>Jb (i:=4) (sz:=1) rfl (ev (hd ⟨18,.data⟩ (by simp) rfl (by decide) (by decide))) (by exact rfl) (by kernel_rfl) (by decide) (by decide)⟩
     |20,_,_,_=>
      cases ho
      exact⟨rfl,rfl,(by show(_:Nat)<aQ.tmps.size;rw[hsz2];decide),fun a w' hb hd hr=>jF rfl (ev (hd ⟨19,.data⟩ (by simp) rfl (by decide) (by decide))) (by kernel_rfl) (hb.2 _ _ _ (HV.out 4 _ rfl))⟩
     |21,_,_,_=>
      cases ho
      exact⟨rfl,rfl,(by show(_:Nat)<aQ.tmps.size;rw[hsz2];decide),fun a w' hb hd hr=>quiet_move rfl (ev ((hr 7 (by intro i _;show 92+i≠7;omega)).trans r2))⟩
     |22,_,_,_=>
      cases ho
      exact⟨rfl,rfl,(by show(_:Nat)<aQ.tmps.size;rw[hsz2];decide),fun a w' hb hd hr=>Jb (i:=5) (sz:=1) rfl (ev (hd ⟨21,.data⟩ (by simp) rfl (by decide) (by decide))) (by exact rfl) (by kernel_rfl) (by decide) (by decide)⟩
     |23,_,_,_=>
      cases ho
      exact⟨rfl,rfl,(by show(_:Nat)<aQ.tmps.size;rw[hsz2];decide),fun a w' hb hd hr=>jF rfl (ev (hd ⟨22,.data⟩ (by simp) rfl (by decide) (by decide))) (by kernel_rfl) (hb.2 _ _ _ (HV.out 5 _ rfl))⟩
     |24,_,_,_=>
      cases ho
      exact⟨rfl,rfl,(by show(_:Nat)<aQ.tmps.size;rw[hsz2];decide),fun a w' hb hd hr=>qb (parts:=[(0,.agg (List.toArray [.int .i64 a0,.int .i64 a1])),(1,.int .i64 a2),(2,.int .i64 a3),(3,.int .i64 a4),(4,.int .i64 a5)]) rfl (by simp;exact⟨ev (hd ⟨11,.data⟩ (by simp) rfl (by decide) (by decide)),ev (hd ⟨14,.data⟩ (by simp) rfl (by decide) (by decide)),ev (hd ⟨17,.data⟩ (by simp) rfl (by decide) (by decide)),ev (hd ⟨20,.data⟩ (by simp) rfl (by decide) (by decide)),ev (hd ⟨23,.data⟩ (by simp) rfl (by decide) (by decide))⟩) (by kernel_rfl)⟩
     |25,_,h,_=>exact absurd rfl h
     |26,_,_,h=>exact absurd rfl h
     |27,_,_,_=>
      cases ho
      exact⟨rfl,rfl,(by show(_:Nat)<aQ.tmps.size;rw[hsz2];decide),fun a w' hb hd hr=>qa rfl (ev (hd ⟨0,.data⟩ (by simp) rfl (by decide) (by decide)))⟩
     |28,_,_,_=>
      cases ho
      exact⟨rfl,rfl,(by show(_:Nat)<aQ.tmps.size;rw[hsz2];decide),fun a w' hb hd hr=>jN (fo:=2) rfl (ev (hd ⟨27,.data⟩ (by simp) rfl (by decide) (by decide))) (by kernel_rfl)⟩
     |j+29,h,_,_=>exact absurd h (by omega)
    ·exact⟨_,_,rfl,rfl,rfl,(by show(_:Nat)<aQ.tmps.size;rw[hsz2];decide),rfl,fun a hd=>ev (hd ⟨24,.data⟩ (by simp) rfl (by decide) (by decide))⟩
    ·exact⟨_,_,rfl,rfl,rfl,(by show(_:Nat)<aQ.tmps.size;rw[hsz2];decide),rfl,⟨⟨25,.data⟩,by simp,rfl,rfl⟩,fun a hd=>ev (hd ⟨4,.data⟩ (by simp) rfl (by decide) (by decide))⟩
    ·refine⟨_,rfl,rfl,fun f h1 h2=>by
      have t28:f 28=true:=h1 ⟨28,.data⟩ (by simp) rfl
      have t26:f 26=true:=h1 ⟨26,.data⟩ (by simp) rfl
      have t0:f 0=true:=h1 ⟨0,.phase⟩ (by simp) rfl
      have t1:f 1=true:=h1 ⟨1,.phase⟩ (by simp) rfl
      have t2:f 2=true:=h1 ⟨2,.phase⟩ (by simp) rfl
      have t3:f 3=true:=h1 ⟨3,.phase⟩ (by simp) rfl
      have t4:f 4=true:=h1 ⟨4,.phase⟩ (by simp) rfl
      have t5:f 5=true:=h1 ⟨5,.phase⟩ (by simp) rfl
      have t6:f 6=true:=h1 ⟨6,.phase⟩ (by simp) rfl
      have t7:f 7=true:=h1 ⟨7,.phase⟩ (by simp) rfl
      have t8:f 8=true:=h1 ⟨8,.phase⟩ (by simp) rfl
      have t9:f 9=true:=h1 ⟨9,.phase⟩ (by simp) rfl
      have t10:f 10=true:=h1 ⟨10,.phase⟩ (by simp) rfl
      have t11:f 11=true:=h1 ⟨11,.phase⟩ (by simp) rfl
      have t12:f 12=true:=h1 ⟨12,.phase⟩ (by simp) rfl
      have t13:f 13=true:=h1 ⟨13,.phase⟩ (by simp) rfl
      have t14:f 14=true:=h1 ⟨14,.phase⟩ (by simp) rfl
      have t15:f 15=true:=h1 ⟨15,.phase⟩ (by simp) rfl
      have t16:f 16=true:=h1 ⟨16,.phase⟩ (by simp) rfl
      have t17:f 17=true:=h1 ⟨17,.phase⟩ (by simp) rfl
      have t18:f 18=true:=h1 ⟨18,.phase⟩ (by simp) rfl
      have t19:f 19=true:=h1 ⟨19,.phase⟩ (by simp) rfl
      have t20:f 20=true:=h1 ⟨20,.phase⟩ (by simp) rfl
      have t21:f 21=true:=h1 ⟨21,.phase⟩ (by simp) rfl
      have t22:f 22=true:=h1 ⟨22,.phase⟩ (by simp) rfl
      have t23:f 23=true:=h1 ⟨23,.phase⟩ (by simp) rfl
      have t24:f 24=true:=h1 ⟨24,.phase⟩ (by simp) rfl
      have t25:f 25=true:=h1 ⟨25,.phase⟩ (by simp) rfl
      have t27:f 27=true:=h2 28 _ rfl t28 ⟨27,.data⟩ (by simp) rfl
      intro i hi
      match i,hi with
      |0,_=>exact t0
      |1,_=>exact t1
      |2,_=>exact t2
      |3,_=>exact t3
      |4,_=>exact t4
      |5,_=>exact t5
      |6,_=>exact t6
      |7,_=>exact t7
      |8,_=>exact t8
      |9,_=>exact t9
      |10,_=>exact t10
      |11,_=>exact t11
      |12,_=>exact t12
      |13,_=>exact t13
      |14,_=>exact t14
      |15,_=>exact t15
      |16,_=>exact t16
      |17,_=>exact t17
      |18,_=>exact t18
      |19,_=>exact t19
      |20,_=>exact t20
      |21,_=>exact t21
      |22,_=>exact t22
      |23,_=>exact t23
      |24,_=>exact t24
      |25,_=>exact t25
      |26,_=>exact t26
      |27,_=>exact t27
      |28,_=>exact t28
      |j+29,h=>exact absurd h (by omega),?_⟩
     intro v6 w5 w6 a g1 g2 g3 g4 hsz hdf hv hA hr
     have hb:=(⟨S6.out.1.o.other (i:=5) (j:=2) (r:=⟨131,6,nP,hP,xp⟩) rfl rfl (by decide) g1 g2,(S6.out.1.o.base (r:=⟨131,6,nP,hP,xp⟩) (by simp[jG]) g1 g2).2⟩:_/\_)
     refine Kb rfl rfl (ev (hv 28 (by decide) (by decide) (by decide))) (ev hA) (Yd g3).1 (by kernel_rfl) ((ZM hb.1 HC.out.1 hpos).1) ((ZM hb.1 HC.out.1 hpos).2) (Yd g3).2 ?_
     change Code.wp _ _ _ _ _;refine VU rfl rfl rfl rfl ?_
     simp only[Exit.inBlock,Exit.then]
     refine bodyPost_ret (jkc (fn:=Tryz.f159) rfl (by show 4<a.tmps.size;rw[hsz,hsz2];decide)) (hdf.trans hdf2) ?_
     obtain⟨xq,Z⟩:=(S6.out.1.below g1).jfY (f:=kv [a0,a1,a2,a3,a4,a5]) hxb rfl (jfE [Value.int .i64 a0,Value.int .i64 a1,Value.int .i64 a2,Value.int .i64 a3,Value.int .i64 a4,Value.int .i64 a5]) (vV [a0,a1,a2,a3,a4,a5]) g3 g2 g4 (Yd g3).2
     exact⟨true,rfl,rfl,Z.o.bel,fun _=>Z.px⟩
  ·have hs1:(sec==4)=false:=by rw[beq_eq_false_iff_ne];exact hs
   have hs2:(sec != 4)=true:=by rw[bne_iff_ne];exact hs
   clear hx
   go_enter Tryz.func159,Tryz.ntmps159
   go_wp2_with (first
    |(go_at_call 157;refine kk.mono ?_;rintro e w1 ⟨ib,io,ic,M1,rfl,hn,hv⟩
      have S1:Hid (_):=HP.out.call hn
      have HV:Hid (_):=hv
      have c11:w1.cell? ⟨bp,11,none⟩=some (.int .i64 sec):=Jq S1.out.o.box 11 rfl
      clear hn hv kk c0))
   go_ret
   exact⟨false,by rw[hs1];rfl,rfl,S1.out.o.bel,by simp⟩
 |false=>
  have kk:=ZE h HP.out.o.iM hr0.out
  clear hr hm hm2 hS hn h hl hx
  go_enter Tryz.func159,Tryz.ntmps159
  go_wp2_with (first
   |(go_at_call 157;refine kk.mono ?_;rintro e w1 ⟨u,M1,rfl,hn,hv⟩
     have S1:Hid (_):=HP.out.call hn
     clear hn hv kk c0))
  go_ret
  exact⟨false,rfl,rfl,S1.out.o.bel,by simp⟩
end
theorem vT {k l:List UInt8}(h:k≠l):(k==l)=false:=by rw[beq_eq_false_iff_ne];exact h
theorem ji2 {M:Mem}{w:World}{bp:Nat}{k:List UInt8}{rest:List (List UInt8)}{vf:Value}(hi:Imm M w)(hr:Rep M jh (jQ (k::rest)) vf)
 (h1:k≠[99,111,110,116,97,99,116]) (h2:k≠[112,111,105,110,116]) (h3:k≠[111,118,101,114,108,97,112]):
 Calls Tryz.prog 159 #[.pointer (some ⟨bp,0,none⟩),vf] w fun e w'=>e=.returned (.bool false)/\w'=w:=by
 obtain⟨ad,cap,rfl,hm⟩:=YW hr
 obtain⟨blk,off,rfl,hm2⟩:=hm (by simp)
 have c0:w.cell? ⟨blk,off,none⟩=some (.string ⟨List.toArray k⟩):=hi _ _ _ (hm2 0 _ rfl)
 obtain⟨n,hn⟩:∃n,(k::rest).length=n:=⟨_,rfl⟩
 rw[hn]
 have hn0:(0:Int)<(n:Int):=by rw[<-hn];simp
 have q1:=vT h1
 have q2:=vT h2
 have q3:=vT h3
 clear hr hm hm2 hi hn h1 h2 h3
 go_enter Tryz.func159,Tryz.ntmps159
 go_wp2
 go_ret
 exact⟨rfl,rfl⟩
theorem jhu {M:Mem}{w:World}{bp:Nat}{k:List UInt8}{rest:List (List UInt8)}{vf:Value}{Q:Bool->World->Prop}(hi:Imm M w)(hr:Rep M jh (jQ (k::rest)) vf)
 (h1:k≠[119,111,114,108,100]) (h2:k≠[98,111,100,121]) (h3:k≠[102,105,120,116,117,114,101]) (h4:k≠[106,111,105,110,116])
 (hc:Calls Tryz.prog 159 #[.pointer (some ⟨bp,0,none⟩),vf] w fun e w'=>∃b,e=.returned (.bool b)/\Q b w'):
 Calls Tryz.prog 121 #[.pointer (some ⟨bp,0,none⟩),vf] w fun e w'=>∃b,e=.returned (.bool b)/\Q b w':=by
 obtain⟨ad,cap,rfl,hm⟩:=YW hr
 obtain⟨blk,off,rfl,hm2⟩:=hm (by simp)
 have c0:w.cell? ⟨blk,off,none⟩=some (.string ⟨List.toArray k⟩):=hi _ _ _ (hm2 0 _ rfl)
 obtain⟨n,hn⟩:∃n,(k::rest).length=n:=⟨_,rfl⟩
 rw[hn]at hc⊢
 have hn0:(0:Int)<(n:Int):=by rw[<-hn];simp
 have q1:=vT h1
 have q2:=vT h2
 have q3:=vT h3
 have q4:=vT h4
 have e159:=Tryz.call159
 clear hr hm hm2 hi hn h1 h2 h3 h4
 go_enter Tryz.func121,Tryz.ntmps121
 go_wp2_with (first
  |(go_at_call 159;refine hc.mono ?_;rintro e w1 ⟨b,rfl,hq⟩))
 go_ret
 exact⟨_,rfl,hq⟩
theorem zl {α β:Type}{m:Option α}{k:α->Option β}{r:β}(h:Rx.Bind m k=some r):∃a,m=some a/\k a=some r:=by
 cases m with
 |none=>cases h
 |some a=>exact⟨a,rfl,h⟩
section
variable {W0:World} {x:jo} {sec:Int} {M M':Mem} {bp:Nat} {h0 h1 h2 h3 hF hP:Value} {nF nP:Nat} {xb xj xc xo xf xp:List Value} {w w1 w2:World}
def ji4 (W0:World)(bp:Nat)(y:jo)(s:Int)(ok:Bool)(w':World):Prop:=Below W0.heap.size W0 w'/\(ok=true->PX W0 y s bp w')
theorem VV {F:FuncId}{a:Array Value}{y0 y:jo}{s0 s:Int}{ok0 ok:Bool}(hs:(if ok0=true then(y0,s0,true)else(x,sec,false))=(y,s,ok))
 (hc:Calls Tryz.prog F a w fun e w'=>∃b:Bool,b=ok0/\e=.returned (.bool b)/\Below W0.heap.size W0 w'/\(b=true->PX W0 y0 s0 bp w')):
 Calls Tryz.prog F a w fun e w'=>∃b,e=.returned (.bool b)/\b=ok/\ji4 W0 bp y s b w':=by
 refine hc.mono ?_
 rintro e w' ⟨b,rfl,rfl,h1,h2⟩
 cases b with
 |true=>simp at hs;obtain⟨rfl,rfl,rfl⟩:=hs;exact⟨true,rfl,rfl,h1,h2⟩
 |false=>simp at hs;obtain⟨rfl,rfl,rfl⟩:=hs;exact⟨false,rfl,rfl,h1,by simp⟩
theorem KW {α:Type}{l:List α}{b:α}(h:l.getLast? = some b):l=l.dropLast++[b]:=by
 have hne:l≠[]:=by rintro rfl;simp at h
 rw[List.getLast?_eq_some_getLast hne]at h
 have:=Option.some.inj h
 rw[<-this]
 exact(List.dropLast_concat_getLast hne).symm
theorem jd9 {f:List (List UInt8)}(hf:f≠[]){vf:Value}{y:jo}{s:Int}{ok:Bool}(h:jaG x sec f=some (y,s,ok))(hS:PS W0 x sec M bp h0 h1 h2 h3 hF hP nF nP xb xj xc xo xf xp w)(hr:Rep M jh (jQ f) vf):
 Calls Tryz.prog 121 #[.pointer (some ⟨bp,0,none⟩),vf] w fun e w'=>∃b,e=.returned (.bool b)/\b=ok/\ji4 W0 bp y s b w':=by
 cases f with
 |nil=>exact absurd rfl hf
 |cons k rest=>
  unfold jaG at h
  dsimp only at h
  by_cases k1:k=[119,111,114,108,100]
  ·rw[if_pos k1]at h;subst k1
   obtain⟨⟨l,ok1⟩,e1,h⟩:=zl h
   split at h
   ·rename_i g
    exact VV (Option.some.inj h) (hc:=jht hS hr e1 g)
   ·cases h
  rw[if_neg k1]at h
  by_cases k2:k=[98,111,100,121]
  ·rw[if_pos k2]at h;subst k2
   obtain⟨⟨b,c⟩,e1,h⟩:=zl h
   split at h
   ·rename_i g
    exact VV (Option.some.inj h) (hc:=ji3 hS hr e1 g.1 g.2)
   ·cases h
  rw[if_neg k2]at h
  by_cases k3:k=[102,105,120,116,117,114,101]
  ·rw[if_pos k3]at h;subst k3
   obtain⟨⟨b,c⟩,e1,h⟩:=zl h
   split at h
   ·rename_i g
    subst g
    obtain⟨l,e2,h⟩:=zl h
    unfold MT at e2
    split at e2
    ·rename_i last e3
     split at e2
     ·rename_i g
      cases e2
      have e4:=KW e3
      have hl:x.ji.dropLast.length<1048576:=by rw[List.length_dropLast];omega
      refine VV (Option.some.inj h) (hc:=(PB hS hr e1 (fun _=>e4) hl g.2).mono ?_)
      rintro e w' ⟨b,q1,q2⟩
      exact⟨b,by rw[q1];simp,q2⟩
     ·cases e2
    ·cases e2
   ·rename_i g
    cases h
    refine(PB (init:=[]) (last:=default) hS hr e1 (fun e=>absurd e g) (by simp) (by show(0:Nat)<_;decide)).mono ?_
    rintro e w' ⟨b,q1,q2,q3,q4⟩
    have:b=false:=by rw[q1];simp[g]
    subst this
    exact⟨false,q2,rfl,q3,by simp⟩
  rw[if_neg k3]at h
  by_cases k4:k=[106,111,105,110,116]
  ·rw[if_pos k4]at h;subst k4
   obtain⟨⟨b,c⟩,e1,h⟩:=zl h
   split at h
   ·rename_i g
    exact VV (Option.some.inj h) (hc:=jhv hS hr e1 g)
   ·cases h
  rw[if_neg k4]at h
  refine jhu (Q:=fun b w'=>b=ok/\ji4 W0 bp y s b w') hS.o.iM hr k1 k2 k3 k4 ?_
  by_cases k5:k=[99,111,110,116,97,99,116]
  ·rw[if_pos k5]at h;subst k5
   obtain⟨⟨l,ok1⟩,e1,h⟩:=zl h
   split at h
   ·rename_i g
    exact VV (Option.some.inj h) (hc:=jcY hS hr e1 g.1 g.2)
   ·cases h
  rw[if_neg k5]at h
  by_cases k6:k=[112,111,105,110,116]
  ·rw[if_pos k6]at h;subst k6
   obtain⟨⟨l,ok1⟩,e1,h⟩:=zl h
   split at h
   ·rename_i gl
    split at h
    ·rename_i g
     subst g
     obtain⟨l2,e2,h⟩:=zl h
     unfold MS at e2
     split at e2
     ·rename_i last e3
      split at e2
      ·rename_i g
       cases e2
       have e4:=KW e3
       have hl:x.jc.dropLast.length<1048576:=by rw[List.length_dropLast];omega
       refine VV (Option.some.inj h) (hc:=(jbT hS hr e1 gl (fun _=>e4) hl g.2).mono ?_)
       rintro e w' ⟨b,q1,q2⟩
       exact⟨b,by rw[q1];simp,q2⟩
      ·cases e2
     ·cases e2
    ·rename_i g
     cases h
     refine(jbT (init:=[]) (last:=default) hS hr e1 gl (fun e=>absurd e g) (by simp) (by show(0:Nat)<_;decide)).mono ?_
     rintro e w' ⟨b,q1,q2,q3,q4⟩
     have:b=false:=by rw[q1];simp[g]
     subst this
     exact⟨false,q2,rfl,q3,by simp⟩
   ·cases h
  rw[if_neg k6]at h
  by_cases k7:k=[111,118,101,114,108,97,112]
  ·rw[if_pos k7]at h;subst k7
   obtain⟨⟨l,ok1⟩,e1,h⟩:=zl h
   split at h
   ·rename_i g
    exact VV (Option.some.inj h) (hc:=jcX hS hr e1 g.1 g.2)
   ·cases h
  rw[if_neg k7]at h
  cases h
  refine(ji2 hS.o.iM hr k5 k6 k7).mono ?_
  rintro e w' ⟨rfl,rfl⟩
  exact⟨false,rfl,rfl,hS.o.bel,by simp⟩
theorem PC {f:List (List UInt8)}{vf:Value}{y:jo}{s:Int}{ok:Bool}(h:jaG x sec f=some (y,s,ok))(hS:PS W0 x sec M bp h0 h1 h2 h3 hF hP nF nP xb xj xc xo xf xp w)(hr:Rep M jh (jQ f) vf):
 Calls Tryz.prog 78 #[.pointer (some ⟨bp,0,none⟩),vf] w fun e w'=>(ok=true/\e=.returned .nilIface\/ok=false/\e=.returned (.iface 102 (.agg #[])))/\ji4 W0 bp y s ok w':=by
 obtain⟨ad,cap,e0,hm⟩:=YW hr
 by_cases hf:f=[]
 ·subst hf
  have h:some (x,sec,false)=some (y,s,ok):=h
  cases h
  subst e0
  have hb:=hS.o.bel
  clear hr hm hS
  go_enter Tryz.func78,Tryz.ntmps78
  go_wp2
  go_ret
  exact⟨by simp,hb,by simp⟩
 ·have kk:=jd9 hf h hS hr
  obtain⟨n,hn⟩:∃n,f.length=n:=⟨_,rfl⟩
  have hn0:n≠0:=by rw[<-hn];exact fun e=>hf (List.length_eq_zero_iff.1 e)
  have hn1:((n:Int)==0)=false:=by rw[beq_eq_false_iff_ne];omega
  rw[hn]at e0
  subst e0
  have e121:=Tryz.call121
  clear hr hm hS hn hf h hn0
  cases ok with
  |true=>
   go_enter Tryz.func78,Tryz.ntmps78
   go_wp2_with (first
    |(go_at_call 121;refine kk.mono ?_;rintro e w1 ⟨b,rfl,rfl,hq⟩))
   go_ret
   exact⟨by simp,hq⟩
  |false=>
   go_enter Tryz.func78,Tryz.ntmps78
   go_wp2_with (first
    |(go_at_call 121;refine kk.mono ?_;rintro e w1 ⟨b,rfl,rfl,hq⟩))
   go_ret
   exact⟨by simp,hq⟩
end
end GoForm
end
