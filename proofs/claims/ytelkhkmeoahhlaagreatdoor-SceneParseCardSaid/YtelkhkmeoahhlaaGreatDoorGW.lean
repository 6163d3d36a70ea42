/- Several texts in one. No conditions. -/
import Derived.Test.YtelkhkmeoahhlaaGreatDoorGV
section
set_option linter.all false
set_option maxRecDepth 100000
open Go Go.Rx Go.Proofs Go.RowKit
namespace GoForm
section
variable {W0:World} {x:jo} {T:TypeId} {tl:List Value} {M M':Mem} {bp:Nat} {h0 h1 h2 h3 hF hP:Value} {nF nP:Nat} {xb xj xc xo xf xp:List Value} {w w1 w2:World}
set_option maxHeartbeats 4000000 in
theorem MC {rest:List (List UInt8)}{vf:Value}{S:Nat->Prop}(hS:PG W0 x T tl M bp h0 h1 h2 h3 hF hP nF nP xb xj xc xo xf xp w)(hSb:∀b,S b->b<w.heap.size/\Xa b h0 h1 h2 h3 hF hP/\∀o,M b o=none)(hr:Rep M jh (jQ ([119,111,114,108,100]::rest)) vf){l:List Int}{c:Int}(h:jB ([119,111,114,108,100]::rest) [119,111,114,108,100] 7 false []=some (l,c))(hc:c≠0):
 Calls Tryz.prog 50 #[.agg (YB x h0 h1 h2 h3).toArray,vf] w fun e w'=>∃A,e=.returned (.tuple #[.agg (List.toArray A),.bool false])/\RA W0 S w M x A w':=by
 have HP:Hid (_):=hS.en
 have HS:Hid (_):=hSb
 have kk:=KU h HP.out.pg.o.iM hr
 obtain⟨ad,cap,rfl,hm⟩:=YW hr
 obtain⟨blk,off,rfl,hm2⟩:=hm (by simp)
 have c0:((w.alloc (.cells (YB x h0 h1 h2 h3).toArray 31)).alloc (.cells #[Value.int .i64 0,Value.int .i64 0,Value.int .i64 0,Value.int .i64 0,Value.int .i64 0,Value.slice none 0 0,Value.slice none 0 0,Value.slice none 0 0,Value.slice none 0 0,Value.int .i64 0,Value.int .i64 0] 31)).cell? ⟨blk,off,none⟩=some (.string ⟨List.toArray [119,111,114,108,100]⟩):=HP.out.pg.o.iM _ _ _ (hm2 0 _ rfl)
 obtain⟨n,hn⟩:∃n,(([119,111,114,108,100]:List UInt8)::rest).length=n:=⟨_,rfl⟩
 rw[hn]at kk⊢
 have hn0:(0:Int)<(n:Int):=by rw[<-hn];simp
 have hc1:(c==0)=false:=by rw[beq_eq_false_iff_ne];exact hc
 have hc2:(c != 0)=true:=by rw[bne_iff_ne];exact hc
 have ek:=Tryz.call53
 clear hr hm hm2 hS hn h hSb hc
 go_enter Tryz.func50,Tryz.ntmps50
 go_upto_region 18 with (first
  |(go_at_call 53;refine kk.mono ?_;rintro e w1 ⟨u,M1,rfl,hn,hu⟩
    have S1:Hid (_/\_/\_):=⟨HP.out.pg.call hn,(fun b o h=>(hn.1.block _ (Jr h)).trans h:∀b o,(Mh w (YB x h0 h1 h2 h3)).heap[b]? = some o->w1.heap[b]? = some o),hn⟩
    clear hn hu kk c0))
 rename_i hK
 exact S1.out.1.finR (b4:=w.heap.size+1) (S1.out.2.1 _ _ HP.out.b4) HP.out.off (jn HP.out.m4 (nn S1.out.2.2 HP.out.m4 (by rw[yB];omega))) (by have:=HP.out.le;omega) (by omega) (Vj S1.out.2.2) (fun b hb=>⟨(HS.out b hb).2.1,jn (HS.out b hb).2.2 (nn S1.out.2.2 (HS.out b hb).2.2 (by rw[yB];have:=(HS.out b hb).1;omega)),by have:=(HS.out b hb).1;exact⟨by omega,by omega⟩,fun o ho=>S1.out.2.1 b o (YC ho)⟩) (fn:=Tryz.f50) (R:=fun e w9=>∃A,e=.returned (.tuple #[.agg (List.toArray A),.bool false])/\RA W0 S w M x A w9) rfl (fun _ _ h=>hK _ _ (wp_ret h)) rfl rfl rfl rfl rfl rfl rfl rfl rfl (by decide) (by simp) rfl rfl rfl (fun w8 A h=>⟨A,rfl,h⟩)
set_option maxHeartbeats 4000000 in
theorem jfC {k:List UInt8}{rest:List (List UInt8)}{vf:Value}{S:Nat->Prop}(hS:PG W0 x T tl M bp h0 h1 h2 h3 hF hP nF nP xb xj xc xo xf xp w)(hSb:∀b,S b->b<w.heap.size/\Xa b h0 h1 h2 h3 hF hP/\∀o,M b o=none)(hr:Rep M jh (jQ (k::rest)) vf){l:List Int}{c:Int}(h:jB (k::rest) k (if k=[111,118,101,114,108,97,112]then 4 else 6) false []=some (l,c))(hc:c≠0):
 Calls Tryz.prog 97 #[.agg (YB x h0 h1 h2 h3).toArray,vf] w fun e w'=>∃A,e=.returned (.tuple #[.agg (List.toArray A),.bool false])/\RA W0 S w M x A w':=by
 have HP:Hid (_):=hS.en
 have HS:Hid (_):=hSb
 have kk:=KU h HP.out.pg.o.iM hr
 obtain⟨ad,cap,rfl,hm⟩:=YW hr
 obtain⟨blk,off,rfl,hm2⟩:=hm (by simp)
 have c0:((w.alloc (.cells (YB x h0 h1 h2 h3).toArray 31)).alloc (.cells #[Value.int .i64 0,Value.int .i64 0,Value.int .i64 0,Value.int .i64 0,Value.int .i64 0,Value.slice none 0 0,Value.slice none 0 0,Value.slice none 0 0,Value.slice none 0 0,Value.int .i64 0,Value.int .i64 0] 31)).cell? ⟨blk,off,none⟩=some (.string ⟨List.toArray k⟩):=HP.out.pg.o.iM _ _ _ (hm2 0 _ rfl)
 obtain⟨n,hn⟩:∃n,(k::rest).length=n:=⟨_,rfl⟩
 rw[hn]at kk⊢
 have hn0:(0:Int)<(n:Int):=by rw[<-hn];simp
 have hc1:(c==0)=false:=by rw[beq_eq_false_iff_ne];exact hc
 have hc2:(c != 0)=true:=by rw[bne_iff_ne];exact hc
 have ek:=Tryz.call53
 clear hr hm hm2 hS hn h hSb hc
 by_cases ho:k=[111,118,101,114,108,97,112]
 ·rw[if_pos ho]at kk
  have ho1:(k==[111,118,101,114,108,97,112])=true:=by rw[beq_iff_eq];exact ho
  clear ho
  go_enter Tryz.func97,Tryz.ntmps97
  go_upto_region 6 with (first
   |(go_at_call 53;refine kk.mono ?_;rintro e w1 ⟨u,M1,rfl,hn,hu⟩
     have S1:Hid (_/\_/\_):=⟨HP.out.pg.call hn,(fun b o h=>(hn.1.block _ (Jr h)).trans h:∀b o,(Mh w (YB x h0 h1 h2 h3)).heap[b]? = some o->w1.heap[b]? = some o),hn⟩
     clear hn hu kk c0))
  rename_i hK
  exact S1.out.1.finR (b4:=w.heap.size+1) (S1.out.2.1 _ _ HP.out.b4) HP.out.off (jn HP.out.m4 (nn S1.out.2.2 HP.out.m4 (by rw[yB];omega))) (by have:=HP.out.le;omega) (by omega) (Vj S1.out.2.2) (fun b hb=>⟨(HS.out b hb).2.1,jn (HS.out b hb).2.2 (nn S1.out.2.2 (HS.out b hb).2.2 (by rw[yB];have:=(HS.out b hb).1;omega)),by have:=(HS.out b hb).1;exact⟨by omega,by omega⟩,fun o ho=>S1.out.2.1 b o (YC ho)⟩) (fn:=Tryz.f97) (R:=fun e w9=>∃A,e=.returned (.tuple #[.agg (List.toArray A),.bool false])/\RA W0 S w M x A w9) rfl (fun _ _ h=>hK _ _ (wp_ret h)) rfl rfl rfl rfl rfl rfl rfl rfl rfl (by decide) (by simp) rfl rfl rfl (fun w8 A h=>⟨A,rfl,h⟩)
 ·rw[if_neg ho]at kk
  have ho1:(k==[111,118,101,114,108,97,112])=false:=by rw[beq_eq_false_iff_ne];exact ho
  clear ho
  go_enter Tryz.func97,Tryz.ntmps97
  go_upto_region 6 with (first
   |(go_at_call 53;refine kk.mono ?_;rintro e w1 ⟨u,M1,rfl,hn,hu⟩
     have S1:Hid (_/\_/\_):=⟨HP.out.pg.call hn,(fun b o h=>(hn.1.block _ (Jr h)).trans h:∀b o,(Mh w (YB x h0 h1 h2 h3)).heap[b]? = some o->w1.heap[b]? = some o),hn⟩
     clear hn hu kk c0))
  rename_i hK
  exact S1.out.1.finR (b4:=w.heap.size+1) (S1.out.2.1 _ _ HP.out.b4) HP.out.off (jn HP.out.m4 (nn S1.out.2.2 HP.out.m4 (by rw[yB];omega))) (by have:=HP.out.le;omega) (by omega) (Vj S1.out.2.2) (fun b hb=>⟨(HS.out b hb).2.1,jn (HS.out b hb).2.2 (nn S1.out.2.2 (HS.out b hb).2.2 (by rw[yB];have:=(HS.out b hb).1;omega)),by have:=(HS.out b hb).1;exact⟨by omega,by omega⟩,fun o ho=>S1.out.2.1 b o (YC ho)⟩) (fn:=Tryz.f97) (R:=fun e w9=>∃A,e=.returned (.tuple #[.agg (List.toArray A),.bool false])/\RA W0 S w M x A w9) rfl (fun _ _ h=>hK _ _ (wp_ret h)) rfl rfl rfl rfl rfl rfl rfl rfl rfl (by decide) (by simp) rfl rfl rfl (fun w8 A h=>⟨A,rfl,h⟩)
set_option maxHeartbeats 4000000 in
theorem jb8 {k:List UInt8}{rest:List (List UInt8)}{vf:Value}{S:Nat->Prop}(hS:PG W0 x T tl M bp h0 h1 h2 h3 hF hP nF nP xb xj xc xo xf xp w)(hSb:∀b,S b->b<w.heap.size/\Xa b h0 h1 h2 h3 hF hP/\∀o,M b o=none)(hr:Rep M jh (jQ (k::rest)) vf){l:List Int}(h:jB (k::rest) k 6 false []=some (l,0))
 (k1:k≠[99,111,110,116,97,99,116]) (k2:k≠[112,111,105,110,116]) (k3:k≠[111,118,101,114,108,97,112]):
 Calls Tryz.prog 97 #[.agg (YB x h0 h1 h2 h3).toArray,vf] w fun e w'=>∃A,e=.returned (.tuple #[.agg (List.toArray A),.bool true])/\RA W0 S w M x A w':=by
 have HP:Hid (_):=hS.en
 have HS:Hid (_):=hSb
 have kk:=KU h HP.out.pg.o.iM hr
 obtain⟨ad,cap,rfl,hm⟩:=YW hr
 obtain⟨blk,off,rfl,hm2⟩:=hm (by simp)
 have HM:Hid (_):=hm2
 have c0:((w.alloc (.cells (YB x h0 h1 h2 h3).toArray 31)).alloc (.cells #[Value.int .i64 0,Value.int .i64 0,Value.int .i64 0,Value.int .i64 0,Value.int .i64 0,Value.slice none 0 0,Value.slice none 0 0,Value.slice none 0 0,Value.slice none 0 0,Value.int .i64 0,Value.int .i64 0] 31)).cell? ⟨blk,off,none⟩=some (.string ⟨List.toArray k⟩):=HP.out.pg.o.iM _ _ _ (hm2 0 _ rfl)
 obtain⟨n,hn⟩:∃n,(k::rest).length=n:=⟨_,rfl⟩
 rw[hn]at kk⊢
 have hn0:(0:Int)<(n:Int):=by rw[<-hn];simp
 have q1:=vT k1
 have q2:=vT k2
 have q3:=vT k3
 have ek:=Tryz.call53
 clear hr hm hm2 hS hn h hSb k1 k2 k3
 go_enter Tryz.func97,Tryz.ntmps97
 go_upto_region 16 with (first
  |(go_at_call 53;refine kk.mono ?_;rintro e w1 ⟨u,M1,rfl,hn,hu⟩
    have S1:Hid (_/\_/\_):=⟨HP.out.pg.call hn,(fun b o h=>(hn.1.block _ (Jr h)).trans h:∀b o,(Mh w (YB x h0 h1 h2 h3)).heap[b]? = some o->w1.heap[b]? = some o),hn⟩
    have c1:w1.cell? ⟨blk,off,none⟩=some (.string ⟨List.toArray k⟩):=hn.2.1 _ _ _ (hn.2.2.1 _ _ _ (HM.out 0 _ rfl))
    clear hn hu kk c0))
 rename_i hK
 exact S1.out.1.finR (b4:=w.heap.size+1) (S1.out.2.1 _ _ HP.out.b4) HP.out.off (jn HP.out.m4 (nn S1.out.2.2 HP.out.m4 (by rw[yB];omega))) (by have:=HP.out.le;omega) (by omega) (Vj S1.out.2.2) (fun b hb=>⟨(HS.out b hb).2.1,jn (HS.out b hb).2.2 (nn S1.out.2.2 (HS.out b hb).2.2 (by rw[yB];have:=(HS.out b hb).1;omega)),by have:=(HS.out b hb).1;exact⟨by omega,by omega⟩,fun o ho=>S1.out.2.1 b o (YC ho)⟩) (fn:=Tryz.f97) (R:=fun e w9=>∃A,e=.returned (.tuple #[.agg (List.toArray A),.bool true])/\RA W0 S w M x A w9) rfl (fun _ _ h=>hK _ _ (wp_ret h)) rfl rfl rfl rfl rfl rfl rfl rfl rfl (by decide) (by simp) rfl rfl rfl (fun w8 A h=>⟨A,rfl,h⟩)
set_option maxHeartbeats 4000000 in
theorem jfJ {k:List UInt8}{rest:List (List UInt8)}{vf:Value}{S:Nat->Prop}{y:jo}{ok:Bool}(hS:PG W0 x T tl M bp h0 h1 h2 h3 hF hP nF nP xb xj xc xo xf xp w)(hSb:∀b,S b->b<w.heap.size/\Xa b h0 h1 h2 h3 hF hP/\∀o,M b o=none)(hr:Rep M jh (jQ (k::rest)) vf)
 (k1:k≠[98,111,100,121]) (k2:k≠[102,105,120,116,117,114,101]) (k3:k≠[106,111,105,110,116]) (k4:k≠[119,111,114,108,100])
 (hc:∀{w2:World} {bq:Nat} {S':Nat->Prop},PG W0 x 31 [] M bq h0 h1 h2 h3 hF hP nF nP xb xj xc xo xf xp w2->(∀b,S' b->b<w2.heap.size/\Xa b h0 h1 h2 h3 hF hP/\∀o,M b o=none)->Calls Tryz.prog 97 #[.agg (YB x h0 h1 h2 h3).toArray,vf] w2 fun e w'=>∃A,e=.returned (.tuple #[.agg (List.toArray A),.bool ok])/\RA W0 S' w2 M y A w'):
 Calls Tryz.prog 50 #[.agg (YB x h0 h1 h2 h3).toArray,vf] w fun e w'=>∃A,e=.returned (.tuple #[.agg (List.toArray A),.bool ok])/\RA W0 S w M y A w':=by
 have HP:Hid (_):=hS.en
 have HS:Hid (_):=hSb
 have kk:=hc (S':=fun b=>S b\/b=w.heap.size+1) HP.out.pg (by
  rintro b (hb|rfl)
  ·exact⟨by rw[yB];have:=(hSb b hb).1;omega,(hSb b hb).2⟩
  ·exact⟨by rw[yB];omega,HP.out.off,HP.out.m4⟩)
 obtain⟨ad,cap,rfl,hm⟩:=YW hr
 obtain⟨blk,off,rfl,hm2⟩:=hm (by simp)
 have c0:((w.alloc (.cells (YB x h0 h1 h2 h3).toArray 31)).alloc (.cells #[Value.int .i64 0,Value.int .i64 0,Value.int .i64 0,Value.int .i64 0,Value.int .i64 0,Value.slice none 0 0,Value.slice none 0 0,Value.slice none 0 0,Value.slice none 0 0,Value.int .i64 0,Value.int .i64 0] 31)).cell? ⟨blk,off,none⟩=some (.string ⟨List.toArray k⟩):=HP.out.pg.o.iM _ _ _ (hm2 0 _ rfl)
 obtain⟨n,hn⟩:∃n,(k::rest).length=n:=⟨_,rfl⟩
 rw[hn]at kk⊢
 have hn0:(0:Int)<(n:Int):=by rw[<-hn];simp
 have q1:=vT k1
 have q2:=vT k2
 have q3:=vT k3
 have q4:=vT k4
 have ek:=Tryz.call97
 have ra:tAg Tryz.prog 31=some true:=by kernel_rfl
 have rz:tSz Tryz.prog 31=some 11:=by kernel_rfl
 have HR:Hid (_/\_):=⟨ra,rz⟩
 have hbx:=HP.out.pg.o.box
 rw[List.append_nil]at hbx
 have HB:Hid (_):=hbx
 have r0:Tryz.f50.results=#[.cell 4 31,.tmp 5]:=rfl
 clear hr hm hm2 hS hn hSb k1 k2 k3 k4 hc ra rz hbx
 go_enter Tryz.func50,Tryz.ntmps50
 go_wp2_with (first
  |(refine jA (cs:=A) (arr:=zp) rfl rfl rfl rfl rfl (by rw[S1.out.2.1];exact HR.out.2) S1.out.2.2.2 (by rw[S1.out.2.1];exact Nat.le_refl 11) S1.out.2.2.1 ?_
    intro w4 hz hg
    have hz2:w4.heap[w.heap.size+1]? = some (.cells A.toArray 31 (0,0)):=by
     rw[hz,List.take_zero,Nat.zero_add,List.nil_append,List.drop_eq_nil_of_le (by rw[S1.out.2.1];exact Nat.le_refl 11),List.append_nil]
    have S4:Hid (_/\_):=⟨hz2,hg⟩
    clear hz hg hz2)
  |(go_at_call 97;refine kk.mono ?_;rintro e w1 ⟨A,rfl,hA⟩
    have S1:Hid (RA W0 (fun b=>S b\/b=w.heap.size+1) (Mh w (YB x h0 h1 h2 h3)) M y A w1/\A.length=11/\(∀u∈A,jL u=true)/\w1.heap[w.heap.size+1]? = some (.cells zp.toArray 31 (0,0))):=by
     refine⟨hA,?_⟩
     obtain⟨M2,bp2,g0,g1,g2,g3,gF,gP,mF,mP,yb,yj,yc,yo,yf,yp,rfl,hp,hme,hs⟩:=hA
     exact⟨rfl,hp.one,(hs _ (.inr rfl)).2.2.2 _ HP.out.b4⟩
    clear hA kk c0)
  |(refine yv (cs:=YB x h0 h1 h2 h3) rfl rfl rfl rfl HR.out.1 HR.out.2 HB.out (fun j v e=>by rw[Nat.zero_add];simpa using e) ?_))
 refine bodyPost_ret (Za (cs:=A) r0 rfl rfl HR.out.1 (by rw[S1.out.2.1];exact HR.out.2) S4.out.1) rfl ?_
 refine⟨A,rfl,?_⟩
 obtain⟨M2,bp2,g0,g1,g2,g3,gF,gP,mF,mP,yb,yj,yc,yo,yf,yp,e,hp,hme,hs⟩:=S1.out.1
 have hg:=S4.out.2
 have hbp:=(hs _ (.inr rfl)).2.2.1
 refine⟨M2,bp2,g0,g1,g2,g3,gF,gP,mF,mP,yb,yj,yc,yo,yf,yp,e,hp.beside hg (by have:=HP.out.le;omega) hbp (hs _ (.inr rfl)).1 (hs _ (.inr rfl)).2.1,hme,fun b hb=>⟨(hs b (.inl hb)).1,(hs b (.inl hb)).2.1,(hs b (.inl hb)).2.2.1,fun o ho=>?_⟩⟩
 have q:=(hs b (.inl hb)).2.2.2 o (YC ho)
 exact(hg.block b (Jr q) (fun e=>by have:=(HS.out b hb).1;have:=Option.some.inj e;omega)).trans q
end
section
variable {W0:World} {x:jo} {T:TypeId} {tl:List Value} {M M':Mem} {bp:Nat} {h0 h1 h2 h3 hF hP:Value} {nF nP:Nat} {xb xj xc xo xf xp:List Value} {w w1 w2:World}
theorem pE {f : List (List UInt8)}{vf:Value}{S:Nat->Prop}{y:jo}{ok:Bool}(h:uJ x f=some (y,ok))(hS:PG W0 x T tl M bp h0 h1 h2 h3 hF hP nF nP xb xj xc xo xf xp w)(hSb:∀b,S b->b<w.heap.size/\Xa b h0 h1 h2 h3 hF hP/\∀o,M b o=none)(hr:Rep M jh (jQ f) vf):
 Calls Tryz.prog 50 #[.agg (YB x h0 h1 h2 h3).toArray,vf] w fun e w'=>∃A,e=.returned (.tuple #[.agg (List.toArray A),.bool ok])/\RA W0 S w M y A w':=by
 cases f with
 |nil=>cases h
 |cons k rest=>
  unfold uJ at h
  dsimp only at h
  by_cases k1:k=[98,111,100,121]
  ·rw[if_pos k1]at h;subst k1
   obtain⟨⟨b,c⟩,e1,h⟩:=zl h
   split at h
   ·rename_i g
    cases h
    exact jfK hS hSb hr e1 g.1 g.2
   ·cases h
  rw[if_neg k1]at h
  by_cases k2:k=[102,105,120,116,117,114,101]
  ·rw[if_pos k2]at h;subst k2
   obtain⟨⟨b,c⟩,e1,h⟩:=zl h
   obtain⟨l,e2,h⟩:=zl h
   unfold MT at e2
   split at e2
   ·rename_i last e3
    split at e2
    ·rename_i g
     cases e2
     cases h
     have e4:=KW e3
     exact ja1 hS hSb hr e1 e4 (by rw[List.length_dropLast];omega) g.2
    ·cases e2
   ·cases e2
  rw[if_neg k2]at h
  by_cases k3:k=[106,111,105,110,116]
  ·rw[if_pos k3]at h;subst k3
   obtain⟨⟨b,c⟩,e1,h⟩:=zl h
   split at h
   ·rename_i g
    cases h
    exact jeh hS hSb hr e1 g
   ·cases h
  rw[if_neg k3]at h
  by_cases k4:k=[119,111,114,108,100]
  ·rw[if_pos k4]at h;subst k4
   obtain⟨⟨l,c⟩,e1,h⟩:=zl h
   dsimp only at h
   by_cases hc:c=0
   ·subst hc
    rw[if_pos rfl]at h
    split at h
    ·rename_i g
     cases h
     exact jef hS hSb hr e1 g
    ·cases h
   ·rw[if_neg hc]at h
    cases h
    exact MC hS hSb hr e1 hc
  rw[if_neg k4]at h
  obtain⟨⟨l,c⟩,e1,g2⟩:=zl h
  clear h
  dsimp only at g2
  refine jfJ hS hSb hr k1 k2 k3 k4 (fun {w2 bq S'} hS' hSb'=>?_)
  by_cases hc:c=0
  ·subst hc
   rw[if_pos rfl]at g2
   by_cases k5:k=[99,111,110,116,97,99,116]
   ·rw[if_pos k5]at g2;subst k5
    split at g2
    ·rename_i g
     cases g2
     exact ja2 hS' hSb' hr e1 g.1 g.2
    ·cases g2
   rw[if_neg k5]at g2
   by_cases k6:k=[112,111,105,110,116]
   ·rw[if_pos k6]at g2;subst k6
    split at g2
    ·rename_i gl
     obtain⟨l2,e2,g2⟩:=zl g2
     unfold MS at e2
     split at e2
     ·rename_i last e3
      split at e2
      ·rename_i g
       cases e2
       cases g2
       have e4:=KW e3
       exact jeg hS' hSb' hr e1 gl e4 (by rw[List.length_dropLast];omega) g.2
      ·cases e2
     ·cases e2
    ·cases g2
   rw[if_neg k6]at g2
   by_cases k7:k=[111,118,101,114,108,97,112]
   ·rw[if_pos k7]at g2;subst k7
    split at g2
    ·rename_i g
     cases g2
     exact ja0 hS' hSb' hr e1 g.1 g.2
    ·cases g2
   rw[if_neg k7]at g2
   cases g2
   rw[if_neg k7]at e1
   exact jb8 hS' hSb' hr e1 k5 k6 k7
  ·rw[if_neg hc]at g2
   cases g2
   exact jfC hS' hSb' hr e1 hc
end
theorem jcG {f:List UInt8}{l:List (List UInt8)}{c:Int}(h:qO f=some (l,c)){M:Mem}{w:World}(hi:Imm M w):
 Calls Tryz.prog 48 #[.string ⟨f.toArray⟩] w fun e w'=>∃ad cap M',e=.returned (.tuple #[.slice ad l.length cap,.int .i64 c])/\jbZ M w M' w'/\Rep M' jh (jQ l) (.slice ad l.length cap):=by
 have hc:FnR Tryz.prog 48 [KY f] (.tup [jQ l,.v (.int .i64 c)]) []:=c_48.ok (f,()) [KY f] ((l,c):List (List UInt8) × Int) ⟨rfl,trivial⟩ h
 refine(zS hc (fun _=>trivial) hi (vs:=[.string ⟨f.toArray⟩]) (.cons .v .nil)).mono ?_
 rintro e w' ⟨u,M',rfl,h1,h2,h3,h4,h5⟩
 obtain⟨vs,rfl,hvs⟩:=KJ h5
 obtain⟨u,vs,rfl,h6,hvs⟩:=hvs.inv
 have:vs=[.int .i64 c]:=qZ (l:=[.int .i64 c]) hvs
 subst this
 obtain⟨ad,cap,rfl,-⟩:=YW h6
 exact⟨ad,cap,M',rfl,⟨h1,h2,h3,h4⟩,h6⟩
theorem jea {f:List UInt8}{l:List (List UInt8)}{c:Int}(h:qd f=some (l,c))(w:World):
 Calls Tryz.prog 47 #[.string ⟨f.toArray⟩] w fun e w'=>∃v M',e=.returned (.tuple #[v,.int .i64 c])/\jbZ (fun _ _=>none) w M' w'/\Rep M' jh (jQ l) v:=by
 have hc:FnR Tryz.prog 47 [KY f] (.tup [jQ l,.v (.int .i64 c)]) []:=c_47.ok (f,()) [KY f] ((l,c):List (List UInt8) × Int) ⟨rfl,trivial⟩ h
 refine(zS hc (fun _=>trivial) (M:=fun _ _=>none) (fun _ _ _ e=>by(cases e)) (vs:=[.string ⟨f.toArray⟩]) (.cons .v .nil)).mono ?_
 rintro e w' ⟨u,M',rfl,h1,h2,h3,h4,h5⟩
 obtain⟨vs,rfl,hvs⟩:=KJ h5
 obtain⟨u,vs,rfl,h6,hvs⟩:=hvs.inv
 have:vs=[.int .i64 c]:=qZ (l:=[.int .i64 c]) hvs
 subst this
 exact⟨u,M',rfl,⟨h1,h2,h3,h4⟩,h6⟩
theorem jd4 {x:jo}{c:Int}(h:YI x=some c){M:Mem}{A:List Value}{w:World}(hi:Imm M w)(hr:JK M jh (tb.el Ix.tWorld_ x).cells A)(h1:∀u∈A,jL u=true):
 Calls Tryz.prog 42 #[.agg A.toArray] w fun e w'=>e=.returned (.int .i64 c)/\Below w.heap.size w w':=by
 have hc:FnR Tryz.prog 42 [wB x] (.v (.int .i64 c)) []:=c_42.ok (x,()) [wB x] (c:Int) ⟨rfl,trivial⟩ h
 refine(zS hc (fun _=>trivial) hi (vs:=[.agg A.toArray]) (.cons (.agg hr h1) .nil)).mono ?_
 rintro e w' ⟨u,M',rfl,h1,h2,h3,h4,h5⟩
 exact⟨by rw[Rep.zj h5],h1⟩
theorem Uh {l k:List UInt8}{a:Bool}(h:jU l k=some a)(w:World):
 Calls Tryz.prog 49 #[.string ⟨l.toArray⟩,.string ⟨k.toArray⟩] w fun e w'=>e=.returned (.bool a)/\Below w.heap.size w w':=by
 have hc:FnR Tryz.prog 49 [KY l,KY k] (.v (.bool a)) []:=c_49.ok (l,k,()) [KY l,KY k] (a:Bool) ⟨rfl,rfl,trivial⟩ h
 refine(zS hc (fun _=>trivial) (M:=fun _ _=>none) (fun _ _ _ e=>by(cases e)) (vs:=[.string ⟨l.toArray⟩,.string ⟨k.toArray⟩]) (.cons .v (.cons .v .nil))).mono ?_
 rintro e w' ⟨u,M',rfl,h1,h2,h3,h4,h5⟩
 exact⟨by rw[Rep.zj h5],h1⟩
theorem Wy {M:Mem}{k:List UInt8}{r:List (List UInt8)}{ad:Option Addr}{n cap:Nat}(h:Rep M jh (jQ (k::r)) (.slice ad n cap)):∃blk off,ad=some ⟨blk,off,none⟩/\∀(j:Nat) (x:List UInt8),(k::r)[j]? = some x->M blk (off+j)=some (.string ⟨x.toArray⟩):=by
 obtain⟨a,c,e,hm⟩:=YW h
 obtain⟨rfl,-,-⟩:ad=a/\n=(k::r).length/\cap=c:=by simpa using e
 exact hm (by simp)
section
variable {W0:World} {x:jo} {T T':TypeId} {tl:List Value} {M M':Mem} {bp b:Nat} {h0 h1 h2 h3 hF hP:Value} {nF nP:Nat} {xb xj xc xo xf xp:List Value} {w w' w1 w2:World}
theorem PG.offbp (h:PG W0 x T tl M bp h0 h1 h2 h3 hF hP nF nP xb xj xc xo xf xp w):Xa bp h0 h1 h2 h3 hF hP:=by
 have q:∀r∈jG x h0 h1 h2 h3 hF hP nF nP xb xj xc xo xf xp,r.v.ownBlock≠some bp:=fun r hr e=>h.o.ap.1 bp rfl (e ▸ List.mem_map.2 ⟨r,hr,rfl⟩)
 exact⟨q ⟨56,20,x.ji.length,h0,xb⟩ (by simp[jG]),q ⟨75,24,x.jP.length,h1,xj⟩ (by simp[jG]),q ⟨88,7,x.jc.length,h2,xc⟩ (by simp[jG]),q ⟨86,4,x.Overlaps.length,h3,xo⟩ (by simp[jG]),q ⟨67,10,nF,hF,xf⟩ (by simp[jG]),q ⟨131,6,nP,hP,xp⟩ (by simp[jG])⟩
theorem PG.rebox2 (h:PG W0 x T tl M bp h0 h1 h2 h3 hF hP nF nP xb xj xc xo xf xp w)(hx:w.heap[b]? = some (.cells (YB x h0 h1 h2 h3++tl).toArray T (0,0)))(hge:W0.heap.size<=b)(hO:Xa b h0 h1 h2 h3 hF hP)(hM:∀o,M b o=none):
 PG W0 x T tl M b h0 h1 h2 h3 hF hP nF nP xb xj xc xo xf xp w:=by
 refine⟨⟨h.o.bel,h.o.iM,h.o.new,hx,⟨hge,hM⟩,h.o.rows,h.o.nr,⟨fun g e hm=>?_,h.o.ap.2⟩⟩,h.cB,h.cJ,h.cC,h.cO,h.f1,h.p1⟩
 cases e
 obtain⟨r,hr,e2⟩:=List.mem_map.1 hm
 exact hO.rows r hr e2
theorem PG.start (hb:Below W0.heap.size W0 w')(hp:W0.heap.size<=bp)(hx:w'.heap[bp]? = some (.cells zp.toArray 31 (0,0))):
 PG W0 noW 31 [] (fun _ _=>none) bp (.slice none 0 0) (.slice none 0 0) (.slice none 0 0) (.slice none 0 0) (.slice none 0 0) (.slice none 0 0) 0 0 [] [] [] [] [] [] w':=by
 refine⟨⟨hb,fun _ _ _ e=>by(cases e),fun _ _ _ e=>by(cases e),by rw[List.append_nil];exact hx,⟨hp,fun _=>rfl⟩,?_,?_,?_⟩,.inl ⟨rfl,rfl,rfl,rfl,rfl⟩,.nil,.inl ⟨rfl,rfl,rfl,rfl,rfl⟩,.nil,by simp,by simp⟩
 ·intro r hr
  simp only[jG,noW,List.length_nil,List.mem_cons,List.not_mem_nil,or_false]at hr
  rcases hr with rfl|rfl|rfl|rfl|rfl|rfl <;> exact World.ownsRow_nil _ _ _ _
 ·intro r hr g hg
  simp only[jG,List.mem_cons,List.not_mem_nil,or_false]at hr
  rcases hr with rfl|rfl|rfl|rfl|rfl|rfl <;> cases hg
 ·simp[jG,Ul,Value.ownBlock]
end
def RW (W0:World)(b:Nat)(x:jo)(w:World):Prop:=∃M h0 h1 h2 h3 hF hP nF nP xb xj xc xo xf xp,PG W0 x 31 [] M b h0 h1 h2 h3 hF hP nF nP xb xj xc xo xf xp w
theorem kept7 {W0 w0 w:World}{b:Nat}{y:jo}{A:List Value}{o:Obj}{Mi:Mem}(h:RA W0 (fun c=>c=b) w0 Mi y A w)(ho:w0.heap[b]? = some o):w.heap[b]? = some o:=by
 obtain⟨Mq,bq,g0,g1,g2,g3,gF,gP,mF,mP,yb,yj,yc,yo,yf,yp,e,hp,hme,hs⟩:=h
 exact(hs b rfl).2.2.2 o ho
theorem jlF {W0 w0 w w5 w6:World}{b:Nat}{y:jo}{A L:List Value}{Mi:Mem}(h:RA W0 (fun c=>c=b) w0 Mi y A w)(hb5:Below w.heap.size w w5)(hL:L.length=11)(hge:W0.heap.size<=b)
 (hz:w6.heap[b]? = some (.cells (L.take 0++A++L.drop (0+A.length)).toArray 31 (0,0))) (hg:w5.grownBy w6 (some b)):RW W0 b y w6:=by
 obtain⟨Mq,bq,g0,g1,g2,g3,gF,gP,mF,mP,yb,yj,yc,yo,yf,yp,rfl,hp,hme,hs⟩:=h
 obtain⟨s1,s2,s3,-⟩:=hs b rfl
 have hz2:w6.heap[b]? = some (.cells (YB y g0 g1 g2 g3++[]).toArray 31 (0,0)):=by
  have e:(YB y g0 g1 g2 g3).length=11:=rfl
  rw[hz,List.take_zero,Nat.zero_add,List.nil_append,List.drop_eq_nil_of_le (by rw[e,hL];exact Nat.le_refl 11)]
 exact⟨Mq,g0,g1,g2,g3,gF,gP,mF,mP,yb,yj,yc,yo,yf,yp,((hp.below hb5).beside hg hge s3 s1 s2).rebox2 hz2 hge s1 s2⟩
theorem jlG {W0 w0 w w5 w6:World}{b blk o:Nat}{y:jo}{A:List Value}{Mi:Mem}{u:Value}(h:RA W0 (fun c=>c=b) w0 Mi y A w)(hb5:Below w.heap.size w w5)(hge:W0.heap.size<=b)(hg:w5.grownBy w6 (some b))(e:Mi blk o=some u):w6.cell? ⟨blk,o,none⟩=some u:=by
 obtain⟨Mq,bq,g0,g1,g2,g3,gF,gP,mF,mP,yb,yj,yc,yo,yf,yp,rfl,hp,hme,hs⟩:=h
 obtain⟨s1,s2,s3,-⟩:=hs b rfl
 exact((hp.below hb5).beside hg hge s3 s1 s2).o.iM _ _ _ (hme _ _ _ e)
theorem PH {w w1 wk w9:World}{n c:Int}(h1:Below w.heap.size w w1)(hlt:w.heap.size<w1.heap.size)(hk:Below w1.heap.size w1 wk)(hg:wk.grownBy w9 (some w.heap.size)):PQ w noW n c (.returned (.tuple #[.agg zp.toArray,.int .i64 n,.int .i64 c])) w9:=
 ⟨zp,fun _ _=>none,rfl,(h1.trans (hk.mono (Nat.le_of_lt hlt))).grown hg (Nat.le_trans h1.size hk.size) (fun k e=>by have:=Option.some.inj e;omega),fun _ _ _ e=>by(cases e),fun _ _ _ e=>by(cases e),VS,qf⟩
set_option maxHeartbeats 8000000 in
theorem jaK {s : List UInt8}{y:jo}{n c:Int}(h:qo s=some (y,n,c))(w:World):
 Calls Tryz.prog 19 #[.string ⟨s.toArray⟩] w (PQ w y n c):=by
 unfold qo at h
 obtain⟨⟨lines,code⟩,hs,h⟩:=zl h
 dsimp only at h
 obtain⟨N,hN⟩:∃N,lines.length=N:=⟨_,rfl⟩
 have k47:Calls Tryz.prog 47 #[.string ⟨s.toArray⟩] (w.alloc (.cells zp.toArray 31)) fun e w'=>∃ad cap M',e=.returned (.tuple #[.slice ad N cap,.int .i64 code])/\jbZ (fun _ _=>none) (w.alloc (.cells zp.toArray 31)) M' w'/\(0<N->∃blk off,ad=some ⟨blk,off,none⟩/\∀(j:Nat) (x:List UInt8),lines[j]? = some x->M' blk (off+j)=some (.string ⟨x.toArray⟩)):=by
  refine(jea hs _).mono ?_
  rintro e w' ⟨v,M',rfl,h1,h2⟩
  obtain⟨ad,cap,rfl,hm⟩:=YW h2
  rw[hN]at hm⊢
  exact⟨ad,cap,M',rfl,h1,hm⟩
 have e47:=Tryz.call47
 have e48:=Tryz.call48
 have e49:=Tryz.call49
 have e50:=Tryz.call50
 have e42:=Tryz.call42
 have ra:tAg Tryz.prog 31=some true:=by kernel_rfl
 have rz:tSz Tryz.prog 31=some 11:=by kernel_rfl
 have HR:Hid (_/\_):=⟨ra,rz⟩
 have r0:Tryz.f19.results=#[.cell 2 31,.tmp 3,.tmp 4]:=rfl
 clear ra rz hs
 by_cases hc0:code=0
 ·subst hc0
  rw[if_neg (by simp)]at h
  split at h
  ·rename_i hl
   rw[hN]at hl
   go_enter Tryz.func19,Tryz.ntmps19
   go_wp2_with (first
    |(go_at_call 47;refine k47.mono ?_;rintro e w1 ⟨ad,cap,M1,rfl,hn1,hm1⟩
      have HM:Hid (_):=hm1
      have HI:Hid (Imm M1 w1):=hn1.2.1
      have HW:Hid (w.heap.size<w1.heap.size/\w1.heap[w.heap.size]? = some (.cells zp.toArray 31 (0,0))/\Below w.heap.size w w1):=⟨by have:=hn1.1.size;simp at this;omega,(hn1.1.block _ (by simp)).trans (yy w _ _ rfl),((Below.refl _ _).alloc (Nat.le_refl _) _).trans (hn1.1.mono (by simp))⟩
      clear hn1 hm1 k47))
   go_loopg [8,9] N (fun kx s8 s9 wr=>∃(i:Nat) (x:jo) (last:List UInt8),s8=.string ⟨last.toArray⟩/\s9=.int .i64 i/\i<=N/\N - i<=kx/\Vg (lines.drop i) i x last=some (y,n,c)/\Aside (RW w1 w1.heap.size x wr))
   case atStart=>
    exact⟨0,noW,[],rfl,rfl,Nat.zero_le _,Nat.le_refl _,h,_,_,_,_,_,_,_,_,_,_,_,_,_,_,_,PG.start ((Below.refl _ _).alloc (Nat.le_refl _) _) (Nat.le_refl _) (yy _ _ _ rfl)⟩
   case round =>
    obtain⟨i,x,last,rfl,rfl,hin,hkx,hrec,S⟩:=hrel
    obtain⟨M0,h0,h1,h2,h3,hF,hP,nF,nP,xb,xj,xc,xo,xf,xp,S⟩:=S
    have S0:Hid (_):=S
    clear S h
    by_cases hlt:(i:Int)<N
    ·obtain⟨blk, off,rfl,hcm⟩:=HM.out (by omega)
     obtain⟨line,hli⟩:∃s,lines[i]? = some s:=⟨_,List.getElem?_eq_getElem (by omega)⟩
     have hdrop:lines.drop i=line::lines.drop (i+1):=by
      have h:=(List.getElem?_eq_some_iff.1 hli)
      rw[List.drop_eq_getElem_cons h.1,h.2]
     have c0:wr.cell? ⟨blk,off+i,none⟩=some (.string ⟨line.toArray⟩):=HI.out.below S0.out.o.bel _ _ _ (hcm _ _ hli)
     have wi:IntKind.i64.wrap ((i:Int)+1)=((i+1:Nat):Int):=by rw[IntKind.wrap_i64];omega
     have pi:(0:Int)<=(i:Int):=by omega
     rw[hdrop]at hrec
     unfold Vg at hrec
     obtain⟨⟨f,bad⟩,hf,hrec1⟩:=zl hrec
     dsimp only at hrec1
     have k48:=jcG hf S0.out.o.iM
     clear hdrop hli hcm hf hrec
     by_cases hbad:bad=0
     ·subst hbad
      cases f with
      |nil=>
       rw[if_pos (.inr rfl)]at hrec1
       cases hrec1
       go_wp2_with (first
        |(refine jA (cs:=zp) (arr:=zp) rfl rfl rfl rfl rfl HR.out.2 ((S2.out.1.o.bel.block w.heap.size HW.out.1).trans HW.out.2.1) (by exact Nat.le_refl 11) qf ?_
          intro w9 hz hg
          have S9:Hid (_/\_):=⟨hz,hg⟩
          clear hz hg)
        |(go_at_call 48;refine k48.mono ?_;rintro e w2 ⟨fa,fc,M2,rfl,hn2,hr2⟩
          have S2:Hid (_/\_):=⟨S0.out.call hn2,hr2.mono (zc M0 _)⟩
          clear hn2 hr2 k48 c0))
       refine bodyPost_ret (Yv (cs:=zp) r0 rfl rfl rfl HR.out.1 HR.out.2 S9.out.1) rfl ?_
       exact PH HW.out.2.2 HW.out.1 S2.out.1.o.bel S9.out.2
      |cons kw rest=>
       rw[if_neg (by simp)]at hrec1
       obtain⟨al,ha,hrec2⟩:=zl hrec1
       clear hrec1
       have hix:ix (kw::rest) 0=kw:=rfl
       rw[hix]at ha hrec2
       have HA:Hid (_):=ha
       obtain⟨nf,hnf⟩:∃nf,(kw::rest).length=nf:=⟨_,rfl⟩
       have hnf0:((nf:Int)==0)=false:=by rw[beq_eq_false_iff_ne,<-hnf];simp;omega
       have hnf1:(0:Int)<(nf:Int):=by rw[<-hnf];simp
       rw[hnf]at k48
       clear ha hix
       cases al with
       |false=>
        rw[if_pos rfl]at hrec2
        cases hrec2
        go_wp2_with (first
         |(refine jA (cs:=zp) (arr:=zp) rfl rfl rfl rfl rfl HR.out.2 ((S3.out.o.bel.block w.heap.size HW.out.1).trans HW.out.2.1) (by exact Nat.le_refl 11) qf ?_
           intro w9 hz hg
           have S9:Hid (_/\_):=⟨hz,hg⟩
           clear hz hg)
         |(go_at_call 49;refine(Uh HA.out w2).mono ?_;rintro e w3 ⟨rfl,hb3⟩
           have S3:Hid (_):=S2.out.1.below hb3
           have d3:w3.cell? ⟨blk2,off2,none⟩=some (.string ⟨List.toArray kw⟩):=S3.out.o.iM _ _ _ (HF.out 0 _ rfl)
           clear hb3)
         |(go_at_call 48;refine k48.mono ?_;rintro e w2 ⟨fa,fc,M2,rfl,hn2,hr2⟩
           have S2:Hid (_/\_):=⟨S0.out.call hn2,hr2.mono (zc M0 _)⟩
           obtain⟨blk2,off2,rfl,hc2⟩:=Wy S2.out.2
           have d0:w2.cell? ⟨blk2,off2,none⟩=some (.string ⟨List.toArray kw⟩):=S2.out.1.o.iM _ _ _ (hc2 0 _ rfl)
           have HF:Hid (_):=hc2
           clear hn2 hr2 k48 c0 hc2))
        refine bodyPost_ret (Yv (cs:=zp) r0 rfl rfl rfl HR.out.1 HR.out.2 S9.out.1) rfl ?_
        exact PH HW.out.2.2 HW.out.1 S3.out.o.bel S9.out.2
       |true=>
        rw[if_neg (by simp)]at hrec2
        obtain⟨⟨y2,ok⟩,hst,hrec3⟩:=zl hrec2
        dsimp only at hrec3
        have HT:Hid (_):=hst
        clear hst hrec2
        cases ok with
        |false=>
         rw[if_pos rfl]at hrec3
         cases hrec3
         go_wp2_with (first
          |(refine jA (cs:=zp) (arr:=zp) rfl rfl rfl rfl rfl HR.out.2 ((S5.out.2.2.block w.heap.size HW.out.1).trans HW.out.2.1) (by exact Nat.le_refl 11) qf ?_
            intro w9 hz hg
            have S9:Hid (_/\_):=⟨hz,hg⟩
            clear hz hg)
          |(refine jA (cs:=A) (arr:=zp) rfl rfl rfl rfl rfl (by rw[S4.out.2.1];exact HR.out.2) (yy w4 _ _ rfl) (by rw[S4.out.2.1];exact Nat.le_refl 11) S4.out.2.2.1 ?_
            intro w5 hz hg
            have hz2:w5.heap[w4.heap.size]? = some (.cells A.toArray 31 (0,0)):=by
             rw[hz,List.take_zero,Nat.zero_add,List.nil_append,List.drop_eq_nil_of_le (by rw[S4.out.2.1];exact Nat.le_refl 11),List.append_nil]
            have hb5:Below w4.heap.size w4 w5:=((Below.refl _ _).alloc (Nat.le_refl _) _).grown hg (by simp) (fun k e=>by have:=Option.some.inj e;omega)
            have S5:Hid (_/\_/\_):=⟨hz2,hb5,S4.out.2.2.2.trans (hb5.mono S4.out.2.2.2.size)⟩
            clear hz hg hz2 hb5)
          |(go_at_call 50;refine(pE (S:=fun b=>b=w1.heap.size) HT.out S3.out (by rintro b rfl;exact⟨Jr S3.out.o.box,S3.out.offbp,S3.out.o.hp.2⟩) S2.out.2).mono ?_;rintro e w4 ⟨A,rfl,hA⟩
            have S4:Hid (RA w1 (fun b=>b=w1.heap.size) w3 (zr M0 M2) y2 A w4/\A.length=11/\(∀u∈A,jL u=true)/\Below w1.heap.size w1 w4):=by
             refine⟨hA,?_⟩
             obtain⟨Mq,bq,g0,g1,g2,g3,gF,gP,mF,mP,yb,yj,yc,yo,yf,yp,rfl,hp,hme,hs⟩:=hA
             exact⟨rfl,hp.one,hp.o.bel⟩
            clear hA)
          |(refine yv (cs:=YB x h0 h1 h2 h3) rfl rfl rfl rfl HR.out.1 HR.out.2 S3.out.o.box (fun j v e=>by rw[Nat.zero_add];simpa [YB]using e) ?_)
          |(go_at_call 49;refine(Uh HA.out w2).mono ?_;rintro e w3 ⟨rfl,hb3⟩
            have S3:Hid (_):=S2.out.1.below hb3
            have d3:w3.cell? ⟨blk2,off2,none⟩=some (.string ⟨List.toArray kw⟩):=S3.out.o.iM _ _ _ (HF.out 0 _ rfl)
            clear hb3)
          |(go_at_call 48;refine k48.mono ?_;rintro e w2 ⟨fa,fc,M2,rfl,hn2,hr2⟩
            have S2:Hid (_/\_):=⟨S0.out.call hn2,hr2.mono (zc M0 _)⟩
            obtain⟨blk2,off2,rfl,hc2⟩:=Wy S2.out.2
            have d0:w2.cell? ⟨blk2,off2,none⟩=some (.string ⟨List.toArray kw⟩):=S2.out.1.o.iM _ _ _ (hc2 0 _ rfl)
            have HF:Hid (_):=hc2
            clear hn2 hr2 k48 c0 hc2))
         refine bodyPost_ret (Yv (cs:=zp) r0 rfl rfl rfl HR.out.1 HR.out.2 S9.out.1) rfl ?_
         exact PH HW.out.2.2 HW.out.1 S5.out.2.2 S9.out.2
        |true =>
         rw[if_neg (by simp)]at hrec3
         have HX:Hid (_):=hrec3
         clear hrec3
         go_wp2_with (first
          |(refine jA (cs:=A) (arr:=YB x h0 h1 h2 h3) rfl rfl rfl rfl rfl (by rw[S4.out.2.1];exact HR.out.2) ((S5.out.2.1.block _ (Jr (kept7 S4.out.1 S3.out.o.box))).trans (kept7 S4.out.1 S3.out.o.box)) (by rw[S4.out.2.1];exact Nat.le_refl 11) S4.out.2.2.1 ?_
            intro w6 hz hg
            have S6:Hid (_):=jlF S4.out.1 S5.out.2.1 rfl (Nat.le_refl _) hz hg
            have d6:w6.cell? ⟨blk2,off2,none⟩=some (.string ⟨List.toArray kw⟩):=jlG S4.out.1 S5.out.2.1 (Nat.le_refl _) hg (HF.out 0 _ rfl)
            clear hz hg)
          |(refine yv (cs:=A) rfl rfl rfl rfl HR.out.1 (by rw[S4.out.2.1];exact HR.out.2) S5.out.1 (fun j v e=>by rw[Nat.zero_add];simpa using e) ?_)
          |(refine jA (cs:=A) (arr:=zp) rfl rfl rfl rfl rfl (by rw[S4.out.2.1];exact HR.out.2) (yy w4 _ _ rfl) (by rw[S4.out.2.1];exact Nat.le_refl 11) S4.out.2.2.1 ?_
            intro w5 hz hg
            have hz2:w5.heap[w4.heap.size]? = some (.cells A.toArray 31 (0,0)):=by
             rw[hz,List.take_zero,Nat.zero_add,List.nil_append,List.drop_eq_nil_of_le (by rw[S4.out.2.1];exact Nat.le_refl 11),List.append_nil]
            have hb5:Below w4.heap.size w4 w5:=((Below.refl _ _).alloc (Nat.le_refl _) _).grown hg (by simp) (fun k e=>by have:=Option.some.inj e;omega)
            have S5:Hid (_/\_/\_):=⟨hz2,hb5,S4.out.2.2.2.trans (hb5.mono S4.out.2.2.2.size)⟩
            clear hz hg hz2 hb5)
          |(go_at_call 50;refine(pE (S:=fun b=>b=w1.heap.size) HT.out S3.out (by rintro b rfl;exact⟨Jr S3.out.o.box,S3.out.offbp,S3.out.o.hp.2⟩) S2.out.2).mono ?_;rintro e w4 ⟨A,rfl,hA⟩
            have S4:Hid (RA w1 (fun b=>b=w1.heap.size) w3 (zr M0 M2) y2 A w4/\A.length=11/\(∀u∈A,jL u=true)/\Below w1.heap.size w1 w4):=by
             refine⟨hA,?_⟩
             obtain⟨Mq,bq,g0,g1,g2,g3,gF,gP,mF,mP,yb,yj,yc,yo,yf,yp,rfl,hp,hme,hs⟩:=hA
             exact⟨rfl,hp.one,hp.o.bel⟩
            clear hA)
          |(refine yv (cs:=YB x h0 h1 h2 h3) rfl rfl rfl rfl HR.out.1 HR.out.2 S3.out.o.box (fun j v e=>by rw[Nat.zero_add];simpa [YB]using e) ?_)
          |(go_at_call 49;refine(Uh HA.out w2).mono ?_;rintro e w3 ⟨rfl,hb3⟩
            have S3:Hid (_):=S2.out.1.below hb3
            have d3:w3.cell? ⟨blk2,off2,none⟩=some (.string ⟨List.toArray kw⟩):=S3.out.o.iM _ _ _ (HF.out 0 _ rfl)
            clear hb3)
          |(go_at_call 48;refine k48.mono ?_;rintro e w2 ⟨fa,fc,M2,rfl,hn2,hr2⟩
            have S2:Hid (_/\_):=⟨S0.out.call hn2,hr2.mono (zc M0 _)⟩
            obtain⟨blk2,off2,rfl,hc2⟩:=Wy S2.out.2
            have d0:w2.cell? ⟨blk2,off2,none⟩=some (.string ⟨List.toArray kw⟩):=S2.out.1.o.iM _ _ _ (hc2 0 _ rfl)
            have HF:Hid (_):=hc2
            clear hn2 hr2 k48 c0 hc2))
         go_roundg (N - (i+1))
         case measure=>omega
         case rel=>exact⟨i+1,y2,kw,rfl,by simp,by omega,by omega,HX.out,S6.out⟩
     ·rw[if_pos (.inl hbad)]at hrec1
      cases hrec1
      have hb1:(bad==0)=false:=by rw[beq_eq_false_iff_ne];exact hbad
      have hb2:(bad != 0)=true:=by rw[bne_iff_ne];exact hbad
      clear hbad
      go_wp2_with (first
       |(refine jA (cs:=zp) (arr:=zp) rfl rfl rfl rfl rfl HR.out.2 ((S2.out.1.o.bel.block w.heap.size HW.out.1).trans HW.out.2.1) (by exact Nat.le_refl 11) qf ?_
         intro w9 hz hg
         have S9:Hid (_/\_):=⟨hz,hg⟩
         clear hz hg)
       |(go_at_call 48;refine k48.mono ?_;rintro e w2 ⟨fa,fc,M2,rfl,hn2,hr2⟩
         have S2:Hid (_/\_):=⟨S0.out.call hn2,hr2.mono (zc M0 _)⟩
         clear hn2 hr2 k48 c0))
      refine bodyPost_ret (Yv (cs:=zp) r0 rfl rfl rfl HR.out.1 HR.out.2 S9.out.1) rfl ?_
      exact PH HW.out.2.2 HW.out.1 S2.out.1.o.bel S9.out.2
    ·have hin':i=N:=by omega
     subst hin'
     have hdr:lines.drop i=[]:=List.drop_eq_nil_of_le (by omega)
     rw[hdr]at hrec
     unfold Vg at hrec
     have wi:IntKind.i64.wrap ((i:Int)+1)=((i+1:Nat):Int):=by rw[IntKind.wrap_i64];omega
     clear hdr
     by_cases hla:last=[]
     ·subst hla
      rw[if_pos rfl]at hrec
      cases hrec
      go_wp2_with (first
       |(refine jA (cs:=zp) (arr:=zp) rfl rfl rfl rfl rfl HR.out.2 ((S0.out.o.bel.block w.heap.size HW.out.1).trans HW.out.2.1) (by exact Nat.le_refl 11) qf ?_
         intro w9 hz hg
         have S9:Hid (_/\_):=⟨hz,hg⟩
         clear hz hg))
      refine bodyPost_ret (Yv (cs:=zp) r0 rfl rfl rfl HR.out.1 HR.out.2 S9.out.1) rfl ?_
      exact PH HW.out.2.2 HW.out.1 S0.out.o.bel S9.out.2
     ·rw[if_neg hla]at hrec
      obtain⟨v,hv,hrec1⟩:=zl hrec
      have hl1:(last==[])=false:=by rw[beq_eq_false_iff_ne];exact hla
      have HV:Hid (_):=hv
      obtain⟨M',m1,m2,m3⟩:=S0.out.out
      have HO:Hid (_/\_/\_):=⟨m1,m2,m3⟩
      have k42:=jd4 HV.out HO.out.1 HO.out.2.2 S0.out.one
      clear hrec hv hla m1 m2 m3
      by_cases hv0:v=0
      ·subst hv0
       rw[if_neg (by simp)]at hrec1
       obtain⟨e1,e2,e3⟩:x=y/\(0:Int)=n/\(0:Int)=c:=by simpa using hrec1
       subst e1;subst e2;subst e3
       clear hrec1
       go_wp2_with (first
        |(refine jA (cs:=YB x h0 h1 h2 h3) (arr:=zp) rfl rfl rfl rfl rfl HR.out.2 (((S5.out.block _ (Nat.lt_of_lt_of_le HW.out.1 S0.out.o.bel.size)).trans (S0.out.o.bel.block _ HW.out.1)).trans HW.out.2.1) (by exact Nat.le_refl 11) S0.out.one ?_
          intro w9 hz hg
          have S9:Hid (_/\_):=⟨hz,hg⟩
          clear hz hg)
        |(refine yv (cs:=YB x h0 h1 h2 h3) rfl rfl rfl rfl HR.out.1 HR.out.2 ((S5.out.block _ (Jr S0.out.o.box)).trans S0.out.o.box) (fun j v e=>by rw[Nat.zero_add];simpa [YB]using e) ?_)
        |(go_at_call 42;refine k42.mono ?_;rintro e w5 ⟨rfl,hb⟩
          have S5:Hid (_):=hb
          clear hb k42)
        |(refine yv (cs:=YB x h0 h1 h2 h3) rfl rfl rfl rfl HR.out.1 HR.out.2 S0.out.o.box (fun j v e=>by rw[Nat.zero_add];simpa [YB]using e) ?_))
       refine bodyPost_ret (Yv (cs:=YB x h0 h1 h2 h3) r0 rfl rfl rfl HR.out.1 HR.out.2 S9.out.1) rfl ?_
       have q1:=HW.out.1
       have q2:=HW.out.2.2
       have q3:=S0.out.o.bel
       have hbl:Below w.heap.size w w5:=(q2.trans (q3.mono (Nat.le_of_lt q1))).trans (S5.out.mono (Nat.le_trans (Nat.le_of_lt q1) q3.size))
       refine⟨YB x h0 h1 h2 h3,M',rfl,hbl.grown S9.out.2 hbl.size (fun k e=>by have:=Option.some.inj e;omega),Kz (HO.out.1.below S5.out) S9.out.2 (fun o=>?_),fun b o u e=>by have:=HO.out.2.1 b o u e;omega,HO.out.2.2,S0.out.one⟩
       cases e:M' w.heap.size o with
       |none=>rfl
       |some u=>have:=HO.out.2.1 _ _ _ e;omega
      ·rw[if_pos hv0]at hrec1
       cases hrec1
       have hv1:(v==0)=false:=by rw[beq_eq_false_iff_ne];exact hv0
       have hv2:(v != 0)=true:=by rw[bne_iff_ne];exact hv0
       clear hv0
       go_wp2_with (first
        |(refine jA (cs:=zp) (arr:=zp) rfl rfl rfl rfl rfl HR.out.2 (((S5.out.block _ (Nat.lt_of_lt_of_le HW.out.1 S0.out.o.bel.size)).trans (S0.out.o.bel.block _ HW.out.1)).trans HW.out.2.1) (by exact Nat.le_refl 11) qf ?_
          intro w9 hz hg
          have S9:Hid (_/\_):=⟨hz,hg⟩
          clear hz hg)
        |(go_at_call 42;refine k42.mono ?_;rintro e w5 ⟨rfl,hb⟩
          have S5:Hid (_):=hb
          clear hb k42)
        |(refine yv (cs:=YB x h0 h1 h2 h3) rfl rfl rfl rfl HR.out.1 HR.out.2 S0.out.o.box (fun j v e=>by rw[Nat.zero_add];simpa [YB]using e) ?_))
       refine bodyPost_ret (Yv (cs:=zp) r0 rfl rfl rfl HR.out.1 HR.out.2 S9.out.1) rfl ?_
       exact PH HW.out.2.2 HW.out.1 (S0.out.o.bel.trans (S5.out.mono S0.out.o.bel.size)) S9.out.2
  ·cases h
 ·rw[if_pos hc0]at h
  cases h
  have hc1:(c==0)=false:=by rw[beq_eq_false_iff_ne];exact hc0
  have hc2:(c != 0)=true:=by rw[bne_iff_ne];exact hc0
  clear hc0
  go_enter Tryz.func19,Tryz.ntmps19
  go_wp2_with (first
   |(refine jA (cs:=zp) (arr:=zp) rfl rfl rfl rfl rfl HR.out.2 HW.out.2.1 (by exact Nat.le_refl 11) qf ?_
     intro w9 hz hg
     have S9:Hid (_/\_):=⟨hz,hg⟩
     clear hz hg)
   |(go_at_call 47;refine k47.mono ?_;rintro e w1 ⟨ad,cap,M1,rfl,hn1,hm1⟩
     have HM:Hid (_):=hm1
     have HI:Hid (Imm M1 w1):=hn1.2.1
     have HW:Hid (w.heap.size<w1.heap.size/\w1.heap[w.heap.size]? = some (.cells zp.toArray 31 (0,0))/\Below w.heap.size w w1):=⟨by have:=hn1.1.size;simp at this;omega,(hn1.1.block _ (by simp)).trans (yy w _ _ rfl),((Below.refl _ _).alloc (Nat.le_refl _) _).trans (hn1.1.mono (by simp))⟩
     clear hn1 hm1 k47))
  refine bodyPost_ret (Yv (cs:=zp) r0 rfl rfl rfl HR.out.1 HR.out.2 S9.out.1) rfl ?_
  exact PH HW.out.2.2 HW.out.1 (Below.refl _ _) S9.out.2
theorem jaN {s:List UInt8}{r:jo × Int × Int}(h:qo s=some r):FnR Tryz.prog 19 [KY s] (.tup [wB r.1,.v (.int .i64 r.2.1),.v (.int .i64 r.2.2)]) []:=by
 obtain⟨y,n,c⟩:=r
 intro w m vs hgl hi hr
 have hr:JK m jh [AV.v (.string ⟨s.toArray⟩)] vs:=hr
 obtain⟨t,rfl,hr2⟩:=hr.invV
 obtain rfl:=hr2.inv0
 refine(jaK h w).mono ?_
 rintro e w' ⟨A,M',rfl,hb,hi',hn,hv,h1⟩
 have hm:Imm m w':=hi.below hb
 refine⟨_,zr m M',jh,rfl,hb,⟨fun b o u e=>(Kq e).elim (hm b o u) (hi' b o u),Wu hm hi',?_,by simp[find],by simp[find],by simp[jh],by simp[jh],trivial⟩,fun _ _=>rfl,.tup (.cons (.agg (hv.mono (zc _ _)) h1) (.cons .v (.cons .v .nil)))⟩
 intro b o v e
 rcases Kq e with e|e
 ·exact .inl e
 ·exact .inr (hn b o v e)
noncomputable def c_19:Con Tryz.prog tb cd:=⟨19,[.d Ix.tstr],[Ix.tWorld_,Ix.tint,Ix.tint],[],fun a=>qo a.1,Tryz.call19,fun a avs r ha hf=>by
 match avs,ha with
 | [x0],h=>obtain⟨h0,_⟩:=h;cases h0;exact jaN hf⟩
end GoForm
end
