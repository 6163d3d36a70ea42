/- Several texts in one. No conditions. -/
import Derived.Test.YtffgldbihpgjgaaGreatDoorGX
import Derived.Test.YtffgldbihpgjgaaGreatDoorF47CA
import Derived.Test.YtffgldbihpgjgaaGreatDoorGZ
import Derived.WalkKit
import Derived.LaidEql
import Derived.Stop.Asserts
import Derived.RowKitTokens
section
set_option linter.all false
set_option maxRecDepth 100000
open Go Go.Rx Go.Proofs Go.RowKit
namespace GoForm
noncomputable def updL (rec643:Int × Int->Option Int) (s644:Int × Int):Option Int:=
 Let (decide (s644.snd<(8:Int))) fun (x645:Bool)=>
 if x645=true then
 Join (fun (v646:Int)=>Let (IntKind.i64.wrap (s644.snd+(1:Int))) fun (x647:Int)=>rec643 (v646,x647))
 fun (j648:Int->Option Int)=>
 Let (bAnd IntKind.u32 s644.fst (1:Int)) fun (x649:Int)=>
 Let (vO IntKind.u32 s644.fst (1:Int)) fun (x650:Int)=>
 Let (x649==(1:Int)) fun (x651:Bool)=>
 if x651=true then Let (jcd IntKind.u32 x650 (2197175160:Int)) fun (x652:Int)=>j648 x652 else j648 x650
 else some s644.fst
theorem zL (n k:Nat) (c:Int) (hk:k<8):qw updL (n+1) (c,(k:Int))=qw updL n (updS c,((k+1:Nat):Int)):=by
 rw [ZX]
 show updL _ _=_
 unfold updL
 simp only [JD,QQ]
 rw [if_pos (by rw [decide_eq_true (show (k:Int)<8 by omega)]),UK k (by omega)]
 unfold updS
 split <;> rfl
theorem upd_eq (c:Int):zy c=some (kQ 8 c):=by
 have h:zy c=qw updL fuel (c,((0:Nat):Int)):=rfl
 obtain ⟨m,hm⟩:∃ m,fuel=m+9:=⟨2 ^ 70 - 9,by unfold fuel;decide⟩
 rw [h,hm,zL (m+8) 0 _ (by omega),zL (m+7) 1 _ (by omega),zL (m+6) 2 _ (by omega),zL (m+5) 3 _ (by omega),zL (m+4) 4 _ (by omega),zL (m+3) 5 _ (by omega),zL (m+2) 6 _ (by omega),zL (m+1) 7 _ (by omega),ZX]
 unfold updL
 simp only [JD]
 rw [if_neg (by simp)]
 rfl
theorem Wv (l:List UInt8):(l.map kH).flatMap AV.cells=(l.map fun x:UInt8=>Value.int .u8 (x.toNat:Int)).map AV.v:=by
 induction l with
 | nil=>rfl
 | cons x l ih=>rw [List.map_cons,List.flatMap_cons,ih];rfl
theorem uO {m:Mem} {l:List UInt8} {v:Value} (h:Rep m je (jW l) v):∃ ad cap,v=.slice ad l.length cap/\l.length<=cap/\(0<l.length->∃ blk off,ad=some ⟨blk,off,none⟩/\∀ j x,l[j]? = some x->m blk (off+j)=some (.int .u8 (x.toNat:Int))):=by
 have h:Rep m je (.sl false 1 (l.map kH)) v:=h
 generalize hl:l.map kH=l' at h
 cases h with
 | slnil=>
   have:l=[]:=by simpa using hl
   subst this
   exact ⟨none,0,rfl,Nat.le_refl _,fun h=>absurd h (by simp)⟩
 | @sl _ _ _ _ a cap cs h1 h2 h3 h4 h5 h6 h7=>
   have hn:l'.length=l.length:=by rw [<- hl];simp
   rw [hn] at h6 ⊢
   refine ⟨some a,cap,rfl,h6,fun hp=>?_⟩
   rw [<- hl] at h2
   rw [Wv] at h2
   obtain rfl:=Jz h2
   refine ⟨a.block,a.off,?_,fun j x e=>?_⟩
   ·have:=h4 (by simp;omega)
    cases a
    simp at this
    rw [this]
   ·exact h5 j _ (by simp [e])
theorem jeY (c:Int):FnR Tryz.prog 112 [.v (.int .u32 c)] (.v (.int .u32 (kQ 8 c))) []:=c_112.ok (c,()) [.v (.int .u32 c)] (kQ 8 c) ⟨rfl,trivial⟩ (upd_eq c)
theorem jbW (b:List UInt8) (i:Nat) (x:UInt8) (h:b[i]? = some x):jbX (b.take (i+1))=kQ 8 (jcd .u32 (jbX (b.take i)) (x.toNat:Int)):=by
 unfold jbX
 rw [List.take_succ,h]
 simp
set_option maxHeartbeats 2000000 in
theorem jbV (b:List UInt8) (hl:b.length<=1099511627776) (m:Mem) (v:Value) (w:World) (hi:Imm m w) (hr:Rep m je (jW b) v):
 Calls Tryz.prog 70 #[v] w fun e w'=>e=.returned (.int .u32 (PO b))/\Below w.heap.size w w':=by
 obtain ⟨ad,cap,rfl,hcap,hm⟩:=uO hr
 obtain ⟨n,hn⟩:∃ n,b.length=n:=⟨_,rfl⟩
 rw [hn] at hm hcap hl ⊢
 have e112:=Tryz.call112
 clear hr
 go_enter Tryz.func70,Tryz.ntmps70
 go_wp2
 go_loopg [3,8] n (fun kx s3 s8 wr=>∃ (i:Nat),s3=.int .u32 (jbX (b.take i))/\s8=.int .i64 i/\i<=n/\n - i<=kx/\Aside (Below w.heap.size w wr))
 case atStart=>exact ⟨0,rfl,rfl,Nat.zero_le _,Nat.le_refl _,Below.refl _ _⟩
 case round=>
  obtain ⟨i,rfl,rfl,hin,hkx,S⟩:=hrel
  by_cases hlt:(i:Int)<n
  ·obtain ⟨blk,off,rfl,hm2⟩:=hm (by omega)
   obtain ⟨x,hx⟩:∃ x,b[i]? = some x:=⟨_,List.getElem?_eq_getElem (by omega)⟩
   have c0:wr.cell? ⟨blk,off+i,none⟩=some (.int .u8 (x.toNat:Int)):=(hi.below S.out) _ _ _ (hm2 i x hx)
   have wi:IntKind.i64.wrap ((i:Int)+1)=((i+1:Nat):Int):=by rw [IntKind.wrap_i64];omega
   have ti:((i:Int)).toNat=i:=by omega
   have pi:(0:Int)<=(i:Int):=by omega
   have hx8:x.toNat<256:=x.toNat_lt
   have cv:IntKind.u32.wrap (x.toNat:Int)=(x.toNat:Int):=by simp [IntKind.wrap,IntKind.bits,IntKind.signed];omega
   have hN:=jbW b i x hx
   obtain ⟨cN,hcN⟩:∃ cN,cN=kQ 8 (jcd .u32 (jbX (b.take i)) (x.toNat:Int)):=⟨_,rfl⟩
   have hc:=jeY (jcd .u32 (jbX (b.take i)) (x.toNat:Int))
   rw [<- hcN] at hc hN
   have key:∀ z,z=jcd .u32 (jbX (b.take i)) (x.toNat:Int)->Calls Tryz.prog 112 #[.int .u32 z] wr fun e w'=>e=.returned (.int .u32 cN)/\Below wr.heap.size wr w':=by
    rintro z rfl
    exact Zv hc wr [_] (.cons .v .nil)
   have HX:Hid (_/\_):=⟨hN,hx⟩
   clear hc hcN hN hm2 hx
   go_wp2_with (go_at_call 112;refine (key _ (by first | rfl | (simp [jcd,bits]))).mono ?_;rintro e w2 ⟨rfl,hb2⟩;have S2:Aside (Below w.heap.size w w2):=S.out.trans (hb2.mono S.out.size);clear hb2 key)
   go_roundg (n - (i+1))
   case measure=>omega
   case rel=>exact ⟨i+1,by rw [HX.out.1],by simp,by omega,by omega,S2⟩
  ·have hin':i=n:=by omega
   subst hin'
   have ht:jbX (b.take i)=jbX b:=by rw [<- hn,List.take_length]
   rw [ht]
   go_wp2
   go_ret
   refine ⟨?_,S.out⟩
   show _=Ending.returned (.int .u32 (bits BinOp.xor IntKind.u32 4294967295 (jbX b)))
   rfl
theorem UH {P:Program} {w:World} {ops:Array Oper} {rest:List Oper} {o:Oper} {a:Act} {Q:Exit->Act->World->Prop}
 (hg:o.guard=none) (l c:Operand) (t:TypeId) (hop:o.op=Op.makeSlice t l c) (e:TypeId) (i:TypeInfo) (z:Value) (h1:P.underlying t=some (.slice e)) (h2:P.info? e=some i) (h3:i.zero=some z)
 (n k:Nat) (hl:a.eval l=.int .i64 (n:Int)) (hc:a.eval c=.int .i64 (k:Int)) (hnk:n<=k) (b2:(i.bytes:Int)*(k:Int)<=281474976710656) (b3:(k:Int)<=9223372036854775807)
 (hK:wpList P ops Q rest (a.put o.dst (.slice (some ⟨w.heap.size,0,none⟩) n k)) (w.alloc (.cells (madeCells z.cells (k*i.size)) e))):wpList P ops Q (o::rest) a w:=by
 refine wpList_plain hg fun K hK'=>?_
 have hrun:=run_make (P:=P) (w:=w) t e i z h1 h2 h3 .i64 .i64 (n:Int) (k:Int) (by omega) (by omega) b2 b3
 simp only [Int.toNat_natCast] at hrun
 unfold Oper.wp
 simp [execOp,hop,hl,hc,hrun,Result.andThen]
 exact hK' _ _ hK
theorem UJ {P:Program} {w:World} {ops:Array Oper} {rest:List Oper} {o:Oper} {a:Act} {Q:Exit->Act->World->Prop}
 (hg:o.guard=none) (d s:Operand) (t:TypeId) (hop:o.op=Op.call { callee:=Callee.builtin Builtin.copy,args:=#[d,s],argTypes:=#[t,t] }) (e:TypeId) (h1:P.underlying t=some (.slice e)) (hs:∀ w,(Go.sizeOf e).run P w=.ok 1 w)
 (g n k c:Nat) (ad:Option Addr) (hd:a.eval d=.slice (some ⟨g,0,none⟩) n k) (hsv:a.eval s=.slice ad n c) (xs:List Value) (hxs:xs.length=n) (hnil:ad=none->xs=[]) (hcell:∀ b,ad=some b->∀ j v,xs[j]? = some v->w.cell? (b.add j)=some v) (h1c:∀ v∈xs,v.oneCell'=true)
 (cur:Array Value) (T:TypeId) (hb:w.heap[g]? = some (.cells cur T (0,0))) (hfit:n<=cur.size)
 (hK:∀ w',w'.heap[g]? = some (.cells (xs++cur.toList.drop n).toArray T (0,0))->w.grownBy w' (some g)->wpList P ops Q rest (a.put o.dst (.int .i64 (n:Int))) w'):wpList P ops Q (o::rest) a w:=by
 refine wpList_plain hg fun K hK'=>?_
 have hst:=run_storeCells_at P g 0 T xs 0 cur w hb (by simpa [hxs] using hfit) h1c
 simp only [Nat.add_zero,Nat.zero_add,List.take_zero,List.nil_append,hxs] at hst
 have hfc:(Builtin.firstCells 1 n (.slice ad n c)).run P w=.ok xs.toArray w:=by
  cases ad with
  | none=>rw [hnil rfl];simp [Builtin.firstCells]
  | some b=>exact run_firstCells_some (P:=P) (w:=w) 1 n b n c xs (by simpa using hxs) (hcell b rfl)
 have hrun:(Builtin.copy_ #[t,t] o.type #[.slice (some ⟨g,0,none⟩) n k,.slice ad n c]).run P w=.ok (goInt n) (w.setRow g (xs++cur.toList.drop n).toArray):=by
  simp [Builtin.copy_,underlying,h1,Builtin.lenOf,hs,hfc,hst]
 unfold Oper.wp
 simp only [execOp,hop,resolve,invoke,builtin,Sem.run_bind,Sem.run_pure,Result.andThen_ok,List.map_toArray,List.map_cons,List.map_nil,hd,hsv,hrun]
 exact hK' _ _ (hK _ (setRow_heap w g cur _ T (0,0) hb) ⟨rfl,rfl,rfl,by simp,fun k _ hk=>setRow_other w g k _ (fun e=>hk (by rw [e]))⟩)
def bC (l:List UInt8):List Value:=l.map fun x:UInt8=>.int .u8 (x.toNat:Int)
theorem jeN (l:List UInt8):∀ v∈bC l,v.oneCell'=true:=by
 intro v hv
 obtain ⟨x,-,rfl⟩:=List.mem_map.1 hv
 rfl
theorem bC_rep {w:World} {base:Nat} {v:Value} {l:List UInt8} (h:w.ownsRow base 5 1 v l.length (bC l)) (hn:0<l.length):Rep (jeh base w) je (jW l) v:=
 jfb h hn (l:=l.map kH) (by simp) (by intro x hx;obtain ⟨y,-,rfl⟩:=List.mem_map.1 hx;rfl) (by rw [Wv];exact Ke _) (jeN l)
theorem vR (n:Int):((toByte n).toNat:Int)=n % 256:=by
 unfold toByte
 have h:(n % 256).toNat<256:=by omega
 rw [UInt8.toNat_ofNat']
 omega
set_option maxHeartbeats 4000000 in
theorem my (b:List UInt8) (hl:b.length<=1099511627776) (m:Mem) (v:Value) (w:World) (hi:Imm m w) (hr:Rep m je (jW b) v):
 Calls Tryz.prog 40 #[v] w fun e w'=>∃ r,e=.returned r/\Below w.heap.size w w'/\Rep (jeh w.heap.size w') je (jW (b++[toByte (PO b),toByte (vO .u32 (PO b) 8),toByte (vO .u32 (PO b) 16),toByte (vO .u32 (PO b) 24)])) r:=by
 have hcr:=jbV b hl m v w hi hr
 obtain ⟨ad,cap,rfl,hcap,hm⟩:=uO hr
 obtain ⟨n,hn⟩:∃ n,b.length=n:=⟨_,rfl⟩
 rw [hn] at hm hcap hl hcr ⊢
 have hbc:(bC b).length=n:=by simp [bC,hn]
 have e70:=Tryz.call70
 obtain ⟨i5,a1,a2,a3,a4⟩:=info_parts (P:=Tryz.prog) (e:=5) (z:=.int .u8 0) (size:=1) (bytes:=1) (by kernel_rfl)
 have HI:Hid (_/\_/\_/\_):=⟨a1,a2,a3,a4⟩
 obtain ⟨crc,hcrc⟩:∃ crc,crc=PO b:=⟨_,rfl⟩
 rw [<- hcrc] at hcr ⊢
 have HM:Hid (_/\_/\_/\_):=⟨hm,hi,hn,hbc⟩
 have w4:IntKind.i64.wrap ((n:Int)+4)=((n+4:Nat):Int):=by rw [IntKind.wrap_i64];omega
 clear hm hi hr a1 a2 a3 a4 hcrc
 go_enter Tryz.func40,Tryz.ntmps40
 go_upto_region 3 with (first
  | (go_at_call 70;refine hcr.mono ?_;rintro e w1 ⟨rfl,hb1⟩;have HB:Hid (Below w.heap.size w w1):=hb1;clear hb1 hcr)
  | (refine UH rfl (.tmp 8) (.tmp 11) 24 rfl 5 i5 (.int .u8 0) Tryz.underlying24 HI.out.1 HI.out.2.1 n (n+4) rfl (by first | rfl | (simp [Act.eval];omega)) (by omega) (by rw [HI.out.2.2.2];omega) (by omega) ?_))
 obtain ⟨M,hM⟩:∃ M,M=madeCells #[Value.int .u8 0] ((n+4)*i5.size):=⟨_,rfl⟩
 have hMs:M.size=n+4:=by rw [hM,size_madeCells,HI.out.2.2.1];omega
 have hnil:ad=none->bC b=[]:=fun e=>by
  rcases Nat.eq_zero_or_pos n with h | h
  ·exact List.eq_nil_of_length_eq_zero (by rw [HM.out.2.2.2];exact h)
  ·obtain ⟨blk,off,e2,-⟩:=HM.out.1 h
   rw [e2] at e;cases e
 have hcell:∀ p,ad=some p->∀ (j:Nat) (u:Value),(bC b)[j]? = some u->(w1.alloc (.cells M 5)).cell? (p.add j)=some u:=fun p e j u hu=>by
  have hj:j<n:=by have:=(List.getElem?_eq_some_iff.1 hu).1;rw [HM.out.2.2.2] at this;exact this
  obtain ⟨blk,off,e2,h2⟩:=HM.out.1 (by omega)
  rw [e2] at e;cases e
  obtain ⟨x,hx⟩:∃ x,b[j]? = some x:=⟨_,List.getElem?_eq_getElem (by rw [HM.out.2.2.1];exact hj)⟩
  have hu2:u=.int .u8 (x.toNat:Int):=by
   unfold bC at hu;rw [List.getElem?_map,hx] at hu;exact (Option.some.inj hu).symm
  rw [hu2,yd]
  exact (HM.out.2.1.below (HB.out.trans (((Below.refl _ w1).alloc (Nat.le_refl _) _).mono HB.out.size))) _ _ _ (h2 j x hx)
 have HC:Hid (_/\_/\_):=⟨hMs,hnil,hcell⟩
 rw [<- hM]
 clear hMs hnil hcell hM
 go_upto_region 4 with (first
  | (refine UJ rfl (.tmp 13) (.tmp 14) 24 rfl 5 Tryz.underlying24 Tryz.sizeOf5 w1.heap.size n (n+4) cap ad rfl rfl (bC b) HM.out.2.2.2 HC.out.2.1 HC.out.2.2 (jeN b) M 5 (Jh w1 (.cells M 5) _ rfl) (by rw [HC.out.1];omega) ?_
     intro w2 h2 g2
     have H2:Hid (w2.ownsRow w.heap.size 5 1 (.slice (some ⟨w1.heap.size,0,none⟩) n (n+4)) n (bC b)/\Below w.heap.size w w2/\w1.heap.size<w2.heap.size):=by
      have hsz:=HB.out.size
      have hsz2:=g2.size
      refine ⟨⟨by rw [HM.out.2.2.2,Nat.mul_one],.inr ⟨w1.heap.size,n+4,_,rfl,hsz,h2,by omega,by simp only [maxLen];omega,?_,?_⟩⟩,(HB.out.trans (((Below.refl _ w1).alloc (Nat.le_refl _) _).mono hsz)).grown g2 (by simp;omega) (fun k e=>by have:=Option.some.inj e;omega),by simp at hsz2;omega⟩
      ·have:=HC.out.1
       simp [HM.out.2.2.2];omega
      ·have h5:n*1=(bC b).length:=by rw [HM.out.2.2.2,Nat.mul_one]
       rw [h5];simp
     clear h2 g2))
 have hN:bC [toByte crc,toByte (vO .u32 crc 8),toByte (vO .u32 crc 16),toByte (vO .u32 crc 24)]=[Value.int .u8 (crc % 256),.int .u8 (crc / 256 % 256),.int .u8 (crc / 65536 % 256),.int .u8 (crc / 16777216 % 256)]:=by
  have f:∀ k:Int,0<=k->Int.fdiv crc k=crc / k:=fun k hk=>Int.fdiv_eq_ediv_of_nonneg _ hk
  simp only [bC,List.map_cons,List.map_nil,vR,vO]
  rw [show min (Int.toNat 8) IntKind.u32.bits=8 from rfl,show min (Int.toNat 16) IntKind.u32.bits=16 from rfl,show min (Int.toNat 24) IntKind.u32.bits=24 from rfl,f _ (by decide),f _ (by decide),f _ (by decide)]
  rfl
 go_wp2_with (first
  | (at_builtin;refine Jc rfl (.tmp 16) (.tmp 28) 24 rfl w.heap.size 5 i5 (.int .u8 0) 1 1 Tryz.underlying24 HI.out.1 HI.out.2.1 HI.out.2.2.1 HI.out.2.2.2 rfl (by decide) (.slice (some ⟨w1.heap.size,0,none⟩) n (n+4)) n (bC b) rfl (World.ownsRow.kept H2.out.1 (yD ((Below.refl _ _).alloc (Nat.le_refl _) _)) (by simp [Value.ownBlock])) ⟨w2.heap.size,0,none⟩ 4 4 [Value.int .u8 (crc % 256),.int .u8 (crc / 256 % 256),.int .u8 (crc / 65536 % 256),.int .u8 (crc / 16777216 % 256)] rfl rfl (Yy w2 [Value.int .u8 (crc % 256),.int .u8 (crc / 256 % 256),.int .u8 (crc / 65536 % 256),.int .u8 (crc / 16777216 % 256)] 5 _ rfl) (by intro u hu;simp at hu;rcases hu with rfl | rfl | rfl | rfl <;> rfl) (by simp only [maxLen];omega) (by omega) (by have:=H2.out.2.1.size;simp;omega) (by decide) ?_
     intro v3 w3 hown3 hgrow3 hblk3
     have H3:Hid (_/\_):=⟨hown3,(H2.out.2.1.trans (((Below.refl _ w2).alloc (Nat.le_refl _) _).mono H2.out.2.1.size)).grown hgrow3 (by have:=H2.out.2.1.size;simp;omega) (fun k e=>by have:=HB.out.size;simp [Value.ownBlock] at e;omega)⟩
     clear hown3 hgrow3 hblk3))
 go_ret
 refine ⟨v3,rfl,H3.out.2,?_⟩
 have hlen:(b++[toByte crc,toByte (vO .u32 crc 8),toByte (vO .u32 crc 16),toByte (vO .u32 crc 24)]).length=n+4:=by simp [HM.out.2.2.1]
 refine bC_rep (v:=v3) ?_ (by omega)
 rw [hlen,show bC (b++[toByte crc,toByte (vO .u32 crc 8),toByte (vO .u32 crc 16),toByte (vO .u32 crc 24)])=bC b++[Value.int .u8 (crc % 256),.int .u8 (crc / 256 % 256),.int .u8 (crc / 65536 % 256),.int .u8 (crc / 16777216 % 256)] from by rw [<- hN];simp [bC]]
 exact H3.out.1
section
variable [GlC]
theorem jad {b r:List UInt8} (h:jae b=some r):FnR Tryz.prog 40 [jW b] (jW r) []:=by
 unfold jae at h
 split at h
 ·rename_i hl
  cases h
  refine FnR.jfH fun w m args hi hr=>?_
  obtain ⟨v,vs,rfl,h1,hr⟩:=hr.inv
  obtain rfl:=hr.inv0
  exact my b hl m v w hi h1
 ·cases h
noncomputable def c_40:Con Tryz.prog tb cd:=⟨40,[.d Ix.tsl_byte],[Ix.tsl_byte],[],fun a=>QX a.1,Tryz.call40,fun a avs r ha hf=>by
 match avs,ha with
 | [x0],h=>obtain ⟨h0,_⟩:=h;cases h0;exact jad hf⟩
noncomputable def c_41:Con Tryz.prog tb cd:=⟨41,[.d Ix.tsl_byte],[Ix.tsl_byte,Ix.tint],[],fun a=>yH a.1,Tryz.call41,Ja (cx:=cx [c_40] []) (im:=fun _=>false) (bar:=YW [(4,7)]) (an:=.n) Tryz.func41 rfl rfl rfl (fun _=>rfl) (fun d=>by kernel_rfl)⟩
noncomputable def c_12:Con Tryz.prog tb cd:=⟨12,[.d Ix.tsl_sl_Input],[Ix.tsl_byte,Ix.tint],[],fun a=>yo a.1,Tryz.call12,Ja (cx:=cx [jcC,c_36,c_37,c_38,c_39,c_40] []) (im:=fun _=>false) (bar:=YW []) (an:=(.t none .n (.t none .n (.t none .n (.t none (.t none .n (.t none (.t (some ⟨[.val 4 .tsl_byte [],.val 17 .tint []],[]⟩) (.t none .n (.t none .n (.t none (.t none (.t none .n (.t none .n (.t none .n (.t none (.t (some ⟨[.val 4 .tsl_byte [],.val 27 .tint []],[]⟩) .n .n) .n)))) .n) .n))) .n) .n)) .n))))) Tryz.func12 rfl rfl rfl (fun _=>rfl) (fun d=>by kernel_rfl)⟩
end
theorem jb1 {P:Program} {f:FuncId} {avs:List AV} {r:AV} (h:FnR P f avs r []) (w:World) (M:Mem) (vs:List Value) (hi:Imm M w) (hr:Jq M je avs vs):
 Calls P f vs.toArray w fun e w'=>∃ v M',e=.returned v/\Below w.heap.size w w'/\Imm M' w'/\Mem.le M M'/\JG M M' w.heap.size/\Rep M' je r v:=by
 refine (h w M vs trivial hi hr).mono ?_
 rintro e w' ⟨v,m',bl',rfl,hb,hws,hn,hr⟩
 have:bl'=je:=by funext id;exact hn id rfl
 subst this
 exact ⟨v,m',rfl,hb,hws.imm,hws.le,hws.grow,hr⟩
theorem FnR.ofMem [GlC] {P:Program} {f:FuncId} {args:List AV} {r:AV}
 (H:∀ (w:World) (m:Mem) (vs:List Value),Imm m w->Jq m je args vs->Calls P f vs.toArray w fun e w'=>∃ v,e=.returned v/\∃ M',Below w.heap.size w w'/\Imm M' w'/\Mem.le m M'/\JG m M' w.heap.size/\Rep M' je r v):FnR P f args r []:=by
 intro w m vs hgl hi hr
 refine (H w m vs hi hr).mono ?_
 rintro e w' ⟨v,he,M',hb,him,hle,hn,hv⟩
 refine ⟨v,M',je,he,hb,⟨him,hle,hn,?_,?_,?_,?_,hgl⟩,fun _ _=>rfl,hv⟩
 ·intro id l h;simp [find] at h
 ·intro id s p h;simp [find] at h
 ·intro id b n h;simp [je] at h
 ·intro id id' b n n' h;simp [je] at h
def DecQ (m:Mem) (w:World) (r:List (List Input)) (code:Int) (e:Ending) (w':World):Prop:=∃ v M',e=.returned (.tuple #[v,.int .i64 code])/\Below w.heap.size w w'/\Imm M' w'/\Mem.le m M'/\JG m M' w.heap.size/\Rep M' je (jw r) v
theorem DecQ.of {m m1 M:Mem} {w w1 w2 w3:World} {r:List (List Input)} {code:Int} {v:Value} (h1:Below w.heap.size w w1/\Imm m1 w1/\Mem.le m m1/\JG m m1 w.heap.size) (hb:Below w1.heap.size w1 w2) (hi:Imm M w2) (hle:Mem.le m1 M) (hn:JG m1 M w1.heap.size) (hb3:Below w2.heap.size w2 w3) (hR:Rep M je (jw r) v):DecQ m w r code (.returned (.tuple #[v,.int .i64 code])) w3:=
 ⟨v,M,rfl,(h1.1.trans (hb.mono h1.1.size)).trans (hb3.mono (Nat.le_trans h1.1.size hb.size)),hi.below hb3,fun b o u e=>hle b o u (h1.2.2.1 b o u e),h1.2.2.2.trans hn h1.1.size,hR⟩
theorem Okd.dec {m m1 M:Mem} {w w1 w3 w4:World} {r:List (List Input)} {code:Int} {v:Value} {p:List UInt8} {pa:Option Addr} {n pc:Nat} {ob box:Obj} (h1:Below w.heap.size w w1/\Imm m1 w1/\Mem.le m m1/\JG m m1 w.heap.size) (hO:Okd m1 p pa n pc w1.heap.size (w1.alloc ob) box M w3) (hb:Below w3.heap.size w3 w4) (hR:Rep M je (jw r) v):DecQ m w r code (.returned (.tuple #[v,.int .i64 code])) w4:=by
 have hb2:Below w1.heap.size w1 (w1.alloc ob):=(Below.refl _ _).alloc (Nat.le_refl _) _
 refine DecQ.of h1 (hb2.grown hO.G (by simp) (fun k e=>by have:=Option.some.inj e;omega)) hO.F.imm hO.le (fun b o u e=>(hO.nw b o u e).imp id (fun h=>by simp at h;omega)) hb hR
set_option maxHeartbeats 8000000 in
theorem xL (m:Mem) (b:List UInt8) (r:List (List Input) × Int) (v:Value) (w:World) (hi:Imm m w) (hr:Rep m je (jW b) v) (h:zb yH jd jh jf jy b=some r):
 Calls Tryz.prog 13 #[v] w (DecQ m w r.1 r.2):=by
 have e41:=Tryz.call41
 have e42:=Tryz.call42
 have e18:=Tryz.call18
 unfold zb at h
 obtain ⟨p,c,h1,h⟩:∃ p c,yH b=some (p,c)/\(if c≠0 then some ([],c) else Zi (kt (jd p) 0 0) fun n o c=>Zi (uT (jd p) (jh p) (jf p) n.toNat [] o c) fun r o c=>
  if c≠0 then some ([],c) else if o<(p.length:Int) then some ([],3) else match jy r with
   | none=>none
   | some e=>if e≠0 then some ([],25) else some (r,0))=some r:=by
  cases hq:yH b with
  | none=>rw [hq] at h;cases h
  | some q=>exact ⟨q.1,q.2,rfl,by rw [hq] at h;exact h⟩
 have h41:FnR Tryz.prog 41 [jW b] (.tup [jW p,.v (.int .i64 c)]) []:=c_41.ok (b,()) [jW b] ((p,c):List UInt8 × Int) ⟨rfl,trivial⟩ h1
 have k41:=jb1 h41 w m [v] hi (.cons hr .nil)
 rcases Decidable.em (c≠0) with hc | hc
 ·rw [if_pos hc] at h
  cases h
  have hB:(c != 0)=true:=by rw [bne_iff_ne];exact hc
  clear hr hi h41 h1 hc
  go_enter Tryz.func13,Tryz.ntmps13
  go_wp2_with (first
   | (go_at_call 41;refine k41.mono ?_
      rintro e w1 ⟨v1,M1,rfl,hb1,hi1,hle1,hn1,hrep⟩
      obtain ⟨vs,rfl,hvs⟩:=qe hrep
      obtain ⟨v2,vs,rfl,h1,hvs⟩:=hvs.inv
      have:vs=[.int .i64 c]:=Jz (l:=[.int .i64 c]) hvs
      subst this
      have HP:Hid (_/\_/\_/\_):=⟨hb1,hi1,hle1,hn1⟩
      clear hb1 hi1 hle1 hn1 hrep hvs h1 k41))
  go_ret2
  exact DecQ.of HP.out (Below.refl _ _) HP.out.2.1 (fun _ _ _ e=>e) (JG.refl _ _) (Below.refl _ _) .slnil
 ·rw [if_neg hc] at h
  obtain rfl:c=0:=Decidable.of_not_not hc
  obtain ⟨N,o1,c1,hA,h⟩:=JK h
  obtain ⟨fr,o2,c2,hB,h⟩:=JK h
  have hF:(Zi (kt (jd p) 0 0) fun n o c=>uT (jd p) (jh p) (jf p) n.toNat [] o c)=some (fr,o2,c2):=by rw [hA];exact hB
  have HH:Hid (_):=h
  clear hr hi h41 h1 hc hA hB h
  go_enter Tryz.func13,Tryz.ntmps13
  go_upto_region 5 with (first
   | (go_at_call 41;refine k41.mono ?_
      rintro e w1 ⟨v1,M1,rfl,hb1,hi1,hle1,hn1,hrep⟩
      obtain ⟨vs,rfl,hvs⟩:=qe hrep
      obtain ⟨v2,vs,rfl,h1,hvs⟩:=hvs.inv
      have:vs=[.int .i64 0]:=Jz (l:=[.int .i64 0]) hvs
      subst this
      obtain ⟨pa,pc,rfl,-,-⟩:=uO h1
      have HP:Hid ((_/\_/\_/\_)/\Rep M1 je (jW p) (.slice pa p.length pc)):=⟨⟨hb1,hi1,hle1,hn1⟩,h1⟩
      clear hb1 hi1 hle1 hn1 hrep hvs h1 k41))
  have hb2:Below w1.heap.size w1 (w1.alloc (.cells #[.slice pa p.length pc,.int .i64 0,.int .i64 0] 87)):=(Below.refl _ _).alloc (Nat.le_refl _) _
  have F2:BF M1 p pa p.length pc w1.heap.size (w1.alloc (.cells #[.slice pa p.length pc,.int .i64 0,.int .i64 0] 87)):=⟨HP.out.1.2.1.below hb2,HP.out.2,yi HP.out.1.2.1 (Nat.le_refl _),by simp⟩
  have k42:=je9 F2 (Jh _ _ _ rfl) hF
  have HB2:Hid (Below w1.heap.size w1 (w1.alloc (.cells #[.slice pa p.length pc,.int .i64 0,.int .i64 0] 87))):=hb2
  clear hb2 F2 hF
  rcases Decidable.em (c2≠0) with hc2 | hc2
  ·have hX:some ([],c2)=some r:=by have:=HH.out;rw [if_pos hc2] at this;exact this
   cases hX
   have hB:(c2 != 0)=true:=by rw [bne_iff_ne];exact hc2
   clear HH hc2
   go_wp2_with (go_at_call 42;refine k42.mono ?_;rintro e w3 ⟨r3,M3,rfl,hR3,hO3⟩;obtain ⟨ra,rn,rc,rfl⟩:=kn (sz:=1) (l:=fr.map jE) hR3;have hD:w3.heap[w1.heap.size]? = some (.cells #[.slice pa p.length pc,.int .i64 o2,.int .i64 c2] 87 (0,0)):=hO3.D;have d1:w3.cell? ⟨w1.heap.size,1,none⟩=some (.int .i64 o2):=jD hD 1 rfl;have d2:w3.cell? ⟨w1.heap.size,2,none⟩=some (.int .i64 c2):=jD hD 2 rfl;have HO:Hid (_/\_):=⟨hO3,hR3⟩;clear hD hO3 hR3 k42)
   have f2:∀ w',Below w3.heap.size w3 w'->w'.cell? ⟨w1.heap.size,2,none⟩=some (.int .i64 c2):=fun w' hw=>jD ((hw.block _ HO.out.1.F.lt).trans HO.out.1.D) 2 rfl
   refine qk qT (by kernel_rfl) ?_
   iterate 3 (go_big_quiet_want;go_big_quiet_op;first | go_big_quiet_on | (refine ⟨_,fun _ _=>rfl,?_⟩;go_big_quiet_on))
   go_big_quiet_want
   refine Yn (ad:=⟨w1.heap.size,2,none⟩) (v:=.int .i64 c2) rfl rfl (by kernel_rfl) (fun w' hw=>f2 w' hw) ?_
   simp only [Act.put,List.setIfInBounds_toArray,List.set_cons_succ,List.set_cons_zero]
   go_big_quiet_on
   iterate 2 (go_big_quiet_want;go_big_quiet_op;first | go_big_quiet_on | (refine ⟨_,fun _ _=>rfl,?_⟩;go_big_quiet_on))
   refine wpQuiet_nil ?_
   intro W1 hW1
   have HW:Hid (_):=hW1
   clear f2 hW1
   go_wp2
   go_ret2
   exact Okd.dec HP.out.1 HO.out.1 HW.out .slnil
  ·obtain rfl:c2=0:=Decidable.of_not_not hc2
   rcases Decidable.em (o2<(p.length:Int)) with ho | ho
   ·have hX:some ([],3)=some r:=by have:=HH.out;rw [if_neg hc2,if_pos ho] at this;exact this
    cases hX
    clear HH hc2
    go_wp2_with (go_at_call 42;refine k42.mono ?_;rintro e w3 ⟨r3,M3,rfl,hR3,hO3⟩;obtain ⟨ra,rn,rc,rfl⟩:=kn (sz:=1) (l:=fr.map jE) hR3;have hD:w3.heap[w1.heap.size]? = some (.cells #[.slice pa p.length pc,.int .i64 o2,.int .i64 0] 87 (0,0)):=hO3.D;have d1:w3.cell? ⟨w1.heap.size,1,none⟩=some (.int .i64 o2):=jD hD 1 rfl;have d2:w3.cell? ⟨w1.heap.size,2,none⟩=some (.int .i64 0):=jD hD 2 rfl;have HO:Hid (_/\_):=⟨hO3,hR3⟩;clear hD hO3 hR3 k42)
    go_ret2
    exact Okd.dec HP.out.1 HO.out.1 (Below.refl _ _) .slnil
   ·obtain ⟨q,hq,hX⟩:∃ q,jy fr=some q/\(if q≠0 then some ([],25) else some (fr,0))=some r:=by
     have:=HH.out;rw [if_neg hc2,if_neg ho] at this
     cases hq:jy fr with
     | none=>rw [hq] at this;cases this
     | some q=>exact ⟨q,rfl,by rw [hq] at this;exact this⟩
    have h18:FnR Tryz.prog 18 [jw fr] (.v (.int .i64 q)) []:=jcC.ok (fr,()) [jw fr] q ⟨rfl,trivial⟩ hq
    have H18:Hid (_):=h18
    clear HH hc2 hq h18
    rcases Decidable.em (q≠0) with hqz | hqz
    ·rw [if_pos hqz] at hX
     cases hX
     have hB:(q != 0)=true:=by rw [bne_iff_ne];exact hqz
     clear hqz
     go_wp2_with (first
      | (go_at_call 18;refine k18.mono ?_;rintro e w4 ⟨rfl,hb4⟩;have H4:Hid (Below w3.heap.size w3 w4):=hb4;clear hb4 k18)
      | (go_at_call 42;refine k42.mono ?_;rintro e w3 ⟨r3,M3,rfl,hR3,hO3⟩;obtain ⟨ra,rn,rc,rfl⟩:=kn (sz:=1) (l:=fr.map jE) hR3;have hD:w3.heap[w1.heap.size]? = some (.cells #[.slice pa p.length pc,.int .i64 o2,.int .i64 0] 87 (0,0)):=hO3.D;have d1:w3.cell? ⟨w1.heap.size,1,none⟩=some (.int .i64 o2):=jD hD 1 rfl;have d2:w3.cell? ⟨w1.heap.size,2,none⟩=some (.int .i64 0):=jD hD 2 rfl;have HO:Hid (_/\_):=⟨hO3,hR3⟩;clear hD hO3 hR3 k42
         have k18:=Zv H18.out w3 [.slice ra rn rc] (.cons (HO.out.2.mono (qU HO.out.1.F.imm)) .nil)))
     go_ret2
     exact Okd.dec HP.out.1 HO.out.1 H4.out .slnil
    ·obtain rfl:q=0:=Decidable.of_not_not hqz
     rw [if_neg hqz] at hX
     cases hX
     clear hqz
     go_wp2_with (first
      | (go_at_call 18;refine k18.mono ?_;rintro e w4 ⟨rfl,hb4⟩;have H4:Hid (Below w3.heap.size w3 w4):=hb4;clear hb4 k18)
      | (go_at_call 42;refine k42.mono ?_;rintro e w3 ⟨r3,M3,rfl,hR3,hO3⟩;obtain ⟨ra,rn,rc,rfl⟩:=kn (sz:=1) (l:=fr.map jE) hR3;have hD:w3.heap[w1.heap.size]? = some (.cells #[.slice pa p.length pc,.int .i64 o2,.int .i64 0] 87 (0,0)):=hO3.D;have d1:w3.cell? ⟨w1.heap.size,1,none⟩=some (.int .i64 o2):=jD hD 1 rfl;have d2:w3.cell? ⟨w1.heap.size,2,none⟩=some (.int .i64 0):=jD hD 2 rfl;have HO:Hid (_/\_):=⟨hO3,hR3⟩;clear hD hO3 hR3 k42
         have k18:=Zv H18.out w3 [.slice ra rn rc] (.cons (HO.out.2.mono (qU HO.out.1.F.imm)) .nil)))
     go_ret2
     exact Okd.dec HP.out.1 HO.out.1 H4.out HO.out.2
theorem uP [GlC] {b:List UInt8} {r:List (List Input) × Int} (h:zb yH jd jh jf jy b=some r):FnR Tryz.prog 13 [jW b] (.tup [jw r.1,.v (.int .i64 r.2)]) []:=by
 refine FnR.ofMem fun w m args hi hr=>?_
 obtain ⟨v,vs,rfl,h1,hr⟩:=hr.inv
 obtain rfl:=hr.inv0
 refine (xL m b r v w hi h1 h).mono ?_
 rintro e w' ⟨x,M',rfl,hb,hi',hle,hn,hrep⟩
 exact ⟨_,rfl,M',hb,hi',hle,hn,.tup (.cons hrep (.cons .v .nil))⟩
end GoForm
end

section
set_option linter.all false
set_option maxRecDepth 100000
open Go Go.Rx Go.Proofs Go.RowKit Go.Extern.Stop Go.Stop Go.Extern
namespace GoForm
theorem As.MI (t:Addr) (w:World):(ReflectliteValue.unpack (.iface 100 (.pointer (some t)))).run Tryz.prog w
 = .ok (.agg #[.pointer (some ⟨4,100,none⟩),.pointer (some ⟨w.heap.size,0,none⟩),.int .u64 150]) (w.alloc (.cells #[.pointer (some t)] 100)):=by kernel_rfl
theorem As.type27 (a:Addr) (w:World):(ReflectliteValue.methodAny (ReflectliteValue.valueError "reflectlite.Value.Type" 0) (fun t _ _ _=>ReflectliteType.toType t) #[.agg #[.pointer (some ⟨4,100,none⟩),.pointer (some a),.int .u64 150]]).run Tryz.prog w
 = .ok (.iface 190 (.agg #[.pointer (some ⟨4,100,none⟩)])) w:=by kernel_rfl
theorem As.mT (h:Value) (w:World):(Go.method 416 190 (.agg #[h]) "Kind").run Tryz.prog w=.ok (216,h) w:=by kernel_rfl
theorem As.kind27 (w:World):((ReflectliteType.abiMethod fun t=>(fun a:Nat=>Value.int IntKind.u8 (a:Int)) <$> Rtype.kind t) #[.pointer (some ⟨4,100,none⟩)]).run Tryz.prog w=.ok (.int .u8 22) w:=by kernel_rfl
theorem As.kind25 (w:World):((ReflectliteType.abiMethod fun t=>(fun a:Nat=>Value.int IntKind.u8 (a:Int)) <$> Rtype.kind t) #[.pointer (some ⟨4,98,none⟩)]).run Tryz.prog w=.ok (.int .u8 22) w:=by kernel_rfl
theorem rlm (z:Sem Value) (f:TypeId->Addr->Nat->Nat->Sem Value) (v:Value):
 ReflectliteValue.method z f #[v]=(do match <- ReflectliteValue.parts v with | none=>z | some (t,a,fl)=>f t a fl (fl % 32)):=rfl
theorem As.jaH (a:Addr) (w:World):(ReflectliteValue.parts (.agg #[.pointer (some ⟨4,100,none⟩),.pointer (some a),.int .u64 150])).run Tryz.prog w=.ok (some (100,a,150)) w:=by kernel_rfl
theorem As.jf0 (a p:Addr) (W:World) (ha:W.cell? a=some (.pointer (some p))):
 (ReflectliteValue.method (ReflectliteValue.valueError "reflectlite.Value.IsNil" 0) ReflectliteValue.isNil #[.agg #[.pointer (some ⟨4,100,none⟩),.pointer (some a),.int .u64 150]]).run Tryz.prog W=.ok (.bool false) W:=by
 rw [rlm]
 simp only [Sem.run_bind,As.jaH,Result.andThen]
 simp [ReflectliteValue.isNil,loadVar,isAgg,underlying,Tryz.underlying100,ha,Result.andThen]
theorem As.mU (h:Value) (w:World):(Go.method 416 190 (.agg #[h]) "Elem").run Tryz.prog w=.ok (226,.agg #[h]) w:=by kernel_rfl
theorem As.VW (h:Value) (w:World):(Go.method 416 190 (.agg #[h]) "Implements").run Tryz.prog w=.ok (227,.agg #[h]) w:=by kernel_rfl
theorem As.vm (h:Value) (w:World):(Go.method 416 190 (.agg #[h]) "AssignableTo").run Tryz.prog w=.ok (224,.agg #[h]) w:=by kernel_rfl
theorem As.elem27 (w:World):(ReflectliteType.method ReflectliteType.elem #[.agg #[.pointer (some ⟨4,100,none⟩)]]).run Tryz.prog w=.ok (.iface 190 (.agg #[.pointer (some ⟨4,98,none⟩)])) w:=by kernel_rfl
theorem As.xr (w:World):(ReflectliteType.relation "Implements" ReflectliteType.implements_ #[.agg #[.pointer (some ⟨4,98,none⟩)],.iface 190 (.agg #[.pointer (some ⟨4,95,none⟩)])]).run Tryz.prog w=.ok (.bool true) w:=by kernel_rfl
theorem As.jcH (v:Value) (w:World):(ReflectliteType.typeOf #[.iface 98 v]).run Tryz.prog w=.ok (.iface 190 (.agg #[.pointer (some ⟨4,98,none⟩)])) w:=by kernel_rfl
theorem As.xS (w:World):(ReflectliteType.relation "AssignableTo" ReflectliteType.assignableTo #[.agg #[.pointer (some ⟨4,98,none⟩)],.iface 190 (.agg #[.pointer (some ⟨4,98,none⟩)])]).run Tryz.prog w=.ok (.bool true) w:=by kernel_rfl
theorem As.MJ (e:Addr) (w:World):(ReflectliteValue.unpack (.iface 98 (.pointer (some e)))).run Tryz.prog w
 = .ok (.agg #[.pointer (some ⟨4,98,none⟩),.pointer (some ⟨w.heap.size,0,none⟩),.int .u64 150]) (w.alloc (.cells #[.pointer (some e)] 98)):=by kernel_rfl
theorem As.jdK (w:World):(Rtype.elem? 100).run Tryz.prog w=.ok (some 98) w:=by kernel_rfl
theorem As.mk25 (p:Addr) (w:World):(ReflectliteValue.mk 98 p ReflectliteValue.flagAddr).run Tryz.prog w=.ok (.agg #[.pointer (some ⟨4,98,none⟩),.pointer (some p),.int .u64 406]) w:=by kernel_rfl
theorem As.jgj (a p:Addr) (W:World) (ha:W.cell? a=some (.pointer (some p))):
 (ReflectliteValue.method (ReflectliteValue.valueError "reflectlite.Value.Elem" 0) ReflectliteValue.elem #[.agg #[.pointer (some ⟨4,100,none⟩),.pointer (some a),.int .u64 150]]).run Tryz.prog W
   = .ok (.agg #[.pointer (some ⟨4,98,none⟩),.pointer (some p),.int .u64 406]) W:=by
 rw [rlm]
 simp only [Sem.run_bind,As.jaH,Result.andThen]
 simp [ReflectliteValue.elem,loadVar,isAgg,underlying,Tryz.underlying100,ha,Result.andThen,As.jdK,As.mk25]
theorem rls (v x:Value):ReflectliteValue.set #[v,x]=(do
 let (some (dst,a,fl),some (src,b,_)):=(<- ReflectliteValue.parts v,<- ReflectliteValue.parts x)
  | unsupported (.noEntry "extern/(internal/reflectlite.Value).Set.zeroValue")
 if fl / ReflectliteValue.flagAddr % 2==0 then unsupported (.noEntry "extern/(internal/reflectlite.Value).Set.unaddressable")
 let val <- loadVar src b
 if <- Rtype.directlyAssignable dst src then storeVar dst a val
 else if <- Rtype.implements dst src then
  if (<- Rtype.kind src)==20 then
   match val with
   | .nilIface=>unsupported (.noEntry "extern/reflectlite: a nil value of one interface type handed on as a value of another")
   | _=>storeVar dst a val
  else storeVar dst a (.iface src val)
 else panicString ("reflectlite.Set: value of type " ++ (<- Rtype.spelt src) ++ " is not assignable to type " ++ (<- Rtype.spelt dst))
 pure (.tuple #[])):=rfl
theorem As.jc3 (a:Addr) (w:World):(ReflectliteValue.parts (.agg #[.pointer (some ⟨4,98,none⟩),.pointer (some a),.int .u64 406])).run Tryz.prog w=.ok (some (98,a,406)) w:=by kernel_rfl
theorem As.jfC (a:Addr) (w:World):(ReflectliteValue.parts (.agg #[.pointer (some ⟨4,98,none⟩),.pointer (some a),.int .u64 150])).run Tryz.prog w=.ok (some (98,a,150)) w:=by kernel_rfl
theorem As.jdN (w:World):(Rtype.directlyAssignable 98 98).run Tryz.prog w=.ok true w:=by kernel_rfl
theorem As.set25 (ta b e:Addr) (old:Value) (W:World) (hb:W.cell? b=some (.pointer (some e))) (ht:W.cell? ta=some old) (hf:W.frozen? ta=false):
 (ReflectliteValue.set #[.agg #[.pointer (some ⟨4,98,none⟩),.pointer (some ta),.int .u64 406],.agg #[.pointer (some ⟨4,98,none⟩),.pointer (some b),.int .u64 150]]).run Tryz.prog W
   = .ok (.tuple #[]) (W.setCell ta (.pointer (some e))):=by
 rw [rls]
 simp only [Sem.run_bind,As.jc3,As.jfC,Result.andThen]
 simp [ReflectliteValue.flagAddr,loadVar,isAgg,underlying,Tryz.underlying98,hb,Result.andThen,As.jdN,storeVar,Value.cells,storeCells,Addr.add]
 rw [run_store Tryz.prog W ta _ _ (by rfl)]
 simp [ht,hf]
set_option maxHeartbeats 4000000 in
theorem as_hit (e t:Addr) (old:Value) (w:World) (hg:w.cell? ⟨0,0,none⟩=some (.iface 190 (.agg #[.pointer (some ⟨4,95,none⟩)]))) (ht0:w.cell? t=some old) (hf0:w.frozen? t=false):
 Calls Tryz.prog 47 #[.iface 98 (.pointer (some e)),.iface 100 (.pointer (some t))] w fun ev w'=>ev=.returned (.bool true)/\w'=((((w.alloc (.cells #[.pointer (some t)] 100)).alloc (.cells #[.pointer (some ⟨4,100,none⟩),.pointer (some ⟨w.heap.size,0,none⟩),.int .u64 150] 145)).alloc (.cells #[.pointer (some ⟨4,100,none⟩),.pointer (some ⟨w.heap.size,0,none⟩),.int .u64 150] 145)).alloc (.cells #[.pointer (some e)] 98)).setCell t (.pointer (some e)):=by
 have h6:=@run_callFunc_extern Tryz.prog 81 _ (fun args=>ReflectliteValue.unpack (args.getD 0 (.tuple #[]))) Tryz.func81 (by kernel_rfl) (by kernel_rfl) (by kernel_rfl) (by kernel_rfl)
 have h7:=@run_callFunc_extern Tryz.prog 82 _ (ReflectliteValue.methodAny (ReflectliteValue.valueError "reflectlite.Value.Type" 0) (fun t _ _ _=>ReflectliteType.toType t)) Tryz.func82 (by kernel_rfl) (by kernel_rfl) (by kernel_rfl) (by kernel_rfl)
 have h8:=@run_callFunc_extern Tryz.prog 83 _ (ReflectliteValue.method (ReflectliteValue.valueError "reflectlite.Value.IsNil" 0) ReflectliteValue.isNil) Tryz.func83 (by kernel_rfl) (by kernel_rfl) (by kernel_rfl) (by kernel_rfl)
 have h27:=@run_callFunc_extern Tryz.prog 216 _ (ReflectliteType.abiMethod fun t=>do pure (.int .u8 (<- Rtype.kind t))) Tryz.func216 (by kernel_rfl) (by kernel_rfl) (by kernel_rfl) (by kernel_rfl)
 have h37:=@run_callFunc_extern Tryz.prog 226 _ (ReflectliteType.method ReflectliteType.elem) Tryz.func226 (by kernel_rfl) (by kernel_rfl) (by kernel_rfl) (by kernel_rfl)
 have h38:=@run_callFunc_extern Tryz.prog 227 _ (ReflectliteType.relation "Implements" ReflectliteType.implements_) Tryz.func227 (by kernel_rfl) (by kernel_rfl) (by kernel_rfl) (by kernel_rfl)
 have h10:=@run_callFunc_extern Tryz.prog 126 _ ReflectliteType.typeOf Tryz.func126 (by kernel_rfl) (by kernel_rfl) (by kernel_rfl) (by kernel_rfl)
 have h35:=@run_callFunc_extern Tryz.prog 224 _ (ReflectliteType.relation "AssignableTo" ReflectliteType.assignableTo) Tryz.func224 (by kernel_rfl) (by kernel_rfl) (by kernel_rfl) (by kernel_rfl)
 have h11:=@run_callFunc_extern Tryz.prog 127 _ (ReflectliteValue.method (ReflectliteValue.valueError "reflectlite.Value.Elem" 0) ReflectliteValue.elem) Tryz.func127 (by kernel_rfl) (by kernel_rfl) (by kernel_rfl) (by kernel_rfl)
 have h12:=@run_callFunc_extern Tryz.prog 128 _ ReflectliteValue.set Tryz.func128 (by kernel_rfl) (by kernel_rfl) (by kernel_rfl) (by kernel_rfl)
 have tO:=As.jcH
 have mA:=As.vm
 have a25:=As.xS
 have v25:=As.MJ
 have f6:=As.MI
 have f7:=As.type27
 have mK:=As.mT
 have mE:=As.mU
 have mI:=As.VW
 have k27:=As.kind27
 have k25:=As.kind25
 have e27:=As.elem27
 have i25:=As.xr
 have n8:=As.jf0 ⟨w.heap.size,0,none⟩ t ((w.alloc (.cells #[.pointer (some t)] 100)).alloc (.cells #[.pointer (some ⟨4,100,none⟩),.pointer (some ⟨w.heap.size,0,none⟩),.int .u64 150] 145)) (by simp)
 have hlt:0<w.heap.size:=by
  rcases Nat.eq_zero_or_pos w.heap.size with h0 | h
  ·simp [World.cell?,h0] at hg
  ·exact h
 have hg2:((w.alloc (.cells #[.pointer (some t)] 100)).alloc (.cells #[.pointer (some ⟨4,100,none⟩),.pointer (some ⟨w.heap.size,0,none⟩),.int .u64 150] 145)).cell? ⟨0,0,none⟩=some (.iface 190 (.agg #[.pointer (some ⟨4,95,none⟩)])):=by
  rw [World.cell?_alloc_lt _ _ ⟨0,0,none⟩ (by simp),World.cell?_alloc_lt _ _ ⟨0,0,none⟩ hlt];exact hg
 have htl:t.block<w.heap.size:=by
  rcases Nat.lt_or_ge t.block w.heap.size with h | h
  ·exact h
  ·simp [World.cell?,Array.getElem?_eq_none h] at ht0
 have el:=As.jgj ⟨w.heap.size,0,none⟩ t (((w.alloc (.cells #[.pointer (some t)] 100)).alloc (.cells #[.pointer (some ⟨4,100,none⟩),.pointer (some ⟨w.heap.size,0,none⟩),.int .u64 150] 145)).alloc (.cells #[.pointer (some ⟨4,100,none⟩),.pointer (some ⟨w.heap.size,0,none⟩),.int .u64 150] 145)) (by rw [World.cell?_alloc_lt _ _ ⟨w.heap.size,0,none⟩ (by simp;omega)];simp)
 have st:=As.set25 t ⟨w.heap.size+1+1+1,0,none⟩ e old ((((w.alloc (.cells #[.pointer (some t)] 100)).alloc (.cells #[.pointer (some ⟨4,100,none⟩),.pointer (some ⟨w.heap.size,0,none⟩),.int .u64 150] 145)).alloc (.cells #[.pointer (some ⟨4,100,none⟩),.pointer (some ⟨w.heap.size,0,none⟩),.int .u64 150] 145)).alloc (.cells #[.pointer (some e)] 98))
  (by rw [World.cell?_alloc_at _ _ _ _ (by simp)];rfl)
  (by rw [World.cell?_alloc_lt _ _ t (by simp;omega),World.cell?_alloc_lt _ _ t (by simp;omega),World.cell?_alloc_lt _ _ t (by simp;omega),World.cell?_alloc_lt _ _ t htl];exact ht0)
  (by rw [World.frozen?_alloc_old _ _ t (by simp;omega),World.frozen?_alloc_old _ _ t (by simp;omega),World.frozen?_alloc_old _ _ t (by simp;omega),World.frozen?_alloc_old _ _ t (Nat.ne_of_lt htl)];exact hf0)
 go_enter Tryz.func47,Tryz.ntmps47
 go_wp2
 refine wp_loop_rounds 1 ?_
 rw [rounds_succ]
 go_wp2
 go_ret
 exact ⟨rfl,rfl⟩
end GoForm
end

section
set_option linter.all false
set_option maxRecDepth 100000
open Go Go.Rx Go.Proofs Go.RowKit
namespace GoForm
theorem Mq (l:List (List UInt8)):(l.map qY).flatMap AV.cells=(l.map fun x:List UInt8=>Value.string ⟨x.toArray⟩).map AV.v:=by
 induction l with
 | nil=>rfl
 | cons x l ih=>rw [List.map_cons,List.flatMap_cons,ih];rfl
theorem JB {P:Program} {fn:Func} {t t2:Tmp} {v2:Value} {ty:TypeId} {b:Nat} {cs:List Value} {T:TypeId} {w:World} {tmps:Array Value} (h:fn.results=#[.cell t ty,.tmp t2]) (ht:tmps.getD t undef=.pointer (some ⟨b,0,none⟩)) (ht2:tmps.getD t2 undef=v2) (ha:tAg P ty=some true) (hs:tSz P ty=some cs.length) (hb:w.heap[b]? = some (.cells cs.toArray T (0,0))):
 (results fn tmps).run P w=.ok (.tuple #[.agg cs.toArray,v2]) w:=by
 have:=Jw (P:=P) (ty:=ty) (w:=w) (b:=b) (o:=0) (cs:=cs) ha hs (fun j v e=>by rw [Nat.zero_add];exact jD hb j (by simpa using e))
 have ht:tmps[t]?.getD undef=.pointer (some ⟨b,0,none⟩):=by simpa using ht
 have ht2:tmps[t2]?.getD undef=v2:=by simpa using ht2
 simp [results,h,ht,ht2,this,asAddr]
theorem Xi {m:Mem} {l:List (List UInt8)} {v:Value} (h:Rep m je (qZ l) v):∃ ad cap,v=.slice ad l.length cap/\l.length<=cap/\(0<l.length->∃ blk off,ad=some ⟨blk,off,none⟩/\∀ j x,l[j]? = some x->m blk (off+j)=some (.string ⟨x.toArray⟩)):=by
 have h:Rep m je (.sl false 1 (l.map qY)) v:=h
 generalize hl:l.map qY=l' at h
 cases h with
 | slnil=>
   have:l=[]:=by simpa using hl
   subst this
   exact ⟨none,0,rfl,Nat.le_refl _,fun h=>absurd h (by simp)⟩
 | @sl _ _ _ _ a cap cs h1 h2 h3 h4 h5 h6 h7=>
   have hn:l'.length=l.length:=by rw [<- hl];simp
   rw [hn] at h6 ⊢
   refine ⟨some a,cap,rfl,h6,fun hp=>?_⟩
   rw [<- hl] at h2
   rw [Mq] at h2
   obtain rfl:=Jz h2
   refine ⟨a.block,a.off,?_,fun j x e=>?_⟩
   ·have:=h4 (by simp;omega)
    cases a
    simp at this
    rw [this]
   ·exact h5 j _ (by simp [e])
structure PI (w:World) (k:Int) (W:World):Prop where
 bel:Below w.heap.size w W
 z:W.heap[w.heap.size]? = some (.cells inZ.toArray 77 (0,0))
 x:W.heap[w.heap.size+1]? = some (.cells (inX k 0 0 0 0).toArray 77 (0,0))
 lt:w.heap.size+2<=W.heap.size
theorem PI.go {w k W} (h:PI w k W) {W':World} (hb:Below W.heap.size W W'):PI w k W':=
 ⟨h.bel.trans (hb.mono h.bel.size),(hb.block _ (by have:=h.lt;omega)).trans h.z,(hb.block _ (by have:=h.lt;omega)).trans h.x,Nat.le_trans h.lt hb.size⟩
theorem PI.store {w k W} (h:PI w k W) {k':Int} {W':World} (hx:W'.heap[w.heap.size+1]? = some (.cells (inX k' 0 0 0 0).toArray 77 (0,0))) (hg:W.grownBy W' (some (w.heap.size+1))):PI w k' W':=
 ⟨h.bel.grown hg h.bel.size (fun g e=>by have:=Option.some.inj e;omega),(hg.block _ (by have:=h.lt;omega) (fun e=>by have:=Option.some.inj e;omega)).trans h.z,hx,Nat.le_trans h.lt hg.size⟩
theorem PI.start (w:World):PI w 0 ((w.alloc (.cells inZ.toArray 77)).alloc (.cells inZ.toArray 77)):=
 ⟨((Below.refl _ w).alloc (Nat.le_refl _) _).alloc (by simp) _,(jU _ _ _ (by simp)).trans (Jh _ _ _ rfl),(Jh _ _ _ (by simp)),by simp⟩
def wd (k:Nat):List UInt8:=match k with
 | 1=>[105,109,112,117,108,115,101] | _=>[]
theorem wordF:∀ k:Nat,1<=k->k<=12->∃ s,jm (k:Int)=some s/\(s=wd 1↔k=1):=by
 intro k h1 h2
 match k,h1,h2 with
 | 1,_,_=>exact ⟨_,rfl,by decide⟩
 | 2,_,_=>exact ⟨_,rfl,by decide⟩
 | 3,_,_=>exact ⟨_,rfl,by decide⟩
 | 4,_,_=>exact ⟨_,rfl,by decide⟩
 | 5,_,_=>exact ⟨_,rfl,by decide⟩
 | 6,_,_=>exact ⟨_,rfl,by decide⟩
 | 7,_,_=>exact ⟨_,rfl,by decide⟩
 | 8,_,_=>exact ⟨_,rfl,by decide⟩
 | 9,_,_=>exact ⟨_,rfl,by decide⟩
 | 10,_,_=>exact ⟨_,rfl,by decide⟩
 | 11,_,_=>exact ⟨_,rfl,by decide⟩
 | 12,_,_=>exact ⟨_,rfl,by decide⟩
 | (k+13),_,h=>omega
theorem jd6 {m:Mem} {l:List (List UInt8)} {c:Int} {v:Value} (h:Rep m je (.tup [qZ l,.v (.int .i64 c)]) v):∃ u,v=.tuple #[u,.int .i64 c]/\Rep m je (qZ l) u:=by
 obtain ⟨vs,rfl,hvs⟩:=qe h
 obtain ⟨u,vs,rfl,h1,hvs⟩:=hvs.inv
 have:vs=[.int .i64 c]:=Jz (l:=[.int .i64 c]) hvs
 subst this
 exact ⟨u,rfl,h1⟩
theorem jdZ {W W4 w7:World} {t e:Addr} {v x:Value} {cs:Array Value} {T:TypeId} {fr} (hB:Below W.heap.size W W4) (hw:w7=W4.setCell t v) (ht:W.heap[t.block]? = some (.cells cs T fr)) (hn:t.spot=none) (hto:t.off<cs.size) (he:W.cell? e=some x) (hel:e.block<W.heap.size) (hne:e.block≠t.block):w7.cell? t=some v/\w7.cell? e=some x/\∀ B w,Below B w W->B<=t.block->B<=W.heap.size->Below B w w7:=by
 subst hw
 have htl:t.block<W.heap.size:=(Array.getElem?_eq_some_iff.1 ht).1
 have h4:=(hB.block _ htl).trans ht
 refine ⟨?_,?_,fun B w hb h1 h2=>?_⟩
 ·obtain ⟨tb,to,tn⟩:=t
  have hn:tn=none:=hn
  subst hn
  have:=wv h4 to v _ rfl
  rw [Ji this]
  exact Array.getElem?_setIfInBounds_self_of_lt hto
 ·have h5:(W4.setCell t v).heap[e.block]? = W.heap[e.block]? := (heap_set W4 t v e.block hne).trans (hB.block _ hel)
  unfold World.cell? at he ⊢
  rw [h5];exact he
 ·exact (hb.trans (hB.mono h2)).setCell (p:=t) h1 v
end GoForm
end
