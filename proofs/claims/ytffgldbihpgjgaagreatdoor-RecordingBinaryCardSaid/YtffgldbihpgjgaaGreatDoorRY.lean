/- Several texts in one. No conditions. -/
import Derived.Test.YtffgldbihpgjgaaGreatDoorRX
import Derived.Test.YtffgldbihpgjgaaGreatDoorGV
import Derived.Test.YtffgldbihpgjgaaGreatDoorGX
import Derived.Test.YtffgldbihpgjgaaGreatDoorGZ
section
/- Checksums: the reference's bits are the program's. No conditions. -/
set_option linter.all false
set_option maxRecDepth 100000
open Go Go.Rx
namespace GoForm
def U32 (c:Int):Prop:=0≤c∧c<4294967296
theorem je2 (n:Int):IntKind.u32.wrap n=n % 4294967296:=by simp [IntKind.wrap,IntKind.bits,IntKind.signed]
theorem jhw (a b:Int):U32 (bXor .u32 a b):=by unfold bXor U32;rw [je2];omega
theorem jop (a b:Int):bXor .u32 a b=bXor .u32 b a:=by unfold bXor;rw [BitVec.xor_comm]
theorem shr_u (k:Nat) (c:Int) (hk:k<32):bShr .u32 c (k:Int)=c / 2 ^ k:=by
 unfold bShr
 rw [show (min ((k:Int)).toNat IntKind.u32.bits)=k from by show min ((k:Int)).toNat 32=k;omega,Int.fdiv_eq_ediv_of_nonneg _ (Int.pow_nonneg (by omega))]
theorem and1 {c:Int} (h:U32 c):bAnd .u32 c 1=c % 2:=by
 obtain ⟨n,rfl⟩:∃ n:Nat,c=n:=⟨c.toNat,by have:=h.1;omega⟩
 have h2:n<4294967296:=by have:=h.2;omega
 unfold bAnd
 rw [je2]
 have e:(BitVec.ofInt IntKind.u32.bits (n:Int) &&& BitVec.ofInt IntKind.u32.bits 1).toNat=n % 2:=by
  show (BitVec.ofInt 32 (n:Int) &&& BitVec.ofInt 32 1).toNat=n % 2
  rw [BitVec.toNat_and,BitVec.toNat_ofInt,BitVec.toNat_ofInt]
  rw [show ((1:Int) % ((2 ^ 32:Nat):Int)).toNat=1 from by decide,Nat.and_one_is_mod]
  have:((n:Int) % ((2 ^ 32:Nat):Int)).toNat=n:=by omega
  rw [this]
 rw [e];omega
theorem jk7 {c:Int} (h:U32 c):updS c=if (Int.tmod c 2==1)=true then bXor .u32 (IntKind.u32.wrap (Int.tdiv c 2)) 2197175160 else IntKind.u32.wrap (Int.tdiv c 2):=by
 unfold updS
 have h0:=h.1
 have h1:=h.2
 have e1:bShr .u32 c 1=c / 2:=shr_u 1 c (by omega)
 have e2:IntKind.u32.wrap (Int.tdiv c 2)=c / 2:=by rw [je2,Int.tdiv_eq_ediv_of_nonneg h0];omega
 have e3:Int.tmod c 2=c % 2:=Int.tmod_eq_emod_of_nonneg h0
 rw [and1 h,e1,e2,e3]
theorem jd3 {c:Int} (h:U32 c):U32 (updS c):=by
 rw [jk7 h]
 split
 ·exact jhw _ _
 ·unfold U32;rw [je2];omega
theorem jk8:∀ (k:Nat) {c:Int},U32 c→U32 (updN k c)
 | 0,_,h=>h
 | k+1,_,h=>jk8 k (jd3 h)
def refU {X:Type} (K:Int→Option X) (rec:Int × Int→Option X) (s:Int × Int):Option X:=
 Let (decide (s.snd<(8:Int))) fun (x:Bool)=>
 if x=true then
 Join (fun (v:Int)=>Let (IntKind.i64.wrap (s.snd+(1:Int))) fun (z:Int)=>rec (v,z))
 fun (j:Int→Option X)=>
 Let (Int.tmod s.fst (2:Int)) fun (a:Int)=>
 Let (a==(1:Int)) fun (b:Bool)=>
 Let (IntKind.u32.wrap (Int.tdiv s.fst (2:Int))) fun (c:Int)=>
 if b=true then Let (bXor IntKind.u32 c (2197175160:Int)) fun (d:Int)=>j d else j c
 else K s.fst
theorem jdm {X:Type} (K:Int→Option X) (n k:Nat) {c:Int} (h:U32 c) (hk:k<8):LOOP (refU K) (n+1) (c,(k:Int))=LOOP (refU K) n (updS c,((k+1:Nat):Int)):=by
 rw [jcE]
 show refU K _ _=_
 unfold refU
 simp only [jax,jjx]
 rw [if_pos (by rw [decide_eq_true (show (k:Int)<8 by omega)]),jg7 k (by omega),jk7 h]
 split <;> rfl
theorem refU_eq {X:Type} (K:Int→Option X) {c:Int} (h:U32 c):LOOP (refU K) fuel (c,((0:Nat):Int))=K (updN 8 c):=by
 obtain ⟨m,hm⟩:∃ m,fuel=m+9:=⟨2 ^ 70 - 9,by unfold fuel;decide⟩
 have h1:=jd3 h
 have h2:=jd3 h1
 have h3:=jd3 h2
 have h4:=jd3 h3
 have h5:=jd3 h4
 have h6:=jd3 h5
 have h7:=jd3 h6
 rw [hm,jdm K (m+8) 0 h (by omega),jdm K (m+7) 1 h1 (by omega),jdm K (m+6) 2 h2 (by omega),jdm K (m+5) 3 h3 (by omega),jdm K (m+4) 4 h4 (by omega),jdm K (m+3) 5 h5 (by omega),jdm K (m+2) 6 h6 (by omega),jdm K (m+1) 7 h7 (by omega),jcE]
 show refU K _ _=_
 unfold refU
 simp only [jax]
 rw [if_neg (by simp)]
 rfl
def refC (b:List UInt8) (rec:Int × Int→Option Int) (s:Int × Int):Option Int:=
 Let (b.length:Int) fun n=>Let (decide (s.snd<n)) fun x=>if x=true then Chk ((0:Int)≤s.snd∧s.snd<(b.length:Int)) (Let (ix b s.snd) fun v=>Let (v.toNat:Int) fun a=>Let (bXor .u32 s.fst a) fun c=>LOOP (refU fun v=>Let (IntKind.i64.wrap (s.snd+1)) fun z=>rec (v,z)) fuel (c,((0:Nat):Int))) else Let (bXor .u32 s.fst 4294967295) fun r=>some r
theorem refCRC0 (b:List UInt8):jb7 b=LOOP (refC b) fuel ((4294967295:Int),(0:Int)):=by kernel_rfl
def crcG (t:List UInt8) (_:Nat) (c:Int):Option Int:=some (bXor .u32 (t.foldl (fun c x=>updN 8 (bXor .u32 c (x.toNat:Int))) c) 4294967295)
theorem jm0 (b:List UInt8) (r:Int × Int→Option Int) (i:Nat) (t:List UInt8) (s:Int) (hw:IntKind.i64.wrap ((i:Int)+1)=(i:Int)+1) (hc:0≤(i:Int)∧(i:Int)<(b.length:Int)) (hr:∀ s,U32 s→r (s,(i:Int)+1)=crcG t (i+1) s):refC b r (s,(i:Int))=crcG (ix b (i:Int)::t) i s:=by
 unfold refC
 simp only [jax]
 rw [if_pos (dlt hc),jaC hc]
 refine (refU_eq _ (jhw _ _)).trans ?_
 rw [hw,hr _ (jk8 8 (jhw _ _))]
 unfold crcG
 rw [List.foldl_cons]
theorem refC_end (b:List UInt8) (r:Int × Int→Option Int) (s:Int):refC b r (s,(b.length:Int))=crcG [] b.length s:=by
 unfold refC
 simp only [jax]
 rw [dll,if_neg (by simp)]
 rfl
theorem u32_top:U32 4294967295:=⟨by omega,by omega⟩
theorem refCRC (b:List UInt8) (h:b.length≤cap9):jb7 b=some (crcV b):=by
 have key:=jiK b (fun _ c=>U32 c) crcG (refC b) 4294967295 (jeA h (by decide)) u32_top (fun r i t s _ hw hc _ hr=>jm0 b r i t s hw hc hr) (fun r s _=>refC_end b r s)
 rw [refCRC0,key]
 unfold crcV crcF crcG
 rw [jop]
theorem crcV_rng (b:List UInt8):U32 (crcV b):=jhw _ _
theorem jl5 {a b:Int} (h:a % 256=b % 256):jat a=jat b:=by
 have e1:=jel a
 have e2:=jel b
 exact UInt8.toNat_inj.1 (by omega)
def jko (rec:List UInt8 × Int × Int→Option (List UInt8)) (s:List UInt8 × Int × Int):Option (List UInt8):=
 Let (decide (s.snd.snd<(4:Int))) fun x=>if x=true then Let (Int.tmod s.snd.fst 256) fun a=>Let (jat a) fun c=>Chk ((List.length s.fst+[c].length)*1≤140737488355328) (Let (s.fst++[c]) fun l=>Let (IntKind.u32.wrap (Int.tdiv s.snd.fst 256)) fun d=>Let (IntKind.i64.wrap (s.snd.snd+1)) fun z=>rec (l,d,z)) else some s.fst
theorem jfw (n k:Nat) {l:List UInt8} {c:Int} (h:U32 c) (hk:k<4) (hl:l.length≤cap9+4):LOOP jko (n+1) (l,c,(k:Int))=LOOP jko n (l++[jat c],c / 256,((k+1:Nat):Int)):=by
 have hc:cap9=1000000000:=rfl
 have h0:=h.1
 have h1:=h.2
 rw [jcE]
 show jko _ _=_
 unfold jko
 simp only [jax]
 rw [if_pos (by rw [decide_eq_true (show (k:Int)<4 by omega)]),jaC (by simp;omega),jg7 k (by omega)]
 have e1:jat (Int.tmod c 256)=jat c:=jl5 (by rw [Int.tmod_eq_emod_of_nonneg h0];omega)
 have e2:IntKind.u32.wrap (Int.tdiv c 256)=c / 256:=by rw [je2,Int.tdiv_eq_ediv_of_nonneg h0];omega
 rw [e1,e2]
 rfl
theorem refSeal0 (b:List UInt8):jcx b=Chk (b.length*1≤140737488355328) (Rx.Bind (jb7 b) fun r=>LOOP jko fuel (b,r,((0:Nat):Int))):=by kernel_rfl
theorem jmZ {b:List UInt8} (h:b.length≤cap9):jcx b=some (jf6 b):=by
 have hc:cap9=1000000000:=rfl
 obtain ⟨m,hm⟩:∃ m,fuel=m+5:=⟨2 ^ 70 - 5,by unfold fuel;decide⟩
 have h0:=crcV_rng b
 have a0:=h0.1
 have a1:=h0.2
 rw [refSeal0,jaC (by omega),refCRC b h,Bind_some,hm]
 rw [jfw (m+4) 0 h0 (by omega) (by omega),jfw (m+3) 1 ⟨by omega,by omega⟩ (by omega) (by simp;omega),jfw (m+2) 2 ⟨by omega,by omega⟩ (by omega) (by simp;omega),jfw (m+1) 3 ⟨by omega,by omega⟩ (by omega) (by simp;omega),jcE]
 show jko _ _=_
 unfold jko
 simp only [jax]
 rw [if_neg (by simp)]
 unfold jf6
 have e1:bShr .u32 (crcV b) 8=crcV b / 256:=shr_u 8 _ (by omega)
 have e2:bShr .u32 (crcV b) 16=crcV b / 256 / 256:=(shr_u 16 _ (by omega)).trans (by omega)
 have e3:bShr .u32 (crcV b) 24=crcV b / 256 / 256 / 256:=(shr_u 24 _ (by omega)).trans (by omega)
 rw [e1,e2,e3]
 simp only [List.append_assoc,List.cons_append,List.nil_append]
end GoForm
end

section
/- The reference's Encode; both Opens. No conditions. -/
set_option linter.all false
set_option maxRecDepth 100000
open Go Go.Rx
open GoOld (jav jbO)
namespace GoForm
theorem refEnc {r:List (List Input)} (h:SmR r):jcB r=some (jiE r):=by
  unfold jcB jiE
  rw [refVal,jaq]
  simp only [jax]
  have hc9:cap9=1000000000:=rfl
  by_cases h2:rvl r≠0
  · rw [if_pos h2,if_pos (by simpa using h2)]
  · rw [if_neg h2,if_neg (by simpa using h2)]
    have q0:=jbg (jb6 (l:=r) (Nat.le_trans h.l (by decide)))
    rw [aI2 (jb6 (Nat.le_trans h.l (by decide))) (by simp [hc9]),Bind_some,List.nil_append]
    refine (jiK r (fun i s=>s.length≤9+i*87000) (fun t _ s=>some (jf6 (s++t.flatMap jim),0)) _ _ (jeA h.l (by decide)) (by simpa using q0) ?_ ?_).trans rfl
    · intro q i t s hs hw hc hm hr
      obtain ⟨hf40,hfx⟩:=h.f _ hm
      have q1:=jbg (jb6 (l:=ix r (i:Int)) (Nat.le_trans hf40 (by decide)))
      have hi:i<5000:=by have:=h.l;omega
      simp only
      rw [if_pos (dlt hc),jaC hc,aI2 (jb6 (Nat.le_trans hf40 (by decide))) (by omega),Bind_some]
      refine (jiK (ix r (i:Int)) (fun j s'=>s'.length≤9+i*87000+9+j*2173) (fun t' _ s'=>some (jf6 ((s'++t'.flatMap encI)++t.flatMap jim),0)) _ _ (jeA hf40 (by decide)) (by simp only [List.length_append];omega) ?_ ?_).trans ?_
      · intro q2 j t2 s2 hs2 hw2 hd hm2 hr2
        have hxx:=hfx _ hm2
        have hl:=jjk hxx
        simp only
        rw [jaC hc,if_pos (dlt hd),jaC hc,jaC hd,rIn hxx (by omega),Bind_some,hw2,hr2 _ (by simp only [List.length_append];omega)]
        simp only [List.flatMap_cons,List.append_assoc]
      · intro q2 s2 hs2
        simp only
        rw [jaC hc,dll,if_neg (by simp),hw,hr s2 (by rw [Nat.add_mul];omega)]
        simp only [List.flatMap_nil,List.append_nil]
      · simp only [List.flatMap_cons,List.append_assoc,jim]
    · intro q s hs
      simp only
      rw [dll,if_neg (by simp),jmZ (by have:=h.l;omega),Bind_some]
      simp only [List.flatMap_nil,List.append_nil]
theorem eqBy {a b:List UInt8} (h:a.length≤cap9+4):jbS a b=some (decide (a=b)):=by
  unfold jbS
  simp only [jax]
  by_cases hl:a.length=b.length
  · rw [if_neg (by simp [hl])]
    refine (jgs a b (some true) (some false) _ (jeA h (by decide)) hl ?_ ?_).trans ?_
    · intro r i hw hc hc2
      rw [dlt hc,dlt hc2]
      simp only [cond_true,if_true]
      rw [jaC hc,jaC hc2,hw]
      by_cases e:ix a (i:Int)=ix b (i:Int) <;> simp [e]
    · intro r
      rw [dll];simp
    · split <;> simp [*]
  · rw [if_pos (by simpa using (show (a.length:Int)≠b.length by omega))]
    rw [decide_eq_false (fun e=>hl (by rw [e]))]
theorem eqBy9 (a b:List UInt8):jbW a b=some (decide (a=b)):=by
 unfold jbW
 rw [jax]
 by_cases h:a=b <;> simp [h]
def jkz (b:List UInt8):List UInt8 × Int:=if b.length<4 then ([],4) else if jf6 (b.take (b.length - 4))≠b then ([],22) else (b.take (b.length - 4),0)
theorem progOpen {b:List UInt8} (h:b.length≤100000):jbu b=some (jkz b):=by
  have hc9:cap9=1000000000:=rfl
  unfold jbu jkz
  simp only [jax]
  have e:IntKind.i64.wrap ((b.length:Int) - 4)=(b.length:Int) - 4:=jhx _ (by omega) (by omega)
  rw [e]
  by_cases h1:b.length<4
  · rw [if_pos (decide_eq_true (by omega)),if_pos h1]
  · have e2:((b.length:Int) - 4).toNat=b.length - 4:=by omega
    have hc:0≤(b.length:Int) - 4∧(b.length:Int) - 4≤(b.length:Int):=by omega
    rw [if_neg (by simp;omega),if_neg h1,jaC hc,e2,jmQ (by rw [List.length_take];omega),Bind_some]
    by_cases h2:jf6 (b.take (b.length - 4))≠b
    · rw [if_pos (by simpa using h2),if_pos h2]
    · rw [if_neg (by simpa using h2),if_neg h2,jaC hc,jaC (by rw [List.length_take];omega)]
theorem jmR (b:List UInt8):(jf6 b).length=b.length+4:=by unfold jf6;rw [List.length_append];rfl
theorem refOpen {b:List UInt8} (h:b.length≤100000):jcy b=some (jkz b):=by
  have hc9:cap9=1000000000:=rfl
  unfold jcy jkz
  simp only [jax]
  have e:IntKind.i64.wrap ((b.length:Int) - 4)=(b.length:Int) - 4:=jhx _ (by omega) (by omega)
  rw [e]
  by_cases h1:b.length<4
  · rw [if_pos (decide_eq_true (by omega)),if_pos h1]
  · have e2:((b.length:Int) - 4).toNat=b.length - 4:=by omega
    have hc:0≤(b.length:Int) - 4∧(b.length:Int) - 4≤(b.length:Int):=by omega
    rw [if_neg (by simp;omega),if_neg h1,jaC hc,e2,jmZ (by rw [List.length_take];omega),Bind_some,eqBy9,Bind_some]
    by_cases h2:jf6 (b.take (b.length - 4))≠b
    · rw [if_pos (by simpa using h2),if_pos h2]
    · rw [if_neg (by simpa using h2),if_neg h2,jaC hc,jaC (by rw [List.length_take];omega)]
end GoForm
end

section
/- Decoders: the reference's reader beside the program's readings. No conditions. -/
set_option linter.all false
set_option maxRecDepth 100000
open Go Go.Rx
open GoOld (jav jbO)
namespace GoForm
abbrev Rdr:=caromref45_Reader
def Rd (b:List UInt8) (o:Int):Rdr:={ B:=b,Offset:=o,Err:=0 }
def Er (e:Int):Rdr:={ B:=[],Offset:=0,Err:=e }
structure Sim {α:Type} (b:List UInt8) (f:Rdr→Option (α × Rdr)) (d:Int→Option (Int ⊕ (α × Int))) (P:α→Prop):Prop where
 er:∀ e,e≠0→∃ x,f (Er e)=some (x,Er e)∧P x
 ok:∀ o,o≤(b.length:Int)→(∃ x o',d o=some (.inr (x,o'))∧f (Rd b o)=some (x,Rd b o')∧P x∧o'≤(b.length:Int))∨(∃ e x,e≠0∧d o=some (.inl e)∧f (Rd b o)=some (x,Er e)∧P x)
def andB {α β:Type} (m:Option (α × Rdr)) (k:α→Rdr→Option β):Option β:=Rx.Bind m fun p=>k p.1 p.2
theorem jgm {α β:Type} (x:α) (r:Rdr) (k:α→Rdr→Option β):andB (some (x,r)) k=k x r:=rfl
theorem Sim.bind {α β:Type} {b:List UInt8} {g:Rdr→Option (α × Rdr)} {d:Int→Option (Int ⊕ (α × Int))} {Q:α→Prop} {F:α→Rdr→Option (β × Rdr)} {D:α→Int→Option (Int ⊕ (β × Int))} {P:β→Prop}
    (h:Sim b g d Q) (h2:∀ x,Q x→Sim b (F x) (D x) P):Sim b (fun r=>andB (g r) F) (fun o=>andR (d o) D) P:=by
  refine ⟨fun e he=>?_,fun o ho=>?_⟩
  · obtain ⟨x,e1,hx⟩:=h.er e he
    obtain ⟨y,e2,hy⟩:=(h2 x hx).er e he
    exact ⟨y,by show andB (g (Er e)) F=_;rw [e1,jgm,e2],hy⟩
  · rcases h.ok o ho with ⟨x,o',e1,e2,hx,ho'⟩ | ⟨e,x,he,e1,e2,hx⟩
    · rcases (h2 x hx).ok o' ho' with ⟨y,o2,e3,e4,hy,ho2⟩ | ⟨e,y,he,e3,e4,hy⟩
      · exact .inl ⟨y,o2,by show andR (d o) D=_;rw [e1];exact e3,by show andB (g (Rd b o)) F=_;rw [e2,jgm,e4],hy,ho2⟩
      · exact .inr ⟨e,y,he,by show andR (d o) D=_;rw [e1];exact e3,by show andB (g (Rd b o)) F=_;rw [e2,jgm,e4],hy⟩
    · obtain ⟨y,e4,hy⟩:=(h2 x hx).er e he
      exact .inr ⟨e,y,he,by show andR (d o) D=_;rw [e1];rfl,by show andB (g (Rd b o)) F=_;rw [e2,jgm,e4],hy⟩
theorem Sim.pure {α:Type} {b:List UInt8} {x:α} {P:α→Prop} (h:P x):Sim b (fun r=>some (x,r)) (fun o=>some (.inr (x,o))) P:=
 ⟨fun e _=>⟨x,rfl,h⟩,fun o ho=>.inl ⟨x,o,rfl,rfl,h,ho⟩⟩
theorem Sim.congr {α:Type} {b:List UInt8} {f f':Rdr→Option (α × Rdr)} {d d':Int→Option (Int ⊕ (α × Int))} {P:α→Prop} (h:Sim b f d P) (hf:∀ r,f' r=f r) (hd:∀ o,d' o=d o):Sim b f' d' P:=by
 rw [show f'=f from funext hf,show d'=d from funext hd];exact h
theorem cI {b:List UInt8} (hb:b.length≤100000) (o:Int):codec_ReadInt b o=some (jbO b o):=(jmA b o).trans (GoOld.codec_ReadInt_eq b o (by omega))
theorem cI2 {b:List UInt8} (hb:b.length≤100000) (o:Int):jaH b o=some (jbO b o):=(jin b o).trans (GoOld.ref_ReadInt_eq b o (by omega))
theorem ji4 {b:List UInt8} {o:Int} (h:(jbO b o).2.2=0):(jbO b o).2.1≤(b.length:Int):=(GoOld.enc_rdInt b o h).2.2.1
theorem jm4 {b:List UInt8} (hb:b.length≤100000) (o:Int):rdR (codec_ReadInt b o)=some (if (jbO b o).2.2=0 then .inr ((jbO b o).1,(jbO b o).2.1) else .inl (jbO b o).2.2):=by
 rw [cI hb]
 show (if (jbO b o).2.2=0 then _ else _)=_
 split <;> rfl
theorem simI {b:List UInt8} (hb:b.length≤100000):Sim b jaa (fun o=>rdR (codec_ReadInt b o)) (fun _=>True):=by
  refine ⟨fun e he=>⟨0,?_,trivial⟩,fun o ho=>?_⟩
  · unfold jaa
    simp only [jax]
    rw [if_pos (by show (e != 0)=true;simpa using he)]
  · unfold jaa
    simp only [jax]
    rw [if_neg (by show ¬ ((0:Int) != 0)=true;decide),jm4 hb]
    show _∨_
    rw [show (Rd b o).B=b from rfl,show (Rd b o).Offset=o from rfl,cI2 hb,Bind_some]
    by_cases h:(jbO b o).2.2=0
    · rw [if_pos h,if_neg (by simp [h])]
      exact .inl ⟨_,_,rfl,rfl,trivial,ji4 h⟩
    · rw [if_neg h,if_pos (by simpa using h)]
      exact .inr ⟨_,_,h,rfl,rfl,trivial⟩
theorem rdB_eq (b:List UInt8) (hb:b.length≤100000) (o:Int):∃ x o' e,jac b o=some (x,o',e)∧jcb b o=some (x,o',e)∧(e=0→o'≤(b.length:Int)):=by
  unfold jac jcb
  rw [jh7,GoOld.readByte_eq,Bind_some]
  simp only [jax]
  by_cases h1:o<0∨(b.length:Int)<o
  · rw [if_pos h1]
    refine ⟨false,0,2,?_,?_,fun h=>by omega⟩
    · rfl
    · rw [if_pos];rcases h1 with h | h <;> simp [h]
  · rw [if_neg h1]
    have h2:¬ (bif decide (o<0) then true else decide (o>(b.length:Int)))=true:=by
      have a1:¬ o<0:=fun h=>h1 (.inl h)
      have a2:¬ (b.length:Int)<o:=fun h=>h1 (.inr h)
      simp [a1];omega
    rw [if_neg h2]
    by_cases h3:o=(b.length:Int)
    · rw [if_pos h3]
      exact ⟨false,0,4,rfl,by rw [if_pos (by simpa using h3)],fun h=>by omega⟩
    · have h3':¬ (o==(b.length:Int))=true:=by simpa using h3
      have hc:0≤o∧o<(b.length:Int):=by omega
      rw [if_neg h3]
      by_cases h4:jat 1<ix b o
      · refine ⟨false,0,3,?_,?_,fun h=>by omega⟩
        · rw [if_neg (by simp),if_pos (by simpa using h4)]
        · rw [if_neg h3',jaC hc,if_pos (by simpa using h4)]
      · refine ⟨ix b o==jat 1,IntKind.i64.wrap (o+1),0,?_,?_,fun _=>?_⟩
        · rw [if_neg (by simp),if_neg (by simpa using h4)]
        · rw [if_neg h3',jaC hc,if_neg (by simpa using h4),jaC hc]
        · rw [jhx _ (by omega) (by omega)];omega
theorem simB {b:List UInt8} (hb:b.length≤100000):Sim b jah (fun o=>rdR (jac b o)) (fun _=>True):=by
  refine ⟨fun e he=>⟨false,?_,trivial⟩,fun o ho=>?_⟩
  · unfold jah
    simp only [jax]
    rw [if_pos (by show (e != 0)=true;simpa using he)]
  · obtain ⟨x,o',e,h1,h2,h3⟩:=rdB_eq b hb o
    unfold jah
    simp only [jax]
    rw [if_neg (by show ¬ ((0:Int) != 0)=true;decide),h1]
    rw [show (Rd b o).B=b from rfl,show (Rd b o).Offset=o from rfl,h2,Bind_some]
    show _∨_
    by_cases h:e=0
    · rw [if_neg (by simp [h])]
      exact .inl ⟨x,o',by unfold rdR;simp only;rw [if_pos h],rfl,trivial,h3 h⟩
    · rw [if_pos (by simpa using h)]
      exact .inr ⟨e,_,h,by unfold rdR;simp only;rw [if_neg h],rfl,trivial⟩
theorem simC {b:List UInt8} (hb:b.length≤100000):Sim b jaI (fun o=>jjp (codec_ReadInt b) o) (fun n=>0≤n∧n≤8192):=by
  refine ⟨fun e he=>?_,fun o ho=>?_⟩
  · obtain ⟨x,h1,-⟩:=(simI hb).er e he
    have h0:jaa (Er e)=some (0,Er e):=by
      unfold jaa
      simp only [jax]
      rw [if_pos (by show (e != 0)=true;simpa using he)]
    refine ⟨0,?_,by omega,by omega⟩
    unfold jaI
    simp only [jax]
    rw [h0,Bind_some]
    have:((Er e).Err==0)=false:=by show (e==0)=false;simpa using he
    simp only [this,cond_false,Bool.false_eq_true,if_false]
  · unfold jaI jjp
    simp only [jax]
    rcases (simI hb).ok o ho with ⟨x,o',h1,h2,-,h3⟩ | ⟨e,x,he,h1,h2,-⟩
    · rw [h1,h2,Bind_some]
      have:((Rd b o').Err==0)=true:=rfl
      simp only [this,cond_true,decide_eq_true_eq]
      by_cases h4:x<0
      · right
        refine ⟨3,0,by omega,?_,?_,by omega,by omega⟩
        · show (if x<0 then _ else _)=_
          rw [if_pos h4]
        · rw [if_pos h4];rfl
      · by_cases h5:8192<x
        · right
          refine ⟨5,0,by omega,?_,?_,by omega,by omega⟩
          · show (if x<0 then _ else _)=_
            rw [if_neg h4,if_pos h5]
          · rw [if_neg h4,if_pos (show x>8192 from h5)];rfl
        · left
          refine ⟨x,o',?_,?_,by omega,h3⟩
          · show (if x<0 then _ else _)=_
            rw [if_neg h4,if_neg h5]
          · rw [if_neg h4,if_neg (show ¬ x>8192 from h5)]
    · rw [h1,h2,Bind_some]
      right
      have:((Er e).Err==0)=false:=by show (e==0)=false;simpa using he
      refine ⟨e,0,he,rfl,?_,by omega,by omega⟩
      simp only [this,cond_false,Bool.false_eq_true,if_false]
      have h0:x=0:=by
        unfold jaa at h2
        simp only [jax] at h2
        rw [if_neg (by show ¬ ((0:Int) != 0)=true;decide),show (Rd b o).B=b from rfl,show (Rd b o).Offset=o from rfl,cI2 hb,Bind_some] at h2
        by_cases h:(jbO b o).2.2=0
        · rw [if_neg (by simp [h])] at h2
          have:=congrArg (fun q=>q.map fun p=>p.2.Err) h2
          simp [Er] at this
          exact absurd this.symm he
        · rw [if_pos (by simpa using h)] at h2
          exact (Prod.mk.inj (Option.some.inj h2)).1.symm
      rw [h0]
end GoForm
end

section
/- Decoders: lists of numbers, lists of parts; fixtures, bodies and joints. No conditions. -/
set_option linter.all false
set_option maxRecDepth 100000
open Go Go.Rx
open GoOld (jav jbO)
namespace GoForm
theorem jbH {α β γ:Type} (m:Option α) (f:α→Option β) (g:β→Option γ):Rx.Bind (Rx.Bind m f) g=Rx.Bind m fun x=>Rx.Bind (f x) g:=by cases m <;> rfl
noncomputable def je1:Nat→Rdr→Option (List Int × Rdr)
 | 0,r=>some ([],r)
 | k+1,r=>Rx.Bind (jaa r) fun p=>Rx.Bind (je1 k p.2) fun q=>some (p.1::q.1,q.2)
noncomputable def jm5 (n1:Int) (rec:List Int × Int × Rdr→Option (List Int × Rdr)) (s:List Int × Int × Rdr):Option (List Int × Rdr):=
 Let (decide (s.2.1<n1)) fun x=>if x=true then Rx.Bind (jaa s.2.2) fun p=>Chk ((List.length s.1+[p.1].length)*8≤140737488355328) (Let (s.1++[p.1]) fun l=>Let (IntKind.i64.wrap (s.2.1+1)) fun z=>rec (l,z,p.2)) else some (s.1,s.2.2)
theorem jiA:∀ (k n i:Nat) (l:List Int) (r:Rdr),k<n→l.length+k≤1000→i+k≤1000→LOOP (jm5 ((i+k:Nat):Int)) n (l,(i:Int),r)=Rx.Bind (je1 k r) fun q=>some (l++q.1,q.2)
  | 0,n+1,i,l,r,_,_,_=>by
    rw [jcE]
    unfold jm5
    simp only [jax]
    rw [if_neg (by simp)]
    show _=some (l++[],r)
    rw [List.append_nil]
  | k+1,n+1,i,l,r,h1,h2,h3=>by
    rw [jcE]
    show jm5 _ _ _=_
    unfold jm5
    simp only [jax]
    rw [if_pos (by simp;omega),jg7 i (by omega)]
    unfold je1
    rw [jbH]
    refine congrArg (Rx.Bind _) (funext fun p=>?_)
    rw [jaC (by simp;omega)]
    have ih:=jiA k n (i+1) (l++[p.1]) p.2 (by omega) (by simp;omega) (by omega)
    have e:((i+1+k:Nat):Int)=((i+(k+1):Nat):Int):=by omega
    rw [e] at ih
    refine Eq.trans ih ?_
    rw [jbH]
    refine congrArg (Rx.Bind _) (funext fun q=>?_)
    simp
theorem jm2 (r:Rdr) (n:Int):jaj r n=LOOP (jm5 n) fuel ([],(0:Int),r):=by kernel_rfl
theorem jda (r:Rdr) (k:Nat) (h:k≤1000):jaj r (k:Int)=je1 k r:=by
 have h1:=jiA k fuel 0 [] r (Nat.lt_of_le_of_lt h (by unfold fuel;decide)) (by simpa using h) (by omega)
 rw [Nat.zero_add] at h1
 rw [jm2]
 refine Eq.trans h1 ?_
 show (Rx.Bind (je1 k r) fun q=>some q)=_
 cases je1 k r <;> rfl
theorem rI2 (r:Rdr):jaj r (2:Int)=je1 2 r:=jda r 2 (by omega)
theorem rI3 (r:Rdr):jaj r (3:Int)=je1 3 r:=jda r 3 (by omega)
theorem rI4 (r:Rdr):jaj r (4:Int)=je1 4 r:=jda r 4 (by omega)
theorem rI6 (r:Rdr):jaj r (6:Int)=je1 6 r:=jda r 6 (by omega)
theorem rI8 (r:Rdr):jaj r (8:Int)=je1 8 r:=jda r 8 (by omega)
theorem rI11 (r:Rdr):jaj r (11:Int)=je1 11 r:=jda r 11 (by omega)
def jm6 {α A X:Type} (el:Rdr→Option (α × Rdr)) (sz:Nat) (get:A→List α) (set:A→List α→A) (n:Int) (K:A→Rdr→Option X) (a:A) (r:Rdr):Option X:=
 LOOP (fun (rec:Int × A × Rdr→Option X) (s:Int × A × Rdr)=>Let (decide (s.1<n)) fun c=>Let (s.2.2.Err==0) fun d=>Let (bif c then d else false) fun g=>if g=true then Rx.Bind (el s.2.2) fun p=>Chk (((get s.2.1).length+[p.1].length)*sz≤140737488355328) (Let (get s.2.1++[p.1]) fun l=>Let (IntKind.i64.wrap (s.1+1)) fun z=>rec (z,set s.2.1 l,p.2)) else K s.2.1 s.2.2) fuel ((0:Int),a,r)
def jes {α A X:Type} (el:Rdr→Option (α × Rdr)) (sz:Nat) (get:A→List α) (set:A→List α→A) (n:Int) (K:A→Rdr→Option X) (rec:Int × A × Rdr→Option X) (s:Int × A × Rdr):Option X:=
 Let (decide (s.1<n)) fun c=>Let (s.2.2.Err==0) fun d=>Let (bif c then d else false) fun g=>if g=true then Rx.Bind (el s.2.2) fun p=>Chk (((get s.2.1).length+[p.1].length)*sz≤140737488355328) (Let (get s.2.1++[p.1]) fun l=>Let (IntKind.i64.wrap (s.1+1)) fun z=>rec (z,set s.2.1 l,p.2)) else K s.2.1 s.2.2
section
variable {α A β:Type} {b:List UInt8} {el:Rdr→Option (α × Rdr)} {sz:Nat} {get:A→List α} {set:A→List α→A} {n:Nat} {K:A→Rdr→Option (β × Rdr)} {a:A} {del:Int→Option (Int ⊕ (α × Int))} {Q:α→Prop} {D:List α→Int→Option (Int ⊕ (β × Int))} {P:β→Prop}
theorem jiz (l:List α) (i:Int) (m:Nat) (e:Int) (he:e≠0):LOOP (jes el sz get set (n:Int) K) (m+1) (i,set a l,Er e)=K (set a l) (Er e):=by
 rw [jcE]
 show jes _ _ _ _ _ _ _ _=_
 unfold jes
 simp only [jax]
 have h:((Er e).Err==0)=false:=by show (e==0)=false;simpa using he
 rw [if_neg (by rw [h];cases decide (i<(n:Int)) <;> simp)]
theorem jlk (hel:Sim b el del Q) (hsz:sz≤1000) (h1:∀ l,get (set a l)=l) (h2:∀ l l',set (set a l) l'=set a l') (hn:n≤8192) (hK:∀ l:List α,l.length≤8192→(∀ x∈l,Q x)→Sim b (K (set a l)) (D l) P):
    ∀ (k i m:Nat) (l:List α) (o:Int),i+k=n→k+1<m→l.length=i→(∀ x∈l,Q x)→o≤(b.length:Int)→
      (∃ x o',andR (jcH del k l o) D=some (.inr (x,o'))∧LOOP (jes el sz get set (n:Int) K) m ((i:Int),set a l,Rd b o)=some (x,Rd b o')∧P x∧o'≤(b.length:Int))∨
      (∃ e x,e≠0∧andR (jcH del k l o) D=some (.inl e)∧LOOP (jes el sz get set (n:Int) K) m ((i:Int),set a l,Rd b o)=some (x,Er e)∧P x)
  | 0,i,m+1,l,o,hi,_,hl,hq,ho=>by
    have e1:LOOP (jes el sz get set (n:Int) K) (m+1) ((i:Int),set a l,Rd b o)=K (set a l) (Rd b o):=by
      rw [jcE]
      show jes _ _ _ _ _ _ _ _=_
      unfold jes
      simp only [jax]
      rw [if_neg (by rw [decide_eq_false (by omega)];simp)]
    rw [e1]
    exact (hK l (by omega) hq).ok o ho
  | k + 1,i,m+2,l,o,hi,hm,hl,hq,ho=>by
    have e1:LOOP (jes el sz get set (n:Int) K) (m+2) ((i:Int),set a l,Rd b o)=Rx.Bind (el (Rd b o)) fun p=>LOOP (jes el sz get set (n:Int) K) (m+1) (((i+1:Nat):Int),set a (l++[p.1]),p.2):=by
      rw [jcE]
      show jes _ _ _ _ _ _ _ _=_
      unfold jes
      simp only [jax]
      have h:((Rd b o).Err==0)=true:=rfl
      rw [if_pos (by rw [h,decide_eq_true (show (i:Int)<(n:Int) by omega)];rfl)]
      refine congrArg (Rx.Bind _) (funext fun p=>?_)
      rw [h1,jaC (by
        have h8:l.length+1≤8193:=by omega
        have:=Nat.mul_le_mul h8 hsz
        show (l.length+1)*sz≤_
        omega),jg7 i (by omega),h2]
      rfl
    rw [e1]
    rcases hel.ok o ho with ⟨x,o',q1,q2,q3,q4⟩ | ⟨e,x,he,q1,q2,q3⟩
    · have hq':∀ y∈l++[x],Q y:=by
        intro y hy
        rcases List.mem_append.1 hy with hy | hy
        · exact hq y hy
        · rw [List.mem_singleton.1 hy];exact q3
      have ih:=jlk hel hsz h1 h2 hn hK k (i+1) (m+1) (l++[x]) o' (by omega) (by omega) (by simp [hl]) hq' q4
      have e2:andR (jcH del (k+1) l o) D=andR (jcH del k (l++[x]) o') D:=by
        show andR (andR (del o) fun x o=>jcH del k (l++[x]) o) D=_
        rw [q1];rfl
      rw [e2,q2]
      exact ih
    · have hq':∀ y∈l++[x],Q y:=by
        intro y hy
        rcases List.mem_append.1 hy with hy | hy
        · exact hq y hy
        · rw [List.mem_singleton.1 hy];exact q3
      obtain ⟨y,e3,hy⟩:=(hK (l++[x]) (by simp;omega) hq').er e he
      refine .inr ⟨e,y,he,?_,?_,hy⟩
      · show andR (andR (del o) fun x o=>jcH del k (l++[x]) o) D=_
        rw [q1];rfl
      · rw [q2,Bind_some]
        exact (jiz (l++[x]) _ m e he).trans e3
theorem jjN (hel:Sim b el del Q) (hsz:sz≤1000) (h0:set a []=a) (h1:∀ l,get (set a l)=l) (h2:∀ l l',set (set a l) l'=set a l') {N:Int} (hN:0≤N∧N≤8192) (hK:∀ l:List α,l.length≤8192→(∀ x∈l,Q x)→Sim b (K (set a l)) (D l) P):
    Sim b (fun r=>jm6 el sz get set N K a r) (fun o=>andR (jcH del N.toNat [] o) D) P:=by
  obtain ⟨n,rfl⟩:∃ n:Nat,N=n:=⟨N.toNat,by omega⟩
  have hn:n≤8192:=by omega
  have hnt:((n:Int)).toNat=n:=by omega
  obtain ⟨m,hm⟩:∃ m,fuel=m+10000:=⟨2 ^ 70 - 10000,by unfold fuel;decide⟩
  refine ⟨fun e he=>?_,fun o ho=>?_⟩
  · obtain ⟨y,e3,hy⟩:=(hK [] (by simp) (by simp)).er e he
    refine ⟨y,?_,hy⟩
    show LOOP (jes el sz get set (n:Int) K) fuel ((0:Int),a,Er e)=_
    rw [hm]
    have:=jiz (el:=el) (sz:=sz) (get:=get) (set:=set) (n:=n) (K:=K) (a:=a) [] (0:Int) (m+9999) e he
    rw [h0] at this
    rw [h0] at e3
    exact this.trans e3
  · have:=jlk hel hsz h1 h2 hn hK n 0 fuel [] o (by omega) (by rw [hm];omega) rfl (by simp) ho
    rw [h0] at this
    rw [hnt]
    exact this
end
theorem jju {α β:Type} (x:α) (o:Int) (k:α→Int→Option (Int ⊕ β)):andR (some (.inr (x,o))) k=k x o:=rfl
theorem jm3 {b:List UInt8} (hb:b.length≤100000) (o:Int):rdR (jaf b o)=andR (rdR (codec_ReadInt b o)) fun x o=>andR (rdR (codec_ReadInt b o)) fun y o=>some (.inr (⟨x,y⟩,o)):=by
  unfold jaf
  simp only [jax]
  rw [jm4 hb,cI hb,Bind_some]
  by_cases h:(jbO b o).2.2=0
  · rw [if_neg (by simp [h]),if_pos h,jju,jm4 hb,cI hb,Bind_some]
    by_cases h2:(jbO b (jbO b o).2.1).2.2=0
    · rw [if_neg (by simp [h2]),if_pos h2];rfl
    · rw [if_pos (by simpa using h2),if_neg h2]
      show (if (jbO b (jbO b o).2.1).2.2=0 then _ else _)=_
      rw [if_neg h2];rfl
  · rw [if_pos (by simpa using h),if_neg h]
    show (if (jbO b o).2.2=0 then _ else _)=_
    rw [if_neg h];rfl
theorem simV {b:List UInt8} (hb:b.length≤100000):Sim b jbT (fun o=>rdR (jaf b o)) (fun _=>True):=by
 refine Sim.congr (f:=fun r=>andB (jaa r) fun x r=>andB (jaa r) fun y r=>some (⟨x,y⟩,r)) (Sim.bind (simI hb) fun x _=>Sim.bind (simI hb) fun y _=>Sim.pure trivial) (fun r=>rfl) (fun o=>jm3 hb o)
end GoForm
end

section
/- Decoders: fixtures, bodies and joints. No conditions. -/
set_option linter.all false
set_option maxRecDepth 100000
open Go Go.Rx
open GoOld (jav jbO)
namespace GoForm
set_option maxHeartbeats 2000000
theorem rJ2 (r:Rdr):jaj r (2:Int)=(Rx.Bind (jaa r) fun p0=>Rx.Bind (jaa p0.2) fun p1=>some ([p0.1,p1.1],p1.2)):=by
 rw [rI2]
 simp only [je1,jbH,jaq]
theorem rJ3 (r:Rdr):jaj r (3:Int)=(Rx.Bind (jaa r) fun p0=>Rx.Bind (jaa p0.2) fun p1=>Rx.Bind (jaa p1.2) fun p2=>some ([p0.1,p1.1,p2.1],p2.2)):=by
 rw [rI3]
 simp only [je1,jbH,jaq]
theorem rJ4 (r:Rdr):jaj r (4:Int)=(Rx.Bind (jaa r) fun p0=>Rx.Bind (jaa p0.2) fun p1=>Rx.Bind (jaa p1.2) fun p2=>Rx.Bind (jaa p2.2) fun p3=>some ([p0.1,p1.1,p2.1,p3.1],p3.2)):=by
 rw [rI4]
 simp only [je1,jbH,jaq]
theorem rJ6 (r:Rdr):jaj r (6:Int)=(Rx.Bind (jaa r) fun p0=>Rx.Bind (jaa p0.2) fun p1=>Rx.Bind (jaa p1.2) fun p2=>Rx.Bind (jaa p2.2) fun p3=>Rx.Bind (jaa p3.2) fun p4=>Rx.Bind (jaa p4.2) fun p5=>some ([p0.1,p1.1,p2.1,p3.1,p4.1,p5.1],p5.2)):=by
 rw [rI6]
 simp only [je1,jbH,jaq]
theorem rJ8 (r:Rdr):jaj r (8:Int)=(Rx.Bind (jaa r) fun p0=>Rx.Bind (jaa p0.2) fun p1=>Rx.Bind (jaa p1.2) fun p2=>Rx.Bind (jaa p2.2) fun p3=>Rx.Bind (jaa p3.2) fun p4=>Rx.Bind (jaa p4.2) fun p5=>Rx.Bind (jaa p5.2) fun p6=>Rx.Bind (jaa p6.2) fun p7=>some ([p0.1,p1.1,p2.1,p3.1,p4.1,p5.1,p6.1,p7.1],p7.2)):=by
 rw [rI8]
 simp only [je1,jbH,jaq]
theorem rJ11 (r:Rdr):jaj r (11:Int)=(Rx.Bind (jaa r) fun p0=>Rx.Bind (jaa p0.2) fun p1=>Rx.Bind (jaa p1.2) fun p2=>Rx.Bind (jaa p2.2) fun p3=>Rx.Bind (jaa p3.2) fun p4=>Rx.Bind (jaa p4.2) fun p5=>Rx.Bind (jaa p5.2) fun p6=>Rx.Bind (jaa p6.2) fun p7=>Rx.Bind (jaa p7.2) fun p8=>Rx.Bind (jaa p8.2) fun p9=>Rx.Bind (jaa p9.2) fun p10=>some ([p0.1,p1.1,p2.1,p3.1,p4.1,p5.1,p6.1,p7.1,p8.1,p9.1,p10.1],p10.2)):=by
 rw [rI11]
 simp only [je1,jbH,jaq]
theorem rfx (r:Rdr):jaU r=(andB (jaa r) fun kd r=>andB (jaa r) fun ra r=>andB (jaI r) fun n r=>jm6 jbT 16 (fun p:Fixture=>p.Shape.Vertices) (fun (p:Fixture) (l:List Vec)=>({ Shape:={ Kind:=p.Shape.Kind,Radius:=p.Shape.Radius,Vertices:=l },Density:=p.Density,Friction:=p.Friction,Restitution:=p.Restitution,Sensor:=p.Sensor,Category:=p.Category,Mask:=p.Mask,Group:=p.Group }:Fixture)) n (fun p r=>andB (jaa r) fun de r=>andB (jaa r) fun fr r=>andB (jaa r) fun re r=>andB (jah r) fun se r=>andB (jaa r) fun ca r=>andB (jaa r) fun ma r=>andB (jaa r) fun gr r=>some (({ Shape:=p.Shape,Density:=de,Friction:=fr,Restitution:=re,Sensor:=se,Category:=ca,Mask:=ma,Group:=gr }:Fixture),r)) ({ Shape:={ Kind:=kd,Radius:=ra,Vertices:=[] },Density:=0,Friction:=0,Restitution:=0,Sensor:=false,Category:=0,Mask:=0,Group:=0 }:Fixture) r):=by
 unfold jaU
 simp only [rJ2,rJ3,jbH,jaq]
 kernel_rfl
theorem dfx (b:List UInt8) (o:Int):jhf (codec_ReadInt b) (jaf b) (jac b) o=(andR (rdR (codec_ReadInt b o)) fun kd o=>andR (rdR (codec_ReadInt b o)) fun ra o=>andR (jjp (codec_ReadInt b) o) fun n o=>andR (jcH (fun o=>rdR (jaf b o)) n.toNat [] o) fun l o=>andR (rdR (codec_ReadInt b o)) fun de o=>andR (rdR (codec_ReadInt b o)) fun fr o=>andR (rdR (codec_ReadInt b o)) fun re o=>andR (rdR (jac b o)) fun se o=>andR (rdR (codec_ReadInt b o)) fun ca o=>andR (rdR (codec_ReadInt b o)) fun ma o=>andR (rdR (codec_ReadInt b o)) fun gr o=>some (.inr (({ Shape:={ Kind:=kd,Radius:=ra,Vertices:=l },Density:=de,Friction:=fr,Restitution:=re,Sensor:=se,Category:=ca,Mask:=ma,Group:=gr }:Fixture),o))):=by
 unfold jhf jfp
 simp only [jcU]
theorem simF {b:List UInt8} (hb:b.length≤100000):Sim b jaU (fun o=>jhf (codec_ReadInt b) (jaf b) (jac b) o) (fun f=>f.Shape.Vertices.length≤8192):=
 Sim.congr (f:=fun r=>andB (jaa r) fun kd r=>andB (jaa r) fun ra r=>andB (jaI r) fun n r=>jm6 jbT 16 (fun p:Fixture=>p.Shape.Vertices) (fun (p:Fixture) (l:List Vec)=>({ Shape:={ Kind:=p.Shape.Kind,Radius:=p.Shape.Radius,Vertices:=l },Density:=p.Density,Friction:=p.Friction,Restitution:=p.Restitution,Sensor:=p.Sensor,Category:=p.Category,Mask:=p.Mask,Group:=p.Group }:Fixture)) n (fun p r=>andB (jaa r) fun de r=>andB (jaa r) fun fr r=>andB (jaa r) fun re r=>andB (jah r) fun se r=>andB (jaa r) fun ca r=>andB (jaa r) fun ma r=>andB (jaa r) fun gr r=>some (({ Shape:=p.Shape,Density:=de,Friction:=fr,Restitution:=re,Sensor:=se,Category:=ca,Mask:=ma,Group:=gr }:Fixture),r)) ({ Shape:={ Kind:=kd,Radius:=ra,Vertices:=[] },Density:=0,Friction:=0,Restitution:=0,Sensor:=false,Category:=0,Mask:=0,Group:=0 }:Fixture) r) (d:=fun o=>andR (rdR (codec_ReadInt b o)) fun kd o=>andR (rdR (codec_ReadInt b o)) fun ra o=>andR (jjp (codec_ReadInt b) o) fun n o=>andR (jcH (fun o=>rdR (jaf b o)) n.toNat [] o) fun l o=>andR (rdR (codec_ReadInt b o)) fun de o=>andR (rdR (codec_ReadInt b o)) fun fr o=>andR (rdR (codec_ReadInt b o)) fun re o=>andR (rdR (jac b o)) fun se o=>andR (rdR (codec_ReadInt b o)) fun ca o=>andR (rdR (codec_ReadInt b o)) fun ma o=>andR (rdR (codec_ReadInt b o)) fun gr o=>some (.inr (({ Shape:={ Kind:=kd,Radius:=ra,Vertices:=l },Density:=de,Friction:=fr,Restitution:=re,Sensor:=se,Category:=ca,Mask:=ma,Group:=gr }:Fixture),o))) (Sim.bind (simI hb) fun kd _=>Sim.bind (simI hb) fun ra _=>Sim.bind (simC hb) fun n hn=>jjN (simV hb) (by omega) rfl (fun _=>rfl) (fun _ _=>rfl) hn fun l hl _=>Sim.bind (simI hb) fun de _=>Sim.bind (simI hb) fun fr _=>Sim.bind (simI hb) fun re _=>Sim.bind (simB hb) fun se _=>Sim.bind (simI hb) fun ca _=>Sim.bind (simI hb) fun ma _=>Sim.bind (simI hb) fun gr _=>Sim.pure hl) rfx (dfx b)
theorem rbo (r:Rdr):ja0 r=(andB (jaa r) fun id r=>andB (jaa r) fun kd r=>andB (jaa r) fun px r=>andB (jaa r) fun py r=>andB (jaa r) fun an r=>andB (jaa r) fun vx r=>andB (jaa r) fun vy r=>andB (jaa r) fun av r=>andB (jaa r) fun fx r=>andB (jaa r) fun fy r=>andB (jaa r) fun tq r=>andB (jaa r) fun ld r=>andB (jaa r) fun ad r=>andB (jaa r) fun gs r=>andB (jah r) fun bu r=>andB (jah r) fun fr r=>andB (jah r) fun ns r=>andB (jah r) fun asl r=>andB (jaa r) fun idl r=>andB (jaI r) fun n r=>jm6 jaU 96 (fun p:Body=>p.Fixtures) (fun (p:Body) (l:List Fixture)=>({ ID:=p.ID,Kind:=p.Kind,Transform:=p.Transform,Velocity:=p.Velocity,AngularVelocity:=p.AngularVelocity,Force:=p.Force,Torque:=p.Torque,LinearDamping:=p.LinearDamping,AngularDamping:=p.AngularDamping,GravityScale:=p.GravityScale,Bullet:=p.Bullet,FixedRotation:=p.FixedRotation,NoSleep:=p.NoSleep,Asleep:=p.Asleep,IdleSteps:=p.IdleSteps,Fixtures:=l }:Body)) n (fun p r=>some (p,r)) ({ ID:=id,Kind:=kd,Transform:={ Position:={ X:=px,Y:=py },Angle:=an },Velocity:={ X:=vx,Y:=vy },AngularVelocity:=av,Force:={ X:=fx,Y:=fy },Torque:=tq,LinearDamping:=ld,AngularDamping:=ad,GravityScale:=gs,Bullet:=bu,FixedRotation:=fr,NoSleep:=ns,Asleep:=asl,IdleSteps:=idl,Fixtures:=[] }:Body) r):=by
 unfold ja0
 simp only [rJ8,rJ6,jbH,jaq]
 kernel_rfl
theorem dbo {b:List UInt8} (hb:b.length≤100000) (o:Int):jd9 (codec_ReadInt b) (jaf b) (jac b) o=(andR (rdR (codec_ReadInt b o)) fun id o=>andR (rdR (codec_ReadInt b o)) fun kd o=>andR (rdR (codec_ReadInt b o)) fun px o=>andR (rdR (codec_ReadInt b o)) fun py o=>andR (rdR (codec_ReadInt b o)) fun an o=>andR (rdR (codec_ReadInt b o)) fun vx o=>andR (rdR (codec_ReadInt b o)) fun vy o=>andR (rdR (codec_ReadInt b o)) fun av o=>andR (rdR (codec_ReadInt b o)) fun fx o=>andR (rdR (codec_ReadInt b o)) fun fy o=>andR (rdR (codec_ReadInt b o)) fun tq o=>andR (rdR (codec_ReadInt b o)) fun ld o=>andR (rdR (codec_ReadInt b o)) fun ad o=>andR (rdR (codec_ReadInt b o)) fun gs o=>andR (rdR (jac b o)) fun bu o=>andR (rdR (jac b o)) fun fr o=>andR (rdR (jac b o)) fun ns o=>andR (rdR (jac b o)) fun asl o=>andR (rdR (codec_ReadInt b o)) fun idl o=>andR (jjp (codec_ReadInt b) o) fun n o=>andR (jcH (jhf (codec_ReadInt b) (jaf b) (jac b)) n.toNat [] o) fun l o=>some (.inr (({ ID:=id,Kind:=kd,Transform:={ Position:={ X:=px,Y:=py },Angle:=an },Velocity:={ X:=vx,Y:=vy },AngularVelocity:=av,Force:={ X:=fx,Y:=fy },Torque:=tq,LinearDamping:=ld,AngularDamping:=ad,GravityScale:=gs,Bullet:=bu,FixedRotation:=fr,NoSleep:=ns,Asleep:=asl,IdleSteps:=idl,Fixtures:=l }:Body),o))):=by
 unfold jd9 jfp
 simp only [jm3 hb,jcU,jju]
def OkBo (x:Body):Prop:=x.Fixtures.length≤8192∧∀ f∈x.Fixtures,f.Shape.Vertices.length≤8192
theorem simBo {b:List UInt8} (hb:b.length≤100000):Sim b ja0 (fun o=>jd9 (codec_ReadInt b) (jaf b) (jac b) o) OkBo:=
 Sim.congr (f:=fun r=>andB (jaa r) fun id r=>andB (jaa r) fun kd r=>andB (jaa r) fun px r=>andB (jaa r) fun py r=>andB (jaa r) fun an r=>andB (jaa r) fun vx r=>andB (jaa r) fun vy r=>andB (jaa r) fun av r=>andB (jaa r) fun fx r=>andB (jaa r) fun fy r=>andB (jaa r) fun tq r=>andB (jaa r) fun ld r=>andB (jaa r) fun ad r=>andB (jaa r) fun gs r=>andB (jah r) fun bu r=>andB (jah r) fun fr r=>andB (jah r) fun ns r=>andB (jah r) fun asl r=>andB (jaa r) fun idl r=>andB (jaI r) fun n r=>jm6 jaU 96 (fun p:Body=>p.Fixtures) (fun (p:Body) (l:List Fixture)=>({ ID:=p.ID,Kind:=p.Kind,Transform:=p.Transform,Velocity:=p.Velocity,AngularVelocity:=p.AngularVelocity,Force:=p.Force,Torque:=p.Torque,LinearDamping:=p.LinearDamping,AngularDamping:=p.AngularDamping,GravityScale:=p.GravityScale,Bullet:=p.Bullet,FixedRotation:=p.FixedRotation,NoSleep:=p.NoSleep,Asleep:=p.Asleep,IdleSteps:=p.IdleSteps,Fixtures:=l }:Body)) n (fun p r=>some (p,r)) ({ ID:=id,Kind:=kd,Transform:={ Position:={ X:=px,Y:=py },Angle:=an },Velocity:={ X:=vx,Y:=vy },AngularVelocity:=av,Force:={ X:=fx,Y:=fy },Torque:=tq,LinearDamping:=ld,AngularDamping:=ad,GravityScale:=gs,Bullet:=bu,FixedRotation:=fr,NoSleep:=ns,Asleep:=asl,IdleSteps:=idl,Fixtures:=[] }:Body) r) (d:=fun o=>andR (rdR (codec_ReadInt b o)) fun id o=>andR (rdR (codec_ReadInt b o)) fun kd o=>andR (rdR (codec_ReadInt b o)) fun px o=>andR (rdR (codec_ReadInt b o)) fun py o=>andR (rdR (codec_ReadInt b o)) fun an o=>andR (rdR (codec_ReadInt b o)) fun vx o=>andR (rdR (codec_ReadInt b o)) fun vy o=>andR (rdR (codec_ReadInt b o)) fun av o=>andR (rdR (codec_ReadInt b o)) fun fx o=>andR (rdR (codec_ReadInt b o)) fun fy o=>andR (rdR (codec_ReadInt b o)) fun tq o=>andR (rdR (codec_ReadInt b o)) fun ld o=>andR (rdR (codec_ReadInt b o)) fun ad o=>andR (rdR (codec_ReadInt b o)) fun gs o=>andR (rdR (jac b o)) fun bu o=>andR (rdR (jac b o)) fun fr o=>andR (rdR (jac b o)) fun ns o=>andR (rdR (jac b o)) fun asl o=>andR (rdR (codec_ReadInt b o)) fun idl o=>andR (jjp (codec_ReadInt b) o) fun n o=>andR (jcH (jhf (codec_ReadInt b) (jaf b) (jac b)) n.toNat [] o) fun l o=>some (.inr (({ ID:=id,Kind:=kd,Transform:={ Position:={ X:=px,Y:=py },Angle:=an },Velocity:={ X:=vx,Y:=vy },AngularVelocity:=av,Force:={ X:=fx,Y:=fy },Torque:=tq,LinearDamping:=ld,AngularDamping:=ad,GravityScale:=gs,Bullet:=bu,FixedRotation:=fr,NoSleep:=ns,Asleep:=asl,IdleSteps:=idl,Fixtures:=l }:Body),o))) (Sim.bind (simI hb) fun id _=>Sim.bind (simI hb) fun kd _=>Sim.bind (simI hb) fun px _=>Sim.bind (simI hb) fun py _=>Sim.bind (simI hb) fun an _=>Sim.bind (simI hb) fun vx _=>Sim.bind (simI hb) fun vy _=>Sim.bind (simI hb) fun av _=>Sim.bind (simI hb) fun fx _=>Sim.bind (simI hb) fun fy _=>Sim.bind (simI hb) fun tq _=>Sim.bind (simI hb) fun ld _=>Sim.bind (simI hb) fun ad _=>Sim.bind (simI hb) fun gs _=>Sim.bind (simB hb) fun bu _=>Sim.bind (simB hb) fun fr _=>Sim.bind (simB hb) fun ns _=>Sim.bind (simB hb) fun asl _=>Sim.bind (simI hb) fun idl _=>Sim.bind (simC hb) fun n hn=>jjN (simF hb) (by omega) rfl (fun _=>rfl) (fun _ _=>rfl) hn fun l hl hq=>Sim.pure ⟨hl,hq⟩) rbo (dbo hb)
theorem rjo (r:Rdr):jaY r=(andB (jaa r) fun id r=>andB (jaa r) fun kd r=>andB (jaa r) fun ja r=>andB (jaa r) fun jb r=>andB (jaa r) fun ax r=>andB (jaa r) fun ay r=>andB (jaa r) fun bx r=>andB (jaa r) fun yb r=>andB (jaa r) fun cx r=>andB (jaa r) fun cy r=>andB (jaa r) fun ra r=>andB (jah r) fun el r=>andB (jaa r) fun lo r=>andB (jaa r) fun up r=>andB (jah r) fun em r=>andB (jaa r) fun ms r=>andB (jaa r) fun mf r=>andB (jaa r) fun so r=>andB (jaa r) fun bf r=>andB (jah r) fun cc r=>andB (jaa r) fun i0 r=>andB (jaa r) fun i1 r=>andB (jaa r) fun i2 r=>andB (jaa r) fun i3 r=>some (({ ID:=id,Kind:=kd,BodyA:=ja,BodyB:=jb,AnchorA:={ X:=ax,Y:=ay },AnchorB:={ X:=bx,Y:=yb },Axis:={ X:=cx,Y:=cy },ReferenceAngle:=ra,EnableLimit:=el,Lower:=lo,Upper:=up,EnableMotor:=em,MotorSpeed:=ms,MaxForce:=mf,Softness:=so,BreakForce:=bf,CollideConnected:=cc,Impulses:=(i0,i1,i2,i3) }:Joint),r)):=by
 unfold jaY
 simp only [rJ11,rJ2,rJ4,jbH,jaq]
 kernel_rfl
theorem djo {b:List UInt8} (hb:b.length≤100000) (o:Int):jc0 (codec_ReadInt b) (jaf b) (jac b) o=(andR (rdR (codec_ReadInt b o)) fun id o=>andR (rdR (codec_ReadInt b o)) fun kd o=>andR (rdR (codec_ReadInt b o)) fun ja o=>andR (rdR (codec_ReadInt b o)) fun jb o=>andR (rdR (codec_ReadInt b o)) fun ax o=>andR (rdR (codec_ReadInt b o)) fun ay o=>andR (rdR (codec_ReadInt b o)) fun bx o=>andR (rdR (codec_ReadInt b o)) fun yb o=>andR (rdR (codec_ReadInt b o)) fun cx o=>andR (rdR (codec_ReadInt b o)) fun cy o=>andR (rdR (codec_ReadInt b o)) fun ra o=>andR (rdR (jac b o)) fun el o=>andR (rdR (codec_ReadInt b o)) fun lo o=>andR (rdR (codec_ReadInt b o)) fun up o=>andR (rdR (jac b o)) fun em o=>andR (rdR (codec_ReadInt b o)) fun ms o=>andR (rdR (codec_ReadInt b o)) fun mf o=>andR (rdR (codec_ReadInt b o)) fun so o=>andR (rdR (codec_ReadInt b o)) fun bf o=>andR (rdR (jac b o)) fun cc o=>andR (rdR (codec_ReadInt b o)) fun i0 o=>andR (rdR (codec_ReadInt b o)) fun i1 o=>andR (rdR (codec_ReadInt b o)) fun i2 o=>andR (rdR (codec_ReadInt b o)) fun i3 o=>some (.inr (({ ID:=id,Kind:=kd,BodyA:=ja,BodyB:=jb,AnchorA:={ X:=ax,Y:=ay },AnchorB:={ X:=bx,Y:=yb },Axis:={ X:=cx,Y:=cy },ReferenceAngle:=ra,EnableLimit:=el,Lower:=lo,Upper:=up,EnableMotor:=em,MotorSpeed:=ms,MaxForce:=mf,Softness:=so,BreakForce:=bf,CollideConnected:=cc,Impulses:=(i0,i1,i2,i3) }:Joint),o))):=by
 unfold jc0
 simp only [jm3 hb,jcU,jju]
theorem simJo {b:List UInt8} (hb:b.length≤100000):Sim b jaY (fun o=>jc0 (codec_ReadInt b) (jaf b) (jac b) o) (fun _=>True):=
 Sim.congr (f:=fun r=>andB (jaa r) fun id r=>andB (jaa r) fun kd r=>andB (jaa r) fun ja r=>andB (jaa r) fun jb r=>andB (jaa r) fun ax r=>andB (jaa r) fun ay r=>andB (jaa r) fun bx r=>andB (jaa r) fun yb r=>andB (jaa r) fun cx r=>andB (jaa r) fun cy r=>andB (jaa r) fun ra r=>andB (jah r) fun el r=>andB (jaa r) fun lo r=>andB (jaa r) fun up r=>andB (jah r) fun em r=>andB (jaa r) fun ms r=>andB (jaa r) fun mf r=>andB (jaa r) fun so r=>andB (jaa r) fun bf r=>andB (jah r) fun cc r=>andB (jaa r) fun i0 r=>andB (jaa r) fun i1 r=>andB (jaa r) fun i2 r=>andB (jaa r) fun i3 r=>some (({ ID:=id,Kind:=kd,BodyA:=ja,BodyB:=jb,AnchorA:={ X:=ax,Y:=ay },AnchorB:={ X:=bx,Y:=yb },Axis:={ X:=cx,Y:=cy },ReferenceAngle:=ra,EnableLimit:=el,Lower:=lo,Upper:=up,EnableMotor:=em,MotorSpeed:=ms,MaxForce:=mf,Softness:=so,BreakForce:=bf,CollideConnected:=cc,Impulses:=(i0,i1,i2,i3) }:Joint),r)) (d:=fun o=>andR (rdR (codec_ReadInt b o)) fun id o=>andR (rdR (codec_ReadInt b o)) fun kd o=>andR (rdR (codec_ReadInt b o)) fun ja o=>andR (rdR (codec_ReadInt b o)) fun jb o=>andR (rdR (codec_ReadInt b o)) fun ax o=>andR (rdR (codec_ReadInt b o)) fun ay o=>andR (rdR (codec_ReadInt b o)) fun bx o=>andR (rdR (codec_ReadInt b o)) fun yb o=>andR (rdR (codec_ReadInt b o)) fun cx o=>andR (rdR (codec_ReadInt b o)) fun cy o=>andR (rdR (codec_ReadInt b o)) fun ra o=>andR (rdR (jac b o)) fun el o=>andR (rdR (codec_ReadInt b o)) fun lo o=>andR (rdR (codec_ReadInt b o)) fun up o=>andR (rdR (jac b o)) fun em o=>andR (rdR (codec_ReadInt b o)) fun ms o=>andR (rdR (codec_ReadInt b o)) fun mf o=>andR (rdR (codec_ReadInt b o)) fun so o=>andR (rdR (codec_ReadInt b o)) fun bf o=>andR (rdR (jac b o)) fun cc o=>andR (rdR (codec_ReadInt b o)) fun i0 o=>andR (rdR (codec_ReadInt b o)) fun i1 o=>andR (rdR (codec_ReadInt b o)) fun i2 o=>andR (rdR (codec_ReadInt b o)) fun i3 o=>some (.inr (({ ID:=id,Kind:=kd,BodyA:=ja,BodyB:=jb,AnchorA:={ X:=ax,Y:=ay },AnchorB:={ X:=bx,Y:=yb },Axis:={ X:=cx,Y:=cy },ReferenceAngle:=ra,EnableLimit:=el,Lower:=lo,Upper:=up,EnableMotor:=em,MotorSpeed:=ms,MaxForce:=mf,Softness:=so,BreakForce:=bf,CollideConnected:=cc,Impulses:=(i0,i1,i2,i3) }:Joint),o))) (Sim.bind (simI hb) fun id _=>Sim.bind (simI hb) fun kd _=>Sim.bind (simI hb) fun ja _=>Sim.bind (simI hb) fun jb _=>Sim.bind (simI hb) fun ax _=>Sim.bind (simI hb) fun ay _=>Sim.bind (simI hb) fun bx _=>Sim.bind (simI hb) fun yb _=>Sim.bind (simI hb) fun cx _=>Sim.bind (simI hb) fun cy _=>Sim.bind (simI hb) fun ra _=>Sim.bind (simB hb) fun el _=>Sim.bind (simI hb) fun lo _=>Sim.bind (simI hb) fun up _=>Sim.bind (simB hb) fun em _=>Sim.bind (simI hb) fun ms _=>Sim.bind (simI hb) fun mf _=>Sim.bind (simI hb) fun so _=>Sim.bind (simI hb) fun bf _=>Sim.bind (simB hb) fun cc _=>Sim.bind (simI hb) fun i0 _=>Sim.bind (simI hb) fun i1 _=>Sim.bind (simI hb) fun i2 _=>Sim.bind (simI hb) fun i3 _=>Sim.pure trivial) rjo (djo hb)
end GoForm
end

section
/- recording.Decode and the reference's agree. No conditions. -/
set_option linter.all false
set_option maxRecDepth 100000
open Go Go.Rx
open GoOld (jav jbO)
namespace GoForm
theorem h00:¬ ((0:Int) != 0)=true:=by decide
theorem h0n:¬ ((0:Int)≠0):=by simp
theorem hne {e:Int} (he:e≠0):(e != 0)=true:=by simpa using he
def Both {α:Type} (b:List UInt8) (Q:α→Prop) (A B:Option (α × Int × Int)):Prop:=
 (∃ x o',A=some (x,o',0)∧B=some (x,o',0)∧Q x∧o'≤(b.length:Int))∨(∃ e x1 o1 x2 o2,e≠0∧A=some (x1,o1,e)∧B=some (x2,o2,e))
theorem jaw {α β:Type} (x:α) (o c:Int) (k:α→Int→Int→Option β):andF (some (x,o,c)) k=k x o c:=rfl
theorem jhV {α:Type} {z:α} {rd:Int→Option (α × Int × Int)} {o o':Int} {x:α} (h:rd o=some (x,o',0)):fldR z rd o 0=some (x,o',0):=by
 unfold fldR;rw [if_neg (by simp),h];rfl
theorem jfU {α:Type} {z:α} {rd:Int→Option (α × Int × Int)} {o o' e:Int} {x:α} (h:rd o=some (x,o',e)) (he:e≠0):fldR z rd o 0=some (z,o,e):=by
 unfold fldR;rw [if_neg (by simp),h];show (if e≠0 then _ else _)=_;rw [if_pos he]
theorem jcO {α:Type} {z:α} {rd:Int→Option (α × Int × Int)} {o e:Int} (he:e≠0):fldR z rd o e=some (z,o,e):=by
 unfold fldR;rw [if_pos he]
theorem bothI {b:List UInt8} (hb:b.length≤100000) (o:Int):Both b (fun _=>True) (codec_ReadInt b o) (jaH b o):=by
 rw [cI hb,cI2 hb]
 by_cases h:(jbO b o).2.2=0
 ·exact .inl ⟨(jbO b o).1,(jbO b o).2.1,by rw [← h],by rw [← h],trivial,ji4 h⟩
 ·exact .inr ⟨_,_,_,_,_,h,rfl,rfl⟩
theorem bothV {b:List UInt8} (hb:b.length≤100000) (o:Int):Both b (fun _=>True) (jaf b o) (jbX b o):=by
  have e:jaf b o=jbX b o:=by
    unfold jaf jbX
    simp only [cI hb,cI2 hb]
  rw [← e]
  unfold jaf
  simp only [jax]
  rw [cI hb,jaq]
  by_cases h:(jbO b o).2.2=0
  · rw [if_neg (by rw [h];exact h00),cI hb,jaq]
    by_cases h2:(jbO b (jbO b o).2.1).2.2=0
    · rw [if_neg (by rw [h2];exact h00)]
      exact .inl ⟨_,_,rfl,rfl,trivial,ji4 h2⟩
    · rw [if_pos (hne h2)]
      exact .inr ⟨_,_,_,_,_,h2,rfl,rfl⟩
  · rw [if_pos (hne h)]
    exact .inr ⟨_,_,_,_,_,h,rfl,rfl⟩
theorem bothB {b:List UInt8} (hb:b.length≤100000) {o:Int} (ho:o≤(b.length:Int)):Both b OkBo (rdF exB (jd9 (codec_ReadInt b) (jaf b) (jac b) o)) (jca b o):=by
  unfold jca
  rcases (simBo hb).ok o ho with ⟨x,o',h1,h2,h3,h4⟩ | ⟨e,x,he,h1,h2,h3⟩
  · rw [h1,show ja0 { B:=b,Offset:=o,Err:=0 }=some (x,Rd b o') from h2,jaq,jax,if_neg (by show ¬ ((0:Int) != 0)=true;decide)]
    exact .inl ⟨x,o',rfl,rfl,h3,h4⟩
  · rw [h1,show ja0 { B:=b,Offset:=o,Err:=0 }=some (x,Er e) from h2,jaq,jax,if_pos (by show (e != 0)=true;simpa using he)]
    exact .inr ⟨e,_,_,_,_,he,rfl,rfl⟩
theorem bothJ {b:List UInt8} (hb:b.length≤100000) {o:Int} (ho:o≤(b.length:Int)):Both b (fun _=>True) (rdF exJ (jc0 (codec_ReadInt b) (jaf b) (jac b) o)) (jb3 b o):=by
  unfold jb3
  rcases (simJo hb).ok o ho with ⟨x,o',h1,h2,h3,h4⟩ | ⟨e,x,he,h1,h2,h3⟩
  · rw [h1,show jaY { B:=b,Offset:=o,Err:=0 }=some (x,Rd b o') from h2,jaq,jax,if_neg (by show ¬ ((0:Int) != 0)=true;decide)]
    exact .inl ⟨x,o',rfl,rfl,h3,h4⟩
  · rw [h1,show jaY { B:=b,Offset:=o,Err:=0 }=some (x,Er e) from h2,jaq,jax,if_pos (by show (e != 0)=true;simpa using he)]
    exact .inr ⟨e,_,_,_,_,he,rfl,rfl⟩
section
variable {b:List UInt8} (hb:b.length≤100000)
noncomputable abbrev inD (b:List UInt8):=rInR (codec_ReadInt b) (jaf b) (jac b)
noncomputable abbrev insD (b:List UInt8):=jmb (codec_ReadInt b) (jaf b) (jac b)
noncomputable abbrev frsD (b:List UInt8):=jhb (codec_ReadInt b) (jaf b) (jac b)
include hb
theorem joh (o:Int):Both b (fun n=>0≤n∧n≤8192) (jih (codec_ReadInt b) o 0) (jaR b o):=by
  unfold jih jaR
  rcases bothI hb o with ⟨n,o1,h1,h2,-,h3⟩ | ⟨e,x1,o1,x2,o2,he,h1,h2⟩
  · rw [jhV h1,jaw,h2,jaq]
    simp only [jax]
    rw [if_neg h00]
    by_cases h4:n<0
    · rw [if_pos h4,if_pos (decide_eq_true h4)]
      exact .inr ⟨3,_,_,_,_,by omega,rfl,rfl⟩
    · rw [if_neg h4,if_neg (show ¬ decide (n<0)=true by simpa using h4)]
      by_cases h5:8192<n
      · rw [if_pos h5,if_pos (decide_eq_true (show n>8192 from h5))]
        exact .inr ⟨5,_,_,_,_,by omega,rfl,rfl⟩
      · rw [if_neg h5,if_neg (show ¬ decide (n>8192)=true by simpa using h5),if_neg h0n]
        exact .inl ⟨n,o1,rfl,rfl,by omega,h3⟩
  · rw [jfU h1 he,jaw,h2,jaq]
    simp only [jax]
    rw [if_pos (hne he),if_neg (show ¬ (0:Int)<0 by omega),if_neg (show ¬ (8192:Int)<0 by omega),if_pos he]
    exact .inr ⟨e,_,_,_,_,he,rfl,rfl⟩
theorem bothIn {o:Int} (ho:o≤(b.length:Int)):Both b (fun x:Input=>OkBo x.Body) (inD b o 0) (jbd b o):=by
  unfold inD rInR jbd
  rcases bothI hb o with ⟨x1,o1,p1,r1,h1,g1⟩ | ⟨e,y1,z1,y2,z2,he,p1,r1⟩
  rotate_left
  · rw [r1,jaq,jax,if_pos (hne he),jfU p1 he,jaw,jcO he,jaw,jcO he,jaw,jcO he,jaw,jcO he,jaw,jcO he,jaw]
    exact .inr ⟨e,_,_,_,_,he,rfl,rfl⟩
  rw [r1,jaq,jax,if_neg h00,jhV p1,jaw]
  rcases bothI hb o1 with ⟨x2,o2,p2,r2,h2,g2⟩ | ⟨e,y1,z1,y2,z2,he,p2,r2⟩
  rotate_left
  · rw [r2,jaq,jax,if_pos (hne he),jfU p2 he,jaw,jcO he,jaw,jcO he,jaw,jcO he,jaw,jcO he,jaw]
    exact .inr ⟨e,_,_,_,_,he,rfl,rfl⟩
  rw [r2,jaq,jax,if_neg h00,jhV p2,jaw]
  rcases bothV hb o2 with ⟨x3,o3,p3,r3,h3,g3⟩ | ⟨e,y1,z1,y2,z2,he,p3,r3⟩
  rotate_left
  · rw [r3,jaq,jax,if_pos (hne he),jfU p3 he,jaw,jcO he,jaw,jcO he,jaw,jcO he,jaw]
    exact .inr ⟨e,_,_,_,_,he,rfl,rfl⟩
  rw [r3,jaq,jax,if_neg h00,jhV p3,jaw]
  rcases bothI hb o3 with ⟨x4,o4,p4,r4,h4,g4⟩ | ⟨e,y1,z1,y2,z2,he,p4,r4⟩
  rotate_left
  · rw [r4,jaq,jax,if_pos (hne he),jfU p4 he,jaw,jcO he,jaw,jcO he,jaw]
    exact .inr ⟨e,_,_,_,_,he,rfl,rfl⟩
  rw [r4,jaq,jax,if_neg h00,jhV p4,jaw]
  rcases bothB hb g4 with ⟨x5,o5,p5,r5,h5,g5⟩ | ⟨e,y1,z1,y2,z2,he,p5,r5⟩
  rotate_left
  · rw [r5,jaq,jax,if_pos (hne he),jfU p5 he,jaw,jcO he,jaw]
    exact .inr ⟨e,_,_,_,_,he,rfl,rfl⟩
  rw [r5,jaq,jax,if_neg h00,jhV p5,jaw]
  rcases bothJ hb g5 with ⟨x6,o6,p6,r6,h6,g6⟩ | ⟨e,y1,z1,y2,z2,he,p6,r6⟩
  rotate_left
  · rw [r6,jaq,jax,if_pos (hne he),jfU p6 he,jaw]
    exact .inr ⟨e,_,_,_,_,he,rfl,rfl⟩
  rw [r6,jaq,jax,if_neg h00,jhV p6,jaw]
  exact .inl ⟨_,o6,rfl,rfl,h5,g6⟩
omit hb in
theorem jnJ {k:Nat} {l:List Input} {o e:Int} (he:e≠0):insD b k l o e=some (l,o,e):=by
 cases k with
 | zero=>rfl
 | succ k=>show (if e≠0 then _ else _)=_;rw [if_pos he]
omit hb in
theorem jkL {k:Nat} {l:List (List Input)} {o e:Int} (he:e≠0):frsD b k l o e=some (l,o,e):=by
 cases k with
 | zero=>rfl
 | succ k=>show (if e≠0 then _ else _)=_;rw [if_pos he]
abbrev DR:=Option (List (List Input) × Int)
noncomputable def insS (b:List UInt8) (n:Int) (K:Int→List Input→DR) (rec:Int × List Input × Int→DR) (s:Int × List Input × Int):DR:=
 Let (decide (s.2.2<n)) fun x=>if x=true then Rx.Bind (jbd b s.1) fun r=>Let (r.2.2 != 0) fun y=>if y=true then some ([],r.2.2) else Chk ((List.length s.2.1+[r.1].length)*384≤140737488355328) (Let (s.2.1++[r.1]) fun l=>Let (IntKind.i64.wrap (s.2.2+1)) fun z=>rec (r.2.1,l,z)) else K s.1 s.2.1
theorem ins_go {n:Nat} (hn:n≤8192) (K:Int→List Input→DR):∀ (k i m:Nat) (l:List Input) (o:Int),i+k=n→k+1<m→l.length=i→(∀ x∈l,OkBo x.Body)→o≤(b.length:Int)→
    (∃ l' o',insD b k l o 0=some (l',o',0)∧LOOP (insS b (n:Int) K) m (o,l,(i:Int))=K o' l'∧l'.length≤8192∧(∀ x∈l',OkBo x.Body)∧o'≤(b.length:Int))∨
    (∃ e l' o',e≠0∧insD b k l o 0=some (l',o',e)∧LOOP (insS b (n:Int) K) m (o,l,(i:Int))=some ([],e))
  | 0,i,m+1,l,o,hi,_,hl,hq,ho=>by
    refine .inl ⟨l,o,rfl,?_,by omega,hq,ho⟩
    rw [jcE]
    show insS _ _ _ _ _=_
    unfold insS
    simp only [jax]
    rw [if_neg (by rw [decide_eq_false (by omega)];simp)]
  | k + 1,i,m+1,l,o,hi,hm,hl,hq,ho=>by
    have e0:insD b (k+1) l o 0=andF (inD b o 0) fun x o c=>insD b k (l++[x]) o c:=by
      show (if (0:Int)≠0 then _ else _)=_
      rw [if_neg h0n]
    have e1:LOOP (insS b (n:Int) K) (m+1) (o,l,(i:Int))=Rx.Bind (jbd b o) fun r=>if (r.2.2 != 0)=true then some ([],r.2.2) else LOOP (insS b (n:Int) K) m (r.2.1,l++[r.1],((i+1:Nat):Int)):=by
      rw [jcE]
      show insS _ _ _ _ _=_
      unfold insS
      simp only [jax]
      rw [if_pos (by rw [decide_eq_true (show (i:Int)<(n:Int) by omega)])]
      refine congrArg (Rx.Bind _) (funext fun r=>?_)
      rw [jaC (by show (l.length+1)*384≤_;omega),jg7 i (by omega)]
      rfl
    rw [e0,e1]
    rcases bothIn hb ho with ⟨x,o',h1,h2,h3,h4⟩ | ⟨e,x1,o1,x2,o2,he,h1,h2⟩
    · rw [h1,h2,jaw,jaq,if_neg h00]
      refine ins_go hn K k (i+1) m (l++[x]) o' (by omega) (by omega) (by simp [hl]) ?_ h4
      intro y hy
      rcases List.mem_append.1 hy with hy | hy
      · exact hq y hy
      · rw [List.mem_singleton.1 hy];exact h3
    · rw [h1,h2,jaw,jaq,if_pos (hne he),jnJ he]
      exact .inr ⟨e,_,_,he,rfl,rfl⟩
noncomputable def frsS (b:List UInt8) (n:Int) (K:Int→List (List Input)→DR) (rec:Int × List (List Input) × Int→DR) (s:Int × List (List Input) × Int):DR:=
 Let (decide (s.2.2<n)) fun x=>if x=true then Rx.Bind (jaR b s.1) fun r=>Let (r.2.2 != 0) fun y=>if y=true then some ([],r.2.2) else LOOP (insS b r.1 fun at1 fr=>Chk ((List.length s.2.1+[fr].length)*24≤140737488355328) (Let (s.2.1++[fr]) fun l=>Let (IntKind.i64.wrap (s.2.2+1)) fun z=>rec (at1,l,z))) fuel (r.2.1,[],(0:Int)) else K s.1 s.2.1
def OkFr (f:List Input):Prop:=f.length≤8192∧∀ x∈f,OkBo x.Body
theorem frs_go {n:Nat} (hn:n≤8192) (K:Int→List (List Input)→DR):∀ (k i m:Nat) (l:List (List Input)) (o:Int),i+k=n→k+1<m→l.length=i→(∀ f∈l,OkFr f)→o≤(b.length:Int)→
    (∃ l' o',frsD b k l o 0=some (l',o',0)∧LOOP (frsS b (n:Int) K) m (o,l,(i:Int))=K o' l'∧l'.length≤8192∧(∀ f∈l',OkFr f)∧o'≤(b.length:Int))∨
    (∃ e l' o',e≠0∧frsD b k l o 0=some (l',o',e)∧LOOP (frsS b (n:Int) K) m (o,l,(i:Int))=some ([],e))
  | 0,i,m+1,l,o,hi,_,hl,hq,ho=>by
    refine .inl ⟨l,o,rfl,?_,by omega,hq,ho⟩
    rw [jcE]
    show frsS _ _ _ _ _=_
    unfold frsS
    simp only [jax]
    rw [if_neg (by rw [decide_eq_false (by omega)];simp)]
  | k + 1,i,m+1,l,o,hi,hm,hl,hq,ho=>by
    have e0:frsD b (k+1) l o 0=andF (jih (codec_ReadInt b) o 0) fun n o c=>andF (insD b n.toNat [] o c) fun f o c=>frsD b k (l++[f]) o c:=by
      show (if (0:Int)≠0 then _ else _)=_
      rw [if_neg h0n]
    have e1:LOOP (frsS b (n:Int) K) (m+1) (o,l,(i:Int))=Rx.Bind (jaR b o) fun r=>if (r.2.2 != 0)=true then some ([],r.2.2) else LOOP (insS b r.1 fun at1 fr=>LOOP (frsS b (n:Int) K) m (at1,l++[fr],((i+1:Nat):Int))) fuel (r.2.1,[],(0:Int)):=by
      rw [jcE]
      show frsS _ _ _ _ _=_
      unfold frsS
      simp only [jax]
      rw [if_pos (by rw [decide_eq_true (show (i:Int)<(n:Int) by omega)])]
      have e2:∀ fr:List Input,(List.length l+[fr].length)*24≤140737488355328:=fun fr=>by show (l.length+1)*24≤_;omega
      simp only [jaC (e2 _),jg7 i (by omega)]
      rfl
    rw [e0,e1]
    rcases joh hb o with ⟨N,o',h1,h2,h3,h4⟩ | ⟨e,x1,o1,x2,o2,he,h1,h2⟩
    · rw [h1,h2,jaw,jaq,if_neg h00]
      obtain ⟨q,rfl⟩:∃ q:Nat,N=q:=⟨N.toNat,by omega⟩
      have hq0:((q:Int)).toNat=q:=by omega
      obtain ⟨mf,hmf⟩:∃ m,fuel=m+10000:=⟨2 ^ 70 - 10000,by unfold fuel;decide⟩
      rw [hq0]
      rcases ins_go hb (n:=q) (by omega) (fun at1 fr=>LOOP (frsS b (n:Int) K) m (at1,l++[fr],((i+1:Nat):Int))) q 0 fuel [] o' (by omega) (by rw [hmf];omega) rfl (by simp) h4 with ⟨f,o3,p1,p2,p3,p4,p5⟩ | ⟨e,f,o3,he,p1,p2⟩
      · rw [p1,jaw]
        have p2':=p2
        simp only [Int.natCast_zero] at p2'
        have ih:=frs_go hn K k (i+1) m (l++[f]) o3 (by omega) (by omega) (by simp [hl]) (by
          intro y hy
          rcases List.mem_append.1 hy with hy | hy
          · exact hq y hy
          · rw [List.mem_singleton.1 hy];exact ⟨p3,p4⟩) p5
        rw [show LOOP (insS b (q:Int) fun at1 fr=>LOOP (frsS b (n:Int) K) m (at1,l++[fr],((i+1:Nat):Int))) fuel (o',[],(0:Int))=_ from p2]
        exact ih
      · rw [p1,jaw,jkL he]
        exact .inr ⟨e,_,_,he,rfl,p2⟩
    · rw [h1,h2,jaw,jaq,if_pos (hne he),jnJ he,jaw,jkL he]
      exact .inr ⟨e,_,_,he,rfl,rfl⟩
end
noncomputable def jjK (c:List UInt8) (at1:Int) (out:List (List Input)):DR:=
 Let (List.length c:Int) fun n=>Let (at1 != n) fun x=>if x=true then some ([],3) else Rx.Bind (jbj out) fun r=>Let (r != 0) fun y=>if y=true then some ([],25) else some (out,0)
theorem refDec0 (b:List UInt8):jcC b=Rx.Bind (jcy b) fun c=>Let (c.2 != 0) fun x=>if x=true then some ([],c.2) else Rx.Bind (jaR c.1 0) fun r=>Let (r.2.2 != 0) fun y=>if y=true then some ([],r.2.2) else LOOP (frsS c.1 r.1 (jjK c.1)) fuel (r.2.1,[],(0:Int)):=by kernel_rfl
theorem okR_of {r:List (List Input)} (h:r.length≤8192) (hf:∀ f∈r,OkFr f):OkR r:=
 ⟨by omega,fun f hff=>⟨by have:=(hf f hff).1;omega,fun x hx=>⟨by have:=((hf f hff).2 x hx).1;omega,fun g hg=>by have:=((hf f hff).2 x hx).2 g hg;omega⟩⟩⟩
theorem jhJ:OkR []:=⟨by simp,by simp⟩
theorem decBoth {b:List UInt8} (hb:b.length≤100000):∃ q,jcJ b=some q∧jcC b=some q∧OkR q.1:=by
  rw [refDec0]
  show ∃ q,jdH jbu codec_ReadInt jaf jac jas b=some q∧_
  unfold jdH
  rw [progOpen hb,refOpen hb,jaq]
  have hp:(jkz b).1.length≤100000:=by
    unfold jkz
    split
    · simp
    · split
      · simp
      · show (b.take _).length≤_;rw [List.length_take];omega
  obtain ⟨p,c,hpc⟩:∃ p c,jkz b=(p,c):=⟨_,_,rfl⟩
  rw [hpc] at hp ⊢
  have hp:p.length≤100000:=hp
  simp only [jax]
  by_cases hc:c≠0
  · rw [if_pos hc,if_pos (by simpa using hc)]
    exact ⟨_,rfl,rfl,jhJ⟩
  · rw [if_neg hc,if_neg (by simpa using hc)]
    rcases joh hp 0 with ⟨N,o',h1,h2,h3,h4⟩ | ⟨e,x1,o1,x2,o2,he,h1,h2⟩
    · rw [h1,h2,jaw,jaq,if_neg h00]
      obtain ⟨q,rfl⟩:∃ q:Nat,N=q:=⟨N.toNat,by omega⟩
      have hq0:((q:Int)).toNat=q:=by omega
      obtain ⟨mf,hmf⟩:∃ m,fuel=m+10000:=⟨2 ^ 70 - 10000,by unfold fuel;decide⟩
      rw [hq0]
      rcases frs_go hp (n:=q) (by omega) (jjK p) q 0 fuel [] o' (by omega) (by rw [hmf];omega) rfl (by simp) h4 with ⟨r,o3,p1,p2,p3,p4,p5⟩ | ⟨e,f,o3,he,p1,p2⟩
      · rw [show jhb (codec_ReadInt p) (jaf p) (jac p) q [] o' 0=_ from p1,jaw,if_neg h0n,show LOOP (frsS p (q:Int) (jjK p)) fuel (o',[],(0:Int))=_ from p2]
        unfold jjK
        simp only [jax]
        by_cases ho:o3<(p.length:Int)
        · rw [if_pos ho,if_pos (by simp;omega)]
          exact ⟨_,rfl,rfl,jhJ⟩
        · rw [if_neg ho,if_neg (by simp;omega),jni,refVal,jaq]
          show ∃ q,(if rvl r≠0 then some ([],25) else some (r,0))=some q∧_
          by_cases hv:rvl r≠0
          · rw [if_pos hv,if_pos (by simpa using hv)]
            exact ⟨_,rfl,rfl,jhJ⟩
          · rw [if_neg hv,if_neg (by simpa using hv)]
            exact ⟨_,rfl,rfl,okR_of p3 p4⟩
      · rw [show jhb (codec_ReadInt p) (jaf p) (jac p) q [] o' 0=_ from p1,jaw,if_pos he,show LOOP (frsS p (q:Int) (jjK p)) fuel (o',[],(0:Int))=_ from p2]
        exact ⟨_,rfl,rfl,jhJ⟩
    · rw [h1,h2,jaw,jaq,if_pos (hne he),show jhb (codec_ReadInt p) (jaf p) (jac p) x1.toNat [] o1 e=_ from jkL he,jaw,if_pos he]
      exact ⟨_,rfl,rfl,jhJ⟩
end GoForm
end

section
/- The law RecordingBinary, in plain Lean. No conditions. -/
set_option linter.all false
set_option maxRecDepth 100000
open Go Go.Rx
open GoOld (jav jbO)
namespace GoForm
theorem jmv {r:List (List Input)} (h:SmR r):(jiE r).1.length≤cap9+4:=by
  have hc9:cap9=1000000000:=rfl
  have h1:∀ f∈r,(jim f).length≤86929:=fun f hf=>by
    obtain ⟨h40,hx⟩:=h.f f hf
    have q1:=jbg (jb6 (l:=f) (Nat.le_trans h40 (by decide)))
    have q2:=ja5 (E:=encI) (c:=2173) f (fun x hxx=>jjk (hx x hxx))
    unfold jim
    rw [List.length_append]
    omega
  have q0:=jbg (jb6 (l:=r) (Nat.le_trans h.l (by decide)))
  have q3:=ja5 (E:=jim) (c:=86929) r h1
  have hl:=h.l
  unfold jiE
  split
  · simp
  · show (jf6 (encR r)).length≤_
    rw [jmR]
    unfold encR
    rw [List.length_append]
    omega
theorem jk4 (r:List (List Input)) (b:List UInt8) (h:(∀ a∈r,((∀ b∈a,jjz b)∧(a).length≤9223372036854775807))∧(r).length≤9223372036854775807):jbh r b=some true:=by
  unfold jbh
  rw [smR_eq,jaq]
  simp only [jax]
  by_cases hc:smR r=true∧b.length≤4000
  · obtain ⟨h1,h2⟩:=hc
    have hs:=SmR.of h h1
    obtain ⟨q,p1,p2,p3⟩:=decBoth (b:=b) (by omega)
    rw [if_neg (by rw [h1,decide_eq_false (by omega)];decide),progEnc hs,refEnc hs,p1,p2,jaq,jaq,jaq,jaq,eqBy (jmv hs),jaq]
    simp only [decide_true,beq_self_eq_true,cond_true,if_true]
    rw [refEqR _ _ p3,eqR_r _ p3,jaq]
    simp only [cond_true,if_true,beq_self_eq_true]
    rw [jj5,jaq]
  · have:(bif !smR r then true else decide ((b.length:Int)>4000))=true:=by
      by_cases h1:smR r=true
      · rw [h1]
        exact decide_eq_true (by have:¬ b.length≤4000:=fun h2=>hc ⟨h1,h2⟩;omega)
      · have:smR r=false:=by simpa using h1
        rw [this];rfl
    rw [if_pos this]
    exact ex_bind
theorem caromlaw47_RecordingBinary_true (r:List (List Input)) (b:List UInt8) (h:(∀ a∈r,((∀ b∈a,jjz b)∧(a).length≤9223372036854775807))∧(r).length≤9223372036854775807) {P:Prop} (_:P):jbh r b=some true:=jk4 r b h
end GoForm
end
