/- Several texts in one. No conditions. -/
import Derived.Test.YtffgldbihpgjgaaGreatDoorGX
import Derived.Recover
import Derived.Tactics2
import Derived.Stop.IfaceNil
section
set_option linter.all false
set_option maxRecDepth 100000
open Go Go.Rx Go.Proofs Go.RowKit
namespace GoForm
set_option maxHeartbeats 16000000 in
theorem jeJ {m:Mem} {buf:List UInt8} {a:Option Addr} {n c:Nat} {bd:Nat} {off:Int} {W:World} {res:Int ⊕ (jn × Int)} (F:BF m buf a n c bd W) (hb:DB bd (.slice a n c) off W) (h:qi (jd buf) (jh buf) (jf buf) off=some res):
 Calls Tryz.prog 148 #[.pointer (some ⟨bd,0,none⟩)] W (PR YD m buf a n c bd W res):=by
 have e169:=Tryz.call169
 have e170:=Tryz.call170
 have e171:=Tryz.call171
 have hmf:∀ (fn:Fn) (first cap:Array Value) (w:World),(Instr.makeFunc fn first cap).run Tryz.prog w=.ok (.func fn first cap) w:=fun _ _ _ _=>rfl
 have HS:Hid (BS m m buf a n c bd W W.heap.size (W.heap.size+1) 75 [.int .i64 0,.int .i64 0,.int .i64 0,.int .i64 0,.int .i64 0,.int .i64 0,.int .i64 0,.int .i64 0,.int .i64 0,.int .i64 0,.int .i64 0,.bool false,.int .i64 0,.int .i64 0,.bool false,.int .i64 0,.int .i64 0,.int .i64 0,.int .i64 0,.bool false,.int .i64 0,.int .i64 0,.int .i64 0,.int .i64 0] [.int .i64 0,.int .i64 0,.int .i64 0,.int .i64 0,.int .i64 0,.int .i64 0,.int .i64 0,.int .i64 0,.int .i64 0,.int .i64 0,.int .i64 0,.bool false,.int .i64 0,.int .i64 0,.bool false,.int .i64 0,.int .i64 0,.int .i64 0,.int .i64 0,.bool false,.int .i64 0,.int .i64 0,.int .i64 0,.int .i64 0] (bxS a n c off) ((W.alloc (.cells ([.int .i64 0,.int .i64 0,.int .i64 0,.int .i64 0,.int .i64 0,.int .i64 0,.int .i64 0,.int .i64 0,.int .i64 0,.int .i64 0,.int .i64 0,.bool false,.int .i64 0,.int .i64 0,.bool false,.int .i64 0,.int .i64 0,.int .i64 0,.int .i64 0,.bool false,.int .i64 0,.int .i64 0,.int .i64 0,.int .i64 0]).toArray 75)).alloc (.cells ([.int .i64 0,.int .i64 0,.int .i64 0,.int .i64 0,.int .i64 0,.int .i64 0,.int .i64 0,.int .i64 0,.int .i64 0,.int .i64 0,.int .i64 0,.bool false,.int .i64 0,.int .i64 0,.bool false,.int .i64 0,.int .i64 0,.int .i64 0,.int .i64 0,.bool false,.int .i64 0,.int .i64 0,.int .i64 0,.int .i64 0]).toArray 75))):=BS.start F hb 75 [.int .i64 0,.int .i64 0,.int .i64 0,.int .i64 0,.int .i64 0,.int .i64 0,.int .i64 0,.int .i64 0,.int .i64 0,.int .i64 0,.int .i64 0,.bool false,.int .i64 0,.int .i64 0,.bool false,.int .i64 0,.int .i64 0,.int .i64 0,.int .i64 0,.bool false,.int .i64 0,.int .i64 0,.int .i64 0,.int .i64 0] [.int .i64 0,.int .i64 0,.int .i64 0,.int .i64 0,.int .i64 0,.int .i64 0,.int .i64 0,.int .i64 0,.int .i64 0,.int .i64 0,.int .i64 0,.bool false,.int .i64 0,.int .i64 0,.bool false,.int .i64 0,.int .i64 0,.int .i64 0,.int .i64 0,.bool false,.int .i64 0,.int .i64 0,.int .i64 0,.int .i64 0]
 unfold qi at h
 have HK:Hid (_=some res):=h
 have ra:tAg Tryz.prog 75=some true:=by kernel_rfl
 have rz:tSz Tryz.prog 75=some 24:=by kernel_rfl
 have HR:Hid (_/\_):=⟨ra,rz⟩
 clear ra rz F hb h
 go_enter Tryz.func148,Tryz.ntmps148
 go_wp2_with (first
  | (go_at_call 169;refine (dint HS.out.O.F HS.out.O.D HK.out).mono ?_;rintro e w2 (⟨cc,hr,rfl,hc,hg⟩ | ⟨x,o',hk,rfl,hD,hg⟩);exact ⟨rfl,Or.inl ⟨cc,hr,rfl,hc,Jb HS.out.O.G hg⟩⟩;have HT:Hid (BS m _ buf a n c bd W W.heap.size (W.heap.size+1) 75 [.int .i64 0,.int .i64 0,.int .i64 0,.int .i64 0,.int .i64 0,.int .i64 0,.int .i64 0,.int .i64 0,.int .i64 0,.int .i64 0,.int .i64 0,.bool false,.int .i64 0,.int .i64 0,.bool false,.int .i64 0,.int .i64 0,.int .i64 0,.int .i64 0,.bool false,.int .i64 0,.int .i64 0,.int .i64 0,.int .i64 0] _ (bxS a n c o') w2):=HS.out.Qh hD hg;have HL:Hid _:=hk;clear HS HK hD hg hk;have HS:=HT;have HK:=HL;clear HT HL)
  | (go_at_call 170;refine (dvec HS.out.O.F HS.out.O.D HK.out).mono ?_;rintro e w2 (⟨cc,hr,rfl,hc,hg⟩ | ⟨x,o',hk,rfl,hD,hg⟩);exact ⟨rfl,Or.inl ⟨cc,hr,rfl,hc,Jb HS.out.O.G hg⟩⟩;have HT:Hid (BS m _ buf a n c bd W W.heap.size (W.heap.size+1) 75 [.int .i64 0,.int .i64 0,.int .i64 0,.int .i64 0,.int .i64 0,.int .i64 0,.int .i64 0,.int .i64 0,.int .i64 0,.int .i64 0,.int .i64 0,.bool false,.int .i64 0,.int .i64 0,.bool false,.int .i64 0,.int .i64 0,.int .i64 0,.int .i64 0,.bool false,.int .i64 0,.int .i64 0,.int .i64 0,.int .i64 0] _ (bxS a n c o') w2):=HS.out.Qh hD hg;have HL:Hid _:=hk;clear HS HK hD hg hk;have HS:=HT;have HK:=HL;clear HT HL)
  | (go_at_call 171;refine (jdR HS.out.O.F HS.out.O.D HK.out).mono ?_;rintro e w2 (⟨cc,hr,rfl,hc,hg⟩ | ⟨x,o',hk,rfl,hD,hg⟩);exact ⟨rfl,Or.inl ⟨cc,hr,rfl,hc,Jb HS.out.O.G hg⟩⟩;have HT:Hid (BS m _ buf a n c bd W W.heap.size (W.heap.size+1) 75 [.int .i64 0,.int .i64 0,.int .i64 0,.int .i64 0,.int .i64 0,.int .i64 0,.int .i64 0,.int .i64 0,.int .i64 0,.int .i64 0,.int .i64 0,.bool false,.int .i64 0,.int .i64 0,.bool false,.int .i64 0,.int .i64 0,.int .i64 0,.int .i64 0,.bool false,.int .i64 0,.int .i64 0,.int .i64 0,.int .i64 0] _ (bxS a n c o') w2):=HS.out.Qh hD hg;have HL:Hid _:=hk;clear HS HK hD hg hk;have HS:=HT;have HK:=HL;clear HT HL)
  | (refine JE rfl rfl rfl rfl rfl rfl (by kernel_rfl) HS.out.X (Nat.le_of_ble_eq_true rfl) rfl ?_;intro w2 hX hg;simp only [List.set_cons_succ,List.set_cons_zero] at hX;have HT:Hid (BS m _ buf a n c bd W W.heap.size (W.heap.size+1) 75 [.int .i64 0,.int .i64 0,.int .i64 0,.int .i64 0,.int .i64 0,.int .i64 0,.int .i64 0,.int .i64 0,.int .i64 0,.int .i64 0,.int .i64 0,.bool false,.int .i64 0,.int .i64 0,.bool false,.int .i64 0,.int .i64 0,.int .i64 0,.int .i64 0,.bool false,.int .i64 0,.int .i64 0,.int .i64 0,.int .i64 0] _ _ w2):=HS.out.store hX hg;clear HS hX hg;have HS:=HT;clear HT)
  | (refine qP rfl rfl rfl rfl rfl (by kernel_rfl) HS.out.X (Nat.le_of_ble_eq_true rfl) rfl rfl ?_;intro w2 hX hg;simp only [List.set_cons_succ,List.set_cons_zero] at hX;have HT:Hid (BS m _ buf a n c bd W W.heap.size (W.heap.size+1) 75 [.int .i64 0,.int .i64 0,.int .i64 0,.int .i64 0,.int .i64 0,.int .i64 0,.int .i64 0,.int .i64 0,.int .i64 0,.int .i64 0,.int .i64 0,.bool false,.int .i64 0,.int .i64 0,.bool false,.int .i64 0,.int .i64 0,.int .i64 0,.int .i64 0,.bool false,.int .i64 0,.int .i64 0,.int .i64 0,.int .i64 0] _ _ w2):=HS.out.store hX hg;clear HS hX hg;have HS:=HT;clear HT))
 refine wp_loop_rounds 5 ?_
 iterate 4 (rw [rounds_succ];go_wp2_with (first
  | (go_at_call 169;refine (dint HS.out.O.F HS.out.O.D HK.out).mono ?_;rintro e w2 (⟨cc,hr,rfl,hc,hg⟩ | ⟨x,o',hk,rfl,hD,hg⟩);exact ⟨rfl,Or.inl ⟨cc,hr,rfl,hc,Jb HS.out.O.G hg⟩⟩;have HT:Hid (BS m _ buf a n c bd W W.heap.size (W.heap.size+1) 75 [.int .i64 0,.int .i64 0,.int .i64 0,.int .i64 0,.int .i64 0,.int .i64 0,.int .i64 0,.int .i64 0,.int .i64 0,.int .i64 0,.int .i64 0,.bool false,.int .i64 0,.int .i64 0,.bool false,.int .i64 0,.int .i64 0,.int .i64 0,.int .i64 0,.bool false,.int .i64 0,.int .i64 0,.int .i64 0,.int .i64 0] _ (bxS a n c o') w2):=HS.out.Qh hD hg;have HL:Hid _:=hk;clear HS HK hD hg hk;have HS:=HT;have HK:=HL;clear HT HL)
  | (go_at_call 170;refine (dvec HS.out.O.F HS.out.O.D HK.out).mono ?_;rintro e w2 (⟨cc,hr,rfl,hc,hg⟩ | ⟨x,o',hk,rfl,hD,hg⟩);exact ⟨rfl,Or.inl ⟨cc,hr,rfl,hc,Jb HS.out.O.G hg⟩⟩;have HT:Hid (BS m _ buf a n c bd W W.heap.size (W.heap.size+1) 75 [.int .i64 0,.int .i64 0,.int .i64 0,.int .i64 0,.int .i64 0,.int .i64 0,.int .i64 0,.int .i64 0,.int .i64 0,.int .i64 0,.int .i64 0,.bool false,.int .i64 0,.int .i64 0,.bool false,.int .i64 0,.int .i64 0,.int .i64 0,.int .i64 0,.bool false,.int .i64 0,.int .i64 0,.int .i64 0,.int .i64 0] _ (bxS a n c o') w2):=HS.out.Qh hD hg;have HL:Hid _:=hk;clear HS HK hD hg hk;have HS:=HT;have HK:=HL;clear HT HL)
  | (go_at_call 171;refine (jdR HS.out.O.F HS.out.O.D HK.out).mono ?_;rintro e w2 (⟨cc,hr,rfl,hc,hg⟩ | ⟨x,o',hk,rfl,hD,hg⟩);exact ⟨rfl,Or.inl ⟨cc,hr,rfl,hc,Jb HS.out.O.G hg⟩⟩;have HT:Hid (BS m _ buf a n c bd W W.heap.size (W.heap.size+1) 75 [.int .i64 0,.int .i64 0,.int .i64 0,.int .i64 0,.int .i64 0,.int .i64 0,.int .i64 0,.int .i64 0,.int .i64 0,.int .i64 0,.int .i64 0,.bool false,.int .i64 0,.int .i64 0,.bool false,.int .i64 0,.int .i64 0,.int .i64 0,.int .i64 0,.bool false,.int .i64 0,.int .i64 0,.int .i64 0,.int .i64 0] _ (bxS a n c o') w2):=HS.out.Qh hD hg;have HL:Hid _:=hk;clear HS HK hD hg hk;have HS:=HT;have HK:=HL;clear HT HL)
  | (refine JE rfl rfl rfl rfl rfl rfl (by kernel_rfl) HS.out.X (Nat.le_of_ble_eq_true rfl) rfl ?_;intro w2 hX hg;simp only [List.set_cons_succ,List.set_cons_zero] at hX;have HT:Hid (BS m _ buf a n c bd W W.heap.size (W.heap.size+1) 75 [.int .i64 0,.int .i64 0,.int .i64 0,.int .i64 0,.int .i64 0,.int .i64 0,.int .i64 0,.int .i64 0,.int .i64 0,.int .i64 0,.int .i64 0,.bool false,.int .i64 0,.int .i64 0,.bool false,.int .i64 0,.int .i64 0,.int .i64 0,.int .i64 0,.bool false,.int .i64 0,.int .i64 0,.int .i64 0,.int .i64 0] _ _ w2):=HS.out.store hX hg;clear HS hX hg;have HS:=HT;clear HT)
  | (refine qP rfl rfl rfl rfl rfl (by kernel_rfl) HS.out.X (Nat.le_of_ble_eq_true rfl) rfl rfl ?_;intro w2 hX hg;simp only [List.set_cons_succ,List.set_cons_zero] at hX;have HT:Hid (BS m _ buf a n c bd W W.heap.size (W.heap.size+1) 75 [.int .i64 0,.int .i64 0,.int .i64 0,.int .i64 0,.int .i64 0,.int .i64 0,.int .i64 0,.int .i64 0,.int .i64 0,.int .i64 0,.int .i64 0,.bool false,.int .i64 0,.int .i64 0,.bool false,.int .i64 0,.int .i64 0,.int .i64 0,.int .i64 0,.bool false,.int .i64 0,.int .i64 0,.int .i64 0,.int .i64 0] _ _ w2):=HS.out.store hX hg;clear HS hX hg;have HS:=HT;clear HT)))
 rw [rounds_succ]
 go_wp2_with (first
  | (refine Jo HS.out.X rfl rfl rfl rfl HR.out.1 HR.out.2 rfl ?_)
  | (refine YY HS.out.X HS.out.K rfl rfl rfl rfl rfl HR.out.2 rfl rfl (qx rfl) ?_;intro w2 hX hg;have HF:Hid (_/\_):=⟨hX,HS.out.fin hg⟩;clear hX hg))
 have r0:Tryz.f148.results=#[.cell 2 75]:=rfl
 have hk:=HK.out
 cases hk
 refine bodyPost_ret (yr HF.out.1 r0 rfl HR.out.1 HR.out.2 rfl) rfl ?_
 refine Or.inr ⟨_,_,_,_,rfl,rfl,?_,HF.out.2⟩
 exact .agg (l:=_) (Ke [_,_,_,_,_,_,_,_,_,_,_,_,_,_,_,_,_,_,_,_,_,_,_,_]) (qx rfl)
set_option maxHeartbeats 400000 in
theorem VC (p:Addr) (w:World):
 CallsD Tryz.prog 168 #[.pointer (some p)] .returning w fun e u' w'=>e=.returned (.tuple #[])/\u'=.returning/\w'=w:=by
 refine callsD_of_wpS Tryz.func168 rfl fun c₀ cs hu=>?_
 apply wpS_seq
 apply wpS_region
 simp [wpOpsS,go_sem,recoverD,hu,Tryz.ntmps168,Exit.thenS]
 apply wpS_seq
 apply wpS_seq
 apply wpS_region
 simp [wpOpsS,go_sem,recoverD,hu,Exit.thenS]
 refine wpS_cond (t:=true) (by simp [Act.eval,Array.replicate]) ?_
 simp only [if_true]
 refine wpS_of_wp (wp_ret ?_)
 cases c₀
 simp_all [bodyPostS,Exit.thenS,results,Tryz.results168]
theorem closeB (p q r:Addr) (w:World) (hc:w.cell? p=some (.int .i64 0)):
 CallsD Tryz.prog 167 #[.pointer (some p),.pointer (some q),.pointer (some r)] .returning w fun e u' w'=>u'=.returning/\(e=.returned (.tuple #[])/\w'=w):=by
 go_enter_d Tryz.func167,Tryz.ntmps167
 go_wp2
 go_end0
 exact ⟨rfl,rfl⟩
theorem closeJ (p q r:Addr) (w:World) (hc:w.cell? p=some (.int .i64 0)):
 CallsD Tryz.prog 174 #[.pointer (some p),.pointer (some q),.pointer (some r)] .returning w fun e u' w'=>u'=.returning/\(e=.returned (.tuple #[])/\w'=w):=by
 go_enter_d Tryz.func174,Tryz.ntmps174
 go_wp2
 go_end0
 exact ⟨rfl,rfl⟩
theorem tm168 (p x:Value):#[p]++((Array.replicate 19 undef).setIfInBounds 4 x).setIfInBounds 1 x=#[p,undef,x,undef,undef,x,undef,undef,undef,undef,undef,undef,undef,undef,undef,undef,undef,undef,undef,undef]:=by simp [Array.replicate,List.replicate]
def mdR (e:Int):FrameMode:=.panicking [{ v:=.iface 275 (.agg #[.int .i64 e]),recovered:=true }]
set_option maxHeartbeats 400000 in
theorem KV (ec old:Int) (b:Nat) (w:World) (hb:w.heap[b]? = some (.cells #[.int .i64 old] 27 (0,0))):
 CallsD Tryz.prog 168 #[.pointer (some ⟨b,0,none⟩)] (.panicking (deP ec)) w fun e u' w'=>e=.returned (.tuple #[])/\u'=mdR ec/\w'.heap[b]? = some (.cells #[.int .i64 ec] 27 (0,0))/\w.grownBy w' (some b):=by
 refine callsD_of_wpS Tryz.func168 rfl fun c₀ cs hu=>?_
 have hu:c₀.mode=.panicking [{ v:=.iface 275 (.agg #[.int .i64 ec]),recovered:=false }]:=hu
 have hta:∀ (v:Value) (w:World),(Instr.typeAssert (.iface 275 v) 20 275 true).run Tryz.prog w=.ok (.tuple #[v,.bool true]) w:=fun v w=>by simp [Instr.typeAssert,ji Tryz.underlying275]
 have hif:Tryz.prog.isIface 20=true:=by kernel_rfl
 apply wpS_seq
 apply wpS_region
 simp [wpOpsS,go_sem,recoverD,hu,Tryz.ntmps168,Exit.thenS]
 refine wpS_of_wp ?_
 rw [tm168]
 obtain ⟨Q0,hQ⟩:∃ Q0,Q0=bodyPostS Tryz.prog Tryz.f168 c₀ cs fun e u' w'=>e=.returned (.tuple #[])/\u'=mdR ec/\w'.heap[b]? = some (.cells #[.int .i64 ec] 27 (0,0))/\w.grownBy w' (some b):=⟨_,rfl⟩
 rw [<- hQ]
 have hlt:b<w.heap.size:=(Array.getElem?_eq_some_iff.1 hb).1
 have hb1:(w.alloc (.cells #[.int .i64 ec] 275)).heap[b]? = some (.cells #[.int .i64 old] 27 (0,0)):=(jU w _ b hlt).trans hb
 have c1:(w.alloc (.cells #[.int .i64 ec] 275)).cell? ⟨b,0,none⟩=some (.int .i64 old):=jD hb1 0 rfl
 have z1:=qp hb1 0
 have g1:w.grownBy (w.setCell ⟨b,0,none⟩ (.int .i64 ec)) (some b):=⟨rfl,rfl,rfl,by rw [size_set];exact Nat.le_refl _,fun k _ hk=>heap_set _ _ _ _ (fun e=>hk (by rw [e]))⟩
 have HG:Hid (Q0=_/\((w.setCell ⟨b,0,none⟩ (.int .i64 ec)).alloc (.cells #[.int .i64 ec] 275)).heap[b]? = some (.cells #[.int .i64 ec] 27 (0,0))/\w.grownBy ((w.setCell ⟨b,0,none⟩ (.int .i64 ec)).alloc (.cells #[.int .i64 ec] 275)) (some b)):=
  ⟨hQ,(jU _ _ b (by rw [size_set];exact hlt)).trans (wv hb 0 (.int .i64 ec) _ rfl),Jb g1 (yN ((Below.refl _ _).alloc (Nat.le_refl _) _))⟩
 clear hQ hb hb1 g1
 clear hu
 go_wp2
 have hq:=HG.out.1
 subst hq
 exact ⟨rfl,mdR ec,rfl,.tuple #[],by simp [results,Tryz.results168],rfl,rfl,HG.out.2⟩
set_option maxHeartbeats 4000000 in
theorem Mp {p q r:Nat} {e y:Int} {X:List Value} {B:Nat} {w:World} (he:e≠0) (hp:w.heap[p]? = some (.cells #[.int .i64 e] 27 (0,0))) (hq:w.heap[q]? = some (.cells X.toArray 71 (0,0))) (hr:w.heap[r]? = some (.cells #[.int .i64 y] 3 (0,0))) (hX:X.length=20)
 (hB:B<=w.heap.size/\B<=q/\B<=r/\p≠q/\p≠r/\q≠r):
 CallsD Tryz.prog 167 #[.pointer (some ⟨p,0,none⟩),.pointer (some ⟨q,0,none⟩),.pointer (some ⟨r,0,none⟩)] .returning w fun en u' w'=>u'=.returning/\(en=.returned (.tuple #[])/\w'.heap[q]? = some (.cells ([.int .i64 0,.int .i64 0,.int .i64 0,.int .i64 0,.int .i64 0,.int .i64 0,.int .i64 0,.int .i64 0,.int .i64 0,.int .i64 0,.int .i64 0,.int .i64 0,.int .i64 0,.int .i64 0,.bool false,.bool false,.bool false,.bool false,.int .i64 0,.slice none 0 0]).toArray 71 (0,0))/\w'.heap[r]? = some (.cells #[.int .i64 0] 3 (0,0))/\w'.heap[p]? = some (.cells #[.int .i64 e] 27 (0,0))/\Below B w w'):=by
 have hlp:p<w.heap.size:=(Array.getElem?_eq_some_iff.1 hp).1
 have hlq:q<w.heap.size:=(Array.getElem?_eq_some_iff.1 hq).1
 have hlr:r<w.heap.size:=(Array.getElem?_eq_some_iff.1 hr).1
 have c0:w.cell? ⟨p,0,none⟩=some (.int .i64 e):=jD hp 0 rfl
 have hB1:(e != 0)=true:=by rw [bne_iff_ne];exact he
 have ra:tAg Tryz.prog 71=some true:=by kernel_rfl
 have rz:tSz Tryz.prog 71=some 20:=by kernel_rfl
 have HR:Hid (_/\_):=⟨ra,rz⟩
 obtain ⟨V,hV⟩:∃ V,V=(w.alloc (.cells ([.int .i64 0,.int .i64 0,.int .i64 0,.int .i64 0,.int .i64 0,.int .i64 0,.int .i64 0,.int .i64 0,.int .i64 0,.int .i64 0,.int .i64 0,.int .i64 0,.int .i64 0,.int .i64 0,.bool false,.bool false,.bool false,.bool false,.int .i64 0,.slice none 0 0]).toArray 71)):=⟨_,rfl⟩
 have HA:Hid (V.heap[w.heap.size]? = some (.cells ([.int .i64 0,.int .i64 0,.int .i64 0,.int .i64 0,.int .i64 0,.int .i64 0,.int .i64 0,.int .i64 0,.int .i64 0,.int .i64 0,.int .i64 0,.int .i64 0,.int .i64 0,.int .i64 0,.bool false,.bool false,.bool false,.bool false,.int .i64 0,.slice none 0 0]).toArray 71 (0,0))/\V.heap[p]? = some (.cells #[.int .i64 e] 27 (0,0))/\V.heap[q]? = some (.cells X.toArray 71 (0,0))/\V.heap[r]? = some (.cells [Value.int .i64 y].toArray 3 (0,0))/\Below B w V/\V.heap.size=w.heap.size+1):=
  ⟨by rw [hV];exact Jh _ _ _ rfl,by rw [hV];exact (jU _ _ _ hlp).trans hp,by rw [hV];exact (jU _ _ _ hlq).trans hq,by rw [hV];exact (jU _ _ _ hlr).trans hr,by rw [hV];exact (Below.refl _ _).alloc hB.1 _,by rw [hV];simp⟩
 have HV:Hid (V=(w.alloc (.cells ([.int .i64 0,.int .i64 0,.int .i64 0,.int .i64 0,.int .i64 0,.int .i64 0,.int .i64 0,.int .i64 0,.int .i64 0,.int .i64 0,.int .i64 0,.int .i64 0,.int .i64 0,.int .i64 0,.bool false,.bool false,.bool false,.bool false,.int .i64 0,.slice none 0 0]).toArray 71))):=hV
 have HL:Hid (_/\_/\_/\_/\_):=⟨hlp,hlq,hlr,hX,hB⟩
 clear hp hq hr ra rz hlp hlq hlr hX hB hV
 go_enter_d Tryz.func167,Tryz.ntmps167
 go_upto_region 2 with fail
 have eV:(w.alloc (.cells ([.int .i64 0,.int .i64 0,.int .i64 0,.int .i64 0,.int .i64 0,.int .i64 0,.int .i64 0,.int .i64 0,.int .i64 0,.int .i64 0,.int .i64 0,.int .i64 0,.int .i64 0,.int .i64 0,.bool false,.bool false,.bool false,.bool false,.int .i64 0,.slice none 0 0]).toArray 71))=V:=HV.out.symm
 rw [eV]
 clear eV
 go_wp2_with (first
  | (refine Jo HA.out.1 rfl rfl rfl rfl HR.out.1 HR.out.2 rfl ?_)
  | (apply YY HA.out.1 HA.out.2.2.1 rfl rfl rfl
     ·rfl
     ·rfl
     ·exact HR.out.2
     ·rfl
     ·exact HL.out.2.2.2.1
     ·exact qx rfl
     intro w2 h2 g2
     have HC:Hid (w2.heap[p]? = some (.cells #[.int .i64 e] 27 (0,0))/\w2.heap[q]? = some (.cells ([.int .i64 0,.int .i64 0,.int .i64 0,.int .i64 0,.int .i64 0,.int .i64 0,.int .i64 0,.int .i64 0,.int .i64 0,.int .i64 0,.int .i64 0,.int .i64 0,.int .i64 0,.int .i64 0,.bool false,.bool false,.bool false,.bool false,.int .i64 0,.slice none 0 0]).toArray 71 (0,0))/\w2.heap[r]? = some (.cells [Value.int .i64 y].toArray 3 (0,0))/\Below B w w2/\w.heap.size+1<=w2.heap.size):=by
      obtain ⟨y1,y2,y3,y4,y5,y6,y7,y8,y9,y10⟩:=HL.out
      have hs:=g2.size
      have hz:=HA.out.2.2.2.2.2
      refine ⟨(g2.block _ (by omega) (fun e=>y8 (Option.some.inj e))).trans HA.out.2.1,h2,(g2.block _ (by omega) (fun e=>y10 (Option.some.inj e).symm)).trans HA.out.2.2.2.1,HA.out.2.2.2.2.1.grown g2 (by omega) (fun k e=>by have:=Option.some.inj e;omega),by omega⟩
     clear h2 g2 HA)
  | (refine JE rfl rfl rfl rfl rfl rfl (by kernel_rfl) HC.out.2.2.1 (Nat.le_of_ble_eq_true rfl) rfl ?_
     intro w3 h3 g3
     have HD:Hid (w3.heap[p]? = some (.cells #[.int .i64 e] 27 (0,0))/\w3.heap[q]? = some (.cells ([.int .i64 0,.int .i64 0,.int .i64 0,.int .i64 0,.int .i64 0,.int .i64 0,.int .i64 0,.int .i64 0,.int .i64 0,.int .i64 0,.int .i64 0,.int .i64 0,.int .i64 0,.int .i64 0,.bool false,.bool false,.bool false,.bool false,.int .i64 0,.slice none 0 0]).toArray 71 (0,0))/\w3.heap[r]? = some (.cells #[.int .i64 0] 3 (0,0))/\Below B w w3):=by
      obtain ⟨y1,y2,y3,y4,y5,y6,y7,y8,y9,y10⟩:=HL.out
      obtain ⟨z1,z2,z3,z4,z5⟩:=HC.out
      exact ⟨(g3.block _ (by omega) (fun e=>y9 (Option.some.inj e))).trans z1,(g3.block _ (by omega) (fun e=>y10 (Option.some.inj e))).trans z2,h3,z4.grown g3 (by omega) (fun k e=>by have:=Option.some.inj e;omega)⟩
     clear h3 g3))
 go_end0
 exact ⟨rfl,HD.out.2.1,HD.out.2.2.1,HD.out.1,HD.out.2.2.2⟩
set_option maxHeartbeats 4000000 in
theorem Mo {p q r:Nat} {e y:Int} {X:List Value} {B:Nat} {w:World} (he:e≠0) (hp:w.heap[p]? = some (.cells #[.int .i64 e] 27 (0,0))) (hq:w.heap[q]? = some (.cells X.toArray 75 (0,0))) (hr:w.heap[r]? = some (.cells #[.int .i64 y] 3 (0,0))) (hX:X.length=24)
 (hB:B<=w.heap.size/\B<=q/\B<=r/\p≠q/\p≠r/\q≠r):
 CallsD Tryz.prog 174 #[.pointer (some ⟨p,0,none⟩),.pointer (some ⟨q,0,none⟩),.pointer (some ⟨r,0,none⟩)] .returning w fun en u' w'=>u'=.returning/\(en=.returned (.tuple #[])/\w'.heap[q]? = some (.cells ([.int .i64 0,.int .i64 0,.int .i64 0,.int .i64 0,.int .i64 0,.int .i64 0,.int .i64 0,.int .i64 0,.int .i64 0,.int .i64 0,.int .i64 0,.bool false,.int .i64 0,.int .i64 0,.bool false,.int .i64 0,.int .i64 0,.int .i64 0,.int .i64 0,.bool false,.int .i64 0,.int .i64 0,.int .i64 0,.int .i64 0]).toArray 75 (0,0))/\w'.heap[r]? = some (.cells #[.int .i64 0] 3 (0,0))/\w'.heap[p]? = some (.cells #[.int .i64 e] 27 (0,0))/\Below B w w'):=by
 have hlp:p<w.heap.size:=(Array.getElem?_eq_some_iff.1 hp).1
 have hlq:q<w.heap.size:=(Array.getElem?_eq_some_iff.1 hq).1
 have hlr:r<w.heap.size:=(Array.getElem?_eq_some_iff.1 hr).1
 have c0:w.cell? ⟨p,0,none⟩=some (.int .i64 e):=jD hp 0 rfl
 have hB1:(e != 0)=true:=by rw [bne_iff_ne];exact he
 have ra:tAg Tryz.prog 75=some true:=by kernel_rfl
 have rz:tSz Tryz.prog 75=some 24:=by kernel_rfl
 have HR:Hid (_/\_):=⟨ra,rz⟩
 obtain ⟨V,hV⟩:∃ V,V=(w.alloc (.cells ([.int .i64 0,.int .i64 0,.int .i64 0,.int .i64 0,.int .i64 0,.int .i64 0,.int .i64 0,.int .i64 0,.int .i64 0,.int .i64 0,.int .i64 0,.bool false,.int .i64 0,.int .i64 0,.bool false,.int .i64 0,.int .i64 0,.int .i64 0,.int .i64 0,.bool false,.int .i64 0,.int .i64 0,.int .i64 0,.int .i64 0]).toArray 75)):=⟨_,rfl⟩
 have HA:Hid (V.heap[w.heap.size]? = some (.cells ([.int .i64 0,.int .i64 0,.int .i64 0,.int .i64 0,.int .i64 0,.int .i64 0,.int .i64 0,.int .i64 0,.int .i64 0,.int .i64 0,.int .i64 0,.bool false,.int .i64 0,.int .i64 0,.bool false,.int .i64 0,.int .i64 0,.int .i64 0,.int .i64 0,.bool false,.int .i64 0,.int .i64 0,.int .i64 0,.int .i64 0]).toArray 75 (0,0))/\V.heap[p]? = some (.cells #[.int .i64 e] 27 (0,0))/\V.heap[q]? = some (.cells X.toArray 75 (0,0))/\V.heap[r]? = some (.cells [Value.int .i64 y].toArray 3 (0,0))/\Below B w V/\V.heap.size=w.heap.size+1):=
  ⟨by rw [hV];exact Jh _ _ _ rfl,by rw [hV];exact (jU _ _ _ hlp).trans hp,by rw [hV];exact (jU _ _ _ hlq).trans hq,by rw [hV];exact (jU _ _ _ hlr).trans hr,by rw [hV];exact (Below.refl _ _).alloc hB.1 _,by rw [hV];simp⟩
 have HV:Hid (V=(w.alloc (.cells ([.int .i64 0,.int .i64 0,.int .i64 0,.int .i64 0,.int .i64 0,.int .i64 0,.int .i64 0,.int .i64 0,.int .i64 0,.int .i64 0,.int .i64 0,.bool false,.int .i64 0,.int .i64 0,.bool false,.int .i64 0,.int .i64 0,.int .i64 0,.int .i64 0,.bool false,.int .i64 0,.int .i64 0,.int .i64 0,.int .i64 0]).toArray 75))):=hV
 have HL:Hid (_/\_/\_/\_/\_):=⟨hlp,hlq,hlr,hX,hB⟩
 clear hp hq hr ra rz hlp hlq hlr hX hB hV
 go_enter_d Tryz.func174,Tryz.ntmps174
 go_upto_region 2 with fail
 have eV:(w.alloc (.cells ([.int .i64 0,.int .i64 0,.int .i64 0,.int .i64 0,.int .i64 0,.int .i64 0,.int .i64 0,.int .i64 0,.int .i64 0,.int .i64 0,.int .i64 0,.bool false,.int .i64 0,.int .i64 0,.bool false,.int .i64 0,.int .i64 0,.int .i64 0,.int .i64 0,.bool false,.int .i64 0,.int .i64 0,.int .i64 0,.int .i64 0]).toArray 75))=V:=HV.out.symm
 rw [eV]
 clear eV
 go_wp2_with (first
  | (refine Jo HA.out.1 rfl rfl rfl rfl HR.out.1 HR.out.2 rfl ?_)
  | (apply YY HA.out.1 HA.out.2.2.1 rfl rfl rfl
     ·rfl
     ·rfl
     ·exact HR.out.2
     ·rfl
     ·exact HL.out.2.2.2.1
     ·exact qx rfl
     intro w2 h2 g2
     have HC:Hid (w2.heap[p]? = some (.cells #[.int .i64 e] 27 (0,0))/\w2.heap[q]? = some (.cells ([.int .i64 0,.int .i64 0,.int .i64 0,.int .i64 0,.int .i64 0,.int .i64 0,.int .i64 0,.int .i64 0,.int .i64 0,.int .i64 0,.int .i64 0,.bool false,.int .i64 0,.int .i64 0,.bool false,.int .i64 0,.int .i64 0,.int .i64 0,.int .i64 0,.bool false,.int .i64 0,.int .i64 0,.int .i64 0,.int .i64 0]).toArray 75 (0,0))/\w2.heap[r]? = some (.cells [Value.int .i64 y].toArray 3 (0,0))/\Below B w w2/\w.heap.size+1<=w2.heap.size):=by
      obtain ⟨y1,y2,y3,y4,y5,y6,y7,y8,y9,y10⟩:=HL.out
      have hs:=g2.size
      have hz:=HA.out.2.2.2.2.2
      refine ⟨(g2.block _ (by omega) (fun e=>y8 (Option.some.inj e))).trans HA.out.2.1,h2,(g2.block _ (by omega) (fun e=>y10 (Option.some.inj e).symm)).trans HA.out.2.2.2.1,HA.out.2.2.2.2.1.grown g2 (by omega) (fun k e=>by have:=Option.some.inj e;omega),by omega⟩
     clear h2 g2 HA)
  | (refine JE rfl rfl rfl rfl rfl rfl (by kernel_rfl) HC.out.2.2.1 (Nat.le_of_ble_eq_true rfl) rfl ?_
     intro w3 h3 g3
     have HD:Hid (w3.heap[p]? = some (.cells #[.int .i64 e] 27 (0,0))/\w3.heap[q]? = some (.cells ([.int .i64 0,.int .i64 0,.int .i64 0,.int .i64 0,.int .i64 0,.int .i64 0,.int .i64 0,.int .i64 0,.int .i64 0,.int .i64 0,.int .i64 0,.bool false,.int .i64 0,.int .i64 0,.bool false,.int .i64 0,.int .i64 0,.int .i64 0,.int .i64 0,.bool false,.int .i64 0,.int .i64 0,.int .i64 0,.int .i64 0]).toArray 75 (0,0))/\w3.heap[r]? = some (.cells #[.int .i64 0] 3 (0,0))/\Below B w w3):=by
      obtain ⟨y1,y2,y3,y4,y5,y6,y7,y8,y9,y10⟩:=HL.out
      obtain ⟨z1,z2,z3,z4,z5⟩:=HC.out
      exact ⟨(g3.block _ (by omega) (fun e=>y9 (Option.some.inj e))).trans z1,(g3.block _ (by omega) (fun e=>y10 (Option.some.inj e))).trans z2,h3,z4.grown g3 (by omega) (fun k e=>by have:=Option.some.inj e;omega)⟩
     clear h3 g3))
 go_end0
 exact ⟨rfl,HD.out.2.1,HD.out.2.2.1,HD.out.1,HD.out.2.2.2⟩
structure TJ (n:Nat) (st:Nat->Bool) (ds:Nat->Nat) (val:Nat->Value) (J:(Nat->Bool)->World->Prop) (a0:Act) (f:Nat->Bool) (a:Act) (w:World):Prop where
 sz:a.tmps.size=a0.tmps.size
 df:a.defers=a0.defers
 Jp:∀ i,i<n->st i=false->f i=true->a.tmps[ds i]? = some (val i)
 rest:∀ j,(∀ i,i<n->st i=false->ds i≠j)->a.tmps[j]? = a0.tmps[j]?
 j:J f w
theorem ZT {P:Program} {id:Nat} {Q:Exit->Act->World->Prop} {ops:Array Oper} {a0:Act} {w:World} (hm:P.follows .mixedOrders=true)
 (n:Nat) (st:Nat->Bool) (ds:Nat->Nat) (val:Nat->Value) (J:(Nat->Bool)->World->Prop) (hn:ops.size=n)
 (hback:∀ (i:Nat) (o:Oper),ops[i]? = some o->∀ e∈o.after,Region.binds .any e=true->e.on<i)
 (hJ:J (fun _=>false) w.drew)
 (hp:∀ i o,i<n->st i=false->ops[i]? = some o->o.guard=none/\o.dst=some (ds i)/\ds i<a0.tmps.size/\∀ a f w',J f w'->(∀ e∈o.after,Region.binds .any e=true->st e.on=false->a.tmps[ds e.on]? = some (val e.on))->
   (∀ j,(∀ i,i<n->st i=false->ds i≠j)->a.tmps[j]? = a0.tmps[j]?)->o.quietAt P a (fun w''=>w''=w') w' (val i)/\J (fun j=>if j=i then true else f j) w')
 (hinj:∀ i i',i<n->st i=false->i'<n->st i'=false->ds i=ds i'->i=i')
 (hs:∀ i o,i<n->st i=true->ops[i]? = some o->o.guard=none/\o.dst=none/\∀ a f w',J f w'->f i=false->(∀ e∈o.after,Region.binds .any e=true->f e.on=true)->(∀ e∈o.after,Region.binds .any e=true->st e.on=false->a.tmps[ds e.on]? = some (val e.on))->
   (∀ j,(∀ i,i<n->st i=false->ds i≠j)->a.tmps[j]? = a0.tmps[j]?)->∀ (K:Act->World->Prop),(∀ w'',J (fun j=>if j=i then true else f j) w''->K (a.put o.dst undef) w'')->o.wp P a w' K Q)
 (hq:∀ a w',J (fun _=>true) w'->a.defers=a0.defers->a.tmps.size=a0.tmps.size->(∀ i,i<n->st i=false->a.tmps[ds i]? = some (val i))->(∀ j,(∀ i,i<n->st i=false->ds i≠j)->a.tmps[j]? = a0.tmps[j]?)->Q .normal a w')
 (hext:∀ f w',(∀ i,i<n->f i=true)->J f w'->J (fun _=>true) w'):(Code.region id ops true).wp P Q a0 w:=by
 refine QU hm (fun f a w'=>TJ n st ds val J a0 f a w') hback ⟨rfl,rfl,by simp,fun _ _=>rfl,hJ⟩ ?_ ?_
 ·rintro f a w1 i o S ho hf hdep
  have hi:i<n:=by rw [<- hn];exact (Array.getElem?_eq_some_iff.1 ho).1
  have hdv:∀ e∈o.after,Region.binds .any e=true->st e.on=false->a.tmps[ds e.on]? = some (val e.on):=fun e he hb h=>by
   have hlt:=hback i o ho e he hb
   exact S.Jp e.on (by omega) h (hdep e he hb)
  cases hst:st i with
  | true=>
    obtain ⟨q2,q4,q6⟩:=hs i o hi hst ho
    refine ze ho q2 (q6 a f w1 S.j hf hdep hdv S.rest _ fun w2 hj=>?_)
    rw [q4]
    refine ⟨S.sz,S.df,fun k hk h1 h=>?_,S.rest,hj⟩
    rw [if_neg (fun e=>by subst e;rw [hst] at h1;cases h1)] at h
    exact S.Jp k hk h1 h
  | false=>
    obtain ⟨q2,q4,q5,q6⟩:=hp i o hi hst ho
    obtain ⟨hQ,hj⟩:=q6 a f w1 S.j hdv S.rest
    refine ze ho q2 ?_
    have key:TJ n st ds val J a0 (fun j=>if j=i then true else f j) (a.put (some (ds i)) (val i)) w1:=by
     refine ⟨VD.trans S.sz,S.df,fun k hk h1 h=>?_,fun j h1=>(qG (fun e=>h1 i hi hst e.symm)).trans (S.rest j h1),hj⟩
     by_cases ek:k=i
     ·subst ek;exact put_eq (by rw [S.sz];exact q5)
     ·rw [if_neg ek] at h
      rw [qG (fun e=>ek (hinj k i hk h1 hi hst e))]
      exact S.Jp k hk h1 h
    rw [<- q4] at key
    unfold Oper.quietAt at hQ
    unfold Oper.wp
    generalize (execOp a.eval o).run P w1=r at hQ ⊢
    cases r with
    | ok nx w'=>
      cases nx <;> simp only [Oper.quietUpon] at hQ <;> simp only [Oper.upon]
      case value u=>
       obtain ⟨e1,e2⟩:=hQ
       subst e1;subst e2
       exact key
      case skip=>
       obtain ⟨e1,e2⟩:=hQ
       subst e1
       rw [<- e2]
       exact key
      case enter f args=>
       obtain ⟨e1,hc⟩:=hQ
       subst e1
       exact hc.mono fun e w'' ⟨he,hw''⟩=>by subst he;rw [hw''];exact key
    | halt x w'=>simp only [Oper.quietUpon] at hQ
 ·rintro f a w1 S hall
  rw [hn] at hall
  exact hq a w1 (hext f w1 hall S.j) S.df S.sz (fun i hi h=>S.Jp i hi h (hall i hi)) S.rest
theorem results3 {P:Program} {fn:Func} {t1 t2 t3:Tmp} {ty T2 T3:TypeId} {b1 b2 b3:Nat} {cs:List Value} {T:TypeId} {v2 v3:Value} {w:World} {tmps:Array Value} (h:fn.results=#[.cell t1 ty,.cell t2 T2,.cell t3 T3])
 (h1:tmps.getD t1 undef=.pointer (some ⟨b1,0,none⟩)) (h2:tmps.getD t2 undef=.pointer (some ⟨b2,0,none⟩)) (h3:tmps.getD t3 undef=.pointer (some ⟨b3,0,none⟩)) (ha:tAg P ty=some true) (hs:tSz P ty=some cs.length) (a2:tAg P T2=some false) (a3:tAg P T3=some false)
 (hb:w.heap[b1]? = some (.cells cs.toArray T (0,0))) (hb2:w.cell? ⟨b2,0,none⟩=some v2) (hb3:w.cell? ⟨b3,0,none⟩=some v3):
 (results fn tmps).run P w=.ok (.tuple #[.agg cs.toArray,v2,v3]) w:=by
 have l1:=Jw (P:=P) (ty:=ty) (w:=w) (b:=b1) (o:=0) (cs:=cs) ha hs (fun j v e=>by rw [Nat.zero_add];exact jD hb j (by simpa using e))
 have l2:=yS (P:=P) (ty:=T2) (w:=w) (a:=⟨b2,0,none⟩) (v:=v2) a2 hb2
 have l3:=yS (P:=P) (ty:=T3) (w:=w) (a:=⟨b3,0,none⟩) (v:=v3) a3 hb3
 have h1:tmps[t1]?.getD undef=.pointer (some ⟨b1,0,none⟩):=by simpa using h1
 have h2:tmps[t2]?.getD undef=.pointer (some ⟨b2,0,none⟩):=by simpa using h2
 have h3:tmps[t3]?.getD undef=.pointer (some ⟨b3,0,none⟩):=by simpa using h3
 simp [results,h,h1,h2,h3,l1,l2,l3,asAddr]
def dsA:Nat->Nat
 | 0=>18
 | 1=>19
 | 2=>20
 | 3=>21
 | 4=>22
 | _=>0
def jcv (z:Value) (bd:Nat) (off:Int):Nat->Value
 | 0=>z
 | 1=>.pointer (some ⟨bd,0,none⟩)
 | 2=>.pointer (some ⟨bd,0,none⟩)
 | 3=>.pointer (some ⟨bd,1,none⟩)
 | 4=>.int .i64 off
 | _=>undef
theorem injA:∀ i i',i<8->(i==5||i==6||i==7)=false->i'<8->(i'==5||i'==6||i'==7)=false->dsA i=dsA i'->i=i':=by
 intro i j hi h1 hj h2 e
 have h3:i<5:=by simp at h1;omega
 have h4:j<5:=by simp at h2;omega
 match i,j,h3,h4 with
 | 0,0,_,_ | 1,1,_,_ | 2,2,_,_ | 3,3,_,_ | 4,4,_,_=>rfl
 | 0,1,_,_ | 0,2,_,_ | 0,3,_,_ | 0,4,_,_ | 1,0,_,_ | 1,2,_,_ | 1,3,_,_ | 1,4,_,_ | 2,0,_,_ | 2,1,_,_ | 2,3,_,_ | 2,4,_,_ | 3,0,_,_ | 3,1,_,_ | 3,2,_,_ | 3,4,_,_ | 4,0,_,_ | 4,1,_,_ | 4,2,_,_ | 4,3,_,_=>simp [dsA] at e
theorem memA:∀ i,i<8->(i==5||i==6||i==7)=false->dsA i∈[18,19,20,21,22]:=by
 intro i hi h1
 have h3:i<5:=by simp at h1;omega
 match i,h3 with
 | 0,_ | 1,_ | 2,_ | 3,_ | 4,_=>simp [dsA]
structure JA (B:Nat) (Z:List Value) (T:TypeId) (hdr:Value) (off:Int) (W:World) (M:Mem) (f:Nat->Bool) (w:World):Prop where
 bel:Below W.heap.size W w
 bB:W.heap.size<=B
 b0:w.heap[B]? = some (.cells Z.toArray T (0,0))
 bd:w.heap[B+1+1+1]? = some (.cells #[hdr,.int .i64 off] 258 (0,0))
 b1:∃ x,w.heap[B+1]? = some (.cells [Value.int .i64 x].toArray 3 (0,0))/\(f 6=true->x=off)
 b2:w.heap[B+1+1]? = some (.cells [Value.int .i64 0].toArray 27 (0,0))
 lt:B+1+1+1<w.heap.size
 im:Imm M w
 no:∀ g,B<=g->g<=B+1+1->∀ o,M g o=none
theorem JA.nx0 {B Z T hdr off W M f w} (h:JA B Z T hdr off W M f w) {i:Nat} (hi:i≠6):JA B Z T hdr off W M (fun j=>if j=i then true else f j) w:=
 ⟨h.bel,h.bB,h.b0,h.bd,by
   obtain ⟨x,h1,h2⟩:=h.b1
   exact ⟨x,h1,fun e=>h2 (by rw [if_neg (fun e=>hi e.symm)] at e;exact e)⟩,h.b2,h.lt,h.im,h.no⟩
theorem JA.st0 {B Z T hdr off W M f w} (h:JA B Z T hdr off W M f w) {w2:World} (h2:w2.heap[B]? = some (.cells Z.toArray T (0,0))) (g:w.grownBy w2 (some B)) {i:Nat} (hi:i≠6):JA B Z T hdr off W M (fun j=>if j=i then true else f j) w2:=by
 have:=h.lt
 have:=g.size
 obtain ⟨x,h1,h3⟩:=h.b1
 refine ⟨h.bel.grown g h.bel.size (fun k e=>by have:=Option.some.inj e;have:=h.bB;omega),h.bB,h2,?_,⟨x,?_,fun e=>h3 (by rw [if_neg (fun e=>hi e.symm)] at e;exact e)⟩,?_,by omega,yG h.im g (h.no _ (by omega) (by omega)),h.no⟩
 ·rw [g.block _ (by omega) (fun e=>by have:=Option.some.inj e;omega)];exact h.bd
 ·rw [g.block _ (by omega) (fun e=>by have:=Option.some.inj e;omega)];exact h1
 ·rw [g.block _ (by omega) (fun e=>by have:=Option.some.inj e;omega)];exact h.b2
theorem JA.st1 {B Z T hdr off W M f w} (h:JA B Z T hdr off W M f w) {w2:World} (h2:w2.heap[B+1]? = some (.cells [Value.int .i64 off].toArray 3 (0,0))) (g:w.grownBy w2 (some (B+1))):JA B Z T hdr off W M (fun j=>if j=6 then true else f j) w2:=by
 have:=h.lt
 have:=g.size
 refine ⟨h.bel.grown g h.bel.size (fun k e=>by have:=Option.some.inj e;have:=h.bB;omega),h.bB,?_,?_,⟨off,h2,fun _=>rfl⟩,?_,by omega,yG h.im g (h.no _ (by omega) (by omega)),h.no⟩
 ·rw [g.block _ (by omega) (fun e=>by have:=Option.some.inj e;omega)];exact h.b0
 ·rw [g.block _ (by omega) (fun e=>by have:=Option.some.inj e;omega)];exact h.bd
 ·rw [g.block _ (by omega) (fun e=>by have:=Option.some.inj e;omega)];exact h.b2
theorem JA.st2 {B Z T hdr off W M f w} (h:JA B Z T hdr off W M f w) {w2:World} (h2:w2.heap[B+1+1]? = some (.cells [Value.int .i64 0].toArray 27 (0,0))) (g:w.grownBy w2 (some (B+1+1))):JA B Z T hdr off W M (fun j=>if j=7 then true else f j) w2:=by
 have:=h.lt
 have:=g.size
 obtain ⟨x,h1,h3⟩:=h.b1
 refine ⟨h.bel.grown g h.bel.size (fun k e=>by have:=Option.some.inj e;have:=h.bB;omega),h.bB,?_,?_,⟨x,?_,fun e=>h3 (by rw [if_neg (by decide)] at e;exact e)⟩,h2,by omega,yG h.im g (h.no _ (by omega) (by omega)),h.no⟩
 ·rw [g.block _ (by omega) (fun e=>by have:=Option.some.inj e;omega)];exact h.b0
 ·rw [g.block _ (by omega) (fun e=>by have:=Option.some.inj e;omega)];exact h.bd
 ·rw [g.block _ (by omega) (fun e=>by have:=Option.some.inj e;omega)];exact h1
theorem JA.start {Z T hdr off M} {W w:World} (h1:DB (W.heap.size+1+1+1) hdr off w) (h2:Below W.heap.size W w) (h3:W.heap.size+1+1+1<w.heap.size) (h4:w.heap[W.heap.size]? = some (.cells Z.toArray T (0,0)))
 (h5:w.heap[W.heap.size+1]? = some (.cells #[.int .i64 0] 3 (0,0))) (h6:w.heap[W.heap.size+1+1]? = some (.cells #[.int .i64 0] 27 (0,0))) (h7:Imm M w) (h8:∀ g,W.heap.size<=g->g<=W.heap.size+1+1->∀ o,M g o=none):JA W.heap.size Z T hdr off W M (fun _=>false) w.drew:=
 ⟨h2.drew,Nat.le_refl _,h4,h1,⟨0,h5,by simp⟩,h6,h3,h7,h8⟩
theorem KZ {P:Program} {o:Oper} {Q:Exit->Act->World->Prop} {K:Act->World->Prop} {a:Act} {w:World} {ty:TypeId} {t z:Operand} {b:Nat} {v old:Value} {T:TypeId} (e:o.op=.store ty t z) (ht:a.eval t=.pointer (some ⟨b,0,none⟩)) (hz:a.eval z=v) (hv:v.cells=#[v]) (hs:tSz P ty=some 1)
 (hb:w.heap[b]? = some (.cells [old].toArray T (0,0))) (h1:v.oneCell'=true)
 (hk:∀ w',w'.heap[b]? = some (.cells [v].toArray T (0,0))->w.grownBy w' (some b)->K (a.put o.dst undef) w'):o.wp P a w K Q:=by
 have hst:=run_storeCells_at P b 0 T [v] 0 [old].toArray w hb (by simp) (by simpa using h1)
 simp only [Nat.add_zero,Nat.zero_add,List.take_zero,List.nil_append,List.length_cons,List.length_nil,List.drop_succ_cons,List.drop_nil,List.append_nil] at hst
 have r2:(execOp a.eval o).run P w=.ok .skip (w.setRow b [v].toArray):=by
  have hst:Sem.run P (storeCells ⟨b,0,none⟩ [v]) w=Result.ok () (w.setRow b [v].toArray):=hst
  simp [execOp,e,ht,hz,Instr.storeAt,Instr.sureAddr,storeVar,jr hs,hv,hst]
 unfold Oper.wp
 rw [r2]
 exact hk _ (setRow_heap w b [old].toArray [v].toArray T (0,0) hb) ⟨rfl,rfl,rfl,by simp,fun k _ hk=>setRow_other w b k _ (fun e=>hk (by rw [e]))⟩
theorem Jd {P:Program} {ops:Array Oper} {rest:List Oper} {Q:Exit->Act->World->Prop} {o:Oper} {a:Act} {w:World} {ty:TypeId} {t z:Operand} {b k:Nat} (cs:List Value) {arr:List Value} {T:TypeId} (hb:w.heap[b]? = some (.cells arr.toArray T (0,0)))
 (g:o.guard=none) (e:o.op=.store ty t z) (hd:o.dst=none) (ht:a.eval t=.pointer (some ⟨b,0,none⟩)) (hz:a.eval z=.agg cs.toArray) (hs:tSz P ty=some k) (hk:cs.length=k) (hk2:arr.length=k) (h1:∀ c∈cs,c.oneCell'=true)
 (h:∀ w',w'.heap[b]? = some (.cells cs.toArray T (0,0))->w.grownBy w' (some b)->wpList P ops Q rest a w'):wpList P ops Q (o::rest) a w:=
 jL g e hd ht hz (hs.trans (by rw [hk])) hb (by omega) h1 fun w' hw hg=>h w' (by rw [hw,List.drop_eq_nil_of_le (by omega)];simp) hg
set_option maxHeartbeats 4000000 in
theorem atB_ok {m:Mem} {buf:List UInt8} {a:Option Addr} {n c:Nat} {off o':Int} {x:Body} {W:World} (hi:Imm m W) (hr:Rep m je (jW buf) (.slice a n c)) (hd:QD (jd buf) (jh buf) (jf buf) off=some (.inr (x,o'))):
 Calls Tryz.prog 145 #[.slice a n c,.int .i64 off,.func (.func 146) #[] #[]] W fun e W'=>∃ v M,e=.returned (.tuple #[v,.int .i64 o',.int .i64 0])/\Rep M je (Qk x) v/\Imm M W'/\Mem.le m M/\JG m M W.heap.size/\Below W.heap.size W W':=by
 have HW:∀ V:World,V=(((W.alloc (.cells ([.int .i64 0,.int .i64 0,.int .i64 0,.int .i64 0,.int .i64 0,.int .i64 0,.int .i64 0,.int .i64 0,.int .i64 0,.int .i64 0,.int .i64 0,.int .i64 0,.int .i64 0,.int .i64 0,.bool false,.bool false,.bool false,.bool false,.int .i64 0,.slice none 0 0]).toArray 71)).alloc (.cells #[.int .i64 0] 3)).alloc (.cells #[.int .i64 0] 27)).alloc (.cells #[.slice a n c,.int .i64 off] 258)->
  Hid (BF m buf a n c (W.heap.size+1+1+1) V/\DB (W.heap.size+1+1+1) (.slice a n c) off V/\V.heap[W.heap.size]? = some (.cells ([.int .i64 0,.int .i64 0,.int .i64 0,.int .i64 0,.int .i64 0,.int .i64 0,.int .i64 0,.int .i64 0,.int .i64 0,.int .i64 0,.int .i64 0,.int .i64 0,.int .i64 0,.int .i64 0,.bool false,.bool false,.bool false,.bool false,.int .i64 0,.slice none 0 0]).toArray 71 (0,0))/\V.heap[W.heap.size+1]? = some (.cells #[.int .i64 0] 3 (0,0))/\V.heap[W.heap.size+1+1]? = some (.cells #[.int .i64 0] 27 (0,0))/\Below W.heap.size W V/\V.heap.size=W.heap.size+1+1+1+1):=by
  rintro V rfl
  have hb:Below W.heap.size W ((((W.alloc (.cells ([.int .i64 0,.int .i64 0,.int .i64 0,.int .i64 0,.int .i64 0,.int .i64 0,.int .i64 0,.int .i64 0,.int .i64 0,.int .i64 0,.int .i64 0,.int .i64 0,.int .i64 0,.int .i64 0,.bool false,.bool false,.bool false,.bool false,.int .i64 0,.slice none 0 0]).toArray 71)).alloc (.cells #[.int .i64 0] 3)).alloc (.cells #[.int .i64 0] 27)).alloc (.cells #[.slice a n c,.int .i64 off] 258)):=((((Below.refl _ _).alloc (Nat.le_refl _) _).alloc (by simp) _).alloc (by simp;omega) _).alloc (by simp;omega) _
  refine ⟨⟨hi.below hb,hr,yi hi (by omega),by simp⟩,Jh _ _ _ (by simp),?_,?_,?_,hb,by simp⟩
  ·rw [jU _ _ _ (by simp;omega),jU _ _ _ (by simp;omega),jU _ _ _ (by simp),Jh _ _ _ rfl]
  ·rw [jU _ _ _ (by simp),jU _ _ _ (by simp),Jh _ _ _ (by simp)]
  ·rw [jU _ _ _ (by simp),Jh _ _ _ (by simp)]
 have eD:=Tryz.call146
 have ra:tAg Tryz.prog 71=some true:=by kernel_rfl
 have rz:tSz Tryz.prog 71=some 20:=by kernel_rfl
 have zz:=Tryz.sizeOf71
 have za:=Tryz.isAgg71
 have HR:Hid (_/\_):=⟨ra,rz⟩
 have hmf:∀ (fn:Fn) (first cap:Array Value) (w:World),(Instr.makeFunc fn first cap).run Tryz.prog w=.ok (.func fn first cap) w:=fun _ _ _ _=>rfl
 have hdd:Hid (QD (jd buf) (jh buf) (jf buf) off=some (.inr (x,o'))):=hd
 have hi0:Hid (Imm m W):=hi
 clear ra rz hi hr hd
 go_enter_defers Tryz.func145,Tryz.ntmps145
 go_upto_region 5 with (first
  | (go_at_call 146
     have HV:=HW _ rfl
     clear HW
     refine (dbody HV.out.1 HV.out.2.1 hdd.out).mono ?_
     rintro e w2 (⟨cc,hr,-⟩ | ⟨x1,o1,v1,M,hr,rfl,hR,hO⟩)
     cases hr
     cases hr
     obtain ⟨Xs,rfl,hR1,hR2⟩:=Qn (l:=(Qk x).cells) hR
     have hXl:Xs.length=20:=hR1.length.symm
     have HX:Hid (DB (W.heap.size+1+1+1) (.slice a n c) o' w2/\Below W.heap.size W w2/\W.heap.size+1+1+1<w2.heap.size/\w2.heap[W.heap.size]? = some (.cells ([.int .i64 0,.int .i64 0,.int .i64 0,.int .i64 0,.int .i64 0,.int .i64 0,.int .i64 0,.int .i64 0,.int .i64 0,.int .i64 0,.int .i64 0,.int .i64 0,.int .i64 0,.int .i64 0,.bool false,.bool false,.bool false,.bool false,.int .i64 0,.slice none 0 0]).toArray 71 (0,0))/\w2.heap[W.heap.size+1]? = some (.cells #[.int .i64 0] 3 (0,0))/\w2.heap[W.heap.size+1+1]? = some (.cells #[.int .i64 0] 27 (0,0))/\Imm M w2/\(∀ g,W.heap.size<=g->g<=W.heap.size+1+1->∀ o,M g o=none)/\Mem.le m M/\JG m M W.heap.size/\Rep M je (Qk x) (.agg Xs.toArray)/\Xs.length=20/\(∀ c∈Xs,jA c=true)):=by
      obtain ⟨-,-,y1,y2,y3,y4,y5⟩:=HV.out
      have hg:=hO.G
      have:=hg.size
      refine ⟨hO.D,y4.grown hg (by omega) (fun k e=>by have:=Option.some.inj e;omega),by omega,?_,?_,?_,hO.F.imm,fun g h1 h2=>hO.nw.none (by omega) (yi hi0.out h1),hO.le,fun b o u e=>(hO.nw b o u e).imp id (fun h=>by omega),hR,hXl,hR2⟩
      ·rw [hg.block _ (by omega) (fun e=>by have:=Option.some.inj e;omega)];exact y1
      ·rw [hg.block _ (by omega) (fun e=>by have:=Option.some.inj e;omega)];exact y2
      ·rw [hg.block _ (by omega) (fun e=>by have:=Option.some.inj e;omega)];exact y3
     clear hO hR hR1 hR2 HV)
  | (apply Jd Xs HX.out.2.2.2.1 rfl rfl rfl
     ·rfl
     ·rfl
     ·exact HR.out.2
     ·exact hXl
     ·rfl
     ·exact HX.out.2.2.2.2.2.2.2.2.2.2.2.2
     intro w3 hX3 hg3
     have HY:Hid (DB (W.heap.size+1+1+1) (.slice a n c) o' w3/\Below W.heap.size W w3/\W.heap.size+1+1+1<w3.heap.size/\w3.heap[W.heap.size]? = some (.cells Xs.toArray 71 (0,0))/\w3.heap[W.heap.size+1]? = some (.cells #[.int .i64 0] 3 (0,0))/\w3.heap[W.heap.size+1+1]? = some (.cells #[.int .i64 0] 27 (0,0))/\Imm M w3/\(∀ g,W.heap.size<=g->g<=W.heap.size+1+1->∀ o,M g o=none)/\Mem.le m M/\JG m M W.heap.size/\Rep M je (Qk x) (.agg Xs.toArray)/\Xs.length=20/\(∀ c∈Xs,jA c=true)):=by
      obtain ⟨y1,y2,y3,y4,y5,y6,y7,y8,y9⟩:=HX.out
      have:=hg3.size
      refine ⟨?_,y2.grown hg3 (by omega) (fun k e=>by have:=Option.some.inj e;omega),by omega,hX3,?_,?_,yG y7 hg3 (y8 _ (Nat.le_refl _) (by omega)),y8,y9⟩
      ·exact (hg3.block _ (by omega) (fun e=>by have:=Option.some.inj e;omega)).trans y1
      ·rw [hg3.block _ (by omega) (fun e=>by have:=Option.some.inj e;omega)];exact y5
      ·rw [hg3.block _ (by omega) (fun e=>by have:=Option.some.inj e;omega)];exact y6
     clear hX3 hg3))
 have HX2:Hid (tSz Tryz.prog 71=some Xs.length):=by rw [hXl];exact HR.out.2
 refine ZT qT 8 (fun i=>i==5||i==6||i==7) dsA (jcv (.agg Xs.toArray) (W.heap.size+1+1+1) o') (JA (W.heap.size) Xs 71 (.slice a n c) o' W M) rfl ?_ ?_ ?_ (injA) ?_ ?_ ?_
 ·intro i o ho
  match i with
  | 0=>cases ho;simp [Region.binds]
  | 1=>cases ho;simp [Region.binds]
  | 2=>cases ho;simp [Region.binds]
  | 3=>cases ho;simp [Region.binds]
  | 4=>cases ho;simp [Region.binds]
  | 5=>cases ho;simp [Region.binds]
  | 6=>cases ho;simp [Region.binds]
  | 7=>cases ho;simp [Region.binds]
  | j+8=>simp at ho
 ·exact JA.start HY.out.1 HY.out.2.1 HY.out.2.2.1 HY.out.2.2.2.1 HY.out.2.2.2.2.1 HY.out.2.2.2.2.2.1 HY.out.2.2.2.2.2.2.1 HY.out.2.2.2.2.2.2.2.1
 ·intro i op hi hst ho
  match i,hi,hst with
  | 0,_,_=>
    cases ho
    refine ⟨rfl,rfl,by simp [dsA],fun ac f w' hj hd hr=>?_⟩
    have r6:ac.tmps[6]? = some (.pointer (some ⟨W.heap.size,0,none⟩)):=(hr 6 (by decide)).trans rfl
    refine ⟨KX ?_,hj.nx0 (by decide)⟩
    have hld:=Jw (P:=Tryz.prog) (ty:=71) (w:=w') (b:=W.heap.size) (o:=0) (cs:=Xs) HR.out.1 HX2.out (fun j v e=>by rw [Nat.zero_add];exact jD hj.b0 j (by simpa using e))
    simp [execOp,ev r6,Instr.loadAt,Instr.sureAddr,hld,jcv]
  | 1,_,_=>
    cases ho
    refine ⟨rfl,rfl,by simp [dsA],fun ac f w' hj hd hr=>?_⟩
    have r9:ac.tmps[9]? = some (.pointer (some ⟨W.heap.size+1+1+1,0,none⟩)):=(hr 9 (by decide)).trans rfl
    exact ⟨by simp [Oper.quietAt,Oper.quietUpon,execOp,r9,go_sem,jcv],hj.nx0 (by decide)⟩
  | 2,_,_=>
    cases ho
    refine ⟨rfl,rfl,by simp [dsA],fun ac f w' hj hd hr=>?_⟩
    have r19:ac.tmps[19]? = some (.pointer (some ⟨W.heap.size+1+1+1,0,none⟩)):=hd ⟨1,.data⟩ (by simp) rfl rfl
    exact ⟨by simp [Oper.quietAt,Oper.quietUpon,execOp,r19,go_sem,jcv],hj.nx0 (by decide)⟩
  | 3,_,_=>
    cases ho
    refine ⟨rfl,rfl,by simp [dsA],fun ac f w' hj hd hr=>?_⟩
    have r20:ac.tmps[20]? = some (.pointer (some ⟨W.heap.size+1+1+1,0,none⟩)):=hd ⟨2,.data⟩ (by simp) rfl rfl
    exact ⟨by simp [Oper.quietAt,Oper.quietUpon,execOp,r20,go_sem,jcv],hj.nx0 (by decide)⟩
  | 4,_,_=>
    cases ho
    refine ⟨rfl,rfl,by simp [dsA],fun ac f w' hj hd hr=>?_⟩
    have r21:ac.tmps[21]? = some (.pointer (some ⟨W.heap.size+1+1+1,1,none⟩)):=hd ⟨3,.data⟩ (by simp) rfl rfl
    exact ⟨qz rfl (ev r21) (by kernel_rfl) (jD hj.bd 1 rfl),hj.nx0 (by decide)⟩
  | 5,_,h=>exact absurd h (by decide)
  | 6,_,h=>exact absurd h (by decide)
  | 7,_,h=>exact absurd h (by decide)
  | j+8,h,_=>exact absurd h (by omega)
 ·intro i op hi hst ho
  match i,hi,hst with
  | 0,_,h=>exact absurd h (by decide)
  | 1,_,h=>exact absurd h (by decide)
  | 2,_,h=>exact absurd h (by decide)
  | 3,_,h=>exact absurd h (by decide)
  | 4,_,h=>exact absurd h (by decide)
  | 5,_,_=>
    cases ho
    refine ⟨rfl,rfl,fun ac f w' hj hf hdp hd hr K hK=>?_⟩
    have r6:ac.tmps[6]? = some (.pointer (some ⟨W.heap.size,0,none⟩)):=(hr 6 (by decide)).trans rfl
    have r18:ac.tmps[18]? = some (.agg Xs.toArray):=hd ⟨0,.data⟩ (by simp) rfl rfl
    exact wo rfl (ev r6) (ev r18) HX2.out hj.b0 (by simp) HY.out.2.2.2.2.2.2.2.2.2.2.2.2 fun w2 h2 g2=>hK w2 (hj.st0 h2 g2 (by decide))
  | 6,_,_=>
    cases ho
    refine ⟨rfl,rfl,fun ac f w' hj hf hdp hd hr K hK=>?_⟩
    have r7:ac.tmps[7]? = some (.pointer (some ⟨W.heap.size+1,0,none⟩)):=(hr 7 (by decide)).trans rfl
    have r22:ac.tmps[22]? = some (.int .i64 o'):=hd ⟨4,.data⟩ (by simp) rfl rfl
    obtain ⟨x,hx,-⟩:=hj.b1
    exact KZ rfl (ev r7) (ev r22) rfl (by kernel_rfl) hx rfl fun w2 h2 g2=>hK w2 (hj.st1 h2 g2)
  | 7,_,_=>
    cases ho
    refine ⟨rfl,rfl,fun ac f w' hj hf hdp hd hr K hK=>?_⟩
    have r8:ac.tmps[8]? = some (.pointer (some ⟨W.heap.size+1+1,0,none⟩)):=(hr 8 (by decide)).trans rfl
    exact KZ rfl (ev r8) rfl rfl (by kernel_rfl) hj.b2 rfl fun w2 h2 g2=>hK w2 (hj.st2 h2 g2)
  | j+8,h,_=>exact absurd h (by omega)
 ·intro ac w4 hj hdf hsz hvals hrest
  obtain ⟨tm,dfr⟩:=ac
  have e1:dfr=_:=hdf
  have e2:=zM [(18,.agg Xs.toArray),(19,.pointer (some ⟨W.heap.size+1+1+1,0,none⟩)),(20,.pointer (some ⟨W.heap.size+1+1+1,0,none⟩)),(21,.pointer (some ⟨W.heap.size+1+1+1,1,none⟩)),(22,.int .i64 o')] _ tm hsz rfl rfl ⟨hvals 0 (by decide) rfl,hvals 1 (by decide) rfl,hvals 2 (by decide) rfl,hvals 3 (by decide) rfl,hvals 4 (by decide) rfl,trivial⟩ (fun j hj=>hrest j (fun i hi hs e=>hj (e ▸ memA i hi hs)))
  simp only [List.foldl_cons,List.foldl_nil,List.setIfInBounds_toArray,List.set_cons_succ,List.set_cons_zero] at e1 e2
  subst e1
  subst e2
  have HJ:Hid (JA (W.heap.size) Xs 71 (.slice a n c) o' W M (fun _=>true) w4):=hj
  clear hj hvals hrest hsz hdf
  go_wp2
  refine leaves_cons (f:=168) (args:=#[.pointer (some ⟨W.heap.size+1+1,0,none⟩)]) (by simp) (by simp [go_sem]) ?_
  refine (VC ⟨W.heap.size+1+1,0,none⟩ _).mono ?_
  rintro e u' w'' ⟨rfl,rfl,rfl⟩
  refine leaves_cons (f:=167) (args:=#[.pointer (some ⟨W.heap.size+1+1,0,none⟩),.pointer (some ⟨W.heap.size,0,none⟩),.pointer (some ⟨W.heap.size+1,0,none⟩)]) (by simp [settle]) (by simp [go_sem]) ?_
  refine (closeB ⟨W.heap.size+1+1,0,none⟩ ⟨W.heap.size,0,none⟩ ⟨W.heap.size+1,0,none⟩ _ (jD HJ.out.b2 0 rfl)).mono ?_
  rintro e u' w'' ⟨rfl,rfl,rfl⟩
  obtain ⟨x,hx,hx2⟩:=HJ.out.b1
  obtain rfl:=hx2 rfl
  have r0:Tryz.f145.results=#[.cell 6 71,.cell 7 3,.cell 8 27]:=rfl
  exact ⟨_,results3 (cs:=Xs) r0 rfl rfl rfl HR.out.1 HX2.out (by kernel_rfl) (by kernel_rfl) HJ.out.b0 (jD hx 0 rfl) (jD HJ.out.b2 0 rfl),_,_,rfl,HY.out.2.2.2.2.2.2.2.2.2.2.1,HJ.out.im,HY.out.2.2.2.2.2.2.2.2.1,HY.out.2.2.2.2.2.2.2.2.2.1,HJ.out.bel⟩
 ·intro f w' hf h
  obtain ⟨x,h1,h2⟩:=h.b1
  exact ⟨h.bel,h.bB,h.b0,h.bd,⟨x,h1,fun _=>h2 (hf 6 (by decide))⟩,h.b2,h.lt,h.im,h.no⟩
set_option maxHeartbeats 4000000 in
theorem jgD {m:Mem} {buf:List UInt8} {a:Option Addr} {n c:Nat} {off ec:Int} {W:World} (hi:Imm m W) (hr:Rep m je (jW buf) (.slice a n c)) (hd:QD (jd buf) (jh buf) (jf buf) off=some (.inl ec)):
 Calls Tryz.prog 145 #[.slice a n c,.int .i64 off,.func (.func 146) #[] #[]] W fun e W'=>e=.returned (.tuple #[.agg ([.int .i64 0,.int .i64 0,.int .i64 0,.int .i64 0,.int .i64 0,.int .i64 0,.int .i64 0,.int .i64 0,.int .i64 0,.int .i64 0,.int .i64 0,.int .i64 0,.int .i64 0,.int .i64 0,.bool false,.bool false,.bool false,.bool false,.int .i64 0,.slice none 0 0]).toArray,.int .i64 0,.int .i64 ec])/\Below W.heap.size W W':=by
 have HW:∀ V:World,V=(((W.alloc (.cells ([.int .i64 0,.int .i64 0,.int .i64 0,.int .i64 0,.int .i64 0,.int .i64 0,.int .i64 0,.int .i64 0,.int .i64 0,.int .i64 0,.int .i64 0,.int .i64 0,.int .i64 0,.int .i64 0,.bool false,.bool false,.bool false,.bool false,.int .i64 0,.slice none 0 0]).toArray 71)).alloc (.cells #[.int .i64 0] 3)).alloc (.cells #[.int .i64 0] 27)).alloc (.cells #[.slice a n c,.int .i64 off] 258)->
  Hid (BF m buf a n c (W.heap.size+1+1+1) V/\DB (W.heap.size+1+1+1) (.slice a n c) off V/\V.heap[W.heap.size]? = some (.cells ([.int .i64 0,.int .i64 0,.int .i64 0,.int .i64 0,.int .i64 0,.int .i64 0,.int .i64 0,.int .i64 0,.int .i64 0,.int .i64 0,.int .i64 0,.int .i64 0,.int .i64 0,.int .i64 0,.bool false,.bool false,.bool false,.bool false,.int .i64 0,.slice none 0 0]).toArray 71 (0,0))/\V.heap[W.heap.size+1]? = some (.cells #[.int .i64 0] 3 (0,0))/\V.heap[W.heap.size+1+1]? = some (.cells #[.int .i64 0] 27 (0,0))/\Below W.heap.size W V/\V.heap.size=W.heap.size+1+1+1+1):=by
  rintro V rfl
  have hb:Below W.heap.size W ((((W.alloc (.cells ([.int .i64 0,.int .i64 0,.int .i64 0,.int .i64 0,.int .i64 0,.int .i64 0,.int .i64 0,.int .i64 0,.int .i64 0,.int .i64 0,.int .i64 0,.int .i64 0,.int .i64 0,.int .i64 0,.bool false,.bool false,.bool false,.bool false,.int .i64 0,.slice none 0 0]).toArray 71)).alloc (.cells #[.int .i64 0] 3)).alloc (.cells #[.int .i64 0] 27)).alloc (.cells #[.slice a n c,.int .i64 off] 258)):=((((Below.refl _ _).alloc (Nat.le_refl _) _).alloc (by simp) _).alloc (by simp;omega) _).alloc (by simp;omega) _
  refine ⟨⟨hi.below hb,hr,yi hi (by omega),by simp⟩,Jh _ _ _ (by simp),?_,?_,?_,hb,by simp⟩
  ·rw [jU _ _ _ (by simp;omega),jU _ _ _ (by simp;omega),jU _ _ _ (by simp),Jh _ _ _ rfl]
  ·rw [jU _ _ _ (by simp),jU _ _ _ (by simp),Jh _ _ _ (by simp)]
  ·rw [jU _ _ _ (by simp),Jh _ _ _ (by simp)]
 have eD:=Tryz.call146
 have ra:tAg Tryz.prog 71=some true:=by kernel_rfl
 have rz:tSz Tryz.prog 71=some 20:=by kernel_rfl
 have zz:=Tryz.sizeOf71
 have za:=Tryz.isAgg71
 have HR:Hid (_/\_):=⟨ra,rz⟩
 have hmf:∀ (fn:Fn) (first cap:Array Value) (w:World),(Instr.makeFunc fn first cap).run Tryz.prog w=.ok (.func fn first cap) w:=fun _ _ _ _=>rfl
 have hdd:Hid (QD (jd buf) (jh buf) (jf buf) off=some (.inl ec)):=hd
 clear ra rz hi hr hd
 go_enter_defers Tryz.func145,Tryz.ntmps145
 go_upto_region 5 with (
  go_at_call 146
  have HV:=HW _ rfl
  clear HW
  refine (dbody HV.out.1 HV.out.2.1 hdd.out).mono ?_
  rintro e w2 (⟨cc,hr,rfl,hc,hg⟩ | ⟨x1,o1,v1,M,hr,-⟩)
  rotate_left
  ·cases hr
  cases hr
  have HX:Hid (Below W.heap.size W w2/\W.heap.size+1+1+1<w2.heap.size/\w2.heap[W.heap.size]? = some (.cells ([.int .i64 0,.int .i64 0,.int .i64 0,.int .i64 0,.int .i64 0,.int .i64 0,.int .i64 0,.int .i64 0,.int .i64 0,.int .i64 0,.int .i64 0,.int .i64 0,.int .i64 0,.int .i64 0,.bool false,.bool false,.bool false,.bool false,.int .i64 0,.slice none 0 0]).toArray 71 (0,0))/\w2.heap[W.heap.size+1]? = some (.cells #[.int .i64 0] 3 (0,0))/\w2.heap[W.heap.size+1+1]? = some (.cells #[.int .i64 0] 27 (0,0))):=by
   obtain ⟨-,-,y1,y2,y3,y4,y5⟩:=HV.out
   have:=hg.size
   refine ⟨y4.grown hg (by omega) (fun k e=>by have:=Option.some.inj e;omega),by omega,?_,?_,?_⟩
   ·rw [hg.block _ (by omega) (fun e=>by have:=Option.some.inj e;omega)];exact y1
   ·rw [hg.block _ (by omega) (fun e=>by have:=Option.some.inj e;omega)];exact y2
   ·rw [hg.block _ (by omega) (fun e=>by have:=Option.some.inj e;omega)];exact y3
  clear hg HV
  refine leaves_cons (f:=168) (args:=#[.pointer (some ⟨W.heap.size+1+1,0,none⟩)]) (by simp) (by simp [go_sem]) ?_
  refine (KV ec 0 (W.heap.size+1+1) _ HX.out.2.2.2.2).mono ?_
  rintro e u' w3 ⟨rfl,rfl,h3,g3⟩
  refine leaves_cons (f:=167) (args:=#[.pointer (some ⟨W.heap.size+1+1,0,none⟩),.pointer (some ⟨W.heap.size,0,none⟩),.pointer (some ⟨W.heap.size+1,0,none⟩)]) (by simp [settle,mdR]) (by simp [go_sem]) ?_
  have s3:=g3.size
  obtain ⟨y1,y2,y3,y4,y5⟩:=HX.out
  have hrn:settle (mdR ec)=.returning:=rfl
  rw [hrn]
  refine (Mp (p:=W.heap.size+1+1) (q:=W.heap.size) (r:=W.heap.size+1) (e:=ec) (y:=0) (X:=[.int .i64 0,.int .i64 0,.int .i64 0,.int .i64 0,.int .i64 0,.int .i64 0,.int .i64 0,.int .i64 0,.int .i64 0,.int .i64 0,.int .i64 0,.int .i64 0,.int .i64 0,.int .i64 0,.bool false,.bool false,.bool false,.bool false,.int .i64 0,.slice none 0 0]) (B:=W.heap.size) hc h3 ((g3.block _ (by omega) (fun e=>by have:=Option.some.inj e;omega)).trans y3) ((g3.block _ (by omega) (fun e=>by have:=Option.some.inj e;omega)).trans y4) rfl ⟨by omega,by omega,by omega,by omega,by omega,by omega⟩).mono ?_
  rintro e u' w4 ⟨rfl,rfl,h5,h6,h7,h8⟩
  have r0:Tryz.f145.results=#[.cell 6 71,.cell 7 3,.cell 8 27]:=rfl
  exact ⟨_,results3 (cs:=[.int .i64 0,.int .i64 0,.int .i64 0,.int .i64 0,.int .i64 0,.int .i64 0,.int .i64 0,.int .i64 0,.int .i64 0,.int .i64 0,.int .i64 0,.int .i64 0,.int .i64 0,.int .i64 0,.bool false,.bool false,.bool false,.bool false,.int .i64 0,.slice none 0 0]) r0 rfl rfl rfl HR.out.1 HR.out.2 (by kernel_rfl) (by kernel_rfl) h5 (jD h6 0 rfl) (jD h7 0 rfl),rfl,(y1.grown g3 (by omega) (fun k e=>by have:=Option.some.inj e;omega)).trans h8⟩)
set_option maxHeartbeats 4000000 in
theorem atJ_ok {m:Mem} {buf:List UInt8} {a:Option Addr} {n c:Nat} {off o':Int} {x:jn} {W:World} (hi:Imm m W) (hr:Rep m je (jW buf) (.slice a n c)) (hd:qi (jd buf) (jh buf) (jf buf) off=some (.inr (x,o'))):
 Calls Tryz.prog 147 #[.slice a n c,.int .i64 off,.func (.func 148) #[] #[]] W fun e W'=>∃ v M,e=.returned (.tuple #[v,.int .i64 o',.int .i64 0])/\Rep M je (YD x) v/\Imm M W'/\Mem.le m M/\JG m M W.heap.size/\Below W.heap.size W W':=by
 have HW:∀ V:World,V=(((W.alloc (.cells ([.int .i64 0,.int .i64 0,.int .i64 0,.int .i64 0,.int .i64 0,.int .i64 0,.int .i64 0,.int .i64 0,.int .i64 0,.int .i64 0,.int .i64 0,.bool false,.int .i64 0,.int .i64 0,.bool false,.int .i64 0,.int .i64 0,.int .i64 0,.int .i64 0,.bool false,.int .i64 0,.int .i64 0,.int .i64 0,.int .i64 0]).toArray 75)).alloc (.cells #[.int .i64 0] 3)).alloc (.cells #[.int .i64 0] 27)).alloc (.cells #[.slice a n c,.int .i64 off] 258)->
  Hid (BF m buf a n c (W.heap.size+1+1+1) V/\DB (W.heap.size+1+1+1) (.slice a n c) off V/\V.heap[W.heap.size]? = some (.cells ([.int .i64 0,.int .i64 0,.int .i64 0,.int .i64 0,.int .i64 0,.int .i64 0,.int .i64 0,.int .i64 0,.int .i64 0,.int .i64 0,.int .i64 0,.bool false,.int .i64 0,.int .i64 0,.bool false,.int .i64 0,.int .i64 0,.int .i64 0,.int .i64 0,.bool false,.int .i64 0,.int .i64 0,.int .i64 0,.int .i64 0]).toArray 75 (0,0))/\V.heap[W.heap.size+1]? = some (.cells #[.int .i64 0] 3 (0,0))/\V.heap[W.heap.size+1+1]? = some (.cells #[.int .i64 0] 27 (0,0))/\Below W.heap.size W V/\V.heap.size=W.heap.size+1+1+1+1):=by
  rintro V rfl
  have hb:Below W.heap.size W ((((W.alloc (.cells ([.int .i64 0,.int .i64 0,.int .i64 0,.int .i64 0,.int .i64 0,.int .i64 0,.int .i64 0,.int .i64 0,.int .i64 0,.int .i64 0,.int .i64 0,.bool false,.int .i64 0,.int .i64 0,.bool false,.int .i64 0,.int .i64 0,.int .i64 0,.int .i64 0,.bool false,.int .i64 0,.int .i64 0,.int .i64 0,.int .i64 0]).toArray 75)).alloc (.cells #[.int .i64 0] 3)).alloc (.cells #[.int .i64 0] 27)).alloc (.cells #[.slice a n c,.int .i64 off] 258)):=((((Below.refl _ _).alloc (Nat.le_refl _) _).alloc (by simp) _).alloc (by simp;omega) _).alloc (by simp;omega) _
  refine ⟨⟨hi.below hb,hr,yi hi (by omega),by simp⟩,Jh _ _ _ (by simp),?_,?_,?_,hb,by simp⟩
  ·rw [jU _ _ _ (by simp;omega),jU _ _ _ (by simp;omega),jU _ _ _ (by simp),Jh _ _ _ rfl]
  ·rw [jU _ _ _ (by simp),jU _ _ _ (by simp),Jh _ _ _ (by simp)]
  ·rw [jU _ _ _ (by simp),Jh _ _ _ (by simp)]
 have eD:=Tryz.call148
 have ra:tAg Tryz.prog 75=some true:=by kernel_rfl
 have rz:tSz Tryz.prog 75=some 24:=by kernel_rfl
 have zz:=Tryz.sizeOf75
 have za:=Tryz.isAgg75
 have HR:Hid (_/\_):=⟨ra,rz⟩
 have hmf:∀ (fn:Fn) (first cap:Array Value) (w:World),(Instr.makeFunc fn first cap).run Tryz.prog w=.ok (.func fn first cap) w:=fun _ _ _ _=>rfl
 have hdd:Hid (qi (jd buf) (jh buf) (jf buf) off=some (.inr (x,o'))):=hd
 have hi0:Hid (Imm m W):=hi
 clear ra rz hi hr hd
 go_enter_defers Tryz.func147,Tryz.ntmps147
 go_upto_region 5 with (first
  | (go_at_call 148
     have HV:=HW _ rfl
     clear HW
     refine (jeJ HV.out.1 HV.out.2.1 hdd.out).mono ?_
     rintro e w2 (⟨cc,hr,-⟩ | ⟨x1,o1,v1,M,hr,rfl,hR,hO⟩)
     cases hr
     cases hr
     obtain ⟨Xs,rfl,hR1,hR2⟩:=Qn (l:=(YD x).cells) hR
     have hXl:Xs.length=24:=hR1.length.symm
     have HX:Hid (DB (W.heap.size+1+1+1) (.slice a n c) o' w2/\Below W.heap.size W w2/\W.heap.size+1+1+1<w2.heap.size/\w2.heap[W.heap.size]? = some (.cells ([.int .i64 0,.int .i64 0,.int .i64 0,.int .i64 0,.int .i64 0,.int .i64 0,.int .i64 0,.int .i64 0,.int .i64 0,.int .i64 0,.int .i64 0,.bool false,.int .i64 0,.int .i64 0,.bool false,.int .i64 0,.int .i64 0,.int .i64 0,.int .i64 0,.bool false,.int .i64 0,.int .i64 0,.int .i64 0,.int .i64 0]).toArray 75 (0,0))/\w2.heap[W.heap.size+1]? = some (.cells #[.int .i64 0] 3 (0,0))/\w2.heap[W.heap.size+1+1]? = some (.cells #[.int .i64 0] 27 (0,0))/\Imm M w2/\(∀ g,W.heap.size<=g->g<=W.heap.size+1+1->∀ o,M g o=none)/\Mem.le m M/\JG m M W.heap.size/\Rep M je (YD x) (.agg Xs.toArray)/\Xs.length=24/\(∀ c∈Xs,jA c=true)):=by
      obtain ⟨-,-,y1,y2,y3,y4,y5⟩:=HV.out
      have hg:=hO.G
      have:=hg.size
      refine ⟨hO.D,y4.grown hg (by omega) (fun k e=>by have:=Option.some.inj e;omega),by omega,?_,?_,?_,hO.F.imm,fun g h1 h2=>hO.nw.none (by omega) (yi hi0.out h1),hO.le,fun b o u e=>(hO.nw b o u e).imp id (fun h=>by omega),hR,hXl,hR2⟩
      ·rw [hg.block _ (by omega) (fun e=>by have:=Option.some.inj e;omega)];exact y1
      ·rw [hg.block _ (by omega) (fun e=>by have:=Option.some.inj e;omega)];exact y2
      ·rw [hg.block _ (by omega) (fun e=>by have:=Option.some.inj e;omega)];exact y3
     clear hO hR hR1 hR2 HV)
  | (apply Jd Xs HX.out.2.2.2.1 rfl rfl rfl
     ·rfl
     ·rfl
     ·exact HR.out.2
     ·exact hXl
     ·rfl
     ·exact HX.out.2.2.2.2.2.2.2.2.2.2.2.2
     intro w3 hX3 hg3
     have HY:Hid (DB (W.heap.size+1+1+1) (.slice a n c) o' w3/\Below W.heap.size W w3/\W.heap.size+1+1+1<w3.heap.size/\w3.heap[W.heap.size]? = some (.cells Xs.toArray 75 (0,0))/\w3.heap[W.heap.size+1]? = some (.cells #[.int .i64 0] 3 (0,0))/\w3.heap[W.heap.size+1+1]? = some (.cells #[.int .i64 0] 27 (0,0))/\Imm M w3/\(∀ g,W.heap.size<=g->g<=W.heap.size+1+1->∀ o,M g o=none)/\Mem.le m M/\JG m M W.heap.size/\Rep M je (YD x) (.agg Xs.toArray)/\Xs.length=24/\(∀ c∈Xs,jA c=true)):=by
      obtain ⟨y1,y2,y3,y4,y5,y6,y7,y8,y9⟩:=HX.out
      have:=hg3.size
      refine ⟨?_,y2.grown hg3 (by omega) (fun k e=>by have:=Option.some.inj e;omega),by omega,hX3,?_,?_,yG y7 hg3 (y8 _ (Nat.le_refl _) (by omega)),y8,y9⟩
      ·exact (hg3.block _ (by omega) (fun e=>by have:=Option.some.inj e;omega)).trans y1
      ·rw [hg3.block _ (by omega) (fun e=>by have:=Option.some.inj e;omega)];exact y5
      ·rw [hg3.block _ (by omega) (fun e=>by have:=Option.some.inj e;omega)];exact y6
     clear hX3 hg3))
 have HX2:Hid (tSz Tryz.prog 75=some Xs.length):=by rw [hXl];exact HR.out.2
 refine ZT qT 8 (fun i=>i==5||i==6||i==7) dsA (jcv (.agg Xs.toArray) (W.heap.size+1+1+1) o') (JA (W.heap.size) Xs 75 (.slice a n c) o' W M) rfl ?_ ?_ ?_ (injA) ?_ ?_ ?_
 ·intro i o ho
  match i with
  | 0=>cases ho;simp [Region.binds]
  | 1=>cases ho;simp [Region.binds]
  | 2=>cases ho;simp [Region.binds]
  | 3=>cases ho;simp [Region.binds]
  | 4=>cases ho;simp [Region.binds]
  | 5=>cases ho;simp [Region.binds]
  | 6=>cases ho;simp [Region.binds]
  | 7=>cases ho;simp [Region.binds]
  | j+8=>simp at ho
 ·exact JA.start HY.out.1 HY.out.2.1 HY.out.2.2.1 HY.out.2.2.2.1 HY.out.2.2.2.2.1 HY.out.2.2.2.2.2.1 HY.out.2.2.2.2.2.2.1 HY.out.2.2.2.2.2.2.2.1
 ·intro i op hi hst ho
  match i,hi,hst with
  | 0,_,_=>
    cases ho
    refine ⟨rfl,rfl,by simp [dsA],fun ac f w' hj hd hr=>?_⟩
    have r6:ac.tmps[6]? = some (.pointer (some ⟨W.heap.size,0,none⟩)):=(hr 6 (by decide)).trans rfl
    refine ⟨KX ?_,hj.nx0 (by decide)⟩
    have hld:=Jw (P:=Tryz.prog) (ty:=75) (w:=w') (b:=W.heap.size) (o:=0) (cs:=Xs) HR.out.1 HX2.out (fun j v e=>by rw [Nat.zero_add];exact jD hj.b0 j (by simpa using e))
    simp [execOp,ev r6,Instr.loadAt,Instr.sureAddr,hld,jcv]
  | 1,_,_=>
    cases ho
    refine ⟨rfl,rfl,by simp [dsA],fun ac f w' hj hd hr=>?_⟩
    have r9:ac.tmps[9]? = some (.pointer (some ⟨W.heap.size+1+1+1,0,none⟩)):=(hr 9 (by decide)).trans rfl
    exact ⟨by simp [Oper.quietAt,Oper.quietUpon,execOp,r9,go_sem,jcv],hj.nx0 (by decide)⟩
  | 2,_,_=>
    cases ho
    refine ⟨rfl,rfl,by simp [dsA],fun ac f w' hj hd hr=>?_⟩
    have r19:ac.tmps[19]? = some (.pointer (some ⟨W.heap.size+1+1+1,0,none⟩)):=hd ⟨1,.data⟩ (by simp) rfl rfl
    exact ⟨by simp [Oper.quietAt,Oper.quietUpon,execOp,r19,go_sem,jcv],hj.nx0 (by decide)⟩
  | 3,_,_=>
    cases ho
    refine ⟨rfl,rfl,by simp [dsA],fun ac f w' hj hd hr=>?_⟩
    have r20:ac.tmps[20]? = some (.pointer (some ⟨W.heap.size+1+1+1,0,none⟩)):=hd ⟨2,.data⟩ (by simp) rfl rfl
    exact ⟨by simp [Oper.quietAt,Oper.quietUpon,execOp,r20,go_sem,jcv],hj.nx0 (by decide)⟩
  | 4,_,_=>
    cases ho
    refine ⟨rfl,rfl,by simp [dsA],fun ac f w' hj hd hr=>?_⟩
    have r21:ac.tmps[21]? = some (.pointer (some ⟨W.heap.size+1+1+1,1,none⟩)):=hd ⟨3,.data⟩ (by simp) rfl rfl
    exact ⟨qz rfl (ev r21) (by kernel_rfl) (jD hj.bd 1 rfl),hj.nx0 (by decide)⟩
  | 5,_,h=>exact absurd h (by decide)
  | 6,_,h=>exact absurd h (by decide)
  | 7,_,h=>exact absurd h (by decide)
  | j+8,h,_=>exact absurd h (by omega)
 ·intro i op hi hst ho
  match i,hi,hst with
  | 0,_,h=>exact absurd h (by decide)
  | 1,_,h=>exact absurd h (by decide)
  | 2,_,h=>exact absurd h (by decide)
  | 3,_,h=>exact absurd h (by decide)
  | 4,_,h=>exact absurd h (by decide)
  | 5,_,_=>
    cases ho
    refine ⟨rfl,rfl,fun ac f w' hj hf hdp hd hr K hK=>?_⟩
    have r6:ac.tmps[6]? = some (.pointer (some ⟨W.heap.size,0,none⟩)):=(hr 6 (by decide)).trans rfl
    have r18:ac.tmps[18]? = some (.agg Xs.toArray):=hd ⟨0,.data⟩ (by simp) rfl rfl
    exact wo rfl (ev r6) (ev r18) HX2.out hj.b0 (by simp) HY.out.2.2.2.2.2.2.2.2.2.2.2.2 fun w2 h2 g2=>hK w2 (hj.st0 h2 g2 (by decide))
  | 6,_,_=>
    cases ho
    refine ⟨rfl,rfl,fun ac f w' hj hf hdp hd hr K hK=>?_⟩
    have r7:ac.tmps[7]? = some (.pointer (some ⟨W.heap.size+1,0,none⟩)):=(hr 7 (by decide)).trans rfl
    have r22:ac.tmps[22]? = some (.int .i64 o'):=hd ⟨4,.data⟩ (by simp) rfl rfl
    obtain ⟨x,hx,-⟩:=hj.b1
    exact KZ rfl (ev r7) (ev r22) rfl (by kernel_rfl) hx rfl fun w2 h2 g2=>hK w2 (hj.st1 h2 g2)
  | 7,_,_=>
    cases ho
    refine ⟨rfl,rfl,fun ac f w' hj hf hdp hd hr K hK=>?_⟩
    have r8:ac.tmps[8]? = some (.pointer (some ⟨W.heap.size+1+1,0,none⟩)):=(hr 8 (by decide)).trans rfl
    exact KZ rfl (ev r8) rfl rfl (by kernel_rfl) hj.b2 rfl fun w2 h2 g2=>hK w2 (hj.st2 h2 g2)
  | j+8,h,_=>exact absurd h (by omega)
 ·intro ac w4 hj hdf hsz hvals hrest
  obtain ⟨tm,dfr⟩:=ac
  have e1:dfr=_:=hdf
  have e2:=zM [(18,.agg Xs.toArray),(19,.pointer (some ⟨W.heap.size+1+1+1,0,none⟩)),(20,.pointer (some ⟨W.heap.size+1+1+1,0,none⟩)),(21,.pointer (some ⟨W.heap.size+1+1+1,1,none⟩)),(22,.int .i64 o')] _ tm hsz rfl rfl ⟨hvals 0 (by decide) rfl,hvals 1 (by decide) rfl,hvals 2 (by decide) rfl,hvals 3 (by decide) rfl,hvals 4 (by decide) rfl,trivial⟩ (fun j hj=>hrest j (fun i hi hs e=>hj (e ▸ memA i hi hs)))
  simp only [List.foldl_cons,List.foldl_nil,List.setIfInBounds_toArray,List.set_cons_succ,List.set_cons_zero] at e1 e2
  subst e1
  subst e2
  have HJ:Hid (JA (W.heap.size) Xs 75 (.slice a n c) o' W M (fun _=>true) w4):=hj
  clear hj hvals hrest hsz hdf
  go_wp2
  refine leaves_cons (f:=168) (args:=#[.pointer (some ⟨W.heap.size+1+1,0,none⟩)]) (by simp) (by simp [go_sem]) ?_
  refine (VC ⟨W.heap.size+1+1,0,none⟩ _).mono ?_
  rintro e u' w'' ⟨rfl,rfl,rfl⟩
  refine leaves_cons (f:=174) (args:=#[.pointer (some ⟨W.heap.size+1+1,0,none⟩),.pointer (some ⟨W.heap.size,0,none⟩),.pointer (some ⟨W.heap.size+1,0,none⟩)]) (by simp [settle]) (by simp [go_sem]) ?_
  refine (closeJ ⟨W.heap.size+1+1,0,none⟩ ⟨W.heap.size,0,none⟩ ⟨W.heap.size+1,0,none⟩ _ (jD HJ.out.b2 0 rfl)).mono ?_
  rintro e u' w'' ⟨rfl,rfl,rfl⟩
  obtain ⟨x,hx,hx2⟩:=HJ.out.b1
  obtain rfl:=hx2 rfl
  have r0:Tryz.f147.results=#[.cell 6 75,.cell 7 3,.cell 8 27]:=rfl
  exact ⟨_,results3 (cs:=Xs) r0 rfl rfl rfl HR.out.1 HX2.out (by kernel_rfl) (by kernel_rfl) HJ.out.b0 (jD hx 0 rfl) (jD HJ.out.b2 0 rfl),_,_,rfl,HY.out.2.2.2.2.2.2.2.2.2.2.1,HJ.out.im,HY.out.2.2.2.2.2.2.2.2.1,HY.out.2.2.2.2.2.2.2.2.2.1,HJ.out.bel⟩
 ·intro f w' hf h
  obtain ⟨x,h1,h2⟩:=h.b1
  exact ⟨h.bel,h.bB,h.b0,h.bd,⟨x,h1,fun _=>h2 (hf 6 (by decide))⟩,h.b2,h.lt,h.im,h.no⟩
set_option maxHeartbeats 4000000 in
theorem jgB {m:Mem} {buf:List UInt8} {a:Option Addr} {n c:Nat} {off ec:Int} {W:World} (hi:Imm m W) (hr:Rep m je (jW buf) (.slice a n c)) (hd:qi (jd buf) (jh buf) (jf buf) off=some (.inl ec)):
 Calls Tryz.prog 147 #[.slice a n c,.int .i64 off,.func (.func 148) #[] #[]] W fun e W'=>e=.returned (.tuple #[.agg ([.int .i64 0,.int .i64 0,.int .i64 0,.int .i64 0,.int .i64 0,.int .i64 0,.int .i64 0,.int .i64 0,.int .i64 0,.int .i64 0,.int .i64 0,.bool false,.int .i64 0,.int .i64 0,.bool false,.int .i64 0,.int .i64 0,.int .i64 0,.int .i64 0,.bool false,.int .i64 0,.int .i64 0,.int .i64 0,.int .i64 0]).toArray,.int .i64 0,.int .i64 ec])/\Below W.heap.size W W':=by
 have HW:∀ V:World,V=(((W.alloc (.cells ([.int .i64 0,.int .i64 0,.int .i64 0,.int .i64 0,.int .i64 0,.int .i64 0,.int .i64 0,.int .i64 0,.int .i64 0,.int .i64 0,.int .i64 0,.bool false,.int .i64 0,.int .i64 0,.bool false,.int .i64 0,.int .i64 0,.int .i64 0,.int .i64 0,.bool false,.int .i64 0,.int .i64 0,.int .i64 0,.int .i64 0]).toArray 75)).alloc (.cells #[.int .i64 0] 3)).alloc (.cells #[.int .i64 0] 27)).alloc (.cells #[.slice a n c,.int .i64 off] 258)->
  Hid (BF m buf a n c (W.heap.size+1+1+1) V/\DB (W.heap.size+1+1+1) (.slice a n c) off V/\V.heap[W.heap.size]? = some (.cells ([.int .i64 0,.int .i64 0,.int .i64 0,.int .i64 0,.int .i64 0,.int .i64 0,.int .i64 0,.int .i64 0,.int .i64 0,.int .i64 0,.int .i64 0,.bool false,.int .i64 0,.int .i64 0,.bool false,.int .i64 0,.int .i64 0,.int .i64 0,.int .i64 0,.bool false,.int .i64 0,.int .i64 0,.int .i64 0,.int .i64 0]).toArray 75 (0,0))/\V.heap[W.heap.size+1]? = some (.cells #[.int .i64 0] 3 (0,0))/\V.heap[W.heap.size+1+1]? = some (.cells #[.int .i64 0] 27 (0,0))/\Below W.heap.size W V/\V.heap.size=W.heap.size+1+1+1+1):=by
  rintro V rfl
  have hb:Below W.heap.size W ((((W.alloc (.cells ([.int .i64 0,.int .i64 0,.int .i64 0,.int .i64 0,.int .i64 0,.int .i64 0,.int .i64 0,.int .i64 0,.int .i64 0,.int .i64 0,.int .i64 0,.bool false,.int .i64 0,.int .i64 0,.bool false,.int .i64 0,.int .i64 0,.int .i64 0,.int .i64 0,.bool false,.int .i64 0,.int .i64 0,.int .i64 0,.int .i64 0]).toArray 75)).alloc (.cells #[.int .i64 0] 3)).alloc (.cells #[.int .i64 0] 27)).alloc (.cells #[.slice a n c,.int .i64 off] 258)):=((((Below.refl _ _).alloc (Nat.le_refl _) _).alloc (by simp) _).alloc (by simp;omega) _).alloc (by simp;omega) _
  refine ⟨⟨hi.below hb,hr,yi hi (by omega),by simp⟩,Jh _ _ _ (by simp),?_,?_,?_,hb,by simp⟩
  ·rw [jU _ _ _ (by simp;omega),jU _ _ _ (by simp;omega),jU _ _ _ (by simp),Jh _ _ _ rfl]
  ·rw [jU _ _ _ (by simp),jU _ _ _ (by simp),Jh _ _ _ (by simp)]
  ·rw [jU _ _ _ (by simp),Jh _ _ _ (by simp)]
 have eD:=Tryz.call148
 have ra:tAg Tryz.prog 75=some true:=by kernel_rfl
 have rz:tSz Tryz.prog 75=some 24:=by kernel_rfl
 have zz:=Tryz.sizeOf75
 have za:=Tryz.isAgg75
 have HR:Hid (_/\_):=⟨ra,rz⟩
 have hmf:∀ (fn:Fn) (first cap:Array Value) (w:World),(Instr.makeFunc fn first cap).run Tryz.prog w=.ok (.func fn first cap) w:=fun _ _ _ _=>rfl
 have hdd:Hid (qi (jd buf) (jh buf) (jf buf) off=some (.inl ec)):=hd
 clear ra rz hi hr hd
 go_enter_defers Tryz.func147,Tryz.ntmps147
 go_upto_region 5 with (
  go_at_call 148
  have HV:=HW _ rfl
  clear HW
  refine (jeJ HV.out.1 HV.out.2.1 hdd.out).mono ?_
  rintro e w2 (⟨cc,hr,rfl,hc,hg⟩ | ⟨x1,o1,v1,M,hr,-⟩)
  rotate_left
  ·cases hr
  cases hr
  have HX:Hid (Below W.heap.size W w2/\W.heap.size+1+1+1<w2.heap.size/\w2.heap[W.heap.size]? = some (.cells ([.int .i64 0,.int .i64 0,.int .i64 0,.int .i64 0,.int .i64 0,.int .i64 0,.int .i64 0,.int .i64 0,.int .i64 0,.int .i64 0,.int .i64 0,.bool false,.int .i64 0,.int .i64 0,.bool false,.int .i64 0,.int .i64 0,.int .i64 0,.int .i64 0,.bool false,.int .i64 0,.int .i64 0,.int .i64 0,.int .i64 0]).toArray 75 (0,0))/\w2.heap[W.heap.size+1]? = some (.cells #[.int .i64 0] 3 (0,0))/\w2.heap[W.heap.size+1+1]? = some (.cells #[.int .i64 0] 27 (0,0))):=by
   obtain ⟨-,-,y1,y2,y3,y4,y5⟩:=HV.out
   have:=hg.size
   refine ⟨y4.grown hg (by omega) (fun k e=>by have:=Option.some.inj e;omega),by omega,?_,?_,?_⟩
   ·rw [hg.block _ (by omega) (fun e=>by have:=Option.some.inj e;omega)];exact y1
   ·rw [hg.block _ (by omega) (fun e=>by have:=Option.some.inj e;omega)];exact y2
   ·rw [hg.block _ (by omega) (fun e=>by have:=Option.some.inj e;omega)];exact y3
  clear hg HV
  refine leaves_cons (f:=168) (args:=#[.pointer (some ⟨W.heap.size+1+1,0,none⟩)]) (by simp) (by simp [go_sem]) ?_
  refine (KV ec 0 (W.heap.size+1+1) _ HX.out.2.2.2.2).mono ?_
  rintro e u' w3 ⟨rfl,rfl,h3,g3⟩
  refine leaves_cons (f:=174) (args:=#[.pointer (some ⟨W.heap.size+1+1,0,none⟩),.pointer (some ⟨W.heap.size,0,none⟩),.pointer (some ⟨W.heap.size+1,0,none⟩)]) (by simp [settle,mdR]) (by simp [go_sem]) ?_
  have s3:=g3.size
  obtain ⟨y1,y2,y3,y4,y5⟩:=HX.out
  have hrn:settle (mdR ec)=.returning:=rfl
  rw [hrn]
  refine (Mo (p:=W.heap.size+1+1) (q:=W.heap.size) (r:=W.heap.size+1) (e:=ec) (y:=0) (X:=[.int .i64 0,.int .i64 0,.int .i64 0,.int .i64 0,.int .i64 0,.int .i64 0,.int .i64 0,.int .i64 0,.int .i64 0,.int .i64 0,.int .i64 0,.bool false,.int .i64 0,.int .i64 0,.bool false,.int .i64 0,.int .i64 0,.int .i64 0,.int .i64 0,.bool false,.int .i64 0,.int .i64 0,.int .i64 0,.int .i64 0]) (B:=W.heap.size) hc h3 ((g3.block _ (by omega) (fun e=>by have:=Option.some.inj e;omega)).trans y3) ((g3.block _ (by omega) (fun e=>by have:=Option.some.inj e;omega)).trans y4) rfl ⟨by omega,by omega,by omega,by omega,by omega,by omega⟩).mono ?_
  rintro e u' w4 ⟨rfl,rfl,h5,h6,h7,h8⟩
  have r0:Tryz.f147.results=#[.cell 6 75,.cell 7 3,.cell 8 27]:=rfl
  exact ⟨_,results3 (cs:=[.int .i64 0,.int .i64 0,.int .i64 0,.int .i64 0,.int .i64 0,.int .i64 0,.int .i64 0,.int .i64 0,.int .i64 0,.int .i64 0,.int .i64 0,.bool false,.int .i64 0,.int .i64 0,.bool false,.int .i64 0,.int .i64 0,.int .i64 0,.int .i64 0,.bool false,.int .i64 0,.int .i64 0,.int .i64 0,.int .i64 0]) r0 rfl rfl rfl HR.out.1 HR.out.2 (by kernel_rfl) (by kernel_rfl) h5 (jD h6 0 rfl) (jD h7 0 rfl),rfl,(y1.grown g3 (by omega) (fun k e=>by have:=Option.some.inj e;omega)).trans h8⟩)
theorem UT {P:Program} {fn:Func} {t1 t2 t3:Tmp} {ty:TypeId} {b1:Nat} {cs:List Value} {T:TypeId} {v2 v3:Value} {w:World} {tmps:Array Value} (h:fn.results=#[.cell t1 ty,.tmp t2,.tmp t3])
 (h1:tmps.getD t1 undef=.pointer (some ⟨b1,0,none⟩)) (h2:tmps.getD t2 undef=v2) (h3:tmps.getD t3 undef=v3) (ha:tAg P ty=some true) (hs:tSz P ty=some cs.length)
 (hb:w.heap[b1]? = some (.cells cs.toArray T (0,0))):(results fn tmps).run P w=.ok (.tuple #[.agg cs.toArray,v2,v3]) w:=by
 have l1:=Jw (P:=P) (ty:=ty) (w:=w) (b:=b1) (o:=0) (cs:=cs) ha hs (fun j v e=>by rw [Nat.zero_add];exact jD hb j (by simpa using e))
 have h1:tmps[t1]?.getD undef=.pointer (some ⟨b1,0,none⟩):=by simpa using h1
 have h2:tmps[t2]?.getD undef=v2:=by simpa using h2
 have h3:tmps[t3]?.getD undef=v3:=by simpa using h3
 simp [results,h,h1,h2,h3,l1,asAddr]
theorem jgC {m:Mem}:Rep m je (Qk exB) (.agg ([.int .i64 0,.int .i64 0,.int .i64 0,.int .i64 0,.int .i64 0,.int .i64 0,.int .i64 0,.int .i64 0,.int .i64 0,.int .i64 0,.int .i64 0,.int .i64 0,.int .i64 0,.int .i64 0,.bool false,.bool false,.bool false,.bool false,.int .i64 0,.slice none 0 0]).toArray):=.agg (l:=_) ((Ke [_,_,_,_,_,_,_,_,_,_,_,_,_,_,_,_,_,_,_]).append (.cons .slnil .nil)) (qx rfl)
theorem atB {m:Mem} {buf:List UInt8} {a:Option Addr} {n c:Nat} {off o' c':Int} {x:Body} {W:World} (hi:Imm m W) (hr:Rep m je (jW buf) (.slice a n c)) (h:rdF exB (QD (jd buf) (jh buf) (jf buf) off)=some (x,o',c')):
 Calls Tryz.prog 145 #[.slice a n c,.int .i64 off,.func (.func 146) #[] #[]] W fun e W'=>∃ v M,e=.returned (.tuple #[v,.int .i64 o',.int .i64 c'])/\Rep M je (Qk x) v/\Imm M W'/\Mem.le m M/\JG m M W.heap.size/\Below W.heap.size W W':=by
 cases hd:QD (jd buf) (jh buf) (jf buf) off with
 | none=>rw [hd] at h;cases h
 | some r=>
   rw [hd] at h
   rcases r with ec | ⟨x1,o1⟩
   ·cases h
    refine (jgD hi hr hd).mono ?_
    rintro e W' ⟨rfl,hb⟩
    exact ⟨_,m,rfl,jgC,hi.below hb,fun _ _ _ e=>e,JG.refl _ _,hb⟩
   ·cases h
    exact atB_ok hi hr hd
set_option maxHeartbeats 4000000 in
theorem readB {m:Mem} {buf:List UInt8} {a:Option Addr} {n c:Nat} {off o' c':Int} {x:Body} {W:World} (hi:Imm m W) (hr:Rep m je (jW buf) (.slice a n c)) (h:rdF exB (QD (jd buf) (jh buf) (jf buf) off)=some (x,o',c')):
 Calls Tryz.prog 118 #[.slice a n c,.int .i64 off] W fun e W'=>∃ v M,e=.returned (.tuple #[v,.int .i64 o',.int .i64 c'])/\Rep M je (Qk x) v/\Imm M W'/\Mem.le m M/\JG m M W.heap.size/\Below W.heap.size W W':=by
 have eA:=Tryz.call145
 have ra:tAg Tryz.prog 71=some true:=by kernel_rfl
 have rz:tSz Tryz.prog 71=some 20:=by kernel_rfl
 have HR:Hid (_/\_):=⟨ra,rz⟩
 have hb:Below W.heap.size W (W.alloc (.cells ([.int .i64 0,.int .i64 0,.int .i64 0,.int .i64 0,.int .i64 0,.int .i64 0,.int .i64 0,.int .i64 0,.int .i64 0,.int .i64 0,.int .i64 0,.int .i64 0,.int .i64 0,.int .i64 0,.bool false,.bool false,.bool false,.bool false,.int .i64 0,.slice none 0 0]).toArray 71)):=(Below.refl _ _).alloc (Nat.le_refl _) _
 have k1:=atB (W:=W.alloc (.cells ([.int .i64 0,.int .i64 0,.int .i64 0,.int .i64 0,.int .i64 0,.int .i64 0,.int .i64 0,.int .i64 0,.int .i64 0,.int .i64 0,.int .i64 0,.int .i64 0,.int .i64 0,.int .i64 0,.bool false,.bool false,.bool false,.bool false,.int .i64 0,.slice none 0 0]).toArray 71)) (hi.below hb) hr h
 have HX:Hid (_/\_):=⟨hb,hi⟩
 clear ra rz hi hr h hb
 go_enter Tryz.func118,Tryz.ntmps118
 go_wp2_with (first
  | (go_at_call 145
     refine k1.mono ?_
     rintro e w2 ⟨v,M,rfl,hR,hi2,hl2,hn2,hb2⟩
     obtain ⟨Xs,rfl,hR1,hR2⟩:=Qn (l:=(Qk x).cells) hR
     have hXl:Xs.length=20:=hR1.length.symm
     have HY:Hid (w2.heap[W.heap.size]? = some (.cells ([.int .i64 0,.int .i64 0,.int .i64 0,.int .i64 0,.int .i64 0,.int .i64 0,.int .i64 0,.int .i64 0,.int .i64 0,.int .i64 0,.int .i64 0,.int .i64 0,.int .i64 0,.int .i64 0,.bool false,.bool false,.bool false,.bool false,.int .i64 0,.slice none 0 0]).toArray 71 (0,0))/\Below W.heap.size W w2/\Imm M w2/\Mem.le m M/\JG m M W.heap.size/\Rep M je (Qk x) (.agg Xs.toArray)/\(∀ c∈Xs,jA c=true)/\∀ o,M W.heap.size o=none):=
      ⟨(hb2.block _ (by simp)).trans (Jh W (.cells ([.int .i64 0,.int .i64 0,.int .i64 0,.int .i64 0,.int .i64 0,.int .i64 0,.int .i64 0,.int .i64 0,.int .i64 0,.int .i64 0,.int .i64 0,.int .i64 0,.int .i64 0,.int .i64 0,.bool false,.bool false,.bool false,.bool false,.int .i64 0,.slice none 0 0]).toArray 71) _ rfl),HX.out.1.trans (hb2.mono (by simp)),hi2,hl2,fun b o u e=>(hn2 b o u e).imp id (fun h=>by simp at h;omega),hR,hR2,hn2.none (by simp) (yi HX.out.2 (Nat.le_refl _))⟩
     clear hb2 hi2 hl2 hn2 hR hR1 hR2 k1)
  | (apply Jd Xs HY.out.1 rfl rfl rfl
     ·rfl
     ·rfl
     ·exact HR.out.2
     ·exact hXl
     ·rfl
     ·exact HY.out.2.2.2.2.2.2.1
     intro w3 h3 g3
     have HK:Hid (_/\_/\_):=⟨h3,HY.out.2.1.grown g3 HY.out.2.1.size (fun k e=>by have:=Option.some.inj e;omega),yG HY.out.2.2.1 g3 HY.out.2.2.2.2.2.2.2⟩
     clear h3 g3))
 have r0:Tryz.f118.results=#[.cell 4 71,.tmp 5,.tmp 6]:=rfl
 refine bodyPost_ret (UT (cs:=Xs) r0 rfl rfl rfl HR.out.1 (by rw [hXl];exact HR.out.2) HK.out.1) rfl ?_
 exact ⟨_,M,rfl,HY.out.2.2.2.2.2.1,HK.out.2.2,HY.out.2.2.2.1,HY.out.2.2.2.2.1,HK.out.2.1⟩
theorem jgA {m:Mem}:Rep m je (YD exJ) (.agg ([.int .i64 0,.int .i64 0,.int .i64 0,.int .i64 0,.int .i64 0,.int .i64 0,.int .i64 0,.int .i64 0,.int .i64 0,.int .i64 0,.int .i64 0,.bool false,.int .i64 0,.int .i64 0,.bool false,.int .i64 0,.int .i64 0,.int .i64 0,.int .i64 0,.bool false,.int .i64 0,.int .i64 0,.int .i64 0,.int .i64 0]).toArray):=.agg (l:=_) (Ke [_,_,_,_,_,_,_,_,_,_,_,_,_,_,_,_,_,_,_,_,_,_,_,_]) (qx rfl)
theorem atJ {m:Mem} {buf:List UInt8} {a:Option Addr} {n c:Nat} {off o' c':Int} {x:jn} {W:World} (hi:Imm m W) (hr:Rep m je (jW buf) (.slice a n c)) (h:rdF exJ (qi (jd buf) (jh buf) (jf buf) off)=some (x,o',c')):
 Calls Tryz.prog 147 #[.slice a n c,.int .i64 off,.func (.func 148) #[] #[]] W fun e W'=>∃ v M,e=.returned (.tuple #[v,.int .i64 o',.int .i64 c'])/\Rep M je (YD x) v/\Imm M W'/\Mem.le m M/\JG m M W.heap.size/\Below W.heap.size W W':=by
 cases hd:qi (jd buf) (jh buf) (jf buf) off with
 | none=>rw [hd] at h;cases h
 | some r=>
   rw [hd] at h
   rcases r with ec | ⟨x1,o1⟩
   ·cases h
    refine (jgB hi hr hd).mono ?_
    rintro e W' ⟨rfl,hb⟩
    exact ⟨_,m,rfl,jgA,hi.below hb,fun _ _ _ e=>e,JG.refl _ _,hb⟩
   ·cases h
    exact atJ_ok hi hr hd
set_option maxHeartbeats 4000000 in
theorem readJ {m:Mem} {buf:List UInt8} {a:Option Addr} {n c:Nat} {off o' c':Int} {x:jn} {W:World} (hi:Imm m W) (hr:Rep m je (jW buf) (.slice a n c)) (h:rdF exJ (qi (jd buf) (jh buf) (jf buf) off)=some (x,o',c')):
 Calls Tryz.prog 120 #[.slice a n c,.int .i64 off] W fun e W'=>∃ v M,e=.returned (.tuple #[v,.int .i64 o',.int .i64 c'])/\Rep M je (YD x) v/\Imm M W'/\Mem.le m M/\JG m M W.heap.size/\Below W.heap.size W W':=by
 have eA:=Tryz.call147
 have ra:tAg Tryz.prog 75=some true:=by kernel_rfl
 have rz:tSz Tryz.prog 75=some 24:=by kernel_rfl
 have HR:Hid (_/\_):=⟨ra,rz⟩
 have hb:Below W.heap.size W (W.alloc (.cells ([.int .i64 0,.int .i64 0,.int .i64 0,.int .i64 0,.int .i64 0,.int .i64 0,.int .i64 0,.int .i64 0,.int .i64 0,.int .i64 0,.int .i64 0,.bool false,.int .i64 0,.int .i64 0,.bool false,.int .i64 0,.int .i64 0,.int .i64 0,.int .i64 0,.bool false,.int .i64 0,.int .i64 0,.int .i64 0,.int .i64 0]).toArray 75)):=(Below.refl _ _).alloc (Nat.le_refl _) _
 have k1:=atJ (W:=W.alloc (.cells ([.int .i64 0,.int .i64 0,.int .i64 0,.int .i64 0,.int .i64 0,.int .i64 0,.int .i64 0,.int .i64 0,.int .i64 0,.int .i64 0,.int .i64 0,.bool false,.int .i64 0,.int .i64 0,.bool false,.int .i64 0,.int .i64 0,.int .i64 0,.int .i64 0,.bool false,.int .i64 0,.int .i64 0,.int .i64 0,.int .i64 0]).toArray 75)) (hi.below hb) hr h
 have HX:Hid (_/\_):=⟨hb,hi⟩
 clear ra rz hi hr h hb
 go_enter Tryz.func120,Tryz.ntmps120
 go_wp2_with (first
  | (go_at_call 147
     refine k1.mono ?_
     rintro e w2 ⟨v,M,rfl,hR,hi2,hl2,hn2,hb2⟩
     obtain ⟨Xs,rfl,hR1,hR2⟩:=Qn (l:=(YD x).cells) hR
     have hXl:Xs.length=24:=hR1.length.symm
     have HY:Hid (w2.heap[W.heap.size]? = some (.cells ([.int .i64 0,.int .i64 0,.int .i64 0,.int .i64 0,.int .i64 0,.int .i64 0,.int .i64 0,.int .i64 0,.int .i64 0,.int .i64 0,.int .i64 0,.bool false,.int .i64 0,.int .i64 0,.bool false,.int .i64 0,.int .i64 0,.int .i64 0,.int .i64 0,.bool false,.int .i64 0,.int .i64 0,.int .i64 0,.int .i64 0]).toArray 75 (0,0))/\Below W.heap.size W w2/\Imm M w2/\Mem.le m M/\JG m M W.heap.size/\Rep M je (YD x) (.agg Xs.toArray)/\(∀ c∈Xs,jA c=true)/\∀ o,M W.heap.size o=none):=
      ⟨(hb2.block _ (by simp)).trans (Jh W (.cells ([.int .i64 0,.int .i64 0,.int .i64 0,.int .i64 0,.int .i64 0,.int .i64 0,.int .i64 0,.int .i64 0,.int .i64 0,.int .i64 0,.int .i64 0,.bool false,.int .i64 0,.int .i64 0,.bool false,.int .i64 0,.int .i64 0,.int .i64 0,.int .i64 0,.bool false,.int .i64 0,.int .i64 0,.int .i64 0,.int .i64 0]).toArray 75) _ rfl),HX.out.1.trans (hb2.mono (by simp)),hi2,hl2,fun b o u e=>(hn2 b o u e).imp id (fun h=>by simp at h;omega),hR,hR2,hn2.none (by simp) (yi HX.out.2 (Nat.le_refl _))⟩
     clear hb2 hi2 hl2 hn2 hR hR1 hR2 k1)
  | (apply Jd Xs HY.out.1 rfl rfl rfl
     ·rfl
     ·rfl
     ·exact HR.out.2
     ·exact hXl
     ·rfl
     ·exact HY.out.2.2.2.2.2.2.1
     intro w3 h3 g3
     have HK:Hid (_/\_/\_):=⟨h3,HY.out.2.1.grown g3 HY.out.2.1.size (fun k e=>by have:=Option.some.inj e;omega),yG HY.out.2.2.1 g3 HY.out.2.2.2.2.2.2.2⟩
     clear h3 g3))
 have r0:Tryz.f120.results=#[.cell 4 75,.tmp 5,.tmp 6]:=rfl
 refine bodyPost_ret (UT (cs:=Xs) r0 rfl rfl rfl HR.out.1 (by rw [hXl];exact HR.out.2) HK.out.1) rfl ?_
 exact ⟨_,M,rfl,HY.out.2.2.2.2.2.1,HK.out.2.2,HY.out.2.2.2.1,HY.out.2.2.2.2.1,HK.out.2.1⟩
end GoForm
end
