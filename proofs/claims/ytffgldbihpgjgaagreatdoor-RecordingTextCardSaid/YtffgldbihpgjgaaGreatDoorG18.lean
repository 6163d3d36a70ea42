/- recording.parseInput at any fields. No conditions. -/
import Derived.Test.YtffgldbihpgjgaaGreatDoorG17
set_option linter.all false
set_option maxRecDepth 100000
open Go Go.Rx Go.Proofs Go.RowKit
namespace GoForm
set_option maxHeartbeats 40000000 in
theorem pin_all (f0 : List UInt8) (rest:List (List UInt8)) (x:Input × Bool) (hx:recording_parseInput (f0::rest)=some x) (v:Value) (w:World) (hr:Rep (allM w) noNames (e_sl_str (f0::rest)) v):
    Calls Tryz.prog 80 #[v] w fun e w'=>∃ cs,e=.returned (.tuple #[.agg cs.toArray,.bool x.2])∧Below w.heap.size w w'∧∃ k id vx vy val,cs=inX k id vx vy val∧x.1={ Kind:=k,ID:=id,Vec:=⟨vx,vy⟩,Value:=val,Body:=exB,Joint:=exJ }:=by
  obtain ⟨ad,cap,rfl,hcap,hm⟩:=repStrs hr
  obtain ⟨blk,off,rfl,hm2⟩:=hm (by simp)
  have c0:w.cell? ⟨blk,off,none⟩=some (.string ⟨f0.toArray⟩):=hm2 0 _ rfl
  have e43:=Tryz.call43
  have e74:=Tryz.call74
  have S0:Hid (PX w (inX 0 0 0 0 0) ((w.alloc (.cells inZ.toArray 77)).alloc (.cells inZ.toArray 77))):=PX.start w
  have HM:Hid (∀ j x,(f0::rest)[j]? = some x→w.cell? ⟨blk,off+j,none⟩=some (.string ⟨x.toArray⟩)):=hm2
  have HX:Hid (recPinG recording_word input_UsedFields format_ParseInt format_ParseFixed (f0::rest)=some x):=hx
  clear hr hm hm2 hx
  have HC:Hid (w.cell? ⟨blk,off,none⟩=some (.string ⟨f0.toArray⟩)):=c0
  clear c0
  obtain ⟨W0,hW0⟩:∃ W0,W0=((w.alloc (.cells inZ.toArray 77)).alloc (.cells inZ.toArray 77)):=⟨_,rfl⟩
  go_enter Tryz.func80,Tryz.ntmps80
  go_wp2
  go_loopg [5] 12 (fun kx s5 wr=>∃ (i:Nat),s5=.int .i64 ((i:Int)+1)∧i≤12∧12 - i≤kx∧Aside (PX w (inX (kindP recording_word f0 i) 0 0 0 0) wr))
  case atStart=>exact ⟨0,rfl,by omega,by omega,S0.out⟩
  case round =>
    obtain ⟨i,rfl,hi13,hkx,S⟩:=hrel
    by_cases hlt:(i:Int)+1≤12
    · obtain ⟨s,hs⟩:=words (i+1) (by omega) (by omega)
      have wi:IntKind.i64.wrap ((i:Int)+1+1)=(i:Int)+1+1:=by rw [IntKind.wrap_i64];omega
      have hs':recording_word ((i:Int)+1)=some s:=hs
      have hc:FnR Tryz.prog 43 [.v (.int .i64 ((i:Int)+1))] (.v (.string ⟨s.toArray⟩)) []:=c_43.ok ((i:Int)+1,()) [.v (.int .i64 ((i:Int)+1))] s ⟨rfl,trivial⟩ hs'
      have kc:∀ w',Below wr.heap.size wr w'→Calls Tryz.prog 43 #[.int .i64 ((i:Int)+1)] w' fun e w''=>e=.returned (.string ⟨s.toArray⟩)∧Below wr.heap.size wr w'':=fun w' hw=>by
        refine (call_v hc w' [.int .i64 ((i:Int)+1)] (.cons .v .nil)).mono ?_
        rintro e w'' ⟨rfl,hb2⟩
        exact ⟨rfl,hw.trans (hb2.mono hw.size)⟩
      have f0c:∀ w',Below wr.heap.size wr w'→w'.cell? ⟨blk,off,none⟩=some (.string ⟨f0.toArray⟩):=fun w' hw=>((imm_all w).below (S.out.go hw).bel) _ _ _ HC.out
      have HS:Hid (recording_word ((i:Int)+1)=some s):=hs'
      clear hc hs hs'
      go_wp2
      refine wp_region_bel mixed47 (by kernel_rfl) ?_
      go_big_quiet_want
      go_big_quiet_op
      first | go_big_quiet_on | (refine ⟨_,fun _ _=>rfl,?_⟩;go_big_quiet_on)
      go_big_quiet_want
      refine quiet_callf (f:=43) (xs:=#[.tmp 19]) (tys:=#[63]) (vs:=#[.int .i64 ((i:Int)+1)]) (v:=.string ⟨s.toArray⟩) rfl e43 (by simp [Act.eval]) (fun w' hw'=>kc w' hw') ?_
      simp only [Act.put,List.setIfInBounds_toArray,List.set_cons_succ,List.set_cons_zero]
      go_big_quiet_on
      go_big_quiet_want
      go_big_quiet_op
      first | go_big_quiet_on | (refine ⟨_,fun _ _=>rfl,?_⟩;go_big_quiet_on)
      go_big_quiet_want
      go_big_quiet_op
      first | go_big_quiet_on | (refine ⟨_,fun _ _=>rfl,?_⟩;go_big_quiet_on)
      go_big_quiet_want
      refine quiet_load1 (ad:=⟨blk,off,none⟩) (v:=.string ⟨f0.toArray⟩) rfl rfl (by kernel_rfl) (fun w' hw=>f0c w' hw) ?_
      simp only [Act.put,List.setIfInBounds_toArray,List.set_cons_succ,List.set_cons_zero]
      go_big_quiet_on
      go_big_quiet_want
      go_big_quiet_op
      first | go_big_quiet_on | (refine ⟨_,fun _ _=>rfl,?_⟩;go_big_quiet_on)
      refine wpQuiet_nil ?_
      intro W1 hW1
      have S1:Hid (PX w (inX (kindP recording_word f0 i) 0 0 0 0) W1):=S.out.go hW1
      clear kc f0c S hW1
      by_cases h1:s=f0
      · have hq:(s==f0)=true:=by rw [beq_iff_eq];exact h1
        rw [hq]
        have hk:kindP recording_word f0 (i+1)=(i:Int)+1:=by
          show (if recording_word ((i:Int)+1)=some f0 then (i:Int)+1 else kindP recording_word f0 i)=_
          rw [HS.out,h1,if_pos rfl]
        go_wp2_with (first
          | (refine wpList_store1 (arr:=inX (kindP recording_word f0 i) 0 0 0 0) rfl rfl rfl rfl rfl rfl (by kernel_rfl) S1.out.x (by exact Nat.lt_of_sub_eq_succ rfl) rfl ?_;intro W2 hX hg;have S2:Aside (PX w (inX ((i:Int)+1) 0 0 0 0) W2):=S1.out.store hX hg;clear hX hg))
        go_roundg (12 - (i+1))
        case measure=>omega
        case rel=>exact ⟨i+1,by simp,by omega,by omega,by rw [hk];exact S2⟩
      · have hq:(s==f0)=false:=by rw [beq_eq_false_iff_ne];exact h1
        rw [hq]
        have hk:kindP recording_word f0 (i+1)=kindP recording_word f0 i:=by
          show (if recording_word ((i:Int)+1)=some f0 then (i:Int)+1 else kindP recording_word f0 i)=_
          rw [HS.out,if_neg (fun e=>h1 (Option.some.inj e))]
        have S2:Aside (PX w (inX (kindP recording_word f0 i) 0 0 0 0) W1):=S1.out
        clear S1
        go_wp2
        go_roundg (12 - (i+1))
        case measure=>omega
        case rel=>exact ⟨i+1,by simp,by omega,by omega,by rw [hk];exact S2⟩
    · have hi : i = 12 := by omega
      subst hi
      obtain ⟨kind,hkind⟩:∃ kind,kind=kindP recording_word f0 12:=⟨_,rfl⟩
      have S1:Hid (PX w (inX kind 0 0 0 0) wr):=by rw [hkind];exact S
      obtain ⟨⟨u1,vec,value⟩,hu⟩:=used_some kind
      have HX2:Hid ((if kind=0∨rest.length≠(offsP vec value).length then some (mkIn 0 false false [],false) else match parL format_ParseInt format_ParseFixed 0 rest with
        | none=>none
        | some none=>some (mkIn 0 false false [],false)
        | some (some l)=>some (mkIn kind vec value l,true))=some x):=by
        subst hkind
        have hu':input_UsedFields (kindP recording_word f0 12)=some (u1,vec,value):=hu
        have:=HX.out
        unfold recPinG at this
        dsimp only at this
        rw [hu'] at this
        exact this
      clear S S0 HX hW0 hkind hlt hkx
      have d1:wr.cell? ⟨w.heap.size+1,0,none⟩=some (.int .i64 kind):=box_cell S1.out.x 0 rfl
      have k74:=call_r (c_74.ok (kind,()) [.v (.int .i64 kind)] ((u1,vec,value):Bool × Bool × Bool) ⟨rfl,trivial⟩ hu) wr [.int .i64 kind] (.cons .v .nil)
      obtain ⟨i185,a1,a2,a3,a4⟩:=info_parts (P:=Tryz.prog) (e:=185) (z:=.pointer none) (size:=1) (bytes:=8) (by kernel_rfl)
      have HI:Hid (_∧_∧_∧_):=⟨a1,a2,a3,a4⟩
      have ra:tAg Tryz.prog 77=some true:=by kernel_rfl
      have rz:tSz Tryz.prog 77=some 49:=by kernel_rfl
      have HR:Hid (_∧_):=⟨ra,rz⟩
      clear a1 a2 a3 a4 ra rz hu
      cases vec <;> cases value
      all_goals go_upto_region 13 with (first
        | (go_at_call 74;refine k74.mono ?_;rintro e w3 ⟨v,rfl,hb,hrep⟩
           obtain ⟨vs,rfl,hvs⟩:=rep_tup hrep
           first
             | obtain rfl:vs=[.bool u1,.bool false,.bool false]:=repsV_eq (l:=[.bool u1,.bool false,.bool false]) hvs
             | obtain rfl:vs=[.bool u1,.bool false,.bool true]:=repsV_eq (l:=[.bool u1,.bool false,.bool true]) hvs
             | obtain rfl:vs=[.bool u1,.bool true,.bool false]:=repsV_eq (l:=[.bool u1,.bool true,.bool false]) hvs
             | obtain rfl:vs=[.bool u1,.bool true,.bool true]:=repsV_eq (l:=[.bool u1,.bool true,.bool true]) hvs
           have T1:Hid (PT w (inX kind 0 0 0 0) (.slice (some ⟨w3.heap.size,0,none⟩) 1 1) [1] (w3.alloc (.cells #[.pointer (some ⟨w.heap.size+1,1,none⟩)] 185))):=PT.new (S1.out.go hb)
           clear hb hvs hrep k74 d1)
        | (at_builtin;refine wpList_append_two rfl (.tmp 37) (.tmp 42) 186 rfl (w.heap.size+2) 185 i185 (.pointer none) 1 8 Tryz.underlying186 HI.out.1 HI.out.2.1 HI.out.2.2.1 HI.out.2.2.2 rfl (by decide) (.slice (some ⟨w3.heap.size,0,none⟩) 1 1) 1 [ptX w 1] rfl (T1.out.go ((Below.refl _ _).alloc (Nat.le_refl _) _)).row ⟨w3.heap.size+1,0,none⟩ 2 2 [.pointer (some ⟨w.heap.size+1,2,none⟩),.pointer (some ⟨w.heap.size+1,3,none⟩)] rfl rfl (cells_new _ [.pointer (some ⟨w.heap.size+1,2,none⟩),.pointer (some ⟨w.heap.size+1,3,none⟩)] 185 _ (by simp)) (by intro u hu;simp at hu;rcases hu with rfl | rfl <;> rfl) (by decide) (by decide) (by have:=T1.out.px.lt;simp at this ⊢;omega) (by decide) ?_
           intro v4 w4 hown4 hgrow4 hblk4
           have T2:Hid (PT w (inX kind 0 0 0 0) v4 [1,2,3] w4):=(T1.out.go ((Below.refl _ _).alloc (Nat.le_refl _) _)).app (more:=[2,3]) hown4 hgrow4
           obtain ⟨va,vc,rfl⟩:∃ a c,v4=.slice (some ⟨a,0,none⟩) 3 c:=T2.out.slice (by decide)
           clear hown4 hgrow4 hblk4)
        | (at_builtin;refine wpList_append_two rfl (.tmp 45) (.tmp 47) 186 rfl (w.heap.size+2) 185 i185 (.pointer none) 1 8 Tryz.underlying186 HI.out.1 HI.out.2.1 HI.out.2.2.1 HI.out.2.2.2 rfl (by decide) (.slice (some ⟨va,0,none⟩) 3 vc) 3 [ptX w 1,ptX w 2,ptX w 3] rfl (T2.out.go ((Below.refl _ _).alloc (Nat.le_refl _) _)).row ⟨w4.heap.size,0,none⟩ 1 1 [.pointer (some ⟨w.heap.size+1,4,none⟩)] rfl rfl (cells_new _ [.pointer (some ⟨w.heap.size+1,4,none⟩)] 185 _ rfl) (by intro u hu;simp at hu;subst hu;rfl) (by decide) (by decide) (by have:=T2.out.px.lt;simp at this ⊢;omega) (by decide) ?_
           intro v5 w5 hown5 hgrow5 hblk5
           have T3:Hid (PT w (inX kind 0 0 0 0) v5 [1,2,3,4] w5):=(T2.out.go ((Below.refl _ _).alloc (Nat.le_refl _) _)).app (more:=[4]) hown5 hgrow5
           obtain ⟨vb,vd,rfl⟩:∃ a c,v5=.slice (some ⟨a,0,none⟩) 4 c:=T3.out.slice (by decide)
           clear hown5 hgrow5 hblk5)
        | (at_builtin;refine wpList_append_two rfl (.tmp 45) (.tmp 47) 186 rfl (w.heap.size+2) 185 i185 (.pointer none) 1 8 Tryz.underlying186 HI.out.1 HI.out.2.1 HI.out.2.2.1 HI.out.2.2.2 rfl (by decide) (.slice (some ⟨w3.heap.size,0,none⟩) 1 1) 1 [ptX w 1] rfl (T1.out.go ((Below.refl _ _).alloc (Nat.le_refl _) _)).row ⟨w3.heap.size+1,0,none⟩ 1 1 [.pointer (some ⟨w.heap.size+1,4,none⟩)] rfl rfl (cells_new _ [.pointer (some ⟨w.heap.size+1,4,none⟩)] 185 _ (by simp)) (by intro u hu;simp at hu;subst hu;rfl) (by decide) (by decide) (by have:=T1.out.px.lt;simp at this ⊢;omega) (by decide) ?_
           intro v5 w5 hown5 hgrow5 hblk5
           have T3:Hid (PT w (inX kind 0 0 0 0) v5 [1,4] w5):=(T1.out.go ((Below.refl _ _).alloc (Nat.le_refl _) _)).app (more:=[4]) hown5 hgrow5
           obtain ⟨vb,vd,rfl⟩:∃ a c,v5=.slice (some ⟨a,0,none⟩) 2 c:=T3.out.slice (by decide)
           clear hown5 hgrow5 hblk5))
      · generalize hW5 : w3.alloc (.cells #[.pointer (some ⟨w.heap.size+1,1,none⟩)] 185)=W5 at T1 ⊢
        have T:Hid (PT w (inX kind 0 0 0 0) (.slice (some ⟨w3.heap.size,0,none⟩) 1 1) [1] W5):=T1
        have HX3:Hid ((if kind=0∨rest.length≠1 then some (mkIn 0 false false [],false) else match parL format_ParseInt format_ParseFixed 0 rest with
          | none=>none
          | some none=>some (mkIn 0 false false [],false)
          | some (some l)=>some (mkIn kind false false l,true))=some x):=HX2.out
        have d2:W5.cell? ⟨w.heap.size+1,0,none⟩=some (.int .i64 kind):=box_cell T.out.px.x 0 rfl
        by_cases hk0:kind=0
        · subst hk0
          have ex:(mkIn 0 false false [],false)=x:=Option.some.inj ((if_pos (.inl rfl)).symm.trans HX3.out)
          go_wp2_with (first
            | (refine wpList_storeat (cs:=inZ) (arr:=inZ) rfl rfl rfl rfl rfl (by kernel_rfl) T.out.px.z (by exact Nat.le_refl 49) (inX_one 0 0 0 0 0) ?_;intro w6 hz hg
               have R5:Hid (w6.heap[w.heap.size]? = some (.cells inZ.toArray 77 (0,0))∧Below w.heap.size w w6):=⟨hz,T.out.px.bel.grown hg T.out.px.bel.size (fun g e=>by have:=Option.some.inj e;omega)⟩;clear hz hg))
          have r0:Tryz.f80.results=#[.cell 2 77,.tmp 3]:=rfl
          refine bodyPost_ret (results_box2 (cs:=inZ) r0 rfl rfl HR.out.1 HR.out.2 R5.out.1) rfl ?_
          subst ex
          exact ⟨inZ,rfl,R5.out.2,0,0,0,0,0,rfl,rfl⟩
        · by_cases hlen : rest.length=1
          · have hk1 : (kind==0)=false:=by rw [beq_eq_false_iff_ne];exact hk0
            have hN3:((rest.length:Int)+1 != 2)=false:=by rw [bne_eq_false_iff_eq];omega
            have HX4:Hid ((match parL format_ParseInt format_ParseFixed 0 rest with
              | none=>none
              | some none=>some (mkIn 0 false false [],false)
              | some (some l)=>some (mkIn kind false false l,true))=some x):=(if_neg (by rintro (h | h);exact hk0 h;exact h hlen)).symm.trans HX3.out
            have hl1:rest.length≤1:=by omega
            have hl2:1≤rest.length:=by omega
            clear hlen
            have e124:=Tryz.call124
            have e125:=Tryz.call125
            go_wp2
            go_loopg [63] 1 (fun kx s63 wr=>∃ (i:Nat) (vs:List Int),s63=.int .i64 i∧i≤1∧1 - i≤kx∧vs.length=i∧(match parL format_ParseInt format_ParseFixed i (rest.drop i) with
              | none=>none
              | some none=>some (mkIn 0 false false [],false)
              | some (some l)=>some (mkIn kind false false (vs++l),true))=some x∧Aside (PT w (setX (inX kind 0 0 0 0) (([1]:List Nat).take i) vs) (.slice (some ⟨w3.heap.size,0,none⟩) 1 1) [1] wr))
            case atStart=>exact ⟨0,[],rfl,by omega,by omega,rfl,HX4.out,T.out⟩
            case round =>
              obtain ⟨i,vs,rfl,him,hkx,hvs,hpar,SL⟩:=hrel
              have S4:Hid (PT w (setX (inX kind 0 0 0 0) (([1]:List Nat).take i) vs) (.slice (some ⟨w3.heap.size,0,none⟩) 1 1) [1] wr):=SL
              clear SL
              by_cases hlt:(i:Int)<1
              · obtain ⟨o, ho⟩:∃ o,([1]:List Nat)[i]? = some o:=⟨_,List.getElem?_eq_getElem (by simp;omega)⟩
                obtain ⟨g',c',eg,hcell⟩:=S4.out.cell ho
                have ho5:o<5:=by have:=List.mem_of_getElem? ho;simp at this;omega
                cases eg
                unfold ptX at hcell
                obtain ⟨s,hs⟩:∃ s,rest[i]? = some s:=⟨_,List.getElem?_eq_getElem (by omega)⟩
                have hdrop:rest.drop i=s::rest.drop (i+1):=by
                  have h:=(List.getElem?_eq_some_iff.1 hs)
                  rw [List.drop_eq_getElem_cons h.1,h.2]
                have cs0:wr.cell? ⟨blk,off+(i+1),none⟩=some (.string ⟨s.toArray⟩):=((imm_all w).below S4.out.px.bel) _ _ _ (HM.out (i+1) s (by simpa using hs))
                have w1:IntKind.i64.wrap (1+(i:Int))=((i+1:Nat):Int):=by rw [IntKind.wrap_i64];omega
                have w2:IntKind.i64.wrap ((i:Int)+1)=((i+1:Nat):Int):=by rw [IntKind.wrap_i64];omega
                have pi1:(0:Int)≤((i+1:Nat):Int):=by omega
                have pi2:((i+1:Nat):Int)<(rest.length:Int)+1:=by omega
                have pi3:(0:Int)≤(i:Int):=by omega
                rw [hdrop] at hpar
                cases hp:(if i=0 then format_ParseInt s else format_ParseFixed s) with
                | none=>rw [parL,hp] at hpar;cases hpar
                | some q =>
                  obtain ⟨n,c⟩:=q
                  rw [parL,hp] at hpar
                  dsimp only at hpar
                  have HP:Hid (_):=hpar
                  have HD:Hid (_∧_):=⟨ho,ho5⟩
                  rcases Decidable.em (i=0) with hi0 | hi0
                  all_goals (first
                    | (have hp':format_ParseInt s=some (n,c):=hp.symm.trans (if_pos hi0) |>.symm
                       have hbI:((i:Int)==0)=true:=by rw [beq_iff_eq];omega
                       have hc:FnR Tryz.prog 125 [e_str s] (.tup [.v (.int .i64 n),.v (.int .i64 c)]) []:=c_125.ok (s,()) [e_str s] ((n,c):Int × Int) ⟨rfl,trivial⟩ hp'
                       have kP:Calls Tryz.prog 125 #[.string ⟨s.toArray⟩] wr fun e w'=>e=.returned (.tuple #[.int .i64 n,.int .i64 c])∧Below wr.heap.size wr w':=by
                         refine (call_r hc wr [.string ⟨s.toArray⟩] (.cons .v .nil)).mono ?_
                         rintro e w' ⟨v,rfl,hb,hrep⟩
                         obtain ⟨vs',rfl,hvs'⟩:=rep_tup hrep
                         obtain rfl:vs'=[.int .i64 n,.int .i64 c]:=repsV_eq (l:=[.int .i64 n,.int .i64 c]) hvs'
                         exact ⟨rfl,hb⟩
                       clear hp hp' hc hpar ho ho5 hdrop hs hi0)
                    | (have hp':format_ParseFixed s=some (n,c):=hp.symm.trans (if_neg hi0) |>.symm
                       have hbI:((i:Int)==0)=false:=by rw [beq_eq_false_iff_ne];omega
                       have hc:FnR Tryz.prog 124 [e_str s] (.tup [.v (.int .i64 n),.v (.int .i64 c)]) []:=c_124.ok (s,()) [e_str s] ((n,c):Int × Int) ⟨rfl,trivial⟩ hp'
                       have kP:Calls Tryz.prog 124 #[.string ⟨s.toArray⟩] wr fun e w'=>e=.returned (.tuple #[.int .i64 n,.int .i64 c])∧Below wr.heap.size wr w':=by
                         refine (call_r hc wr [.string ⟨s.toArray⟩] (.cons .v .nil)).mono ?_
                         rintro e w' ⟨v,rfl,hb,hrep⟩
                         obtain ⟨vs',rfl,hvs'⟩:=rep_tup hrep
                         obtain rfl:vs'=[.int .i64 n,.int .i64 c]:=repsV_eq (l:=[.int .i64 n,.int .i64 c]) hvs'
                         exact ⟨rfl,hb⟩
                       clear hp hp' hc hpar ho ho5 hdrop hs hi0))
                  all_goals
                    by_cases hc0:c=0
                    · subst hc0
                      go_wp2_with (first
                        | (first | go_at_call 125 | go_at_call 124
                           refine kP.mono ?_;rintro e w6 ⟨rfl,hb6⟩
                           have S5:Hid (PT w (setX (inX kind 0 0 0 0) (([1]:List Nat).take i) vs) (.slice (some ⟨w3.heap.size,0,none⟩) 1 1) [1] w6):=S4.out.go hb6
                           clear hb6 kP)
                        | (refine wpList_store1 (b:=w.heap.size+1) (off:=o) (v:=.int .i64 n) (arr:=setX (inX kind 0 0 0 0) (([1]:List Nat).take i) vs) rfl rfl rfl rfl rfl rfl (by kernel_rfl) S5.out.px.x (by rw [setX_len];exact Nat.lt_of_lt_of_le HD.out.2 (by exact Nat.le_of_sub_eq_zero rfl)) rfl ?_
                           intro w7 hX7 hg7
                           have S6:Hid (PT w ((setX (inX kind 0 0 0 0) (([1]:List Nat).take i) vs).set o (.int .i64 n)) (.slice (some ⟨w3.heap.size,0,none⟩) 1 1) [1] w7):=S5.out.store hX7 hg7
                           clear hX7 hg7))
                      go_roundg (1 - (i+1))
                      case measure=>omega
                      case rel=>
                        have ht:([1]:List Nat).take (i+1)=([1]:List Nat).take i++[o]:=by rw [List.take_succ,HD.out.1];rfl
                        refine ⟨i+1,vs++[n],by simp,by omega,by omega,by simp [hvs],?_,?_⟩
                        · have hq:=HP.out
                          rw [if_neg (by simp)] at hq
                          revert hq
                          cases parL format_ParseInt format_ParseFixed (i+1) (rest.drop (i+1)) with
                          | none=>exact id
                          | some y=>cases y with
                            | none=>exact id
                            | some l=>intro hq;show some (mkIn _ _ _ (vs++[n]++l),true)=some x;rw [List.append_assoc];exact hq
                        · rw [ht,setX_snoc o n _ vs _ (by rw [List.length_take,hvs];simp;omega)]
                          exact S6.out
                    · have hc1:(c==0)=false:=by rw [beq_eq_false_iff_ne];exact hc0
                      have hc2:(c != 0)=true:=by rw [bne_iff_ne];exact hc0
                      have ex:(mkIn 0 false false [],false)=x:=by
                        have hq:=HP.out
                        rw [if_pos hc0] at hq
                        exact Option.some.inj hq
                      go_wp2_with (first
                        | (first | go_at_call 125 | go_at_call 124
                           refine kP.mono ?_;rintro e w6 ⟨rfl,hb6⟩
                           have S5:Hid (PT w (setX (inX kind 0 0 0 0) (([1]:List Nat).take i) vs) (.slice (some ⟨w3.heap.size,0,none⟩) 1 1) [1] w6):=S4.out.go hb6
                           clear hb6 kP)
                        | (refine wpList_storeat (cs:=inZ) (arr:=inZ) rfl rfl rfl rfl rfl (by kernel_rfl) S5.out.px.z (by exact Nat.le_refl 49) (inX_one 0 0 0 0 0) ?_;intro w7 hz hg
                           have R5:Hid (w7.heap[w.heap.size]? = some (.cells inZ.toArray 77 (0,0))∧Below w.heap.size w w7):=⟨hz,S5.out.px.bel.grown hg S5.out.px.bel.size (fun g e=>by have:=Option.some.inj e;omega)⟩;clear hz hg))
                      have r0:Tryz.f80.results=#[.cell 2 77,.tmp 3]:=rfl
                      refine bodyPost_ret (results_box2 (cs:=inZ) r0 rfl rfl HR.out.1 HR.out.2 R5.out.1) rfl ?_
                      subst ex
                      exact ⟨inZ,rfl,R5.out.2,0,0,0,0,0,rfl,rfl⟩
              · have hi:i=1:=by omega
                subst hi
                have hdr:rest.drop 1=[]:=List.drop_eq_nil_of_le (by omega)
                rw [hdr] at hpar
                have ex:(mkIn kind false false (vs++[]),true)=x:=Option.some.inj hpar
                rw [List.append_nil] at ex
                obtain ⟨id_,vx,vy,val_,hcs,hmk⟩:=mkIn_cells kind false false vs (by rw [hvs];rfl)
                have S5:Hid (PT w (inX kind id_ vx vy val_) (.slice (some ⟨w3.heap.size,0,none⟩) 1 1) [1] wr):=by rw [← hcs];exact S4.out
                clear S4 hpar
                go_wp2_with (first
                  | (refine wpList_loadat (b:=w.heap.size+1) (off:=0) (cs:=inX kind id_ vx vy val_) (arr:=(inX kind id_ vx vy val_).toArray) rfl rfl rfl rfl HR.out.1 HR.out.2 S5.out.px.x (fun j v e=>by rw [Nat.zero_add];simpa using e) ?_)
                  | (refine wpList_storeat (cs:=inX kind id_ vx vy val_) (arr:=inZ) rfl rfl rfl rfl rfl (by kernel_rfl) S5.out.px.z (by exact Nat.le_refl 49) (inX_one _ _ _ _ _) ?_;intro w7 hz hg
                     have R5:Hid (w7.heap[w.heap.size]? = some (.cells (inX kind id_ vx vy val_).toArray 77 (0,0))∧Below w.heap.size w w7):=⟨hz,S5.out.px.bel.grown hg S5.out.px.bel.size (fun g e=>by have:=Option.some.inj e;omega)⟩;clear hz hg))
                have r0:Tryz.f80.results=#[.cell 2 77,.tmp 3]:=rfl
                refine bodyPost_ret (results_box2 (cs:=inX kind id_ vx vy val_) r0 rfl rfl HR.out.1 HR.out.2 R5.out.1) rfl ?_
                subst ex
                exact ⟨_,rfl,R5.out.2,kind,id_,vx,vy,val_,rfl,hmk⟩
          · have hN3:((rest.length:Int)+1 != 2)=true:=by rw [bne_iff_ne];omega
            have hk1:(kind==0)=false:=by rw [beq_eq_false_iff_ne];exact hk0
            have ex:(mkIn 0 false false [],false)=x:=Option.some.inj ((if_pos (.inr (by omega))).symm.trans HX3.out)
            go_wp2_with (first
              | (refine wpList_storeat (cs:=inZ) (arr:=inZ) rfl rfl rfl rfl rfl (by kernel_rfl) T.out.px.z (by exact Nat.le_refl 49) (inX_one 0 0 0 0 0) ?_;intro w6 hz hg
                 have R5:Hid (w6.heap[w.heap.size]? = some (.cells inZ.toArray 77 (0,0))∧Below w.heap.size w w6):=⟨hz,T.out.px.bel.grown hg T.out.px.bel.size (fun g e=>by have:=Option.some.inj e;omega)⟩;clear hz hg))
            have r0:Tryz.f80.results=#[.cell 2 77,.tmp 3]:=rfl
            refine bodyPost_ret (results_box2 (cs:=inZ) r0 rfl rfl HR.out.1 HR.out.2 R5.out.1) rfl ?_
            subst ex
            exact ⟨inZ,rfl,R5.out.2,0,0,0,0,0,rfl,rfl⟩
      · have T : Hid (PT w (inX kind 0 0 0 0) (.slice (some ⟨vb,0,none⟩) 2 vd) [1,4] w5):=T3
        have HX3:Hid ((if kind=0∨rest.length≠2 then some (mkIn 0 false false [],false) else match parL format_ParseInt format_ParseFixed 0 rest with
          | none=>none
          | some none=>some (mkIn 0 false false [],false)
          | some (some l)=>some (mkIn kind false true l,true))=some x):=HX2.out
        have d2:w5.cell? ⟨w.heap.size+1,0,none⟩=some (.int .i64 kind):=box_cell T.out.px.x 0 rfl
        by_cases hk0:kind=0
        · subst hk0
          have ex:(mkIn 0 false false [],false)=x:=Option.some.inj ((if_pos (.inl rfl)).symm.trans HX3.out)
          go_wp2_with (first
            | (refine wpList_storeat (cs:=inZ) (arr:=inZ) rfl rfl rfl rfl rfl (by kernel_rfl) T.out.px.z (by exact Nat.le_refl 49) (inX_one 0 0 0 0 0) ?_;intro w6 hz hg
               have R5:Hid (w6.heap[w.heap.size]? = some (.cells inZ.toArray 77 (0,0))∧Below w.heap.size w w6):=⟨hz,T.out.px.bel.grown hg T.out.px.bel.size (fun g e=>by have:=Option.some.inj e;omega)⟩;clear hz hg))
          have r0:Tryz.f80.results=#[.cell 2 77,.tmp 3]:=rfl
          refine bodyPost_ret (results_box2 (cs:=inZ) r0 rfl rfl HR.out.1 HR.out.2 R5.out.1) rfl ?_
          subst ex
          exact ⟨inZ,rfl,R5.out.2,0,0,0,0,0,rfl,rfl⟩
        · by_cases hlen : rest.length=2
          · have hk1 : (kind==0)=false:=by rw [beq_eq_false_iff_ne];exact hk0
            have hN3:((rest.length:Int)+1 != 3)=false:=by rw [bne_eq_false_iff_eq];omega
            have HX4:Hid ((match parL format_ParseInt format_ParseFixed 0 rest with
              | none=>none
              | some none=>some (mkIn 0 false false [],false)
              | some (some l)=>some (mkIn kind false true l,true))=some x):=(if_neg (by rintro (h | h);exact hk0 h;exact h hlen)).symm.trans HX3.out
            have hl1:rest.length≤2:=by omega
            have hl2:2≤rest.length:=by omega
            clear hlen
            have e124:=Tryz.call124
            have e125:=Tryz.call125
            go_wp2
            go_loopg [63] 2 (fun kx s63 wr=>∃ (i:Nat) (vs:List Int),s63=.int .i64 i∧i≤2∧2 - i≤kx∧vs.length=i∧(match parL format_ParseInt format_ParseFixed i (rest.drop i) with
              | none=>none
              | some none=>some (mkIn 0 false false [],false)
              | some (some l)=>some (mkIn kind false true (vs++l),true))=some x∧Aside (PT w (setX (inX kind 0 0 0 0) (([1,4]:List Nat).take i) vs) (.slice (some ⟨vb,0,none⟩) 2 vd) [1,4] wr))
            case atStart=>exact ⟨0,[],rfl,by omega,by omega,rfl,HX4.out,T.out⟩
            case round =>
              obtain ⟨i,vs,rfl,him,hkx,hvs,hpar,SL⟩:=hrel
              have S4:Hid (PT w (setX (inX kind 0 0 0 0) (([1,4]:List Nat).take i) vs) (.slice (some ⟨vb,0,none⟩) 2 vd) [1,4] wr):=SL
              clear SL
              by_cases hlt:(i:Int)<2
              · obtain ⟨o, ho⟩:∃ o,([1,4]:List Nat)[i]? = some o:=⟨_,List.getElem?_eq_getElem (by simp;omega)⟩
                obtain ⟨g',c',eg,hcell⟩:=S4.out.cell ho
                have ho5:o<5:=by have:=List.mem_of_getElem? ho;simp at this;omega
                cases eg
                unfold ptX at hcell
                obtain ⟨s,hs⟩:∃ s,rest[i]? = some s:=⟨_,List.getElem?_eq_getElem (by omega)⟩
                have hdrop:rest.drop i=s::rest.drop (i+1):=by
                  have h:=(List.getElem?_eq_some_iff.1 hs)
                  rw [List.drop_eq_getElem_cons h.1,h.2]
                have cs0:wr.cell? ⟨blk,off+(i+1),none⟩=some (.string ⟨s.toArray⟩):=((imm_all w).below S4.out.px.bel) _ _ _ (HM.out (i+1) s (by simpa using hs))
                have w1:IntKind.i64.wrap (1+(i:Int))=((i+1:Nat):Int):=by rw [IntKind.wrap_i64];omega
                have w2:IntKind.i64.wrap ((i:Int)+1)=((i+1:Nat):Int):=by rw [IntKind.wrap_i64];omega
                have pi1:(0:Int)≤((i+1:Nat):Int):=by omega
                have pi2:((i+1:Nat):Int)<(rest.length:Int)+1:=by omega
                have pi3:(0:Int)≤(i:Int):=by omega
                rw [hdrop] at hpar
                cases hp:(if i=0 then format_ParseInt s else format_ParseFixed s) with
                | none=>rw [parL,hp] at hpar;cases hpar
                | some q =>
                  obtain ⟨n,c⟩:=q
                  rw [parL,hp] at hpar
                  dsimp only at hpar
                  have HP:Hid (_):=hpar
                  have HD:Hid (_∧_):=⟨ho,ho5⟩
                  rcases Decidable.em (i=0) with hi0 | hi0
                  all_goals (first
                    | (have hp':format_ParseInt s=some (n,c):=hp.symm.trans (if_pos hi0) |>.symm
                       have hbI:((i:Int)==0)=true:=by rw [beq_iff_eq];omega
                       have hc:FnR Tryz.prog 125 [e_str s] (.tup [.v (.int .i64 n),.v (.int .i64 c)]) []:=c_125.ok (s,()) [e_str s] ((n,c):Int × Int) ⟨rfl,trivial⟩ hp'
                       have kP:Calls Tryz.prog 125 #[.string ⟨s.toArray⟩] wr fun e w'=>e=.returned (.tuple #[.int .i64 n,.int .i64 c])∧Below wr.heap.size wr w':=by
                         refine (call_r hc wr [.string ⟨s.toArray⟩] (.cons .v .nil)).mono ?_
                         rintro e w' ⟨v,rfl,hb,hrep⟩
                         obtain ⟨vs',rfl,hvs'⟩:=rep_tup hrep
                         obtain rfl:vs'=[.int .i64 n,.int .i64 c]:=repsV_eq (l:=[.int .i64 n,.int .i64 c]) hvs'
                         exact ⟨rfl,hb⟩
                       clear hp hp' hc hpar ho ho5 hdrop hs hi0)
                    | (have hp':format_ParseFixed s=some (n,c):=hp.symm.trans (if_neg hi0) |>.symm
                       have hbI:((i:Int)==0)=false:=by rw [beq_eq_false_iff_ne];omega
                       have hc:FnR Tryz.prog 124 [e_str s] (.tup [.v (.int .i64 n),.v (.int .i64 c)]) []:=c_124.ok (s,()) [e_str s] ((n,c):Int × Int) ⟨rfl,trivial⟩ hp'
                       have kP:Calls Tryz.prog 124 #[.string ⟨s.toArray⟩] wr fun e w'=>e=.returned (.tuple #[.int .i64 n,.int .i64 c])∧Below wr.heap.size wr w':=by
                         refine (call_r hc wr [.string ⟨s.toArray⟩] (.cons .v .nil)).mono ?_
                         rintro e w' ⟨v,rfl,hb,hrep⟩
                         obtain ⟨vs',rfl,hvs'⟩:=rep_tup hrep
                         obtain rfl:vs'=[.int .i64 n,.int .i64 c]:=repsV_eq (l:=[.int .i64 n,.int .i64 c]) hvs'
                         exact ⟨rfl,hb⟩
                       clear hp hp' hc hpar ho ho5 hdrop hs hi0))
                  all_goals
                    by_cases hc0:c=0
                    · subst hc0
                      go_wp2_with (first
                        | (first | go_at_call 125 | go_at_call 124
                           refine kP.mono ?_;rintro e w6 ⟨rfl,hb6⟩
                           have S5:Hid (PT w (setX (inX kind 0 0 0 0) (([1,4]:List Nat).take i) vs) (.slice (some ⟨vb,0,none⟩) 2 vd) [1,4] w6):=S4.out.go hb6
                           clear hb6 kP)
                        | (refine wpList_store1 (b:=w.heap.size+1) (off:=o) (v:=.int .i64 n) (arr:=setX (inX kind 0 0 0 0) (([1,4]:List Nat).take i) vs) rfl rfl rfl rfl rfl rfl (by kernel_rfl) S5.out.px.x (by rw [setX_len];exact Nat.lt_of_lt_of_le HD.out.2 (by exact Nat.le_of_sub_eq_zero rfl)) rfl ?_
                           intro w7 hX7 hg7
                           have S6:Hid (PT w ((setX (inX kind 0 0 0 0) (([1,4]:List Nat).take i) vs).set o (.int .i64 n)) (.slice (some ⟨vb,0,none⟩) 2 vd) [1,4] w7):=S5.out.store hX7 hg7
                           clear hX7 hg7))
                      go_roundg (2 - (i+1))
                      case measure=>omega
                      case rel=>
                        have ht:([1,4]:List Nat).take (i+1)=([1,4]:List Nat).take i++[o]:=by rw [List.take_succ,HD.out.1];rfl
                        refine ⟨i+1,vs++[n],by simp,by omega,by omega,by simp [hvs],?_,?_⟩
                        · have hq:=HP.out
                          rw [if_neg (by simp)] at hq
                          revert hq
                          cases parL format_ParseInt format_ParseFixed (i+1) (rest.drop (i+1)) with
                          | none=>exact id
                          | some y=>cases y with
                            | none=>exact id
                            | some l=>intro hq;show some (mkIn _ _ _ (vs++[n]++l),true)=some x;rw [List.append_assoc];exact hq
                        · rw [ht,setX_snoc o n _ vs _ (by rw [List.length_take,hvs];simp;omega)]
                          exact S6.out
                    · have hc1:(c==0)=false:=by rw [beq_eq_false_iff_ne];exact hc0
                      have hc2:(c != 0)=true:=by rw [bne_iff_ne];exact hc0
                      have ex:(mkIn 0 false false [],false)=x:=by
                        have hq:=HP.out
                        rw [if_pos hc0] at hq
                        exact Option.some.inj hq
                      go_wp2_with (first
                        | (first | go_at_call 125 | go_at_call 124
                           refine kP.mono ?_;rintro e w6 ⟨rfl,hb6⟩
                           have S5:Hid (PT w (setX (inX kind 0 0 0 0) (([1,4]:List Nat).take i) vs) (.slice (some ⟨vb,0,none⟩) 2 vd) [1,4] w6):=S4.out.go hb6
                           clear hb6 kP)
                        | (refine wpList_storeat (cs:=inZ) (arr:=inZ) rfl rfl rfl rfl rfl (by kernel_rfl) S5.out.px.z (by exact Nat.le_refl 49) (inX_one 0 0 0 0 0) ?_;intro w7 hz hg
                           have R5:Hid (w7.heap[w.heap.size]? = some (.cells inZ.toArray 77 (0,0))∧Below w.heap.size w w7):=⟨hz,S5.out.px.bel.grown hg S5.out.px.bel.size (fun g e=>by have:=Option.some.inj e;omega)⟩;clear hz hg))
                      have r0:Tryz.f80.results=#[.cell 2 77,.tmp 3]:=rfl
                      refine bodyPost_ret (results_box2 (cs:=inZ) r0 rfl rfl HR.out.1 HR.out.2 R5.out.1) rfl ?_
                      subst ex
                      exact ⟨inZ,rfl,R5.out.2,0,0,0,0,0,rfl,rfl⟩
              · have hi:i=2:=by omega
                subst hi
                have hdr:rest.drop 2=[]:=List.drop_eq_nil_of_le (by omega)
                rw [hdr] at hpar
                have ex:(mkIn kind false true (vs++[]),true)=x:=Option.some.inj hpar
                rw [List.append_nil] at ex
                obtain ⟨id_,vx,vy,val_,hcs,hmk⟩:=mkIn_cells kind false true vs (by rw [hvs];rfl)
                have S5:Hid (PT w (inX kind id_ vx vy val_) (.slice (some ⟨vb,0,none⟩) 2 vd) [1,4] wr):=by rw [← hcs];exact S4.out
                clear S4 hpar
                go_wp2_with (first
                  | (refine wpList_loadat (b:=w.heap.size+1) (off:=0) (cs:=inX kind id_ vx vy val_) (arr:=(inX kind id_ vx vy val_).toArray) rfl rfl rfl rfl HR.out.1 HR.out.2 S5.out.px.x (fun j v e=>by rw [Nat.zero_add];simpa using e) ?_)
                  | (refine wpList_storeat (cs:=inX kind id_ vx vy val_) (arr:=inZ) rfl rfl rfl rfl rfl (by kernel_rfl) S5.out.px.z (by exact Nat.le_refl 49) (inX_one _ _ _ _ _) ?_;intro w7 hz hg
                     have R5:Hid (w7.heap[w.heap.size]? = some (.cells (inX kind id_ vx vy val_).toArray 77 (0,0))∧Below w.heap.size w w7):=⟨hz,S5.out.px.bel.grown hg S5.out.px.bel.size (fun g e=>by have:=Option.some.inj e;omega)⟩;clear hz hg))
                have r0:Tryz.f80.results=#[.cell 2 77,.tmp 3]:=rfl
                refine bodyPost_ret (results_box2 (cs:=inX kind id_ vx vy val_) r0 rfl rfl HR.out.1 HR.out.2 R5.out.1) rfl ?_
                subst ex
                exact ⟨_,rfl,R5.out.2,kind,id_,vx,vy,val_,rfl,hmk⟩
          · have hN3:((rest.length:Int)+1 != 3)=true:=by rw [bne_iff_ne];omega
            have hk1:(kind==0)=false:=by rw [beq_eq_false_iff_ne];exact hk0
            have ex:(mkIn 0 false false [],false)=x:=Option.some.inj ((if_pos (.inr (by omega))).symm.trans HX3.out)
            go_wp2_with (first
              | (refine wpList_storeat (cs:=inZ) (arr:=inZ) rfl rfl rfl rfl rfl (by kernel_rfl) T.out.px.z (by exact Nat.le_refl 49) (inX_one 0 0 0 0 0) ?_;intro w6 hz hg
                 have R5:Hid (w6.heap[w.heap.size]? = some (.cells inZ.toArray 77 (0,0))∧Below w.heap.size w w6):=⟨hz,T.out.px.bel.grown hg T.out.px.bel.size (fun g e=>by have:=Option.some.inj e;omega)⟩;clear hz hg))
            have r0:Tryz.f80.results=#[.cell 2 77,.tmp 3]:=rfl
            refine bodyPost_ret (results_box2 (cs:=inZ) r0 rfl rfl HR.out.1 HR.out.2 R5.out.1) rfl ?_
            subst ex
            exact ⟨inZ,rfl,R5.out.2,0,0,0,0,0,rfl,rfl⟩
      · have T : Hid (PT w (inX kind 0 0 0 0) (.slice (some ⟨va,0,none⟩) 3 vc) [1,2,3] w4):=T2
        have HX3:Hid ((if kind=0∨rest.length≠3 then some (mkIn 0 false false [],false) else match parL format_ParseInt format_ParseFixed 0 rest with
          | none=>none
          | some none=>some (mkIn 0 false false [],false)
          | some (some l)=>some (mkIn kind true false l,true))=some x):=HX2.out
        have d2:w4.cell? ⟨w.heap.size+1,0,none⟩=some (.int .i64 kind):=box_cell T.out.px.x 0 rfl
        by_cases hk0:kind=0
        · subst hk0
          have ex:(mkIn 0 false false [],false)=x:=Option.some.inj ((if_pos (.inl rfl)).symm.trans HX3.out)
          go_wp2_with (first
            | (refine wpList_storeat (cs:=inZ) (arr:=inZ) rfl rfl rfl rfl rfl (by kernel_rfl) T.out.px.z (by exact Nat.le_refl 49) (inX_one 0 0 0 0 0) ?_;intro w6 hz hg
               have R5:Hid (w6.heap[w.heap.size]? = some (.cells inZ.toArray 77 (0,0))∧Below w.heap.size w w6):=⟨hz,T.out.px.bel.grown hg T.out.px.bel.size (fun g e=>by have:=Option.some.inj e;omega)⟩;clear hz hg))
          have r0:Tryz.f80.results=#[.cell 2 77,.tmp 3]:=rfl
          refine bodyPost_ret (results_box2 (cs:=inZ) r0 rfl rfl HR.out.1 HR.out.2 R5.out.1) rfl ?_
          subst ex
          exact ⟨inZ,rfl,R5.out.2,0,0,0,0,0,rfl,rfl⟩
        · by_cases hlen : rest.length=3
          · have hk1 : (kind==0)=false:=by rw [beq_eq_false_iff_ne];exact hk0
            have hN3:((rest.length:Int)+1 != 4)=false:=by rw [bne_eq_false_iff_eq];omega
            have HX4:Hid ((match parL format_ParseInt format_ParseFixed 0 rest with
              | none=>none
              | some none=>some (mkIn 0 false false [],false)
              | some (some l)=>some (mkIn kind true false l,true))=some x):=(if_neg (by rintro (h | h);exact hk0 h;exact h hlen)).symm.trans HX3.out
            have hl1:rest.length≤3:=by omega
            have hl2:3≤rest.length:=by omega
            clear hlen
            have e124:=Tryz.call124
            have e125:=Tryz.call125
            go_wp2
            go_loopg [63] 3 (fun kx s63 wr=>∃ (i:Nat) (vs:List Int),s63=.int .i64 i∧i≤3∧3 - i≤kx∧vs.length=i∧(match parL format_ParseInt format_ParseFixed i (rest.drop i) with
              | none=>none
              | some none=>some (mkIn 0 false false [],false)
              | some (some l)=>some (mkIn kind true false (vs++l),true))=some x∧Aside (PT w (setX (inX kind 0 0 0 0) (([1,2,3]:List Nat).take i) vs) (.slice (some ⟨va,0,none⟩) 3 vc) [1,2,3] wr))
            case atStart=>exact ⟨0,[],rfl,by omega,by omega,rfl,HX4.out,T.out⟩
            case round =>
              obtain ⟨i,vs,rfl,him,hkx,hvs,hpar,SL⟩:=hrel
              have S4:Hid (PT w (setX (inX kind 0 0 0 0) (([1,2,3]:List Nat).take i) vs) (.slice (some ⟨va,0,none⟩) 3 vc) [1,2,3] wr):=SL
              clear SL
              by_cases hlt:(i:Int)<3
              · obtain ⟨o, ho⟩:∃ o,([1,2,3]:List Nat)[i]? = some o:=⟨_,List.getElem?_eq_getElem (by simp;omega)⟩
                obtain ⟨g',c',eg,hcell⟩:=S4.out.cell ho
                have ho5:o<5:=by have:=List.mem_of_getElem? ho;simp at this;omega
                cases eg
                unfold ptX at hcell
                obtain ⟨s,hs⟩:∃ s,rest[i]? = some s:=⟨_,List.getElem?_eq_getElem (by omega)⟩
                have hdrop:rest.drop i=s::rest.drop (i+1):=by
                  have h:=(List.getElem?_eq_some_iff.1 hs)
                  rw [List.drop_eq_getElem_cons h.1,h.2]
                have cs0:wr.cell? ⟨blk,off+(i+1),none⟩=some (.string ⟨s.toArray⟩):=((imm_all w).below S4.out.px.bel) _ _ _ (HM.out (i+1) s (by simpa using hs))
                have w1:IntKind.i64.wrap (1+(i:Int))=((i+1:Nat):Int):=by rw [IntKind.wrap_i64];omega
                have w2:IntKind.i64.wrap ((i:Int)+1)=((i+1:Nat):Int):=by rw [IntKind.wrap_i64];omega
                have pi1:(0:Int)≤((i+1:Nat):Int):=by omega
                have pi2:((i+1:Nat):Int)<(rest.length:Int)+1:=by omega
                have pi3:(0:Int)≤(i:Int):=by omega
                rw [hdrop] at hpar
                cases hp:(if i=0 then format_ParseInt s else format_ParseFixed s) with
                | none=>rw [parL,hp] at hpar;cases hpar
                | some q =>
                  obtain ⟨n,c⟩:=q
                  rw [parL,hp] at hpar
                  dsimp only at hpar
                  have HP:Hid (_):=hpar
                  have HD:Hid (_∧_):=⟨ho,ho5⟩
                  rcases Decidable.em (i=0) with hi0 | hi0
                  all_goals (first
                    | (have hp':format_ParseInt s=some (n,c):=hp.symm.trans (if_pos hi0) |>.symm
                       have hbI:((i:Int)==0)=true:=by rw [beq_iff_eq];omega
                       have hc:FnR Tryz.prog 125 [e_str s] (.tup [.v (.int .i64 n),.v (.int .i64 c)]) []:=c_125.ok (s,()) [e_str s] ((n,c):Int × Int) ⟨rfl,trivial⟩ hp'
                       have kP:Calls Tryz.prog 125 #[.string ⟨s.toArray⟩] wr fun e w'=>e=.returned (.tuple #[.int .i64 n,.int .i64 c])∧Below wr.heap.size wr w':=by
                         refine (call_r hc wr [.string ⟨s.toArray⟩] (.cons .v .nil)).mono ?_
                         rintro e w' ⟨v,rfl,hb,hrep⟩
                         obtain ⟨vs',rfl,hvs'⟩:=rep_tup hrep
                         obtain rfl:vs'=[.int .i64 n,.int .i64 c]:=repsV_eq (l:=[.int .i64 n,.int .i64 c]) hvs'
                         exact ⟨rfl,hb⟩
                       clear hp hp' hc hpar ho ho5 hdrop hs hi0)
                    | (have hp':format_ParseFixed s=some (n,c):=hp.symm.trans (if_neg hi0) |>.symm
                       have hbI:((i:Int)==0)=false:=by rw [beq_eq_false_iff_ne];omega
                       have hc:FnR Tryz.prog 124 [e_str s] (.tup [.v (.int .i64 n),.v (.int .i64 c)]) []:=c_124.ok (s,()) [e_str s] ((n,c):Int × Int) ⟨rfl,trivial⟩ hp'
                       have kP:Calls Tryz.prog 124 #[.string ⟨s.toArray⟩] wr fun e w'=>e=.returned (.tuple #[.int .i64 n,.int .i64 c])∧Below wr.heap.size wr w':=by
                         refine (call_r hc wr [.string ⟨s.toArray⟩] (.cons .v .nil)).mono ?_
                         rintro e w' ⟨v,rfl,hb,hrep⟩
                         obtain ⟨vs',rfl,hvs'⟩:=rep_tup hrep
                         obtain rfl:vs'=[.int .i64 n,.int .i64 c]:=repsV_eq (l:=[.int .i64 n,.int .i64 c]) hvs'
                         exact ⟨rfl,hb⟩
                       clear hp hp' hc hpar ho ho5 hdrop hs hi0))
                  all_goals
                    by_cases hc0:c=0
                    · subst hc0
                      go_wp2_with (first
                        | (first | go_at_call 125 | go_at_call 124
                           refine kP.mono ?_;rintro e w6 ⟨rfl,hb6⟩
                           have S5:Hid (PT w (setX (inX kind 0 0 0 0) (([1,2,3]:List Nat).take i) vs) (.slice (some ⟨va,0,none⟩) 3 vc) [1,2,3] w6):=S4.out.go hb6
                           clear hb6 kP)
                        | (refine wpList_store1 (b:=w.heap.size+1) (off:=o) (v:=.int .i64 n) (arr:=setX (inX kind 0 0 0 0) (([1,2,3]:List Nat).take i) vs) rfl rfl rfl rfl rfl rfl (by kernel_rfl) S5.out.px.x (by rw [setX_len];exact Nat.lt_of_lt_of_le HD.out.2 (by exact Nat.le_of_sub_eq_zero rfl)) rfl ?_
                           intro w7 hX7 hg7
                           have S6:Hid (PT w ((setX (inX kind 0 0 0 0) (([1,2,3]:List Nat).take i) vs).set o (.int .i64 n)) (.slice (some ⟨va,0,none⟩) 3 vc) [1,2,3] w7):=S5.out.store hX7 hg7
                           clear hX7 hg7))
                      go_roundg (3 - (i+1))
                      case measure=>omega
                      case rel=>
                        have ht:([1,2,3]:List Nat).take (i+1)=([1,2,3]:List Nat).take i++[o]:=by rw [List.take_succ,HD.out.1];rfl
                        refine ⟨i+1,vs++[n],by simp,by omega,by omega,by simp [hvs],?_,?_⟩
                        · have hq:=HP.out
                          rw [if_neg (by simp)] at hq
                          revert hq
                          cases parL format_ParseInt format_ParseFixed (i+1) (rest.drop (i+1)) with
                          | none=>exact id
                          | some y=>cases y with
                            | none=>exact id
                            | some l=>intro hq;show some (mkIn _ _ _ (vs++[n]++l),true)=some x;rw [List.append_assoc];exact hq
                        · rw [ht,setX_snoc o n _ vs _ (by rw [List.length_take,hvs];simp;omega)]
                          exact S6.out
                    · have hc1:(c==0)=false:=by rw [beq_eq_false_iff_ne];exact hc0
                      have hc2:(c != 0)=true:=by rw [bne_iff_ne];exact hc0
                      have ex:(mkIn 0 false false [],false)=x:=by
                        have hq:=HP.out
                        rw [if_pos hc0] at hq
                        exact Option.some.inj hq
                      go_wp2_with (first
                        | (first | go_at_call 125 | go_at_call 124
                           refine kP.mono ?_;rintro e w6 ⟨rfl,hb6⟩
                           have S5:Hid (PT w (setX (inX kind 0 0 0 0) (([1,2,3]:List Nat).take i) vs) (.slice (some ⟨va,0,none⟩) 3 vc) [1,2,3] w6):=S4.out.go hb6
                           clear hb6 kP)
                        | (refine wpList_storeat (cs:=inZ) (arr:=inZ) rfl rfl rfl rfl rfl (by kernel_rfl) S5.out.px.z (by exact Nat.le_refl 49) (inX_one 0 0 0 0 0) ?_;intro w7 hz hg
                           have R5:Hid (w7.heap[w.heap.size]? = some (.cells inZ.toArray 77 (0,0))∧Below w.heap.size w w7):=⟨hz,S5.out.px.bel.grown hg S5.out.px.bel.size (fun g e=>by have:=Option.some.inj e;omega)⟩;clear hz hg))
                      have r0:Tryz.f80.results=#[.cell 2 77,.tmp 3]:=rfl
                      refine bodyPost_ret (results_box2 (cs:=inZ) r0 rfl rfl HR.out.1 HR.out.2 R5.out.1) rfl ?_
                      subst ex
                      exact ⟨inZ,rfl,R5.out.2,0,0,0,0,0,rfl,rfl⟩
              · have hi:i=3:=by omega
                subst hi
                have hdr:rest.drop 3=[]:=List.drop_eq_nil_of_le (by omega)
                rw [hdr] at hpar
                have ex:(mkIn kind true false (vs++[]),true)=x:=Option.some.inj hpar
                rw [List.append_nil] at ex
                obtain ⟨id_,vx,vy,val_,hcs,hmk⟩:=mkIn_cells kind true false vs (by rw [hvs];rfl)
                have S5:Hid (PT w (inX kind id_ vx vy val_) (.slice (some ⟨va,0,none⟩) 3 vc) [1,2,3] wr):=by rw [← hcs];exact S4.out
                clear S4 hpar
                go_wp2_with (first
                  | (refine wpList_loadat (b:=w.heap.size+1) (off:=0) (cs:=inX kind id_ vx vy val_) (arr:=(inX kind id_ vx vy val_).toArray) rfl rfl rfl rfl HR.out.1 HR.out.2 S5.out.px.x (fun j v e=>by rw [Nat.zero_add];simpa using e) ?_)
                  | (refine wpList_storeat (cs:=inX kind id_ vx vy val_) (arr:=inZ) rfl rfl rfl rfl rfl (by kernel_rfl) S5.out.px.z (by exact Nat.le_refl 49) (inX_one _ _ _ _ _) ?_;intro w7 hz hg
                     have R5:Hid (w7.heap[w.heap.size]? = some (.cells (inX kind id_ vx vy val_).toArray 77 (0,0))∧Below w.heap.size w w7):=⟨hz,S5.out.px.bel.grown hg S5.out.px.bel.size (fun g e=>by have:=Option.some.inj e;omega)⟩;clear hz hg))
                have r0:Tryz.f80.results=#[.cell 2 77,.tmp 3]:=rfl
                refine bodyPost_ret (results_box2 (cs:=inX kind id_ vx vy val_) r0 rfl rfl HR.out.1 HR.out.2 R5.out.1) rfl ?_
                subst ex
                exact ⟨_,rfl,R5.out.2,kind,id_,vx,vy,val_,rfl,hmk⟩
          · have hN3:((rest.length:Int)+1 != 4)=true:=by rw [bne_iff_ne];omega
            have hk1:(kind==0)=false:=by rw [beq_eq_false_iff_ne];exact hk0
            have ex:(mkIn 0 false false [],false)=x:=Option.some.inj ((if_pos (.inr (by omega))).symm.trans HX3.out)
            go_wp2_with (first
              | (refine wpList_storeat (cs:=inZ) (arr:=inZ) rfl rfl rfl rfl rfl (by kernel_rfl) T.out.px.z (by exact Nat.le_refl 49) (inX_one 0 0 0 0 0) ?_;intro w6 hz hg
                 have R5:Hid (w6.heap[w.heap.size]? = some (.cells inZ.toArray 77 (0,0))∧Below w.heap.size w w6):=⟨hz,T.out.px.bel.grown hg T.out.px.bel.size (fun g e=>by have:=Option.some.inj e;omega)⟩;clear hz hg))
            have r0:Tryz.f80.results=#[.cell 2 77,.tmp 3]:=rfl
            refine bodyPost_ret (results_box2 (cs:=inZ) r0 rfl rfl HR.out.1 HR.out.2 R5.out.1) rfl ?_
            subst ex
            exact ⟨inZ,rfl,R5.out.2,0,0,0,0,0,rfl,rfl⟩
      · have T : Hid (PT w (inX kind 0 0 0 0) (.slice (some ⟨vb,0,none⟩) 4 vd) [1,2,3,4] w5):=T3
        have HX3:Hid ((if kind=0∨rest.length≠4 then some (mkIn 0 false false [],false) else match parL format_ParseInt format_ParseFixed 0 rest with
          | none=>none
          | some none=>some (mkIn 0 false false [],false)
          | some (some l)=>some (mkIn kind true true l,true))=some x):=HX2.out
        have d2:w5.cell? ⟨w.heap.size+1,0,none⟩=some (.int .i64 kind):=box_cell T.out.px.x 0 rfl
        by_cases hk0:kind=0
        · subst hk0
          have ex:(mkIn 0 false false [],false)=x:=Option.some.inj ((if_pos (.inl rfl)).symm.trans HX3.out)
          go_wp2_with (first
            | (refine wpList_storeat (cs:=inZ) (arr:=inZ) rfl rfl rfl rfl rfl (by kernel_rfl) T.out.px.z (by exact Nat.le_refl 49) (inX_one 0 0 0 0 0) ?_;intro w6 hz hg
               have R5:Hid (w6.heap[w.heap.size]? = some (.cells inZ.toArray 77 (0,0))∧Below w.heap.size w w6):=⟨hz,T.out.px.bel.grown hg T.out.px.bel.size (fun g e=>by have:=Option.some.inj e;omega)⟩;clear hz hg))
          have r0:Tryz.f80.results=#[.cell 2 77,.tmp 3]:=rfl
          refine bodyPost_ret (results_box2 (cs:=inZ) r0 rfl rfl HR.out.1 HR.out.2 R5.out.1) rfl ?_
          subst ex
          exact ⟨inZ,rfl,R5.out.2,0,0,0,0,0,rfl,rfl⟩
        · by_cases hlen : rest.length=4
          · have hk1 : (kind==0)=false:=by rw [beq_eq_false_iff_ne];exact hk0
            have hN3:((rest.length:Int)+1 != 5)=false:=by rw [bne_eq_false_iff_eq];omega
            have HX4:Hid ((match parL format_ParseInt format_ParseFixed 0 rest with
              | none=>none
              | some none=>some (mkIn 0 false false [],false)
              | some (some l)=>some (mkIn kind true true l,true))=some x):=(if_neg (by rintro (h | h);exact hk0 h;exact h hlen)).symm.trans HX3.out
            have hl1:rest.length≤4:=by omega
            have hl2:4≤rest.length:=by omega
            clear hlen
            have e124:=Tryz.call124
            have e125:=Tryz.call125
            go_wp2
            go_loopg [63] 4 (fun kx s63 wr=>∃ (i:Nat) (vs:List Int),s63=.int .i64 i∧i≤4∧4 - i≤kx∧vs.length=i∧(match parL format_ParseInt format_ParseFixed i (rest.drop i) with
              | none=>none
              | some none=>some (mkIn 0 false false [],false)
              | some (some l)=>some (mkIn kind true true (vs++l),true))=some x∧Aside (PT w (setX (inX kind 0 0 0 0) (([1,2,3,4]:List Nat).take i) vs) (.slice (some ⟨vb,0,none⟩) 4 vd) [1,2,3,4] wr))
            case atStart=>exact ⟨0,[],rfl,by omega,by omega,rfl,HX4.out,T.out⟩
            case round =>
              obtain ⟨i,vs,rfl,him,hkx,hvs,hpar,SL⟩:=hrel
              have S4:Hid (PT w (setX (inX kind 0 0 0 0) (([1,2,3,4]:List Nat).take i) vs) (.slice (some ⟨vb,0,none⟩) 4 vd) [1,2,3,4] wr):=SL
              clear SL
              by_cases hlt:(i:Int)<4
              · obtain ⟨o, ho⟩:∃ o,([1,2,3,4]:List Nat)[i]? = some o:=⟨_,List.getElem?_eq_getElem (by simp;omega)⟩
                obtain ⟨g',c',eg,hcell⟩:=S4.out.cell ho
                have ho5:o<5:=by have:=List.mem_of_getElem? ho;simp at this;omega
                cases eg
                unfold ptX at hcell
                obtain ⟨s,hs⟩:∃ s,rest[i]? = some s:=⟨_,List.getElem?_eq_getElem (by omega)⟩
                have hdrop:rest.drop i=s::rest.drop (i+1):=by
                  have h:=(List.getElem?_eq_some_iff.1 hs)
                  rw [List.drop_eq_getElem_cons h.1,h.2]
                have cs0:wr.cell? ⟨blk,off+(i+1),none⟩=some (.string ⟨s.toArray⟩):=((imm_all w).below S4.out.px.bel) _ _ _ (HM.out (i+1) s (by simpa using hs))
                have w1:IntKind.i64.wrap (1+(i:Int))=((i+1:Nat):Int):=by rw [IntKind.wrap_i64];omega
                have w2:IntKind.i64.wrap ((i:Int)+1)=((i+1:Nat):Int):=by rw [IntKind.wrap_i64];omega
                have pi1:(0:Int)≤((i+1:Nat):Int):=by omega
                have pi2:((i+1:Nat):Int)<(rest.length:Int)+1:=by omega
                have pi3:(0:Int)≤(i:Int):=by omega
                rw [hdrop] at hpar
                cases hp:(if i=0 then format_ParseInt s else format_ParseFixed s) with
                | none=>rw [parL,hp] at hpar;cases hpar
                | some q =>
                  obtain ⟨n,c⟩:=q
                  rw [parL,hp] at hpar
                  dsimp only at hpar
                  have HP:Hid (_):=hpar
                  have HD:Hid (_∧_):=⟨ho,ho5⟩
                  rcases Decidable.em (i=0) with hi0 | hi0
                  all_goals (first
                    | (have hp':format_ParseInt s=some (n,c):=hp.symm.trans (if_pos hi0) |>.symm
                       have hbI:((i:Int)==0)=true:=by rw [beq_iff_eq];omega
                       have hc:FnR Tryz.prog 125 [e_str s] (.tup [.v (.int .i64 n),.v (.int .i64 c)]) []:=c_125.ok (s,()) [e_str s] ((n,c):Int × Int) ⟨rfl,trivial⟩ hp'
                       have kP:Calls Tryz.prog 125 #[.string ⟨s.toArray⟩] wr fun e w'=>e=.returned (.tuple #[.int .i64 n,.int .i64 c])∧Below wr.heap.size wr w':=by
                         refine (call_r hc wr [.string ⟨s.toArray⟩] (.cons .v .nil)).mono ?_
                         rintro e w' ⟨v,rfl,hb,hrep⟩
                         obtain ⟨vs',rfl,hvs'⟩:=rep_tup hrep
                         obtain rfl:vs'=[.int .i64 n,.int .i64 c]:=repsV_eq (l:=[.int .i64 n,.int .i64 c]) hvs'
                         exact ⟨rfl,hb⟩
                       clear hp hp' hc hpar ho ho5 hdrop hs hi0)
                    | (have hp':format_ParseFixed s=some (n,c):=hp.symm.trans (if_neg hi0) |>.symm
                       have hbI:((i:Int)==0)=false:=by rw [beq_eq_false_iff_ne];omega
                       have hc:FnR Tryz.prog 124 [e_str s] (.tup [.v (.int .i64 n),.v (.int .i64 c)]) []:=c_124.ok (s,()) [e_str s] ((n,c):Int × Int) ⟨rfl,trivial⟩ hp'
                       have kP:Calls Tryz.prog 124 #[.string ⟨s.toArray⟩] wr fun e w'=>e=.returned (.tuple #[.int .i64 n,.int .i64 c])∧Below wr.heap.size wr w':=by
                         refine (call_r hc wr [.string ⟨s.toArray⟩] (.cons .v .nil)).mono ?_
                         rintro e w' ⟨v,rfl,hb,hrep⟩
                         obtain ⟨vs',rfl,hvs'⟩:=rep_tup hrep
                         obtain rfl:vs'=[.int .i64 n,.int .i64 c]:=repsV_eq (l:=[.int .i64 n,.int .i64 c]) hvs'
                         exact ⟨rfl,hb⟩
                       clear hp hp' hc hpar ho ho5 hdrop hs hi0))
                  all_goals
                    by_cases hc0:c=0
                    · subst hc0
                      go_wp2_with (first
                        | (first | go_at_call 125 | go_at_call 124
                           refine kP.mono ?_;rintro e w6 ⟨rfl,hb6⟩
                           have S5:Hid (PT w (setX (inX kind 0 0 0 0) (([1,2,3,4]:List Nat).take i) vs) (.slice (some ⟨vb,0,none⟩) 4 vd) [1,2,3,4] w6):=S4.out.go hb6
                           clear hb6 kP)
                        | (refine wpList_store1 (b:=w.heap.size+1) (off:=o) (v:=.int .i64 n) (arr:=setX (inX kind 0 0 0 0) (([1,2,3,4]:List Nat).take i) vs) rfl rfl rfl rfl rfl rfl (by kernel_rfl) S5.out.px.x (by rw [setX_len];exact Nat.lt_of_lt_of_le HD.out.2 (by exact Nat.le_of_sub_eq_zero rfl)) rfl ?_
                           intro w7 hX7 hg7
                           have S6:Hid (PT w ((setX (inX kind 0 0 0 0) (([1,2,3,4]:List Nat).take i) vs).set o (.int .i64 n)) (.slice (some ⟨vb,0,none⟩) 4 vd) [1,2,3,4] w7):=S5.out.store hX7 hg7
                           clear hX7 hg7))
                      go_roundg (4 - (i+1))
                      case measure=>omega
                      case rel=>
                        have ht:([1,2,3,4]:List Nat).take (i+1)=([1,2,3,4]:List Nat).take i++[o]:=by rw [List.take_succ,HD.out.1];rfl
                        refine ⟨i+1,vs++[n],by simp,by omega,by omega,by simp [hvs],?_,?_⟩
                        · have hq:=HP.out
                          rw [if_neg (by simp)] at hq
                          revert hq
                          cases parL format_ParseInt format_ParseFixed (i+1) (rest.drop (i+1)) with
                          | none=>exact id
                          | some y=>cases y with
                            | none=>exact id
                            | some l=>intro hq;show some (mkIn _ _ _ (vs++[n]++l),true)=some x;rw [List.append_assoc];exact hq
                        · rw [ht,setX_snoc o n _ vs _ (by rw [List.length_take,hvs];simp;omega)]
                          exact S6.out
                    · have hc1:(c==0)=false:=by rw [beq_eq_false_iff_ne];exact hc0
                      have hc2:(c != 0)=true:=by rw [bne_iff_ne];exact hc0
                      have ex:(mkIn 0 false false [],false)=x:=by
                        have hq:=HP.out
                        rw [if_pos hc0] at hq
                        exact Option.some.inj hq
                      go_wp2_with (first
                        | (first | go_at_call 125 | go_at_call 124
                           refine kP.mono ?_;rintro e w6 ⟨rfl,hb6⟩
                           have S5:Hid (PT w (setX (inX kind 0 0 0 0) (([1,2,3,4]:List Nat).take i) vs) (.slice (some ⟨vb,0,none⟩) 4 vd) [1,2,3,4] w6):=S4.out.go hb6
                           clear hb6 kP)
                        | (refine wpList_storeat (cs:=inZ) (arr:=inZ) rfl rfl rfl rfl rfl (by kernel_rfl) S5.out.px.z (by exact Nat.le_refl 49) (inX_one 0 0 0 0 0) ?_;intro w7 hz hg
                           have R5:Hid (w7.heap[w.heap.size]? = some (.cells inZ.toArray 77 (0,0))∧Below w.heap.size w w7):=⟨hz,S5.out.px.bel.grown hg S5.out.px.bel.size (fun g e=>by have:=Option.some.inj e;omega)⟩;clear hz hg))
                      have r0:Tryz.f80.results=#[.cell 2 77,.tmp 3]:=rfl
                      refine bodyPost_ret (results_box2 (cs:=inZ) r0 rfl rfl HR.out.1 HR.out.2 R5.out.1) rfl ?_
                      subst ex
                      exact ⟨inZ,rfl,R5.out.2,0,0,0,0,0,rfl,rfl⟩
              · have hi:i=4:=by omega
                subst hi
                have hdr:rest.drop 4=[]:=List.drop_eq_nil_of_le (by omega)
                rw [hdr] at hpar
                have ex:(mkIn kind true true (vs++[]),true)=x:=Option.some.inj hpar
                rw [List.append_nil] at ex
                obtain ⟨id_,vx,vy,val_,hcs,hmk⟩:=mkIn_cells kind true true vs (by rw [hvs];rfl)
                have S5:Hid (PT w (inX kind id_ vx vy val_) (.slice (some ⟨vb,0,none⟩) 4 vd) [1,2,3,4] wr):=by rw [← hcs];exact S4.out
                clear S4 hpar
                go_wp2_with (first
                  | (refine wpList_loadat (b:=w.heap.size+1) (off:=0) (cs:=inX kind id_ vx vy val_) (arr:=(inX kind id_ vx vy val_).toArray) rfl rfl rfl rfl HR.out.1 HR.out.2 S5.out.px.x (fun j v e=>by rw [Nat.zero_add];simpa using e) ?_)
                  | (refine wpList_storeat (cs:=inX kind id_ vx vy val_) (arr:=inZ) rfl rfl rfl rfl rfl (by kernel_rfl) S5.out.px.z (by exact Nat.le_refl 49) (inX_one _ _ _ _ _) ?_;intro w7 hz hg
                     have R5:Hid (w7.heap[w.heap.size]? = some (.cells (inX kind id_ vx vy val_).toArray 77 (0,0))∧Below w.heap.size w w7):=⟨hz,S5.out.px.bel.grown hg S5.out.px.bel.size (fun g e=>by have:=Option.some.inj e;omega)⟩;clear hz hg))
                have r0:Tryz.f80.results=#[.cell 2 77,.tmp 3]:=rfl
                refine bodyPost_ret (results_box2 (cs:=inX kind id_ vx vy val_) r0 rfl rfl HR.out.1 HR.out.2 R5.out.1) rfl ?_
                subst ex
                exact ⟨_,rfl,R5.out.2,kind,id_,vx,vy,val_,rfl,hmk⟩
          · have hN3:((rest.length:Int)+1 != 5)=true:=by rw [bne_iff_ne];omega
            have hk1:(kind==0)=false:=by rw [beq_eq_false_iff_ne];exact hk0
            have ex:(mkIn 0 false false [],false)=x:=Option.some.inj ((if_pos (.inr (by omega))).symm.trans HX3.out)
            go_wp2_with (first
              | (refine wpList_storeat (cs:=inZ) (arr:=inZ) rfl rfl rfl rfl rfl (by kernel_rfl) T.out.px.z (by exact Nat.le_refl 49) (inX_one 0 0 0 0 0) ?_;intro w6 hz hg
                 have R5:Hid (w6.heap[w.heap.size]? = some (.cells inZ.toArray 77 (0,0))∧Below w.heap.size w w6):=⟨hz,T.out.px.bel.grown hg T.out.px.bel.size (fun g e=>by have:=Option.some.inj e;omega)⟩;clear hz hg))
            have r0:Tryz.f80.results=#[.cell 2 77,.tmp 3]:=rfl
            refine bodyPost_ret (results_box2 (cs:=inZ) r0 rfl rfl HR.out.1 HR.out.2 R5.out.1) rfl ?_
            subst ex
            exact ⟨inZ,rfl,R5.out.2,0,0,0,0,0,rfl,rfl⟩
end GoForm
