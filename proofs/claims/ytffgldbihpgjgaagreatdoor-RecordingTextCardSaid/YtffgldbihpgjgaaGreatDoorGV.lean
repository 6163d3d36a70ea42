/- Several texts in one. No conditions. -/
import Derived.Test.YtffgldbihpgjgaaGreatDoorG18
import Derived.Test.YtffgldbihpgjgaaGreatDoorGZ
section
/- recording.parseLines: what its steps leave. No conditions. -/
set_option linter.all false
set_option maxRecDepth 100000
open Go Go.Rx Go.Proofs Go.RowKit
namespace GoForm
theorem pin_calls (fs:List (List UInt8)) (hne:fs≠[]) (x:Input × Bool) (hx:recording_parseInput fs=some x) (v:Value) (w:World) (hr:Rep (allM w) noNames (e_sl_str fs) v):
    Calls Tryz.prog 80 #[v] w fun e w'=>∃ cs,e=.returned (.tuple #[.agg cs.toArray,.bool x.2])∧Below w.heap.size w w'∧∃ k id vx vy val,cs=inX k id vx vy val∧x.1={ Kind:=k,ID:=id,Vec:=⟨vx,vy⟩,Value:=val,Body:=exB,Joint:=exJ }:=by
  cases fs with
  | nil=>exact absurd rfl hne
  | cons f0 rest=>exact pin_all f0 rest x hx v w hr
theorem rep_inX {M:Mem} (k id vx vy val:Int):Reps M noNames (inCells { Kind:=k,ID:=id,Vec:=⟨vx,vy⟩,Value:=val,Body:=exB,Joint:=exJ }) (inX k id vx vy val):=
  (repsV [.int .i64 k,.int .i64 id,.int .i64 vx,.int .i64 vy,.int .i64 val]).append (((repsV (zB.take 19)).append (.cons (.slnil) .nil)).append (repsV zJ))
theorem IR.one {B:Nat} {M:Mem} {x:Input} {cs:List Value} {w:World} (hB:B≤w.heap.size) (hr:Reps M noNames (inCells x) cs) (h1:∀ c∈cs,oneCell c=true) (hl:cs.length=49) (hi:Imm M w):IR B M [x] (.slice (some ⟨w.heap.size,0,none⟩) 1 1) (w.alloc (.cells cs.toArray 77)):=by
  refine ⟨⟨cs,⟨by rw [hl];rfl,.inr ⟨w.heap.size,1,cs.toArray,rfl,hB,heap_at _ _ _ rfl,Nat.le_refl 1,by decide,by simp [hl],by simp;exact List.take_of_length_le (by omega)⟩⟩,by simpa using hr,h1⟩,fun g e=>?_⟩
  have:=Option.some.inj e
  subst this
  exact imm_none hi (Nat.le_refl _)
structure J13 (w:World) (M:Mem) (R:List (List Input)) (V:Value) (vals:List Value) (M':Mem) (k:Nat) (fr:List Input) (x:Input) (cs:List Value) (b9:Nat) (f:Nat→Bool) (a:Act) (wd:World):Prop where
  o1:f 12=true→f 11=true
  o2:f 14=true→f 12=true
  o4:f 11=true→f 10=true
  o5:f 12=true→f 9=true
  A:f 11=false→KL w M R V vals wd M'∧wd.heap[b9]? = some (.cells cs.toArray 77 (0,0))
  B:f 11=true→f 12=false→KL w M R V vals wd M'∧∃ b B,a.tmps[68]? = some (.slice (some ⟨b,0,none⟩) 1 1)∧IR B M' [x] (.slice (some ⟨b,0,none⟩) 1 1) wd
  C:f 12=true→f 14=false→∃ y,a.tmps[69]? = some y∧y.oneCell'=true∧y.cells=#[y]∧KF w M (R.set k (fr++[x])) V (vals.set k y) wd M'∧wd.ownsRow w.heap.size 51 1 V R.length vals
  D:f 14=true→∃ y,KL w M (R.set k (fr++[x])) V (vals.set k y) wd M'
theorem J13.act {w M R V vals M' k fr x cs b9 f a wd} (h:J13 w M R V vals M' k fr x cs b9 f a wd) {a':Act} (h1:a.tmps[68]? = a'.tmps[68]?) (h2:a.tmps[69]? = a'.tmps[69]?):J13 w M R V vals M' k fr x cs b9 f a' wd:=
  ⟨h.o1,h.o2,h.o4,h.o5,h.A,fun x y=>by rw [← h1];exact h.B x y,fun x y=>by rw [← h2];exact h.C x y,h.D⟩
theorem J13.pure {w M R V vals M' k fr x cs b9 f a wd} (h:J13 w M R V vals M' k fr x cs b9 f a wd) (i:Nat) (h1:i≠11) (h2:i≠12) (h3:i≠14):J13 w M R V vals M' k fr x cs b9 (fun j=>if j=i then true else f j) a wd:=by
  have e1:(if 11=i then true else f 11)=f 11:=if_neg (fun e=>h1 e.symm)
  have e2:(if 12=i then true else f 12)=f 12:=if_neg (fun e=>h2 e.symm)
  have e3:(if 14=i then true else f 14)=f 14:=if_neg (fun e=>h3 e.symm)
  have up:∀ j,f j=true→(if j=i then true else f j)=true:=fun j e=>by rw [e];split <;> rfl
  refine ⟨fun x=>up 11 (h.o1 (e2.symm.trans x)),fun x=>up 12 (h.o2 (e3.symm.trans x)),fun x=>up 10 (h.o4 (e1.symm.trans x)),fun x=>up 9 (h.o5 (e2.symm.trans x)),fun x=>h.A (e1.symm.trans x),fun x y=>h.B (e1.symm.trans x) (e2.symm.trans y),fun x y=>h.C (e2.symm.trans x) (e3.symm.trans y),fun x=>h.D (e3.symm.trans x)⟩
theorem fields_any (s:List UInt8) (l:List (List UInt8)) (c:Int) (h:format_Fields s=some (l,c)) (w:World):Calls Tryz.prog 79 #[.string ⟨s.toArray⟩] w fun e w'=>∃ ad cap,e=.returned (.tuple #[.slice ad l.length cap,.int .i64 c])∧Below w.heap.size w w'∧Rep (allM w') noNames (e_sl_str l) (.slice ad l.length cap):=by
  have hc:FnR Tryz.prog 79 [e_str s] (.tup [e_sl_str l,.v (.int .i64 c)]) []:=c_79.ok (s,()) [e_str s] ((l,c):List (List UInt8) × Int) ⟨rfl,trivial⟩ h
  refine (call_r hc w [.string ⟨s.toArray⟩] (.cons .v .nil)).mono ?_
  rintro e w' ⟨v,rfl,hb,hrep⟩
  obtain ⟨u,rfl,h1⟩:=strTup hrep
  obtain ⟨ad,cap,rfl,-⟩:=repStrs h1
  exact ⟨ad,cap,rfl,hb,h1⟩
end GoForm
end

section
/- recording.parseLines at any lines. No conditions. -/
set_option linter.all false
set_option maxRecDepth 100000
open Go Go.Rx Go.Proofs Go.RowKit
namespace GoForm
def PLpost (w:World) (M:Mem) (res:List (List Input) × Nat) (e:Ending) (w':World):Prop:=
  (res.2=0∧∃ v vals M',e=.returned (.tuple #[v,.nilIface])∧KL w M res.1 v vals w' M')∨
  (res.2≠0∧∃ b,e=.returned (.tuple #[.slice none 0 0,.iface 98 (.pointer (some ⟨b,0,none⟩))])∧Below w.heap.size w w'∧w'.cell? ⟨b,0,none⟩=some (.int .i64 (res.2:Int))∧b<w'.heap.size)
theorem quiet_lb {P:Program} {C:World→Prop} {o:Oper} {a:Act} {ty:TypeId} {y:Operand} {b:Nat} {cs:List Value} {T:TypeId} {fr:Nat × Nat} {w:World}
    (e:o.op=.load ty y) (hy:a.eval y=.pointer (some ⟨b,0,none⟩)) (ha:tAg P ty=some true) (hs:tSz P ty=some cs.length)
    (hC:w.heap[b]? = some (.cells cs.toArray T fr)):o.quietAt P a C w (.agg cs.toArray):=
  quiet_val (by
    have hld:=run_loadVar_agg (P:=P) (ty:=ty) (w:=w) (b:=b) (o:=0) (cs:=cs) ha hs (fun j v e=>by rw [Nat.zero_add,cell_of_blk hC];simpa using e)
    simp [execOp,e,hy,Instr.loadAt,Instr.sureAddr,hld])
theorem fold_set:∀ (cs:List Value) (k:Nat) (z:Array Value),z.size=k+cs.length→(cs.zipIdx k).foldl (fun (c:Array Value) (x:Value × Nat)=>c.setIfInBounds x.2 x.1) z=(z.toList.take k++cs).toArray
  | [],k,z,h=>by
    have h:z.size=k:=h
    rw [List.append_nil,List.take_of_length_le (by simp [h])];rfl
  | c :: t,k,z,h=>by
    have h:z.size=k+(t.length+1):=h
    rw [List.zipIdx_cons,List.foldl_cons,fold_set t (k+1) _ (by simp [h];omega)]
    have:(z.setIfInBounds k c).toList.take (k+1)=z.toList.take k++[c]:=by
      rw [Array.toList_setIfInBounds,List.set_eq_take_append_cons_drop,if_pos (by simp [h])]
      rw [List.take_append,List.length_take,Array.length_toList]
      have h1:min k z.size=k:=by omega
      rw [h1,List.take_of_length_le (by simp;omega),Nat.add_sub_cancel_left];rfl
    show ((z.setIfInBounds k c).toList.take (k+1)++t).toArray=_
    rw [this,List.append_assoc];rfl
theorem op_build1 {P:Program} {o:Oper} {Q:Exit→Act→World→Prop} {K:Act→World→Prop} {a:Act} {w:World} {t e:TypeId} {x:Operand} {i:TypeInfo} {z:Value} {cs:List Value}
    (ho:o.op=.buildSlice t 1 #[(0,x)]) (hx:a.eval x=.agg cs.toArray) (ht:P.underlying t=some (.slice e)) (hi:P.info? e=some i) (hz:i.zero=some z) (hs:i.size=cs.length) (h1:z.cells.size=cs.length)
    (hp:0<cs.length) (hlim:cs.length≤16777216)
    (h:K (a.put o.dst (.slice (some ⟨w.heap.size,0,none⟩) 1 1)) (w.alloc (.cells cs.toArray e))):o.wp P a w K Q:=by
  have hsz:tSz P e=some cs.length:=by simp [tSz,hi,hs]
  have hrun:(execOp a.eval o).run P w=.ok (.value (.slice (some ⟨w.heap.size,0,none⟩) 1 1)) (w.alloc (.cells cs.toArray e)):=by
    have hlim':¬ (16777216<cs.length):=by omega
    have h0:¬ (1*cs.length=0):=by omega
    have hne:¬ cs=[]:=fun h=>by rw [h] at hp;simp at hp
    have hc:(Value.agg cs.toArray).cells=cs.toArray:=rfl
    have hcs:cs.toArray.size=cs.length:=by simp
    simp only [execOp,ho,Instr.buildSlice,Sem.run_bind,run_underlying_of ht,Result.andThen_ok,run_sizeOf_of hsz]
    simp only [List.map_toArray,List.map_cons,List.map_nil,hx]
    simp [hlim',hne,zeroValue,typeInfo,hi,hz,Instr.fill,newRow,hc]
    rw [show cs.zipIdx=cs.zipIdx 0 from rfl,fold_set cs 0 _ (by simp)]
    simp
  unfold Oper.wp
  rw [hrun,Oper.upon_value]
  exact h
set_option maxHeartbeats 16000000 in
theorem plines_calls (lines:List (List UInt8)) (hl:lines.length≤1048576) (res:List (List Input) × Nat) (hx:recLinesG format_Fields recording_parseInput lines 0 []=some res) (M:Mem) (v:Value) (w:World) (hi:Imm M w) (hr:Rep M noNames (e_sl_str lines) v):
    Calls Tryz.prog 46 #[v] w (PLpost w M res):=by
  obtain ⟨ad,cap,rfl,hcap,hm⟩:=repStrs hr
  obtain ⟨n,hn⟩:∃ n,lines.length=n:=⟨_,rfl⟩
  have e79:=Tryz.call79
  have e80:=Tryz.call80
  have e18:=Tryz.call18
  rw [hn] at hm hl ⊢
  obtain ⟨i51,a1,a2,a3,a4⟩:=info_parts (P:=Tryz.prog) (e:=51) (z:=.slice none 0 0) (size:=1) (bytes:=24) (by kernel_rfl)
  obtain ⟨i77,b1,b2,b3,b4⟩:=info_parts (P:=Tryz.prog) (e:=77) (z:=.agg inZ.toArray) (size:=49) (bytes:=384) (by kernel_rfl)
  have HI:Hid (_∧_∧_∧_):=⟨a1,a2,a3,a4⟩
  have H77:Hid (_∧_∧_∧_):=⟨b1,b2,b3,b4⟩
  have ra:tAg Tryz.prog 77=some true:=by kernel_rfl
  have rz:tSz Tryz.prog 77=some 49:=by kernel_rfl
  have HR:Hid (_∧_):=⟨ra,rz⟩
  have HM:Hid (_):=hm
  have HI0:Hid (Imm M w):=hi
  clear a1 a2 a3 a4 b1 b2 b3 b4 hr hm ra rz
  obtain ⟨K0,hK0⟩:∃ K0,K0=KL w M:=⟨_,rfl⟩
  go_enter Tryz.func46,Tryz.ntmps46
  go_wp2
  go_loopg [4,13] n (fun kx s4 s13 wr=>∃ (i:Nat) (r:List (List Input)) (vals:List Value) (M':Mem) (a:Option Addr) (c:Nat),s13=.int .i64 i∧s4=.slice a r.length c∧i≤n∧n - i≤kx∧r.length≤i∧(∀ f∈r,f.length≤i)∧recLinesG format_Fields recording_parseInput (lines.drop i) i r=some res∧Aside (K0 r s4 vals wr M'))
  case atStart=>
    subst hK0
    exact ⟨0,[],[],M,none,0,rfl,rfl,Nat.zero_le _,Nat.le_refl _,Nat.le_refl _,by simp,hx,KL.start w M hi⟩
  case round=>
    obtain ⟨i,r,vals,M',a,c,rfl,rfl,hin,hkx,hrl,hfl,hrec,S⟩:=hrel
    subst hK0
    have S0:Hid (KL w M r (.slice a r.length c) vals wr M'):=S
    clear S hx hi
    by_cases hlt:(i:Int)<n
    · obtain ⟨blk, off, rfl,hcm⟩:=HM.out (by omega)
      obtain ⟨line,hli⟩:∃ s,lines[i]? = some s:=⟨_,List.getElem?_eq_getElem (by omega)⟩
      have hdrop:lines.drop i=line::lines.drop (i+1):=by
        have h:=(List.getElem?_eq_some_iff.1 hli)
        rw [List.drop_eq_getElem_cons h.1,h.2]
      have c0:wr.cell? ⟨blk,off+i,none⟩=some (.string ⟨line.toArray⟩):=S0.out.imm _ _ _ (S0.out.le _ _ _ (hcm _ _ hli))
      have wi:IntKind.i64.wrap ((i:Int)+1)=((i+1:Nat):Int):=by rw [IntKind.wrap_i64];omega
      have pi:(0:Int)≤(i:Int):=by omega
      rw [hdrop] at hrec
      cases hf:format_Fields line with
      | none=>rw [recLinesG,hf] at hrec;cases hrec
      | some q=>
        obtain ⟨fs,code⟩:=q
        rw [recLinesG,hf] at hrec
        dsimp only at hrec
        have k79:=fields_any line fs code hf wr
        by_cases hbad:code≠0∨fs=[]
        · have ex:([],i+1)=res:=Option.some.inj ((if_pos hbad).symm.trans hrec)
          have hB:(if code=0 then fs.length=0 else True):=by
            rcases hbad with h | h
            · rw [if_neg h];trivial
            · split
              · rw [h];rfl
              · trivial
          clear hrec hbad hcm hli hdrop hf
          by_cases hc0:code=0
          · subst hc0
            rw [if_pos rfl] at hB
            have hB1:((fs.length:Int)==0)=true:=by rw [beq_iff_eq];omega
            clear hB
            go_wp2_with (first
              | (go_at_call 79;refine k79.mono ?_;rintro e w2 ⟨fa,fc,rfl,hb2,hr2⟩
                 have S2:Hid (Below w.heap.size w w2):=S0.out.bel.trans (hb2.mono S0.out.bel.size)
                 clear hb2 hr2 k79 c0))
            go_ret2
            subst ex
            refine .inr ⟨by simp,w2.heap.size,rfl,S2.out.alloc S2.out.size _,?_,by simp⟩
            simp
          · have hB1:(code==0)=false:=by rw [beq_eq_false_iff_ne];exact hc0
            have hB2:(code != 0)=true:=by rw [bne_iff_ne];exact hc0
            clear hB
            go_wp2_with (first
              | (go_at_call 79;refine k79.mono ?_;rintro e w2 ⟨fa,fc,rfl,hb2,hr2⟩
                 have S2:Hid (Below w.heap.size w w2):=S0.out.bel.trans (hb2.mono S0.out.bel.size)
                 clear hb2 hr2 k79 c0))
            go_ret2
            subst ex
            refine .inr ⟨by simp,w2.heap.size,rfl,S2.out.alloc S2.out.size _,?_,by simp⟩
            simp
        · have hc0:code=0:=by
            rcases Decidable.em (code=0) with h | h
            · exact h
            · exact absurd (.inl h) hbad
          have hne:fs≠[]:=fun h=>hbad (.inr h)
          have hrec1:(if line=frameB then recLinesG format_Fields recording_parseInput (lines.drop (i+1)) (i+1) (r++[[]])
            else match recording_parseInput fs with
              | none=>none
              | some x=>if x.2=false∨r=[] then some ([],i+1) else recLinesG format_Fields recording_parseInput (lines.drop (i+1)) (i+1) (r.set (r.length - 1) (r.getD (r.length - 1) []++[x.1])))=some res:=(if_neg hbad).symm.trans hrec
          subst hc0
          have hB1:((fs.length:Int)==0)=false:=by
            rw [beq_eq_false_iff_ne]
            intro h
            exact hne (List.eq_nil_of_length_eq_zero (by omega))
          clear hbad hdrop hf hcm hli
          by_cases hfr:line=frameB
          · have hrec2:=(if_pos hfr).symm.trans hrec1
            have hfr2:(line==[102,114,97,109,101])=true:=by rw [beq_iff_eq];exact hfr
            have HX:Hid (_):=hrec2
            clear hrec hrec1 hrec2 hfr
            go_wp2_with (first
              | (go_at_call 79;refine k79.mono ?_;rintro e w2 ⟨fa,fc,rfl,hb2,hr2⟩
                 have S2:Hid (KL w M r (.slice a r.length c) vals w2 M'):=S0.out.keep hb2
                 clear hb2 hr2 k79 c0)
              | (at_builtin
                 refine wpList_append_two rfl (.tmp 37) (.tmp 38) 23 rfl w.heap.size 51 i51 (.slice none 0 0) 1 24 Tryz.underlying23 HI.out.1 HI.out.2.1 HI.out.2.2.1 HI.out.2.2.2 rfl (by decide) (.slice a r.length c) r.length vals rfl (kept_none S2.out.row ((Below.refl _ _).alloc (Nat.le_refl _) _)) ⟨w2.heap.size,0,none⟩ 1 1 [.slice none 0 0] rfl rfl (cells_new w2 [.slice none 0 0] 51 _ rfl) (by intro u hu;simp at hu;subst hu;rfl) (by simp [maxLen];omega) (by omega) (by have:=S2.out.bel.size;simp;omega) (by decide) ?_
                 intro v6 w6 hown6 hgrow6 hblk6
                 have S6:Hid (KL w M (r++[[]]) v6 (vals++[.slice none 0 0]) w6 M'):=S2.out.append (IR.nil _ _ _) (by simp [Value.ownBlock]) hown6 hgrow6 hblk6
                 clear hown6 hgrow6 hblk6))
            go_roundg (n - (i+1))
            case measure=>omega
            case rel=>
              obtain ⟨a6,c6,h6⟩:=S6.out.slice
              refine ⟨i+1,r++[[]],vals++[.slice none 0 0],M',a6,c6,by simp,h6,by omega,by omega,by rw [List.length_append];simp;omega,?_,HX.out,?_⟩
              · intro f hf
                rcases List.mem_append.1 hf with h | h
                · exact Nat.le_succ_of_le (hfl f h)
                · simp at h;subst h;simp
              · exact S6.out
          · have hrec2 := (if_neg hfr).symm.trans hrec1
            have hfr2:(line==[102,114,97,109,101])=false:=by rw [beq_eq_false_iff_ne];exact hfr
            cases hp:recording_parseInput fs with
            | none=>rw [hp] at hrec2;cases hrec2
            | some x=>
              rw [hp] at hrec2
              dsimp only at hrec2
              have HP:Hid (_∧_):=⟨hne,hp⟩
              clear hrec hrec1 hfr hne hp
              by_cases hbad:x.2=false∨r=[]
              · have ex:([],i+1)=res:=Option.some.inj ((if_pos hbad).symm.trans hrec2)
                clear hrec2
                have arms:True:=trivial
                cases hx2:x.2 with
                | false=>
                  go_wp2_with (first
                    | (go_at_call 79;refine k79.mono ?_;rintro e w2 ⟨fa,fc,rfl,hb2,hr2⟩
                       have S2:Hid (Below w.heap.size w w2):=S0.out.bel.trans (hb2.mono S0.out.bel.size)
                       have k80:=pin_calls fs HP.out.1 x HP.out.2 (.slice fa fs.length fc) w2 hr2
                       rw [hx2] at k80
                       clear hb2 hr2 k79 c0)
                    | (go_at_call 80;refine k80.mono ?_;rintro e w3 ⟨cs,rfl,hb3,kk,id_,vx,vy,val_,rfl,hxe⟩
                       have S3:Hid (Below w.heap.size w w3):=S2.out.trans (hb3.mono S2.out.size)
                       clear hb3 k80)
                    | (refine wpList_storeat (cs:=inX kk id_ vx vy val_) (arr:=inZ) rfl rfl rfl rfl rfl HR.out.2 (heap_at w3 _ _ rfl) (by exact Nat.le_refl 49) (inX_one _ _ _ _ _) ?_
                       intro w4 hz hg
                       have S4:Hid (Below w.heap.size w w4):=(S3.out.alloc S3.out.size _).grown hg (by have:=S3.out.size;simp;omega) (fun g e=>by have:=Option.some.inj e;have:=S3.out.size;omega)
                       clear hz hg))
                  go_ret2
                  subst ex
                  refine .inr ⟨by simp,w4.heap.size,rfl,S4.out.alloc S4.out.size _,?_,by simp⟩
                  simp
                | true =>
                  have hr0:r.length≤0:=by
                    rcases hbad with h | h
                    · rw [hx2] at h;cases h
                    · rw [h];exact Nat.le_refl 0
                  have hrB:((r.length:Int)==0)=true:=by rw [beq_iff_eq];omega
                  clear hr0 hbad
                  go_wp2_with (first
                    | (go_at_call 79;refine k79.mono ?_;rintro e w2 ⟨fa,fc,rfl,hb2,hr2⟩
                       have S2:Hid (Below w.heap.size w w2):=S0.out.bel.trans (hb2.mono S0.out.bel.size)
                       have k80:=pin_calls fs HP.out.1 x HP.out.2 (.slice fa fs.length fc) w2 hr2
                       rw [hx2] at k80
                       clear hb2 hr2 k79 c0)
                    | (go_at_call 80;refine k80.mono ?_;rintro e w3 ⟨cs,rfl,hb3,kk,id_,vx,vy,val_,rfl,hxe⟩
                       have S3:Hid (Below w.heap.size w w3):=S2.out.trans (hb3.mono S2.out.size)
                       clear hb3 k80)
                    | (refine wpList_storeat (cs:=inX kk id_ vx vy val_) (arr:=inZ) rfl rfl rfl rfl rfl HR.out.2 (heap_at w3 _ _ rfl) (by exact Nat.le_refl 49) (inX_one _ _ _ _ _) ?_
                       intro w4 hz hg
                       have S4:Hid (Below w.heap.size w w4):=(S3.out.alloc S3.out.size _).grown hg (by have:=S3.out.size;simp;omega) (fun g e=>by have:=Option.some.inj e;have:=S3.out.size;omega)
                       clear hz hg))
                  go_ret2
                  subst ex
                  refine .inr ⟨by simp,w4.heap.size,rfl,S4.out.alloc S4.out.size _,?_,by simp⟩
                  simp
              · have hrec3:=(if_neg hbad).symm.trans hrec2
                have hx2:x.2=true:=by
                  cases h:x.2 with
                  | true=>rfl
                  | false=>exact absurd (.inl h) hbad
                have hr1:0<r.length:=List.length_pos_iff.2 (fun h=>hbad (.inr h))
                have hrB:((r.length:Int)==0)=false:=by rw [beq_eq_false_iff_ne];omega
                have HX:Hid (_):=hrec3
                clear hrec2 hrec3 hbad
                have b9:=S0.out.row
                go_upto_region 13 with (first
                    | (go_at_call 79;refine k79.mono ?_;rintro e w2 ⟨fa,fc,rfl,hb2,hr2⟩
                       have S2:Hid (KL w M r (.slice a r.length c) vals w2 M'):=S0.out.keep hb2
                       have k80:=pin_calls fs HP.out.1 x HP.out.2 (.slice fa fs.length fc) w2 hr2
                       rw [hx2] at k80
                       clear hb2 hr2 k79 c0)
                    | (go_at_call 80;refine k80.mono ?_;rintro e w3 ⟨cs,rfl,hb3,kk,id_,vx,vy,val_,rfl,hxe⟩
                       have S3:Hid (KL w M r (.slice a r.length c) vals w3 M'):=S2.out.keep hb3
                       clear hb3 k80)
                    | (refine wpList_storeat (cs:=inX kk id_ vx vy val_) (arr:=inZ) rfl rfl rfl rfl rfl HR.out.2 (heap_at w3 _ _ rfl) (by exact Nat.le_refl 49) (inX_one _ _ _ _ _) ?_
                       intro w4 hz hg
                       have S4:Hid (KL w M r (.slice a r.length c) vals w4 M'∧w4.heap[w3.heap.size]? = some (.cells (inX kk id_ vx vy val_).toArray 77 (0,0))):=⟨S3.out.keep (((Below.refl _ w3).alloc (Nat.le_refl _) _).grown hg (by simp) (fun g e=>by have:=Option.some.inj e;omega)),hz⟩
                       clear hz hg))
                obtain ⟨k,hk⟩:∃ k,r.length=k+1:=⟨r.length - 1,by omega⟩
                have hkr:k<r.length:=by omega
                obtain ⟨fr,hfr1⟩:∃ fr,r[k]? = some fr:=⟨_,List.getElem?_eq_getElem hkr⟩
                have hlen2:=S4.out.1.len
                obtain ⟨xv,hxv⟩:∃ xv,vals[k]? = some xv:=⟨_,List.getElem?_eq_getElem (by omega)⟩
                obtain ⟨g,rfl,hgB⟩:∃ g,a=some ⟨g,0,none⟩∧w.heap.size≤g:=by
                  rcases S4.out.1.row.2 with ⟨-,e0⟩ | ⟨g,cap,cur,e,h1,h2,h3,-⟩
                  · omega
                  · cases e;exact ⟨g,rfl,h1⟩
                have hfrl:fr.length≤i:=hfl fr (List.mem_of_getElem? hfr1)
                have hrm:r.getD (r.length - 1) []=fr:=by rw [hk,Nat.add_sub_cancel,List.getD_eq_getElem?_getD,hfr1];rfl
                have hXk:recLinesG format_Fields recording_parseInput (lines.drop (i+1)) (i+1) (r.set k (fr++[x.1]))=some res:=by
                  have:=HX.out
                  rw [hrm,hk,Nat.add_sub_cancel] at this
                  exact this
                have HK:Hid (_∧_∧_∧_∧_∧_):=⟨hfr1,hxv,hXk,hfrl,hrl,hfl⟩
                have HL:Hid (r.length=k+1):=hk
                have S5:Hid (KL w M r (.slice (some ⟨g,0,none⟩) (k+1) c) vals w4 M'):=by rw [← hk];exact S4.out.1
                have Hb:Hid (w4.heap[w3.heap.size]? = some (.cells (inX kk id_ vx vy val_).toArray 77 (0,0))):=S4.out.2
                have hxr:Reps M' noNames (inCells x.1) (inX kk id_ vx vy val_):=by rw [hxe];exact rep_inX _ _ _ _ _
                have HXR:Hid (_):=hxr
                have u51:=Tryz.underlying51
                have u23:=Tryz.underlying23
                have z51:=Tryz.sizeOf51
                have wk:IntKind.i64.wrap (((k:Int)+1) - 1)=(k:Int):=by rw [IntKind.wrap_i64];omega
                have pk:(0:Int)≤(k:Int):=by omega
                have wk0:IntKind.i64.wrap (k:Int)=(k:Int):=by rw [IntKind.wrap_i64];omega
                have pk1:(k:Int)<(k:Int)+1:=by omega
                have HE:Hid (_∧_):=⟨HI.out,H77.out⟩
                clear hfr1 hxv hXk hfrl hrl hfl hrm HX S4 hxe hxr hlen2 hr1 hrB S0 hkr hx2 HP b9
                rw [hk]
                clear hk
                refine wp_region_eff mixed47 15 (fun i=>i==11||i==12||i==14) (fun i=>57+i) (fun i=>match i with | 0=>.slice (some ⟨g,0,none⟩) (k+1) c | 1=>.slice (some ⟨g,0,none⟩) (k+1) c | 2=>.int .i64 ((k:Int)+1) | 3=>.int .i64 (k:Int) | 4=>.slice (some ⟨g,0,none⟩) (k+1) c | 5=>.slice (some ⟨g,0,none⟩) (k+1) c | 6=>.int .i64 ((k:Int)+1) | 7=>.int .i64 (k:Int) | 8=>.pointer (some ⟨g,k,none⟩) | 9=>xv | 10=>.agg (inX kk id_ vx vy val_).toArray | 13=>.pointer (some ⟨g,k,none⟩) | _=>undef) (J13 w M r (.slice (some ⟨g,0,none⟩) (k+1) c) vals M' k fr x.1 (inX kk id_ vx vy val_) w3.heap.size) rfl ?_ ?_ ?_ ?_ ?_ ?_ ?_
                · intro i o ho
                  match i with
                  | 0=>cases ho;simp [Region.binds]
                  | 1=>cases ho;simp [Region.binds]
                  | 2=>cases ho;simp [Region.binds]
                  | 3=>cases ho;simp [Region.binds]
                  | 4=>cases ho;simp [Region.binds]
                  | 5=>cases ho;simp [Region.binds]
                  | 6=>cases ho;simp [Region.binds]
                  | 7=>cases ho;simp [Region.binds]
                  | 8=>cases ho;simp [Region.binds]
                  | 9=>cases ho;simp [Region.binds]
                  | 10=>cases ho;simp [Region.binds]
                  | 11=>cases ho;simp [Region.binds]
                  | 12=>cases ho;simp [Region.binds]
                  | 13=>cases ho;simp [Region.binds]
                  | 14=>cases ho;simp [Region.binds]
                  | j+15=>simp at ho
                · have hd:Below w4.heap.size w4 w4.drew:=(Below.refl _ _).drew
                  exact ⟨by simp,by simp,by simp,by simp,fun _=>⟨S5.out.keep hd,(hd.block _ (Array.getElem?_eq_some_iff.1 Hb.out).1).trans Hb.out⟩,by simp,by simp,by simp⟩
                · intro f a a' w' h hj
                  exact hj.act (h 11 (by decide) rfl) (h 12 (by decide) rfl)
                · intro i op hi hst ho
                  match i,hi,hst with
                  | 0,_,_=>
                    cases ho
                    refine ⟨rfl,rfl,by simp,fun ac f w' hj hf hdp hd hr=>?_⟩
                    have r4:ac.tmps[4]? = some (.slice (some ⟨g,0,none⟩) (k+1) c):=(hr 4 (by intro i _;show 57+i≠4;omega)).trans rfl
                    exact ⟨by simp [Oper.quietAt,Oper.quietUpon,execOp,r4,go_sem],hj.pure 0 (by decide) (by decide) (by decide)⟩
                  | 1,_,_=>
                    cases ho
                    refine ⟨rfl,rfl,by simp,fun ac f w' hj hf hdp hd hr=>?_⟩
                    have r4:ac.tmps[4]? = some (.slice (some ⟨g,0,none⟩) (k+1) c):=(hr 4 (by intro i _;show 57+i≠4;omega)).trans rfl
                    exact ⟨by simp [Oper.quietAt,Oper.quietUpon,execOp,r4,go_sem],hj.pure 1 (by decide) (by decide) (by decide)⟩
                  | 2,_,_=>
                    cases ho
                    refine ⟨rfl,rfl,by simp,fun ac f w' hj hf hdp hd hr=>?_⟩
                    have r58:ac.tmps[58]? = some (.slice (some ⟨g,0,none⟩) (k+1) c):=hd ⟨1,.data⟩ (by simp) rfl rfl
                    exact ⟨by simp [Oper.quietAt,Oper.quietUpon,execOp,r58,go_sem],hj.pure 2 (by decide) (by decide) (by decide)⟩
                  | 3,_,_=>
                    cases ho
                    refine ⟨rfl,rfl,by simp,fun ac f w' hj hf hdp hd hr=>?_⟩
                    have r59:ac.tmps[59]? = some (.int .i64 ((k:Int)+1)):=hd ⟨2,.data⟩ (by simp) rfl rfl
                    exact ⟨by simp [Oper.quietAt,Oper.quietUpon,execOp,r59,go_sem,wk,wk0],hj.pure 3 (by decide) (by decide) (by decide)⟩
                  | 4,_,_=>
                    cases ho
                    refine ⟨rfl,rfl,by simp,fun ac f w' hj hf hdp hd hr=>?_⟩
                    have r4:ac.tmps[4]? = some (.slice (some ⟨g,0,none⟩) (k+1) c):=(hr 4 (by intro i _;show 57+i≠4;omega)).trans rfl
                    exact ⟨by simp [Oper.quietAt,Oper.quietUpon,execOp,r4,go_sem],hj.pure 4 (by decide) (by decide) (by decide)⟩
                  | 5,_,_=>
                    cases ho
                    refine ⟨rfl,rfl,by simp,fun ac f w' hj hf hdp hd hr=>?_⟩
                    have r4:ac.tmps[4]? = some (.slice (some ⟨g,0,none⟩) (k+1) c):=(hr 4 (by intro i _;show 57+i≠4;omega)).trans rfl
                    exact ⟨by simp [Oper.quietAt,Oper.quietUpon,execOp,r4,go_sem],hj.pure 5 (by decide) (by decide) (by decide)⟩
                  | 6,_,_=>
                    cases ho
                    refine ⟨rfl,rfl,by simp,fun ac f w' hj hf hdp hd hr=>?_⟩
                    have r62:ac.tmps[62]? = some (.slice (some ⟨g,0,none⟩) (k+1) c):=hd ⟨5,.data⟩ (by simp) rfl rfl
                    exact ⟨by simp [Oper.quietAt,Oper.quietUpon,execOp,r62,go_sem],hj.pure 6 (by decide) (by decide) (by decide)⟩
                  | 7,_,_=>
                    cases ho
                    refine ⟨rfl,rfl,by simp,fun ac f w' hj hf hdp hd hr=>?_⟩
                    have r63:ac.tmps[63]? = some (.int .i64 ((k:Int)+1)):=hd ⟨6,.data⟩ (by simp) rfl rfl
                    exact ⟨by simp [Oper.quietAt,Oper.quietUpon,execOp,r63,go_sem,wk,wk0],hj.pure 7 (by decide) (by decide) (by decide)⟩
                  | 8,_,_=>
                    cases ho
                    refine ⟨rfl,rfl,by simp,fun ac f w' hj hf hdp hd hr=>?_⟩
                    have r61:ac.tmps[61]? = some (.slice (some ⟨g,0,none⟩) (k+1) c):=hd ⟨4,.data⟩ (by simp) rfl rfl
                    have r64:ac.tmps[64]? = some (.int .i64 (k:Int)):=hd ⟨7,.data⟩ (by simp) rfl rfl
                    exact ⟨by simp [Oper.quietAt,Oper.quietUpon,execOp,r61,r64,go_sem,u23,z51,pk,pk1],hj.pure 8 (by decide) (by decide) (by decide)⟩
                  | 9,_,_=>
                    cases ho
                    refine ⟨rfl,rfl,by simp,fun ac f w' hj hf hdp hd hr=>?_⟩
                    have r65:ac.tmps[65]? = some (.pointer (some ⟨g,k,none⟩)):=hd ⟨8,.data⟩ (by simp) rfl rfl
                    have hrow:w'.ownsRow w.heap.size 51 1 (.slice (some ⟨g,0,none⟩) (k+1) c) r.length vals:=by
                      have h12:f 12=false:=by
                        cases e:f 12 with
                        | false=>rfl
                        | true=>have:=hj.o5 e;have hf:f 9=false:=hf;rw [hf] at this;cases this
                      cases e11:f 11 with
                      | false=>exact (hj.A e11).1.row
                      | true=>exact (hj.B e11 h12).1.row
                    have hcl:w'.cell? ⟨g,k,none⟩=some xv:=by
                      rcases hrow.2 with ⟨e,-⟩ | ⟨g',cap,cur,e,h1,h2,h3,h4,h5,h6⟩
                      · cases e
                      · simp only [Value.slice.injEq,Option.some.injEq,Addr.mk.injEq] at e
                        obtain ⟨⟨rfl,-,-⟩,-,rfl⟩:=e
                        rw [cell_of_blk h2,← Array.getElem?_toList]
                        have:=HK.out.2.1
                        rw [← h6,List.getElem?_take_of_lt (by rw [HL.out];omega)] at this
                        exact this
                    exact ⟨quiet_l1 rfl (ev r65) (by kernel_rfl) hcl,hj.pure 9 (by decide) (by decide) (by decide)⟩
                  | 10,_,_=>
                    cases ho
                    refine ⟨rfl,rfl,by simp,fun ac f w' hj hf hdp hd hr=>?_⟩
                    have f11:f 11=false:=by
                      cases e:f 11 with
                      | false=>rfl
                      | true=>have:=hj.o4 e;have hf:f 10=false:=hf;rw [hf] at this;cases this
                    have r9:ac.tmps[9]? = some (.pointer (some ⟨w3.heap.size,0,none⟩)):=(hr 9 (by intro i _;show 57+i≠9;omega)).trans rfl
                    have hbx:=(hj.A f11).2
                    exact ⟨quiet_lb rfl (ev r9) HR.out.1 HR.out.2 hbx,hj.pure 10 (by decide) (by decide) (by decide)⟩
                  | 13,_,_=>
                    cases ho
                    refine ⟨rfl,rfl,by simp,fun ac f w' hj hf hdp hd hr=>?_⟩
                    have r57:ac.tmps[57]? = some (.slice (some ⟨g,0,none⟩) (k+1) c):=hd ⟨0,.data⟩ (by simp) rfl rfl
                    have r60:ac.tmps[60]? = some (.int .i64 (k:Int)):=hd ⟨3,.data⟩ (by simp) rfl rfl
                    exact ⟨by simp [Oper.quietAt,Oper.quietUpon,execOp,r57,r60,go_sem,u23,z51,pk,pk1],hj.pure 13 (by decide) (by decide) (by decide)⟩
                  | 11,_,h=>exact absurd h (by decide)
                  | 12,_,h=>exact absurd h (by decide)
                  | 14,_,h=>exact absurd h (by decide)
                  | j+15,h,_=>exact absurd h (by omega)
                · intro i i' _ _ h
                  have h:57+i=57+i':=h
                  omega
                · intro i op hi hst ho
                  match i,hi,hst with
                  | 11,_,_=>
                    cases ho
                    refine ⟨rfl,.inl rfl,fun ac f w' hsz hj hf hdp hd hr K hK=>?_⟩
                    have f10:f 10=true:=hdp ⟨10,.data⟩ (by simp) rfl
                    have r67:ac.tmps[67]? = some (.agg (inX kk id_ vx vy val_).toArray):=hd 10 (by decide) rfl f10
                    obtain ⟨hA,-⟩:=hj.A hf
                    have h12:f 12=false:=by
                      cases e:f 12 with
                      | false=>rfl
                      | true=>have:=hj.o1 e;have hf:f 11=false:=hf;rw [hf] at this;cases this
                    have hb:Below w'.heap.size w' (w'.alloc (.cells (inX kk id_ vx vy val_).toArray 77)):=(Below.refl _ _).alloc (Nat.le_refl _) _
                    have hI:IR w.heap.size M' [x.1] (.slice (some ⟨w'.heap.size,0,none⟩) 1 1) (w'.alloc (.cells (inX kk id_ vx vy val_).toArray 77)):=IR.one hA.bel.size HXR.out (inX_one _ _ _ _ _) rfl hA.imm
                    refine op_build1 rfl (ev r67) u51 H77.out.1 H77.out.2.1 H77.out.2.2.1 rfl (by exact Nat.lt_of_sub_eq_succ rfl) (by have h:(inX kk id_ vx vy val_).length=49:=rfl;omega) (hK _ _ ⟨?_,?_,fun _=>f10,?_,?_,?_,?_,?_⟩)
                    · intro h;have h:f 12=true:=h;rw [h12] at h;cases h
                    · intro h;have h:f 14=true:=h;have:=hj.o2 h;rw [h12] at this;cases this
                    · intro h;have h:f 12=true:=h;rw [h12] at h;cases h
                    · intro h;cases h
                    · intro _ _
                      exact ⟨hA.keep hb,w'.heap.size,_,put_eq (by rw [hsz];simp),hI⟩
                    · intro h;have h:f 12=true:=h;rw [h12] at h;cases h
                    · intro h;have h:f 14=true:=h;have:=hj.o2 h;rw [h12] at this;cases this
                  | 12,_,_=>
                    cases ho
                    refine ⟨rfl,.inl rfl,fun ac f w' hsz hj hf hdp hd hr K hK=>?_⟩
                    have f9:f 9=true:=hdp ⟨9,.data⟩ (by simp) rfl
                    have f11:f 11=true:=hdp ⟨11,.data⟩ (by simp) rfl
                    have r66:ac.tmps[66]? = some xv:=hd 9 (by decide) rfl f9
                    obtain ⟨hB,bb,BB,r68,hIR⟩:=hj.B f11 hf
                    have h14:f 14=false:=by
                      cases e:f 14 with
                      | false=>rfl
                      | true=>have:=hj.o2 e;have hf:f 12=false:=hf;rw [hf] at this;cases this
                    obtain ⟨y,w2,hrun,hy,hg2,hblk,him⟩:=run_append_in (P:=Tryz.prog) i77 u51 HE.out.2.1 HE.out.2.2.1 HE.out.2.2.2.1 HE.out.2.2.2.2 (hB.fr k fr xv HK.out.1 HK.out.2.1) hIR hB.imm (by have:=HK.out.2.2.2.1;simp;omega) hB.bel.size
                    obtain ⟨hk1,hk2⟩:=hB.upd HK.out.1 HK.out.2.1 hy hg2 hblk him
                    obtain ⟨ya,yn,yc,rfl⟩:=hy.slice
                    refine op_append rfl (ev r66) (ev r68) hrun (hK _ w2 ⟨fun _=>f11,?_,fun _=>hj.o4 f11,fun _=>f9,?_,?_,?_,?_⟩)
                    · intro h;have h:f 14=true:=h;rw [h14] at h;cases h
                    · intro h;have h:f 11=false:=h;rw [f11] at h;cases h
                    · intro _ h;cases h
                    · intro _ _
                      exact ⟨_,put_eq (by rw [hsz];simp),rfl,rfl,hk1,hk2⟩
                    · intro h;have h:f 14=true:=h;rw [h14] at h;cases h
                  | 14, _,_=>
                    cases ho
                    refine ⟨rfl,.inr rfl,fun ac f w' hsz hj hf hdp hd hr K hK=>?_⟩
                    have f12:f 12=true:=hdp ⟨12,.data⟩ (by simp) rfl
                    have r70:ac.tmps[70]? = some (.pointer (some ⟨g,k,none⟩)):=hd 13 (by decide) rfl (hdp ⟨13,.data⟩ (by simp) rfl)
                    obtain ⟨y,r69,y1,y2,hk1,hk2⟩:=hj.C f12 hf
                    rcases hk2.2 with ⟨e,-⟩ | ⟨g',cap,cur,e,h1,h2,h3,h4,h5,h6⟩
                    · cases e
                    · simp only [Value.slice.injEq,Option.some.injEq,Addr.mk.injEq] at e
                      obtain ⟨⟨rfl,-,-⟩,-,rfl⟩:=e
                      have hcl:k<cur.toList.length:=by rw [Array.length_toList,h5];have:=HL.out;omega
                      refine op_store_at (arr:=cur.toList) rfl (ev r70) (ev r69) y2 (by kernel_rfl) (by simpa using h2) hcl y1 fun w2 hw2 hg2=>hK _ w2 ?_
                      have hkf:=hk1.store (g:=g) rfl hg2 h1
                      have hown:w2.ownsRow w.heap.size 51 1 (.slice (some ⟨g,0,none⟩) (k+1) c) (r.set k (fr++[x.1])).length (vals.set k y):=by
                        have hk2':=hk2
                        refine ⟨by rw [List.length_set,List.length_set];exact hk2.1,.inr ⟨g,c,(cur.toList.set k y).toArray,by rw [List.length_set,HL.out],h1,hw2,by rw [List.length_set];exact h3,h4,by simpa using h5,?_⟩⟩
                        rw [List.length_set]
                        show (cur.toList.set k y).take _=_
                        rw [List.take_set,h6]
                      refine ⟨fun _=>hj.o1 f12,fun _=>f12,fun _=>hj.o4 (hj.o1 f12),fun _=>hj.o5 f12,?_,?_,?_,fun _=>⟨y,hkf.kl hown⟩⟩
                      · intro h;have h:f 11=false:=h;rw [hj.o1 f12] at h;cases h
                      · intro _ h;have h:f 12=false:=h;rw [f12] at h;cases h
                      · intro _ h;cases h
                  | 0,_,h=>exact absurd h (by decide)
                  | 1,_,h=>exact absurd h (by decide)
                  | 2,_,h=>exact absurd h (by decide)
                  | 3,_,h=>exact absurd h (by decide)
                  | 4,_,h=>exact absurd h (by decide)
                  | 5,_,h=>exact absurd h (by decide)
                  | 6,_,h=>exact absurd h (by decide)
                  | 7,_,h=>exact absurd h (by decide)
                  | 8,_,h=>exact absurd h (by decide)
                  | 9,_,h=>exact absurd h (by decide)
                  | 10,_,h=>exact absurd h (by decide)
                  | 13,_,h=>exact absurd h (by decide)
                  | j+15,h,_=>exact absurd h (by omega)
                · intro f ac w5 hj hall hdf hsz hvals hrest
                  obtain ⟨tm,dfr⟩:=ac
                  have e1:dfr=_:=hdf
                  have hsz':tm.size=73:=hsz
                  obtain ⟨u68,h68⟩:∃ u,tm[68]? = some u:=⟨_,Array.getElem?_eq_getElem (by omega)⟩
                  obtain ⟨u69,h69⟩:∃ u,tm[69]? = some u:=⟨_,Array.getElem?_eq_getElem (by omega)⟩
                  obtain ⟨u71,h71⟩:∃ u,tm[71]? = some u:=⟨_,Array.getElem?_eq_getElem (by omega)⟩
                  have e2:=tmps_eq' [(57,.slice (some ⟨g,0,none⟩) (k+1) c),(58,.slice (some ⟨g,0,none⟩) (k+1) c),(59,.int .i64 ((k:Int)+1)),(60,.int .i64 (k:Int)),(61,.slice (some ⟨g,0,none⟩) (k+1) c),(62,.slice (some ⟨g,0,none⟩) (k+1) c),(63,.int .i64 ((k:Int)+1)),(64,.int .i64 (k:Int)),(65,.pointer (some ⟨g,k,none⟩)),(66,xv),(67,.agg (inX kk id_ vx vy val_).toArray),(68,u68),(69,u69),(70,.pointer (some ⟨g,k,none⟩)),(71,u71)] _ tm hsz rfl rfl
                    ⟨hvals 0 (by decide) rfl,hvals 1 (by decide) rfl,hvals 2 (by decide) rfl,hvals 3 (by decide) rfl,hvals 4 (by decide) rfl,hvals 5 (by decide) rfl,hvals 6 (by decide) rfl,hvals 7 (by decide) rfl,hvals 8 (by decide) rfl,hvals 9 (by decide) rfl,hvals 10 (by decide) rfl,h68,h69,hvals 13 (by decide) rfl,h71,trivial⟩ (fun j hj=>hrest j (fun i hi e=>hj (by
                      have e:57+i=j:=e
                      subst e
                      simp
                      omega)))
                  simp only [List.foldl_cons,List.foldl_nil,List.setIfInBounds_toArray,List.set_cons_succ,List.set_cons_zero] at e1 e2
                  subst e1
                  subst e2
                  obtain ⟨y,hK⟩:=hj.D (hall 14 (by decide))
                  have HK2:Hid (_):=hK
                  clear hj hall hvals hrest hsz hdf hsz' h68 h69 h71 hK
                  go_wp2
                  go_roundg (n - (i+1))
                  case measure=>omega
                  case rel=>
                    refine ⟨i+1,r.set k (fr++[x.1]),vals.set k y,M',some ⟨g,0,none⟩,c,by simp,by rw [List.length_set,HL.out],by omega,by omega,by rw [List.length_set];have:=HK.out.2.2.2.2.1;omega,?_,HK.out.2.2.1,?_⟩
                    · intro f hf
                      rcases List.mem_or_eq_of_mem_set hf with h | h
                      · exact Nat.le_succ_of_le (HK.out.2.2.2.2.2 f h)
                      · rw [h,List.length_append];have:=HK.out.2.2.2.1;simp;omega
                    · exact HK2.out
    · have hin':i=n:=by omega
      subst hin'
      have hdr:lines.drop i=[]:=List.drop_eq_nil_of_le (by omega)
      rw [hdr] at hrec
      have ex:(r,0)=res:=Option.some.inj hrec
      go_wp2
      go_ret2
      subst ex
      exact .inl ⟨rfl,_,vals,M',rfl,S0.out⟩
end GoForm
end

section
/- recording.Parse at any text. No conditions. -/
set_option linter.all false
set_option maxRecDepth 100000
open Go Go.Rx Go.Proofs Go.RowKit
namespace GoForm
theorem split_any (s:List UInt8) (l:List (List UInt8)) (c:Int) (h:format_SplitLines s=some (l,c)) (w:World) (M:Mem) (hi:Imm M w):Calls Tryz.prog 45 #[.string ⟨s.toArray⟩] w fun e w'=>∃ u M',e=.returned (.tuple #[u,.int .i64 c])∧Below w.heap.size w w'∧Imm M' w'∧Mem.le M M'∧Newer M M' w.heap.size∧Rep M' noNames (e_sl_str l) u:=by
  have hc:FnR Tryz.prog 45 [e_str s] (.tup [e_sl_str l,.v (.int .i64 c)]) []:=c_45.ok (s,()) [e_str s] ((l,c):List (List UInt8) × Int) ⟨rfl,trivial⟩ h
  refine (call_m hc w M [.string ⟨s.toArray⟩] hi (.cons .v .nil)).mono ?_
  rintro e w' ⟨v,M',rfl,hb,him,hle,hn,hrep⟩
  obtain ⟨u,rfl,h1⟩:=strTup hrep
  exact ⟨u,M',rfl,hb,him,hle,hn,h1⟩
theorem as_nil (t:Value) (w:World):Calls Tryz.prog 47 #[.nilIface,t] w fun e w'=>e=.returned (.bool false)∧w'=w:=by
  go_enter Tryz.func47,Tryz.ntmps47
  go_wp2
  go_ret
  exact ⟨rfl,rfl⟩
theorem imm_mix {B:Nat} {M:Mem} {w:World} (h:Imm M w):Imm (mixM B M w) w:=by
  intro b o v e
  unfold mixM at e
  split at e
  · exact e
  · exact h b o v e
def PApost (w:World) (M:Mem) (r:List (List Input) × Int × Int) (e:Ending) (w':World):Prop:=
  ∃ v,e=.returned (.tuple #[v,.int .i64 r.2.1,.int .i64 r.2.2])∧∃ M',Below w.heap.size w w'∧Imm M' w'∧Mem.le M M'∧Newer M M' w.heap.size∧Rep (mixM w.heap.size M' w') noNames (e_sl_sl_Input r.1) v
set_option maxHeartbeats 8000000 in
theorem parse_any (s : List UInt8) (r:List (List Input) × Int × Int) (hr:recording_Parse s=some r) (M:Mem) (w:World) (hi:Imm M w) (hg:M 0 0=some (.iface 190 (.agg #[.pointer (some ⟨4,95,none⟩)]))):
    Calls Tryz.prog 16 #[.string ⟨s.toArray⟩] w (PApost w M r):=by
  have hr:recParseG format_SplitLines format_Fields recording_parseInput recording_Validate s=some r:=hr
  unfold recParseG at hr
  have e45:=Tryz.call45
  have e46:=Tryz.call46
  have e47:=Tryz.call47
  have e18:=Tryz.call18
  cases hq:format_SplitLines s with
  | none=>rw [hq] at hr;cases hr
  | some q =>
    obtain ⟨lines,code⟩:=q
    rw [hq] at hr
    dsimp only at hr
    have k45:=split_any s lines code hq w M hi
    clear hq
    have HI0:Hid (Imm M w∧M 0 0=some (.iface 190 (.agg #[.pointer (some ⟨4,95,none⟩)]))):=⟨hi,hg⟩
    clear hi hg
    by_cases hc:code≠0
    · have ex:([],0,code)=r:=Option.some.inj ((if_pos hc).symm.trans hr)
      have hc1:(code != 0)=true:=by rw [bne_iff_ne];exact hc
      clear hr
      go_enter Tryz.func16,Tryz.ntmps16
      go_wp2_with (first
        | (go_at_call 45;refine k45.mono ?_;rintro e w1 ⟨u,M1,rfl,hb1,hi1,hle1,hn1,hr1⟩
           have S1:Hid (Below w.heap.size w w1∧Imm M1 w1∧Mem.le M M1∧Newer M M1 w.heap.size):=⟨hb1,hi1,hle1,hn1⟩
           clear hb1 hi1 hle1 hn1 hr1 k45))
      go_ret3
      subst ex
      exact ⟨_,rfl,M1,S1.out.1,S1.out.2.1,S1.out.2.2.1,S1.out.2.2.2,.slnil⟩
    · have hr := (if_neg hc).symm.trans hr
      have hc0:code=0:=by
        rcases Decidable.em (code=0) with h | h
        · exact h
        · exact absurd h hc
      subst hc0
      by_cases hl:lines.length≤1048576
      · have hr := (if_pos hl).symm.trans hr
        cases hy:recLinesG format_Fields recording_parseInput lines 0 [] with
        | none=>rw [hy] at hr;cases hr
        | some y =>
          rw [hy] at hr
          dsimp only at hr
          obtain ⟨rr,num⟩:=y
          dsimp only at hr
          by_cases hn0:num≠0
          · have ex:([],(num:Int),27)=r:=Option.some.inj ((if_pos hn0).symm.trans hr)
            have HL:Hid (_∧_):=⟨hl,hy⟩
            clear hr hl hy hc
            go_enter Tryz.func16,Tryz.ntmps16
            go_upto_region 6 with (first
              | (go_at_call 45;refine k45.mono ?_;rintro e w1 ⟨u,M1,rfl,hb1,hi1,hle1,hn1,hr1⟩
                 have S1:Hid (Below w.heap.size w w1∧Imm M1 w1∧Mem.le M M1∧Newer M M1 w.heap.size):=⟨hb1,hi1,hle1,hn1⟩
                 have k46:=plines_calls lines HL.out.1 (rr,num) HL.out.2 M1 u w1 hi1 hr1
                 clear hb1 hi1 hle1 hn1 hr1 k45)
              | (go_at_call 46;refine k46.mono ?_;rintro e w2 (⟨h0,-⟩ | ⟨-,b,rfl,hb2,hcl,hbl⟩)
                 · exact absurd h0 hn0
                 have S2:Hid (Below w.heap.size w w2∧Below w1.heap.size w1 w2):=⟨S1.out.1.trans (hb2.mono S1.out.1.size),hb2⟩
                 have HC:Hid (w2.cell? ⟨b,0,none⟩=some (.int .i64 (num:Int))∧b<w2.heap.size):=⟨hcl,hbl⟩
                 clear hb2 hcl hbl k46))
            have b2:Below w2.heap.size w2 (w2.alloc (.cells #[.pointer none] 98)):=(Below.refl _ _).alloc (Nat.le_refl _) _
            have h1:(w2.alloc (.cells #[.pointer none] 98)).cell? ⟨0,0,none⟩=some (.iface 190 (.agg #[.pointer (some ⟨4,95,none⟩)])):=(HI0.out.1.below (S2.out.1.trans (b2.mono S2.out.1.size))) 0 0 _ HI0.out.2
            have t2:(w2.alloc (.cells #[.pointer none] 98)).heap[w2.heap.size]? = some (.cells #[.pointer none] 98 (0,0)):=heap_at _ _ _ rfl
            have k47:=as_hit ⟨b,0,none⟩ ⟨w2.heap.size,0,none⟩ (.pointer none) (w2.alloc (.cells #[.pointer none] 98)) h1 (box_cell t2 0 rfl) (box_free t2 0)
            have k48:Calls Tryz.prog 47 #[.iface 98 (.pointer (some ⟨b,0,none⟩)),.iface 100 (.pointer (some ⟨w2.heap.size,0,none⟩))] (w2.alloc (.cells #[.pointer none] 98)) fun ev w7=>ev=.returned (.bool true)∧w7.cell? ⟨w2.heap.size,0,none⟩=some (.pointer (some ⟨b,0,none⟩))∧w7.cell? ⟨b,0,none⟩=some (.int .i64 (num:Int))∧Below w.heap.size w w7∧Below w1.heap.size w1 w7:=by
              refine k47.mono ?_
              rintro ev w7 ⟨hev,hw7⟩
              have hB:Below (w2.alloc (.cells #[.pointer none] 98)).heap.size (w2.alloc (.cells #[.pointer none] 98)) (((((w2.alloc (.cells #[.pointer none] 98)).alloc (.cells #[.pointer (some ⟨w2.heap.size,0,none⟩)] 100)).alloc (.cells #[.pointer (some ⟨4,100,none⟩),.pointer (some ⟨(w2.alloc (.cells #[.pointer none] 98)).heap.size,0,none⟩),.int .u64 150] 145)).alloc (.cells #[.pointer (some ⟨4,100,none⟩),.pointer (some ⟨(w2.alloc (.cells #[.pointer none] 98)).heap.size,0,none⟩),.int .u64 150] 145)).alloc (.cells #[.pointer (some ⟨b,0,none⟩)] 98)):=
                ((((Below.refl _ _).alloc (Nat.le_refl _) _).alloc (by simp) _).alloc (by simp <;> omega) _).alloc (by simp <;> omega) _
              have hc:(w2.alloc (.cells #[.pointer none] 98)).cell? ⟨b,0,none⟩=some (.int .i64 (num:Int)):=((imm_all w2).below b2) _ _ _ HC.out.1
              have hlb:=HC.out.2
              have HW:=as_world (e:=⟨b,0,none⟩) hB hw7 t2 rfl (Nat.zero_lt_one) hc (by simp;omega) (Nat.ne_of_lt hlb)
              exact ⟨hev,HW.1,HW.2.1,HW.2.2 _ _ (S2.out.1.trans (b2.mono S2.out.1.size)) S2.out.1.size (Nat.le_trans S2.out.1.size (by simp)),HW.2.2 _ _ (S2.out.2.trans (b2.mono S2.out.2.size)) S2.out.2.size (Nat.le_trans S2.out.2.size (by simp))⟩
            clear b2 h1 t2 k47
            go_upto_region 7 with (first
              | (go_at_call 47;refine k48.mono ?_;rintro ev w7 ⟨rfl,f1,f2,f3,f4⟩;have F:Hid (Below w.heap.size w w7∧Below w1.heap.size w1 w7):=⟨f3,f4⟩;clear f3 f4 k48))
            have g1:∀ w',Below w7.heap.size w7 w'→w'.cell? ⟨w2.heap.size,0,none⟩=some (.pointer (some ⟨b,0,none⟩)):=fun w' hw=>((imm_all w7).below hw) _ _ _ f1
            have g2:∀ w',Below w7.heap.size w7 w'→w'.cell? ⟨b,0,none⟩=some (.int .i64 (num:Int)):=fun w' hw=>((imm_all w7).below hw) _ _ _ f2
            clear f1 f2
            refine wp_region_bel mixed47 (by kernel_rfl) ?_
            go_big_quiet_want
            refine quiet_load1 (ad:=⟨w2.heap.size,0,none⟩) (v:=.pointer (some ⟨b,0,none⟩)) rfl rfl (by kernel_rfl) (fun w' hw=>g1 w' hw) ?_
            simp only [Act.put,List.setIfInBounds_toArray,List.set_cons_succ,List.set_cons_zero]
            go_big_quiet_on
            go_big_quiet_want
            go_big_quiet_op
            first | go_big_quiet_on | (refine ⟨_,fun _ _=>rfl,?_⟩;go_big_quiet_on)
            go_big_quiet_want
            go_big_quiet_op
            first | go_big_quiet_on | (refine ⟨_,fun _ _=>rfl,?_⟩;go_big_quiet_on)
            go_big_quiet_want
            refine quiet_load1 (ad:=⟨b,0,none⟩) (v:=.int .i64 (num:Int)) rfl rfl (by kernel_rfl) (fun w' hw=>g2 w' hw) ?_
            simp only [Act.put,List.setIfInBounds_toArray,List.set_cons_succ,List.set_cons_zero]
            go_big_quiet_on
            go_big_quiet_want
            go_big_quiet_op
            first | go_big_quiet_on | (refine ⟨_,fun _ _=>rfl,?_⟩;go_big_quiet_on)
            go_big_quiet_want
            go_big_quiet_op
            first | go_big_quiet_on | (refine ⟨_,fun _ _=>rfl,?_⟩;go_big_quiet_on)
            go_big_quiet_want
            go_big_quiet_op
            first | go_big_quiet_on | (refine ⟨_,fun _ _=>rfl,?_⟩;go_big_quiet_on)
            refine wpQuiet_nil ?_
            intro w8 hw8
            have F8:Hid (Below w.heap.size w w8∧Below w1.heap.size w1 w8):=⟨F.out.1.trans (hw8.mono F.out.1.size),F.out.2.trans (hw8.mono F.out.2.size)⟩
            go_wp2
            go_ret3
            subst ex
            exact ⟨_,rfl,M1,F8.out.1,S1.out.2.1.below F8.out.2,S1.out.2.2.1,S1.out.2.2.2,.slnil⟩
          · have hr:=(if_neg hn0).symm.trans hr
            have h0:num=0:=by omega
            subst h0
            cases hV:recording_Validate rr with
            | none=>rw [hV] at hr;cases hr
            | some cv=>
              rw [hV] at hr
              dsimp only at hr
              have HL:Hid (_∧_):=⟨hl,hy⟩
              have HV:Hid (_):=hV
              clear hl hy hc hn0
              by_cases hcv:cv≠0
              · have ex:([],0,25)=r:=Option.some.inj ((if_pos hcv).symm.trans hr)
                have hcv1:(cv != 0)=true:=by rw [bne_iff_ne];exact hcv
                clear hr hV
                go_enter Tryz.func16,Tryz.ntmps16
                go_wp2_with (first
                  | (go_at_call 45;refine k45.mono ?_;rintro e w1 ⟨u,M1,rfl,hb1,hi1,hle1,hn1,hr1⟩
                     have S1:Hid (Below w.heap.size w w1∧Imm M1 w1∧Mem.le M M1∧Newer M M1 w.heap.size):=⟨hb1,hi1,hle1,hn1⟩
                     have k46:=plines_calls lines HL.out.1 (rr,0) HL.out.2 M1 u w1 hi1 hr1
                     clear hb1 hi1 hle1 hn1 hr1 k45)
                  | (go_at_call 46;refine k46.mono ?_;rintro e w2 (⟨-,v2,vals,M2,rfl,hK⟩ | ⟨h0,-⟩)
                     rotate_left
                     · exact absurd rfl h0
                     have S2:Hid (KL w M1 rr v2 vals w2 M2):=KL.rebase hK S1.out.1
                     clear hK k46
                     have k47:=as_nil (.iface 100 (.pointer (some ⟨w2.heap.size,0,none⟩))) (w2.alloc (.cells #[.pointer none] 98)))
                  | (go_at_call 47;refine k47.mono ?_;rintro e w3 ⟨rfl,hw3⟩
                     have S3:Hid (KL w M1 rr v2 vals w3 M2):=by rw [hw3];exact S2.out.keep ((Below.refl _ _).alloc (Nat.le_refl _) _)
                     have h18:FnR Tryz.prog 18 [e_sl_sl_Input rr] (.v (.int .i64 cv)) []:=c_18.ok (rr,()) [e_sl_sl_Input rr] cv ⟨rfl,trivial⟩ HV.out
                     have k18:=call_v h18 w3 [v2] (.cons ((S3.out.rep).mono (le_all (imm_mix S3.out.imm))) .nil)
                     clear hw3 h18 k47)
                  | (go_at_call 18;refine k18.mono ?_;rintro e w5 ⟨rfl,hb5⟩
                     have S5:Hid (KL w M1 rr v2 vals w5 M2):=S3.out.keep hb5
                     clear hb5 k18))
                go_ret3
                subst ex
                exact ⟨_,rfl,M2,S5.out.bel,S5.out.imm,fun b o u e=>S5.out.le b o u (S1.out.2.2.1 b o u e),S1.out.2.2.2.trans S5.out.new (Nat.le_refl _),.slnil⟩
              · have ex:(rr,0,0)=r:=Option.some.inj ((if_neg hcv).symm.trans hr)
                have hcv1:(cv != 0)=false:=by rw [bne_eq_false_iff_eq];omega
                clear hr hV
                go_enter Tryz.func16,Tryz.ntmps16
                go_wp2_with (first
                  | (go_at_call 45;refine k45.mono ?_;rintro e w1 ⟨u,M1,rfl,hb1,hi1,hle1,hn1,hr1⟩
                     have S1:Hid (Below w.heap.size w w1∧Imm M1 w1∧Mem.le M M1∧Newer M M1 w.heap.size):=⟨hb1,hi1,hle1,hn1⟩
                     have k46:=plines_calls lines HL.out.1 (rr,0) HL.out.2 M1 u w1 hi1 hr1
                     clear hb1 hi1 hle1 hn1 hr1 k45)
                  | (go_at_call 46;refine k46.mono ?_;rintro e w2 (⟨-,v2,vals,M2,rfl,hK⟩ | ⟨h0,-⟩)
                     rotate_left
                     · exact absurd rfl h0
                     have S2:Hid (KL w M1 rr v2 vals w2 M2):=KL.rebase hK S1.out.1
                     clear hK k46
                     have k47:=as_nil (.iface 100 (.pointer (some ⟨w2.heap.size,0,none⟩))) (w2.alloc (.cells #[.pointer none] 98)))
                  | (go_at_call 47;refine k47.mono ?_;rintro e w3 ⟨rfl,hw3⟩
                     have S3:Hid (KL w M1 rr v2 vals w3 M2):=by rw [hw3];exact S2.out.keep ((Below.refl _ _).alloc (Nat.le_refl _) _)
                     have h18:FnR Tryz.prog 18 [e_sl_sl_Input rr] (.v (.int .i64 cv)) []:=c_18.ok (rr,()) [e_sl_sl_Input rr] cv ⟨rfl,trivial⟩ HV.out
                     have k18:=call_v h18 w3 [v2] (.cons ((S3.out.rep).mono (le_all (imm_mix S3.out.imm))) .nil)
                     clear hw3 h18 k47)
                  | (go_at_call 18;refine k18.mono ?_;rintro e w5 ⟨rfl,hb5⟩
                     have S5:Hid (KL w M1 rr v2 vals w5 M2):=S3.out.keep hb5
                     clear hb5 k18))
                go_ret3
                subst ex
                exact ⟨_,rfl,M2,S5.out.bel,S5.out.imm,fun b o u e=>S5.out.le b o u (S1.out.2.2.1 b o u e),S1.out.2.2.2.trans S5.out.new (Nat.le_refl _),S5.out.rep⟩
      · have hr:=(if_neg hl).symm.trans hr
        cases hr
end GoForm
end
