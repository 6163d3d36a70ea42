/- Several texts in one. No conditions. -/
import Derived.Test.YtffgldbihpgjgaaGreatDoorRX
section
/- Recordings as text: an input's fields, in plain Lean. No conditions. -/
set_option linter.all false
set_option maxRecDepth 100000
open Go Go.Rx
namespace GoForm
theorem spl_le (c:UInt8):∀ (l:List UInt8),∀ p∈spl c l,p.length≤l.length
  | [],p,hp=>by simp [spl] at hp;subst hp;simp
  | x :: l,p,hp=>by
    have ih:=spl_le c l
    rw [spl_cons] at hp
    split at hp
    · rcases List.mem_cons.1 hp with rfl | hp
      · simp
      · have:=ih p hp;simp;omega
    · split at hp
      · simp at hp;subst hp;simp
      · rename_i q qs hq
        rcases List.mem_cons.1 hp with rfl | hp
        · have:=ih q (by rw [hq];exact List.mem_cons_self ..);simp;omega
        · have:=ih p (by rw [hq];exact List.mem_cons_of_mem _ hp);simp;omega
theorem kind_not (s:List UInt8) (h:∀ k:Nat,1≤k→k≤12→wdv (k:Int)≠s):∀ i:Nat,i≤12→kindP recording_word s i=0
  | 0,_=>rfl
  | i+1,hi=>by
    have:=h (i+1) (by omega) hi
    show (if recording_word ((i:Int)+1)=some s then (i:Int)+1 else kindP recording_word s i)=0
    rw [word_1,if_neg (by intro e;exact this (Option.some.inj e)),kind_not s h i (by omega)]
theorem kq1:caromref47_kindOf (wdv 1)=some (kindP recording_word (wdv 1) 12):=by kernel_rfl
theorem kq2:caromref47_kindOf (wdv 2)=some (kindP recording_word (wdv 2) 12):=by kernel_rfl
theorem kq3:caromref47_kindOf (wdv 3)=some (kindP recording_word (wdv 3) 12):=by kernel_rfl
theorem kq4:caromref47_kindOf (wdv 4)=some (kindP recording_word (wdv 4) 12):=by kernel_rfl
theorem kq5:caromref47_kindOf (wdv 5)=some (kindP recording_word (wdv 5) 12):=by kernel_rfl
theorem kq6:caromref47_kindOf (wdv 6)=some (kindP recording_word (wdv 6) 12):=by kernel_rfl
theorem kq7:caromref47_kindOf (wdv 7)=some (kindP recording_word (wdv 7) 12):=by kernel_rfl
theorem kq8:caromref47_kindOf (wdv 8)=some (kindP recording_word (wdv 8) 12):=by kernel_rfl
theorem kq10:caromref47_kindOf (wdv 10)=some (kindP recording_word (wdv 10) 12):=by kernel_rfl
theorem kq12:caromref47_kindOf (wdv 12)=some (kindP recording_word (wdv 12) 12):=by kernel_rfl
theorem kq9:wdv 9=[]:=by kernel_rfl
theorem kq11:wdv 11=[]:=by kernel_rfl
theorem kind_eq (s:List UInt8) (hs:s≠[]):caromref47_kindOf s=some (kindP recording_word s 12):=by
  by_cases hk:∃ k:Nat,1≤k∧k≤12∧wdv (k:Int)=s
  · obtain ⟨k,h1,h2,rfl⟩:=hk
    match k,h1,h2 with
    | 1,_,_=>exact kq1
    | 2,_,_=>exact kq2
    | 3,_,_=>exact kq3
    | 4,_,_=>exact kq4
    | 5,_,_=>exact kq5
    | 6,_,_=>exact kq6
    | 7,_,_=>exact kq7
    | 8,_,_=>exact kq8
    | 9,_,_=>exact absurd kq9 hs
    | 10,_,_=>exact kq10
    | 11,_,_=>exact absurd kq11 hs
    | 12,_,_=>exact kq12
    | (k+13),_,h=>omega
  · have hno:∀ k:Nat,1≤k→k≤12→wdv (k:Int)≠s:=fun k h1 h2 h3=>hk ⟨k,h1,h2,h3⟩
    rw [kind_not s hno 12 (by omega)]
    unfold caromref47_kindOf
    simp only [Let_nr]
    obtain ⟨m,hm⟩:=fuel20
    have key:∀ (n:Nat) (i:Nat),1≤i→i≤13→13 - i<n→LOOP (fun (rec1567:Int→Option Int) (s1568:Int)=>if decide (s1568≤(12:Int))=true then Rx.Bind (caromref47_word s1568) fun (r1570:List UInt8)=>Rx.Bind (if ((r1570 != #[].toList)==true)=true then caromref47_word s1568 else some default) fun (r1572:List UInt8)=>if (bif (r1570 != #[].toList) then (r1572==s) else false)=true then some s1568 else rec1567 (IntKind.i64.wrap (s1568+(1:Int))) else some (0:Int)) n (i:Int)=some 0:=by
      intro n
      induction n with
      | zero=>intro i _ _ h;omega
      | succ n ih=>
        intro i h1 h2 h3
        rw [LOOP_s]
        by_cases h12:i≤12
        · rw [if_pos (decide_eq_true (by omega)),word_2,Bind_snr]
          have hne:=hno i h1 h12
          have hb:∀ d:List UInt8,(bif (wdv (i:Int) != #[].toList) then ((if ((wdv (i:Int) != #[].toList)==true)=true then wdv (i:Int) else d)==s) else false)=false:=by
            intro d
            cases hq:(wdv (i:Int) != #[].toList)
            · rfl
            · simp [hne]
          rw [Bind_if,hb,if_neg (by simp),show IntKind.i64.wrap ((i:Int)+1)=((i+1:Nat):Int) by rw [wrap_in _ (by omega) (by omega)];rfl]
          exact ih (i+1) (by omega) (by omega) (by omega)
        · rw [if_neg (by simp;omega)]
    rw [hm]
    exact key (m+20) 1 (by omega) (by omega) (by omega)
def parV:Nat→List (List UInt8)→Option (List Int)
  | _,[]=>some []
  | i,s::t=>if (if i=0 then pInt s else pFix s).2≠0 then none else match parV (i+1) t with
    | none=>none
    | some l=>some ((if i=0 then pInt s else pFix s).1::l)
theorem parL_eq:∀ (t:List (List UInt8)) (i:Nat),(∀ s∈t,Sm s)→parL format_ParseInt format_ParseFixed i t=some (parV i t)
  | [],i,_=>rfl
  | s :: t,i,h=>by
    have ih:=parL_eq t (i+1) (fun q hq=>h q (List.mem_cons_of_mem _ hq))
    have hs:=h s (List.mem_cons_self ..)
    have e:(if i=0 then format_ParseInt s else format_ParseFixed s)=some (if i=0 then pInt s else pFix s):=by
      rw [ParseInt_eq s hs,ParseFixed_eq s hs];split <;> rfl
    rw [parL,e,parV]
    generalize (if i=0 then pInt s else pFix s)=q
    obtain ⟨n,c⟩:=q
    dsimp only
    by_cases hc:c≠0
    · rw [if_pos hc,if_pos hc]
    · rw [if_neg hc,if_neg hc,ih]
      cases parV (i+1) t <;> rfl
def pinW (kind:Int) (u:Bool × Bool × Bool) (rest:List (List UInt8)):Input × Bool:=
  if kind=0∨rest.length≠(offsP u.2.1 u.2.2).length then (mkIn 0 false false [],false)
  else match parV 0 rest with
    | none=>(mkIn 0 false false [],false)
    | some l=>(mkIn kind u.2.1 u.2.2 l,true)
noncomputable def pinV (fs:List (List UInt8)):Input × Bool:=pinW (kindP recording_word (fs.headD []) 12) (usd (kindP recording_word (fs.headD []) 12)) fs.tail
theorem progPin (fs:List (List UInt8)) (hne:fs≠[]) (hs:∀ s∈fs,Sm s):recording_parseInput fs=some (pinV fs):=by
  cases fs with
  | nil=>exact absurd rfl hne
  | cons f0 rest=>
    show recPinG recording_word input_UsedFields format_ParseInt format_ParseFixed (f0::rest)=_
    show _=some (pinW (kindP recording_word f0 12) (usd (kindP recording_word f0 12)) rest)
    unfold recPinG pinW
    dsimp only
    rw [used_1,parL_eq rest 0 (fun s h=>hs s (List.mem_cons_of_mem _ h))]
    dsimp only
    by_cases hc:kindP recording_word f0 12=0∨rest.length≠(offsP (usd (kindP recording_word f0 12)).2.1 (usd (kindP recording_word f0 12)).2.2).length
    · exact (if_pos hc).trans (congrArg some (if_pos hc).symm)
    · refine (if_neg hc).trans (Eq.trans ?_ (congrArg some (if_neg hc).symm))
      cases parV 0 rest <;> rfl
theorem parV_fix:∀ (t:List (List UInt8)) (i:Nat),1≤i→parV i t=if t.all (fun s=>decide ((pFix s).2=0))=true then some (t.map fun s=>(pFix s).1) else none
  | [],i,_=>rfl
  | s :: t,i,h=>by
    have e:(if i=0 then pInt s else pFix s)=pFix s:=if_neg (by omega)
    rw [parV,e,parV_fix t (i+1) (by omega),List.all_cons,List.map_cons]
    by_cases hc:(pFix s).2≠0
    · rw [if_pos hc,decide_eq_false hc,Bool.false_and];rfl
    · have h0:(pFix s).2=0:=by omega
      rw [if_neg hc,decide_eq_true h0,Bool.true_and]
      cases t.all (fun s=>decide ((pFix s).2=0)) <;> rfl
theorem ix_cons2 (a b:List UInt8) (t:List (List UInt8)) (i:Nat):ix (a::b::t) (((i:Int))+2)=ix t (i:Int):=by
  have:((i:Int)+2)=((i+2:Nat):Int):=by omega
  rw [this,ix_nat,ix_nat];rfl
theorem refPin (fs:List (List UInt8)) (hl:fs.length≤1000000) (hs:∀ s∈fs,Sm s) (hn:∀ s∈fs,s≠[]):caromref47_parseInput fs=some (if fs=[] then (mkIn 0 false false [],false) else pinV fs):=by
  cases fs with
  | nil=>kernel_rfl
  | cons f0 rest=>
    rw [if_neg (by simp)]
    show _=some (pinW (kindP recording_word f0 12) (usd (kindP recording_word f0 12)) rest)
    have hk:=kind_eq f0 (hn f0 (List.mem_cons_self ..))
    generalize kindP recording_word f0 12=kind at hk ⊢
    have hu:=used_2 kind
    generalize usd kind=u at hu ⊢
    obtain ⟨u1,vec,value⟩:=u
    unfold pinW
    dsimp only
    cases rest with
    | nil=>
      have hc:kind=0∨([]:List (List UInt8)).length≠(offsP vec value).length:=.inr (by simp [offsP])
      rw [if_pos hc]
      unfold caromref47_parseInput
      simp only [Let_nr]
      rw [show decide (((([f0]:List (List UInt8)).length:Nat):Int)<2)=true from rfl]
      rw [Chk_of (by intro h;cases h)]
      rfl
    | cons id more=>
      have hlm:more.length≤1000000:=by simp at hl;omega
      have e0:decide ((((f0::id::more).length:Nat):Int)<2)=false:=decide_eq_false (by simp;omega)
      unfold caromref47_parseInput
      simp only [Let_nr]
      have x0:ix (f0::id::more) 0=f0:=rfl
      have x1:ix (f0::id::more) 1=id:=rfl
      have c0:(0:Int)≤0∧(0:Int)<((f0::id::more).length:Int):=by simp;omega
      have c1:(0:Int)≤1∧(1:Int)<((f0::id::more).length:Int):=by simp;omega
      rw [e0,Chk_of (fun _=>c0),x0]
      simp only [beq_self_eq_true,if_true]
      rw [hk,Bind_snr]
      by_cases hk0:kind=0
      · refine Eq.trans ?_ (congrArg some (if_pos (.inl hk0)).symm)
        have hkb:(kind==0)=true:=by rw [beq_iff_eq];exact hk0
        simp only [cond_false,hkb,if_true]
        rfl
      · have hkb:(kind==0)=false:=by rw [beq_eq_false_iff_ne];exact hk0
        simp only [cond_false,hkb,Bool.false_eq_true,if_false]
        rw [Chk_of c0,Bind_snr,hu,Bind_snr]
        simp only [Join_nr]
        have hpi:=refParseInt_eq id (hs id (by simp))
        have w22:IntKind.i64.wrap ((2:Int)+2)=4:=by decide
        have w21:IntKind.i64.wrap ((2:Int)+1)=3:=by decide
        have w41:IntKind.i64.wrap ((4:Int)+1)=5:=by decide
        -- the loop over the numbers
        have loop:∀ (fin:List Int→Option (Input × Bool)) (x0:Input) (step:(List Int × Int × Input→Option (Input × Bool))→List Int × Int × Input→Option (Input × Bool)),
            (∀ r v,step r v=if decide (v.2.1<((f0::id::more).length:Int))=true then Chk ((0:Int)≤v.2.1∧v.2.1<((f0::id::more).length:Int)) (Rx.Bind (caromref08_ParseFixed (ix (f0::id::more) v.2.1)) fun (q:Int × Int)=>if (q.2 != (0:Int))=true then some (mkIn 0 false false [],false) else Chk ((v.1.length+[q.1].length)*(8:Nat)≤(140737488355328:Nat)) (r (v.1++[q.1],IntKind.i64.wrap (v.2.1+(1:Int)),v.2.2))) else fin v.1)→
            LOOP step fuel ([],(2:Int),x0)=if more.all (fun s=>decide ((pFix s).2=0))=true then fin (more.map fun s=>(pFix s).1) else some (mkIn 0 false false [],false):=by
          intro fin x0 step hstep
          refine (LOOP_g more (fun v=>v.2.1 - 2) (fun i v=>v.1.length≤i) (fun t v=>if t.all (fun s=>decide ((pFix s).2=0))=true then fin (v.1++t.map fun s=>(pFix s).1) else some (mkIn 0 false false [],false)) step ([],2,x0) (sm_of hlm (by decide)) rfl (by simp) ?_ ?_)
          · rintro r i t ⟨ns,p,y⟩ hp hP hw hc hm hr
            have hp:p=(i:Int)+2:=by have hp:p - 2=(i:Int):=hp;omega
            subst hp
            have hP:ns.length≤i:=hP
            have hfix:=refParseFixed_eq (ix more (i:Int)) (hs _ (List.mem_cons_of_mem _ (List.mem_cons_of_mem _ hm)))
            rw [hstep]
            simp only
            rw [if_pos (decide_eq_true (by simp;omega)),Chk_of (by simp;omega),ix_cons2,hfix,Bind_snr,List.all_cons,List.map_cons]
            by_cases hq:(pFix (ix more (i:Int))).2=0
            · rw [if_neg (by simpa using hq),Chk_of (by simp;omega),decide_eq_true hq,Bool.true_and]
              have hw2:IntKind.i64.wrap ((i:Int)+2+1)=(i:Int)+1+2:=by rw [wrap_in _ (by omega) (by omega)];omega
              rw [hw2,hr _ (by show (i:Int)+1+2 - 2=_;omega) (by simp;omega)]
              simp only [List.append_assoc,List.singleton_append]
            · rw [if_pos (by simpa using hq),decide_eq_false hq,Bool.false_and];rfl
          · rintro r ⟨ns,p,y⟩ hp hP
            have hp:p=(more.length:Int)+2:=by have hp:p - 2=(more.length:Int):=hp;omega
            subst hp
            rw [hstep]
            simp only
            rw [if_neg (by simp;omega)]
            simp
        have hpv:parV 0 (id::more)=if (pInt id).2≠0 then none else (if more.all (fun s=>decide ((pFix s).2=0))=true then some ((pInt id).1::more.map fun s=>(pFix s).1) else none):=by
          rw [parV,parV_fix more 1 (by omega)]
          simp only [if_true]
          by_cases hc:(pInt id).2≠0
          · rw [if_pos hc,if_pos hc]
          · rw [if_neg hc,if_neg hc]
            cases more.all (fun s=>decide ((pFix s).2=0)) <;> rfl
        rw [hpv]
        have hb:∀ (N:Int) (m:Nat),N=(m:Int)+1→(bif ((((f0::id::more).length:Nat):Int) != N) then true else ((pInt id).2 != 0))=(decide ((id::more).length≠m)||decide ((pInt id).2≠0)):=by
          intro N m hN
          subst hN
          rw [cond_or]
          congr 1
          · rw [Bool.eq_iff_iff];simp;omega
          · rw [Bool.eq_iff_iff];simp
        have final:∀ (m:Nat) (fin:List Int→Option (Input × Bool)) (x0:Input) (step:(List Int × Int × Input→Option (Input × Bool))→List Int × Int × Input→Option (Input × Bool)),
            (∀ r v,step r v=if decide (v.2.1<((f0::id::more).length:Int))=true then Chk ((0:Int)≤v.2.1∧v.2.1<((f0::id::more).length:Int)) (Rx.Bind (caromref08_ParseFixed (ix (f0::id::more) v.2.1)) fun (q:Int × Int)=>if (q.2 != (0:Int))=true then some (mkIn 0 false false [],false) else Chk ((v.1.length+[q.1].length)*(8:Nat)≤(140737488355328:Nat)) (r (v.1++[q.1],IntKind.i64.wrap (v.2.1+(1:Int)),v.2.2))) else fin v.1)→
            m=(offsP vec value).length→((more.map fun s=>(pFix s).1).length+1=m→fin (more.map fun s=>(pFix s).1)=some (mkIn kind vec value ((pInt id).1::more.map fun s=>(pFix s).1),true))→
            (if (decide ((id::more).length≠m)||decide ((pInt id).2≠0))=true then some (mkIn 0 false false [],false) else LOOP step fuel ([],(2:Int),x0))=some (if kind=0∨(id::more).length≠(offsP vec value).length then (mkIn 0 false false [],false) else match (if (pInt id).2≠0 then none else (if more.all (fun s=>decide ((pFix s).2=0))=true then some ((pInt id).1::more.map fun s=>(pFix s).1) else none)) with
              | none=>(mkIn 0 false false [],false)
              | some l=>(mkIn kind vec value l,true)):=by
          intro m fin x0 step hstep hm hfin
          rw [loop fin x0 step hstep]
          by_cases hlen:(id::more).length=m
          · rw [if_neg (c:=kind=0∨_) (by rintro (h | h);exact hk0 h;exact h (by rw [hlen,hm]))]
            rw [decide_eq_false (p:=(id::more).length≠m) (by simpa using hlen),Bool.false_or]
            by_cases hp:(pInt id).2≠0
            · rw [decide_eq_true hp,if_pos rfl,if_pos hp]
            · rw [decide_eq_false hp,if_neg (by simp),if_neg hp]
              cases hall:more.all (fun s=>decide ((pFix s).2=0))
              · rfl
              · rw [if_pos rfl,if_pos rfl,hfin (by simpa using hlen)]
          · rw [decide_eq_true (p:=(id::more).length≠m) hlen,Bool.true_or,if_pos rfl,if_pos (.inr (by rw [← hm];exact hlen))]
        generalize hns:(more.map fun s=>(pFix s).1)=ns at*
        cases vec <;> cases value <;> simp only [Bool.false_eq_true,if_false,if_true,w22,w21,w41] <;> rw [Chk_of c1,x1,hpi,Bind_snr]
        · rw [hb 2 1 rfl]
          refine final 1 (fun ns=>some ({ Kind:=kind,ID:=(pInt id).1,Vec:=⟨0,0⟩,Value:=0,Body:=exB,Joint:=exJ },true)) _ _ ?_ rfl (fun h=>rfl)
          intro r v;rfl
        · rw [hb 3 2 rfl]
          refine final 2 (fun ns=>Chk ((0:Int)≤0∧(0:Int)<(ns.length:Int)) (some ({ Kind:=kind,ID:=(pInt id).1,Vec:=⟨0,0⟩,Value:=ix ns 0,Body:=exB,Joint:=exJ },true))) _ _ ?_ rfl (fun h=>?_)
          · intro r v;rfl
          · match ns,h with
            | [a],_=>rfl
        · rw [hb 4 3 rfl]
          refine final 3 (fun ns=>Chk ((0:Int)≤0∧(0:Int)<(ns.length:Int)) (Chk ((0:Int)≤1∧(1:Int)<(ns.length:Int)) (Chk ((0:Int)≤2∧(2:Int)≤(ns.length:Int)) (some ({ Kind:=kind,ID:=(pInt id).1,Vec:=⟨ix ns 0,ix ns 1⟩,Value:=0,Body:=exB,Joint:=exJ },true))))) _ _ ?_ rfl (fun h=>?_)
          · intro r v;rfl
          · match ns,h with
            | [a,b],_=>rfl
        · rw [hb 5 4 rfl]
          refine final 4 (fun ns=>Chk ((0:Int)≤0∧(0:Int)<(ns.length:Int)) (Chk ((0:Int)≤1∧(1:Int)<(ns.length:Int)) (Chk ((0:Int)≤2∧(2:Int)≤(ns.length:Int)) (Chk ((0:Int)≤0∧(0:Int)<((ns.drop 2).length:Int)) (some ({ Kind:=kind,ID:=(pInt id).1,Vec:=⟨ix ns 0,ix ns 1⟩,Value:=ix (ns.drop 2) 0,Body:=exB,Joint:=exJ },true)))))) _ _ ?_ rfl (fun h=>?_)
          · intro r v;rfl
          · match ns,h with
            | [a,b,c],_=>rfl
end GoForm
end

section
/- Recordings as text: Parse and the law RecordingText, in plain Lean. No conditions. -/
set_option linter.all false
set_option maxRecDepth 100000
open Go Go.Rx
namespace GoForm
noncomputable def linV:List (List UInt8)→Nat→List (List Input)→List (List Input) × Nat
  | [],_,r=>(r,0)
  | line::t,i,r=>if (pFields line).2≠0∨(pFields line).1=[] then ([],i+1) else if line=frameB then linV t (i+1) (r++[[]])
      else if (pinV (pFields line).1).2=false∨r=[] then ([],i+1) else linV t (i+1) (r.set (r.length - 1) (r.getD (r.length - 1) []++[(pinV (pFields line).1).1]))
theorem pF_le {l p:List UInt8} (h:p∈(pFields l).1):p.length≤l.length:=by
  unfold pFields at h
  split at h
  · cases h
  · split at h
    · exact spl_le 32 l p h
    · cases h
theorem pF_ne {l p:List UInt8} (h:p∈(pFields l).1):p≠[]:=by
  unfold pFields at h
  split at h
  · cases h
  · split at h
    · rename_i h2
      have:=List.all_eq_true.1 h2 p h
      unfold isF at this
      rw [Bool.and_eq_true] at this
      exact of_decide_eq_true this.2
    · cases h
theorem pF_len (l:List UInt8):(pFields l).1.length≤l.length+1:=by
  unfold pFields
  split
  · simp
  · split
    · show (spl 32 l).length≤_
      rw [spl_len];have:=List.count_le_length (a:=(32:UInt8)) (l:=l);omega
    · simp
theorem pF_bad {l:List UInt8} (h:(pFields l).2≠0):(pFields l).1=[]:=by
  unfold pFields at h ⊢
  split
  · rfl
  · rename_i h1
    rw [if_neg h1] at h
    split
    · rename_i h2;rw [if_pos h2] at h;exact absurd rfl h
    · rfl
theorem progLines:∀ (L:List (List UInt8)) (i:Nat) (r:List (List Input)),(∀ l∈L,l.length≤100000)→recLinesG format_Fields recording_parseInput L i r=some (linV L i r)
  | [],i,r,_=>rfl
  | line::t,i,r,h=>by
    have hl:=h line (List.mem_cons_self ..)
    have ih:=fun i r=>progLines t i r (fun l hl=>h l (List.mem_cons_of_mem _ hl))
    rw [recLinesG,linV,Fields_eq line (by omega)]
    dsimp only
    by_cases h1:(pFields line).2≠0∨(pFields line).1=[]
    · rw [if_pos h1,if_pos h1]
    · rw [if_neg h1,if_neg h1]
      by_cases h2:line=frameB
      · rw [if_pos h2,if_pos h2,ih]
      · rw [if_neg h2,if_neg h2,progPin _ (fun e=>h1 (.inr e)) (fun s hs=>sm_of (n:=100000) (by have:=pF_le hs;omega) (by decide))]
        dsimp only
        by_cases h3:(pinV (pFields line).1).2=false∨r=[]
        · rw [if_pos h3,if_pos h3]
        · rw [if_neg h3,if_neg h3,ih]
theorem pL_le {l p:List UInt8} (h:p∈(pLines l).1):p.length≤l.length:=by
  unfold pLines at h
  split at h
  · cases h
  · split at h
    · have:=spl_le 10 l.dropLast p h
      rw [List.length_dropLast] at this;omega
    · cases h
theorem pL_len (l:List UInt8):(pLines l).1.length≤l.length+1:=by
  unfold pLines
  split
  · simp
  · split
    · show (spl 10 l.dropLast).length≤_
      rw [spl_len];have:=List.count_le_length (a:=(10:UInt8)) (l:=l.dropLast);rw [List.length_dropLast] at this;omega
    · simp
noncomputable def finV (y:List (List Input) × Nat):List (List Input) × Int × Int:=if y.2≠0 then ([],(y.2:Int),27) else if rvl y.1≠0 then ([],0,25) else (y.1,0,0)
noncomputable def parseV (s:List UInt8):List (List Input) × Int × Int:=if (pLines s).2≠0 then ([],0,(pLines s).2) else finV (linV (pLines s).1 0 [])
theorem progParse (s:List UInt8) (h:s.length≤90000):recording_Parse s=some (parseV s):=by
  show recParseG format_SplitLines format_Fields recording_parseInput recording_Validate s=_
  unfold recParseG parseV finV
  rw [SplitLines_eq s (by omega)]
  dsimp only
  by_cases h1:(pLines s).2≠0
  · rw [if_pos h1,if_pos h1]
  · have hn:=pL_len s
    rw [if_neg h1,if_neg h1,if_pos (by omega),progLines _ _ _ (fun l hl=>by have:=pL_le hl;omega)]
    dsimp only
    by_cases h2:(linV (pLines s).1 0 []).2≠0
    · rw [if_pos h2,if_pos h2]
    · rw [if_neg h2,if_neg h2,progVal]
      dsimp only
      split <;> rfl
theorem refParse (s:List UInt8) (h:s.length≤90000):caromref47_Parse s=some (parseV s):=by
  unfold caromref47_Parse parseV
  simp only [Let_nr]
  rw [refSplitLines_eq s (by omega),Bind_snr]
  by_cases h1:(pLines s).2≠0
  · rw [if_pos h1,if_pos (by simpa using h1)]
  · rw [if_neg h1,if_neg (by simpa using h1)]
    have hn:=pL_len s
    have hls:∀ l∈(pLines s).1,l.length≤90000:=fun l hl=>by have:=pL_le hl;omega
    generalize (pLines s).1=L at hn hls ⊢
    refine LOOP_i L (fun i r=>r.length≤i∧∀ f∈r,f.length≤i) (fun t i r=>some (finV (linV t i r))) _ [] (sm_of (n:=100000) (by omega) (by decide)) (by simp) ?_ ?_
    · rintro q i t r ⟨hr1,hr2⟩ hw hc hm hr
      have hl:=hls _ hm
      have hif:=refFields_eq (ix L (i:Int)) (by omega)
      simp only
      rw [if_pos (dlt hc),Join_nr,Chk_of hc]
      generalize ix L (i:Int)=line at hl hif ⊢
      rw [linV]
      by_cases h2:line=frameB
      · have e1:(line==#[(102:UInt8),(114:UInt8),(97:UInt8),(109:UInt8),(101:UInt8)].toList)=true:=by rw [beq_iff_eq];exact h2
        have e2:¬ ((pFields line).2≠0∨(pFields line).1=[]):=by rw [h2];decide
        rw [e1,if_pos rfl,if_neg e2,if_pos h2,Chk_of (by omega),hw]
        exact hr _ ⟨by rw [List.length_append];simp;omega,fun f hf=>by
          rcases List.mem_append.1 hf with hf | hf
          · have:=hr2 f hf;omega
          · simp at hf;subst hf;simp⟩
      · have e1:(line==#[(102:UInt8),(114:UInt8),(97:UInt8),(109:UInt8),(101:UInt8)].toList)=false:=by rw [beq_eq_false_iff_ne];exact h2
        rw [e1,if_neg (by simp),Chk_of hc,hif,Bind_snr,refPin _ (by have:=pF_len line;omega) (fun p hp=>sm_of (n:=100000) (by have:=pF_le hp;omega) (by decide)) (fun p hp=>pF_ne hp),Bind_snr]
        have wi:IntKind.i64.wrap ((i:Int)+1)=((i+1:Nat):Int):=hw
        by_cases h3:(pFields line).2≠0∨(pFields line).1=[]
        · have hnil:(pFields line).1=[]:=h3.elim pF_bad id
          rw [if_pos h3,if_pos hnil,if_pos (by simp),wi]
          unfold finV
          rw [if_pos (by simp)]
        · rw [if_neg h3,if_neg h2,if_neg (fun e=>h3 (.inr e))]
          have h30:(pFields line).2=0:=by
            rcases Decidable.em ((pFields line).2=0) with h | h
            · exact h
            · exact absurd (.inl h) h3
          by_cases h4:(pinV (pFields line).1).2=false∨r=[]
          · rw [if_pos h4,if_pos (by rcases h4 with h | h <;> simp [h]),wi]
            unfold finV
            rw [if_pos (by simp)]
          · have h5:(pinV (pFields line).1).2=true:=by
              cases h:(pinV (pFields line).1).2 with
              | true=>rfl
              | false=>exact absurd (.inl h) h4
            have h6:0<r.length:=List.length_pos_iff.2 (fun h=>h4 (.inr h))
            have w1:IntKind.i64.wrap ((r.length:Int) - 1)=((r.length - 1:Nat):Int):=by rw [wrap_in _ (by omega) (by omega)];omega
            have e6:(((r.length:Nat):Int)==0)=false:=by rw [beq_eq_false_iff_ne];omega
            rw [if_neg h4,if_neg (by simp [h30,h5];intro h;subst h;simp at h6),w1,Chk_of (by omega),Chk_of (by omega)]
            have hfl:(ix r ((r.length - 1:Nat):Int)).length≤i:=hr2 _ (ix_mem r _ (by omega))
            rw [Chk_of (by omega),Chk_of (by simp;omega),Chk_of (by omega),Chk_of (by omega),hw]
            refine hr _ ⟨by rw [List.length_set];omega,fun f hf=>?_⟩
            rcases List.mem_or_eq_of_mem_set hf with hf | hf
            · have:=hr2 f hf;omega
            · rw [hf,List.length_append];simp;omega
    · rintro q r ⟨hr1,hr2⟩
      simp only
      have hfin:finV (r,0)=if rvl r≠0 then ([],0,25) else (r,0,0):=if_neg (by simp)
      rw [dll,if_neg (by simp),refVal,Bind_snr,linV,hfin]
      by_cases hv:rvl r≠0
      · rw [if_pos hv,if_pos (by simpa using hv)]
      · rw [if_neg hv,if_neg (by simpa using hv)]
def ExB (r:List (List Input)):Prop:=∀ f∈r,∀ x∈f,x.Body=exB
theorem pinV_body (fs:List (List UInt8)):(pinV fs).1.Body=exB:=by
  unfold pinV pinW
  split
  · rfl
  · split <;> rfl
theorem linV_ok:∀ (t:List (List UInt8)) (i:Nat) (r:List (List Input)),ExB r→r.length≤i→(∀ f∈r,f.length≤i)→ExB (linV t i r).1∧(linV t i r).1.length≤i+t.length∧∀ f∈(linV t i r).1,f.length≤i+t.length
  | [],i,r,h1,h2,h3=>⟨h1,h2,h3⟩
  | line :: t,i,r,h1,h2,h3=>by
    have nil:ExB ([]:List (List Input))∧([]:List (List Input)).length≤i+(line::t).length∧∀ f∈([]:List (List Input)),f.length≤i+(line::t).length:=⟨fun f hf=>(by cases hf),by simp,fun f hf=>(by cases hf)⟩
    rw [linV]
    by_cases c1:(pFields line).2≠0∨(pFields line).1=[]
    · rw [if_pos c1];exact nil
    · rw [if_neg c1]
      by_cases c2:line=frameB
      · rw [if_pos c2]
        have:=linV_ok t (i+1) (r++[[]]) (fun f hf x hx=>by
          rcases List.mem_append.1 hf with hf | hf
          · exact h1 f hf x hx
          · simp at hf;subst hf;cases hx) (by rw [List.length_append];simp;omega) (fun f hf=>by
          rcases List.mem_append.1 hf with hf | hf
          · have:=h3 f hf;omega
          · simp at hf;subst hf;simp)
        rw [List.length_cons]
        have e:i+(t.length+1)=i+1+t.length:=by omega
        rw [e];exact this
      · rw [if_neg c2]
        by_cases c3:(pinV (pFields line).1).2=false∨r=[]
        · rw [if_pos c3];exact nil
        · rw [if_neg c3]
          have hlast:∀ x∈r.getD (r.length - 1) [],x.Body=exB:=by
            intro x hx
            rcases getD_mem_or r (r.length - 1) with h | h
            · exact h1 _ h x hx
            · rw [h] at hx;cases hx
          have hll:(r.getD (r.length - 1) []).length≤i:=by
            rcases getD_mem_or r (r.length - 1) with h | h
            · exact h3 _ h
            · rw [h];simp
          have:=linV_ok t (i+1) (r.set (r.length - 1) (r.getD (r.length - 1) []++[(pinV (pFields line).1).1])) (fun f hf x hx=>by
            rcases List.mem_or_eq_of_mem_set hf with hf | hf
            · exact h1 f hf x hx
            · rw [hf] at hx
              rcases List.mem_append.1 hx with hx | hx
              · exact hlast x hx
              · simp at hx;subst hx;exact pinV_body _) (by rw [List.length_set];omega) (fun f hf=>by
            rcases List.mem_or_eq_of_mem_set hf with hf | hf
            · have:=h3 f hf;omega
            · rw [hf,List.length_append,List.length_cons,List.length_nil];omega)
          rw [List.length_cons]
          have e:i+(t.length+1)=i+1+t.length:=by omega
          rw [e];exact this
theorem parseV_ok (s:List UInt8) (h:s.length≤90000):OkR (parseV s).1:=by
  have hn:=pL_len s
  have hnil:OkR []:=⟨by simp,fun f hf=>(by cases hf)⟩
  obtain ⟨k1,k2,k3⟩:=linV_ok (pLines s).1 0 [] (fun f hf=>(by cases hf)) (by simp) (fun f hf=>(by cases hf))
  unfold parseV finV
  split
  · exact hnil
  · split
    · exact hnil
    · split
      · exact hnil
      · refine ⟨by show (linV (pLines s).1 0 []).1.length≤_;omega,fun f hf=>⟨by have:=k3 f hf;omega,fun x hx=>?_⟩⟩
        rw [k1 f hf x hx]
        exact ⟨by decide,fun f hf=>(by cases hf)⟩
theorem Text_true (r:List (List Input)) (s:List UInt8) (ho:IOR r):caromlaw47_RecordingText r s=some true:=by
  unfold caromlaw47_RecordingText
  simp only [Let_nr,smR_eq,Bind_snr]
  cases ha:smR r
  · simp [ex_bind]
  · by_cases hl:(s.length:Int)>2000
    · rw [decide_eq_true hl]
      simp [ex_bind]
    · have hl2:s.length≤90000:=by omega
      have o1:=parseV_ok s hl2
      have f1:=progFmt r ho
      have f2:=refFmt r ho
      have p1:=progParse s hl2
      have p2:=refParse s hl2
      generalize fmtV r=f at f1 f2
      generalize parseV s=p at p1 p2 o1
      rw [decide_eq_false hl]
      simp only [Bool.not_true,cond_false,Bool.false_eq_true,if_false,f1,f2,p1,p2,Bind_snr,beq_self_eq_true,cond_true,if_true,refEqR _ _ o1,eqR_r _ o1,example47]
end GoForm
end

section
/- The law RecordingText, in plain Lean. No conditions. -/
set_option linter.all false
set_option maxRecDepth 100000
open Go Go.Rx
namespace GoForm
def Vec_P (x:Vec):Prop:=(IntKind.i64.min≤x.X∧x.X≤IntKind.i64.max)∧(IntKind.i64.min≤x.Y∧x.Y≤IntKind.i64.max)
def Transform_P (x:Transform):Prop:=Vec_P x.Position∧(IntKind.i64.min≤x.Angle∧x.Angle≤IntKind.i64.max)
def Shape_P (x:Shape):Prop:=(IntKind.i64.min≤x.Kind∧x.Kind≤IntKind.i64.max)∧(IntKind.i64.min≤x.Radius∧x.Radius≤IntKind.i64.max)∧((∀ a∈x.Vertices,Vec_P a)∧(x.Vertices).length≤9223372036854775807)
def Fixture_P (x:Fixture):Prop:=Shape_P x.Shape∧(IntKind.i64.min≤x.Density∧x.Density≤IntKind.i64.max)∧(IntKind.i64.min≤x.Friction∧x.Friction≤IntKind.i64.max)∧(IntKind.i64.min≤x.Restitution∧x.Restitution≤IntKind.i64.max)∧True∧(IntKind.i64.min≤x.Category∧x.Category≤IntKind.i64.max)∧(IntKind.i64.min≤x.Mask∧x.Mask≤IntKind.i64.max)∧(IntKind.i64.min≤x.Group∧x.Group≤IntKind.i64.max)
def Body_P (x:Body):Prop:=(IntKind.i64.min≤x.ID∧x.ID≤IntKind.i64.max)∧(IntKind.i64.min≤x.Kind∧x.Kind≤IntKind.i64.max)∧Transform_P x.Transform∧Vec_P x.Velocity∧(IntKind.i64.min≤x.AngularVelocity∧x.AngularVelocity≤IntKind.i64.max)∧Vec_P x.Force∧(IntKind.i64.min≤x.Torque∧x.Torque≤IntKind.i64.max)∧(IntKind.i64.min≤x.LinearDamping∧x.LinearDamping≤IntKind.i64.max)∧(IntKind.i64.min≤x.AngularDamping∧x.AngularDamping≤IntKind.i64.max)∧(IntKind.i64.min≤x.GravityScale∧x.GravityScale≤IntKind.i64.max)∧True∧True∧True∧True∧(IntKind.i64.min≤x.IdleSteps∧x.IdleSteps≤IntKind.i64.max)∧((∀ a∈x.Fixtures,Fixture_P a)∧(x.Fixtures).length≤9223372036854775807)
def Joint_P (x:Joint):Prop:=(IntKind.i64.min≤x.ID∧x.ID≤IntKind.i64.max)∧(IntKind.i64.min≤x.Kind∧x.Kind≤IntKind.i64.max)∧(IntKind.i64.min≤x.BodyA∧x.BodyA≤IntKind.i64.max)∧(IntKind.i64.min≤x.BodyB∧x.BodyB≤IntKind.i64.max)∧Vec_P x.AnchorA∧Vec_P x.AnchorB∧Vec_P x.Axis∧(IntKind.i64.min≤x.ReferenceAngle∧x.ReferenceAngle≤IntKind.i64.max)∧True∧(IntKind.i64.min≤x.Lower∧x.Lower≤IntKind.i64.max)∧(IntKind.i64.min≤x.Upper∧x.Upper≤IntKind.i64.max)∧True∧(IntKind.i64.min≤x.MotorSpeed∧x.MotorSpeed≤IntKind.i64.max)∧(IntKind.i64.min≤x.MaxForce∧x.MaxForce≤IntKind.i64.max)∧(IntKind.i64.min≤x.Softness∧x.Softness≤IntKind.i64.max)∧(IntKind.i64.min≤x.BreakForce∧x.BreakForce≤IntKind.i64.max)∧True∧((IntKind.i64.min≤x.Impulses.1∧x.Impulses.1≤IntKind.i64.max)∧(IntKind.i64.min≤x.Impulses.2.1∧x.Impulses.2.1≤IntKind.i64.max)∧(IntKind.i64.min≤x.Impulses.2.2.1∧x.Impulses.2.2.1≤IntKind.i64.max)∧(IntKind.i64.min≤x.Impulses.2.2.2∧x.Impulses.2.2.2≤IntKind.i64.max))
def Input_P (x:Input):Prop:=(IntKind.i64.min≤x.Kind∧x.Kind≤IntKind.i64.max)∧(IntKind.i64.min≤x.ID∧x.ID≤IntKind.i64.max)∧Vec_P x.Vec∧(IntKind.i64.min≤x.Value∧x.Value≤IntKind.i64.max)∧Body_P x.Body∧Joint_P x.Joint
theorem IOR_of {r:List (List Input)} (h:(∀ a∈r,((∀ b∈a,Input_P b)∧(a).length≤9223372036854775807))∧(r).length≤9223372036854775807):IOR r:=fun f hf x hx=>by
  obtain ⟨-,h2,⟨h3,h4⟩,h5,-⟩:=(h.1 f hf).1 x hx
  exact ⟨h2,h3,h4,h5⟩
theorem caromlaw47_RecordingText_true (r:List (List Input)) (s:List UInt8) (h:(∀ a∈r,((∀ b∈a,Input_P b)∧(a).length≤9223372036854775807))∧(r).length≤9223372036854775807) {P:Prop} (_:P):caromlaw47_RecordingText r s=some true:=Text_true r s (IOR_of h)
end GoForm
end
