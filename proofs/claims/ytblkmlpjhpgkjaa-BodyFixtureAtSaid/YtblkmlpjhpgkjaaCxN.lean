/-
  Regions that draw their order, whose end stands in the text's order. No conditions.
-/
import Derived.Test.YtblkmlpjhpgkjaaCxL
import Derived.Orders
set_option linter.all false
namespace Go.Cx
open Go.RowKit

/-- Does operation j wait for i, through others too? -/
def ancB (ops : Array Oper) : Nat → Nat → Nat → Bool
  | 0, _, _ => false
  | n + 1, j, i => match ops[j]? with
    | some o => (depsOf o).any fun d => d == i || ancB ops n d i
    | none => false

/-- From place n0 on each operation waits for all before it. -/
def barOk (ops : Array Oper) (n0 : Nat) : Bool := (List.range ops.size).all fun j => (match ops[j]? with | some o => (depsOf o).all (· < j) | none => true) && (j < n0 || (List.range j).all fun i => ancB ops ops.size j i)

theorem len_ge : ∀ {n : Nat} {l : List Nat}, (∀ i, i < n → i ∈ l) → n ≤ l.length
  | 0, _, _ => Nat.zero_le _
  | n + 1, l, h => by
    have h1 := len_ge (n := n) (l := l.erase n) (fun i hi => (List.mem_erase_of_ne (by omega)).2 (h i (by omega)))
    have h2 := List.length_erase_of_mem (h n (by omega))
    have h3 : 0 < l.length := List.length_pos_of_mem (h n (by omega))
    omega

theorem ancB_listed {ops : Array Oper} {listed : Nat → Prop} (hcl : ∀ k, listed k → ∀ o, ops[k]? = some o → ∀ d ∈ depsOf o, listed d) : ∀ n j i, (∀ o, ops[j]? = some o → ∀ d ∈ depsOf o, listed d) → ancB ops n j i = true → listed i
  | 0, j, i, _, h => by simp [ancB] at h
  | n + 1, j, i, hj, h => by
    simp only [ancB] at h
    split at h
    · rename_i o ho
      obtain ⟨d, hd, h2⟩ := List.any_eq_true.1 h
      simp only [Bool.or_eq_true, beq_iff_eq] at h2
      rcases h2 with rfl | h2
      · exact hj o ho _ hd
      · exact ancB_listed hcl n d i (fun o' ho' d' hd' => hcl d (hj o ho d hd) o' ho' d' hd') h2
    · simp at h

theorem Wp.draw2 {P : Program} {N id : Nat} {ops : Array Oper} {Q : AExit → LS → Prop} {e e' : Env} {h h' : Hp} {f f' : List Nat} {cs : List Loc} {A B : List Oper} (hm : P.follows .mixedOrders = true) (hAB : ops.toList = A ++ B)
    (bar : barOk ops A.length = true) (tr : TrL P ops N A e h cs e' h') (ok : locOkFrom [] 0 A cs = true) (hn : nodupB (namesOf cs) = true) (hin : (namesOf cs).all (fun d => f.contains d) = true)
    (hf : f'.all (fun y => f.contains y && !(namesOf cs).contains y) = true) (hq : GoT P ops N B (Q .normal) ⟨e', h', f'⟩) : Wp P N (.region id ops true) Q ⟨e, h, f⟩ := by
  intro W0 m0 m bl hh ac w s Qc hc
  obtain ⟨t1, t2, t3, t4⟩ := tr.at
  have hsz0 : ops.size = A.length + B.length := by rw [← Array.length_toList, hAB, List.length_append]
  have opA : ∀ j, j < A.length → ops[j]? = A[j]? := by
    intro j hj
    rw [← Array.getElem?_toList, hAB, List.getElem?_append_left hj]
  generalize hn0 : A.length = n0 at t1 t3 t4 bar hsz0 opA
  -- what is known of each operation
  have fact : ∀ j o, j < n0 → ops[j]? = some o → ∃ c, cs[j]? = some c ∧ LEx P ops N o c ∧ (∀ p ∈ c.re, find p.1 ((downFrom j).flatMap (WE cs) ++ e) = some p.2) ∧ (∀ p ∈ c.rh, find p.1 ((downFrom j).flatMap (WH cs) ++ h) = some p.2) ∧
      (∀ d ∈ depsOf o, d < j) ∧ (∀ i c', cs[i]? = some c' → i < j → c'.conf c = true → i ∈ depsOf o) := by
    intro j o hj ho
    rw [opA j hj] at ho
    obtain ⟨c, k1, k2, k3, k4⟩ := t2 j o ho
    have := locOk_spec [] A cs (by simpa using ok) j o c ho k1
    simp only [List.length_nil, Nat.zero_add, List.nil_append] at this
    exact ⟨c, k1, k2, k3, k4, this.1, this.2⟩
  have ndup := nodupB_spec hn
  -- the invariant
  let nmOf : Nat → List Nat := fun i => (cs.getD i noLoc).nm
  let fOf : List Nat → List Nat := fun σ => f.filter fun y => !(σ.flatMap nmOf).contains y
  let conf : Nat → Nat → Bool := fun i j => (cs.getD i noLoc).conf (cs.getD j noLoc)
  have conf_symm : ∀ i j, conf i j = conf j i := by
    intro i j
    have m2 : ∀ {α : Type} (a b : List (Nat × α)), meets a b = meets b a := by
      intro α a b
      rw [Bool.eq_iff_iff]
      constructor <;> intro hh <;>
      · obtain ⟨p, hp, hq⟩ := List.any_eq_true.1 hh
        obtain ⟨q, hq1, hq2⟩ := List.any_eq_true.1 hq
        exact List.any_eq_true.2 ⟨q, hq1, by have : q.1 = p.1 := by simpa using hq2
                                             rw [this]; exact hasKey_of_mem hp⟩
    simp only [conf, Loc.conf]
    rw [m2 (cs.getD i noLoc).we (cs.getD j noLoc).we, m2 (cs.getD i noLoc).wh (cs.getD j noLoc).wh]
    cases meets (cs.getD j noLoc).we (cs.getD i noLoc).we <;> cases meets (cs.getD i noLoc).we (cs.getD j noLoc).re <;> cases meets (cs.getD j noLoc).we (cs.getD i noLoc).re <;>
      cases meets (cs.getD j noLoc).wh (cs.getD i noLoc).wh <;> cases meets (cs.getD i noLoc).wh (cs.getD j noLoc).rh <;> cases meets (cs.getD j noLoc).wh (cs.getD i noLoc).rh <;> rfl
  have atCs : ∀ i c, cs[i]? = some c → cs.getD i noLoc = c := by intro i c hi; simp [List.getD, hi]
  have cslt : ∀ i, i < cs.length → ∃ o, ops[i]? = some o := by
    intro i hi; rw [t1] at hi; exact ⟨ops[i]'(by omega), by simp [show i < ops.size by omega]⟩
  have later : ∀ i j, i < j → j < cs.length → conf i j = true → ∀ o, ops[j]? = some o → i ∈ depsOf o := by
    intro i j hij hj hcf o ho
    obtain ⟨c, k1, -, -, -, -, k6⟩ := fact j o (by omega) ho
    have hi : i < cs.length := by omega
    refine k6 i cs[i] (List.getElem?_eq_getElem hi) hij ?_
    have e1 := atCs i cs[i] (List.getElem?_eq_getElem hi)
    have e2 := atCs j c k1
    simp only [conf, e1, e2] at hcf
    exact hcf
  have ancAll : ∀ listed : Array Bool, (∀ k, listed.getD k false = true → ∀ o, ops[k]? = some o → ∀ d ∈ depsOf o, listed.getD d false = true) → ∀ j o, n0 ≤ j → ops[j]? = some o →
      (∀ d ∈ depsOf o, listed.getD d false = true) → ∀ i, i < j → listed.getD i false = true := by
    intro listed hcl j o hj ho hd i hi
    have hjl : j < ops.size := by
      rcases Nat.lt_or_ge j ops.size with h | h
      · exact h
      · simp [Array.getElem?_eq_none h] at ho
    have h1 := List.all_eq_true.1 bar j (List.mem_range.2 hjl)
    simp only [Bool.and_eq_true, Bool.or_eq_true, decide_eq_true_eq] at h1
    have h2 := List.all_eq_true.1 (h1.2.resolve_left (by omega)) i (List.mem_range.2 hi)
    exact ancB_listed (listed := fun k => listed.getD k false = true) hcl _ j i (fun o' ho' d hd' => by rw [ho] at ho'; cases ho'; exact hd d hd') h2
  have dltAll : ∀ j o, ops[j]? = some o → ∀ d ∈ depsOf o, d < j := by
    intro j o ho d hd
    have hjl : j < ops.size := by
      rcases Nat.lt_or_ge j ops.size with h | h
      · exact h
      · simp [Array.getElem?_eq_none h] at ho
    have h1 := List.all_eq_true.1 bar j (List.mem_range.2 hjl)
    simp only [Bool.and_eq_true, ho] at h1
    simpa using List.all_eq_true.1 h1.1 d hd
  -- from n0 on in the text's order
  have seq : ∀ (fuel k : Nat) (listed : Array Bool) (a : Act) (w : World), listed.size = ops.size → (∀ i, listed.getD i false = true ↔ i < k) → n0 ≤ k → k + fuel = ops.size →
      (∀ j o, ops[j]? = some o → ∀ d ∈ depsOf o, d < j) → wpList P ops Qc (ops.toList.drop k) a w → wpAny P .any ops Qc fuel listed a w := by
    intro fuel
    induction fuel with
    | zero =>
      intro k listed a w hsz hl hk hkf dlt hw
      have hr : Region.ready .any ops listed = [] := by
        refine List.eq_nil_iff_forall_not_mem.2 fun j hj => ?_
        obtain ⟨g1, o, g2, g3⟩ := mem_ready.1 hj
        have hjl : j < ops.size := by
          rcases Nat.lt_or_ge j ops.size with h | h
          · exact h
          · simp [Array.getElem?_eq_none h] at g2
        have := (hl j).2 (by omega)
        rw [Array.getD_eq_getD_getElem?] at g1 this
        simp [hsz, hjl] at g1 this
        rw [g1] at this; cases this
      refine ⟨hr, ?_⟩
      rw [List.drop_of_length_le (by simp; omega)] at hw
      exact hw
    | succ fuel ih =>
      intro k listed a w hsz hl hk hkf dlt hw
      have hks : k < ops.size := by omega
      have hok : ops[k]? = some (ops[k]'hks) := by simp [hks]
      refine ⟨fun hr => ?_, fun j hj => ?_⟩
      · exfalso
        have : k ∈ Region.ready .any ops listed := by
          refine mem_ready.2 ⟨?_, _, hok, fun ed hed hb => ?_⟩
          · rw [Array.getD_eq_getD_getElem?]
            have h1 : ¬ listed.getD k false = true := by rw [hl]; omega
            rw [Array.getD_eq_getD_getElem?] at h1
            simp [hsz, hks] at h1 ⊢
            exact h1
          · exact (hl _).2 (dlt k _ hok _ (List.mem_map.2 ⟨ed, List.mem_filter.2 ⟨by simpa using hed, hb⟩, rfl⟩))
        rw [hr] at this; simp at this
      · obtain ⟨g1, o, g2, g3⟩ := mem_ready.1 hj
        have hjl : j < ops.size := by
          rcases Nat.lt_or_ge j ops.size with h | h
          · exact h
          · simp [Array.getElem?_eq_none h] at g2
        have hjn : ¬ j < k := by
          intro hjk
          have := (hl j).2 hjk
          rw [Array.getD_eq_getD_getElem?] at g1 this
          simp [hsz, hjl] at g1 this
          rw [g1] at this; cases this
        have hdl : ∀ d ∈ depsOf o, listed.getD d false = true := by
          intro d hd
          obtain ⟨ed, hed, rfl⟩ := List.mem_map.1 hd
          obtain ⟨h1, h2⟩ := List.mem_filter.1 hed
          exact g3 ed (by simpa using h1) h2
        have hjk : j = k := by
          rcases Nat.lt_or_ge k j with h | h
          · have := ancAll listed (fun k' hk' o' ho' d hd => (hl d).2 (by have := (hl k').1 hk'; have := dlt k' o' ho' d hd; omega)) j o (by omega) g2 hdl k h
            have := (hl k).1 this; omega
          · omega
        subst hjk
        have hcons : ops.toList.drop j = o :: ops.toList.drop (j + 1) := by
          rw [List.drop_eq_getElem_cons (by simpa using hks)]
          congr 1
          rw [hok] at g2; simpa using g2
        rw [hcons] at hw
        unfold wpOp
        rw [g2]
        simp only [wpList] at hw ⊢
        have nxt : ∀ a w, wpList P ops Qc (ops.toList.drop (j + 1)) a w → wpAny P .any ops Qc fuel (listed.setIfInBounds j true) a w := by
          intro a w hw'
          refine ih (j + 1) _ a w (by simp [hsz]) ?_ (by omega) (by omega) dlt hw'
          intro i
          rw [Array.getD_eq_getD_getElem?, Array.getElem?_setIfInBounds]
          by_cases hij : j = i
          · subst hij; simp [hsz, hjl]
          · have := hl i
            rw [Array.getD_eq_getD_getElem?] at this
            simp only [hij, if_false, this]; omega
        split
        · rename_i hw1
          rw [if_pos hw1] at hw
          rcases hw with hw | hw
          · exact .inl (Oper.wp_mono nxt hw)
          · exact .inr hw
        · rename_i hw1
          rw [if_neg hw1] at hw
          exact nxt _ _ hw
  have readyAll : ∀ listed : Array Bool, listed.size = ops.size → (∀ i, i ∉ Region.ready .any ops listed) → ∀ j, j < n0 → listed.getD j false = true := by
    intro listed hsz hr j
    induction j using Nat.strongRecOn with
    | _ j ih =>
      intro hj
      rcases Bool.eq_false_or_eq_true (listed.getD j false) with h1 | h1
      · exact h1
      · exfalso
        obtain ⟨o, ho⟩ : ∃ o, ops[j]? = some o := ⟨ops[j]'(by omega), by simp [show j < ops.size by omega]⟩
        obtain ⟨c, k1, k2, k3, k4, k5, k6⟩ := fact j o hj ho
        have hs : j < listed.size := by omega
        refine hr j (mem_ready.2 ⟨?_, o, ho, ?_⟩)
        · rw [Array.getD_eq_getD_getElem?] at h1 ⊢; simpa [hs] using h1
        · intro ed hed hb
          have hd : ed.on ∈ depsOf o := List.mem_map.2 ⟨ed, List.mem_filter.2 ⟨by simpa using hed, hb⟩, rfl⟩
          exact ih ed.on (k5 _ hd) (by have := k5 _ hd; omega)
  have main : ∀ (fuel : Nat) (listed : Array Bool) (σ : List Nat) (a : Act) (w : World) (m : Mem) (bl : Names) (hh : Spare), listed.size = ops.size → σ.Nodup → (∀ i, i ∈ σ ↔ listed.getD i false = true) → (∀ i ∈ σ, i < n0) → σ.length + fuel = ops.size →
      (∀ k ∈ σ, ∀ o, ops[k]? = some o → ∀ d ∈ depsOf o, d ∈ σ) → σ.Pairwise (fun i j => conf i j = true → i > j) →
      Sim N W0 m0 ⟨σ.flatMap (WE cs) ++ e, σ.flatMap (WH cs) ++ h, fOf σ⟩ a w m bl hh → wpAny P .any ops Qc fuel listed a w := by
    -- where the first part has been carried out
    have fin : ∀ (fuel : Nat) (listed : Array Bool) (σ : List Nat) (a : Act) (w : World) (m : Mem) (bl : Names) (hh : Spare), listed.size = ops.size → (∀ i, i ∈ σ ↔ listed.getD i false = true) → (∀ i ∈ σ, i < n0) → σ.Nodup → σ.length + fuel = ops.size →
        σ.Pairwise (fun i j => conf i j = true → i > j) → Sim N W0 m0 ⟨σ.flatMap (WE cs) ++ e, σ.flatMap (WH cs) ++ h, fOf σ⟩ a w m bl hh → (∀ i, i < n0 → i ∈ σ) → wpAny P .any ops Qc fuel listed a w := by
      intro fuel listed σ a w m bl hh hsz hli hlt hnd hlen hpw S hall
      have hσ : σ.length = n0 := by
        have h1 := len_le hnd hlt
        have h2 := len_ge hall
        omega
      refine seq fuel n0 listed a w hsz (fun i => ?_) (Nat.le_refl _) (by omega) dltAll ?_
      · rw [← hli]; exact ⟨fun h => hlt i h, fun h => hall i h⟩
      rw [hAB, List.drop_left' hn0]
      refine hq _ _ _ _ _ _ _ (S.weaken ⟨fun t x hx => ?_, fun t x hx => ?_, fun d hd => ?_⟩) _ fun L' a' w' m' bl' hh' q s' => hc .normal _ _ _ _ _ _ q s'
      · simp only at hx ⊢
        rw [t3] at hx
        rw [← hx]
        refine agree_find (WE cs) e t σ n0 ?_ ?_
        · exact hpw.imp fun hij h1 h2 => hij (by simp only [conf, Loc.conf]; rw [meets_of (a := (cs.getD _ noLoc).we) (b := (cs.getD _ noLoc).we) h1 h2]; simp)
        · intro i hi
          have := key_lt (g := Loc.we) rfl hi
          exact ⟨fun _ => by omega, fun hlt => hall i hlt⟩
      · simp only at hx ⊢
        rw [t4] at hx
        rw [← hx]
        refine agree_find (WH cs) h t σ n0 ?_ ?_
        · exact hpw.imp fun hij h1 h2 => hij (by simp only [conf, Loc.conf]; rw [meets_of (a := (cs.getD _ noLoc).wh) (b := (cs.getD _ noLoc).wh) h1 h2]; simp)
        · intro i hi
          have := key_lt (g := Loc.wh) rfl hi
          exact ⟨fun _ => by omega, fun hlt => hall i hlt⟩
      · have := List.all_eq_true.1 hf d hd
        simp only [Bool.and_eq_true] at this
        refine List.mem_filter.2 ⟨by simpa using this.1, ?_⟩
        rw [Bool.not_eq_true', ← Bool.not_eq_true]
        intro hcon
        obtain ⟨i, hi, hdi⟩ := List.mem_flatMap.1 (by simpa using hcon : d ∈ σ.flatMap nmOf)
        have : d ∈ namesOf cs := by
          rcases Nat.lt_or_ge i cs.length with hlt | hge
          · refine List.mem_flatMap.2 ⟨cs[i], List.getElem_mem hlt, ?_⟩
            simpa [nmOf, List.getD, List.getElem?_eq_getElem hlt] using hdi
          · simp [nmOf, List.getD, List.getElem?_eq_none hge, noLoc] at hdi
        simp_all
    intro fuel
    induction fuel with
    | zero =>
      intro listed σ a w m bl hh hsz hnd hli hlt hlen hcl hpw S
      refine fin 0 listed σ a w m bl hh hsz hli hlt hnd hlen hpw S ?_
      intro i hi
      refine Decidable.byContradiction fun hn' => ?_
      have hl1 := len_le (n := n0) (l := i :: σ) (List.nodup_cons.2 ⟨hn', hnd⟩) (by
        intro x hx
        rcases List.mem_cons.1 hx with rfl | hx
        · exact hi
        · exact hlt x hx)
      simp at hl1; omega
    | succ fuel ih =>
      intro listed σ a w m bl hh hsz hnd hli hlt hlen hcl hpw S
      by_cases hall : ∀ i, i < n0 → i ∈ σ
      · exact fin (fuel + 1) listed σ a w m bl hh hsz hli hlt hnd hlen hpw S hall
      refine ⟨fun hr => absurd (fun i hi => (hli i).2 (readyAll listed hsz (by simp [hr]) i hi)) hall, fun j hj => ?_⟩
      obtain ⟨g1, o, g2, g3⟩ := mem_ready.1 hj
      have hjl : j < ops.size := by
        rcases Nat.lt_or_ge j ops.size with h | h
        · exact h
        · simp [Array.getElem?_eq_none h] at g2
      have hjs : j ∉ σ := by
        intro hjs
        have := (hli j).1 hjs
        rw [Array.getD_eq_getD_getElem?] at g1 this
        simp [hsz, hjl] at g1 this
        rw [g1] at this; cases this
      have hdeps : ∀ d ∈ depsOf o, d ∈ σ := by
        intro d hd
        obtain ⟨ed, hed, rfl⟩ := List.mem_map.1 hd
        obtain ⟨h1, h2⟩ := List.mem_filter.1 hed
        exact (hli _).2 (g3 ed (by simpa using h1) h2)
      have hjn : j < n0 := by
        rcases Nat.lt_or_ge j n0 with h | h
        · exact h
        · exact absurd (fun i hi => (hli i).2 (ancAll listed (fun k hk o ho d hd => (hli d).1 (hcl k ((hli k).2 hk) o ho d hd)) j o h g2 (fun d hd => (hli d).1 (hdeps d hd)) i (by omega))) hall
      obtain ⟨c, k1, k2, k3, k4, k5, k6⟩ := fact j o hjn g2
      have ec := atCs j c k1
      have jcs : j < cs.length := by omega
      -- who writes what j reads
      have reads : ∀ i, (i ∈ σ ↔ i < j) ∨ conf i j = false := by
        intro i
        rcases Bool.eq_false_or_eq_true (conf i j) with hcf | hcf
        · refine .inl ⟨fun hi => ?_, fun hi => hdeps i (later i j hi jcs hcf o g2)⟩
          rcases Nat.lt_trichotomy i j with h | h | h
          · exact h
          · subst h; exact absurd hi hjs
          · have hil : i < cs.length := by
              rcases Nat.lt_or_ge i cs.length with h | h'
              · exact h
              · simp only [conf, List.getD, List.getElem?_eq_none h', Option.getD_none] at hcf
                simp [noLoc, Loc.conf, meets, hasKey] at hcf
            obtain ⟨o', ho'⟩ := cslt i hil
            have := later j i h hil (by rw [conf_symm]; exact hcf) o' ho'
            exact absurd (hcl i hi o' ho' j this) hjs
        · exact .inr hcf
      have rdE : ∀ p ∈ c.re, find p.1 (σ.flatMap (WE cs) ++ e) = some p.2 := by
        intro p hp
        rw [← k3 p hp]
        refine agree_find (WE cs) e p.1 σ j ?_ ?_
        · exact hpw.imp fun hij h1 h2 => hij (by simp only [conf, Loc.conf]; rw [meets_of (a := (cs.getD _ noLoc).we) (b := (cs.getD _ noLoc).we) h1 h2]; simp)
        · intro i hi
          refine (reads i).resolve_right ?_
          simp only [conf, Loc.conf, ec]
          have : meets (cs.getD i noLoc).we c.re = true := meets_of (t := p.1) hi (hasKey_of_mem hp)
          rw [this]; simp
      have rdH : ∀ p ∈ c.rh, find p.1 (σ.flatMap (WH cs) ++ h) = some p.2 := by
        intro p hp
        rw [← k4 p hp]
        refine agree_find (WH cs) h p.1 σ j ?_ ?_
        · exact hpw.imp fun hij h1 h2 => hij (by simp only [conf, Loc.conf]; rw [meets_of (a := (cs.getD _ noLoc).wh) (b := (cs.getD _ noLoc).wh) h1 h2]; simp)
        · intro i hi
          refine (reads i).resolve_right ?_
          simp only [conf, Loc.conf, ec]
          have : meets (cs.getD i noLoc).wh c.rh = true := meets_of (t := p.1) hi (hasKey_of_mem hp)
          rw [this]; simp
      have nmIn : ∀ d ∈ c.nm, d ∈ fOf σ := by
        intro d hd
        have hdj : d ∈ (cs.getD j noLoc).nm := by rw [ec]; exact hd
        refine List.mem_filter.2 ⟨?_, ?_⟩
        · have := List.all_eq_true.1 hin d (List.mem_flatMap.2 ⟨c, List.mem_of_getElem? k1, hd⟩)
          simpa using this
        · rw [Bool.not_eq_true', ← Bool.not_eq_true]
          intro hcon
          obtain ⟨i, hi, hdi⟩ := List.mem_flatMap.1 (by simpa using hcon : d ∈ σ.flatMap nmOf)
          have := names_apart ndup (i := i) (j := j) hdi hdj
          subst this; exact hjs hi
      have nmOut : ∀ y ∈ fOf (j :: σ), y ∈ fOf σ ∧ y ∉ c.nm := by
        intro y hy
        obtain ⟨h1, h2⟩ := List.mem_filter.1 hy
        simp only [List.flatMap_cons, Bool.not_eq_true', List.contains_eq_mem, List.mem_append, decide_eq_false_iff_not, not_or] at h2
        refine ⟨List.mem_filter.2 ⟨h1, by simpa using h2.2⟩, ?_⟩
        have := h2.1
        simp only [nmOf, ec] at this
        exact this
      have step := k2 _ _ _ (fOf (j :: σ)) rdE rdH nmIn nmOut W0 m0 m bl hh a w S (wpAny P .any ops Qc fuel (listed.setIfInBounds j true)) Qc (by
        intro a' w' m' bl' hh' S'
        refine ih _ (j :: σ) a' w' m' bl' hh' (by simp [hsz]) (List.nodup_cons.2 ⟨hjs, hnd⟩) ?_ (by intro x hx; rcases List.mem_cons.1 hx with rfl | hx; exact hjn; exact hlt x hx) (by simp; omega) ?_ ?_ ?_
        · intro i
          rw [List.mem_cons, hli i, Array.getD_eq_getD_getElem?, Array.getD_eq_getD_getElem?, Array.getElem?_setIfInBounds]
          by_cases hij : j = i
          · subst hij; simp [hsz, hjl]
          · simp [hij, Ne.symm hij]
        · intro k' hk' o' ho' d hd
          rcases List.mem_cons.1 hk' with rfl | hk'
          · rw [g2] at ho'; cases ho'; exact List.mem_cons_of_mem _ (hdeps d hd)
          · exact List.mem_cons_of_mem _ (hcl k' hk' o' ho' d hd)
        · refine List.pairwise_cons.2 ⟨fun k' hk' hcf => ?_, hpw⟩
          rcases (reads k') with h1 | h1
          · exact h1.1 hk'
          · rw [conf_symm, h1] at hcf; cases hcf
        · simp only [List.flatMap_cons, List.append_assoc]
          have e1 : WE cs j = c.we := by simp only [WE, ec]
          have e2 : WH cs j = c.wh := by simp only [WH, ec]
          rw [e1, e2]; exact S')
      unfold wpOp
      rw [g2]
      simp only
      by_cases hw : Region.wanted o (yielded ops a.tmps) = true
      · rw [if_pos hw] at step ⊢; exact .inl step
      · rw [if_neg hw] at step ⊢; exact step
  refine wp_region_any hm (main ops.size _ [] ac _ m bl hh (by simp) List.nodup_nil ?_ (by simp) (by simp) (by simp) .nil ?_)
  · intro i
    rw [Array.getD_eq_getD_getElem?, Array.getElem?_replicate]
    split <;> simp
  · have : fOf [] = f := by simp [fOf]
    rw [this]
    exact ⟨s.defers, s.size, s.below.drew, ⟨s.ws.imm, s.ws.le, s.ws.grow, s.ws.blk, s.ws.it, s.ws.own, s.ws.inj, s.ws.spare⟩, s.env, s.free⟩

end Go.Cx
