/-
  Ways that meet: what was told is told so. No conditions.
-/
import Derived.Test.YtdknhngjfoaphaaGreatRyF
set_option linter.all false
namespace Go.Rx
open Go.RowKit

/-- Old names with their new ones. -/
def prs : Nat → List (Option Nat) → List (Nat × Nat)
  | _, [] => []
  | k, some id :: r => (id, k) :: prs (k + 1) r
  | k, none :: r => prs (k + 1) r
theorem prs_mem : ∀ {ns : List (Option Nat)} {k a b}, (a, b) ∈ prs k ns ↔ ∃ j, ns[j]? = some (some a) ∧ b = k + j
  | [], k, a, b => by simp [prs]
  | some id :: r, k, a, b => by
    simp only [prs, List.mem_cons, Prod.mk.injEq, prs_mem (ns := r)]
    constructor
    · rintro (⟨rfl, rfl⟩ | ⟨j, h1, h2⟩)
      · exact ⟨0, rfl, rfl⟩
      · exact ⟨j + 1, by simpa using h1, by omega⟩
    · rintro ⟨j, h1, h2⟩
      cases j with
      | zero => simp at h1; exact .inl ⟨h1.symm, h2⟩
      | succ j => exact .inr ⟨j, by simpa using h1, by omega⟩
  | none :: r, k, a, b => by
    simp only [prs, prs_mem (ns := r)]
    constructor
    · rintro ⟨j, h1, h2⟩; exact ⟨j + 1, by simpa using h1, by omega⟩
    · rintro ⟨j, h1, h2⟩
      cases j with
      | zero => simp at h1
      | succ j => exact ⟨j, by simpa using h1, by omega⟩
theorem prs_key : ∀ {ns : List (Option Nat)} {k}, (prs k ns).map (·.1) = someIds ns
  | [], _ => rfl
  | some i :: r, k => by simp [prs, someIds, prs_key (ns := r)]
  | none :: r, k => by simp [prs, someIds, prs_key (ns := r)]
theorem find_mem {α : Type} {t : Nat} {x : α} : ∀ {l : List (Nat × α)}, find t l = some x → (t, x) ∈ l
  | [], h => by simp [find] at h
  | (k, y) :: l, h => by
    rw [find_cons] at h
    split at h
    · rename_i hk; subst hk; cases h; simp
    · exact List.mem_cons_of_mem _ (find_mem h)
theorem find_of_mem {α : Type} {t : Nat} {x : α} : ∀ {l : List (Nat × α)}, (l.map (·.1)).Nodup → (t, x) ∈ l → find t l = some x
  | (k, y) :: l, hn, h => by
    rw [List.map_cons, List.nodup_cons] at hn
    rw [find_cons]
    rcases List.mem_cons.1 h with h | h
    · cases h; rw [if_pos rfl]
    · rw [if_neg, find_of_mem hn.2 h]
      rintro rfl
      exact hn.1 (List.mem_map.2 ⟨_, h, rfl⟩)
theorem find_none_of {α : Type} {t : Nat} : ∀ {l : List (Nat × α)}, (∀ p ∈ l, p.1 ≠ t) → find t l = none
  | [], _ => rfl
  | (k, y) :: l, h => by
    rw [find_cons, if_neg (h (k, y) (by simp)), find_none_of fun p hp => h p (List.mem_cons_of_mem _ hp)]
/-- The name that is now called so. -/
def prsR : List (Nat × Nat) → List (Nat × Nat) := List.map fun p => (p.2, p.1)
def qJ (n : Nat) (ps : List (Nat × Nat)) (a : Nat) : Option Nat := match find a ps with | some b => some b | none => if a < n then some a else none
def rJ (n : Nat) (ps : List (Nat × Nat)) (b : Nat) : Option Nat := match find b (prsR ps) with | some a => some a | none => if b < n ∧ find b ps = none then some b else none
theorem prs_find {ns : List (Option Nat)} {k a b} (hn : (someIds ns).Nodup) : find a (prs k ns) = some b ↔ (a, b) ∈ prs k ns :=
  ⟨find_mem, find_of_mem (by rw [prs_key]; exact hn)⟩
theorem prsR_nodup : ∀ {ns : List (Option Nat)} {k}, ((prsR (prs k ns)).map (·.1)).Nodup ∧ ∀ b ∈ (prsR (prs k ns)).map (·.1), k ≤ b
  | [], _ => by simp [prs, prsR]
  | none :: r, k => by
    obtain ⟨h1, h2⟩ := prsR_nodup (ns := r) (k := k + 1)
    exact ⟨h1, fun b hb => by have := h2 b hb; omega⟩
  | some i :: r, k => by
    obtain ⟨h1, h2⟩ := prsR_nodup (ns := r) (k := k + 1)
    simp only [prs, prsR, List.map_cons] at h1 h2 ⊢
    refine ⟨List.nodup_cons.2 ⟨fun h => ?_, h1⟩, ?_⟩
    · have := h2 k h; omega
    · intro b hb
      rcases List.mem_cons.1 hb with rfl | hb
      · exact Nat.le_refl _
      · have := h2 b hb; omega
theorem prsR_find {ns : List (Option Nat)} {k a b} : find b (prsR (prs k ns)) = some a ↔ (a, b) ∈ prs k ns := by
  constructor
  · intro h
    have := find_mem h
    obtain ⟨p, hp, he⟩ := List.mem_map.1 this
    cases he; exact hp
  · intro h
    exact find_of_mem prsR_nodup.1 (List.mem_map.2 ⟨_, h, rfl⟩)
theorem qr_inv {n ns a b} (hn : (someIds ns).Nodup) : qJ n (prs n ns) a = some b ↔ rJ n (prs n ns) b = some a := by
  have val : ∀ {x y}, (x, y) ∈ prs n ns → n ≤ y := fun h => by obtain ⟨j, -, h⟩ := prs_mem.1 h; omega
  constructor
  · intro h
    unfold qJ at h
    split at h
    · rename_i b' hf
      cases h
      unfold rJ
      rw [prsR_find.2 ((prs_find hn).1 hf)]
    · rename_i hf
      split at h
      · rename_i hlt
        cases h
        unfold rJ
        split
        · rename_i a' ha
          have := val (prsR_find.1 ha)
          omega
        · rw [if_pos ⟨hlt, hf⟩]
      · cases h
  · intro h
    unfold rJ at h
    split at h
    · rename_i a' ha
      cases h
      unfold qJ
      rw [(prs_find hn).2 (prsR_find.1 ha)]
    · split at h
      · rename_i h2
        cases h
        unfold qJ
        rw [h2.2]
        simp only
        rw [if_pos h2.1]
      · cases h

section
variable {P : Program} {tb : Tb} {ρ : Type} {cx : Ctx P tb}

theorem undefs_find : ∀ {l : List Nat} {t x}, find t (undefs (tb := tb) l) = some x → x = .undef
  | [], _, _, h => by simp [undefs, find] at h
  | k :: l, t, x, h => by
    simp only [undefs] at h
    rw [find_cons] at h
    split at h
    · cases h; rfl
    · exact undefs_find h
theorem undefs_none : ∀ {l : List Nat} {t}, find t (undefs (tb := tb) l) = none → t ∉ l
  | [], _, _ => by simp
  | k :: l, t, h => by
    simp only [undefs] at h
    rw [find_cons] at h
    split at h
    · cases h
    · rename_i hk
      simp only [List.mem_cons, not_or]
      exact ⟨Ne.symm hk, undefs_none h⟩
theorem drops_find : ∀ {l : List Nat} {t}, t ∈ l → find t (drops (tb := tb) l) = some .drop
  | k :: l, t, h => by
    simp only [drops]
    rw [find_cons]
    split
    · rfl
    · rename_i hk
      rcases List.mem_cons.1 h with rfl | h
      · exact absurd rfl hk
      · exact drops_find h
theorem drops_none : ∀ {l : List Nat} {t}, t ∉ l → find t (drops (tb := tb) l) = none
  | [], _, _ => rfl
  | k :: l, t, h => by
    simp only [List.mem_cons, not_or] at h
    simp only [drops]
    rw [find_cons, if_neg (Ne.symm h.1)]
    exact drops_none h.2
theorem pre_find {α : Type} {t : Nat} {p b : List (Nat × α)} (h : ∀ q ∈ p, q.1 ≠ t) : find t (p ++ b) = find t b := find_append_none (find_none_of h)

theorem unJ_ok {L0 L1 : SLS tb} {asg A} {k : VT A.vars → Option ρ} {r} (hwf : Wf L0) (hi : RI [] L0.e) (x : Ext L0 L1) (h : unJ cx L0 asg A L1 k = some r) :
    ∃ v, k v = some r ∧ RI [] (stJ cx L0 asg A v).e ∧ Ext L0 (stJ cx L0 asg A v) ∧ Tells L1.av (stJ cx L0 asg A v).av := by
  unfold unJ at h
  obtain ⟨⟨v, ns⟩, hp, h⟩ := got_e h
  obtain ⟨c1, h⟩ := tst_e h
  obtain ⟨c2, h⟩ := tst_e h
  obtain ⟨c3, h⟩ := tst_e h
  obtain ⟨c4, h⟩ := tst_e h
  obtain ⟨c5, h⟩ := tst_e h
  obtain ⟨c6, h⟩ := tst_e h
  obtain ⟨c7, h⟩ := tst_e h
  obtain ⟨c8, h⟩ := tst_e h
  obtain ⟨xs, ⟨pe, he⟩, ⟨ph, hh⟩, xnx, ⟨pg, hg⟩⟩ := x
  have hlenE : L1.e.length - L0.e.length = pe.length := by rw [he, List.length_append]; omega
  have hlenH : L1.h.length - L0.h.length = ph.length := by rw [hh, List.length_append]; omega
  have hlenG : L1.gn.length - L0.gn.length = pg.length := by rw [hg, List.length_append]; omega
  rw [hlenE, he] at c1
  rw [hlenH, hh] at c2
  rw [hlenG, hg] at c3
  have d1 := keysIn_e c1
  have d2 := keysIn_e c2
  have d3 := keysIn_e c3
  have d4 := allB_e c4
  have hn := nodupN_e c5
  have d6 := allB_e c6
  have d7 := keepE_e c7
  have d8 := keepH_e c8
  have hlen := unVs_len hp
  refine ⟨v, h, ?_, ⟨rfl, ⟨_, by unfold stJ; rw [← List.append_assoc]⟩, ⟨_, rfl⟩, Nat.le_add_right _ _, ⟨_, rfl⟩⟩, ?_⟩
  · intro t G y hf
    exfalso
    have hf : find t ((mkVs cx L0 A.vars v L0.nx).1 ++ (undefs asg ++ L0.e)) = some (.opt G y) := hf
    cases h1 : find t (mkVs cx L0 A.vars v L0.nx).1 with
    | some z =>
      rw [find_append_some h1] at hf
      cases hf
      have := (d7 _ (find_mem h1)).2
      cases this
    | none =>
      rw [find_append_none h1] at hf
      cases h2 : find t (undefs (tb := tb) asg) with
      | some z =>
        rw [find_append_some h2] at hf
        have := undefs_find h2
        subst this; cases hf
      | none =>
        rw [find_append_none h2] at hf
        obtain ⟨-, g2, g3⟩ := hi t G y hf
        cases G with
        | nil => exact g2 rfl
        | cons g G => have := g3 g (by simp); simp at this
  -- names
  let nx0 := L0.nx
  let q := qJ L0.nx (prs L0.nx ns)
  let rr := rJ L0.nx (prs L0.nx ns)
  let nils : Nat → Bool := fun b => decide (L0.nx ≤ b ∧ b < L0.nx + ns.length ∧ find b (prsR (prs L0.nx ns)) = none)
  let g' : Gn tb := drops (drN L0 A) ++ L0.gn
  have gfind : ∀ id, id ∉ drN L0 A → find id g' = find id L0.gn := fun id hid => find_append_none (drops_none hid)
  have g1find : ∀ id, id < L0.nx → id ∉ drN L0 A → find id L1.gn = find id L0.gn := by
    intro id hlt hid
    rw [hg]
    refine pre_find ?_
    rintro p hp rfl
    rcases newOrD_e (d3 p hp) with h | h
    · omega
    · exact hid h
  have own_no : ∀ id, id < L0.nx → id ∉ drN L0 A → find id (prs L0.nx ns) = none := by
    intro id hlt hid
    cases hf : find id (prs L0.nx ns) with
    | none => rfl
    | some b =>
      exfalso
      have hm : id ∈ (prs L0.nx ns).map (·.1) := List.mem_map.2 ⟨_, find_mem hf, rfl⟩
      rw [prs_key] at hm
      rcases newOrD_e (d4 id hm) with h | h
      · omega
      · exact hid h
  have qid : ∀ id, id < L0.nx → find id (prs L0.nx ns) = none → q id = some id := by
    intro id hlt hf
    show qJ _ _ _ = _
    unfold qJ; rw [hf]; simp only; rw [if_pos hlt]
  have valn : ∀ {a b}, (a, b) ∈ prs L0.nx ns → L0.nx ≤ b ∧ b < L0.nx + ns.length := by
    intro a b hab
    obtain ⟨j, h1, h2⟩ := prs_mem.1 hab
    have : j < ns.length := by
      rcases Nat.lt_or_ge j ns.length with h | h
      · exact h
      · rw [List.getElem?_eq_none h] at h1; cases h1
    omega
  have rid : ∀ id, id < L0.nx → find id (prs L0.nx ns) = none → rr id = some id := by
    intro id hlt hf
    exact (qr_inv hn).1 (qid id hlt hf)
  have hres : ResQ L1.gn g' q L0.nx := by
    intro id hlt
    by_cases hid : id ∈ drN L0 A
    · exact .inl (find_append_some (drops_find hid))
    · refine .inr ⟨by rw [gfind id hid, g1find id hlt hid], fun _ => qid id hlt (own_no id hlt hid)⟩
  have hseg : Seg q rr nils L0.nx ns := by
    intro j
    refine ⟨fun id hid => ?_, fun hnone => ?_⟩
    · have hm : (id, L0.nx + j) ∈ prs L0.nx ns := prs_mem.2 ⟨j, hid, rfl⟩
      have hf := (prs_find hn).2 hm
      have h1 : q id = some (L0.nx + j) := by show qJ _ _ _ = _; unfold qJ; rw [hf]
      exact ⟨h1, (qr_inv hn).1 h1⟩
    · have hf : find (L0.nx + j) (prsR (prs L0.nx ns)) = none := by
        cases hf : find (L0.nx + j) (prsR (prs L0.nx ns)) with
        | none => rfl
        | some a =>
          exfalso
          obtain ⟨j', h1, h2⟩ := prs_mem.1 (prsR_find.1 hf)
          have : j' = j := by omega
          subst this
          rw [hnone] at h1; cases h1
      have hj : j < ns.length := by
        rcases Nat.lt_or_ge j ns.length with h | h
        · exact h
        · rw [List.getElem?_eq_none h] at hnone; cases hnone
      refine ⟨?_, ?_⟩
      · show decide _ = true
        rw [decide_eq_true_iff]
        exact ⟨by omega, by omega, hf⟩
      · show rJ _ _ _ = _
        unfold rJ; rw [hf]; simp only
        rw [if_neg (by omega)]
  have hbid : ∀ w ∈ A.vars, ∀ id, w.bid L0 = some id → id < L0.nx ∧ id ∉ drN L0 A ∧ rr id = some id := by
    intro w hw id hid
    have := d6 id (bids_e hw hid)
    split at this
    · rename_i h1
      split at this
      · cases this
      · rename_i h2
        have h2' : id ∉ drN L0 A := fun h => by rw [memN_e.2 h] at h2; cases h2
        exact ⟨ltN_e h1, h2', rid id (ltN_e h1) (own_no id (ltN_e h1) h2')⟩
    · cases this
  obtain ⟨good1, good2⟩ := unVs_ok (q := q) (r := rr) (nils := nils) hp hseg (fun w hw id hid => (hbid w hw id hid).2.2)
  have hfe : ∀ (e : SEnv tb), wfE L0.nx e = true → ∀ t x0, find t e = some x0 → SubN nils ((x0.res L1.gn).av.re q) (x0.res g').av :=
    fun e hwe t x0 hf => (res_sub hres (wfE_e hwe t x0 hf)).n
  refine LS.ren.tells (q := q) (r := rr) (nils := nils) ⟨fun a b => qr_inv hn, ?_, ?_, ?_, ?_, ?_⟩
  · intro t y hf
    have hf : find t (avE g' ((mkVs cx L0 A.vars v L0.nx).1 ++ (undefs asg ++ L0.e))) = some y := hf
    rw [find_avE] at hf
    obtain ⟨z, hz, rfl⟩ := Option.map_eq_some_iff.1 hf
    cases h1 : find t (mkVs cx L0 A.vars v L0.nx).1 with
    | some w =>
      rw [find_append_some h1] at hz
      cases hz
      refine .inr ?_
      rw [res_keep (d7 _ (find_mem h1)).1]
      exact good1 _ (find_mem h1)
    | none =>
      rw [find_append_none h1] at hz
      cases h2 : find t (undefs (tb := tb) asg) with
      | some w =>
        rw [find_append_some h2] at hz
        have := undefs_find h2
        subst this
        cases hz; exact .inl rfl
      | none =>
        rw [find_append_none h2] at hz
        have hna := undefs_none h2
        refine .inr ⟨(z.res L1.gn).av, ?_, hfe L0.e hwf.e t z hz⟩
        show find t (avE L1.gn L1.e) = _
        rw [find_avE, he, pre_find (fun p hp => by rintro rfl; exact hna (memN_e.1 (d1 p hp))), hz]; rfl
  · refine SubS_of ?_ ?_
    · show (L0.s.map _).length = (L1.s.map _).length
      rw [xs]; simp
    · intro i e e' h1 h2
      have h1 : (L1.s.map (avE L1.gn))[i]? = some e := h1
      have h2 : (L0.s.map (avE g'))[i]? = some e' := h2
      rw [xs, List.getElem?_map] at h1
      rw [List.getElem?_map] at h2
      cases hs : L0.s[i]? with
      | none => rw [hs] at h1; cases h1
      | some e0 =>
        rw [hs] at h1 h2
        cases h1; cases h2
        intro t y hf
        rw [find_avE] at hf
        obtain ⟨z, hz, rfl⟩ := Option.map_eq_some_iff.1 hf
        exact .inr ⟨(z.res L1.gn).av, by rw [find_avE, hz]; rfl, hfe e0 (wfS_e hwf.s i e0 hs) t z hz⟩
  · intro id b hf
    have hf : find id (avH g' ((mkVs cx L0 A.vars v L0.nx).2 ++ L0.h)) = some b := hf
    rw [find_avH] at hf
    split at hf
    · rename_i hk
      obtain ⟨c, hc, rfl⟩ := Option.map_eq_some_iff.1 hf
      cases h1 : find id (mkVs cx L0 A.vars v L0.nx).2 with
      | some w =>
        rw [find_append_some h1] at hc
        cases hc
        rw [SC.res_keep (d8 _ (find_mem h1))]
        exact good2 _ (find_mem h1)
      | none =>
        rw [find_append_none h1] at hc
        obtain ⟨hlt, hhas⟩ := wfH_e hwf.h id c hc
        have hk := keepQ_e hk
        have hnd : id ∉ drN L0 A := fun h => by rw [find_append_some (drops_find h)] at hk; cases hk
        have hg0 : find id L1.gn = none := by rw [g1find id hlt hnd, ← gfind id hnd]; exact hk
        refine .inr ⟨id, (c.res L1.gn).av, rid id hlt (own_no id hlt hnd), ?_, ?_⟩
        · show find id (avH L1.gn L1.h) = _
          rw [find_avH]
          have : keepQ L1.gn id = true := by unfold keepQ; rw [hg0]
          rw [if_pos this, hh, pre_find, hc]
          · rfl
          · rintro p hp rfl
            have := d2 p hp
            split at this
            · rename_i hb
              rw [h1] at hb; cases hb
            · rcases newOrD_e this with h | h
              · omega
              · exact hnd h
        · cases c with
          | cells cl => exact (resL_sub hres hhas).n
          | arr E1 l1 =>
            show SubLN _ (reL q (elC tb E1 l1)) (elC tb E1 l1)
            rw [bareL_of (show allBare (elC tb E1 l1) = true from el_bare cx l1)]
            exact (SubL.refl _).n
          | iter s p => exact ⟨rfl, rfl⟩
    · cases hf
  · intro d hd
    have hd : L0.nx + nOwns A.vars ≤ d := hd
    rw [← hlen] at hd
    refine ⟨?_, fun a ha => ?_⟩
    · show decide _ = false
      rw [decide_eq_false_iff_not]; omega
    · exfalso
      have ha : rJ L0.nx (prs L0.nx ns) d = some a := ha
      unfold rJ at ha
      split at ha
      · rename_i a' hf
        have := (valn (prsR_find.1 hf)).2
        omega
      · rw [if_neg (by omega)] at ha; cases ha
  · intro d hd
    have hd : decide (L0.nx ≤ d ∧ d < L0.nx + ns.length ∧ find d (prsR (prs L0.nx ns)) = none) = true := hd
    rw [decide_eq_true_iff] at hd
    show rJ _ _ _ = _
    unfold rJ
    rw [hd.2.2]
    simp only
    rw [if_neg (by omega)]
end
end Go.Rx
