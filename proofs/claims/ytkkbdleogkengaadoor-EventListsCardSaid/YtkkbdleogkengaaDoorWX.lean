/- Several texts in one. No conditions. -/
import Derived.Test.YtkkbdleogkengaaDoorW44
section
/- The plain laws of lists of events: sorted, counted, chosen. No conditions. -/
set_option linter.all false
set_option maxRecDepth 100000
open Go Go.Rx
namespace GoForm
def ltE (x y : Event) : Bool := lexL (flds x) (flds y)
def leE (x y : Event) : Bool := !ltE y x
def srt (l : List Event) : List Event := l.mergeSort leE
theorem cmp_lt (a b : Event) : decide ((event_compare a b).getD 0 < 0) = ltE a b := by
  have h := Less_eq a b
  unfold event_Less at h
  cases hc : event_compare a b with
  | none => rw [hc] at h; cases h
  | some n => rw [hc] at h; exact Option.some.inj h
theorem Sort_eq (l : List Event) (h : l.length ≤ 40) : event_Sort l = some (srt l) := by
  unfold event_Sort
  rw [if_pos h]
  simp only [cmp_lt]; rfl
theorem ltE_tot (x y : Event) (h1 : ltE x y = false) (h2 : ltE y x = false) : x = y := by
  have t1 := lexL_eq (flds x) (flds y) rfl
  unfold ltE at h1 h2
  rw [h1, h2] at t1
  exact (flds_inj x y).1 (by simpa using t1)
theorem leE_anti (x y : Event) (h1 : leE x y = true) (h2 : leE y x = true) : x = y := by
  unfold leE at h1 h2
  exact ltE_tot x y (by simpa using h2) (by simpa using h1)
theorem leE_trans (x y z : Event) (h1 : leE x y = true) (h2 : leE y z = true) : leE x z = true := by
  unfold leE at *
  simp only [Bool.not_eq_true'] at *
  cases h : ltE z x with
  | false => rfl
  | true =>
    exfalso
    cases b1 : ltE x y with
    | true =>
      have := lexL_trans _ _ _ h b1
      unfold ltE at h2; rw [h2] at this; cases this
    | false =>
      have e := ltE_tot x y b1 h1
      rw [e, h2] at h; cases h
theorem leE_total (x y : Event) : (leE x y || leE y x) = true := by
  unfold leE
  cases h : ltE y x with
  | false => rfl
  | true => have : ltE x y = false := lexL_asymm _ _ h; rw [this]; rfl
theorem srt_perm (l : List Event) : (srt l).Perm l := List.mergeSort_perm _ _
theorem srt_sorted (l : List Event) : (srt l).Pairwise (fun x y => leE x y = true) := List.pairwise_mergeSort leE_trans leE_total l
theorem srt_uniq {l m : List Event} (p : m.Perm l) (s : m.Pairwise (fun x y => leE x y = true)) : m = srt l :=
  List.Perm.eq_of_pairwise (le := fun x y => leE x y = true) (fun a b _ _ => leE_anti a b) s (srt_sorted l) (p.trans (srt_perm l).symm)
theorem srt_len (l : List Event) : (srt l).length = l.length := (srt_perm l).length_eq
/-! counted -/
def cntE (l : List Event) (k : Int) : Nat := l.countP (fun e => e.Kind == k)
theorem Count_eq (l : List Event) (k : Int) (h : l.length ≤ 1000) : event_Count l k = some (cntE l k : Int) := by
  unfold event_Count
  simp only [Let_nr, Join_nr]
  refine (LOOP_i l (fun i n => 0 ≤ n ∧ n ≤ (i : Int)) (fun t i n => some (n + (cntE t k : Int))) _ (0 : Int) (sm_of h (by omega)) ⟨Int.le_refl _, Int.le_refl _⟩ ?_ ?_).trans (by simp)
  · intro r i t n hp hw hc hm hr
    simp only [dlt hc, if_true, hw, Chk_of hc]
    unfold cntE
    rw [List.countP_cons]
    by_cases hk : ((ix l (i : Int)).Kind == k) = true
    · rw [if_pos hk, if_pos hk, wrap_in _ (by omega) (by omega), hr _ ⟨by omega, by omega⟩]
      unfold cntE; congr 1; omega
    · rw [if_neg hk, if_neg hk, hr _ ⟨by omega, by omega⟩]; rfl
  · intro r n hp
    simp only [dll, ff, if_false]; simp [cntE]
theorem refCount_eq (l : List Event) (k : Int) (h : l.length ≤ 1000) : caromref44_Count l k = some (cntE l k : Int) := by
  unfold caromref44_Count
  simp only [Let_nr, Join_nr]
  refine (LOOP_i l (fun i n => 0 ≤ n ∧ n ≤ (i : Int)) (fun t i n => some (n + (cntE t k : Int))) _ (0 : Int) (sm_of h (by omega)) ⟨Int.le_refl _, Int.le_refl _⟩ ?_ ?_).trans (by simp)
  · intro r i t n hp hw hc hm hr
    simp only [dlt hc, if_true, hw, Chk_of hc]
    unfold cntE
    rw [List.countP_cons]
    by_cases hk : ((ix l (i : Int)).Kind == k) = true
    · rw [if_pos hk, if_pos hk, wrap_in _ (by omega) (by omega), hr _ ⟨by omega, by omega⟩]
      unfold cntE; congr 1; omega
    · rw [if_neg hk, if_neg hk, hr _ ⟨by omega, by omega⟩]; rfl
  · intro r n hp
    simp only [dll, ff, if_false]; simp [cntE]
theorem EqualEvents_self (a : List Event) (hl : Sm a) : caromref38_EqualEvents a a = some true := by
  unfold caromref38_EqualEvents
  simp only [Let_nr]
  rw [if_neg (by simp)]
  refine LOOP_l0 a (fun _ _ => some true) _ hl ?_ ?_
  · intro r i t hw hc hm hr
    simp only [dlt hc, if_true, hw, Chk_of hc, Bool.cond_true, hr, decide_true, Bool.and_self, Bool.not_true, ff, if_false]
  · intro r
    simp only [dll, Bool.cond_false, ff, if_false]

/-! chosen -/
def ofE (id : Int) (e : Event) : Bool := if 1 ≤ e.Kind ∧ e.Kind ≤ 4 then e.Key.BodyA == id || e.Key.BodyB == id else decide (6 ≤ e.Kind) && decide (e.Kind ≤ 8) && e.Key.BodyA == id
theorem concerns_eq (e : Event) (id : Int) : event_concerns e id = some (ofE id e) := by
  unfold event_concerns event_isPairEvent ofE
  simp only [Let_nr, Bind_snr, ge_iff_le]
  by_cases h1 : 1 ≤ e.Kind
  · by_cases h2 : e.Kind ≤ 4
    · rw [decide_eq_true h1, decide_eq_true h2, if_pos (show (bif true then true else false) = true from rfl), if_pos (show 1 ≤ e.Kind ∧ e.Kind ≤ 4 from ⟨h1, h2⟩)]
      cases e.Key.BodyA == id <;> cases e.Key.BodyB == id <;> rfl
    · rw [decide_eq_true h1, decide_eq_false h2, if_neg (show ¬ (bif true then false else false) = true by simp), if_neg (show ¬ (1 ≤ e.Kind ∧ e.Kind ≤ 4) by omega)]
      cases e.Key.BodyA == id <;> cases decide (6 ≤ e.Kind) <;> cases decide (e.Kind ≤ 8) <;> rfl
  · rw [decide_eq_false h1, if_neg (show ¬ (bif false then decide (e.Kind ≤ 4) else false) = true by simp), if_neg (show ¬ (1 ≤ e.Kind ∧ e.Kind ≤ 4) by omega)]
    cases e.Key.BodyA == id <;> cases decide (6 ≤ e.Kind) <;> cases decide (e.Kind ≤ 8) <;> rfl
theorem ForBody_eq (l : List Event) (id : Int) (h : l.length ≤ 1000) : event_ForBody l id = some (l.filter (ofE id)) := by
  unfold event_ForBody
  simp only [Let_nr, Join_nr]
  refine (LOOP_i l (fun i o => o.length ≤ i) (fun t i o => some (o ++ t.filter (ofE id))) _ ([] : List Event) (sm_of h (by omega)) (Nat.le_refl _) ?_ ?_).trans (by simp)
  · intro r i t o hp hw hc hm hr
    simp only [dlt hc, if_true, hw, Chk_of hc, concerns_eq, Bind_snr]
    by_cases hk : ofE id (ix l (i : Int)) = true
    · rw [if_pos hk, Chk_of (by simp; omega), hr _ (by simp; omega), List.filter_cons_of_pos hk]; simp
    · rw [if_neg hk, hr _ (by omega), List.filter_cons_of_neg hk]
  · intro r o hp
    simp only [dll, ff, if_false]; simp
theorem refForBody_eq (l : List Event) (id : Int) (h : l.length ≤ 1000) : caromref44_ForBody l id = some (l.filter (ofE id)) := by
  unfold caromref44_ForBody
  simp only [Let_nr, Join_nr, ge_iff_le]
  refine (LOOP_i l (fun i o => o.length ≤ i) (fun t i o => some (o ++ t.filter (ofE id))) _ ([] : List Event) (sm_of h (by omega)) (Nat.le_refl _) ?_ ?_).trans (by simp)
  · intro r i t o hp hw hc hm hr
    have hc2 : ∀ p : Prop, p → (0 ≤ (i : Int) ∧ (i : Int) < (l.length : Int)) := fun _ _ => hc
    simp only [dlt hc, if_true, hw, Chk_of hc, Chk_of (hc2 _)]
    have key : (bif (bif (bif (bif decide (1 ≤ (ix l (i : Int)).Kind) then decide ((ix l (i : Int)).Kind ≤ 4) else false) then true else (bif (bif ((ix l (i : Int)).Kind == 6) then true else ((ix l (i : Int)).Kind == 7)) then true else ((ix l (i : Int)).Kind == 8))) then ((ix l (i : Int)).Key.BodyA == id) else false) then true else (bif (bif decide (1 ≤ (ix l (i : Int)).Kind) then decide ((ix l (i : Int)).Kind ≤ 4) else false) then ((ix l (i : Int)).Key.BodyB == id) else false)) = ofE id (ix l (i : Int)) := by
      unfold ofE
      generalize ix l (i : Int) = e
      by_cases h1 : 1 ≤ e.Kind
      · by_cases h2 : e.Kind ≤ 4
        · rw [if_pos (show 1 ≤ e.Kind ∧ e.Kind ≤ 4 from ⟨h1, h2⟩), decide_eq_true h1, decide_eq_true h2]
          cases e.Key.BodyA == id <;> cases e.Key.BodyB == id <;> rfl
        · rw [if_neg (by omega), decide_eq_true h1, decide_eq_false h2]
          have : (e.Kind == 6 || e.Kind == 7 || e.Kind == 8) = (decide (6 ≤ e.Kind) && decide (e.Kind ≤ 8)) := by
            rw [Bool.eq_iff_iff]; simp; omega
          cases hA : e.Key.BodyA == id <;> simp [this]
      · rw [if_neg (by omega), decide_eq_false h1]
        have : (e.Kind == 6 || e.Kind == 7 || e.Kind == 8) = (decide (6 ≤ e.Kind) && decide (e.Kind ≤ 8)) := by
          rw [Bool.eq_iff_iff]; simp; omega
        cases hA : e.Key.BodyA == id <;> simp [this]
    simp only [key]
    by_cases hk : ofE id (ix l (i : Int)) = true
    · rw [if_pos hk, Chk_of (by simp; omega), hr _ (by simp; omega), List.filter_cons_of_pos hk]; simp
    · rw [if_neg hk, hr _ (by omega), List.filter_cons_of_neg hk]
  · intro r o hp
    simp only [dll, ff, if_false]; simp

/-! the reference's sort -/
def dn (p : Nat → Bool) : Nat → Nat
  | 0 => 0
  | k + 1 => if p k = true then dn p k else k + 1
theorem dn_le (p : Nat → Bool) : ∀ k, dn p k ≤ k
  | 0 => Nat.le_refl _
  | k + 1 => by unfold dn; split
                · have := dn_le p k; omega
                · omega
theorem dn_hi (p : Nat → Bool) : ∀ k j, dn p k ≤ j → j < k → p j = true
  | 0, j, _, h => by omega
  | k + 1, j, h1, h2 => by
    unfold dn at h1
    split at h1
    · rename_i hp
      by_cases e : j = k
      · rw [e]; exact hp
      · exact dn_hi p k j h1 (by omega)
    · omega
theorem dn_lo (p : Nat → Bool) : ∀ k, 0 < dn p k → p (dn p k - 1) = false
  | 0, h => by simp [dn] at h
  | k + 1, h => by
    unfold dn at h ⊢
    split
    · rename_i hp; rw [if_pos hp] at h; exact dn_lo p k h
    · rename_i hp; simpa using hp
theorem LOOP_down {X : Type} (p : Nat → Bool) (K : Nat → Option X) (step : (Int → Option X) → Int → Option X) (L : Nat)
    (hs : ∀ (r : Int → Option X) (k : Nat), k + 1 ≤ L → step r ((k : Int) + 1) = if p k = true then r (k : Int) else K (k + 1)) (h0 : ∀ r, step r 0 = K 0) : ∀ k n, k ≤ L → k < n → LOOP step n (k : Int) = K (dn p k)
  | 0, n, _, hn => by
    obtain ⟨m, rfl⟩ : ∃ m, n = m + 1 := ⟨n - 1, by omega⟩
    rw [LOOP_s]; exact h0 _
  | k + 1, n, hk, hn => by
    obtain ⟨m, rfl⟩ : ∃ m, n = m + 1 := ⟨n - 1, by omega⟩
    rw [LOOP_s, show ((k + 1 : Nat) : Int) = (k : Int) + 1 by omega, hs _ k hk]
    unfold dn
    split
    · exact LOOP_down p K step L hs h0 k m (by omega) (by omega)
    · rfl
def atE (x : Event) (o : List Event) : Nat := dn (fun k => ltE x (ix o (k : Int))) o.length
def insE (o : List Event) (x : Event) : List Event := o.take (atE x o) ++ [x] ++ o.drop (atE x o)
theorem insE_perm (o : List Event) (x : Event) : (insE o x).Perm (x :: o) := by
  unfold insE
  rw [List.append_assoc, List.singleton_append]
  have := List.perm_middle (a := x) (l₁ := o.take (atE x o)) (l₂ := o.drop (atE x o))
  rwa [List.take_append_drop] at this
theorem insE_sorted (o : List Event) (x : Event) (h : o.Pairwise (fun a b => leE a b = true)) : (insE o x).Pairwise (fun a b => leE a b = true) := by
  have hle : atE x o ≤ o.length := dn_le _ _
  have get : ∀ j (hj : j < o.length), ix o (j : Int) = o[j] := fun j hj => ix_lt o j hj
  have srt : ∀ i j (hi : i < o.length) (hj : j < o.length), i < j → leE o[i] o[j] = true := fun i j hi hj hij => List.pairwise_iff_getElem.1 h i j hi hj hij
  have lo : ∀ j (hj : j < o.length), j < atE x o → leE o[j] x = true := by
    intro j hj hlt
    have h1 := dn_lo (fun k => ltE x (ix o (k : Int))) o.length (show 0 < atE x o by omega)
    have h1 : ltE x (ix o ((atE x o - 1 : Nat) : Int)) = false := h1
    rw [get (atE x o - 1) (by omega)] at h1
    have h2 : leE o[atE x o - 1] x = true := by unfold leE; rw [h1]; rfl
    by_cases e : j = atE x o - 1
    · subst e; exact h2
    · exact leE_trans _ _ _ (srt j (atE x o - 1) hj (by omega) (by omega)) h2
  have hi : ∀ j (hj : j < o.length), atE x o ≤ j → leE x o[j] = true := by
    intro j hj hge
    have h1 := dn_hi (fun k => ltE x (ix o (k : Int))) o.length j hge hj
    have h1 : ltE x (ix o (j : Int)) = true := h1
    rw [get j hj] at h1
    unfold leE
    have : ltE o[j] x = false := lexL_asymm _ _ h1
    rw [this]; rfl
  unfold insE
  rw [List.append_assoc, List.pairwise_append]
  refine ⟨h.sublist (List.take_sublist _ _), ?_, ?_⟩
  · rw [List.singleton_append, List.pairwise_cons]
    refine ⟨fun y hy => ?_, h.sublist (List.drop_sublist _ _)⟩
    obtain ⟨j, hj, rfl⟩ := List.mem_iff_getElem.1 hy
    rw [List.getElem_drop]
    exact hi _ _ (by omega)
  · intro a ha b hb
    obtain ⟨i, hi2, rfl⟩ := List.mem_iff_getElem.1 ha
    rw [List.getElem_take]
    have hi3 : i < atE x o := by simp at hi2; omega
    have hi4 : i < o.length := by omega
    rw [List.singleton_append] at hb
    rcases List.mem_cons.1 hb with rfl | hb
    · exact lo i hi4 hi3
    · obtain ⟨j, hj, rfl⟩ := List.mem_iff_getElem.1 hb
      rw [List.getElem_drop]
      exact leE_trans _ _ _ (lo i hi4 hi3) (hi _ _ (by omega))
theorem fold_ins : ∀ (l o : List Event), o.Pairwise (fun a b => leE a b = true) → (l.foldl insE o).Perm (o ++ l) ∧ (l.foldl insE o).Pairwise (fun a b => leE a b = true)
  | [], o, h => ⟨by simp, h⟩
  | x :: l, o, h => by
    obtain ⟨p, s⟩ := fold_ins l (insE o x) (insE_sorted o x h)
    refine ⟨?_, s⟩
    rw [List.foldl_cons]
    refine p.trans ?_
    refine ((insE_perm o x).append_right l).trans ?_
    exact (List.perm_middle (a := x) (l₁ := o) (l₂ := l)).symm
theorem refSort_eq (l : List Event) (h : l.length ≤ 1000) : caromref44_Sort l = some (srt l) := by
  have h0 : l.foldl insE [] = srt l := by
    obtain ⟨p, s⟩ := fold_ins l [] List.Pairwise.nil
    exact srt_uniq (by simpa using p) s
  rw [← h0]
  unfold caromref44_Sort
  simp only [Let_nr, Join_nr]
  refine (LOOP_i l (fun i o => o.length = i) (fun t i o => some (t.foldl insE o)) _ ([] : List Event) (sm_of h (by omega)) rfl ?_ ?_)
  · intro r i t o hp hw hc hm hr
    have hi : i < l.length := by omega
    simp only [dlt hc, if_true]
    rw [List.foldl_cons]
    refine (LOOP_down (fun k => ltE (ix l (i : Int)) (ix o (k : Int))) (fun k => some (t.foldl insE (o.take k ++ [ix l (i : Int)] ++ o.drop k))) _ o.length ?_ ?_ o.length fuel (Nat.le_refl _) (by unfold fuel; omega)).trans ?_
    · intro r2 k hk
      have e1 : decide ((k : Int) + 1 > 0) = true := decide_eq_true (by omega)
      have e2 : IntKind.i64.wrap ((k : Int) + 1 - 1) = (k : Int) := by rw [wrap_in _ (by omega) (by omega)]; omega
      have c1 : ∀ p : Prop, p → (0 ≤ (i : Int) ∧ (i : Int) < (l.length : Int)) := fun _ _ => hc
      have c2 : ∀ p : Prop, p → (0 ≤ (k : Int) ∧ (k : Int) < (o.length : Int)) := fun _ _ => ⟨by omega, by omega⟩
      simp only [e1, e2, Chk_of (c1 _), Chk_of (c2 _), beq_self_eq_true, if_true, refLess_eq, Bind_snr, Bool.cond_true]
      show (if ltE (ix l (i : Int)) (ix o (k : Int)) = true then _ else _) = _
      split
      · rfl
      · have e3 : ((k : Int) + 1).toNat = k + 1 := by omega
        simp only [e3, Nat.sub_zero, List.drop_zero]
        rw [Chk_of ⟨by simp, by simp; omega, by omega, by omega⟩, Chk_of (by omega), Chk_of (by simp; omega), Chk_of hc, Chk_of (by simp; omega), Chk_of ⟨by simp; omega, by simp, by omega, by omega⟩, Chk_of (by omega), Chk_of (by simp; omega), hw]
        have e4 : List.take (o.length - (k + 1)) (List.drop (k + 1) o) = List.drop (k + 1) o := List.take_of_length_le (by simp)
        rw [e4, hr _ (by simp; omega)]
    · intro r2
      have e1 : decide ((0 : Int) > 0) = false := rfl
      have c1 : ∀ p : Prop, p → (0 ≤ (i : Int) ∧ (i : Int) < (l.length : Int)) := fun _ _ => hc
      have c2 : ∀ (q : Prop), ((false == true) = true → q) := fun q h => by simp at h
      simp only [e1, Chk_of (c1 _), Chk_of (c2 _)]
      rw [if_neg (by simp), Bind_snr]
      simp only [Bool.cond_false, ff, if_false]
      refine (Chk_of ⟨by simp, by simp, by omega, by simp⟩).trans ?_
      refine (Chk_of (by simp)).trans ?_
      refine (Chk_of (by simp)).trans ?_
      refine (Chk_of hc).trans ?_
      refine (Chk_of (by simp)).trans ?_
      refine (Chk_of ⟨by simp, by simp, by simp, by omega⟩).trans ?_
      refine (Chk_of (by simp)).trans ?_
      refine (Chk_of (by simp; omega)).trans ?_
      rw [hw]
      refine (hr _ (by simp; omega)).trans ?_
      simp
    · rfl
  · intro r o hp
    simp only [dll, ff, if_false, List.foldl_nil]
end GoForm
end

section
/- The plain laws EventLists and EventSort. No conditions. -/
set_option linter.all false
set_option maxRecDepth 100000
open Go Go.Rx
namespace GoForm
theorem EventLists_true (l : List Event) (k id : Int) : caromlaw44_EventLists l k id = some true := by
  unfold caromlaw44_EventLists
  simp only [Let_nr, example44, Bind_snr]
  by_cases h : l.length ≤ 40
  · rw [if_neg (by simp; omega), Sort_eq l h, refSort_eq l (by omega), Bind_snr, Bind_snr, EqualEvents_self _ (sm_of (n := 40) (by rw [srt_len]; exact h) (by omega)), Bind_snr]
    simp only [beq_self_eq_true, if_true, Count_eq l k (by omega), refCount_eq l k (by omega), ForBody_eq l id (by omega), refForBody_eq l id (by omega), Bind_snr, Bool.cond_true, EqualEvents_self _ (sm_of (l := l.filter (ofE id)) (n := 40) (Nat.le_trans (List.length_filter_le _ _) h) (by omega))]
  · rw [if_pos (by simp; omega)]
theorem caromlaw44_EventLists_true (a0 : List Event) (a1 a2 : Int) {P Q R : Prop} (_ : P) (_ : Q) (_ : R) : caromlaw44_EventLists a0 a1 a2 = some true := EventLists_true a0 a1 a2
end GoForm
end
