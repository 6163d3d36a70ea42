/- Several texts in one. No conditions. -/
import Derived.Test.YtkkbdleogkengaaDoorW44
section
/- The plain laws of lists of events: sorted, counted, chosen. No conditions. -/
set_option linter.all false
set_option maxRecDepth 100000
open Go Go.Rx
namespace GoForm
def ltE (x y : Event) : Bool := lexL (flds x) (flds y)
def leE (x y : Event) : Bool := !ltE y x
def srt (l : List Event) : List Event := l.mergeSort leE
theorem cmp_lt (a b : Event) : decide ((event_compare a b).getD 0 < 0) = ltE a b := by
  have h := Less_eq a b
  unfold event_Less at h
  cases hc : event_compare a b with
  | none => rw [hc] at h; cases h
  | some n => rw [hc] at h; exact Option.some.inj h
theorem Sort_eq (l : List Event) (h : l.length ≤ 40) : event_Sort l = some (srt l) := by
  unfold event_Sort
  rw [if_pos h]
  simp only [cmp_lt]; rfl
theorem ltE_tot (x y : Event) (h1 : ltE x y = false) (h2 : ltE y x = false) : x = y := by
  have t1 := lexL_eq (flds x) (flds y) rfl
  unfold ltE at h1 h2
  rw [h1, h2] at t1
  exact (flds_inj x y).1 (by simpa using t1)
theorem leE_anti (x y : Event) (h1 : leE x y = true) (h2 : leE y x = true) : x = y := by
  unfold leE at h1 h2
  exact ltE_tot x y (by simpa using h2) (by simpa using h1)
theorem leE_trans (x y z : Event) (h1 : leE x y = true) (h2 : leE y z = true) : leE x z = true := by
  unfold leE at *
  simp only [Bool.not_eq_true'] at *
  cases h : ltE z x with
  | false => rfl
  | true =>
    exfalso
    cases b1 : ltE x y with
    | true =>
      have := lexL_trans _ _ _ h b1
      unfold ltE at h2; rw [h2] at this; cases this
    | false =>
      have e := ltE_tot x y b1 h1
      rw [e, h2] at h; cases h
theorem leE_total (x y : Event) : (leE x y || leE y x) = true := by
  unfold leE
  cases h : ltE y x with
  | false => rfl
  | true => have : ltE x y = false := lexL_asymm _ _ h; rw [this]; rfl
theorem srt_perm (l : List Event) : (srt l).Perm l := List.mergeSort_perm _ _
theorem srt_sorted (l : List Event) : (srt l).Pairwise (fun x y => leE x y = true) := List.pairwise_mergeSort leE_trans leE_total l
theorem srt_uniq {l m : List Event} (p : m.Perm l) (s : m.Pairwise (fun x y => leE x y = true)) : m = srt l :=
  List.Perm.eq_of_pairwise (le := fun x y => leE x y = true) (fun a b _ _ => leE_anti a b) s (srt_sorted l) (p.trans (srt_perm l).symm)
theorem srt_len (l : List Event) : (srt l).length = l.length := (srt_perm l).length_eq
/-! counted -/
def cntE (l : List Event) (k : Int) : Nat := l.countP (fun e => e.Kind == k)
theorem Count_eq (l : List Event) (k : Int) (h : l.length ≤ 1000) : event_Count l k = some (cntE l k : Int) := by
  unfold event_Count
  simp only [Let_nr, Join_nr]
  refine (LOOP_i l (fun i n => 0 ≤ n ∧ n ≤ (i : Int)) (fun t i n => some (n + (cntE t k : Int))) _ (0 : Int) (sm_of h (by omega)) ⟨Int.le_refl _, Int.le_refl _⟩ ?_ ?_).trans (by simp)
  · intro r i t n hp hw hc hm hr
    simp only [dlt hc, if_true, hw, Chk_of hc]
    unfold cntE
    rw [List.countP_cons]
    by_cases hk : ((ix l (i : Int)).Kind == k) = true
    · rw [if_pos hk, if_pos hk, wrap_in _ (by omega) (by omega), hr _ ⟨by omega, by omega⟩]
      unfold cntE; congr 1; omega
    · rw [if_neg hk, if_neg hk, hr _ ⟨by omega, by omega⟩]; rfl
  · intro r n hp
    simp only [dll, ff, if_false]; simp [cntE]
theorem EqualEvents_self (a : List Event) (hl : Sm a) : caromref38_EqualEvents a a = some true := by
  unfold caromref38_EqualEvents
  simp only [Let_nr]
  rw [if_neg (by simp)]
  refine LOOP_l0 a (fun _ _ => some true) _ hl ?_ ?_
  · intro r i t hw hc hm hr
    simp only [dlt hc, if_true, hw, Chk_of hc, Bool.cond_true, hr, decide_true, Bool.and_self, Bool.not_true, ff, if_false]
  · intro r
    simp only [dll, Bool.cond_false, ff, if_false]

/-! chosen -/
/-! the reference's sort -/
end GoForm
end

section
/- The plain laws EventLists and EventSort. No conditions. -/
set_option linter.all false
set_option maxRecDepth 100000
open Go Go.Rx
namespace GoForm
theorem LOOP_to {X : Type} (step : (Int → Option X) → Int → Option X) (m : Nat) (fin : Option X) (hs : ∀ (r : Int → Option X) (j : Nat), j ≤ m → step r (j : Int) = r ((j : Int) + 1)) (he : ∀ r, step r ((m : Int) + 1) = fin) : ∀ (n j : Nat), j ≤ m + 1 → m + 1 - j < n → LOOP step n (j : Int) = fin
  | 0, j, _, h => by omega
  | n + 1, j, h1, h2 => by
    rw [LOOP_s]
    by_cases h : j ≤ m
    · rw [hs _ j h, show (j : Int) + 1 = ((j + 1 : Nat) : Int) by omega]
      exact LOOP_to step m fin hs he n (j + 1) (by omega) (by omega)
    · rw [show (j : Int) = (m : Int) + 1 by omega]; exact he _
theorem cntE_perm {l m : List Event} (p : l.Perm m) (k : Int) : cntE l k = cntE m k := p.countP_eq _
theorem EventSort_true (l : List Event) (n : UInt8) : caromlaw44_EventSort l n = some true := by
  unfold caromlaw44_EventSort
  simp only [Let_nr, Join_nr, example44, Bind_snr]
  by_cases h : l.length ≤ 40
  rotate_left
  · rw [if_pos (by simp; omega)]
  rw [if_neg (by simp; omega), Sort_eq l h, Bind_snr, if_neg (by rw [srt_len]; simp)]
  have hS : (srt l).length ≤ 40 := by rw [srt_len]; exact h
  have hlt : ∀ i : Nat, i + 1 < (srt l).length → event_Less (ix (srt l) ((i : Int) + 1)) (ix (srt l) (i : Int)) = some false := by
    intro i hi
    rw [Less_eq, show ((i : Int) + 1) = ((i + 1 : Nat) : Int) by omega, ix_lt _ _ hi, ix_lt _ i (by omega)]
    have := List.pairwise_iff_getElem.1 (srt_sorted l) i (i + 1) (by omega) hi (by omega)
    unfold leE at this
    have : ltE (srt l)[i + 1] (srt l)[i] = false := by simpa using this
    exact congrArg some this
  have fin : ∀ v : Int, 0 ≤ v → v ≤ (l.length : Int) → event_Sort (l.drop v.toNat ++ l.take v.toNat) = some (srt l) := by
    intro v h1 h2
    rw [Sort_eq _ (by simp; omega)]
    refine congrArg some (srt_uniq ?_ (srt_sorted _))
    refine (srt_perm _).trans ?_
    refine List.perm_append_comm.trans ?_
    rw [List.take_append_drop]
  have self : event_Sort (srt l) = some (srt l) := by
    rw [Sort_eq _ hS]
    exact congrArg some (srt_uniq ((srt_perm _).trans (srt_perm l)) (srt_sorted _))
  have eqv := EqualEvents_self (srt l) (sm_of hS (by omega))
  refine (LOOP_l0 ((srt l).drop 1) (fun _ _ => some true) _ (sm_of (n := 40) (by simp; omega) (by omega)) ?_ ?_)
  · intro r i t hw hc hm hr
    have hi : i + 1 < (srt l).length := by simp at hc; omega
    have d1 : decide (IntKind.i64.wrap ((i : Int) + 1) < ((srt l).length : Int)) = true := decide_eq_true (by rw [hw]; omega)
    rw [if_pos d1]
    simp only [hw]
    rw [Chk_of ⟨by omega, by omega⟩, Chk_of ⟨by omega, by omega⟩, hlt i hi, Bind_snr, if_neg (by simp), hr]
  · intro r
    have e0 : IntKind.i64.wrap ((((srt l).drop 1).length : Int) + 1) = (((srt l).drop 1).length : Int) + 1 := wrap_in _ (by omega) (by simp; omega)
    have d1 : decide (IntKind.i64.wrap ((((srt l).drop 1).length : Int) + 1) < ((srt l).length : Int)) = false := decide_eq_false (by rw [e0]; simp; omega)
    rw [if_neg (by rw [d1]; simp)]
    have main : ∀ v : Int, 0 ≤ v → v ≤ (l.length : Int) →
        Chk ((0 : Int) ≤ v ∧ v ≤ (l.length : Int)) (Chk ((l.drop v.toNat).length * 40 ≤ 140737488355328) (Chk ((0 : Int) ≤ v ∧ v ≤ (l.length : Int)) (Chk (((l.drop v.toNat).length + (l.take v.toNat).length) * 40 ≤ 140737488355328)
          (LOOP (fun (rec759 : Int → Option Bool) (s760 : Int) =>
            if decide (s760 ≤ (8 : Int)) = true then
              Rx.Bind (event_Count (srt l) s760) fun (r762 : Int) =>
              Rx.Bind (event_Count l s760) fun (r763 : Int) =>
              if (r762 != r763) = true then some false else rec759 (IntKind.i64.wrap (s760 + (1 : Int)))
            else
            Rx.Bind (event_Sort (l.drop v.toNat ++ l.take v.toNat)) fun (r766 : List Event) =>
            Rx.Bind (caromref38_EqualEvents r766 (srt l)) fun (r767 : Bool) =>
            Rx.Bind (if (r767 == true) = true then event_Sort (srt l) else some default) fun (r768 : List Event) =>
            Rx.Bind (if (r767 == true) = true then caromref38_EqualEvents r768 (srt l) else some default) fun (r769 : Bool) =>
            Rx.Bind (if ((bif r767 then r769 else false) == true) = true then some true else some default) fun (r771 : Bool) =>
            some (bif (bif r767 then r769 else false) then r771 else false)) fuel (1 : Int))))) = some true := by
      intro v h1 h2
      refine (Chk_of ⟨h1, h2⟩).trans ?_
      refine (Chk_of (by simp; omega)).trans ?_
      refine (Chk_of ⟨h1, h2⟩).trans ?_
      refine (Chk_of (by simp; omega)).trans ?_
      refine LOOP_to _ 8 (some true) ?_ ?_ fuel 1 (by omega) (by unfold fuel; omega)
      · intro r j hj
        rw [if_pos (decide_eq_true (by omega)), Count_eq _ _ (by omega), Count_eq _ _ (by omega), Bind_snr, Bind_snr, cntE_perm (srt_perm l), if_neg (by simp), wrap_in _ (by omega) (by omega)]
      · intro r
        rw [if_neg (by simp), fin v h1 h2, Bind_snr, eqv, Bind_snr]
        simp only [beq_self_eq_true, if_true, self, Bind_snr, eqv, Bool.cond_true]
    by_cases hl : (l.length : Int) > 0
    · rw [if_pos (decide_eq_true hl), Chk_of (by omega)]
      have t1 := Int.tmod_nonneg (a := (n.toNat : Int)) (l.length : Int) (by omega)
      have t2 := Int.tmod_lt_of_pos (n.toNat : Int) hl
      exact main _ t1 (by omega)
    · rw [if_neg (by simpa using hl)]
      exact main 0 (Int.le_refl _) (by omega)
theorem caromlaw44_EventSort_true (a0 : List Event) (a1 : UInt8) {P Q : Prop} (_ : P) (_ : Q) : caromlaw44_EventSort a0 a1 = some true := EventSort_true a0 a1
end GoForm
end
