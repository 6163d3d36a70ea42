/-
  Plain lemmas on loops that go over a list, and on checks: the list's own recursion is what the loop computes. No conditions.
-/
import Derived.Test.YtdknhngjfoaphaaGreatRzP
set_option linter.all false
namespace Go.Rx
theorem Join_nr {V ρ : Type} (K : V → Option ρ) (b : (V → Option ρ) → Option ρ) : Join K b = b K := Eq.trans (by rfl) (Eq.refl _)
theorem Let_nr {β X : Type} (v : β) (k : β → X) : Let v k = k v := Eq.trans (by rfl) (Eq.refl _)
theorem Bind_snr {α β : Type} (x : α) (k : α → Option β) : Bind (some x) k = k x := Eq.trans (by rfl) (Eq.refl _)
theorem Bind_if {α β : Type} {p : Prop} [Decidable p] (a d : α) (k : α → Option β) : Bind (if p then some a else some d) k = k (if p then a else d) := by by_cases h : p <;> simp [h]
theorem gd1 (c a d : Bool) : (bif c then (if (c == true) = true then a else d) else false) = (bif c then a else false) := by cases c <;> rfl
theorem gd2 (c a d : Bool) : (bif c then true else (if (c == false) = true then a else d)) = (bif c then true else a) := by cases c <;> rfl
theorem gd3 (c a d : Bool) : (bif c then true else !(if (c == false) = true then a else d)) = (bif c then true else !a) := by cases c <;> rfl
theorem gd4 (c a d : Bool) : (bif c then !(if (c == true) = true then a else d) else false) = (bif c then !a else false) := by cases c <;> rfl
theorem gd5 (c : Bool) (a d k : Int) : (bif c then ((if (c == true) = true then a else d) != k) else false) = (bif c then (a != k) else false) := by cases c <;> rfl
theorem gd6 (c : Bool) (a d k : Int) : (bif c then decide ((if (c == true) = true then a else d) < k) else false) = (bif c then decide (a < k) else false) := by cases c <;> rfl
theorem ga1 (c a d : Bool) : (c && (if (c == true) = true then a else d)) = (c && a) := by cases c <;> rfl
theorem ga3 (c a d : Bool) : (c || !(if (c == false) = true then a else d)) = (c || !a) := by cases c <;> rfl
theorem ga5 (c : Bool) (a d : Int) : (c || decide (0 ≤ (if (c == false) = true then a else d))) = (c || decide (0 ≤ a)) := by cases c <;> rfl
theorem ga8 (c e : Bool) (a d : Int) : (c && (e || decide (0 ≤ (if (c == true && e == false) = true then a else d)))) = (c && (e || decide (0 ≤ a))) := by cases c <;> cases e <;> rfl
/-- Small lists: so many items that no index wraps. -/
def Sm {α : Type} (l : List α) : Prop := l.length < 2 ^ 62
theorem sm_of {α : Type} {l : List α} {n : Nat} (h : l.length ≤ n) (hn : n < 2 ^ 62) : Sm l := Nat.lt_of_le_of_lt h hn
theorem w64_s (i : Nat) (h : i < 2 ^ 62) : IntKind.i64.wrap ((i : Int) + 1) = (i : Int) + 1 := wrap_in _ (by omega) (by omega)
theorem LOOP_l0n {α X : Type} [Inhabited α] (l : List α) (G : List α → Nat → Option X) (step : (Int → Option X) → Int → Option X) (hl : Sm l)
    (hs : ∀ (r : Int → Option X) (i : Nat) (t : List α), IntKind.i64.wrap ((i : Int) + 1) = (i : Int) + 1 → (0 ≤ (i : Int) ∧ (i : Int) < (l.length : Int)) → ix l (i : Int) ∈ l → r ((i : Int) + 1) = G t (i + 1) → step r (i : Int) = G (ix l (i : Int) :: t) i)
    (he : ∀ (r : Int → Option X), step r (l.length : Int) = G [] l.length) : ∀ (n i : Nat), i ≤ l.length → l.length - i < n → LOOP step n (i : Int) = G (l.drop i) i
  | 0, i, _, h => by omega
  | n + 1, i, h1, h2 => by
    rw [LOOP_s]
    by_cases h : i < l.length
    · rw [drop_ix l i h]
      exact hs _ i _ (w64_s i (by unfold Sm at hl; omega)) ⟨by omega, by omega⟩ (ix_mem l _ ⟨by omega, by omega⟩) (LOOP_l0n l G step hl hs he n (i + 1) (by omega) (by omega))
    · have e : i = l.length := by omega
      subst e; rw [he, List.drop_length]
theorem LOOP_l0 {α X : Type} [Inhabited α] (l : List α) (G : List α → Nat → Option X) (step : (Int → Option X) → Int → Option X) (hl : Sm l)
    (hs : ∀ (r : Int → Option X) (i : Nat) (t : List α), IntKind.i64.wrap ((i : Int) + 1) = (i : Int) + 1 → (0 ≤ (i : Int) ∧ (i : Int) < (l.length : Int)) → ix l (i : Int) ∈ l → r ((i : Int) + 1) = G t (i + 1) → step r (i : Int) = G (ix l (i : Int) :: t) i)
    (he : ∀ (r : Int → Option X), step r (l.length : Int) = G [] l.length) : LOOP step fuel (0 : Int) = G l 0 :=
  LOOP_l0n l G step hl hs he fuel 0 (Nat.zero_le _) (Nat.lt_trans (Nat.lt_of_le_of_lt (Nat.sub_le _ _) hl) (by unfold fuel; decide))
theorem LOOP_l1n {α σ X : Type} [Inhabited α] (l : List α) (G : List α → Nat → σ → Option X) (step : (σ × Int → Option X) → σ × Int → Option X) (hl : Sm l)
    (hs : ∀ (r : σ × Int → Option X) (i : Nat) (t : List α) (s : σ), IntKind.i64.wrap ((i : Int) + 1) = (i : Int) + 1 → (0 ≤ (i : Int) ∧ (i : Int) < (l.length : Int)) → ix l (i : Int) ∈ l → (∀ s, r (s, (i : Int) + 1) = G t (i + 1) s) → step r (s, (i : Int)) = G (ix l (i : Int) :: t) i s)
    (he : ∀ (r : σ × Int → Option X) (s : σ), step r (s, (l.length : Int)) = G [] l.length s) : ∀ (n i : Nat) (s : σ), i ≤ l.length → l.length - i < n → LOOP step n (s, (i : Int)) = G (l.drop i) i s
  | 0, i, s, _, h => by omega
  | n + 1, i, s, h1, h2 => by
    rw [LOOP_s]
    by_cases h : i < l.length
    · rw [drop_ix l i h]
      exact hs _ i _ s (w64_s i (by unfold Sm at hl; omega)) ⟨by omega, by omega⟩ (ix_mem l _ ⟨by omega, by omega⟩) (fun s => LOOP_l1n l G step hl hs he n (i + 1) s (by omega) (by omega))
    · have e : i = l.length := by omega
      subst e; rw [he, List.drop_length]
theorem LOOP_l1 {α σ X : Type} [Inhabited α] (l : List α) (G : List α → Nat → σ → Option X) (step : (σ × Int → Option X) → σ × Int → Option X) (s0 : σ) (hl : Sm l)
    (hs : ∀ (r : σ × Int → Option X) (i : Nat) (t : List α) (s : σ), IntKind.i64.wrap ((i : Int) + 1) = (i : Int) + 1 → (0 ≤ (i : Int) ∧ (i : Int) < (l.length : Int)) → ix l (i : Int) ∈ l → (∀ s, r (s, (i : Int) + 1) = G t (i + 1) s) → step r (s, (i : Int)) = G (ix l (i : Int) :: t) i s)
    (he : ∀ (r : σ × Int → Option X) (s : σ), step r (s, (l.length : Int)) = G [] l.length s) : LOOP step fuel (s0, (0 : Int)) = G l 0 s0 :=
  LOOP_l1n l G step hl hs he fuel 0 s0 (Nat.zero_le _) (Nat.lt_trans (Nat.lt_of_le_of_lt (Nat.sub_le _ _) hl) (by unfold fuel; decide))
theorem LOOP_l2n {α σ X : Type} [Inhabited α] (l : List α) (G : List α → Nat → σ → Option X) (step : (Int × σ → Option X) → Int × σ → Option X) (hl : Sm l)
    (hs : ∀ (r : Int × σ → Option X) (i : Nat) (t : List α) (s : σ), IntKind.i64.wrap ((i : Int) + 1) = (i : Int) + 1 → (0 ≤ (i : Int) ∧ (i : Int) < (l.length : Int)) → ix l (i : Int) ∈ l → (∀ s, r ((i : Int) + 1, s) = G t (i + 1) s) → step r ((i : Int), s) = G (ix l (i : Int) :: t) i s)
    (he : ∀ (r : Int × σ → Option X) (s : σ), step r ((l.length : Int), s) = G [] l.length s) : ∀ (n i : Nat) (s : σ), i ≤ l.length → l.length - i < n → LOOP step n ((i : Int), s) = G (l.drop i) i s
  | 0, i, s, _, h => by omega
  | n + 1, i, s, h1, h2 => by
    rw [LOOP_s]
    by_cases h : i < l.length
    · rw [drop_ix l i h]
      exact hs _ i _ s (w64_s i (by unfold Sm at hl; omega)) ⟨by omega, by omega⟩ (ix_mem l _ ⟨by omega, by omega⟩) (fun s => LOOP_l2n l G step hl hs he n (i + 1) s (by omega) (by omega))
    · have e : i = l.length := by omega
      subst e; rw [he, List.drop_length]
theorem LOOP_l2 {α σ X : Type} [Inhabited α] (l : List α) (G : List α → Nat → σ → Option X) (step : (Int × σ → Option X) → Int × σ → Option X) (s0 : σ) (hl : Sm l)
    (hs : ∀ (r : Int × σ → Option X) (i : Nat) (t : List α) (s : σ), IntKind.i64.wrap ((i : Int) + 1) = (i : Int) + 1 → (0 ≤ (i : Int) ∧ (i : Int) < (l.length : Int)) → ix l (i : Int) ∈ l → (∀ s, r ((i : Int) + 1, s) = G t (i + 1) s) → step r ((i : Int), s) = G (ix l (i : Int) :: t) i s)
    (he : ∀ (r : Int × σ → Option X) (s : σ), step r ((l.length : Int), s) = G [] l.length s) : LOOP step fuel ((0 : Int), s0) = G l 0 s0 :=
  LOOP_l2n l G step hl hs he fuel 0 s0 (Nat.zero_le _) (Nat.lt_trans (Nat.lt_of_le_of_lt (Nat.sub_le _ _) hl) (by unfold fuel; decide))
theorem LOOP_iN {α σ X : Type} [Inhabited α] (l : List α) (P : Nat → σ → Prop) (G : List α → Nat → σ → Option X) (step : (σ × Int → Option X) → σ × Int → Option X) (hl : Sm l)
    (hs : ∀ (r : σ × Int → Option X) (i : Nat) (t : List α) (s : σ), P i s → IntKind.i64.wrap ((i : Int) + 1) = (i : Int) + 1 → (0 ≤ (i : Int) ∧ (i : Int) < (l.length : Int)) → ix l (i : Int) ∈ l → (∀ s, P (i + 1) s → r (s, (i : Int) + 1) = G t (i + 1) s) → step r (s, (i : Int)) = G (ix l (i : Int) :: t) i s)
    (he : ∀ (r : σ × Int → Option X) (s : σ), P l.length s → step r (s, (l.length : Int)) = G [] l.length s) : ∀ (n i : Nat) (s : σ), P i s → i ≤ l.length → l.length - i < n → LOOP step n (s, (i : Int)) = G (l.drop i) i s
  | 0, i, s, _, _, h => by omega
  | n + 1, i, s, hp, h1, h2 => by
    rw [LOOP_s]
    by_cases h : i < l.length
    · rw [drop_ix l i h]
      exact hs _ i _ s hp (w64_s i (by unfold Sm at hl; omega)) ⟨by omega, by omega⟩ (ix_mem l _ ⟨by omega, by omega⟩) (fun s hp => LOOP_iN l P G step hl hs he n (i + 1) s hp (by omega) (by omega))
    · have e : i = l.length := by omega
      subst e; rw [he _ _ hp, List.drop_length]
/-- As LOOP_l1, with an invariant. -/
theorem LOOP_i {α σ X : Type} [Inhabited α] (l : List α) (P : Nat → σ → Prop) (G : List α → Nat → σ → Option X) (step : (σ × Int → Option X) → σ × Int → Option X) (s0 : σ) (hl : Sm l) (h0 : P 0 s0)
    (hs : ∀ (r : σ × Int → Option X) (i : Nat) (t : List α) (s : σ), P i s → IntKind.i64.wrap ((i : Int) + 1) = (i : Int) + 1 → (0 ≤ (i : Int) ∧ (i : Int) < (l.length : Int)) → ix l (i : Int) ∈ l → (∀ s, P (i + 1) s → r (s, (i : Int) + 1) = G t (i + 1) s) → step r (s, (i : Int)) = G (ix l (i : Int) :: t) i s)
    (he : ∀ (r : σ × Int → Option X) (s : σ), P l.length s → step r (s, (l.length : Int)) = G [] l.length s) : LOOP step fuel (s0, (0 : Int)) = G l 0 s0 :=
  LOOP_iN l P G step hl hs he fuel 0 s0 h0 (Nat.zero_le _) (Nat.lt_trans (Nat.lt_of_le_of_lt (Nat.sub_le _ _) hl) (by unfold fuel; decide))
/-- The index of the first item that f holds of, from i on; or -1. -/
def idx {α : Type} (f : α → Bool) : List α → Nat → Int
  | [], _ => -1
  | a :: l, i => if f a = true then (i : Int) else idx f l (i + 1)
theorem idx_bd {α : Type} (f : α → Bool) : ∀ (l : List α) (i : Nat), idx f l i = -1 ∨ ((i : Int) ≤ idx f l i ∧ idx f l i < (i : Int) + (l.length : Int))
  | [], i => Or.inl rfl
  | a :: l, i => by
    unfold idx
    split
    · right; simp; omega
    · have := idx_bd f l (i + 1); simp only [List.length_cons]; omega
theorem idx_any {α : Type} (f : α → Bool) : ∀ (l : List α) (i : Nat), decide (0 ≤ idx f l i) = l.any f
  | [], i => rfl
  | a :: l, i => by
    unfold idx
    by_cases h : f a = true
    · rw [if_pos h]; simp [h]
    · rw [if_neg h, idx_any f l (i + 1)]; simp [h]
theorem dlt {i n : Int} (h : 0 ≤ i ∧ i < n) : decide (i < n) = true := decide_eq_true h.2
theorem dll (n : Int) : decide (n < n) = false := decide_eq_false (Int.lt_irrefl n)
theorem ff : (false = true) = False := eq_false (fun h => Bool.noConfusion h)
end Go.Rx
namespace Go.Rx
end Go.Rx
namespace Go.Rx
/-- A loop over a list in any state: pos is where the index lies, P an invariant. -/
theorem LOOP_gN {V α X : Type} [Inhabited α] (l : List α) (pos : V → Int) (P : Nat → V → Prop) (G : List α → V → Option X) (step : (V → Option X) → V → Option X) (hl : Sm l)
    (hs : ∀ (r : V → Option X) (i : Nat) (t : List α) (v : V), pos v = (i : Int) → P i v → IntKind.i64.wrap ((i : Int) + 1) = (i : Int) + 1 → (0 ≤ (i : Int) ∧ (i : Int) < (l.length : Int)) → ix l (i : Int) ∈ l → (∀ v', pos v' = (i : Int) + 1 → P (i + 1) v' → r v' = G t v') → step r v = G (ix l (i : Int) :: t) v)
    (he : ∀ (r : V → Option X) (v : V), pos v = (l.length : Int) → P l.length v → step r v = G [] v) : ∀ (n i : Nat) (v : V), pos v = (i : Int) → P i v → i ≤ l.length → l.length - i < n → LOOP step n v = G (l.drop i) v
  | 0, i, v, _, _, _, h => by omega
  | n + 1, i, v, hv, hp, h1, h2 => by
    rw [LOOP_s]
    by_cases h : i < l.length
    · rw [drop_ix l i h]
      exact hs _ i _ v hv hp (w64_s i (by unfold Sm at hl; omega)) ⟨by omega, by omega⟩ (ix_mem l _ ⟨by omega, by omega⟩) (fun v' hv' hp' => LOOP_gN l pos P G step hl hs he n (i + 1) v' (by omega) hp' (by omega) (by omega))
    · have e : i = l.length := by omega
      subst e; rw [he _ _ hv hp, List.drop_length]
theorem LOOP_g {V α X : Type} [Inhabited α] (l : List α) (pos : V → Int) (P : Nat → V → Prop) (G : List α → V → Option X) (step : (V → Option X) → V → Option X) (v0 : V) (hl : Sm l) (hv : pos v0 = 0) (hp : P 0 v0)
    (hs : ∀ (r : V → Option X) (i : Nat) (t : List α) (v : V), pos v = (i : Int) → P i v → IntKind.i64.wrap ((i : Int) + 1) = (i : Int) + 1 → (0 ≤ (i : Int) ∧ (i : Int) < (l.length : Int)) → ix l (i : Int) ∈ l → (∀ v', pos v' = (i : Int) + 1 → P (i + 1) v' → r v' = G t v') → step r v = G (ix l (i : Int) :: t) v)
    (he : ∀ (r : V → Option X) (v : V), pos v = (l.length : Int) → P l.length v → step r v = G [] v) : LOOP step fuel v0 = G l v0 :=
  LOOP_gN l pos P G step hl hs he fuel 0 v0 hv hp (Nat.zero_le _) (Nat.lt_trans (Nat.lt_of_le_of_lt (Nat.sub_le _ _) hl) (by unfold fuel; decide))
end Go.Rx
namespace Go.Rx
/-- A loop that leaves where q does not hold. -/
theorem LOOP_all {α X : Type} [Inhabited α] (l : List α) (q : α → Bool) (fin bad : Option X) (step : (Int → Option X) → Int → Option X) (hl : Sm l)
    (hs : ∀ (r : Int → Option X) (i : Nat), IntKind.i64.wrap ((i : Int) + 1) = (i : Int) + 1 → (0 ≤ (i : Int) ∧ (i : Int) < (l.length : Int)) → ix l (i : Int) ∈ l → step r (i : Int) = if q (ix l (i : Int)) = true then r ((i : Int) + 1) else bad)
    (he : ∀ (r : Int → Option X), step r (l.length : Int) = fin) : LOOP step fuel (0 : Int) = if l.all q = true then fin else bad := by
  refine LOOP_l0 l (fun t _ => if t.all q = true then fin else bad) step hl ?_ ?_
  · intro r i t hw hc hm hr
    rw [hs r i hw hc hm, hr, List.all_cons]
    cases q (ix l (i : Int)) <;> simp
  · intro r; rw [he]; rfl
theorem if_gt {X : Type} (a k : Int) (x y : X) : (if decide (a > k) = true then x else y) = if decide (a ≤ k) = true then y else x := by
  by_cases h : a ≤ k
  · rw [if_neg (by simp; omega), if_pos (by simpa using h)]
  · rw [if_pos (by simp; omega), if_neg (by simpa using h)]
theorem dec_gt (a k : Int) : decide (a > k) = !decide (a ≤ k) := by rw [Bool.eq_iff_iff]; simp
theorem if_some {X : Type} (c : Bool) : (if c = true then some true else some false) = some c := by cases c <;> rfl
end Go.Rx
