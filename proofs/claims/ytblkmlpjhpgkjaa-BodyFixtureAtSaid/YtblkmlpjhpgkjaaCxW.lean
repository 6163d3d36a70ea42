/-
  Plain lemmas on counting loops, and on sums that wrap. No conditions.
-/
import Derived.Test.YtblkmlpjhpgkjaaCxP
set_option linter.all false
namespace Go.Cx
def allR (p : Nat → Bool) : Nat → Nat → Bool
  | _, 0 => true
  | i, k + 1 => p i && allR p (i + 1) k
def foldR {σ : Type} (f : Nat → σ → σ) : Nat → Nat → σ → σ
  | _, 0, s => s
  | i, k + 1, s => foldR f (i + 1) k (f i s)
/-- A loop that counts i up to len, leaves where p does not hold, and ends with fin. -/
theorem loop_gen {σ R : Type} (len : Nat) (p : Nat → Bool) (f : Nat → σ → σ) (Inv : Nat → σ → Prop) (F : Nat → σ → Int → R) (fin : σ → R) (bad : R)
    (hs : ∀ (n i : Nat) (s : σ), i < len → Inv i s → F (n + 1) s (i : Int) = (if p i = true then F n (f i s) ((i : Int) + 1) else bad) ∧ (p i = true → Inv (i + 1) (f i s)))
    (he : ∀ (n : Nat) (s : σ), Inv len s → F (n + 1) s (len : Int) = fin s) :
    ∀ (n i : Nat) (s : σ), i ≤ len → len - i < n → Inv i s → F n s (i : Int) = if allR p i (len - i) = true then fin (foldR f i (len - i) s) else bad
  | 0, i, s, _, h, _ => by omega
  | n + 1, i, s, hi, hn, hI => by
    by_cases h : i < len
    · obtain ⟨h1, h2⟩ := hs n i s h hI
      have e : len - i = (len - (i + 1)) + 1 := by omega
      rw [h1, e]
      unfold allR foldR
      by_cases hp : p i = true
      · rw [if_pos hp, hp, Bool.true_and]
        exact loop_gen len p f Inv F fin bad hs he n (i + 1) (f i s) (by omega) (by omega) (h2 hp)
      · rw [if_neg hp]
        simp only [Bool.not_eq_true] at hp
        rw [hp, Bool.false_and]; rfl
    · have : i = len := by omega
      subst this
      rw [he n s hI, Nat.sub_self]; rfl
theorem allR_true (p : Nat → Bool) : ∀ (k i : Nat), allR p i k = true ↔ ∀ j, i ≤ j → j < i + k → p j = true
  | 0, i => by simp [allR]; omega
  | k + 1, i => by
    unfold allR
    rw [Bool.and_eq_true, allR_true p k (i + 1)]
    constructor
    · intro ⟨h1, h2⟩ j hj hj2
      by_cases e : j = i
      · subst e; exact h1
      · exact h2 j (by omega) (by omega)
    · intro h
      exact ⟨h i (by omega) (by omega), fun j hj hj2 => h j (by omega) (by omega)⟩
theorem allR_tt : ∀ (k i : Nat), allR (fun _ => true) i k = true
  | 0, _ => rfl
  | k + 1, i => by unfold allR; rw [Bool.true_and]; exact allR_tt k (i + 1)
theorem foldR_congr {σ : Type} {f g : Nat → σ → σ} : ∀ (k i : Nat) (s : σ), (∀ j s, i ≤ j → j < i + k → f j s = g j s) → foldR f i k s = foldR g i k s
  | 0, _, _, _ => rfl
  | k + 1, i, s, h => by
    unfold foldR
    rw [h i s (by omega) (by omega)]
    exact foldR_congr k (i + 1) _ fun j s h1 h2 => h j s (by omega) (by omega)
theorem allR_congr {p q : Nat → Bool} : ∀ (k i : Nat), (∀ j, i ≤ j → j < i + k → p j = q j) → allR p i k = allR q i k
  | 0, _, _ => rfl
  | k + 1, i, h => by
    unfold allR
    rw [h i (by omega) (by omega), allR_congr k (i + 1) fun j h1 h2 => h j (by omega) (by omega)]
theorem foldR_shift {σ : Type} (f : Nat → σ → σ) : ∀ (k i : Nat) (s : σ), foldR f (i + 1) k s = foldR (fun j => f (j + 1)) i k s
  | 0, _, _ => rfl
  | k + 1, i, s => by unfold foldR; exact foldR_shift f k (i + 1) _
theorem allR_shift (p : Nat → Bool) : ∀ (k i : Nat), allR p (i + 1) k = allR (fun j => p (j + 1)) i k
  | 0, _ => rfl
  | k + 1, i => by unfold allR; rw [allR_shift p k (i + 1)]
theorem foldR_last {σ : Type} (f : Nat → σ → σ) : ∀ (k i : Nat) (s : σ), foldR f i (k + 1) s = f (i + k) (foldR f i k s)
  | 0, _, _ => rfl
  | k + 1, i, s => by
    show foldR f (i + 1) (k + 1) (f i s) = _
    rw [foldR_last f k (i + 1) (f i s)]
    show f (i + 1 + k) (foldR f (i + 1) k (f i s)) = f (i + (k + 1)) (foldR f (i + 1) k (f i s))
    congr 1; omega
theorem allR_list {α : Type} [Inhabited α] (p : α → Bool) (l : List α) : ∀ (k i : Nat), i + k = l.length → allR (fun j => p (ix l (j : Int))) i k = (l.drop i).all p
  | 0, i, h => by simp [allR, List.drop_of_length_le (show l.length ≤ i by omega)]
  | k + 1, i, h => by
    unfold allR
    rw [allR_list p l k (i + 1) (by omega), drop_ix l i (by omega)]; rfl
theorem allR_all {α : Type} [Inhabited α] (p : α → Bool) (l : List α) : allR (fun j => p (ix l (j : Int))) 0 l.length = l.all p := allR_list p l l.length 0 (by omega)
theorem ix_mem {α : Type} [Inhabited α] (l : List α) (i : Int) (h : 0 ≤ i ∧ i < l.length) : ix l i ∈ l := by
  obtain ⟨n, rfl⟩ := Int.eq_ofNat_of_zero_le h.1
  rw [ix_lt l n (by omega)]; exact List.getElem_mem _
/-- w64 is a remainder: it may be taken once, at the end. -/
theorem w64_congr {a b : Int} (h : a % 18446744073709551616 = b % 18446744073709551616) : w64 a = w64 b := by
  have h1 := w64_or a; have h2 := w64_or b; omega
theorem w64_mod (a : Int) : w64 a % 18446744073709551616 = a % 18446744073709551616 := by have := w64_or a; omega
theorem w64_bd (a : Int) : -9223372036854775808 ≤ w64 a ∧ w64 a ≤ 9223372036854775807 := by have := w64_or a; omega
theorem w64_w64 (a : Int) : w64 (w64 a) = w64 a := w64_of _ (w64_bd a)
theorem w64_al (a b : Int) : w64 (w64 a + b) = w64 (a + b) := w64_congr (by have := w64_mod a; omega)
theorem w64_ar (a b : Int) : w64 (a + w64 b) = w64 (a + b) := w64_congr (by have := w64_mod b; omega)
theorem w64_sl (a b : Int) : w64 (w64 a - b) = w64 (a - b) := w64_congr (by have := w64_mod a; omega)
theorem w64_sr (a b : Int) : w64 (a - w64 b) = w64 (a - b) := w64_congr (by have := w64_mod b; omega)
theorem w64_ml (a b : Int) : w64 (w64 a * b) = w64 (a * b) := w64_congr (by rw [Int.mul_emod, w64_mod, ← Int.mul_emod])
theorem w64_mr (a b : Int) : w64 (a * w64 b) = w64 (a * b) := w64_congr (by rw [Int.mul_emod, w64_mod, ← Int.mul_emod])
/-- A wrapping sum. -/
def sumR (g : Nat → Int) (i k : Nat) : Int := foldR (fun j a => a + g j) i k 0
theorem sumR_acc (g : Nat → Int) : ∀ (k i : Nat) (a : Int), foldR (fun j a => a + g j) i k a = a + sumR g i k
  | 0, i, a => by simp [foldR, sumR]
  | k + 1, i, a => by
    unfold sumR foldR
    rw [sumR_acc g k (i + 1) (a + g i), sumR_acc g k (i + 1) (0 + g i)]; omega
theorem wsum (g : Nat → Int) : ∀ (k i : Nat) (a : Int), foldR (fun j a => w64 (a + g j)) i k (w64 a) = w64 (a + sumR g i k)
  | 0, i, a => by simp [foldR, sumR]
  | k + 1, i, a => by
    unfold foldR
    rw [w64_al, wsum g k (i + 1) (a + g i)]
    unfold sumR
    show _ = w64 (a + foldR _ (i + 1) k (0 + g i))
    rw [sumR_acc g k (i + 1) (0 + g i)]
    unfold sumR; congr 1; omega
theorem foldR_pair {σ τ : Type} (f : Nat → σ → σ) (g : Nat → τ → τ) : ∀ (k i : Nat) (s : σ) (t : τ), foldR (fun j (x : σ × τ) => (f j x.1, g j x.2)) i k (s, t) = (foldR f i k s, foldR g i k t)
  | 0, _, _, _ => rfl
  | k + 1, i, s, t => by unfold foldR; exact foldR_pair f g k (i + 1) _ _
theorem foldR_list {α : Type} (g : Nat → α) : ∀ (k i : Nat) (l : List α), foldR (fun j (l : List α) => l ++ [g j]) i k l = l ++ (List.range' i k).map g
  | 0, i, l => by simp [foldR]
  | k + 1, i, l => by
    unfold foldR
    rw [foldR_list g k (i + 1) (l ++ [g i]), List.range'_succ]
    simp
theorem ix_map_range {α : Type} [Inhabited α] (g : Nat → α) (i k j : Nat) (h : j < k) : ix ((List.range' i k).map g) (j : Int) = g (i + j) := by
  rw [ix_lt _ _ (by simpa using h)]
  simp
theorem list_eq_ix {α : Type} [Inhabited α] (l1 l2 : List α) (h : l1.length = l2.length) : (∀ i, i < l1.length → ix l1 (i : Int) = ix l2 (i : Int)) ↔ l1 = l2 := by
  constructor
  · intro h2
    refine List.ext_getElem h fun i h3 h4 => ?_
    have := h2 i h3
    rw [ix_lt l1 i h3, ix_lt l2 i h4] at this; exact this
  · rintro rfl i _; rfl
theorem allR_eq {α : Type} [Inhabited α] [DecidableEq α] (l1 l2 : List α) (h : l1.length = l2.length) : allR (fun i => decide (ix l1 (i : Int) = ix l2 (i : Int))) 0 l1.length = decide (l1 = l2) := by
  rw [Bool.eq_iff_iff, allR_true, decide_eq_true_eq, ← list_eq_ix l1 l2 h]
  simp only [decide_eq_true_eq]
  exact ⟨fun h i hi => h i (by omega) (by omega), fun h i _ hi => h i (by omega)⟩
end Go.Cx
