/-
  Plain lemmas on the forms in which the functions are put: numbers that wrap, checks, loops over lists. No conditions.
-/
import Derived.Test.YtdknhngjfoaphaaGreatRyI
set_option linter.all false
namespace Go.Rx
theorem wrap_in (n : Int) (h1 : -9223372036854775808 ≤ n) (h2 : n ≤ 9223372036854775807) : IntKind.i64.wrap n = n := by
  simp [IntKind.wrap, IntKind.bits, IntKind.signed]; omega
theorem wrap_u64 (n : Int) : IntKind.u64.wrap n = n % 18446744073709551616 := by simp [IntKind.wrap, IntKind.bits, IntKind.signed]
/-- A loop's next round. -/
theorem LOOP_s {V X : Type} (step : (V → Option X) → V → Option X) (n : Nat) (v : V) : LOOP step (n + 1) v = step (LOOP step n) v := rfl

@[simp] theorem Let_eq {β X : Type} (v : β) (k : β → X) : Let v k = k v := rfl
@[simp] theorem Bind_some {α β : Type} (x : α) (k : α → Option β) : Bind (some x) k = k x := rfl
@[simp] theorem Bind_none {α β : Type} (k : α → Option β) : Bind none k = none := rfl
theorem Bind_of {α β : Type} {m : Option α} {x : α} {k : α → Option β} (h : m = some x) : Bind m k = k x := by rw [h]; rfl
theorem Chk_of {α : Type} {c : Prop} [Decidable c] {k : Option α} (h : c) : Chk c k = k := if_pos h
@[simp] theorem Chk_true {α : Type} {k : Option α} : Chk True k = k := rfl
theorem w64_of (n : Int) (h : -9223372036854775808 ≤ n ∧ n ≤ 9223372036854775807) : w64 n = n := wrap_in n h.1 h.2
theorem w64_or (n : Int) : (w64 n = n % 18446744073709551616 ∧ n % 18446744073709551616 < 9223372036854775808) ∨ (w64 n = n % 18446744073709551616 - 18446744073709551616 ∧ 9223372036854775808 ≤ n % 18446744073709551616) := by
  unfold w64
  simp only [IntKind.wrap, IntKind.bits, IntKind.signed]
  by_cases h : 9223372036854775808 ≤ n % 18446744073709551616
  · right; refine ⟨?_, h⟩; simp; omega
  · left; refine ⟨?_, by omega⟩; simp; omega
theorem u64_eq (n : Int) : IntKind.u64.wrap n = n % 18446744073709551616 := wrap_u64 n
theorem cond_or (a b : Bool) : (bif a then true else b) = (a || b) := by cases a <;> rfl
theorem cond_and (a b : Bool) : (bif a then b else false) = (a && b) := by cases a <;> rfl
theorem fuel_lt (n : Nat) (h : n < 2 ^ 70) : n < fuel := h
theorem ix_nat {α : Type} [Inhabited α] (l : List α) (i : Nat) : ix l (i : Int) = l.getD i default := rfl
theorem ix_lt {α : Type} [Inhabited α] (l : List α) (i : Nat) (h : i < l.length) : ix l (i : Int) = l[i] := by
  rw [ix_nat]; simp [List.getD, List.getElem?_eq_getElem h]
theorem drop_ix {α : Type} [Inhabited α] (l : List α) (i : Nat) (h : i < l.length) : l.drop i = ix l (i : Int) :: l.drop (i + 1) := by
  rw [ix_lt l i h, List.drop_eq_getElem_cons h]
end Go.Rx
namespace Go.Rx
def allR (p : Nat → Bool) : Nat → Nat → Bool
  | _, 0 => true
  | i, k + 1 => p i && allR p (i + 1) k
def foldR {σ : Type} (f : Nat → σ → σ) : Nat → Nat → σ → σ
  | _, 0, s => s
  | i, k + 1, s => foldR f (i + 1) k (f i s)
/-- A loop that counts i up to len, leaves where p does not hold, and ends with fin. -/
theorem loop_gen {σ R : Type} (len : Nat) (p : Nat → Bool) (f : Nat → σ → σ) (Inv : Nat → σ → Prop) (F : Nat → σ → Int → R) (fin : σ → R) (bad : R)
    (hs : ∀ (n i : Nat) (s : σ), i < len → Inv i s → F (n + 1) s (i : Int) = (if p i = true then F n (f i s) ((i : Int) + 1) else bad) ∧ (p i = true → Inv (i + 1) (f i s)))
    (he : ∀ (n : Nat) (s : σ), Inv len s → F (n + 1) s (len : Int) = fin s) :
    ∀ (n i : Nat) (s : σ), i ≤ len → len - i < n → Inv i s → F n s (i : Int) = if allR p i (len - i) = true then fin (foldR f i (len - i) s) else bad
  | 0, i, s, _, h, _ => by omega
  | n + 1, i, s, hi, hn, hI => by
    by_cases h : i < len
    · obtain ⟨h1, h2⟩ := hs n i s h hI
      have e : len - i = (len - (i + 1)) + 1 := by omega
      rw [h1, e]
      unfold allR foldR
      by_cases hp : p i = true
      · rw [if_pos hp, hp, Bool.true_and]
        exact loop_gen len p f Inv F fin bad hs he n (i + 1) (f i s) (by omega) (by omega) (h2 hp)
      · rw [if_neg hp]
        simp only [Bool.not_eq_true] at hp
        rw [hp, Bool.false_and]; rfl
    · have : i = len := by omega
      subst this
      rw [he n s hI, Nat.sub_self]; rfl
theorem allR_true (p : Nat → Bool) : ∀ (k i : Nat), allR p i k = true ↔ ∀ j, i ≤ j → j < i + k → p j = true
  | 0, i => by simp [allR]; omega
  | k + 1, i => by
    unfold allR
    rw [Bool.and_eq_true, allR_true p k (i + 1)]
    constructor
    · intro ⟨h1, h2⟩ j hj hj2
      by_cases e : j = i
      · subst e; exact h1
      · exact h2 j (by omega) (by omega)
    · intro h
      exact ⟨h i (by omega) (by omega), fun j hj hj2 => h j (by omega) (by omega)⟩
theorem allR_tt : ∀ (k i : Nat), allR (fun _ => true) i k = true
  | 0, _ => rfl
  | k + 1, i => by unfold allR; rw [Bool.true_and]; exact allR_tt k (i + 1)
theorem foldR_shift {σ : Type} (f : Nat → σ → σ) : ∀ (k i : Nat) (s : σ), foldR f (i + 1) k s = foldR (fun j => f (j + 1)) i k s
  | 0, _, _ => rfl
  | k + 1, i, s => by unfold foldR; exact foldR_shift f k (i + 1) _
theorem allR_list {α : Type} [Inhabited α] (p : α → Bool) (l : List α) : ∀ (k i : Nat), i + k = l.length → allR (fun j => p (ix l (j : Int))) i k = (l.drop i).all p
  | 0, i, h => by simp [allR, List.drop_of_length_le (show l.length ≤ i by omega)]
  | k + 1, i, h => by
    unfold allR
    rw [allR_list p l k (i + 1) (by omega), drop_ix l i (by omega)]; rfl
theorem allR_all {α : Type} [Inhabited α] (p : α → Bool) (l : List α) : allR (fun j => p (ix l (j : Int))) 0 l.length = l.all p := allR_list p l l.length 0 (by omega)
theorem ix_mem {α : Type} [Inhabited α] (l : List α) (i : Int) (h : 0 ≤ i ∧ i < l.length) : ix l i ∈ l := by
  obtain ⟨n, rfl⟩ := Int.eq_ofNat_of_zero_le h.1
  rw [ix_lt l n (by omega)]; exact List.getElem_mem _
/-- w64 is a remainder: it may be taken once, at the end. -/
theorem w64_congr {a b : Int} (h : a % 18446744073709551616 = b % 18446744073709551616) : w64 a = w64 b := by
  have h1 := w64_or a; have h2 := w64_or b; omega
theorem w64_mod (a : Int) : w64 a % 18446744073709551616 = a % 18446744073709551616 := by have := w64_or a; omega
theorem w64_al (a b : Int) : w64 (w64 a + b) = w64 (a + b) := w64_congr (by have := w64_mod a; omega)
theorem w64_ar (a b : Int) : w64 (a + w64 b) = w64 (a + b) := w64_congr (by have := w64_mod b; omega)
theorem w64_sl (a b : Int) : w64 (w64 a - b) = w64 (a - b) := w64_congr (by have := w64_mod a; omega)
theorem w64_sr (a b : Int) : w64 (a - w64 b) = w64 (a - b) := w64_congr (by have := w64_mod b; omega)
theorem w64_ml (a b : Int) : w64 (w64 a * b) = w64 (a * b) := w64_congr (by rw [Int.mul_emod, w64_mod, ← Int.mul_emod])
theorem w64_mr (a b : Int) : w64 (a * w64 b) = w64 (a * b) := w64_congr (by rw [Int.mul_emod, w64_mod, ← Int.mul_emod])
/-- A wrapping sum. -/
def sumR (g : Nat → Int) (i k : Nat) : Int := foldR (fun j a => a + g j) i k 0
theorem sumR_acc (g : Nat → Int) : ∀ (k i : Nat) (a : Int), foldR (fun j a => a + g j) i k a = a + sumR g i k
  | 0, i, a => by simp [foldR, sumR]
  | k + 1, i, a => by
    unfold sumR foldR
    rw [sumR_acc g k (i + 1) (a + g i), sumR_acc g k (i + 1) (0 + g i)]; omega
theorem wsum (g : Nat → Int) : ∀ (k i : Nat) (a : Int), foldR (fun j a => w64 (a + g j)) i k (w64 a) = w64 (a + sumR g i k)
  | 0, i, a => by simp [foldR, sumR]
  | k + 1, i, a => by
    unfold foldR
    rw [w64_al, wsum g k (i + 1) (a + g i)]
    unfold sumR
    show _ = w64 (a + foldR _ (i + 1) k (0 + g i))
    rw [sumR_acc g k (i + 1) (0 + g i)]
    unfold sumR; congr 1; omega
theorem foldR_pair {σ τ : Type} (f : Nat → σ → σ) (g : Nat → τ → τ) : ∀ (k i : Nat) (s : σ) (t : τ), foldR (fun j (x : σ × τ) => (f j x.1, g j x.2)) i k (s, t) = (foldR f i k s, foldR g i k t)
  | 0, _, _, _ => rfl
  | k + 1, i, s, t => by unfold foldR; exact foldR_pair f g k (i + 1) _ _
theorem foldR_list {α : Type} (g : Nat → α) : ∀ (k i : Nat) (l : List α), foldR (fun j (l : List α) => l ++ [g j]) i k l = l ++ (List.range' i k).map g
  | 0, i, l => by simp [foldR]
  | k + 1, i, l => by
    unfold foldR
    rw [foldR_list g k (i + 1) (l ++ [g i]), List.range'_succ]
    simp
theorem ix_map_range {α : Type} [Inhabited α] (g : Nat → α) (i k j : Nat) (h : j < k) : ix ((List.range' i k).map g) (j : Int) = g (i + j) := by
  rw [ix_lt _ _ (by simpa using h)]
  simp
end Go.Rx
