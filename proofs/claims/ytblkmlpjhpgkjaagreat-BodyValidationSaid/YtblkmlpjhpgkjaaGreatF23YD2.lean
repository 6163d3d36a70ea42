/- The plain law of mass data: the reference computes the same. No conditions. -/
import Derived.Test.YtblkmlpjhpgkjaaGreatF23YC2
import Derived.Test.YtblkmlpjhpgkjaaGreatF23YB2
import Derived.Test.YtblkmlpjhpgkjaaGreatF23YD1
set_option linter.all false
open Go Go.Cx
namespace GoForm
theorem sumR_succ (g : Nat → Int) (i k : Nat) : sumR g i (k + 1) = g i + sumR g (i + 1) k := by
  unfold sumR
  show foldR _ (i + 1) k (0 + g i) = _
  rw [sumR_acc g k (i + 1) (0 + g i)]; unfold sumR; omega
theorem sumR_last (g : Nat → Int) (i k : Nat) : sumR g i (k + 1) = sumR g i k + g (i + k) := by
  unfold sumR; rw [foldR_last]
theorem sumR_shift (g : Nat → Int) (i k : Nat) : sumR g (i + 1) k = sumR (fun j => g (j + 1)) i k := foldR_shift _ k i 0
theorem sumR_congr {f g : Nat → Int} (i k : Nat) (h : ∀ j, i ≤ j → j < i + k → f j = g j) : sumR f i k = sumR g i k :=
  foldR_congr k i 0 fun j s h1 h2 => by rw [h j h1 h2]
/-- A sum over the pairs of neighbours in a ring: from the pair that closes it, or to it. -/
theorem ring_sum (T : Nat → Nat → Int) (n : Nat) (hn : 0 < n) : sumR (fun i => T (prevI n i) i) 0 n = sumR (fun i => T i ((i + 1) % n)) 0 n := by
  obtain ⟨k, rfl⟩ : ∃ k, n = k + 1 := ⟨n - 1, by omega⟩
  rw [sumR_succ, sumR_last, sumR_shift]
  have e1 : sumR (fun j => T (prevI (k + 1) (j + 1)) (j + 1)) 0 k = sumR (fun i => T i ((i + 1) % (k + 1))) 0 k := by
    refine sumR_congr 0 k fun j _ h => ?_
    unfold prevI
    rw [if_neg (by omega), Nat.mod_eq_of_lt (show j + 1 < k + 1 by omega)]; rfl
  rw [e1]
  have e2 : (0 + k + 1) % (k + 1) = 0 := by rw [Nat.zero_add]; exact Nat.mod_self _
  rw [e2]
  unfold prevI
  rw [if_pos rfl, Nat.zero_add]
  show T (k + 1 - 1) 0 + _ = _
  rw [Nat.add_sub_cancel]; omega
theorem nxt_nat (vs : List Vec) (i : Nat) (h : 0 < vs.length) : nxt vs i = (((i + 1) % vs.length : Nat) : Int) := by
  unfold nxt
  rw [Int.tmod_eq_emod_of_nonneg (by omega)]; push_cast; rfl
theorem all_not_any (l : List MassData) (p : MassData → Bool) : l.all (fun v => !p v) = !l.any p := by
  induction l with
  | nil => rfl
  | cons a l ih => rw [List.any_cons, List.all_cons, ih]; cases p a <;> rfl
end GoForm
