/-
  Plain lemmas on the forms in which the functions are put: numbers that wrap, checks, loops over lists. No conditions.
-/
import Derived.Test.YtblkmlpjhpgkjaaCxS
set_option linter.all false
namespace Go.Cx

@[simp] theorem Let_eq {β X : Type} (v : β) (k : β → X) : Let v k = k v := rfl
@[simp] theorem Bind_some {α β : Type} (x : α) (k : α → Option β) : Bind (some x) k = k x := rfl
@[simp] theorem Bind_none {α β : Type} (k : α → Option β) : Bind none k = none := rfl
theorem Bind_of {α β : Type} {m : Option α} {x : α} {k : α → Option β} (h : m = some x) : Bind m k = k x := by rw [h]; rfl
theorem Chk_of {α : Type} {c : Prop} [Decidable c] {k : Option α} (h : c) : Chk c k = k := if_pos h
@[simp] theorem Chk_true {α : Type} {k : Option α} : Chk True k = k := rfl
theorem w64_of (n : Int) (h : -9223372036854775808 ≤ n ∧ n ≤ 9223372036854775807) : w64 n = n := wrap_in n h.1 h.2
theorem w64_or (n : Int) : (w64 n = n % 18446744073709551616 ∧ n % 18446744073709551616 < 9223372036854775808) ∨ (w64 n = n % 18446744073709551616 - 18446744073709551616 ∧ 9223372036854775808 ≤ n % 18446744073709551616) := by
  unfold w64
  simp only [IntKind.wrap, IntKind.bits, IntKind.signed]
  by_cases h : 9223372036854775808 ≤ n % 18446744073709551616
  · right; refine ⟨?_, h⟩; simp; omega
  · left; refine ⟨?_, by omega⟩; simp; omega
theorem u64_eq (n : Int) : IntKind.u64.wrap n = n % 18446744073709551616 := wrap_u64 n
theorem i64_min : IntKind.i64.min = -9223372036854775808 := rfl
theorem i64_max : IntKind.i64.max = 9223372036854775807 := rfl
theorem cond_or (a b : Bool) : (bif a then true else b) = (a || b) := by cases a <;> rfl
theorem cond_and (a b : Bool) : (bif a then b else false) = (a && b) := by cases a <;> rfl
theorem fuel_lt (n : Nat) (h : n < 2 ^ 70) : n < fuel := h
theorem ix_nat {α : Type} [Inhabited α] (l : List α) (i : Nat) : ix l (i : Int) = l.getD i default := rfl
theorem ix_lt {α : Type} [Inhabited α] (l : List α) (i : Nat) (h : i < l.length) : ix l (i : Int) = l[i] := by
  rw [ix_nat]; simp [List.getD, List.getElem?_eq_getElem h]
theorem drop_ix {α : Type} [Inhabited α] (l : List α) (i : Nat) (h : i < l.length) : l.drop i = ix l (i : Int) :: l.drop (i + 1) := by
  rw [ix_lt l i h, List.drop_eq_getElem_cons h]
end Go.Cx
