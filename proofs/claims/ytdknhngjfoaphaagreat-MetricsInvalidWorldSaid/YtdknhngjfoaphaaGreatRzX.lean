/-
  Contracts of functions of Go's library that are met by what the kit proves of them. Conditions: those named in each rule.
-/
import Derived.Test.YtdknhngjfoaphaaGreatRyI
import Derived.Lib.Bytealg
import Derived.Lib.Join
set_option linter.all false
namespace Go.Rx
open Go.RowKit

theorem reps2 {m bl x y vs} (h : Reps m bl [x, y] vs) : ∃ a b, vs = [a, b] ∧ Rep m bl x a ∧ Rep m bl y b := by
  cases h with
  | cons h1 t => cases t with
    | cons h2 t => cases t with
      | nil => exact ⟨_, _, rfl, h1, h2⟩

end Go.Rx
