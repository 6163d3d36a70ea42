/-
  A function's contract by a run on given symbolic values: its answer may be a function. No conditions.
-/
import Derived.Test.YtelkhkmeoahhlaaGreatDoorRyI
import Derived.Test.YtelkhkmeoahhlaaGreatDoorRzX
set_option linter.all false
namespace Go.Rx
open Go.RowKit
section
variable {P : Program} {tb : Tb} {cx : Ctx P tb}
def hfin (P : Program) (vs : List ResultVar) (e : AExit) (L : SLS tb) : Option (SV tb) := match e with
  | .exit _ => none
  | _ => got (resSs P L vs) fun xs => match xs with
    | [x] => tst (x.has fun _ => false) (some x)
    | _ => none
theorem hnd_ok {fid : Nat} {fn : Func} {code : Code} {xs : List (SV tb)} {y : SV tb} {im bar N an} (hf : P.funcs[fid]? = some fn) (hb : fn.body = some code) (hN : fn.ntmps = N) (hn : Nat.ble xs.length N = true)
    (hk : hasL (fun _ => false) xs = true) (ho : noOpts xs = true) (hyb : y.has (fun _ => false) = true) (H : exec cx (lvl cx 6) im bar N code an ⟨envS 0 xs, [], [], 0, []⟩ (hfin P fn.results.toList) = some y) :
    FnR P fid (avL xs) y.av [] ∧ allBare (avL xs) = true ∧ y.av.isBare = true := by
  have hi : RI [] (envS 0 xs : SEnv tb) := by
    intro t G x hx
    have := noOpts_e ho _ (envS_mem hx)
    cases this
  have key := exec_ok (lvl_ok 6) (L := ⟨envS 0 xs, [], [], 0, []⟩) hi H
  have hres : resL ([] : Gn tb) xs = xs := resL_keep (hasL_all (q := keepQ []) (fun _ => rfl) _)
  have e0 : (⟨envS 0 xs, [], [], 0, []⟩ : SLS tb).av = ⟨envFrom 0 (avL xs), [], [], fun d => 0 ≤ d⟩ := by
    show (⟨avE [] (envS 0 xs), [], [], _⟩ : LS) = _
    rw [envS_av hres]
  rw [e0] at key
  refine ⟨FnR.intro hf hb hN (by rw [avL_length]; exact Nat.le_of_ble_eq_true hn) ?_, hasL_bare hk, has_bare hyb⟩
  · refine Wp.tells (Tells.f (f' := fun d => 0 ≤ d) fun _ _ => trivial) (key.post ?_)
    rintro e Lf ⟨L', h', hi', x', ht⟩
    have main : (got (resSs P L' fn.results.toList) fun xs => match xs with
      | [x] => tst (x.has fun _ => false) (some x)
      | _ => none) = some y → (e = .normal ∨ e = .ret) → ∃ L2, Tells Lf L2 ∧ (e = .normal ∨ e = .ret) ∧ ∃ xs L3, RessOk P L2 fn.results.toList xs ∧ Tells { L2 with e := [(0, tupleOf xs)], s := [] } L3 ∧ find 0 L3.e = some y.av ∧ L3.h = [] ∧ ∀ d, find d ([] : Hp) = none → L3.f d := by
      intro h' he
      obtain ⟨zs, hzs, h'⟩ := got_e h'
      split at h'
      · rename_i x
        obtain ⟨hb1, h'⟩ := tst_e h'
        cases h'
        refine ⟨L'.av, ht, he, avL [y], ⟨[(0, y.av)], [], [], fun _ => True⟩, resSs_ok hzs, ?_, by rw [find_cons, if_pos rfl], rfl, fun _ _ => trivial⟩
        refine LS.ren.tells (q := fun _ => none) (r := fun _ => none) (nils := fun _ => false) ⟨by simp, ?_, trivial, ?_, by simp, by simp⟩
        · intro t z hf
          have hf : find t [(0, y.av)] = some z := hf
          rw [find_cons] at hf
          split at hf
          · rename_i h0
            subst h0
            cases hf
            refine .inr ⟨_, by show find 0 [(0, tupleOf (avL [y]))] = _; rw [find_cons, if_pos rfl], ?_⟩
            show SubN _ (y.av.re _) _
            rw [bare_of (has_bare hb1)]
            exact (Sub.refl _).n
          · simp [find] at hf
        · intro id b hf; simp [find] at hf
      · cases h'
    unfold hfin at h'
    cases e with
    | exit j => cases h'
    | normal => exact main h' (.inl rfl)
    | ret => exact main h' (.inr rfl)
end
end Go.Rx
