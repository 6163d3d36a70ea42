/-
  What a function answers, read from the state. No conditions.
-/
import Derived.Test.YtdknhngjfoaphaaGreatRyG
set_option linter.all false
namespace Go.Rx
open Go.RowKit
section
variable {P : Program} {tb : Tb} {ρ : Type} {cx : Ctx P tb}
/-! results -/
def resS (P : Program) (L : SLS tb) : ResultVar → Option (SV tb)
  | .tmp t => got (find t L.e) fun x => some (x.res L.gn)
  | .cell t ty => got (blkId L t) fun id => got (cellsAt L id) fun l => got (tAg P ty) fun ag => match ag with
    | true => got (tSz P ty) fun n => tst (Nat.ble n l.length) (some (.agg (l.take n)))
    | false => match l with
      | [] => none
      | x :: _ => some x
def resSs (P : Program) (L : SLS tb) : List ResultVar → Option (List (SV tb))
  | [] => some []
  | r :: rs => got (resS P L r) fun x => got (resSs P L rs) fun l => some (x :: l)
theorem blkId_e {L : SLS tb} {t id} (h : blkId L t = some id) (hk : keepQ L.gn id = true) : find t L.av.e = some (.ptr id 0) := by
  unfold blkId at h
  split at h
  · rename_i i off hf
    obtain ⟨h1, h⟩ := tst_e h
    cases h
    have := Nat.eq_of_beq_eq_true h1
    subst this
    show find t (avE L.gn L.e) = _
    rw [find_avE, hf]
    simp only [Option.map_some, SV.res]
    rw [keepQ_e hk]; rfl
  · cases h
theorem resS_ok {L : SLS tb} {v x} (h : resS P L v = some x) : ResOk P L.av v x.av := by
  cases v with
  | tmp t =>
    obtain ⟨y, hy, h⟩ := got_e (show got (find t L.e) _ = some x from h)
    cases h
    refine .tmp ?_
    show find t (avE L.gn L.e) = _
    rw [find_avE, hy]; rfl
  | cell t ty =>
    obtain ⟨id, hid, h⟩ := got_e (show got (blkId L t) _ = some x from h)
    obtain ⟨l, hl, h⟩ := got_e h
    obtain ⟨ag, hag, h⟩ := got_e h
    have hk : keepQ L.gn id = true := by
      have := hl; unfold cellsAt at this; split at this
      · assumption
      · cases this
    have hp := blkId_e hid hk
    have hl := cellsAt_e hl
    split at h
    · obtain ⟨n, hn, h⟩ := got_e h
      obtain ⟨hle, h⟩ := tst_e h
      cases h
      have := ResOk.agg (P := P) (L := L.av) n hp hl hag hn (by rw [avL_length]; exact Nat.le_of_ble_eq_true hle)
      rw [← avL_take] at this
      exact this
    · split at h
      · cases h
      · cases h
        exact .one hp hl hag
theorem resSs_ok {L : SLS tb} : ∀ {vs xs}, resSs P L vs = some xs → RessOk P L.av vs (avL xs)
  | [], _, h => by cases h; exact .nil
  | v :: vs, xs, h => by
    obtain ⟨x, hx, h⟩ := got_e (show got (resS P L v) _ = some xs from h)
    obtain ⟨l, hl, h⟩ := got_e h
    cases h
    exact .cons (resS_ok hx) (resSs_ok hl)

/-- Results' slots: slices of all that is known are cut. -/
def cutR (gs : List Nat) : List ResultVar → SLS tb → (SLS tb → Option ρ) → Option ρ
  | [], L, k => k L
  | .tmp t :: r, L, k => cutS gs t L fun L' => cutR gs r L' k
  | _ :: r, L, k => cutR gs r L k
theorem cutR_ok (cx : Ctx P tb) {gs} : ∀ {l : List ResultVar} {L : SLS tb} {k : SLS tb → Option ρ} {r}, cutR gs l L k = some r → ∃ L', k L' = some r ∧ Gho gs L L'
  | [], L, k, r, h => ⟨L, h, .refl L⟩
  | .tmp t :: l, L, k, r, h => by
    obtain ⟨L1, h1, g1⟩ := cutS_ok cx (show cutS gs t L _ = some r from h)
    obtain ⟨L2, h2, g2⟩ := cutR_ok cx h1
    exact ⟨L2, h2, g1.trans g2⟩
  | .cell _ _ :: l, L, k, r, h => cutR_ok cx (l := l) h
def noOpts : List (SV tb) → Bool
  | [] => true
  | x :: l => match notOpt x with | true => noOpts l | false => false
theorem noOpts_e : ∀ {l : List (SV tb)}, noOpts l = true → ∀ x ∈ l, notOpt x = true
  | [], _, x, h => by cases h
  | y :: l, h, x, hx => by
    unfold noOpts at h
    split at h
    · rcases List.mem_cons.1 hx with rfl | hx
      · assumption
      · exact noOpts_e h x hx
    · cases h
def tupSV : List (SV tb) → SV tb
  | [x] => x
  | l => .tup l
theorem tupSV_av : ∀ l : List (SV tb), (tupSV l).av = tupleOf (avL l)
  | [] => rfl
  | [x] => rfl
  | x :: y :: l => rfl
theorem tupSV_res {g : Gn tb} {l : List (SV tb)} (h : resL g l = l) : (tupSV l).res g = tupSV l := by
  match l, h with
  | [], h => rfl
  | [x], h => simp only [resL, List.cons.injEq, and_true] at h; exact h
  | x :: y :: l, h => show SV.tup (resL g (x :: y :: l)) = _; rw [h]; rfl
theorem tupSV_opt {l : List (SV tb)} (h : noOpts l = true) : notOpt (tupSV l) = true := by
  match l, h with
  | [], h => rfl
  | [x], h => exact noOpts_e h x (by simp)
  | x :: y :: l, h => rfl
/-- Arguments as slots. -/
def envS : Nat → List (SV tb) → SEnv tb
  | _, [] => []
  | k, x :: l => (k, x) :: envS (k + 1) l
theorem envS_av {g : Gn tb} : ∀ {l : List (SV tb)} {k}, resL g l = l → avE g (envS k l) = envFrom k (avL l)
  | [], _, _ => rfl
  | x :: l, k, h => by
    simp only [resL, List.cons.injEq] at h
    have ih := envS_av (g := g) (l := l) (k := k + 1) h.2
    show (k, (x.res g).av) :: avE g (envS (k + 1) l) = (k, x.av) :: envFrom (k + 1) (avL l)
    rw [ih, h.1]
theorem envS_mem {t : Nat} {x : SV tb} : ∀ {l : List (SV tb)} {k}, find t (envS k l) = some x → x ∈ l
  | [], _, h => by simp [envS, find] at h
  | y :: l, k, h => by
    simp only [envS] at h
    rw [find_cons] at h
    split at h
    · cases h; simp
    · exact List.mem_cons_of_mem _ (envS_mem h)
end
end Go.Rx
