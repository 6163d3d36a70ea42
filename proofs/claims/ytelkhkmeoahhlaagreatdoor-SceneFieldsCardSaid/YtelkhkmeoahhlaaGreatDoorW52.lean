/- Plain laws, joined from several texts. No conditions. -/
import Derived.Test.YtelkhkmeoahhlaaGreatDoorF52D
import Derived.Test.YtelkhkmeoahhlaaGreatDoorF52S
/-
  Plain laws of package scene: the chapter's example. No conditions.
-/
set_option linter.all false
set_option maxRecDepth 100000
open Go Go.Rx

namespace GoForm
theorem example52 : caromlaw52_example = some true := by kernel_rfl
end GoForm


/-
  Plain laws of package scene: numbers of a line. No conditions.
-/
set_option linter.all false
set_option maxRecDepth 100000
open Go Go.Rx

namespace GoForm
theorem LOOP_k3n {α A B X : Type} [Inhabited α] (l : List α) (P : Nat → A → B → Prop) (G : List α → Nat → A → B → Option X) (step : (A × B × Int → Option X) → A × B × Int → Option X) (hl : Sm l)
    (hs : ∀ (r : A × B × Int → Option X) (i : Nat) (t : List α) (a : A) (b : B), P i a b → IntKind.i64.wrap ((i : Int) + 1) = (i : Int) + 1 → (0 ≤ (i : Int) ∧ (i : Int) < (l.length : Int)) → ix l (i : Int) ∈ l → (∀ a b, P (i + 1) a b → r (a, b, (i : Int) + 1) = G t (i + 1) a b) → step r (a, b, (i : Int)) = G (ix l (i : Int) :: t) i a b)
    (he : ∀ (r : A × B × Int → Option X) (a : A) (b : B), P l.length a b → step r (a, b, (l.length : Int)) = G [] l.length a b) : ∀ (n i : Nat) (a : A) (b : B), P i a b → i ≤ l.length → l.length - i < n → LOOP step n (a, b, (i : Int)) = G (l.drop i) i a b
  | 0, i, a, b, _, _, h => by omega
  | n + 1, i, a, b, hp, h1, h2 => by
    rw [LOOP_s]
    by_cases h : i < l.length
    · rw [drop_ix l i h]
      exact hs _ i (l.drop (i + 1)) a b hp (w64_s i (by unfold Sm at hl; omega)) ⟨by omega, by omega⟩ (by rw [ix_lt l i h]; exact List.getElem_mem h) fun a b hp => by
        have := LOOP_k3n l P G step hl hs he n (i + 1) a b hp (by omega) (by omega)
        simpa using this
    · have : i = l.length := by omega
      subst this
      rw [he _ a b hp, List.drop_length]
theorem LOOP_k3 {α A B X : Type} [Inhabited α] (l : List α) (P : Nat → A → B → Prop) (G : List α → Nat → A → B → Option X) (step : (A × B × Int → Option X) → A × B × Int → Option X) (a0 : A) (b0 : B) (hl : Sm l) (h0 : P 0 a0 b0)
    (hs : ∀ (r : A × B × Int → Option X) (i : Nat) (t : List α) (a : A) (b : B), P i a b → IntKind.i64.wrap ((i : Int) + 1) = (i : Int) + 1 → (0 ≤ (i : Int) ∧ (i : Int) < (l.length : Int)) → ix l (i : Int) ∈ l → (∀ a b, P (i + 1) a b → r (a, b, (i : Int) + 1) = G t (i + 1) a b) → step r (a, b, (i : Int)) = G (ix l (i : Int) :: t) i a b)
    (he : ∀ (r : A × B × Int → Option X) (a : A) (b : B), P l.length a b → step r (a, b, (l.length : Int)) = G [] l.length a b) : LOOP step fuel (a0, b0, (0 : Int)) = G l 0 a0 b0 :=
  LOOP_k3n l P G step hl hs he fuel 0 a0 b0 h0 (Nat.zero_le _) (Nat.lt_trans (Nat.lt_of_le_of_lt (Nat.sub_le _ _) hl) (by unfold fuel; decide))

/-- Is it 0 or 1? -/
def b01 (s : List UInt8) : Bool := decide (s = [48]) || decide (s = [49])
def badB (f : List (List UInt8)) (bl : List Int) : Bool := bl.any fun b => !b01 (ix f (1 + b))
def syn (l : List (List UInt8)) : Bool := l.any fun s => decide ((pInt s).2 = 3)
def big (l : List (List UInt8)) : Bool := l.any fun s => decide ((pInt s).2 ≠ 0)
def vals (l : List (List UInt8)) : List Int := l.map fun s => (pInt s).1
/-- The numbers of a line. -/
def nums (f : List (List UInt8)) (bl : List Int) : List Int × Int := if syn f.tail = true ∨ badB f bl = true then ([], 3) else if big f.tail = true then ([], 6) else (vals f.tail, 0)

theorem pv_loop2 (f : List (List UInt8)) (bl : List Int) (hbl : Sm bl) (hb : ∀ x ∈ bl, 0 ≤ x ∧ x + 1 < (f.length : Int)) (hf : Sm f) (fin : Option (List Int × Int)) (step : (Int → Option (List Int × Int)) → Int → Option (List Int × Int))
    (hs : step = fun rec s => if decide (s < (bl.length : Int)) = true then
      Chk ((0 : Int) ≤ s ∧ s < (bl.length : Int)) (Chk ((0 : Int) ≤ IntKind.i64.wrap ((1 : Int) + ix bl s) ∧ IntKind.i64.wrap ((1 : Int) + ix bl s) < (f.length : Int))
        (Chk (((ix f (IntKind.i64.wrap ((1 : Int) + ix bl s)) != [48]) == true) = true → (0 : Int) ≤ IntKind.i64.wrap ((1 : Int) + ix bl s) ∧ IntKind.i64.wrap ((1 : Int) + ix bl s) < (f.length : Int))
          (if (bif ix f (IntKind.i64.wrap ((1 : Int) + ix bl s)) != [48] then ix f (IntKind.i64.wrap ((1 : Int) + ix bl s)) != [49] else false) = true then some ([], (3 : Int)) else rec (IntKind.i64.wrap (s + (1 : Int)))))) else fin) :
    LOOP step fuel 0 = if badB f bl = true then some ([], 3) else fin := by
  subst hs
  refine (LOOP_l0 bl (fun t i => if badB f t = true then some ([], 3) else fin) _ hbl ?_ ?_)
  · intro r i t hw hc hm hr
    obtain ⟨h1, h2⟩ := hb _ hm
    unfold Sm at hf
    have hx : IntKind.i64.wrap (1 + ix bl (i : Int)) = 1 + ix bl (i : Int) := wrap_in _ (by omega) (by omega)
    have hr2 : (0 : Int) ≤ 1 + ix bl (i : Int) ∧ 1 + ix bl (i : Int) < (f.length : Int) := ⟨by omega, by omega⟩
    simp only [Let_nr, dlt hc, if_true, Chk_of hc, hx, Chk_of hr2, Chk_of (fun _ => hr2), hw]
    rw [hr]
    have e : badB f (ix bl (i : Int) :: t) = (!b01 (ix f (1 + ix bl (i : Int))) || badB f t) := rfl
    rw [e]
    generalize ix f (1 + ix bl (i : Int)) = z
    by_cases c1 : z = [48]
    · subst c1; simp [b01]
    · by_cases c2 : z = [49]
      · subst c2; simp [b01]
      · have : b01 z = false := by simp [b01, c1, c2]
        simp [this, c1, c2]
  · intro r
    simp only [Let_nr, dll, ff, if_false]
    rfl
theorem tail_ix (f : List (List UInt8)) (h : f ≠ []) : f.drop 1 = f.tail := by cases f <;> simp
theorem parseValues_eq (f : List (List UInt8)) (kw : List UInt8) (v : Int → Option Bool) (bl : List Int) (b : Bool) (hf : f.length ≤ 1000000) (hs : ∀ s ∈ f, Sm s) (hv : f ≠ [] → v ((f.length : Int) - 1) = some b) (hbl : Sm bl)
    (hb : b = true → ∀ x ∈ bl, 0 ≤ x ∧ x + 1 < (f.length : Int)) : scene_parseValues f kw v bl = some (if f = [] ∨ ix f 0 ≠ kw ∨ b = false then ([], 3) else nums f bl) := by
  unfold scene_parseValues
  have hsm : Sm f := sm_of hf (by decide)
  by_cases h0 : f = []
  · subst h0
    rfl
  have hpos : 0 < f.length := List.length_pos_iff.2 h0
  have hlen : ((f.length : Int) == 0) = false := by simp; omega
  have hw1 : IntKind.i64.wrap ((f.length : Int) - 1) = (f.length : Int) - 1 := wrap_in _ (by omega) (by omega)
  have hr0 : (0 : Int) ≤ 0 ∧ (0 : Int) < (f.length : Int) := ⟨by omega, by omega⟩
  simp only [Let_nr, hlen, Chk_of (fun _ => hr0), hw1, cond_false]
  by_cases hk : ix f 0 = kw
  · rw [show (ix f 0 != kw) = false by simp [hk]]
    simp only [cond_false]
    rw [if_pos (show (false == false) = true from rfl), hv h0, Bind_snr]
    cases b with
    | false =>
      have e : (if f = [] ∨ ix f 0 ≠ kw ∨ false = false then (([], 3) : List Int × Int) else nums f bl) = ([], 3) := if_pos (Or.inr (Or.inr rfl))
      rw [e]; rfl
    | true =>
      have e : (if f = [] ∨ ix f 0 ≠ kw ∨ true = false then (([], 3) : List Int × Int) else nums f bl) = nums f bl := if_neg (by simp [h0, hk])
      rw [e, Bool.not_true, if_neg (by decide), Chk_of (by omega), Chk_of (by omega)]
      refine (LOOP_k3 (f.drop 1) (fun i a _ => a.length = i) (fun t i a b => some (if syn t = true ∨ badB f bl = true then ([], 3) else if (b || big t) = true then ([], 6) else (a ++ vals t, 0))) _ _ _ (sm_of (n := 1000000) (by simp; omega) (by decide)) rfl ?_ ?_).trans ?_
      · intro r i t a b hp hw hc hm hr
        have hP := ParseInt_eq _ (hs _ (List.mem_of_mem_drop hm))
        have hal : a.length ≤ 1000000 := by rw [hp]; have := hc.2; simp at this; omega
        simp only [dlt hc, if_true, Chk_of hc, hP, Bind_snr, hw]
        generalize ix (f.drop 1) (i : Int) = x
        have e1 : syn (x :: t) = (decide ((pInt x).2 = 3) || syn t) := rfl
        have e2 : big (x :: t) = (decide ((pInt x).2 ≠ 0) || big t) := rfl
        have e3 : vals (x :: t) = (pInt x).1 :: vals t := rfl
        by_cases h3 : (pInt x).2 = 3
        · rw [if_pos (by simp [h3]), if_pos (by rw [e1]; simp [h3])]
        · rw [if_neg (by simp [h3]), Chk_of (by simp; omega), hr _ _ (by simp [hp])]
          have e4 : syn (x :: t) = syn t := by rw [e1]; simp [h3]
          rw [e4, e2, e3]
          by_cases h5 : (pInt x).2 = 0
          · simp [h5]
          · simp [h5]
      · intro r a b hp
        simp only [dll, ff, if_false]
        rw [pv_loop2 f bl hbl (hb rfl) hsm _ _ rfl]
        cases hB : badB f bl <;> cases b <;> simp [syn, big, vals]
      · rw [tail_ix f h0]
        unfold nums
        simp
  · have e : (if f = [] ∨ ix f 0 ≠ kw ∨ b = false then (([], 3) : List Int × Int) else nums f bl) = ([], 3) := if_pos (Or.inr (Or.inl hk))
    rw [e, show (ix f 0 != kw) = true by simp [hk]]
    rfl
end GoForm


/-
  Plain laws of package scene: numbers of a line, the reference. No conditions.
-/
set_option linter.all false
set_option maxRecDepth 100000
open Go Go.Rx

namespace GoForm
theorem nb_loop2 (f : List (List UInt8)) (bl : List Int) (hbl : Sm bl) (hb : ∀ x ∈ bl, 0 ≤ x ∧ x + 1 < (f.length : Int)) (hf : Sm f) (fin : Option (List Int × Int)) (step : (Int → Option (List Int × Int)) → Int → Option (List Int × Int))
    (hs : step = fun rec s => if decide (s < (bl.length : Int)) = true then
      Chk ((0 : Int) ≤ s ∧ s < (bl.length : Int)) (Chk ((0 : Int) ≤ IntKind.i64.wrap ((1 : Int) + ix bl s) ∧ IntKind.i64.wrap ((1 : Int) + ix bl s) < (f.length : Int))
          (if (bif ix f (IntKind.i64.wrap ((1 : Int) + ix bl s)) != [48] then ix f (IntKind.i64.wrap ((1 : Int) + ix bl s)) != [49] else false) = true then some ([], (3 : Int)) else rec (IntKind.i64.wrap (s + (1 : Int))))) else fin) :
    LOOP step fuel 0 = if badB f bl = true then some ([], 3) else fin := by
  subst hs
  refine (LOOP_l0 bl (fun t i => if badB f t = true then some ([], 3) else fin) _ hbl ?_ ?_)
  · intro r i t hw hc hm hr
    obtain ⟨h1, h2⟩ := hb _ hm
    unfold Sm at hf
    have hx : IntKind.i64.wrap (1 + ix bl (i : Int)) = 1 + ix bl (i : Int) := wrap_in _ (by omega) (by omega)
    have hr2 : (0 : Int) ≤ 1 + ix bl (i : Int) ∧ 1 + ix bl (i : Int) < (f.length : Int) := ⟨by omega, by omega⟩
    simp only [dlt hc, if_true, Chk_of hc, hx, Chk_of hr2, hw]
    rw [hr]
    have e : badB f (ix bl (i : Int) :: t) = (!b01 (ix f (1 + ix bl (i : Int))) || badB f t) := rfl
    rw [e]
    generalize ix f (1 + ix bl (i : Int)) = z
    by_cases c1 : z = [48]
    · subst c1; simp [b01]
    · by_cases c2 : z = [49]
      · subst c2; simp [b01]
      · have : b01 z = false := by simp [b01, c1, c2]
        simp [this, c1, c2]
  · intro r
    simp only [dll, ff, if_false]
    rfl
theorem numbers_eq (f : List (List UInt8)) (kw : List UInt8) (n : Int) (more : Bool) (bl : List Int) (hf : f.length ≤ 1000000) (hs : ∀ s ∈ f, Sm s) (hn : 0 ≤ n ∧ n ≤ 1000) (hbl : Sm bl) (hb : ∀ x ∈ bl, 0 ≤ x ∧ x < n) :
    caromref52_numbers f kw n more bl = some (if (f.length : Int) < n + 1 ∨ ix f 0 ≠ kw ∨ (more = false ∧ (f.length : Int) ≠ n + 1) ∨ ((f.length : Int) - n - 1).tmod 2 ≠ 0 then ([], 3) else nums f bl) := by
  unfold caromref52_numbers
  have hsm : Sm f := sm_of hf (by decide)
  have w1 : IntKind.i64.wrap (n + 1) = n + 1 := wrap_in _ (by omega) (by omega)
  have w2 : IntKind.i64.wrap ((f.length : Int) - n) = (f.length : Int) - n := wrap_in _ (by omega) (by omega)
  have w3 : IntKind.i64.wrap ((f.length : Int) - n - 1) = (f.length : Int) - n - 1 := wrap_in _ (by omega) (by omega)
  simp only [Let_nr, w1, w2, w3]
  rw [Chk_of (by intro h; have h2 : ¬ ((f.length : Int) < n + 1) := by simpa using h
                 omega)]
  by_cases c1 : (f.length : Int) < n + 1
  · rw [if_pos (by simp [c1]), if_pos (Or.inl c1)]
  by_cases c2 : ix f 0 = kw
  · by_cases c3 : more = false ∧ (f.length : Int) ≠ n + 1
    · rw [if_pos (by simp [c1, c2, c3.1, c3.2]), if_pos (Or.inr (Or.inr (Or.inl c3)))]
    · by_cases c4 : ((f.length : Int) - n - 1).tmod 2 = 0
      · have e : (if (f.length : Int) < n + 1 ∨ ix f 0 ≠ kw ∨ (more = false ∧ (f.length : Int) ≠ n + 1) ∨ ((f.length : Int) - n - 1).tmod 2 ≠ 0 then (([], 3) : List Int × Int) else nums f bl) = nums f bl := if_neg (by simp only [c1, c2, c3, c4]; simp)
        have cond : ¬ ((bif bif bif decide ((f.length : Int) < n + 1) then true else ix f 0 != kw then true else bif !more then (f.length : Int) != n + 1 else false then true else ((f.length : Int) - n - 1).tmod 2 != 0) = true) := by
          simp only [c1, c2, c4]
          cases more with
          | true => simp
          | false =>
            have : (f.length : Int) = n + 1 := Classical.byContradiction fun h => c3 ⟨rfl, h⟩
            simp [this]
        rw [e, if_neg cond, nb_loop2 f bl hbl (fun x hx => by have := hb x hx; omega) hsm _ _ rfl]
        have h0 : f ≠ [] := by rintro rfl; simp at c1; omega
        cases hB : badB f bl with
        | true => unfold nums; simp [hB]
        | false =>
          rw [if_neg (by simp)]
          refine (LOOP_k3n f (fun i a b => a.length + 1 = i ∧ (b = 0 ∨ b = 6)) (fun t i a b => some (if syn t = true then ([], 3) else if b ≠ 0 ∨ big t = true then ([], 6) else (a ++ vals t, 0))) _ hsm ?_ ?_ fuel 1 [] 0 ⟨rfl, Or.inl rfl⟩ (List.length_pos_iff.2 h0) (Nat.lt_of_le_of_lt (Nat.sub_le _ _) (Nat.lt_trans hsm (by unfold fuel; decide)))).trans ?_
          · intro r i t a b hp hw hc hm hr
            have hP := refParseInt_eq _ (hs _ hm)
            have hal : a.length ≤ 1000000 := by have := hc.2; have := hp.1; omega
            simp only [dlt hc, if_true, Chk_of hc, hP, Bind_snr, hw, Join_nr]
            generalize ix f (i : Int) = x
            have e1 : syn (x :: t) = (decide ((pInt x).2 = 3) || syn t) := rfl
            have e2 : big (x :: t) = (decide ((pInt x).2 ≠ 0) || big t) := rfl
            have e3 : vals (x :: t) = (pInt x).1 :: vals t := rfl
            by_cases h3 : (pInt x).2 = 3
            · rw [if_pos (by simp [h3]), if_pos (by rw [e1]; simp [h3])]
            · rw [if_neg (by simp [h3])]
              have e4 : syn (x :: t) = syn t := by rw [e1]; simp [h3]
              rw [e4, e2, e3]
              have hlen : (a.length + [(pInt x).1].length) * 8 ≤ 140737488355328 := by simp; omega
              by_cases h5 : (pInt x).2 = 0
              · rw [if_neg (by simp [h5]), Chk_of hlen, hr _ _ ⟨by simp [← hp.1], hp.2⟩]
                simp [h5]
              · rw [if_pos (by simp [h5]), Chk_of hlen, hr _ _ ⟨by simp [← hp.1], Or.inr rfl⟩]
                simp [h5]
          · intro r a b hp
            simp only [dll, ff, if_false]
            rcases hp.2 with rfl | rfl <;> simp [syn, big, vals]
          · rw [tail_ix f h0]
            unfold nums
            simp [hB]
      · rw [if_pos (by simp [c1, c2, c4]), if_pos (Or.inr (Or.inr (Or.inr c4)))]
  · rw [if_pos (by simp [c1, c2]), if_pos (Or.inr (Or.inl c2))]
theorem nums_len (f : List (List UInt8)) (bl : List Int) (h : (nums f bl).2 = 0) : (nums f bl).1.length = f.length - 1 ∧ (nums f bl).1 = vals f.tail ∧ syn f.tail = false ∧ big f.tail = false ∧ badB f bl = false := by
  unfold nums at h ⊢
  split at h
  · simp at h
  · rename_i h1
    rw [not_or] at h1
    split at h
    · simp at h
    · rename_i h2
      rw [if_neg (by rw [not_or]; exact h1), if_neg h2]
      refine ⟨by simp [vals], rfl, by simpa using h1.1, by simpa using h2, by simpa using h1.2⟩
end GoForm


/-
  Plain laws of package scene: the parsers of bodies, fixtures, joints; SceneFields. No conditions.
-/
set_option linter.all false
set_option maxRecDepth 100000
open Go Go.Rx

namespace GoForm
theorem vecs_refl (v : List Vec) (h : Sm v) : caromref12_EqualVecs v v = some true := by
  unfold caromref12_EqualVecs
  simp only [Let_nr]
  rw [if_neg (by simp)]
  refine (LOOP_l0 v (fun t i => some true) _ h ?_ ?_)
  · intro r i t hw hc hm hr
    simp only [dlt hc, if_true, Chk_of hc, hw]
    rw [if_neg (by simp), hr]
  · intro r
    simp only [dll, ff, if_false]
theorem shape_refl (s : Shape) (h : Sm s.Vertices) : caromref12_Equal s s = some true := by
  unfold caromref12_Equal
  simp only [Let_nr, vecs_refl _ h]
  simp
theorem fix_refl (p : Fixture) (h : Sm p.Shape.Vertices) : caromref23_EqualFixture p p = some true := by
  unfold caromref23_EqualFixture
  simp only [Let_nr, shape_refl _ h]
  simp
theorem body_refl (b : Body) (hb : Sm b.Fixtures) (h : ∀ p ∈ b.Fixtures, Sm p.Shape.Vertices) : caromref23_Equal b b = some true := by
  unfold caromref23_Equal
  simp only [Let_nr]
  rw [if_neg (by simp)]
  refine (LOOP_l0 b.Fixtures (fun t i => some true) _ hb ?_ ?_)
  · intro r i t hw hc hm hr
    simp only [dlt hc, cond_true, if_true, Chk_of hc, hw, fix_refl _ (h _ hm), Bind_snr]
    rw [if_neg (by simp), hr]
  · intro r
    simp only [dll, cond_false, ff, if_false]
    simp
/-- What both readings of a line come to. -/
def line (f : List (List UInt8)) (kw : List UInt8) (ok : Bool) (bl : List Int) : List Int × Int := if f = [] ∨ ix f 0 ≠ kw ∨ ok = false then ([], 3) else nums f bl
theorem num_line (f : List (List UInt8)) (kw : List UInt8) (n : Int) (more : Bool) (bl : List Int) (b : Bool) (hf : f.length ≤ 1000000) (hs : ∀ s ∈ f, Sm s) (hn : 0 ≤ n ∧ n ≤ 1000) (hbl : Sm bl) (hb : ∀ x ∈ bl, 0 ≤ x ∧ x < n)
    (hok : f ≠ [] → ix f 0 = kw → (b = true ↔ ¬ ((f.length : Int) < n + 1 ∨ (more = false ∧ (f.length : Int) ≠ n + 1) ∨ ((f.length : Int) - n - 1).tmod 2 ≠ 0))) : caromref52_numbers f kw n more bl = some (line f kw b bl) := by
  rw [numbers_eq f kw n more bl hf hs hn hbl hb]
  unfold line
  congr 1
  by_cases h0 : f = []
  · subst h0
    rw [if_pos (Or.inl (by simp; omega)), if_pos (Or.inl rfl)]
  by_cases hk : ix f 0 = kw
  · have := hok h0 hk
    cases b with
    | true =>
      have h := this.1 rfl
      rw [if_neg, if_neg (by simp [h0, hk])]
      intro hc
      rcases hc with hc | hc | hc | hc
      · exact h (Or.inl hc)
      · exact hc hk
      · exact h (Or.inr (Or.inl hc))
      · exact h (Or.inr (Or.inr hc))
    | false =>
      have h : (f.length : Int) < n + 1 ∨ (more = false ∧ (f.length : Int) ≠ n + 1) ∨ ((f.length : Int) - n - 1).tmod 2 ≠ 0 := Classical.byContradiction fun h => by have := this.2 h; cases this
      rw [if_pos, if_pos (Or.inr (Or.inr rfl))]
      rcases h with h | h | h
      · exact Or.inl h
      · exact Or.inr (Or.inr (Or.inl h))
      · exact Or.inr (Or.inr (Or.inr h))
  · rw [if_pos (Or.inr (Or.inl hk)), if_pos (Or.inr (Or.inl hk))]
theorem line_ok {f kw b bl} (h : (line f kw b bl).2 = 0) : f ≠ [] ∧ ix f 0 = kw ∧ b = true ∧ (line f kw b bl).1 = vals f.tail ∧ syn f.tail = false ∧ big f.tail = false ∧ badB f bl = false ∧ (line f kw b bl).1.length + 1 = f.length := by
  unfold line at h ⊢
  split at h
  · simp at h
  · rename_i hc
    rw [if_neg hc]
    rw [not_or, not_or] at hc
    obtain ⟨h1, h2, h3, h4, h5⟩ := nums_len f bl h
    refine ⟨hc.1, by simpa using hc.2.1, by simpa using hc.2.2, h2, h3, h4, h5, ?_⟩
    have := List.length_pos_iff.2 hc.1
    omega
theorem exact_eq (k n : Int) : scene_exactly_1 k n = some (k == n) := by unfold scene_exactly_1; rw [Let_nr]
def bl1 : List Int := [14, 15, 16, 17]
def bl3 : List Int := [11, 14, 19]
def kBody : List UInt8 := #[(98 : UInt8), (111 : UInt8), (100 : UInt8), (121 : UInt8)].toList
def kFix : List UInt8 := #[(102 : UInt8), (105 : UInt8), (120 : UInt8), (116 : UInt8), (117 : UInt8), (114 : UInt8), (101 : UInt8)].toList
def kJoint : List UInt8 := #[(106 : UInt8), (111 : UInt8), (105 : UInt8), (110 : UInt8), (116 : UInt8)].toList
/-- A line of exactly n numbers. -/
theorem exact_line (f : List (List UInt8)) (kw : List UInt8) (n : Int) (bl : List Int) (hf : f.length ≤ 1000000) (hs : ∀ s ∈ f, Sm s) (hn : 0 ≤ n ∧ n ≤ 1000) (hbl : Sm bl) (hb : ∀ x ∈ bl, 0 ≤ x ∧ x < n) :
    scene_parseValues f kw (fun a => scene_exactly_1 a n) bl = some (line f kw ((f.length : Int) - 1 == n) bl) ∧ caromref52_numbers f kw n false bl = some (line f kw ((f.length : Int) - 1 == n) bl) := by
  refine ⟨?_, num_line f kw n false bl _ hf hs hn hbl hb ?_⟩
  · rw [parseValues_eq f kw _ bl ((f.length : Int) - 1 == n) hf hs (fun _ => exact_eq _ _) hbl ?_]
    · rfl
    · intro h x hx
      have h1 := hb x hx
      have h2 : (f.length : Int) - 1 = n := by simpa using h
      omega
  · intro h0 hk
    constructor
    · intro h
      have h2 : (f.length : Int) - 1 = n := by simpa using h
      have e : (f.length : Int) - n - 1 = 0 := by omega
      rw [e]
      simp
      omega
    · intro h
      rw [not_or, not_or] at h
      have h2 : (f.length : Int) = n + 1 := Classical.byContradiction fun hc => h.2.1 ⟨rfl, hc⟩
      simp; omega
theorem Bind_Chk {α β : Type} {c : Prop} [Decidable c] {m : Option α} {k : α → Option β} : Rx.Bind (Chk c m) k = Chk c (Rx.Bind m k) := by unfold Chk; split <;> rfl
theorem lens {α : Type} [Inhabited α] {l : List α} {n i : Int} (h : (l.length : Int) = n) (h0 : 0 ≤ i) (h1 : i < n) : (0 ≤ i ∧ i < (l.length : Int)) := ⟨h0, by omega⟩
def zBody : Body := { ID := (0 : Int), Kind := (0 : Int), Transform := { Position := { X := (0 : Int), Y := (0 : Int) : Vec }, Angle := (0 : Int) : Transform }, Velocity := { X := (0 : Int), Y := (0 : Int) : Vec }, AngularVelocity := (0 : Int), Force := { X := (0 : Int), Y := (0 : Int) : Vec }, Torque := (0 : Int), LinearDamping := (0 : Int), AngularDamping := (0 : Int), GravityScale := (0 : Int), Bullet := false, FixedRotation := false, NoSleep := false, Asleep := false, IdleSteps := (0 : Int), Fixtures := [] : Body }
/-- The body of a line. -/
def bodyOf (l : List Int) : Body := { ID := ix l 0, Kind := ix l 1, Transform := { Position := { X := ix l 2, Y := ix l 3 }, Angle := ix l 4 }, Velocity := { X := ix l 5, Y := ix l 6 }, AngularVelocity := ix l 7, Force := { X := ix l 8, Y := ix l 9 }, Torque := ix l 10, LinearDamping := ix l 11, AngularDamping := ix l 12, GravityScale := ix l 13, Bullet := ix l 14 == 1, FixedRotation := ix l 15 == 1, NoSleep := ix l 16 == 1, Asleep := ix l 17 == 1, IdleSteps := ix l 18, Fixtures := [] }
def pBody (f : List (List UInt8)) : Body × Int := if (line f kBody ((f.length : Int) - 1 == 19) bl1).2 ≠ 0 then (zBody, (line f kBody ((f.length : Int) - 1 == 19) bl1).2) else (bodyOf (vals f.tail), 0)
theorem body_lines (f : List (List UInt8)) (hf : f.length ≤ 1000000) (hs : ∀ s ∈ f, Sm s) : scene_ParseBody f = some (pBody f) ∧ caromref52_ParseBody f = some (pBody f) := by
  obtain ⟨h1, h2⟩ := exact_line f kBody 19 bl1 hf hs (by decide) (by show _ < _; decide) (by decide)
  unfold pBody scene_ParseBody caromref52_ParseBody
  constructor
  · refine Eq.trans (Bind_of h1) ?_
    by_cases hc : (line f kBody ((f.length : Int) - 1 == 19) bl1).2 = 0
    · obtain ⟨-, -, g3, g4, -, -, -, g5⟩ := line_ok hc
      have g6 : (f.length : Int) - 1 = 19 := by simpa using g3
      have g7 : (((line f kBody ((f.length : Int) - 1 == 19) bl1).1.length : Nat) : Int) = 19 := by omega
      rw [if_neg (by simp [hc])]
      simp only [Let_nr]
      rw [if_neg (by simp [hc])]
      rw [g4] at g7 ⊢
      generalize vals f.tail = l at g7
      have hL : l.length = 19 := by omega
      simp only [hL]
      rfl
    · rw [if_pos hc]
      simp only [Let_nr]
      rw [if_pos (by simp [hc])]
      rfl
  · refine Eq.trans (Bind_of h2) ?_
    by_cases hc : (line f kBody ((f.length : Int) - 1 == 19) bl1).2 = 0
    · obtain ⟨-, -, g3, g4, -, -, -, g5⟩ := line_ok hc
      have g6 : (f.length : Int) - 1 = 19 := by simpa using g3
      have g7 : (((line f kBody ((f.length : Int) - 1 == 19) bl1).1.length : Nat) : Int) = 19 := by omega
      rw [if_neg (by simp [hc])]
      simp only [Let_nr]
      rw [if_neg (by simp [hc])]
      rw [g4] at g7 ⊢
      generalize vals f.tail = l at g7
      have hL : l.length = 19 := by omega
      unfold caromref52_vec
      simp only [hL]
      rfl
    · rw [if_pos hc]
      simp only [Let_nr]
      rw [if_pos (by simp [hc])]
      rfl
end GoForm


/-
  Plain laws of package scene: the parsers of fixtures and joints; SceneFields. No conditions.
-/
set_option linter.all false
set_option maxRecDepth 100000
open Go Go.Rx

namespace GoForm
theorem len24 {α : Type} {l : List α} (h : l.length = 24) : ∃ a0 a1 a2 a3 a4 a5 a6 a7 a8 a9 a10 a11 a12 a13 a14 a15 a16 a17 a18 a19 a20 a21 a22 a23 : α, l = [a0, a1, a2, a3, a4, a5, a6, a7, a8, a9, a10, a11, a12, a13, a14, a15, a16, a17, a18, a19, a20, a21, a22, a23] := by
  match l, h with
  | [a0, a1, a2, a3, a4, a5, a6, a7, a8, a9, a10, a11, a12, a13, a14, a15, a16, a17, a18, a19, a20, a21, a22, a23], _ => exact ⟨a0, a1, a2, a3, a4, a5, a6, a7, a8, a9, a10, a11, a12, a13, a14, a15, a16, a17, a18, a19, a20, a21, a22, a23, rfl⟩
def zJoint : Joint := { ID := (0 : Int), Kind := (0 : Int), BodyA := (0 : Int), BodyB := (0 : Int), AnchorA := { X := (0 : Int), Y := (0 : Int) : Vec }, AnchorB := { X := (0 : Int), Y := (0 : Int) : Vec }, Axis := { X := (0 : Int), Y := (0 : Int) : Vec }, ReferenceAngle := (0 : Int), EnableLimit := false, Lower := (0 : Int), Upper := (0 : Int), EnableMotor := false, MotorSpeed := (0 : Int), MaxForce := (0 : Int), Softness := (0 : Int), BreakForce := (0 : Int), CollideConnected := false, Impulses := ((0 : Int), (0 : Int), (0 : Int), (0 : Int)) : Joint }
/-- The joint of a line. -/
def jointOf (l : List Int) : Joint := { ID := ix l 0, Kind := ix l 1, BodyA := ix l 2, BodyB := ix l 3, AnchorA := ⟨ix l 4, ix l 5⟩, AnchorB := ⟨ix l 6, ix l 7⟩, Axis := ⟨ix l 8, ix l 9⟩, ReferenceAngle := ix l 10, EnableLimit := ix l 11 == 1, Lower := ix l 12, Upper := ix l 13, EnableMotor := ix l 14 == 1, MotorSpeed := ix l 15, MaxForce := ix l 16, Softness := ix l 17, BreakForce := ix l 18, CollideConnected := ix l 19 == 1, Impulses := (ix l 20, ix l 21, ix l 22, ix l 23) }
def pJoint (f : List (List UInt8)) : Joint × Int := if (line f kJoint ((f.length : Int) - 1 == 24) bl3).2 ≠ 0 then (zJoint, (line f kJoint ((f.length : Int) - 1 == 24) bl3).2) else (jointOf (vals f.tail), 0)
theorem joint_lines (f : List (List UInt8)) (hf : f.length ≤ 1000000) (hs : ∀ s ∈ f, Sm s) : scene_ParseJoint f = some (pJoint f) ∧ caromref52_ParseJoint f = some (pJoint f) := by
  obtain ⟨h1, h2⟩ := exact_line f kJoint 24 bl3 hf hs (by decide) (by show _ < _; decide) (by decide)
  unfold pJoint scene_ParseJoint caromref52_ParseJoint
  constructor
  · refine Eq.trans (Bind_of h1) ?_
    by_cases hc : (line f kJoint ((f.length : Int) - 1 == 24) bl3).2 = 0
    · obtain ⟨-, -, g3, g4, -, -, -, g5⟩ := line_ok hc
      have g6 : (f.length : Int) - 1 = 24 := by simpa using g3
      have g7 : (line f kJoint ((f.length : Int) - 1 == 24) bl3).1.length = 24 := by omega
      rw [if_neg (by simp [hc])]
      simp only [Let_nr]
      rw [if_neg (by simp [hc])]
      rw [g4] at g7 ⊢
      generalize vals f.tail = l at g7
      obtain ⟨a0, a1, a2, a3, a4, a5, a6, a7, a8, a9, a10, a11, a12, a13, a14, a15, a16, a17, a18, a19, a20, a21, a22, a23, rfl⟩ := len24 g7
      rfl
    · rw [if_pos hc]
      simp only [Let_nr]
      rw [if_pos (by simp [hc])]
      rfl
  · refine Eq.trans (Bind_of h2) ?_
    by_cases hc : (line f kJoint ((f.length : Int) - 1 == 24) bl3).2 = 0
    · obtain ⟨-, -, g3, g4, -, -, -, g5⟩ := line_ok hc
      have g6 : (f.length : Int) - 1 = 24 := by simpa using g3
      have g7 : (line f kJoint ((f.length : Int) - 1 == 24) bl3).1.length = 24 := by omega
      rw [if_neg (by simp [hc])]
      simp only [Let_nr]
      rw [if_neg (by simp [hc])]
      rw [g4] at g7 ⊢
      generalize vals f.tail = l at g7
      unfold caromref52_vec
      simp only [g7]
      rfl
    · rw [if_pos hc]
      simp only [Let_nr]
      rw [if_pos (by simp [hc])]
      rfl
/-- The vertices of a line. -/
def pairs : List Int → List Vec
  | a :: b :: t => ⟨a, b⟩ :: pairs t
  | _ => []
theorem pairs_len : ∀ l : List Int, (pairs l).length ≤ l.length
  | [] => by simp [pairs]
  | [a] => by simp [pairs]
  | a :: b :: t => by have := pairs_len t; simp [pairs]; omega
def addV (x : Fixture) (v : List Vec) : Fixture := { x with Shape := { x.Shape with Vertices := x.Shape.Vertices ++ v } }
theorem addV_addV (x : Fixture) (v w : List Vec) : addV (addV x v) w = addV x (v ++ w) := by unfold addV; simp
def fStep (l : List Int) (rec : Int × Fixture → Option (Fixture × Int)) (s : Int × Fixture) : Option (Fixture × Int) :=
  if decide (s.1 < (l.length : Int)) = true then
  Chk ((0 : Int) ≤ s.1 ∧ s.1 < (l.length : Int)) (Chk ((0 : Int) ≤ IntKind.i64.wrap (s.1 + 1) ∧ IntKind.i64.wrap (s.1 + 1) < (l.length : Int))
    (Chk ((s.2.Shape.Vertices.length + [(⟨ix l s.1, ix l (IntKind.i64.wrap (s.1 + 1))⟩ : Vec)].length) * (16 : Nat) ≤ (140737488355328 : Nat))
      (rec (IntKind.i64.wrap (s.1 + 2), addV s.2 [⟨ix l s.1, ix l (IntKind.i64.wrap (s.1 + 1))⟩]))))
  else some (s.2, 0)
theorem fStep_eq (l : List Int) (rec : Int × Fixture → Option (Fixture × Int)) (i : Int) (x : Fixture) : fStep l rec (i, x) = if decide (i < (l.length : Int)) = true then
  Chk ((0 : Int) ≤ i ∧ i < (l.length : Int)) (Chk ((0 : Int) ≤ IntKind.i64.wrap (i + 1) ∧ IntKind.i64.wrap (i + 1) < (l.length : Int))
    (Chk ((x.Shape.Vertices.length + [(⟨ix l i, ix l (IntKind.i64.wrap (i + 1))⟩ : Vec)].length) * (16 : Nat) ≤ (140737488355328 : Nat))
      (rec (IntKind.i64.wrap (i + 2), addV x [⟨ix l i, ix l (IntKind.i64.wrap (i + 1))⟩]))))
  else some (x, 0) := rfl
theorem fLoop (l : List Int) (hl : l.length ≤ 1000000) : ∀ (n i : Nat) (x : Fixture), i ≤ l.length → (l.length - i) % 2 = 0 → l.length - i < n → x.Shape.Vertices.length ≤ i → LOOP (fStep l) n ((i : Int), x) = some (addV x (pairs (l.drop i)), 0)
  | 0, i, x, _, _, h, _ => by omega
  | n + 1, i, x, h1, h2, h3, h4 => by
    rw [LOOP_s, fStep_eq]
    by_cases h : i < l.length
    · have h5 : i + 1 < l.length := by omega
      have e1 : IntKind.i64.wrap ((i : Int) + 1) = ((i + 1 : Nat) : Int) := by rw [wrap_in _ (by omega) (by omega)]; omega
      have e2 : IntKind.i64.wrap ((i : Int) + 2) = ((i + 2 : Nat) : Int) := by rw [wrap_in _ (by omega) (by omega)]; omega
      rw [if_pos (by simpa using h), Chk_of ⟨by omega, by omega⟩, e1, Chk_of ⟨by omega, by omega⟩, Chk_of (by simp; omega), e2]
      rw [fLoop l hl n (i + 2) _ (by omega) (by omega) (by omega) (by unfold addV; simp; omega), addV_addV, drop_ix l i h, drop_ix l (i + 1) h5]
      rfl
    · rw [if_neg (by simpa using h)]
      have : i = l.length := by omega
      subst this
      simp [pairs, addV]
def zFix : Fixture := { Shape := { Kind := (0 : Int), Radius := (0 : Int), Vertices := [] : Shape }, Density := (0 : Int), Friction := (0 : Int), Restitution := (0 : Int), Sensor := false, Category := (0 : Int), Mask := (0 : Int), Group := (0 : Int) : Fixture }
/-- The fixture of a line. -/
def fixOf (l : List Int) : Fixture := { Shape := { Kind := ix l 7, Radius := ix l 8, Vertices := pairs (l.drop 9) }, Density := ix l 0, Friction := ix l 1, Restitution := ix l 2, Sensor := ix l 3 == 1, Category := ix l 4, Mask := ix l 5, Group := ix l 6 }
def okFix (f : List (List UInt8)) : Bool := decide ((f.length : Int) - 1 ≥ 9) && (((f.length : Int) - 1).tmod 2 == 1)
def pFix1 (f : List (List UInt8)) : Fixture × Int := if (line f kFix (okFix f) [3]).2 ≠ 0 then (zFix, (line f kFix (okFix f) [3]).2) else (fixOf (vals f.tail), 0)
theorem fix_line (f : List (List UInt8)) (hf : f.length ≤ 1000000) (hs : ∀ s ∈ f, Sm s) :
    scene_parseValues f kFix (fun a => scene_ParseFixture_1 a) [3] = some (line f kFix (okFix f) [3]) ∧ caromref52_numbers f kFix 9 true [3] = some (line f kFix (okFix f) [3]) := by
  refine ⟨?_, num_line f kFix 9 true [3] _ hf hs (by decide) (by show _ < _; decide) (by decide) ?_⟩
  · rw [parseValues_eq f kFix _ [3] (okFix f) hf hs (fun _ => ?_) (by show _ < _; decide) ?_]
    · rfl
    · intro h x hx
      unfold okFix at h
      simp only [Bool.and_eq_true, decide_eq_true_eq] at h
      rw [List.mem_singleton] at hx
      omega
    · unfold scene_ParseFixture_1 okFix
      simp only [Let_nr]
      cases decide ((f.length : Int) - 1 ≥ 9) <;> rfl
  · intro h0 hk
    unfold okFix
    rw [Bool.and_eq_true, decide_eq_true_eq, beq_iff_eq]
    constructor
    · rintro ⟨h1, h2⟩
      rw [Int.tmod_eq_emod_of_nonneg (by omega)] at h2
      rw [not_or, not_or]
      refine ⟨by omega, by simp, ?_⟩
      rw [Int.tmod_eq_emod_of_nonneg (by omega)]
      omega
    · intro h
      rw [not_or, not_or] at h
      obtain ⟨h1, -, h3⟩ := h
      have h3 := Decidable.not_not.1 h3
      rw [Int.tmod_eq_emod_of_nonneg (by omega)] at h3
      refine ⟨by omega, ?_⟩
      rw [Int.tmod_eq_emod_of_nonneg (by omega)]
      omega
theorem fix_fin (l : List Int) (hl : l.length ≤ 1000000) (h9 : 9 ≤ l.length) (hp : (l.length - 9) % 2 = 0) (x : Fixture) (hx : x.Shape.Vertices = []) : LOOP (fStep l) fuel ((9 : Int), x) = some (addV x (pairs (l.drop 9)), 0) :=
  fLoop l hl fuel 9 x h9 hp (Nat.lt_of_le_of_lt (Nat.sub_le _ _) (Nat.lt_of_le_of_lt hl (by unfold fuel; decide))) (by rw [hx]; simp)
theorem fix_lines (f : List (List UInt8)) (hf : f.length ≤ 1000000) (hs : ∀ s ∈ f, Sm s) : scene_ParseFixture f = some (pFix1 f) ∧ caromref52_ParseFixture f = some (pFix1 f) := by
  obtain ⟨h1, h2⟩ := fix_line f hf hs
  unfold pFix1 scene_ParseFixture caromref52_ParseFixture
  have fin : (line f kFix (okFix f) [3]).2 = 0 → (line f kFix (okFix f) [3]).1 = vals f.tail ∧ 9 ≤ (vals f.tail).length ∧ ((vals f.tail).length - 9) % 2 = 0 ∧ (vals f.tail).length ≤ 1000000 := by
    intro hc
    obtain ⟨-, -, g3, g4, -, -, -, g5⟩ := line_ok hc
    unfold okFix at g3
    rw [Bool.and_eq_true, decide_eq_true_eq, beq_iff_eq] at g3
    obtain ⟨q1, q2⟩ := g3
    rw [Int.tmod_eq_emod_of_nonneg (by omega)] at q2
    rw [g4] at g5
    exact ⟨g4, by omega, by omega, by omega⟩
  constructor
  · refine Eq.trans (Bind_of h1) ?_
    by_cases hc : (line f kFix (okFix f) [3]).2 = 0
    · obtain ⟨q1, q2, q3, q4⟩ := fin hc
      rw [if_neg (by simp [hc])]
      simp only [Let_nr]
      rw [if_neg (by simp [hc]), q1]
      generalize vals f.tail = l at q2 q3 q4
      iterate 9 rw [Chk_of (by omega)]
      exact fix_fin l q4 q2 q3 _ rfl
    · rw [if_pos hc]
      simp only [Let_nr]
      rw [if_pos (by simp [hc])]
      rfl
  · refine Eq.trans (Bind_of h2) ?_
    by_cases hc : (line f kFix (okFix f) [3]).2 = 0
    · obtain ⟨q1, q2, q3, q4⟩ := fin hc
      rw [if_neg (by simp [hc])]
      simp only [Let_nr]
      rw [if_neg (by simp [hc]), q1]
      generalize vals f.tail = l at q2 q3 q4
      iterate 9 rw [Chk_of (by omega)]
      unfold caromref52_vec
      simp only [Bind_Chk, Let_nr, Bind_snr]
      exact fix_fin l q4 q2 q3 _ rfl
    · rw [if_pos hc]
      simp only [Let_nr]
      rw [if_pos (by simp [hc])]
      rfl
end GoForm


/-
  SceneFields. No conditions.
-/
set_option linter.all false
set_option maxRecDepth 100000
open Go Go.Rx

namespace GoForm
theorem pFix1_len (f : List (List UInt8)) : (pFix1 f).1.Shape.Vertices.length ≤ f.length := by
  unfold pFix1
  split
  · simp [zFix]
  · have := pairs_len ((vals f.tail).drop 9)
    simp [fixOf, vals] at this ⊢
    omega
theorem pBody_fix (f : List (List UInt8)) : (pBody f).1.Fixtures = [] := by
  unfold pBody
  split <;> rfl
theorem Fields_true (f : List (List UInt8)) : caromlaw52_SceneFields f = some true := by
  unfold caromlaw52_SceneFields
  have hex : (Rx.Bind caromlaw52_example fun (r : Bool) => some r) = some true := by rw [example52]; rfl
  simp only [Let_nr]
  by_cases h60 : (f.length : Int) > 60
  · rw [if_pos (by simpa using h60), hex]
  rw [if_neg (by simpa using h60)]
  have hf : f.length ≤ 1000000 := by omega
  have hsm : Sm f := sm_of hf (by decide)
  by_cases hall : f.all (fun s => decide (s.length ≤ 100)) = true
  · have hs100 : ∀ s ∈ f, s.length ≤ 100 := fun s h => by simpa using List.all_eq_true.1 hall s h
    have hs : ∀ s ∈ f, Sm s := fun s h => sm_of (hs100 s h) (by decide)
    refine (LOOP_l0 f (fun _ _ => some true) _ hsm ?_ ?_)
    · intro r i t hw hc hm hr
      have := hs100 _ hm
      simp only [dlt hc, if_true, Chk_of hc, hw]
      rw [if_neg (by simp; omega), hr]
    · intro r
      obtain ⟨b1, b2⟩ := body_lines f hf hs
      obtain ⟨x1, x2⟩ := fix_lines f hf hs
      obtain ⟨j1, j2⟩ := joint_lines f hf hs
      simp only [dll, ff, if_false, b1, b2, x1, x2, j1, j2, Bind_snr]
      rw [body_refl _ (by rw [pBody_fix]; exact sm_of (n := 0) (by simp) (by decide)) (by rw [pBody_fix]; simp)]
      simp only [Bind_snr]
      rw [if_neg (by simp)]
      rw [body_refl _ (by exact sm_of (n := 1) (by simp) (by decide)) (by
        intro p hp
        simp at hp
        subst hp
        exact sm_of (Nat.le_trans (pFix1_len f) hf) (by decide))]
      simp only [Bind_snr]
      rw [if_neg (by simp)]
      simp [example52]
  · refine LOOP_bad f (fun s => decide (s.length ≤ 100)) (some true) _ hsm hall ?_
    intro r i hw hc hm
    simp only [dlt hc, if_true, Chk_of hc, hw]
    by_cases h : (ix f (i : Int)).length ≤ 100
    · rw [if_neg (by simp; omega), if_pos (by simpa using h)]
    · rw [if_pos (by simp; omega), if_neg (by simpa using h), hex]
end GoForm


open Go

namespace GoForm
theorem caromlaw52_SceneFields_true (a0 : List (List UInt8)) {P : Prop} (_ : P) : caromlaw52_SceneFields a0 = some true := Fields_true a0
end GoForm

