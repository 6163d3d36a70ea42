/- Plain laws, joined from several texts. No conditions. -/
import Derived.Test.YtkkbdleogkengaaDoorF44D
import Derived.Test.YtkkbdleogkengaaDoorQF
import Derived.Lib.DecodeN
/-
  Plain laws of numbers and fields as text. No conditions.
-/
set_option linter.all false
set_option maxRecDepth 100000
open Go Go.Rx

namespace GoForm
def LIM : Nat := 4611686018427387905
def dec (neg : Bool) (n : Nat) : format_decimal := ⟨neg, (min n LIM : Nat), (n % 65536 : Nat)⟩
def body : List UInt8 → List UInt8
  | [] => []
  | x :: l => if x = 45 then l else x :: l
theorem w1 (i : Nat) (h : i < 2 ^ 62) : IntKind.i64.wrap ((i : Int) + 1) = ((i + 1 : Nat) : Int) := by rw [w64_s i h]; omega
/-- The pieces of a text between the bytes c. -/
def spl (c : UInt8) : List UInt8 → List (List UInt8)
  | [] => [[]]
  | x :: l => if x = c then [] :: spl c l else match spl c l with
    | [] => [[x]]
    | p :: ps => (x :: p) :: ps
/-- The pieces from start on; behind the end: none. -/
def rest (c : UInt8) (l : List UInt8) (a : Nat) : List (List UInt8) := if a ≤ l.length then spl c (l.drop a) else []
def flat (c : UInt8) (L : List (List UInt8)) : List UInt8 := L.flatMap fun p => p ++ [c]
end GoForm


set_option linter.all false
set_option maxRecDepth 100000
open Go Go.Rx

namespace GoForm
def words : List (List UInt8) :=
  [#[].toList, #[99, 111, 110, 116, 97, 99, 116, 45, 98, 101, 103, 105, 110].toList, #[99, 111, 110, 116, 97, 99, 116, 45, 101, 110, 100].toList,
   #[115, 101, 110, 115, 111, 114, 45, 101, 110, 116, 101, 114].toList, #[115, 101, 110, 115, 111, 114, 45, 101, 120, 105, 116].toList,
   #[106, 111, 105, 110, 116, 45, 98, 114, 101, 97, 107].toList, #[98, 111, 100, 121, 45, 115, 108, 101, 101, 112].toList,
   #[98, 111, 100, 121, 45, 119, 97, 107, 101].toList, #[98, 117, 108, 108, 101, 116, 45, 115, 116, 111, 112].toList]
end GoForm


set_option linter.all false
set_option maxRecDepth 100000
open Go Go.Rx

namespace GoForm
theorem wr2 : IntKind.i64.wrap ((1 : Int) + 1) = 2 := by decide
end GoForm


set_option linter.all false
set_option maxRecDepth 100000
open Go Go.Rx

namespace GoForm
end GoForm


set_option linter.all false
set_option maxRecDepth 100000
open Go Go.Rx

namespace GoForm
def lexL : List Int → List Int → Bool
  | x :: xs, y :: ys => if x = y then lexL xs ys else decide (x < y)
  | _, _ => false
theorem lexL_asymm : ∀ x y : List Int, lexL x y = true → lexL y x = false
  | [], [], h => rfl
  | [], _ :: _, h => rfl
  | _ :: _, [], h => rfl
  | x :: xs, y :: ys, h => by
    unfold lexL at h ⊢
    by_cases e : x = y
    · rw [if_pos e] at h; rw [if_pos e.symm]; exact lexL_asymm xs ys h
    · rw [if_neg e, decide_eq_true_iff] at h; rw [if_neg (fun q => e q.symm), decide_eq_false_iff_not]; omega
theorem lexL_trans : ∀ x y z : List Int, lexL x y = true → lexL y z = true → lexL x z = true
  | [], _, _, h, _ => by simp [lexL] at h
  | _ :: _, [], _, h, _ => by simp [lexL] at h
  | _ :: _, _ :: _, [], _, h => by simp [lexL] at h
  | x :: xs, y :: ys, z :: zs, h1, h2 => by
    unfold lexL at h1 h2 ⊢
    by_cases e1 : x = y
    · rw [if_pos e1] at h1
      by_cases e2 : y = z
      · rw [if_pos e2] at h2; rw [if_pos (e1.trans e2)]; exact lexL_trans xs ys zs h1 h2
      · rw [if_neg e2] at h2; rw [e1, if_neg e2]; exact h2
    · rw [if_neg e1, decide_eq_true_iff] at h1
      by_cases e2 : y = z
      · rw [if_neg (by omega), decide_eq_true_iff]; omega
      · rw [if_neg e2, decide_eq_true_iff] at h2
        rw [if_neg (by omega), decide_eq_true_iff]; omega
theorem lexL_eq : ∀ x y : List Int, x.length = y.length → (decide (x = y) = !(lexL x y || lexL y x))
  | [], [], _ => rfl
  | [], _ :: _, h => by simp at h
  | _ :: _, [], h => by simp at h
  | x :: xs, y :: ys, h => by
    unfold lexL
    by_cases e : x = y
    · subst e
      rw [if_pos rfl, if_pos rfl, ← lexL_eq xs ys (by simpa using h)]; simp
    · rw [if_neg e, if_neg (fun q => e q.symm)]
      have : ¬ (x :: xs = y :: ys) := by intro q; exact e (List.cons.inj q).1
      rw [decide_eq_false this]
      by_cases h1 : x < y
      · simp [h1]
      · have : y < x := by omega
        simp [this]
def flds (e : Event) : List Int := [e.Kind, e.Key.BodyA, e.Key.FixtureA, e.Key.BodyB, e.Key.FixtureB]
theorem flds_inj (a b : Event) : flds a = flds b ↔ a = b := by
  obtain ⟨k, a1, a2, a3, a4⟩ := a
  obtain ⟨k', b1, b2, b3, b4⟩ := b
  simp [flds]
def cmpI (x y : Int) : Int := if x < y then -1 else if y < x then 1 else 0
theorem Compare_eq (x y : Int) : cmp_Compare x y = some (cmpI x y) := by
  unfold cmp_Compare cmp_isNaN cmpI
  simp only [Let_nr, Bind_snr]
  rw [if_neg (by simp), if_neg (by simp)]
  by_cases h : x < y
  · rw [if_pos (by simpa using h), if_pos h]
  · rw [if_neg (by simpa using h), if_neg h]
    by_cases h2 : y < x
    · rw [if_pos (by simpa using h2), if_pos h2]
    · rw [if_neg (by simpa using h2), if_neg h2]
theorem Compare59_eq (x y : Int) : cmp_Compare_59 x y = some (cmpI x y) := by
  unfold cmp_Compare_59 cmp_isNaN_68 cmpI
  simp only [Let_nr, Bind_snr]
  rw [if_neg (by simp), if_neg (by simp)]
  by_cases h : x < y
  · rw [if_pos (by simpa using h), if_pos h]
  · rw [if_neg (by simpa using h), if_neg h]
    by_cases h2 : y < x
    · rw [if_pos (by simpa using h2), if_pos h2]
    · rw [if_neg (by simpa using h2), if_neg h2]
def orL : List Int → Int
  | [] => 0
  | x :: l => if x = 0 then orL l else x
theorem Or_eq (l : List Int) (hl : Sm l) : cmp_Or l = some (orL l) := by
  unfold cmp_Or
  simp only [Let_nr]
  refine LOOP_l0 l (fun t _ => some (orL t)) _ hl ?_ ?_
  · intro r i t hw hc hm hr
    rw [if_pos (decide_eq_true hc.2), Chk_of hc, hw, hr]
    show _ = some (if ix l (i : Int) = 0 then orL t else ix l (i : Int))
    by_cases h : ix l (i : Int) = 0
    · rw [if_neg (by rw [h]; decide), if_pos h]
    · rw [if_pos (by rw [bne_iff_ne]; exact h), if_neg h]
  · intro r
    rw [if_neg (by simp)]; rfl
theorem orL_lex : ∀ x y : List Int, x.length = y.length → decide (orL (List.zipWith cmpI x y) < 0) = lexL x y
  | [], [], _ => rfl
  | [], _ :: _, h => by simp at h
  | _ :: _, [], h => by simp at h
  | x :: xs, y :: ys, h => by
    rw [List.zipWith_cons_cons]
    unfold orL lexL
    rw [← orL_lex xs ys (by simpa using h)]
    by_cases e : x = y
    · rw [if_pos e, if_pos (by unfold cmpI; rw [if_neg (by omega), if_neg (by omega)])]
    · rw [if_neg e]
      by_cases h1 : x < y
      · rw [show cmpI x y = -1 from if_pos h1, if_neg (by decide), decide_eq_true h1]; rfl
      · rw [show cmpI x y = 1 by (unfold cmpI; rw [if_neg h1, if_pos (by omega)]), if_neg (by decide), decide_eq_false h1]; rfl
theorem Less_eq (a b : Event) : event_Less a b = some (lexL (flds a) (flds b)) := by
  unfold event_Less event_compare
  simp only [Compare_eq, Compare59_eq, Bind_snr, Let_nr]
  rw [Or_eq _ (sm_of (n := 5) (by simp) (by omega)), Bind_snr, Bind_snr, ← orL_lex _ _ (by simp [flds])]
  rfl
end GoForm


set_option linter.all false
set_option maxRecDepth 100000
open Go Go.Rx

namespace GoForm
theorem pk_eq (a b : PairKey) : (decide (a.BodyA = b.BodyA) && (decide (a.FixtureA = b.FixtureA) && (decide (a.BodyB = b.BodyB) && decide (a.FixtureB = b.FixtureB)))) = decide (a = b) := by
  obtain ⟨a1, a2, a3, a4⟩ := a
  obtain ⟨b1, b2, b3, b4⟩ := b
  rw [Bool.eq_iff_iff]; simp
def pos (K : List PairKey) (k : PairKey) : Int := idx (fun p => decide (k = p)) K 0
def rmAt (K : List PairKey) (k : Nat) : List PairKey := K.take k ++ K.drop (k + 1)
def act : List PairKey → List Event → List PairKey × Int
  | K, [] => (K, 0)
  | K, e :: es =>
    if e.Kind = 1 then (if 0 ≤ pos K e.Key then ([], 7) else act (K ++ [e.Key]) es)
    else if e.Kind = 2 then (if pos K e.Key < 0 then ([], 8) else act (rmAt K (pos K e.Key).toNat) es)
    else act K es
theorem pos_cases (K : List PairKey) (k : PairKey) : pos K k = -1 ∨ ∃ n : Nat, pos K k = (n : Int) ∧ n < K.length := by
  rcases idx_bd (fun p => decide (k = p)) K 0 with h | h
  · exact Or.inl h
  · right
    refine ⟨(pos K k).toNat, ?_, ?_⟩ <;> (unfold pos; omega)
theorem Index_eq (K : List PairKey) (v : PairKey) (hl : Sm K) : slices_Index K v = some (pos K v) := by
  unfold slices_Index
  simp only [Let_nr, pk_eq]
  refine LOOP_l0 K (fun t i => some (idx (fun p => decide (v = p)) t i)) _ hl ?_ ?_
  · intro r i t hw hc hm hr
    rw [if_pos (decide_eq_true hc.2), Chk_of hc, hw, hr]
    show _ = some (if decide (v = ix K (i : Int)) = true then (i : Int) else idx _ t (i + 1))
    split <;> rfl
  · intro r
    rw [if_neg (by simp)]; rfl
theorem take_app_len {α : Type} (a b : List α) (n : Nat) (h : n = a.length) : (a ++ b).take n = a := by subst h; simp
theorem Active_eq (K0 : List PairKey) (es : List Event) (hK : K0.length ≤ 1000) (he : es.length ≤ 1000) : event_ActiveContacts K0 es = some (act K0 es) := by
  unfold event_ActiveContacts slices_Clone
  simp only [Let_nr, Join_nr]
  rw [Alike_of (b := Rx.Chk _ (some K0)) (by intro h; subst h; rw [Chk_of (by simp)]), Chk_of (by omega), Bind_snr]
  refine (LOOP_i es (fun i K => K.length ≤ 1000 + i) (fun t i K => some (act K t)) _ K0 (sm_of he (by omega)) (by simpa using hK) ?_ ?_)
  · intro r i t K hP hw hc hm hr
    simp only [Let_nr]
    rw [if_pos (decide_eq_true hc.2), Chk_of hc]
    simp only [hw]
    rw [Index_eq K _ (sm_of (n := 3000) (by omega) (by omega)), Bind_snr]
    generalize ix es (i : Int) = e
    unfold act
    simp only [cond_and]
    by_cases h1 : e.Kind = 1
    · rw [if_pos h1]
      by_cases h2 : 0 ≤ pos K e.Key
      · rw [if_pos h2, if_pos (by simp [h1, h2])]
      · rw [if_neg h2, if_neg (by simp [h2]), if_pos (by simp [h1]), Chk_of (by simp; omega)]
        exact hr _ (by simp; omega)
    · rw [if_neg h1, if_neg (by simp [h1]), if_neg (by simp [h1])]
      by_cases h3 : e.Kind = 2
      · rw [if_pos h3]
        rcases pos_cases K e.Key with h4 | ⟨k, h4, h5⟩
        · rw [h4, if_pos (by simp [h3]), if_pos (by decide)]
        · have n4 : ¬ ((k : Int) < 0) := by omega
          rw [h4, if_neg n4, if_neg (by simp), if_pos (by simp [h3])]
          have hw2 : IntKind.i64.wrap ((k : Int) + 1) = ((k + 1 : Nat) : Int) := by rw [wrap_in _ (by omega) (by omega)]; omega
          rw [hw2, Chk_of (by omega), if_neg (by simp; omega)]
          have e1 : List.take (K.length - (k + 1)) (List.drop (k + 1) K) = K.drop (k + 1) := by
            apply List.take_of_length_le; simp
          have e2 : (K.drop (k + 1)).length = K.length - (k + 1) := by simp
          simp only [Int.toNat_natCast, Option.getD_some, Option.getD_none, Nat.sub_zero, Nat.zero_add, e1, e2]
          rw [Chk_of (by omega), Chk_of (by omega), Chk_of (by omega), Chk_of (by omega), Chk_of (by omega)]
          have e3 : k + (K.length - (k + 1)) = K.length - 1 := by omega
          have l3 : (K.take k ++ K.drop (k + 1)).length = K.length - 1 := by simp; omega
          simp only [e3]
          rw [Chk_of (by simp; omega), take_app_len (K.take k ++ K.drop (k + 1)) _ _ l3.symm, Chk_of (by simp; omega)]
          rw [List.append_assoc, take_app_len (K.take k ++ K.drop (k + 1)) _ _ l3.symm]
          exact hr _ (by show (K.take k ++ K.drop (k + 1)).length ≤ _; omega)
      · rw [if_neg h3, if_neg (by simp [h3]), if_neg (by simp [h3])]
        exact hr _ (by omega)
  · intro r K hP
    rw [if_neg (by simp)]; rfl
end GoForm


set_option linter.all false
set_option maxRecDepth 100000
open Go Go.Rx

namespace GoForm
theorem example44 : caromlaw44_example = some true := by
  unfold caromlaw44_example
  rw [Active_eq _ _ (by decide) (by decide)]
  kernel_rfl
end GoForm


open Go

namespace GoForm
end GoForm

