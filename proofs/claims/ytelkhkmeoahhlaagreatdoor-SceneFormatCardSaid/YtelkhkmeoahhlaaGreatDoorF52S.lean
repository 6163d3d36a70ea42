/-
  Plain laws of numbers and fields as text. No conditions.
-/
import Derived.Test.YtelkhkmeoahhlaaGreatDoorF52D
import Derived.Test.YtelkhkmeoahhlaaGreatDoorRzQ
import Derived.Lib.DecodeN
set_option linter.all false
set_option maxRecDepth 100000
open Go Go.Rx
namespace GoForm
/-- The decimal digits of m. -/
def digs (m : Nat) : List UInt8 := if h : m < 10 then [UInt8.ofNat (48 + m)] else digs (m / 10) ++ [UInt8.ofNat (48 + m % 10)]
termination_by m
decreasing_by omega
theorem digs_lt {m : Nat} (h : m < 10) : digs m = [UInt8.ofNat (48 + m)] := by rw [digs, dif_pos h]
theorem digs_ge {m : Nat} (h : ¬ m < 10) : digs m = digs (m / 10) ++ [UInt8.ofNat (48 + m % 10)] := by rw [digs, dif_neg h]
theorem digs_pos (m : Nat) : 1 ≤ (digs m).length := by
  by_cases h : m < 10
  · rw [digs_lt h]; exact Nat.le_refl _
  · rw [digs_ge h, List.length_append]; simp
theorem digs_len : ∀ (k m : Nat), m < 10 ^ (k + 1) → (digs m).length ≤ k + 1
  | 0, m, h => by rw [digs_lt (by simpa using h)]; exact Nat.le_refl _
  | k + 1, m, h => by
    by_cases h10 : m < 10
    · rw [digs_lt h10]; simp
    · rw [digs_ge h10, List.length_append]
      have := digs_len k (m / 10) (by rw [Nat.pow_succ] at h; omega)
      simp; omega
/-- The decimal form of an integer. -/
def fmtInt (n : Int) : List UInt8 := if n < 0 then 45 :: digs n.natAbs else digs n.natAbs
theorem drop_set_at {α : Type} (l : List α) (i : Nat) (x : α) (h : i < l.length) : (l.set i x).drop i = x :: l.drop (i + 1) := by
  rw [List.drop_eq_getElem_cons (by simpa using h), List.getElem_set_self]
  congr 1
  apply List.ext_getElem?
  intro j
  rw [List.getElem?_drop, List.getElem?_drop, List.getElem?_set_ne (by omega)]
theorem toByte_dig (m : Nat) (h : m < 10) : toByte (IntKind.u64.wrap (48 + (m : Int))) = UInt8.ofNat (48 + m) := by
  rw [u64_eq]
  unfold toByte
  congr 1
  omega
theorem fmtLoop (K : Nat → List UInt8 → Option (List UInt8)) (step : (Int × Int × List UInt8 → Option (List UInt8)) → Int × Int × List UInt8 → Option (List UInt8))
    (hs : ∀ (r : Int × Int × List UInt8 → Option (List UInt8)) (m at_ : Nat) (buf : List UInt8), m < 18446744073709551616 → 1 ≤ at_ → at_ ≤ 20 → buf.length = 20 →
      step r ((m : Int), (at_ : Int), buf) = if m / 10 = 0 then K (at_ - 1) (buf.set (at_ - 1) (UInt8.ofNat (48 + m % 10))) else r (((m / 10 : Nat) : Int), ((at_ - 1 : Nat) : Int), buf.set (at_ - 1) (UInt8.ofNat (48 + m % 10)))) :
    ∀ (n m at_ : Nat) (buf : List UInt8), (digs m).length ≤ n → m < 18446744073709551616 → (digs m).length ≤ at_ → at_ ≤ 20 → buf.length = 20 →
      ∃ buf', buf'.length = 20 ∧ buf'.drop (at_ - (digs m).length) = digs m ++ buf.drop at_ ∧ LOOP step n ((m : Int), (at_ : Int), buf) = K (at_ - (digs m).length) buf'
  | 0, m, at_, buf, h, _, _, _, _ => by have := digs_pos m; omega
  | n + 1, m, at_, buf, h, hm, ha, ha2, hb => by
    rw [LOOP_s, hs _ m at_ buf hm (by have := digs_pos m; omega) ha2 hb]
    by_cases h10 : m < 10
    · rw [if_pos (by omega), digs_lt h10]
      refine ⟨_, by rw [List.length_set]; exact hb, ?_, rfl⟩
      rw [show m % 10 = m by omega]
      simp only [List.length_cons, List.length_nil, Nat.zero_add]
      rw [drop_set_at _ _ _ (by have := digs_pos m; omega)]
      have := digs_pos m
      rw [show at_ - 1 + 1 = at_ by omega]; rfl
    · rw [if_neg (by omega)]
      have hl : (digs m).length = (digs (m / 10)).length + 1 := by rw [digs_ge h10, List.length_append]; rfl
      have hp := digs_pos (m / 10)
      obtain ⟨buf', h1, h2, h3⟩ := fmtLoop K step hs n (m / 10) (at_ - 1) (buf.set (at_ - 1) (UInt8.ofNat (48 + m % 10))) (by omega) (by omega) (by omega) (by omega) (by rw [List.length_set]; exact hb)
      refine ⟨buf', h1, ?_, ?_⟩
      · rw [hl, show at_ - ((digs (m / 10)).length + 1) = at_ - 1 - (digs (m / 10)).length by omega, h2, drop_set_at _ _ _ (by omega), digs_ge h10, show at_ - 1 + 1 = at_ by omega]
        simp
      · rw [h3, hl]; congr 1; omega
theorem tmodN (m k : Nat) : Int.tmod (m : Int) (k : Int) = ((m % k : Nat) : Int) := by
  rw [Int.tmod_eq_emod_of_nonneg (by omega)]; simp
theorem tdivN (m k : Nat) : Int.tdiv (m : Int) (k : Int) = ((m / k : Nat) : Int) := by
  rw [Int.tdiv_eq_ediv_of_nonneg (by omega)]; simp
def fK (n : Int) (a : Nat) (b : List UInt8) : Option (List UInt8) := if n < 0 then (if 1 ≤ a then some (((b.set (a - 1) 45).drop (a - 1)).take (20 - (a - 1))) else none) else some ((b.drop a).take (20 - a))
theorem FormatInt_eq (n : Int) (h1 : IntKind.i64.min ≤ n) (h2 : n ≤ IntKind.i64.max) : format_FormatInt n = some (fmtInt n) := by
  rw [i64_min] at h1
  rw [i64_max] at h2
  unfold format_FormatInt
  simp only [Let_nr, Join_nr]
  have key : (if n < 0 then IntKind.u64.wrap (0 - IntKind.u64.wrap n) else IntKind.u64.wrap n) = (n.natAbs : Int) := by
    rw [u64_eq, u64_eq]
    split <;> omega
  have fin : ∀ (step : (Int × Int × List UInt8 → Option (List UInt8)) → Int × Int × List UInt8 → Option (List UInt8)) (buf : List UInt8), buf.length = 20 →
      (∀ (r : Int × Int × List UInt8 → Option (List UInt8)) (m at_ : Nat) (buf : List UInt8), m < 18446744073709551616 → 1 ≤ at_ → at_ ≤ 20 → buf.length = 20 →
      step r ((m : Int), (at_ : Int), buf) = if m / 10 = 0 then fK n (at_ - 1) (buf.set (at_ - 1) (UInt8.ofNat (48 + m % 10))) else r (((m / 10 : Nat) : Int), ((at_ - 1 : Nat) : Int), buf.set (at_ - 1) (UInt8.ofNat (48 + m % 10)))) →
      LOOP step fuel ((n.natAbs : Int), (20 : Int), buf) = some (fmtInt n) := by
    intro step buf hb hs
    have hl := digs_len 18 n.natAbs (by omega)
    obtain ⟨buf', g1, g2, g3⟩ := fmtLoop (fK n) step hs fuel n.natAbs 20 buf (by have : fuel = 2 ^ 70 := rfl; omega) (by omega) (by omega) (Nat.le_refl _) hb
    refine g3.trans ?_
    have hd : buf.drop 20 = [] := List.drop_of_length_le (by omega)
    rw [hd, List.append_nil] at g2
    have hp := digs_pos n.natAbs
    unfold fK fmtInt
    split
    · rw [if_pos (by omega), drop_set_at _ _ _ (by omega), show 20 - (digs n.natAbs).length - 1 + 1 = 20 - (digs n.natAbs).length by omega, g2]
      rw [List.take_of_length_le (by simp; omega)]
    · rw [g2, List.take_of_length_le (by omega)]
  by_cases hn : n < 0
  · rw [if_pos hn] at key
    simp only [hn, decide_true, if_true, key]
    refine fin _ _ rfl ?_
    intro r m at_ buf hm ha ha2 hb
    have e1 : IntKind.i64.wrap ((at_ : Int) - 1) = ((at_ - 1 : Nat) : Int) := by rw [wrap_in _ (by omega) (by omega)]; omega
    have e2 : Int.tmod (m : Int) 10 = ((m % 10 : Nat) : Int) := tmodN m 10
    have e3 : IntKind.u64.wrap (Int.tdiv (m : Int) 10) = ((m / 10 : Nat) : Int) := by rw [show Int.tdiv (m : Int) 10 = ((m / 10 : Nat) : Int) from tdivN m 10, u64_eq]; omega
    simp only [e1, e2, e3, toByte_dig (m % 10) (by omega), Int.toNat_natCast]
    rw [Chk_of (by omega), Chk_of (by rw [hb]; omega)]
    by_cases h0 : m / 10 = 0
    · rw [if_pos h0, if_pos (by rw [h0]; rfl)]
      unfold fK
      rw [if_pos hn]
      have e4 : IntKind.i64.wrap (((at_ - 1 : Nat) : Int) - 1) = (at_ : Int) - 2 := by rw [wrap_in _ (by omega) (by omega)]; omega
      rw [e4]
      by_cases h1 : 1 ≤ at_ - 1
      · rw [if_pos h1, Chk_of (by omega), Chk_of (by rw [List.length_set, hb]; omega)]
        have e5 : ((at_ : Int) - 2).toNat = at_ - 1 - 1 := by omega
        simp only [e5, Option.getD_some, Option.getD_none]
        rw [Chk_of ⟨by omega, by omega, by omega, Nat.le_refl _, by rw [List.length_set, List.length_set, hb]; exact Nat.le_refl _⟩, Chk_of (by rw [List.length_set, List.length_set, hb]; omega)]
        rfl
      · rw [if_neg h1]
        unfold Chk
        rw [if_neg (by omega)]
    · rw [if_neg h0, if_neg (by rw [beq_iff_eq]; omega)]
  · rw [if_neg hn] at key
    simp only [hn, decide_false, ff, if_false, key]
    refine fin _ _ rfl ?_
    intro r m at_ buf hm ha ha2 hb
    have e1 : IntKind.i64.wrap ((at_ : Int) - 1) = ((at_ - 1 : Nat) : Int) := by rw [wrap_in _ (by omega) (by omega)]; omega
    have e2 : Int.tmod (m : Int) 10 = ((m % 10 : Nat) : Int) := tmodN m 10
    have e3 : IntKind.u64.wrap (Int.tdiv (m : Int) 10) = ((m / 10 : Nat) : Int) := by rw [show Int.tdiv (m : Int) 10 = ((m / 10 : Nat) : Int) from tdivN m 10, u64_eq]; omega
    simp only [e1, e2, e3, toByte_dig (m % 10) (by omega), Int.toNat_natCast]
    rw [Chk_of (by omega), Chk_of (by rw [hb]; omega)]
    by_cases h0 : m / 10 = 0
    · rw [if_pos h0, if_pos (by rw [h0]; rfl)]
      unfold fK
      rw [if_neg hn]
      simp only [Option.getD_some, Option.getD_none]
      rw [Chk_of ⟨by omega, by omega, by omega, Nat.le_refl _, by rw [List.length_set, hb]; exact Nat.le_refl _⟩, Chk_of (by rw [List.length_set, hb]; omega)]
    · rw [if_neg h0, if_neg (by rw [beq_iff_eq]; omega)]

def chars : List UInt8 := [48, 49, 50, 51, 52, 53, 54, 55, 56, 57]
theorem chars_sub : ∀ d : Nat, d < 10 → sub chars (d : Int) ((d : Int) + 1) = [UInt8.ofNat (48 + d)] := by decide
theorem refDigits (step : (Int × List UInt8 → Option (List UInt8)) → Int × List UInt8 → Option (List UInt8))
    (hs : ∀ (r : Int × List UInt8 → Option (List UInt8)) (n : Int) (s : List UInt8), IntKind.i64.min ≤ n → n ≤ IntKind.i64.max → s.length ≤ 100 →
      step r (n, s) = if n = 0 then some s else r (n.tdiv 10, UInt8.ofNat (48 + n.natAbs % 10) :: s)) :
    ∀ (k : Nat) (n : Int) (s : List UInt8), IntKind.i64.min ≤ n → n ≤ IntKind.i64.max → (if n = 0 then 0 else (digs n.natAbs).length) + 1 ≤ k → s.length + (if n = 0 then 0 else (digs n.natAbs).length) ≤ 100 →
      LOOP step k (n, s) = some (if n = 0 then s else digs n.natAbs ++ s)
  | 0, n, s, _, _, h, _ => by omega
  | k + 1, n, s, h1, h2, h, hl => by
    rw [LOOP_s, hs _ n s h1 h2 (by omega)]
    by_cases h0 : n = 0
    · rw [if_pos h0, if_pos h0]
    · rw [if_neg h0] at h hl ⊢
      rw [if_neg h0]
      have e1 : (n.tdiv 10).natAbs = n.natAbs / 10 := by
        rw [Int.natAbs_tdiv]; rfl
      by_cases h10 : n.natAbs < 10
      · have e2 : n.tdiv 10 = 0 := by
          have : (n.tdiv 10).natAbs = 0 := by rw [e1]; omega
          omega
        have hp := digs_pos n.natAbs
        rw [e2, refDigits step hs k 0 _ (by decide) (by decide) (by rw [if_pos rfl]; omega) (by rw [if_pos rfl, List.length_cons]; omega), if_pos rfl, digs_lt h10, show n.natAbs % 10 = n.natAbs by omega]
        rfl
      · have hlen : (digs n.natAbs).length = (digs (n.natAbs / 10)).length + 1 := by rw [digs_ge h10, List.length_append]; rfl
        have hb : IntKind.i64.min ≤ n.tdiv 10 ∧ n.tdiv 10 ≤ IntKind.i64.max := by
          rw [i64_min] at *; rw [i64_max] at *
          omega
        rw [refDigits step hs k _ _ hb.1 hb.2 (by rw [e1]; split <;> omega) (by rw [e1, List.length_cons]; split <;> omega), if_neg (by intro h; rw [h] at e1; simp at e1; omega), e1, digs_ge h10]
        simp
theorem ref_digits_eq (n : Int) (h1 : IntKind.i64.min ≤ n) (h2 : n ≤ IntKind.i64.max) : caromref08_digits n = some (if n = 0 then [] else digs n.natAbs) := by
  unfold caromref08_digits
  have hl := digs_len 18 n.natAbs (by rw [i64_min] at h1; rw [i64_max] at h2; omega)
  rw [refDigits _ ?_ fuel n [] h1 h2 (by have : fuel = 2 ^ 70 := rfl; split <;> omega) (by rw [List.length_nil]; split <;> omega)]
  · rw [List.append_nil]
  · intro r n s h1 h2 hs
    rw [i64_min] at h1
    rw [i64_max] at h2
    simp only [Let_nr, Join_nr]
    by_cases h0 : n = 0
    · rw [if_pos h0, h0]; rfl
    · rw [if_neg h0, if_pos (by rw [bne_iff_ne]; exact h0)]
      have e0 : (n.tmod 10).natAbs = n.natAbs % 10 := by rw [Int.natAbs_tmod]; rfl
      have e8 : (n.tdiv 10).natAbs = n.natAbs / 10 := by rw [Int.natAbs_tdiv]; rfl
      have e9 : IntKind.i64.wrap (n.tdiv 10) = n.tdiv 10 := wrap_in _ (by omega) (by omega)
      have key : ∀ d : Nat, d < 10 → (Chk ((0 : Int) ≤ (d : Int) ∧ (d : Int) ≤ IntKind.i64.wrap ((d : Int) + 1) ∧ IntKind.i64.wrap ((d : Int) + 1) ≤ ((10 : Nat) : Int)) (Chk ((sub chars (d : Int) (IntKind.i64.wrap ((d : Int) + 1))).length + s.length ≤ 9223372036854775807) (r (IntKind.i64.wrap (n.tdiv 10), sub chars (d : Int) (IntKind.i64.wrap ((d : Int) + 1)) ++ s)))) = r (n.tdiv 10, UInt8.ofNat (48 + d) :: s) := by
        intro d hd
        have e1 : IntKind.i64.wrap ((d : Int) + 1) = (d : Int) + 1 := wrap_in _ (by omega) (by omega)
        rw [e1, chars_sub d hd, e9, Chk_of (by omega), Chk_of (by simp; omega)]
        rfl
      by_cases hneg : n.tmod 10 < 0
      · rw [if_pos (decide_eq_true hneg)]
        have e2 : IntKind.i64.wrap (0 - n.tmod 10) = ((n.natAbs % 10 : Nat) : Int) := by rw [wrap_in _ (by omega) (by omega)]; omega
        rw [e2]
        exact key _ (by omega)
      · rw [if_neg (by rw [decide_eq_true_iff]; exact hneg)]
        have e2 : n.tmod 10 = ((n.natAbs % 10 : Nat) : Int) := by omega
        rw [e2]
        exact key _ (by omega)
theorem refFormatInt_eq (n : Int) (h1 : IntKind.i64.min ≤ n) (h2 : n ≤ IntKind.i64.max) : caromref08_FormatInt n = some (fmtInt n) := by
  unfold caromref08_FormatInt
  simp only [Let_nr]
  have hl := digs_len 18 n.natAbs (by rw [i64_min] at h1; rw [i64_max] at h2; omega)
  by_cases h0 : n = 0
  · subst h0
    rw [if_pos (by rfl)]
    unfold fmtInt
    rw [if_neg (by decide), show Int.natAbs 0 = 0 from rfl, digs_lt (by omega)]
    rfl
  · rw [if_neg (by rw [beq_iff_eq]; exact h0), ref_digits_eq n h1 h2, if_neg h0]
    unfold fmtInt
    by_cases hn : n < 0
    · rw [if_pos (decide_eq_true hn), if_pos hn, Bind_snr, Chk_of (by omega)]
      rfl
    · rw [if_neg (by rw [decide_eq_true_iff]; exact hn), if_neg hn, Bind_snr]
theorem fmtInt_len (n : Int) (h1 : IntKind.i64.min ≤ n) (h2 : n ≤ IntKind.i64.max) : (fmtInt n).length ≤ 20 ∧ 1 ≤ (fmtInt n).length := by
  have hl := digs_len 18 n.natAbs (by rw [i64_min] at h1; rw [i64_max] at h2; omega)
  have hp := digs_pos n.natAbs
  unfold fmtInt
  split
  · rw [List.length_cons]; omega
  · omega
/-- A digit. -/
def isD (c : UInt8) : Bool := decide (48 ≤ c.toNat) && decide (c.toNat ≤ 57)
/-- The number that digits tell. -/
def dv (l : List UInt8) : Nat := l.foldl (fun n c => 10 * n + (c.toNat - 48)) 0
def LIM : Nat := 4611686018427387905
def dec (neg : Bool) (n : Nat) : format_decimal := ⟨neg, (min n LIM : Nat), (n % 65536 : Nat)⟩
def isNeg : List UInt8 → Bool
  | [] => false
  | x :: _ => x == 45
def body : List UInt8 → List UInt8
  | [] => []
  | x :: l => if x = 45 then l else x :: l
/-- The canonical decimal form of an integer. -/
def isInt (s : List UInt8) : Bool := match body s with
  | [] => false
  | x :: l => (x :: l).all isD && (decide (x ≠ 48) || decide (s = [48]))
def sgn (s : List UInt8) (n : Nat) : Int := if isNeg s = true then -(n : Int) else (n : Int)
/-- What ParseInt answers. -/
def pInt (s : List UInt8) : Int × Int := if isInt s = true then (if dv (body s) ≤ 4611686018427387904 then (sgn s (dv (body s)), 0) else (0, 6)) else (0, 3)
theorem w1 (i : Nat) (h : i < 2 ^ 62) : IntKind.i64.wrap ((i : Int) + 1) = ((i + 1 : Nat) : Int) := by rw [w64_s i h]; omega
/-- The pieces of a text between the bytes c. -/
def spl (c : UInt8) : List UInt8 → List (List UInt8)
  | [] => [[]]
  | x :: l => if x = c then [] :: spl c l else match spl c l with
    | [] => [[x]]
    | p :: ps => (x :: p) :: ps
/-- The pieces from start on; behind the end: none. -/
def rest (c : UInt8) (l : List UInt8) (a : Nat) : List (List UInt8) := if a ≤ l.length then spl c (l.drop a) else []
theorem JoinFields_eq (l : List (List UInt8)) (h1 : l.length ≤ 1000000) (h2 : (Lib.join l [32]).length ≤ 140737488355328) : format_JoinFields l = some (Lib.join l [32]) := by
  unfold format_JoinFields strings_Join joinS
  rw [Chk_of ⟨h2, by omega⟩, Bind_snr]
theorem joinTail_cons (x : List UInt8) (r : List (List UInt8)) : Lib.joinTail [32] (x :: r) = 32 :: x ++ Lib.joinTail [32] r := by
  unfold Lib.joinTail
  simp
def flat (c : UInt8) (L : List (List UInt8)) : List UInt8 := L.flatMap fun p => p ++ [c]
theorem flat_cons (c : UInt8) (p : List UInt8) (L : List (List UInt8)) : flat c (p :: L) = p ++ c :: flat c L := by unfold flat; simp
end GoForm
