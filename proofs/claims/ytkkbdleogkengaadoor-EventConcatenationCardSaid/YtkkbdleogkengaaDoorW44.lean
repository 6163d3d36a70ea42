/- Plain laws, joined from several texts. No conditions. -/
import Derived.Test.YtkkbdleogkengaaDoorF44D
import Derived.Test.YtkkbdleogkengaaDoorRzQ
import Derived.Lib.DecodeN
/-
  Plain laws of numbers and fields as text. No conditions.
-/
set_option linter.all false
set_option maxRecDepth 100000
open Go Go.Rx

namespace GoForm
/-- The decimal digits of m. -/
def digs (m : Nat) : List UInt8 := if h : m < 10 then [UInt8.ofNat (48 + m)] else digs (m / 10) ++ [UInt8.ofNat (48 + m % 10)]
termination_by m
decreasing_by omega
theorem digs_lt {m : Nat} (h : m < 10) : digs m = [UInt8.ofNat (48 + m)] := by rw [digs, dif_pos h]
theorem digs_ge {m : Nat} (h : ¬ m < 10) : digs m = digs (m / 10) ++ [UInt8.ofNat (48 + m % 10)] := by rw [digs, dif_neg h]
theorem digs_pos (m : Nat) : 1 ≤ (digs m).length := by
  by_cases h : m < 10
  · rw [digs_lt h]; exact Nat.le_refl _
  · rw [digs_ge h, List.length_append]; simp
theorem digs_len : ∀ (k m : Nat), m < 10 ^ (k + 1) → (digs m).length ≤ k + 1
  | 0, m, h => by rw [digs_lt (by simpa using h)]; exact Nat.le_refl _
  | k + 1, m, h => by
    by_cases h10 : m < 10
    · rw [digs_lt h10]; simp
    · rw [digs_ge h10, List.length_append]
      have := digs_len k (m / 10) (by rw [Nat.pow_succ] at h; omega)
      simp; omega
/-- The decimal form of an integer. -/
def fmtInt (n : Int) : List UInt8 := if n < 0 then 45 :: digs n.natAbs else digs n.natAbs
def fmtFix (x : Int) : List UInt8 := if x ≠ 0 ∧ x.tmod 65536 = 0 then fmtInt (x.tdiv 65536) ++ [117] else fmtInt x

theorem drop_set_at {α : Type} (l : List α) (i : Nat) (x : α) (h : i < l.length) : (l.set i x).drop i = x :: l.drop (i + 1) := by
  rw [List.drop_eq_getElem_cons (by simpa using h), List.getElem_set_self]
  congr 1
  apply List.ext_getElem?
  intro j
  rw [List.getElem?_drop, List.getElem?_drop, List.getElem?_set_ne (by omega)]
theorem toByte_dig (m : Nat) (h : m < 10) : toByte (IntKind.u64.wrap (48 + (m : Int))) = UInt8.ofNat (48 + m) := by
  rw [u64_eq]
  unfold toByte
  congr 1
  omega
theorem fmtLoop (K : Nat → List UInt8 → Option (List UInt8)) (step : (Int × Int × List UInt8 → Option (List UInt8)) → Int × Int × List UInt8 → Option (List UInt8))
    (hs : ∀ (r : Int × Int × List UInt8 → Option (List UInt8)) (m at_ : Nat) (buf : List UInt8), m < 18446744073709551616 → 1 ≤ at_ → at_ ≤ 20 → buf.length = 20 →
      step r ((m : Int), (at_ : Int), buf) = if m / 10 = 0 then K (at_ - 1) (buf.set (at_ - 1) (UInt8.ofNat (48 + m % 10))) else r (((m / 10 : Nat) : Int), ((at_ - 1 : Nat) : Int), buf.set (at_ - 1) (UInt8.ofNat (48 + m % 10)))) :
    ∀ (n m at_ : Nat) (buf : List UInt8), (digs m).length ≤ n → m < 18446744073709551616 → (digs m).length ≤ at_ → at_ ≤ 20 → buf.length = 20 →
      ∃ buf', buf'.length = 20 ∧ buf'.drop (at_ - (digs m).length) = digs m ++ buf.drop at_ ∧ LOOP step n ((m : Int), (at_ : Int), buf) = K (at_ - (digs m).length) buf'
  | 0, m, at_, buf, h, _, _, _, _ => by have := digs_pos m; omega
  | n + 1, m, at_, buf, h, hm, ha, ha2, hb => by
    rw [LOOP_s, hs _ m at_ buf hm (by have := digs_pos m; omega) ha2 hb]
    by_cases h10 : m < 10
    · rw [if_pos (by omega), digs_lt h10]
      refine ⟨_, by rw [List.length_set]; exact hb, ?_, rfl⟩
      rw [show m % 10 = m by omega]
      simp only [List.length_cons, List.length_nil, Nat.zero_add]
      rw [drop_set_at _ _ _ (by have := digs_pos m; omega)]
      have := digs_pos m
      rw [show at_ - 1 + 1 = at_ by omega]; rfl
    · rw [if_neg (by omega)]
      have hl : (digs m).length = (digs (m / 10)).length + 1 := by rw [digs_ge h10, List.length_append]; rfl
      have hp := digs_pos (m / 10)
      obtain ⟨buf', h1, h2, h3⟩ := fmtLoop K step hs n (m / 10) (at_ - 1) (buf.set (at_ - 1) (UInt8.ofNat (48 + m % 10))) (by omega) (by omega) (by omega) (by omega) (by rw [List.length_set]; exact hb)
      refine ⟨buf', h1, ?_, ?_⟩
      · rw [hl, show at_ - ((digs (m / 10)).length + 1) = at_ - 1 - (digs (m / 10)).length by omega, h2, drop_set_at _ _ _ (by omega), digs_ge h10, show at_ - 1 + 1 = at_ by omega]
        simp
      · rw [h3, hl]; congr 1; omega
theorem tmodN (m k : Nat) : Int.tmod (m : Int) (k : Int) = ((m % k : Nat) : Int) := by
  rw [Int.tmod_eq_emod_of_nonneg (by omega)]; simp
theorem tdivN (m k : Nat) : Int.tdiv (m : Int) (k : Int) = ((m / k : Nat) : Int) := by
  rw [Int.tdiv_eq_ediv_of_nonneg (by omega)]; simp
def fK (n : Int) (a : Nat) (b : List UInt8) : Option (List UInt8) := if n < 0 then (if 1 ≤ a then some (((b.set (a - 1) 45).drop (a - 1)).take (20 - (a - 1))) else none) else some ((b.drop a).take (20 - a))
theorem FormatInt_eq (n : Int) (h1 : IntKind.i64.min ≤ n) (h2 : n ≤ IntKind.i64.max) : format_FormatInt n = some (fmtInt n) := by
  rw [i64_min] at h1
  rw [i64_max] at h2
  unfold format_FormatInt
  simp only [Let_nr, Join_nr]
  have key : (if n < 0 then IntKind.u64.wrap (0 - IntKind.u64.wrap n) else IntKind.u64.wrap n) = (n.natAbs : Int) := by
    rw [u64_eq, u64_eq]
    split <;> omega
  have fin : ∀ (step : (Int × Int × List UInt8 → Option (List UInt8)) → Int × Int × List UInt8 → Option (List UInt8)) (buf : List UInt8), buf.length = 20 →
      (∀ (r : Int × Int × List UInt8 → Option (List UInt8)) (m at_ : Nat) (buf : List UInt8), m < 18446744073709551616 → 1 ≤ at_ → at_ ≤ 20 → buf.length = 20 →
      step r ((m : Int), (at_ : Int), buf) = if m / 10 = 0 then fK n (at_ - 1) (buf.set (at_ - 1) (UInt8.ofNat (48 + m % 10))) else r (((m / 10 : Nat) : Int), ((at_ - 1 : Nat) : Int), buf.set (at_ - 1) (UInt8.ofNat (48 + m % 10)))) →
      LOOP step fuel ((n.natAbs : Int), (20 : Int), buf) = some (fmtInt n) := by
    intro step buf hb hs
    have hl := digs_len 18 n.natAbs (by omega)
    obtain ⟨buf', g1, g2, g3⟩ := fmtLoop (fK n) step hs fuel n.natAbs 20 buf (by have : fuel = 2 ^ 70 := rfl; omega) (by omega) (by omega) (Nat.le_refl _) hb
    refine g3.trans ?_
    have hd : buf.drop 20 = [] := List.drop_of_length_le (by omega)
    rw [hd, List.append_nil] at g2
    have hp := digs_pos n.natAbs
    unfold fK fmtInt
    split
    · rw [if_pos (by omega), drop_set_at _ _ _ (by omega), show 20 - (digs n.natAbs).length - 1 + 1 = 20 - (digs n.natAbs).length by omega, g2]
      rw [List.take_of_length_le (by simp; omega)]
    · rw [g2, List.take_of_length_le (by omega)]
  by_cases hn : n < 0
  · rw [if_pos hn] at key
    simp only [hn, decide_true, if_true, key]
    refine fin _ _ rfl ?_
    intro r m at_ buf hm ha ha2 hb
    have e1 : IntKind.i64.wrap ((at_ : Int) - 1) = ((at_ - 1 : Nat) : Int) := by rw [wrap_in _ (by omega) (by omega)]; omega
    have e2 : Int.tmod (m : Int) 10 = ((m % 10 : Nat) : Int) := tmodN m 10
    have e3 : IntKind.u64.wrap (Int.tdiv (m : Int) 10) = ((m / 10 : Nat) : Int) := by rw [show Int.tdiv (m : Int) 10 = ((m / 10 : Nat) : Int) from tdivN m 10, u64_eq]; omega
    simp only [e1, e2, e3, toByte_dig (m % 10) (by omega), Int.toNat_natCast]
    rw [Chk_of (by omega), Chk_of (by rw [hb]; omega)]
    by_cases h0 : m / 10 = 0
    · rw [if_pos h0, if_pos (by rw [h0]; rfl)]
      unfold fK
      rw [if_pos hn]
      have e4 : IntKind.i64.wrap (((at_ - 1 : Nat) : Int) - 1) = (at_ : Int) - 2 := by rw [wrap_in _ (by omega) (by omega)]; omega
      rw [e4]
      by_cases h1 : 1 ≤ at_ - 1
      · rw [if_pos h1, Chk_of (by omega), Chk_of (by rw [List.length_set, hb]; omega)]
        have e5 : ((at_ : Int) - 2).toNat = at_ - 1 - 1 := by omega
        simp only [e5, Option.getD_some, Option.getD_none]
        rw [Chk_of ⟨by omega, by omega, by omega, Nat.le_refl _, by rw [List.length_set, List.length_set, hb]; exact Nat.le_refl _⟩, Chk_of (by rw [List.length_set, List.length_set, hb]; omega)]
        rfl
      · rw [if_neg h1]
        unfold Chk
        rw [if_neg (by omega)]
    · rw [if_neg h0, if_neg (by rw [beq_iff_eq]; omega)]
  · rw [if_neg hn] at key
    simp only [hn, decide_false, ff, if_false, key]
    refine fin _ _ rfl ?_
    intro r m at_ buf hm ha ha2 hb
    have e1 : IntKind.i64.wrap ((at_ : Int) - 1) = ((at_ - 1 : Nat) : Int) := by rw [wrap_in _ (by omega) (by omega)]; omega
    have e2 : Int.tmod (m : Int) 10 = ((m % 10 : Nat) : Int) := tmodN m 10
    have e3 : IntKind.u64.wrap (Int.tdiv (m : Int) 10) = ((m / 10 : Nat) : Int) := by rw [show Int.tdiv (m : Int) 10 = ((m / 10 : Nat) : Int) from tdivN m 10, u64_eq]; omega
    simp only [e1, e2, e3, toByte_dig (m % 10) (by omega), Int.toNat_natCast]
    rw [Chk_of (by omega), Chk_of (by rw [hb]; omega)]
    by_cases h0 : m / 10 = 0
    · rw [if_pos h0, if_pos (by rw [h0]; rfl)]
      unfold fK
      rw [if_neg hn]
      simp only [Option.getD_some, Option.getD_none]
      rw [Chk_of ⟨by omega, by omega, by omega, Nat.le_refl _, by rw [List.length_set, hb]; exact Nat.le_refl _⟩, Chk_of (by rw [List.length_set, hb]; omega)]
    · rw [if_neg h0, if_neg (by rw [beq_iff_eq]; omega)]

def chars : List UInt8 := [48, 49, 50, 51, 52, 53, 54, 55, 56, 57]
theorem chars_sub : ∀ d : Nat, d < 10 → sub chars (d : Int) ((d : Int) + 1) = [UInt8.ofNat (48 + d)] := by decide
theorem refDigits (step : (Int × List UInt8 → Option (List UInt8)) → Int × List UInt8 → Option (List UInt8))
    (hs : ∀ (r : Int × List UInt8 → Option (List UInt8)) (n : Int) (s : List UInt8), IntKind.i64.min ≤ n → n ≤ IntKind.i64.max → s.length ≤ 100 →
      step r (n, s) = if n = 0 then some s else r (n.tdiv 10, UInt8.ofNat (48 + n.natAbs % 10) :: s)) :
    ∀ (k : Nat) (n : Int) (s : List UInt8), IntKind.i64.min ≤ n → n ≤ IntKind.i64.max → (if n = 0 then 0 else (digs n.natAbs).length) + 1 ≤ k → s.length + (if n = 0 then 0 else (digs n.natAbs).length) ≤ 100 →
      LOOP step k (n, s) = some (if n = 0 then s else digs n.natAbs ++ s)
  | 0, n, s, _, _, h, _ => by omega
  | k + 1, n, s, h1, h2, h, hl => by
    rw [LOOP_s, hs _ n s h1 h2 (by omega)]
    by_cases h0 : n = 0
    · rw [if_pos h0, if_pos h0]
    · rw [if_neg h0] at h hl ⊢
      rw [if_neg h0]
      have e1 : (n.tdiv 10).natAbs = n.natAbs / 10 := by
        rw [Int.natAbs_tdiv]; rfl
      by_cases h10 : n.natAbs < 10
      · have e2 : n.tdiv 10 = 0 := by
          have : (n.tdiv 10).natAbs = 0 := by rw [e1]; omega
          omega
        have hp := digs_pos n.natAbs
        rw [e2, refDigits step hs k 0 _ (by decide) (by decide) (by rw [if_pos rfl]; omega) (by rw [if_pos rfl, List.length_cons]; omega), if_pos rfl, digs_lt h10, show n.natAbs % 10 = n.natAbs by omega]
        rfl
      · have hlen : (digs n.natAbs).length = (digs (n.natAbs / 10)).length + 1 := by rw [digs_ge h10, List.length_append]; rfl
        have hb : IntKind.i64.min ≤ n.tdiv 10 ∧ n.tdiv 10 ≤ IntKind.i64.max := by
          rw [i64_min] at *; rw [i64_max] at *
          omega
        rw [refDigits step hs k _ _ hb.1 hb.2 (by rw [e1]; split <;> omega) (by rw [e1, List.length_cons]; split <;> omega), if_neg (by intro h; rw [h] at e1; simp at e1; omega), e1, digs_ge h10]
        simp
theorem ref_digits_eq (n : Int) (h1 : IntKind.i64.min ≤ n) (h2 : n ≤ IntKind.i64.max) : caromref08_digits n = some (if n = 0 then [] else digs n.natAbs) := by
  unfold caromref08_digits
  have hl := digs_len 18 n.natAbs (by rw [i64_min] at h1; rw [i64_max] at h2; omega)
  rw [refDigits _ ?_ fuel n [] h1 h2 (by have : fuel = 2 ^ 70 := rfl; split <;> omega) (by rw [List.length_nil]; split <;> omega)]
  · rw [List.append_nil]
  · intro r n s h1 h2 hs
    rw [i64_min] at h1
    rw [i64_max] at h2
    simp only [Let_nr, Join_nr]
    by_cases h0 : n = 0
    · rw [if_pos h0, h0]; rfl
    · rw [if_neg h0, if_pos (by rw [bne_iff_ne]; exact h0)]
      have e0 : (n.tmod 10).natAbs = n.natAbs % 10 := by rw [Int.natAbs_tmod]; rfl
      have e8 : (n.tdiv 10).natAbs = n.natAbs / 10 := by rw [Int.natAbs_tdiv]; rfl
      have e9 : IntKind.i64.wrap (n.tdiv 10) = n.tdiv 10 := wrap_in _ (by omega) (by omega)
      have key : ∀ d : Nat, d < 10 → (Chk ((0 : Int) ≤ (d : Int) ∧ (d : Int) ≤ IntKind.i64.wrap ((d : Int) + 1) ∧ IntKind.i64.wrap ((d : Int) + 1) ≤ ((10 : Nat) : Int)) (Chk ((sub chars (d : Int) (IntKind.i64.wrap ((d : Int) + 1))).length + s.length ≤ 9223372036854775807) (r (IntKind.i64.wrap (n.tdiv 10), sub chars (d : Int) (IntKind.i64.wrap ((d : Int) + 1)) ++ s)))) = r (n.tdiv 10, UInt8.ofNat (48 + d) :: s) := by
        intro d hd
        have e1 : IntKind.i64.wrap ((d : Int) + 1) = (d : Int) + 1 := wrap_in _ (by omega) (by omega)
        rw [e1, chars_sub d hd, e9, Chk_of (by omega), Chk_of (by simp; omega)]
        rfl
      by_cases hneg : n.tmod 10 < 0
      · rw [if_pos (decide_eq_true hneg)]
        have e2 : IntKind.i64.wrap (0 - n.tmod 10) = ((n.natAbs % 10 : Nat) : Int) := by rw [wrap_in _ (by omega) (by omega)]; omega
        rw [e2]
        exact key _ (by omega)
      · rw [if_neg (by rw [decide_eq_true_iff]; exact hneg)]
        have e2 : n.tmod 10 = ((n.natAbs % 10 : Nat) : Int) := by omega
        rw [e2]
        exact key _ (by omega)
theorem refFormatInt_eq (n : Int) (h1 : IntKind.i64.min ≤ n) (h2 : n ≤ IntKind.i64.max) : caromref08_FormatInt n = some (fmtInt n) := by
  unfold caromref08_FormatInt
  simp only [Let_nr]
  have hl := digs_len 18 n.natAbs (by rw [i64_min] at h1; rw [i64_max] at h2; omega)
  by_cases h0 : n = 0
  · subst h0
    rw [if_pos (by rfl)]
    unfold fmtInt
    rw [if_neg (by decide), show Int.natAbs 0 = 0 from rfl, digs_lt (by omega)]
    rfl
  · rw [if_neg (by rw [beq_iff_eq]; exact h0), ref_digits_eq n h1 h2, if_neg h0]
    unfold fmtInt
    by_cases hn : n < 0
    · rw [if_pos (decide_eq_true hn), if_pos hn, Bind_snr, Chk_of (by omega)]
      rfl
    · rw [if_neg (by rw [decide_eq_true_iff]; exact hn), if_neg hn, Bind_snr]
theorem fmtInt_len (n : Int) (h1 : IntKind.i64.min ≤ n) (h2 : n ≤ IntKind.i64.max) : (fmtInt n).length ≤ 20 ∧ 1 ≤ (fmtInt n).length := by
  have hl := digs_len 18 n.natAbs (by rw [i64_min] at h1; rw [i64_max] at h2; omega)
  have hp := digs_pos n.natAbs
  unfold fmtInt
  split
  · rw [List.length_cons]; omega
  · omega
theorem tdiv64k (x : Int) (h1 : IntKind.i64.min ≤ x) (h2 : x ≤ IntKind.i64.max) : IntKind.i64.wrap (x.tdiv 65536) = x.tdiv 65536 ∧ IntKind.i64.min ≤ x.tdiv 65536 ∧ x.tdiv 65536 ≤ IntKind.i64.max := by
  rw [i64_min] at *
  rw [i64_max] at *
  have e : (x.tdiv 65536).natAbs = x.natAbs / 65536 := by rw [Int.natAbs_tdiv]; rfl
  exact ⟨wrap_in _ (by omega) (by omega), by omega, by omega⟩
theorem get_ix (s : List UInt8) (p : Nat) : (⟨s.toArray⟩ : ByteArray).get! p = ix s (p : Int) := by
  unfold ix
  rw [Int.toNat_natCast]
  show s.toArray[p]! = _
  simp [List.getD_eq_getElem?_getD, getElem!_def]
  cases h : s[p]? <;> simp [h]
theorem dec_lo (s : List UInt8) (p : Nat) (h : ix s (p : Int) < 128) : Utf8.decode ⟨s.toArray⟩ p = ((ix s (p : Int)).toNat, 1) := by
  rw [Lib.decode_at, get_ix]
  unfold Lib.decodeN
  rw [if_pos]
  exact h
theorem dec_hi (s : List UInt8) (p : Nat) (h : ¬ ix s (p : Int) < 128) : 128 ≤ (Utf8.decode ⟨s.toArray⟩ p).1 := by
  rw [Lib.decode_at, get_ix]
  have h' : ¬ (ix s (p : Int)).toNat < 128 := fun q => h q
  unfold Lib.decodeN
  rw [if_neg h']
  split
  · split <;> simp only <;> omega
  · split
    · split <;> simp only <;> omega
    · split
      · split <;> simp only <;> omega
      · simp only; omega
/-- A digit. -/
def isD (c : UInt8) : Bool := decide (48 ≤ c.toNat) && decide (c.toNat ≤ 57)
theorem isD_iff {c : UInt8} : isD c = true ↔ 48 ≤ c.toNat ∧ c.toNat ≤ 57 := by unfold isD; simp
/-- The number that digits tell. -/
def dv (l : List UInt8) : Nat := l.foldl (fun n c => 10 * n + (c.toNat - 48)) 0
theorem dv_snoc (l : List UInt8) (c : UInt8) : dv (l ++ [c]) = 10 * dv l + (c.toNat - 48) := by unfold dv; rw [List.foldl_append]; rfl
theorem take_ix (l : List UInt8) (i : Nat) (h : i < l.length) : l.take (i + 1) = l.take i ++ [ix l (i : Int)] := by
  rw [List.take_add_one, ix_lt l i h, List.getElem?_eq_getElem h]; rfl
def LIM : Nat := 4611686018427387905
def dec (neg : Bool) (n : Nat) : format_decimal := ⟨neg, (min n LIM : Nat), (n % 65536 : Nat)⟩
theorem pd_loop (rest : List UInt8) (neg : Bool) (z bad : format_decimal) (step : (format_decimal × format_decimal × List UInt8 × Nat → Option (format_decimal × Bool)) → format_decimal × format_decimal × List UInt8 × Nat → Option (format_decimal × Bool)) (hl : Sm rest)
    (hs : ∀ (r : format_decimal × format_decimal × List UInt8 × Nat → Option (format_decimal × Bool)) (z : format_decimal) (n p : Nat), p < rest.length → step r (z, dec neg n, rest, p) = if isD (ix rest (p : Int)) = true then r (z, dec neg (10 * n + ((ix rest (p : Int)).toNat - 48)), rest, p + 1) else some (bad, false))
    (he : ∀ (r : format_decimal × format_decimal × List UInt8 × Nat → Option (format_decimal × Bool)) (z d : format_decimal), step r (z, d, rest, rest.length) = some (d, true)) :
    LOOP step fuel (z, dec neg 0, rest, 0) = if rest.all isD = true then some (dec neg (dv rest), true) else some (bad, false) := by
  refine LOOP_g rest (fun v => (v.2.2.2 : Int)) (fun i v => v.2.2.1 = rest ∧ v.2.1 = dec neg (dv (rest.take i))) (fun t _ => if t.all isD = true then some (dec neg (dv rest), true) else some (bad, false)) step _ hl rfl ⟨rfl, rfl⟩ ?_ ?_
  · rintro r i t ⟨z, d, l, p⟩ hp ⟨h1, h2⟩ hw hc hm hr
    simp only at hp h1 h2
    subst h1 h2
    have hp : p = i := by omega
    subst hp
    rw [hs r z _ p (by omega), List.all_cons]
    by_cases hd : isD (ix l (p : Int)) = true
    · rw [if_pos hd, hr _ (by simp) ⟨rfl, by rw [take_ix l p (by omega), dv_snoc]⟩, hd, Bool.true_and]
    · rw [if_neg hd, if_neg (by rw [Bool.and_eq_true]; exact fun h => hd h.1)]
  · rintro r ⟨z, d, l, p⟩ hp ⟨h1, h2⟩
    simp only at hp h1 h2
    subst h1 h2
    have hp : p = l.length := by omega
    subst hp
    rw [he, List.take_length]; rfl
theorem wrap_dig : ∀ k : Nat, k < 10 → IntKind.u64.wrap (IntKind.i32.wrap (k : Int)) = (k : Int) := by decide
theorem HasPrefix1 (s : List UInt8) (c : UInt8) (hl : Sm s) : stringslite_HasPrefix s [c] = some (match s with | [] => false | x :: _ => x == c) := by
  unfold stringslite_HasPrefix
  simp only [Let_nr]
  cases s with
  | nil => rfl
  | cons x l =>
    have e1 : decide (((x :: l).length : Int) ≥ (([c] : List UInt8).length : Int)) = true := by rw [decide_eq_true_iff]; simp; omega
    rw [e1, Chk_of (fun _ => ⟨by simp, by simp; omega⟩)]
    simp
def isNeg : List UInt8 → Bool
  | [] => false
  | x :: _ => x == 45
def body : List UInt8 → List UInt8
  | [] => []
  | x :: l => if x = 45 then l else x :: l
theorem CutMinus (s : List UInt8) (hl : Sm s) : strings_CutPrefix s [45] = some (body s, isNeg s) := by
  unfold strings_CutPrefix stringslite_CutPrefix
  rw [HasPrefix1 s 45 hl, Bind_snr]
  cases s with
  | nil => rfl
  | cons x l =>
    simp only [Let_nr]
    by_cases h : x = 45
    · subst h
      rw [if_neg (by decide), Chk_of ⟨by simp, by simp; omega⟩]
      rfl
    · have e : (x == 45) = false := by rw [beq_eq_false_iff_ne]; exact h
      simp only [e]
      rw [if_pos (by rfl)]
      simp [body, isNeg, h, e, Bind_snr]
/-- The canonical decimal form of an integer. -/
def isInt (s : List UInt8) : Bool := match body s with
  | [] => false
  | x :: l => (x :: l).all isD && (decide (x ≠ 48) || decide (s = [48]))
theorem parseDecimal_eq (s : List UInt8) (hl : Sm s) : format_parseDecimal s = some (if isInt s = true then (dec (isNeg s) (dv (body s)), true) else (⟨false, 0, 0⟩, false)) := by
  unfold format_parseDecimal
  rw [show (#[(45 : UInt8)].toList : List UInt8) = [45] from rfl, CutMinus s hl, Bind_snr]
  simp only [Let_nr, cond_or, cond_and, Join_nr]
  have hbl : Sm (body s) := by
    unfold Sm at hl ⊢
    cases s with
    | nil => exact hl
    | cons x l =>
      show (if x = 45 then l else x :: l).length < 2 ^ 62
      simp only [List.length_cons] at hl
      split
      · omega
      · rw [List.length_cons]; omega
  unfold isInt
  cases hb : body s with
  | nil => rfl
  | cons x l =>
    have e1 : ((x :: l : List UInt8) == #[].toList) = false := rfl
    rw [e1, Chk_of (fun _ => ⟨by simp, by simp⟩)]
    have e2 : ix (x :: l) (0 : Int) = x := rfl
    have e3 : toByte (48 : Int) = 48 := rfl
    rw [e2, e3, Bool.false_or]
    have e4 : (x == 48 && s != [48]) = !(decide (x ≠ 48) || decide (s = [48])) := by
      by_cases h1 : x = 48 <;> by_cases h2 : s = [48] <;> simp [h1, h2]
    rw [e4]
    cases hg : (decide (x ≠ 48) || decide (s = [48]))
    · rw [if_pos (show (!false) = true from rfl)]
      simp only [hg, Bool.and_false, ff, if_false]
    · rw [if_neg (by simp)]
      simp only [hg, Bool.and_true]
      have e0 : ({ negative := isNeg s, magnitude := (0 : Int), unit := (0 : Int) } : format_decimal) = dec (isNeg s) 0 := rfl
      rw [e0]
      refine Eq.trans (pd_loop (x :: l) (isNeg s) ⟨false, 0, 0⟩ ⟨false, 0, 0⟩ _ (by rw [← hb]; exact hbl) ?_ ?_) ?_
      rotate_left 2
      · split <;> rfl
      · intro r z n p hp
        rw [if_pos (by rw [decide_eq_true_iff]; exact hp)]
        simp only
        by_cases hc : ix (x :: l) (p : Int) < 128
        · rw [dec_lo _ _ hc]
          simp only
          generalize ix (x :: l) (p : Int) = c at hc
          by_cases hd : isD c = true
          · obtain ⟨g1, g2⟩ := isD_iff.1 hd
            obtain ⟨k, hk⟩ : ∃ k : Nat, c.toNat = 48 + k := ⟨c.toNat - 48, by omega⟩
            have ek : (c.toNat : Int) - 48 = (k : Int) := by omega
            rw [if_pos hd, if_neg (by simp; omega), ek, wrap_dig k (by omega), show c.toNat - 48 = k by omega]
            have hu : IntKind.u64.wrap (((n % 65536 : Nat) : Int) * 10) = ((n % 65536 * 10 : Nat) : Int) := by rw [u64_eq]; omega
            have hu2 : (IntKind.u64.wrap (((n % 65536 * 10 : Nat) : Int) + (k : Int))).tmod 65536 = (((10 * n + k) % 65536 : Nat) : Int) := by
              rw [u64_eq, Int.tmod_eq_emod_of_nonneg (by omega)]; omega
            unfold dec
            simp only [hu, hu2]
            by_cases hm : ((min n LIM : Nat) : Int) > 461168601842738790
            · rw [if_pos (decide_eq_true hm)]
              congr 3
              unfold LIM at hm ⊢
              congr 1
              omega
            · rw [if_neg (by rw [decide_eq_true_iff]; exact hm)]
              congr 3
              unfold LIM at hm ⊢
              have e5 : IntKind.u64.wrap (((min n 4611686018427387905 : Nat) : Int) * 10) = ((min n 4611686018427387905 * 10 : Nat) : Int) := by rw [u64_eq]; omega
              rw [e5]
              have e6 : IntKind.u64.wrap (((min n 4611686018427387905 * 10 : Nat) : Int) + (k : Int)) = ((min n 4611686018427387905 * 10 + k : Nat) : Int) := by rw [u64_eq]; omega
              rw [e6]
              congr 1
              omega
          · rw [if_neg hd, if_pos]
            rw [isD_iff] at hd
            simp; omega
        · have := dec_hi _ _ hc
          have hd : ¬ isD (ix (x :: l) (p : Int)) = true := by
            rw [isD_iff]
            have : ¬ (ix (x :: l) (p : Int)).toNat < 128 := fun q => hc q
            omega
          rw [if_neg hd, if_pos]
          simp; omega
      · intro r z d
        rw [if_neg (by simp)]

def sgn (s : List UInt8) (n : Nat) : Int := if isNeg s = true then -(n : Int) else (n : Int)
/-- What ParseInt answers. -/
def pInt (s : List UInt8) : Int × Int := if isInt s = true then (if dv (body s) ≤ 4611686018427387904 then (sgn s (dv (body s)), 0) else (0, 6)) else (0, 3)
theorem value_eq (s : List UInt8) (n : Nat) (h : n ≤ 4611686018427387904) : format_decimal_value (dec (isNeg s) n) = some (sgn s n) := by
  unfold format_decimal_value dec sgn LIM
  have e : IntKind.i64.wrap ((min n 4611686018427387905 : Nat) : Int) = (n : Int) := by rw [wrap_in _ (by omega) (by omega)]; omega
  simp only [Let_nr, e]
  cases isNeg s
  · rfl
  · simp only [if_true]
    rw [wrap_in _ (by omega) (by omega)]
    congr 1; omega
theorem ParseInt_eq (s : List UInt8) (hl : Sm s) : format_ParseInt s = some (pInt s) := by
  unfold format_ParseInt pInt
  rw [parseDecimal_eq s hl, Bind_snr]
  simp only [Let_nr]
  cases hi : isInt s
  · rfl
  · simp only [if_true, Bool.not_true, ff, if_false]
    by_cases h : dv (body s) ≤ 4611686018427387904
    · rw [if_pos h, if_neg, value_eq s _ h, Bind_snr]
      unfold dec LIM
      rw [decide_eq_true_iff]
      simp only; omega
    · rw [if_neg h, if_pos]
      unfold dec LIM
      rw [decide_eq_true_iff]
      simp only; omega
/-- The number that digits tell behind others. -/
def dvf (n : Nat) (l : List UInt8) : Nat := l.foldl (fun n c => 10 * n + (c.toNat - 48)) n
theorem dvf_cons (n : Nat) (c : UInt8) (l : List UInt8) : dvf n (c :: l) = dvf (10 * n + (c.toNat - 48)) l := by unfold dvf; rw [List.foldl_cons]
theorem dvf_ge : ∀ (l : List UInt8) (n : Nat), n ≤ dvf n l
  | [], _ => Nat.le_refl _
  | c :: l, n => by rw [dvf_cons]; have := dvf_ge l (10 * n + (c.toNat - 48)); omega
theorem w1 (i : Nat) (h : i < 2 ^ 62) : IntKind.i64.wrap ((i : Int) + 1) = ((i + 1 : Nat) : Int) := by rw [w64_s i h]; omega
def chkI : List UInt8 → Bool
  | [] => false
  | x :: l => (x :: l).all isD && decide (x ≠ 48)
theorem IsInteger_eq (s : List UInt8) (hl : Sm s) : caromref08_IsInteger s = some (isInt s) := by
  unfold caromref08_IsInteger
  simp only [Let_nr, Join_nr]
  by_cases h0 : s = [48]
  · subst h0; rfl
  · have e0 : (s == #[48].toList) = false := by rw [beq_eq_false_iff_ne]; exact h0
    rw [e0]
    simp only [ff, if_false]
    have loop : ∀ (l : List UInt8) (step : (Int → Option Bool) → Int → Option Bool), Sm l →
        (∀ (r : Int → Option Bool) (i : Nat), IntKind.i64.wrap ((i : Int) + 1) = (i : Int) + 1 → (0 ≤ (i : Int) ∧ (i : Int) < (l.length : Int)) → ix l (i : Int) ∈ l → step r (i : Int) = if isD (ix l (i : Int)) = true then r ((i : Int) + 1) else some false) →
        (∀ (r : Int → Option Bool), step r (l.length : Int) = some (match l with | [] => false | x :: _ => decide (x ≠ 48))) →
        LOOP step fuel (0 : Int) = some (chkI l) := by
      intro l step hl hs he
      rw [LOOP_all l isD _ _ step hl hs he]
      cases l with
      | nil => rfl
      | cons x l => unfold chkI; simp only; cases (x :: l).all isD <;> rfl
    have stepD : ∀ (l : List UInt8) (i : Nat) (X : Option Bool), (0 ≤ (i : Int) ∧ (i : Int) < (l.length : Int)) → (if (bif decide (ix l (i : Int) < toByte 48) then true else decide (toByte 57 < ix l (i : Int))) = true then some false else X) = if isD (ix l (i : Int)) = true then X else some false := by
      intro l i X _
      generalize ix l (i : Int) = c
      have e1 : (c < toByte 48) ↔ c.toNat < 48 := Iff.rfl
      have e2 : (toByte 57 < c) ↔ 57 < c.toNat := Iff.rfl
      by_cases hd : isD c = true
      · rw [if_pos hd]
        obtain ⟨g1, g2⟩ := isD_iff.1 hd
        rw [if_neg]
        rw [cond_or, Bool.or_eq_true, decide_eq_true_iff, decide_eq_true_iff, e1, e2]; omega
      · rw [if_neg hd]
        rw [isD_iff] at hd
        rw [if_pos]
        rw [cond_or, Bool.or_eq_true, decide_eq_true_iff, decide_eq_true_iff, e1, e2]; omega
    have fin : ∀ (l : List UInt8) , (Chk ((decide ((l.length : Int) > 0) == true) = true → (0 : Int) ≤ 0 ∧ (0 : Int) < (l.length : Int)) (some (bif decide ((l.length : Int) > 0) then ix l 0 != toByte 48 else false))) = some (match l with | [] => false | x :: _ => decide (x ≠ 48)) := by
      intro l
      cases l with
      | nil => rfl
      | cons x l =>
        rw [Chk_of (fun _ => ⟨by omega, by simp⟩)]
        have e : decide (((x :: l).length : Int) > 0) = true := by simp
        rw [e]
        show some (x != 48) = some (decide (x ≠ 48))
        congr 1
        by_cases h : x = 48 <;> simp [h]
    have main : ∀ l : List UInt8, Sm l → LOOP (fun (rec250 : Int → Option Bool) (s251 : Int) =>
        if decide (s251 < (l.length : Int)) = true then
          Chk (0 ≤ s251 ∧ s251 < (l.length : Int)) (Chk ((decide (ix l s251 < toByte 48) == false) = true → 0 ≤ s251 ∧ s251 < (l.length : Int))
            (if (bif decide (ix l s251 < toByte 48) then true else decide (toByte 57 < ix l s251)) = true then some false else rec250 (IntKind.i64.wrap (s251 + 1))))
        else Chk ((decide ((l.length : Int) > 0) == true) = true → (0 : Int) ≤ 0 ∧ (0 : Int) < (l.length : Int)) (some (bif decide ((l.length : Int) > 0) then ix l 0 != toByte 48 else false))) fuel (0 : Int) = some (chkI l) := by
      intro l hl
      refine loop l _ hl ?_ ?_
      · intro r i hw hc hm
        simp only [dlt hc, if_true]
        rw [Chk_of hc, Chk_of (fun _ => hc), stepD l i _ hc, hw]
      · intro r
        simp only [dll, ff, if_false]
        exact fin l
    cases s with
    | nil => 
      refine (show Chk _ _ = Chk _ _ from rfl).trans ?_
      rw [Chk_of (by intro h; cases h)]
      exact main [] hl
    | cons x l =>
      rw [Chk_of (fun _ => ⟨by omega, by simp⟩)]
      have e : decide (((x :: l).length : Int) > 0) = true := by simp
      have hc : (bif decide (((x :: l).length : Int) > 0) then ix (x :: l) 0 == toByte 45 else false) = (x == 45) := by rw [e]; rfl
      rw [hc]
      by_cases h : x = 45
      · rw [if_pos (by rw [h]; rfl), Chk_of ⟨by omega, by rw [List.length_cons]; omega⟩]
        refine (main ((x :: l).drop 1) (by unfold Sm at hl ⊢; simp at hl ⊢; omega)).trans ?_
        show some (chkI l) = some (isInt (x :: l))
        congr 1
        unfold isInt chkI
        rw [show body (x :: l) = l from if_pos h]
        cases l with
        | nil => rfl
        | cons y l =>
          simp only
          have : decide (x :: y :: l = [48]) = false := by simp
          rw [this, Bool.or_false]
      · rw [if_neg (by simpa using h)]
        refine (main (x :: l) hl).trans ?_
        congr 1
        unfold isInt chkI
        rw [show body (x :: l) = x :: l from if_neg h]
        simp only
        rw [decide_eq_false h0, Bool.or_false]
theorem refLoop (s : List UInt8) (hl : Sm s) (lim : Int) (hlim : 9 ≤ lim ∧ lim ≤ 4611686018427387904) (fin : Int → Bool → Option (Int × Bool)) (step : (Int × Bool × Int → Option (Int × Bool)) → Int × Bool × Int → Option (Int × Bool))
    (hs : ∀ (r : Int × Bool × Int → Option (Int × Bool)) (n i : Nat) (neg : Bool), i < s.length → (n : Int) ≤ lim → isD (ix s (i : Int)) = true → step r ((n : Int), neg, (i : Int)) = if ((10 * n + ((ix s (i : Int)).toNat - 48) : Nat) : Int) ≤ lim then r (((10 * n + ((ix s (i : Int)).toNat - 48) : Nat) : Int), neg, ((i + 1 : Nat) : Int)) else some (0, false))
    (he : ∀ (r : Int × Bool × Int → Option (Int × Bool)) (n : Nat) (neg : Bool), step r ((n : Int), neg, (s.length : Int)) = fin n neg) :
    ∀ (k i n : Nat) (neg : Bool), i ≤ s.length → s.length - i < k → (n : Int) ≤ lim → (s.drop i).all isD = true → LOOP step k ((n : Int), neg, (i : Int)) = if (dvf n (s.drop i) : Int) ≤ lim then fin (dvf n (s.drop i)) neg else some (0, false)
  | 0, i, n, neg, _, h, _, _ => by omega
  | k + 1, i, n, neg, hi, hk, hn, hd => by
    rw [LOOP_s]
    by_cases h : i < s.length
    · rw [drop_ix s i h] at hd ⊢
      rw [List.all_cons, Bool.and_eq_true] at hd
      rw [hs _ n i neg h hn hd.1, dvf_cons]
      by_cases hq : ((10 * n + ((ix s (i : Int)).toNat - 48) : Nat) : Int) ≤ lim
      · rw [if_pos hq, refLoop s hl lim hlim fin step hs he k (i + 1) _ neg (by omega) (by omega) hq hd.2]
      · rw [if_neg hq, if_neg]
        have := dvf_ge (s.drop (i + 1)) (10 * n + ((ix s (i : Int)).toNat - 48))
        omega
    · have : i = s.length := by omega
      subst this
      rw [he, List.drop_length, if_pos (by exact hn)]
      rfl


theorem body_drop (s : List UInt8) : body s = s.drop (if isNeg s = true then 1 else 0) := by
  cases s with
  | nil => rfl
  | cons x l =>
    by_cases h : x = 45
    · subst h; rfl
    · have e : isNeg (x :: l) = false := by show (x == 45) = false; simpa using h
      rw [e]
      exact if_neg h
theorem isInt_body {s : List UInt8} (h : isInt s = true) : (body s).all isD = true ∧ body s ≠ [] := by
  unfold isInt at h
  cases hb : body s with
  | nil => rw [hb] at h; cases h
  | cons x l => rw [hb] at h; simp only [Bool.and_eq_true] at h; exact ⟨h.1, by simp⟩
theorem tdiv10 (a : Int) (h : 0 ≤ a) : a.tdiv 10 = a / 10 := Int.tdiv_eq_ediv_of_nonneg h
theorem refAll (s : List UInt8) (hl : Sm s) (lim : Int) (hlim : 9 ≤ lim ∧ lim ≤ 4611686018427387904) (hd : (body s).all isD = true) (fin : Int → Bool → Option (Int × Bool)) (step : (Int × Bool × Int → Option (Int × Bool)) → Int × Bool × Int → Option (Int × Bool))
    (hs : ∀ (r : Int × Bool × Int → Option (Int × Bool)) (n i : Nat) (neg : Bool), i < s.length → (n : Int) ≤ lim → isD (ix s (i : Int)) = true → step r ((n : Int), neg, (i : Int)) = if ((10 * n + ((ix s (i : Int)).toNat - 48) : Nat) : Int) ≤ lim then r (((10 * n + ((ix s (i : Int)).toNat - 48) : Nat) : Int), neg, ((i + 1 : Nat) : Int)) else some (0, false))
    (he : ∀ (r : Int × Bool × Int → Option (Int × Bool)) (n : Nat) (neg : Bool), step r ((n : Int), neg, (s.length : Int)) = fin n neg)
    (hm : ∀ (r : Int × Bool × Int → Option (Int × Bool)), ix s 0 = 45 → 0 < s.length → step r (0, false, 0) = r (0, true, 1)) :
    LOOP step fuel (0, false, 0) = if (dv (body s) : Int) ≤ lim then fin (dv (body s)) (isNeg s) else some (0, false) := by
  have key := refLoop s hl lim hlim fin step hs he
  cases s with
  | nil => exact key fuel 0 0 false (Nat.le_refl _) (by have : fuel = 2 ^ 70 := rfl; simp; omega) (by omega) rfl
  | cons x l =>
    have hfu : fuel = (2 ^ 70 - 1) + 1 := rfl
    by_cases h : x = 45
    · have e1 : body (x :: l) = l := if_pos h
      have e2 : isNeg (x :: l) = true := by subst h; rfl
      rw [e1] at hd ⊢
      rw [e2, hfu, LOOP_s, hm _ (by subst h; rfl) (by simp)]
      exact key (2 ^ 70 - 1) 1 0 true (by simp) (by unfold Sm at hl; omega) (by omega) hd
    · have e1 : body (x :: l) = x :: l := if_neg h
      have e2 : isNeg (x :: l) = false := by show (x == 45) = false; simpa using h
      rw [e1] at hd ⊢
      rw [e2]
      exact key fuel 0 0 false (by simp) (by unfold Sm at hl; rw [hfu]; omega) (by omega) hd
theorem refValue_eq (s : List UInt8) (hl : Sm s) (hi : isInt s = true) (lim : Int) (hlim : 9 ≤ lim ∧ lim ≤ 4611686018427387904) : caromref08_value s lim = some (if (dv (body s) : Int) ≤ lim then (sgn s (dv (body s)), true) else (0, false)) := by
  obtain ⟨hd, hne⟩ := isInt_body hi
  unfold caromref08_value
  simp only [Let_nr, Join_nr]
  refine (refAll s hl lim hlim hd (fun n neg => if neg = true then some (IntKind.i64.wrap (0 - n), true) else some (n, true)) _ ?_ ?_ ?_).trans ?_
  rotate_left 3
  · unfold sgn
    split
    · cases isNeg s
      · rfl
      · simp only [if_true]
        rw [wrap_in _ (by omega) (by omega)]
        congr 2; omega
    · rfl
  · intro r n i neg hi2 hn hd2
    simp only
    rw [if_pos (by rw [decide_eq_true_iff]; omega)]
    have hc : 0 ≤ (i : Int) ∧ (i : Int) < (s.length : Int) := ⟨by omega, by omega⟩
    rw [Chk_of hc]
    obtain ⟨g1, g2⟩ := isD_iff.1 hd2
    generalize ix s (i : Int) = c at g1 g2
    have hn45 : (c == toByte 45) = false := by
      rw [beq_eq_false_iff_ne]
      rintro rfl
      revert g1; decide
    rw [hn45]
    simp only [ff, if_false]
    rw [Chk_of hc]
    obtain ⟨k, hk⟩ : ∃ k : Nat, c.toNat = 48 + k := ⟨c.toNat - 48, by omega⟩
    have e1 : IntKind.i64.wrap ((c.toNat : Int) - 48) = (k : Int) := by rw [wrap_in _ (by omega) (by omega)]; omega
    rw [e1, show c.toNat - 48 = k by omega]
    have e2 : IntKind.i64.wrap (lim - (k : Int)) = lim - k := wrap_in _ (by omega) (by omega)
    rw [e2, tdiv10 _ (by omega), wrap_in ((lim - (k : Int)) / 10) (by omega) (by omega), w1 i (by unfold Sm at hl; omega)]
    by_cases hq : ((10 * n + k : Nat) : Int) ≤ lim
    · rw [if_pos hq, if_neg (by rw [decide_eq_true_iff]; omega), wrap_in (10 * (n : Int)) (by omega) (by omega), wrap_in (10 * (n : Int) + k) (by omega) (by omega)]
      congr 2
    · rw [if_neg hq, if_pos (by rw [decide_eq_true_iff]; omega)]
  · intro r n neg
    simp only [dll, ff, if_false]
  · intro r hx hlen
    simp only
    rw [if_pos (by rw [decide_eq_true_iff]; omega), Chk_of ⟨by omega, by omega⟩, hx]
    rfl

theorem refParseInt_eq (s : List UInt8) (hl : Sm s) : caromref08_ParseInt s = some (pInt s) := by
  unfold caromref08_ParseInt pInt
  rw [IsInteger_eq s hl, Bind_snr]
  simp only [Let_nr]
  cases hi : isInt s
  · rfl
  · rw [refValue_eq s hl hi _ (by omega)]
    simp only [Bool.not_true, ff, if_false, if_true, Bind_snr]
    by_cases h : dv (body s) ≤ 4611686018427387904
    · have h' : (dv (body s) : Int) ≤ 4611686018427387904 := by omega
      simp only [if_pos h, if_pos h', Bool.not_true, ff, if_false]
    · have h' : ¬ (dv (body s) : Int) ≤ 4611686018427387904 := by omega
      simp only [if_neg h, if_neg h', Bool.not_false, if_true]
theorem dvf_mod : ∀ (l : List UInt8) (a b : Nat), a % 65536 = b % 65536 → dvf a l % 65536 = dvf b l % 65536
  | [], _, _, h => h
  | c :: l, a, b, h => by rw [dvf_cons, dvf_cons]; exact dvf_mod l _ _ (by omega)
theorem remLoop (s : List UInt8) (step : (Int × Int → Option Int) → Int × Int → Option Int)
    (hs : ∀ (r : Int × Int → Option Int) (n i : Nat), i < s.length → n < 65536 → isD (ix s (i : Int)) = true → step r ((n : Int), (i : Int)) = r ((((10 * n + ((ix s (i : Int)).toNat - 48)) % 65536 : Nat) : Int), ((i + 1 : Nat) : Int)))
    (he : ∀ (r : Int × Int → Option Int) (n : Nat), step r ((n : Int), (s.length : Int)) = some (n : Int)) :
    ∀ (k i n : Nat), i ≤ s.length → s.length - i < k → n < 65536 → (s.drop i).all isD = true → LOOP step k ((n : Int), (i : Int)) = some ((dvf n (s.drop i) % 65536 : Nat) : Int)
  | 0, i, n, _, h, _, _ => by omega
  | k + 1, i, n, hi, hk, hn, hd => by
    rw [LOOP_s]
    by_cases h : i < s.length
    · rw [drop_ix s i h] at hd ⊢
      rw [List.all_cons, Bool.and_eq_true] at hd
      rw [hs _ n i h hn hd.1, dvf_cons, remLoop s step hs he k (i + 1) _ (by omega) (by omega) (Nat.mod_lt _ (by decide)) hd.2]
      congr 2
      exact dvf_mod _ _ _ (by omega)
    · have : i = s.length := by omega
      subst this
      rw [he, List.drop_length]
      congr 2
      exact (Nat.mod_eq_of_lt hn).symm
/-- A suffix of one byte: is it there; the rest. -/
def endsC (c : UInt8) (s : List UInt8) : Bool := decide (s.getLast? = some c)
def cutC (c : UInt8) (s : List UInt8) : List UInt8 := if endsC c s = true then s.dropLast else s
theorem drop_last (s : List UInt8) (h : s ≠ []) : s.drop (s.length - 1) = [s.getLast h] := by
  rw [List.drop_eq_getElem_cons (by have := List.length_pos_iff.2 h; omega), List.getLast_eq_getElem, List.drop_of_length_le (by omega)]
/-- What ParseFixed answers. -/
def pFix (s : List UInt8) : Int × Int :=
  if isInt (cutC 117 s) = false ∨ (endsC 117 s = true ∧ dv (body (cutC 117 s)) = 0) ∨ (endsC 117 s = false ∧ dv (body (cutC 117 s)) ≠ 0 ∧ dv (body (cutC 117 s)) % 65536 = 0) then (0, 3)
  else if endsC 117 s = true then (if dv (body (cutC 117 s)) ≤ 8191 then (sgn (cutC 117 s) (dv (body (cutC 117 s))) * 65536, 0) else (0, 6))
  else (if dv (body (cutC 117 s)) ≤ 536870911 then (sgn (cutC 117 s) (dv (body (cutC 117 s))), 0) else (0, 6))
theorem cutC_sm {c : UInt8} {s : List UInt8} (h : Sm s) : Sm (cutC c s) := by
  unfold cutC
  split
  · unfold Sm at h ⊢; rw [List.length_dropLast]; omega
  · exact h
theorem isInt_zero {t : List UInt8} (h : isInt t = true) : dv (body t) = 0 ↔ t = [48] := by
  obtain ⟨hd, hne⟩ := isInt_body h
  constructor
  · intro h0
    unfold isInt at h
    cases hb : body t with
    | nil => exact absurd hb hne
    | cons x l =>
      rw [hb] at h h0 hd
      simp only [Bool.and_eq_true, Bool.or_eq_true, decide_eq_true_eq] at h
      rcases h.2 with h2 | h2
      · exfalso
        have g := List.all_eq_true.1 hd x (by simp)
        obtain ⟨g1, g2⟩ := isD_iff.1 g
        have hx : x.toNat ≠ 48 := fun q => h2 (UInt8.toNat_inj.1 q)
        have h3 : dv (x :: l) = dvf (10 * 0 + (x.toNat - 48)) l := dvf_cons 0 x l
        have := dvf_ge l (10 * 0 + (x.toNat - 48))
        omega
      · exact h2
  · rintro rfl; rfl
theorem dvf_pow : ∀ (l : List UInt8) (n : Nat), n * 10 ^ l.length ≤ dvf n l
  | [], n => by simp [dvf]
  | c :: l, n => by
    rw [dvf_cons, List.length_cons, Nat.pow_succ, Nat.mul_comm (10 ^ l.length) 10, ← Nat.mul_assoc]
    refine Nat.le_trans (Nat.mul_le_mul_right _ ?_) (dvf_pow l _)
    omega
theorem dv_rep (c : UInt8) (h1 : 49 ≤ c.toNat) (k : Nat) (hk : 20 ≤ k) : 4611686018427387904 < dv (List.replicate k c) := by
  obtain ⟨j, rfl⟩ : ∃ j, k = j + 1 := ⟨k - 1, by omega⟩
  rw [List.replicate_succ]
  show _ < dvf 0 (c :: _)
  rw [dvf_cons]
  have h := dvf_pow (List.replicate j c) (10 * 0 + (c.toNat - 48))
  rw [List.length_replicate] at h
  have e : (10 : Nat) ^ 19 ≤ 10 ^ j := Nat.pow_le_pow_right (by decide) (by omega)
  have h2 : 1 * 10 ^ j ≤ (10 * 0 + (c.toNat - 48)) * 10 ^ j := Nat.mul_le_mul_right _ (by omega)
  omega
def digitsS (c : UInt8) (k : Nat) (neg : Bool) : List UInt8 := if neg = true then 45 :: List.replicate k c else List.replicate k c
theorem digits_facts (c : UInt8) (h1 : 49 ≤ c.toNat) (h2 : c.toNat ≤ 57) (k : Nat) (hk : 20 ≤ k) (neg : Bool) :
    isInt (digitsS c k neg) = true ∧ body (digitsS c k neg) = List.replicate k c := by
  obtain ⟨j, rfl⟩ : ∃ j, k = j + 1 := ⟨k - 1, by omega⟩
  have hb : body (digitsS c (j + 1) neg) = List.replicate (j + 1) c := by
    unfold digitsS
    cases neg
    · rw [if_neg (by decide), List.replicate_succ]
      refine if_neg ?_
      rintro rfl
      revert h1; decide
    · rfl
  refine ⟨?_, hb⟩
  unfold isInt
  rw [hb, List.replicate_succ]
  simp only
  rw [Bool.and_eq_true, List.all_eq_true]
  refine ⟨?_, ?_⟩
  · intro x hx
    rw [← List.replicate_succ] at hx
    have := (List.mem_replicate.1 hx).2
    subst this
    exact isD_iff.2 ⟨by omega, h2⟩
  · have : c ≠ 48 := by rintro rfl; revert h1; decide
    simp [this]
theorem rep_snoc (c : UInt8) (i : Nat) : List.replicate i c ++ [c] = List.replicate (i + 1) c := by rw [List.replicate_succ']
theorem isInt_all {s : List UInt8} (h : ∃ c ∈ body s, isD c = false) : isInt s = false := by
  obtain ⟨c, hc, hd⟩ := h
  cases hi : isInt s
  · rfl
  · have := List.all_eq_true.1 (isInt_body hi).1 c hc
    rw [hd] at this; cases this
theorem body_snoc (s : List UInt8) (h : s ≠ []) (c : UInt8) : body (s ++ [c]) = body s ++ [c] := by
  cases s with
  | nil => exact absurd rfl h
  | cons x l =>
    show (if x = 45 then l ++ [c] else (x :: l) ++ [c]) = (if x = 45 then l else x :: l) ++ [c]
    split <;> rfl
theorem count_loop {X : Type} (c : UInt8) (N : Nat) (fin : Option X) (step : (List UInt8 × Int → Option X) → List UInt8 × Int → Option X)
    (hs : ∀ (r : List UInt8 × Int → Option X) (i : Nat), i < N → step r (List.replicate i c, (i : Int)) = r (List.replicate (i + 1) c, ((i + 1 : Nat) : Int)))
    (he : ∀ (r : List UInt8 × Int → Option X), step r (List.replicate N c, (N : Int)) = fin) : ∀ (k i : Nat), i ≤ N → N - i < k → LOOP step k (List.replicate i c, (i : Int)) = fin
  | 0, i, _, h => by omega
  | k + 1, i, h1, h2 => by
    rw [LOOP_s]
    by_cases h : i < N
    · rw [hs _ i h, count_loop c N fin step hs he k (i + 1) (by omega) (by omega)]
    · have : i = N := by omega
      subst this
      exact he _
theorem one_char (d : UInt8) : ∃ c : UInt8, 49 ≤ c.toNat ∧ c.toNat ≤ 57 ∧ sub [49, 50, 51, 52, 53, 54, 55, 56, 57] ((d % toByte 9).toNat : Int) ((d % toByte 9 + toByte 1).toNat : Int) = [c] ∧
    (0 : Int) ≤ ((d % toByte 9).toNat : Int) ∧ ((d % toByte 9).toNat : Int) ≤ ((d % toByte 9 + toByte 1).toNat : Int) ∧ ((d % toByte 9 + toByte 1).toNat : Int) ≤ ((9 : Nat) : Int) := by
  have h : d.toNat % 9 < 9 := Nat.mod_lt _ (by decide)
  have e1 : (d % toByte 9).toNat = d.toNat % 9 := by
    rw [UInt8.toNat_mod]; rfl
  have e2 : (d % toByte 9 + toByte 1).toNat = d.toNat % 9 + 1 := by
    rw [UInt8.toNat_add, e1]
    show (d.toNat % 9 + 1) % 256 = _
    omega
  rw [e1, e2]
  generalize d.toNat % 9 = k at h
  have : ∀ k : Nat, k < 9 → sub [49, 50, 51, 52, 53, 54, 55, 56, 57] (k : Int) ((k + 1 : Nat) : Int) = [UInt8.ofNat (49 + k)] ∧ 49 ≤ (UInt8.ofNat (49 + k)).toNat ∧ (UInt8.ofNat (49 + k)).toNat ≤ 57 := by decide
  obtain ⟨g1, g2, g3⟩ := this k h
  exact ⟨_, g2, g3, g1, by omega, by omega, by omega⟩
/-- The pieces of a text between the bytes c. -/
def spl (c : UInt8) : List UInt8 → List (List UInt8)
  | [] => [[]]
  | x :: l => if x = c then [] :: spl c l else match spl c l with
    | [] => [[x]]
    | p :: ps => (x :: p) :: ps
theorem spl_cons (c x : UInt8) (l : List UInt8) : spl c (x :: l) = if x = c then [] :: spl c l else match spl c l with
    | [] => [[x]]
    | p :: ps => (x :: p) :: ps := by rw [spl]
theorem spl_ne (c : UInt8) : ∀ l, spl c l ≠ []
  | [] => by simp [spl]
  | x :: l => by
    unfold spl
    split
    · simp
    · split <;> simp
theorem spl_len (c : UInt8) : ∀ l, (spl c l).length = l.count c + 1
  | [] => rfl
  | x :: l => by
    unfold spl
    have ih := spl_len c l
    by_cases h : x = c
    · rw [if_pos h, List.length_cons, ih, h, List.count_cons_self]
    · rw [if_neg h, List.count_cons_of_ne h]
      split
      · rename_i h2; exact absurd h2 (spl_ne c l)
      · rename_i p ps h2; rw [h2] at ih; exact ih
/-- At the first c. -/
theorem spl_at (c : UInt8) : ∀ l, (Lib.indexByte l c < 0 ∧ spl c l = [l]) ∨ (∃ i : Nat, Lib.indexByte l c = (i : Int) ∧ i < l.length ∧ spl c l = l.take i :: spl c (l.drop (i + 1)))
  | [] => .inl ⟨by unfold Lib.indexByte; decide, rfl⟩
  | x :: l => by
    unfold Lib.indexByte
    by_cases h : x = c
    · right
      refine ⟨0, by rw [if_pos (by simpa using h)]; rfl, by simp, ?_⟩
      rw [spl_cons, if_pos h]
      rfl
    · have hb : ¬ (x == c) = true := by simpa using h
      rw [if_neg hb]
      rcases spl_at c l with ⟨h1, h2⟩ | ⟨i, h1, h2, h3⟩
      · left
        have : Lib.indexByte l c = -1 := by have := Lib.indexByte_ge l c; omega
        rw [this]
        refine ⟨by decide, ?_⟩
        rw [spl_cons, if_neg h, h2]
      · right
        refine ⟨i + 1, ?_, by simpa using h2, ?_⟩
        · rw [h1, if_neg (by rw [beq_iff_eq]; omega)]; rfl
        · rw [spl_cons, if_neg h, h3]
          rfl
theorem genLoop (c : UInt8) (N : Nat) (hN : N < 2 ^ 62) (K : List UInt8 → Nat → List (List UInt8) → Option (List (List UInt8))) (step : (List UInt8 × Int × List (List UInt8) → Option (List (List UInt8))) → List UInt8 × Int × List (List UInt8) → Option (List (List UInt8)))
    (hs : ∀ (r : List UInt8 × Int × List (List UInt8) → Option (List (List UInt8))) (s : List UInt8) (i : Nat) (a : List (List UInt8)), a.length = N + 1 → i ≤ N → s.length < 2 ^ 62 →
      step r (s, (i : Int), a) = if (i : Int) < (N : Int) then (if Lib.indexByte s c < 0 then K s i a else r (s.drop ((Lib.indexByte s c).toNat + 1), ((i + 1 : Nat) : Int), a.set i (s.take (Lib.indexByte s c).toNat))) else K s i a) :
    ∀ (k i : Nat) (s : List UInt8) (a : List (List UInt8)), s.length < 2 ^ 62 → a.length = N + 1 → i + s.count c = N → s.count c < k →
      ∃ s' a', a'.length = N + 1 ∧ a'.take N = a.take i ++ (spl c s).dropLast ∧ spl c s = (spl c s).dropLast ++ [s'] ∧ LOOP step k (s, (i : Int), a) = K s' N a'
  | 0, i, s, a, _, _, _, h => by omega
  | k + 1, i, s, a, hl, ha, hi, hk => by
    rw [LOOP_s, hs _ s i a ha (by omega) hl]
    have hlen := spl_len c s
    rcases spl_at c s with ⟨h1, h2⟩ | ⟨j, h1, h2, h3⟩
    · rw [h2] at hlen
      have h0 : s.count c = 0 := by simp at hlen; exact hlen
      have : i = N := by omega
      subst this
      refine ⟨s, a, ha, by rw [h2]; simp, by rw [h2]; rfl, ?_⟩
      rw [if_neg (by omega)]
    · rw [h3] at hlen
      rw [List.length_cons, spl_len] at hlen
      rw [if_pos (by omega), if_neg (by omega), h1, Int.toNat_natCast]
      obtain ⟨s', a', g1, g2, g3, g4⟩ := genLoop c N hN K step hs k (i + 1) (s.drop (j + 1)) (a.set i (s.take j)) (by rw [List.length_drop]; omega) (by rw [List.length_set]; exact ha) (by omega) (by omega)
      refine ⟨s', a', g1, ?_, ?_, g4⟩
      · rw [g2, h3]
        have : (s.take j :: spl c (s.drop (j + 1))).dropLast = s.take j :: (spl c (s.drop (j + 1))).dropLast := by
          rw [List.dropLast_cons_of_ne_nil (spl_ne _ _)]
        rw [this, List.take_add_one]
        have e1 : (a.set i (s.take j)).take i = a.take i := by
          rw [List.take_set_of_le (Nat.le_refl _)]
        rw [e1, List.getElem?_set_self (by omega)]
        simp
      · rw [h3, List.dropLast_cons_of_ne_nil (spl_ne _ _), List.cons_append, ← g3]
theorem Split_eq (s : List UInt8) (c : UInt8) (hl : s.length ≤ 1000000) : strings_Split s [c] = some (spl c s) := by
  unfold strings_Split strings_genSplit
  simp only [Let_nr, Join_nr]
  have hcnt : s.count c ≤ s.length := List.count_le_length
  have e1 : ((-1 : Int) == 0) = false := rfl
  have e2 : (([c] : List UInt8) == #[].toList) = false := rfl
  have e3 : decide ((-1 : Int) < 0) = true := rfl
  rw [e1, e2, e3]
  simp only [ff, if_false, if_true]
  unfold strings_Count count1
  simp only [Bind_snr]
  have e4 : IntKind.i64.wrap ((s.count c : Int) + 1) = ((s.count c + 1 : Nat) : Int) := w1 _ (by omega)
  have e5 : IntKind.i64.wrap ((s.length : Int) + 1) = ((s.length + 1 : Nat) : Int) := w1 _ (by omega)
  have e6 : min ((s.count c + 1 : Nat) : Int) ((s.length + 1 : Nat) : Int) = ((s.count c + 1 : Nat) : Int) := by omega
  rw [e4, e5, e6, Chk_of ⟨by omega, by omega, by omega, by omega⟩]
  have e7 : IntKind.i64.wrap (((s.count c + 1 : Nat) : Int) - 1) = (s.count c : Int) := by rw [wrap_in _ (by omega) (by omega)]; omega
  rw [e7, Int.toNat_natCast]
  have main : ∀ (step : (List UInt8 × Int × List (List UInt8) → Option (List (List UInt8))) → List UInt8 × Int × List (List UInt8) → Option (List (List UInt8))),
      (∀ (r : List UInt8 × Int × List (List UInt8) → Option (List (List UInt8))) (s0 : List UInt8) (i : Nat) (a : List (List UInt8)), a.length = s.count c + 1 → i ≤ s.count c → s0.length < 2 ^ 62 →
      step r (s0, (i : Int), a) = if (i : Int) < (s.count c : Int) then (if Lib.indexByte s0 c < 0 then some ((a.set i s0).take (i + 1)) else r (s0.drop ((Lib.indexByte s0 c).toNat + 1), ((i + 1 : Nat) : Int), a.set i (s0.take (Lib.indexByte s0 c).toNat))) else some ((a.set i s0).take (i + 1))) →
      (Rx.Bind (LOOP step fuel (s, (0 : Int), List.replicate (s.count c + 1) [])) fun (r : List (List UInt8)) => some r) = some (spl c s) := by
    intro step hs
    obtain ⟨s', a', g1, g2, g3, g4⟩ := genLoop c (s.count c) (by omega) (fun s i a => some ((a.set i s).take (i + 1))) step hs fuel 0 s (List.replicate (s.count c + 1) []) (by omega) (by simp) (by omega) (by have : fuel = 2 ^ 70 := rfl; omega)
    refine (congrArg (fun m => Rx.Bind m _) g4).trans ?_
    rw [Bind_snr, List.take_add_one, List.take_set_of_le (Nat.le_refl _), g2, List.getElem?_set_self (by omega)]
    simp only [List.take_zero, List.nil_append]
    rw [g3]
    simp
  refine main _ ?_
  intro r s0 i a ha hi hs
  simp only
  unfold strings_Index index1
  simp only [Bind_snr]
  have hix := spl_at c s0
  have f1 : IntKind.i64.wrap ((i : Int) + 1) = ((i + 1 : Nat) : Int) := w1 i (by omega)
  have fin : (Chk ((0 : Int) ≤ (i : Int) ∧ (i : Int) < (a.length : Int)) (Chk ((0 : Int) ≤ (i : Int) ∧ (i : Int) < (a.length : Int)) (Chk ((0 : Int) ≤ none.getD (0 : Int) ∧ (0 : Int) ≤ (some (IntKind.i64.wrap ((i : Int) + 1))).getD (0 : Int) ∧ (0 : Nat) ≤ (IntKind.i64.wrap ((i : Int) + 1)).toNat ∧ (IntKind.i64.wrap ((i : Int) + 1)).toNat ≤ (a.set (i : Int).toNat s0).length)
      (Chk ((IntKind.i64.wrap ((i : Int) + 1)).toNat - 0 ≤ (a.set (i : Int).toNat s0).length) (some ((a.set (i : Int).toNat s0).take ((IntKind.i64.wrap ((i : Int) + 1)).toNat - 0))))))) = some ((a.set i s0).take (i + 1)) := by
    rw [f1, Chk_of ⟨by omega, by omega⟩, Chk_of ⟨by omega, by omega⟩, Chk_of ⟨by simp, by simp; omega, by omega, by simp; omega⟩, Chk_of (by simp; omega)]
    simp
  by_cases hlt : (i : Int) < (s.count c : Int)
  · rw [if_pos (decide_eq_true hlt), if_pos hlt]
    rcases hix with ⟨h1, h2⟩ | ⟨j, h1, h2, h3⟩
    · rw [if_pos (decide_eq_true h1), if_pos h1]
      exact fin
    · rw [h1, if_neg (by rw [decide_eq_true_iff]; omega), if_neg (by omega)]
      have f2 : IntKind.i64.wrap ((j : Int) + 0) = (j : Int) := by rw [wrap_in _ (by omega) (by omega)]; omega
      have f3 : IntKind.i64.wrap ((j : Int) + (([c] : List UInt8).length : Int)) = ((j + 1 : Nat) : Int) := w1 j (by omega)
      rw [f2, f3, f1, Chk_of ⟨by omega, by omega⟩, Chk_of ⟨by omega, by omega⟩, Chk_of ⟨by omega, by omega⟩, Chk_of ⟨by omega, by omega⟩]
      rfl
  · rw [if_neg (by rw [decide_eq_true_iff]; exact hlt), if_neg hlt]
    exact fin
/-- All printed bytes. -/
def isP (c : UInt8) : Bool := decide (32 ≤ c.toNat) && decide (c.toNat ≤ 126)
def isF (s : List UInt8) : Bool := s.all (fun c => decide (33 ≤ c.toNat) && decide (c.toNat ≤ 126)) && decide (s ≠ [])
/-- What Fields answers. -/
def pFields (l : List UInt8) : List (List UInt8) × Int := if l = [] then ([], 0) else if (spl 32 l).all isF = true then (spl 32 l, 0) else ([], 3)
theorem spl_allq (c : UInt8) (q : UInt8 → Bool) (hq : q c = true) : ∀ l, (spl c l).all (fun p => p.all q) = l.all q
  | [] => rfl
  | x :: l => by
    have ih := spl_allq c q hq l
    rw [spl_cons]
    by_cases h : x = c
    · subst h
      rw [if_pos rfl, List.all_cons, List.all_cons, ih, hq]; rfl
    · rw [if_neg h]
      split
      · rename_i h2; exact absurd h2 (spl_ne _ _)
      · rename_i p ps h2
        rw [h2] at ih
        simp only [List.all_cons] at ih ⊢
        rw [← ih, Bool.and_assoc]
theorem spl_no (c : UInt8) : ∀ l, ∀ p ∈ spl c l, c ∉ p
  | [], p, h => by simp [spl] at h; subst h; simp
  | x :: l, p, h => by
    rw [spl_cons] at h
    by_cases hx : x = c
    · rw [if_pos hx] at h
      rcases List.mem_cons.1 h with rfl | h
      · simp
      · exact spl_no c l p h
    · rw [if_neg hx] at h
      have ih := spl_no c l
      split at h
      · simp at h; subst h; simp; exact fun q => hx q.symm
      · rename_i q qs h2
        rw [h2] at ih
        rcases List.mem_cons.1 h with rfl | h
        · rw [List.mem_cons, not_or]
          exact ⟨fun q => hx q.symm, ih q (by simp)⟩
        · exact ih p (List.mem_cons_of_mem _ h)
theorem spl_isF (l : List UInt8) : (spl 32 l).all isF = (l.all isP && (spl 32 l).all (fun p => !decide (p = []))) := by
  rw [← spl_allq 32 isP (by decide) l]
  have key : ∀ p ∈ spl 32 l, isF p = (p.all isP && !decide (p = [])) := by
    intro p hp
    have h32 := spl_no 32 l p hp
    unfold isF
    congr 1
    · rw [Bool.eq_iff_iff, List.all_eq_true, List.all_eq_true]
      refine forall_congr' fun x => forall_congr' fun hx => ?_
      have : x.toNat ≠ 32 := fun q => h32 (by rw [show (32 : UInt8) = x from UInt8.toNat_inj.1 q.symm]; exact hx)
      unfold isP
      simp
      omega
    · by_cases h : p = [] <;> simp [h]
  have aux : ∀ L : List (List UInt8), (∀ p ∈ L, isF p = (p.all isP && !decide (p = []))) → L.all isF = (L.all (fun p => p.all isP) && L.all (fun p => !decide (p = []))) := by
    intro L
    induction L with
    | nil => intro _; rfl
    | cons p L ih =>
      intro h
      rw [List.all_cons, List.all_cons, List.all_cons, h p (by simp), ih fun q hq => h q (List.mem_cons_of_mem _ hq)]
      cases p.all isP <;> cases L.all (fun p => p.all isP) <;> simp
  exact aux _ key
theorem Fields_eq (l : List UInt8) (hl : l.length ≤ 1000000) : format_Fields l = some (pFields l) := by
  unfold format_Fields pFields
  simp only [Let_nr]
  by_cases h0 : l = []
  · subst h0; rfl
  · have e0 : (l == #[].toList) = false := by rw [beq_eq_false_iff_ne]; exact h0
    rw [e0, if_neg h0]
    simp only [ff, if_false]
    rw [show LOOP _ fuel (0 : Int) = _ from LOOP_all l isP (some (if (spl 32 l).all (fun p => !decide (p = [])) = true then (spl 32 l, 0) else ([], 3))) (some ([], 3)) _ (sm_of hl (by omega)) ?_ ?_]
    · rw [spl_isF]
      cases l.all isP <;> rfl
    · intro r i hw hc hm
      simp only [dlt hc, if_true, Chk_of hc, hw]
      generalize ix l (i : Int) = c
      have e1 : (c < toByte 32) ↔ c.toNat < 32 := Iff.rfl
      have e2 : (toByte 126 < c) ↔ 126 < c.toNat := Iff.rfl
      rw [cond_or]
      by_cases hp : isP c = true
      · rw [if_pos hp, if_neg]
        rw [Bool.or_eq_true, decide_eq_true_iff, decide_eq_true_iff, e1, e2]
        unfold isP at hp; simp at hp; omega
      · rw [if_neg hp, if_pos]
        rw [Bool.or_eq_true, decide_eq_true_iff, decide_eq_true_iff, e1, e2]
        unfold isP at hp; simp at hp; omega
    · intro r
      simp only [dll, ff, if_false]
      rw [Split_eq l 32 hl, Bind_snr]
      have hsl : (spl 32 l).length ≤ 1000001 := by rw [spl_len]; have := List.count_le_length (a := (32 : UInt8)) (l := l); omega
      rw [show LOOP _ fuel (0 : Int) = _ from LOOP_all (spl 32 l) (fun p => !decide (p = [])) (some (spl 32 l, 0)) (some ([], 3)) _ (sm_of hsl (by omega)) ?_ ?_]
      · cases (spl 32 l).all (fun p => !decide (p = [])) <;> rfl
      · intro r i hw hc hm
        simp only [dlt hc, if_true, Chk_of hc, hw]
        by_cases h : ix (spl 32 l) (i : Int) = []
        · rw [h]; rfl
        · have : (ix (spl 32 l) (i : Int) == []) = false := by rw [beq_eq_false_iff_ne]; exact h
          rw [this, decide_eq_false h]; rfl
      · intro r
        simp only [dll, ff, if_false]
theorem spl_self (c : UInt8) : ∀ p : List UInt8, c ∉ p → spl c p = [p]
  | [], _ => rfl
  | x :: l, h => by
    rw [List.mem_cons, not_or] at h
    rw [spl_cons, if_neg (fun q => h.1 q.symm), spl_self c l h.2]
theorem spl_app (c : UInt8) (t : List UInt8) : ∀ p : List UInt8, c ∉ p → spl c (p ++ c :: t) = p :: spl c t
  | [], _ => by rw [List.nil_append, spl_cons, if_pos rfl]
  | x :: l, h => by
    rw [List.mem_cons, not_or] at h
    rw [List.cons_append, spl_cons, if_neg (fun q => h.1 q.symm), spl_app c t l h.2]
theorem IsField_eq (s : List UInt8) (hl : Sm s) : caromref08_IsField s = some (isF s) := by
  unfold caromref08_IsField
  simp only [Let_nr]
  rw [show LOOP _ fuel (0 : Int) = _ from LOOP_all s (fun c => decide (33 ≤ c.toNat) && decide (c.toNat ≤ 126)) (some (decide (s ≠ []))) (some false) _ hl ?_ ?_]
  · unfold isF
    cases s.all (fun c => decide (33 ≤ c.toNat) && decide (c.toNat ≤ 126)) <;> rfl
  · intro r i hw hc hm
    simp only [dlt hc, if_true, Chk_of hc, hw]
    rw [Chk_of (fun _ => hc)]
    generalize ix s (i : Int) = c
    have e1 : (c < toByte 33) ↔ c.toNat < 33 := Iff.rfl
    have e2 : (toByte 126 < c) ↔ 126 < c.toNat := Iff.rfl
    rw [cond_or]
    by_cases hp : (decide (33 ≤ c.toNat) && decide (c.toNat ≤ 126)) = true
    · rw [if_pos hp, if_neg]
      rw [Bool.or_eq_true, decide_eq_true_iff, decide_eq_true_iff, e1, e2]
      simp at hp; omega
    · rw [if_neg hp, if_pos]
      rw [Bool.or_eq_true, decide_eq_true_iff, decide_eq_true_iff, e1, e2]
      simp at hp; omega
  · intro r
    simp only [dll, ff, if_false]
    congr 1
    by_cases h : s = [] <;> simp [h]

/-- The pieces from start on; behind the end: none. -/
def rest (c : UInt8) (l : List UInt8) (a : Nat) : List (List UInt8) := if a ≤ l.length then spl c (l.drop a) else []
theorem cut_at (c : UInt8) (l : List UInt8) (a i : Nat) (h1 : a ≤ i) (h2 : i ≤ l.length) (hno : c ∉ (l.drop a).take (i - a)) :
    (i = l.length → rest c l a = [(l.drop a).take (i - a)]) ∧ (i < l.length → ix l (i : Int) = c → rest c l a = (l.drop a).take (i - a) :: rest c l (i + 1)) := by
  have e := List.take_append_drop (i - a) (l.drop a)
  rw [List.drop_drop, show a + (i - a) = i by omega] at e
  constructor
  · rintro rfl
    rw [List.drop_length, List.append_nil] at e
    rw [e] at hno ⊢
    unfold rest
    rw [if_pos h1]
    exact spl_self c _ hno
  · intro hi hc
    rw [drop_ix l i hi, hc] at e
    unfold rest
    rw [if_pos (by omega), if_pos (by omega)]
    conv => lhs; rw [← e]
    exact spl_app c _ _ hno
theorem no_step (c : UInt8) (l : List UInt8) (a i : Nat) (h1 : a ≤ i) (h2 : i < l.length) (hno : c ∉ (l.drop a).take (i - a)) (hc : ix l (i : Int) ≠ c) : c ∉ (l.drop a).take (i + 1 - a) := by
  rw [show i + 1 - a = (i - a) + 1 by omega, List.take_add_one, List.getElem?_drop, show a + (i - a) = i by omega, List.getElem?_eq_getElem h2]
  rw [List.mem_append, not_or]
  refine ⟨hno, ?_⟩
  rw [ix_lt l i h2] at hc
  simp
  exact fun q => hc q.symm
theorem sub_nat (l : List UInt8) (a i : Nat) : sub l (a : Int) (i : Int) = (l.drop a).take (i - a) := by
  unfold sub
  rw [Int.toNat_natCast, Int.toNat_natCast]
theorem fieldsLoop (l : List UInt8) (hl : l.length ≤ 1000000) (step : (List (List UInt8) × Int × Int → Option (List (List UInt8) × Int)) → List (List UInt8) × Int × Int → Option (List (List UInt8) × Int))
    (hs : ∀ (r : List (List UInt8) × Int × Int → Option (List (List UInt8) × Int)) (out : List (List UInt8)) (a i : Nat), a ≤ i → i ≤ l.length → out.length ≤ 1000001 →
      step r (out, (a : Int), (i : Int)) = if i < l.length ∧ ix l (i : Int) ≠ 32 then r (out, (a : Int), ((i + 1 : Nat) : Int)) else if isF ((l.drop a).take (i - a)) = true then r (out ++ [(l.drop a).take (i - a)], ((i + 1 : Nat) : Int), ((i + 1 : Nat) : Int)) else some ([], 3))
    (he : ∀ (r : List (List UInt8) × Int × Int → Option (List (List UInt8) × Int)) (out : List (List UInt8)) (a : Nat), step r (out, (a : Int), ((l.length + 1 : Nat) : Int)) = some (out, 0)) :
    ∀ (k i a : Nat) (out : List (List UInt8)), a ≤ i → i ≤ l.length → 32 ∉ (l.drop a).take (i - a) → l.length - i + 1 < k → out.length ≤ a →
      LOOP step k (out, (a : Int), (i : Int)) = if (rest 32 l a).all isF = true then some (out ++ rest 32 l a, 0) else some ([], 3)
  | 0, i, a, out, _, _, _, h, _ => by omega
  | k + 1, i, a, out, h1, h2, hno, hk, ho => by
    rw [LOOP_s, hs _ out a i h1 h2 (by omega)]
    obtain ⟨c1, c2⟩ := cut_at 32 l a i h1 h2 hno
    by_cases hc : i < l.length ∧ ix l (i : Int) ≠ 32
    · rw [if_pos hc]
      exact fieldsLoop l hl step hs he k (i + 1) a out (by omega) (by omega) (no_step 32 l a i h1 hc.1 hno hc.2) (by omega) ho
    · rw [if_neg hc]
      by_cases hi : i = l.length
      · rw [c1 hi]
        simp only [List.all_cons, List.all_nil, Bool.and_true]
        by_cases hf : isF ((l.drop a).take (i - a)) = true
        · rw [if_pos hf, if_pos hf]
          obtain ⟨k, rfl⟩ : ∃ j, k = j + 1 := ⟨k - 1, by omega⟩
          rw [LOOP_s, hi, he]
        · rw [if_neg hf, if_neg hf]
      · have hi2 : i < l.length := by omega
        have h32 : ix l (i : Int) = 32 := Classical.byContradiction fun q => hc ⟨hi2, q⟩
        rw [c2 hi2 h32, List.all_cons]
        by_cases hf : isF ((l.drop a).take (i - a)) = true
        · rw [if_pos hf, hf, Bool.true_and, fieldsLoop l hl step hs he k (i + 1) (i + 1) _ (Nat.le_refl _) (by omega) (by simp) (by omega) (by simp; omega), List.append_assoc]
          rfl
        · rw [if_neg hf, if_neg (by rw [Bool.and_eq_true]; exact fun q => hf q.1)]
theorem refFields_eq (l : List UInt8) (hl : l.length ≤ 1000000) : caromref08_Fields l = some (pFields l) := by
  unfold caromref08_Fields pFields
  simp only [Let_nr, Join_nr]
  by_cases h0 : l = []
  · subst h0; rfl
  · have e0 : (l == #[].toList) = false := by rw [beq_eq_false_iff_ne]; exact h0
    rw [e0, if_neg h0]
    simp only [ff, if_false]
    refine (fieldsLoop l hl _ ?_ ?_ fuel 0 0 [] (Nat.le_refl _) (Nat.zero_le _) (by simp) (by have : fuel = 2 ^ 70 := rfl; omega) (Nat.zero_le _)).trans ?_
    · intro r out a i h1 h2 ho
      simp only
      rw [if_pos (by rw [decide_eq_true_iff]; omega), w1 i (by omega)]
      have hc : (bif decide ((i : Int) < (l.length : Int)) then ix l (i : Int) != toByte 32 else false) = decide (i < l.length ∧ ix l (i : Int) ≠ 32) := by
        by_cases h : i < l.length
        · rw [decide_eq_true (by omega)]
          show (ix l (i : Int) != 32) = _
          by_cases hq : ix l (i : Int) = 32
          · rw [hq, decide_eq_false (by simp)]; rfl
          · rw [decide_eq_true ⟨h, hq⟩, bne_iff_ne]; exact hq
        · rw [decide_eq_false (by omega), decide_eq_false (by omega)]; rfl
      rw [Chk_of (fun h => by simp at h; omega), hc]
      by_cases hq : i < l.length ∧ ix l (i : Int) ≠ 32
      · rw [if_pos (decide_eq_true hq), if_pos hq]
      · rw [if_neg (by rw [decide_eq_true_iff]; exact hq), if_neg hq, Chk_of ⟨by omega, by omega, by omega⟩, sub_nat, IsField_eq _ (sm_of (n := 1000000) (by rw [List.length_take, List.length_drop]; omega) (by omega)), Bind_snr]
        cases isF ((l.drop a).take (i - a))
        · rfl
        · simp only [Bool.not_true, ff, if_false, if_true]
          rw [Chk_of ⟨by omega, by omega, by omega⟩, Chk_of (by simp; omega)]
    · intro r out a
      simp only
      rw [if_neg (by rw [decide_eq_true_iff]; omega)]
    · unfold rest
      rw [if_pos (Nat.zero_le _), List.drop_zero, List.nil_append]
      split <;> rfl
/-- What SplitLines answers. -/
def pLines (l : List UInt8) : List (List UInt8) × Int := if l = [] then ([], 0) else if endsC 10 l = true then (spl 10 l.dropLast, 0) else ([], 3)
theorem linesLoop (l : List UInt8) (hl : l.length ≤ 1000000) (fin : List (List UInt8) → Nat → Option (List (List UInt8) × Int)) (step : (List (List UInt8) × Int × Int → Option (List (List UInt8) × Int)) → List (List UInt8) × Int × Int → Option (List (List UInt8) × Int))
    (hs : ∀ (r : List (List UInt8) × Int × Int → Option (List (List UInt8) × Int)) (out : List (List UInt8)) (a i : Nat), a ≤ i → i < l.length → out.length ≤ 1000001 →
      step r (out, (a : Int), (i : Int)) = if ix l (i : Int) = 10 then r (out ++ [(l.drop a).take (i - a)], ((i + 1 : Nat) : Int), ((i + 1 : Nat) : Int)) else r (out, (a : Int), ((i + 1 : Nat) : Int)))
    (he : ∀ (r : List (List UInt8) × Int × Int → Option (List (List UInt8) × Int)) (out : List (List UInt8)) (a : Nat), step r (out, (a : Int), (l.length : Int)) = fin out a) :
    ∀ (k i a : Nat) (out : List (List UInt8)), a ≤ i → i ≤ l.length → 10 ∉ (l.drop a).take (i - a) → l.length - i < k → out.length ≤ a →
      ∃ out' a', a' ≤ l.length ∧ rest 10 l a' = [l.drop a'] ∧ out ++ rest 10 l a = out' ++ [l.drop a'] ∧ LOOP step k (out, (a : Int), (i : Int)) = fin out' a'
  | 0, i, a, out, _, _, _, h, _ => by omega
  | k + 1, i, a, out, h1, h2, hno, hk, ho => by
    rw [LOOP_s]
    obtain ⟨c1, c2⟩ := cut_at 10 l a i h1 h2 hno
    by_cases hi : i = l.length
    · subst hi
      have h3 : (l.drop a).take (l.length - a) = l.drop a := List.take_of_length_le (by rw [List.length_drop]; omega)
      rw [h3] at c1
      exact ⟨out, a, h1, c1 rfl, by rw [c1 rfl], he _ _ _⟩
    · have hi2 : i < l.length := by omega
      rw [hs _ out a i h1 hi2 (by omega)]
      by_cases hc : ix l (i : Int) = 10
      · rw [if_pos hc]
        obtain ⟨out', a', g1, g2, g3, g4⟩ := linesLoop l hl fin step hs he k (i + 1) (i + 1) (out ++ [(l.drop a).take (i - a)]) (Nat.le_refl _) (by omega) (by simp) (by omega) (by simp; omega)
        exact ⟨out', a', g1, g2, by rw [← g3, c2 hi2 hc]; simp, g4⟩
      · rw [if_neg hc]
        exact linesLoop l hl fin step hs he k (i + 1) a out (by omega) (by omega) (no_step 10 l a i h1 hi2 hno hc) (by omega) ho

theorem ends_cons (c x : UInt8) (t : List UInt8) (h : t ≠ []) : endsC c (x :: t) = endsC c t := by
  unfold endsC
  cases t with
  | nil => exact absurd rfl h
  | cons y t => rw [List.getLast?_cons_cons]
theorem last_nil (c : UInt8) : ∀ l : List UInt8, (spl c l).getLast? = some [] → l = [] ∨ endsC c l = true
  | [], _ => .inl rfl
  | x :: t, h => by
    right
    have hne := spl_ne c t
    rw [spl_cons] at h
    by_cases hx : x = c
    · rw [if_pos hx] at h
      cases t with
      | nil => subst hx; unfold endsC; simp
      | cons y t =>
        rw [ends_cons c x _ (by simp)]
        have h' : (spl c (y :: t)).getLast? = some [] := by
          cases hq : spl c (y :: t) with
          | nil => exact absurd hq hne
          | cons p ps => rw [hq, List.getLast?_cons_cons] at h; exact h
        rcases last_nil c (y :: t) h' with g | g
        · cases g
        · exact g
    · rw [if_neg hx] at h
      cases hq : spl c t with
      | nil => exact absurd hq hne
      | cons p ps =>
        rw [hq] at h
        cases ps with
        | nil => simp at h
        | cons q qs =>
          simp only [List.getLast?_cons_cons] at h
          have h' : (spl c t).getLast? = some [] := by rw [hq, List.getLast?_cons_cons]; exact h
          have ht : t ≠ [] := by rintro rfl; simp [spl] at hq
          rw [ends_cons c x t ht]
          rcases last_nil c t h' with g | g
          · exact absurd g ht
          · exact g
theorem spl_snoc (c : UInt8) : ∀ p : List UInt8, spl c (p ++ [c]) = spl c p ++ [[]]
  | [] => by rw [List.nil_append, spl_cons, if_pos rfl]; rfl
  | x :: p => by
    rw [List.cons_append, spl_cons, spl_cons, spl_snoc c p]
    by_cases h : x = c
    · rw [if_pos h, if_pos h]; rfl
    · rw [if_neg h, if_neg h]
      cases hq : spl c p with
      | nil => exact absurd hq (spl_ne _ _)
      | cons q qs => rfl
theorem ends_app {c : UInt8} {l : List UInt8} (h : endsC c l = true) : l = l.dropLast ++ [c] := by
  unfold endsC at h
  rw [decide_eq_true_iff] at h
  have hne : l ≠ [] := by rintro rfl; cases h
  rw [List.getLast?_eq_some_getLast hne] at h
  have := List.dropLast_concat_getLast hne
  rw [Option.some.inj h] at this
  exact this.symm
theorem LOOP_f {V X : Type} (f : Nat → V) (N : Nat) (q : Nat → Bool) (fin bad : Option X) (step : (V → Option X) → V → Option X)
    (hs : ∀ (r : V → Option X) (i : Nat), i < N → step r (f i) = if q i = true then r (f (i + 1)) else bad) (he : ∀ (r : V → Option X), step r (f N) = fin) :
    ∀ (k i : Nat), i ≤ N → N - i < k → LOOP step k (f i) = if allR q i (N - i) = true then fin else bad
  | 0, i, _, h => by omega
  | k + 1, i, h1, h2 => by
    rw [LOOP_s]
    by_cases h : i < N
    · rw [hs _ i h, show N - i = (N - (i + 1)) + 1 by omega]
      unfold allR
      rw [LOOP_f f N q fin bad step hs he k (i + 1) (by omega) (by omega)]
      cases q i <;> rfl
    · have : i = N := by omega
      subst this
      rw [he, Nat.sub_self]; rfl
def isL (c : UInt8) : Bool := decide (97 ≤ c.toNat) && decide (c.toNat ≤ 122)
def okI (s : List UInt8) (i : Nat) : Bool := isL (ix s (i : Int)) || (decide (i ≠ 0) && (isD (ix s (i : Int)) || decide ((ix s (i : Int)) = 45)))
def isIdent (s : List UInt8) : Bool := decide (1 ≤ s.length) && decide (s.length ≤ 24) && allR (okI s) 0 s.length
theorem joinTail_len (r : List (List UInt8)) (n : Nat) (h : ∀ p ∈ r, p.length ≤ n) : (Lib.joinTail [32] r).length ≤ r.length * (n + 1) := by
  unfold Lib.joinTail
  induction r with
  | nil => simp
  | cons p r ih =>
    have := ih fun q hq => h q (List.mem_cons_of_mem _ hq)
    have := h p (by simp)
    simp only [List.map_cons, List.flatten_cons, List.length_append, List.length_cons, List.length_nil, Nat.add_mul]
    omega
theorem join_len (l : List (List UInt8)) (n : Nat) (h : ∀ p ∈ l, p.length ≤ n) : (Lib.join l [32]).length ≤ l.length * (n + 1) := by
  cases l with
  | nil => rw [Lib.join_nil]; simp
  | cons x r =>
    rw [Lib.join_cons, List.length_append]
    have := joinTail_len r n fun q hq => h q (List.mem_cons_of_mem _ hq)
    have := h x (by simp)
    rw [List.length_cons, Nat.add_mul]
    omega
theorem JoinFields_eq (l : List (List UInt8)) (h1 : l.length ≤ 1000000) (h2 : (Lib.join l [32]).length ≤ 140737488355328) : format_JoinFields l = some (Lib.join l [32]) := by
  unfold format_JoinFields strings_Join joinS
  rw [Chk_of ⟨h2, by omega⟩, Bind_snr]
theorem joinTail_cons (x : List UInt8) (r : List (List UInt8)) : Lib.joinTail [32] (x :: r) = 32 :: x ++ Lib.joinTail [32] r := by
  unfold Lib.joinTail
  simp
theorem refJoinFields_eq (l : List (List UInt8)) (h1 : l.length ≤ 1000000) (h2 : (Lib.join l [32]).length ≤ 140737488355328) : caromref08_JoinFields l = some (Lib.join l [32]) := by
  unfold caromref08_JoinFields
  simp only [Let_nr, Join_nr]
  refine (LOOP_i l (fun i s => s.length + (if i = 0 then Lib.join (l.drop i) [32] else Lib.joinTail [32] (l.drop i)).length ≤ 140737488355328 ∧ (i = 0 → s = []))
    (fun t i s => some (if i = 0 then Lib.join t [32] else s ++ Lib.joinTail [32] t)) _ [] (sm_of h1 (by omega)) ⟨by simpa using h2, fun _ => rfl⟩ ?_ ?_).trans ?_
  · intro r i t s hP hw hc hm hr
    simp only [dlt hc, if_true]
    have hd := drop_ix l i (by omega)
    rw [Chk_of hc, hw]
    by_cases hi : i = 0
    · subst hi
      have hs := hP.2 rfl
      subst hs
      have hP1 := hP.1
      have e00 : (ix l (0 : Int)).length = (ix l ((0 : Nat) : Int)).length := rfl
      rw [if_pos rfl, hd, Lib.join_cons, List.length_append, List.length_nil] at hP1
      rw [if_neg (by decide), Chk_of (by simp; omega), hr _ ⟨by rw [if_neg (by omega), List.nil_append]; omega, by omega⟩, if_neg (by omega), if_pos rfl, Lib.join_cons, Chk_of (by simp; omega)]
      rfl
    · have hP1 := hP.1
      rw [if_neg hi, hd, joinTail_cons, List.length_append, List.length_cons] at hP1
      rw [if_pos (by rw [decide_eq_true_iff]; omega), Chk_of (by omega), Chk_of (by simp; omega), hr _ ⟨by rw [if_neg (by omega)]; simp; omega, by omega⟩, if_neg (by omega), if_neg hi, joinTail_cons]
      simp
  · intro r s hP
    simp only [dll, ff, if_false]
    by_cases hi : l.length = 0
    · rw [if_pos hi, hP.2 hi]; rfl
    · rw [if_neg hi]
      unfold Lib.joinTail
      simp
  · rw [if_pos rfl]

theorem LOOP_badN {α X : Type} [Inhabited α] (l : List α) (q : α → Bool) (bad : Option X) (step : (Int → Option X) → Int → Option X) (hl : Sm l)
    (hs : ∀ (r : Int → Option X) (i : Nat), IntKind.i64.wrap ((i : Int) + 1) = (i : Int) + 1 → (0 ≤ (i : Int) ∧ (i : Int) < (l.length : Int)) → ix l (i : Int) ∈ l → step r (i : Int) = if q (ix l (i : Int)) = true then r ((i : Int) + 1) else bad) :
    ∀ (n i : Nat), i ≤ l.length → l.length - i < n → (l.drop i).all q = false → LOOP step n (i : Int) = bad
  | 0, i, _, h, _ => by omega
  | n + 1, i, h1, h2, h3 => by
    by_cases h : i < l.length
    · rw [LOOP_s, hs _ i (w64_s i (by unfold Sm at hl; omega)) ⟨by omega, by omega⟩ (ix_mem l _ ⟨by omega, by omega⟩)]
      rw [drop_ix l i h, List.all_cons] at h3
      cases hq : q (ix l (i : Int))
      · rfl
      · rw [hq, Bool.true_and] at h3
        rw [if_pos rfl]
        exact LOOP_badN l q bad step hl hs n (i + 1) (by omega) (by omega) h3
    · rw [List.drop_of_length_le (by omega)] at h3
      cases h3
/-- A loop that leaves early. -/
theorem LOOP_bad {α X : Type} [Inhabited α] (l : List α) (q : α → Bool) (bad : Option X) (step : (Int → Option X) → Int → Option X) (hl : Sm l) (h : ¬ l.all q = true)
    (hs : ∀ (r : Int → Option X) (i : Nat), IntKind.i64.wrap ((i : Int) + 1) = (i : Int) + 1 → (0 ≤ (i : Int) ∧ (i : Int) < (l.length : Int)) → ix l (i : Int) ∈ l → step r (i : Int) = if q (ix l (i : Int)) = true then r ((i : Int) + 1) else bad) :
    LOOP step fuel (0 : Int) = bad :=
  LOOP_badN l q bad step hl hs fuel 0 (Nat.zero_le _) (by unfold Sm at hl; have : fuel = 2 ^ 70 := rfl; omega) (by simpa using h)
def flat (c : UInt8) (L : List (List UInt8)) : List UInt8 := L.flatMap fun p => p ++ [c]
theorem flat_cons (c : UInt8) (p : List UInt8) (L : List (List UInt8)) : flat c (p :: L) = p ++ c :: flat c L := by unfold flat; simp
theorem flat_spl (c : UInt8) : ∀ l, flat c (spl c l) = l ++ [c]
  | [] => rfl
  | x :: l => by
    have ih := flat_spl c l
    rw [spl_cons]
    by_cases h : x = c
    · rw [if_pos h, flat_cons, ih, h]; rfl
    · rw [if_neg h]
      cases hq : spl c l with
      | nil => exact absurd hq (spl_ne _ _)
      | cons p ps =>
        rw [hq, flat_cons] at ih
        simp only
        rw [flat_cons, List.cons_append, ih]; rfl
theorem all_no {p : List UInt8} (h : (10 : UInt8) ∉ p) : p.all (fun c => !(c == 10)) = true := by
  rw [List.all_eq_true]
  intro x hx
  rw [Bool.not_eq_true', beq_eq_false_iff_ne]
  rintro rfl
  exact h hx
theorem pLines_cases (s : List UInt8) : (s ≠ [] ∧ endsC 10 s = false ∧ pLines s = ([], 3)) ∨ (∃ L, pLines s = (L, 0) ∧ flat 10 L = s ∧ (∀ p ∈ L, (10 : UInt8) ∉ p) ∧ L.length ≤ s.length + 1) := by
  unfold pLines
  by_cases h0 : s = []
  · subst h0
    exact .inr ⟨[], rfl, rfl, by simp, by simp⟩
  · rw [if_neg h0]
    cases he : endsC 10 s
    · exact .inl ⟨h0, rfl, rfl⟩
    · refine .inr ⟨_, rfl, ?_, spl_no 10 _, ?_⟩
      · rw [flat_spl, ← ends_app he]
      · rw [spl_len]
        have := List.count_le_length (a := (10 : UInt8)) (l := s.dropLast)
        rw [List.length_dropLast] at this
        omega
theorem dvs (l : List UInt8) (c : UInt8) : dv (l ++ [c]) = 10 * dv l + (c.toNat - 48) := dv_snoc l c
theorem toNat_dig (k : Nat) (h : k < 10) : (UInt8.ofNat (48 + k)).toNat = 48 + k := by
  rw [UInt8.toNat_ofNat']; omega
theorem digs_facts : ∀ (k m : Nat), m ≤ k → (digs m).all isD = true ∧ dv (digs m) = m ∧ ∃ x l, digs m = x :: l ∧ (x = 48 → m = 0)
  | k, m, hk => by
    by_cases h : m < 10
    · rw [digs_lt h]
      refine ⟨?_, ?_, _, _, rfl, ?_⟩
      · simp only [List.all_cons, List.all_nil, Bool.and_true]
        rw [isD_iff, toNat_dig m h]; omega
      · show 10 * 0 + ((UInt8.ofNat (48 + m)).toNat - 48) = m
        rw [toNat_dig m h]; omega
      · intro q
        have := congrArg UInt8.toNat q
        rw [toNat_dig m h] at this
        change 48 + m = 48 at this
        omega
    · obtain ⟨g1, g2, x, l, g3, g4⟩ := digs_facts (k - 1) (m / 10) (by omega)
      rw [digs_ge h]
      refine ⟨?_, ?_, x, l ++ [UInt8.ofNat (48 + m % 10)], by rw [g3]; rfl, ?_⟩
      · rw [List.all_append, g1, Bool.true_and]
        simp only [List.all_cons, List.all_nil, Bool.and_true]
        rw [isD_iff, toNat_dig _ (by omega)]; omega
      · rw [dv_snoc, g2, toNat_dig _ (by omega)]; omega
      · intro q
        have := g4 q
        omega
termination_by k => k
decreasing_by omega
theorem body_fmt (n : Int) : body (fmtInt n) = digs n.natAbs ∧ isNeg (fmtInt n) = decide (n < 0) ∧ isInt (fmtInt n) = true := by
  obtain ⟨g1, g2, x, l, g3, g4⟩ := digs_facts n.natAbs n.natAbs (Nat.le_refl _)
  have hx45 : x ≠ 45 := by
    rintro rfl
    rw [g3] at g1
    simp only [List.all_cons, Bool.and_eq_true] at g1
    exact absurd g1.1 (by decide)
  have hd : (x :: l).all isD = true := by rw [← g3]; exact g1
  unfold fmtInt
  by_cases hn : n < 0
  · rw [if_pos hn, decide_eq_true hn]
    have hb : body (45 :: digs n.natAbs) = digs n.natAbs := rfl
    refine ⟨hb, rfl, ?_⟩
    unfold isInt
    rw [hb, g3]
    simp only
    rw [hd, Bool.true_and, decide_eq_true (by intro q; have := g4 q; omega), Bool.true_or]
  · rw [if_neg hn, decide_eq_false hn, g3]
    have hb : body (x :: l) = x :: l := if_neg hx45
    refine ⟨hb, by show (x == 45) = false; simpa using hx45, ?_⟩
    unfold isInt
    rw [hb]
    simp only
    rw [hd, Bool.true_and]
    by_cases h0 : n.natAbs = 0
    · have : (x :: l) = [48] := by rw [← g3, h0, digs_lt (by omega)]; rfl
      rw [decide_eq_true this, Bool.or_true]
    · rw [decide_eq_true (by intro q; exact h0 (g4 q)), Bool.true_or]
theorem sgn_fmt (n : Int) : sgn (fmtInt n) n.natAbs = n := by
  unfold sgn
  rw [(body_fmt n).2.1]
  by_cases h : n < 0
  · rw [decide_eq_true h, if_pos rfl]; omega
  · rw [decide_eq_false h, if_neg (by decide)]; omega
theorem pInt_fmt (n : Int) : pInt (fmtInt n) = if n.natAbs ≤ 4611686018427387904 then (n, 0) else (0, 6) := by
  obtain ⟨h1, h2, h3⟩ := body_fmt n
  unfold pInt
  rw [if_pos h3, h1, (digs_facts _ _ (Nat.le_refl _)).2.1, sgn_fmt]
/-- Digits tell their number's digits. -/
theorem digs_dv : ∀ (k : Nat) (l : List UInt8), l.length ≤ k → l ≠ [] → l.all isD = true → (l.head? = some 48 → l = [48]) → digs (dv l) = l
  | 0, l, h, hne, _, _ => by exact absurd (List.eq_nil_of_length_eq_zero (by omega)) hne
  | k + 1, l, h, hne, hd, h0 => by
    obtain ⟨p, c, rfl⟩ : ∃ p c, l = p ++ [c] := ⟨l.dropLast, l.getLast hne, (List.dropLast_concat_getLast hne).symm⟩
    rw [List.all_append, Bool.and_eq_true] at hd
    have hc : isD c = true := by have := hd.2; simpa using this
    obtain ⟨c1, c2⟩ := isD_iff.1 hc
    have ec : UInt8.ofNat (48 + (c.toNat - 48)) = c := by rw [show 48 + (c.toNat - 48) = c.toNat by omega]; exact UInt8.ofNat_toNat
    rw [dv_snoc]
    by_cases hp : p = []
    · subst hp
      show digs (10 * 0 + (c.toNat - 48)) = [c]
      rw [digs_lt (by omega), show 10 * 0 + (c.toNat - 48) = c.toNat - 48 by omega, ec]
    · have hh : p.head? ≠ some 48 := by
        intro q
        have : (p ++ [c]).head? = some 48 := by
          cases p with
          | nil => exact absurd rfl hp
          | cons x p => exact q
        have := congrArg List.length (h0 this)
        simp at this
        exact hp this
      have ih := digs_dv k p (by simp at h; omega) hp hd.1 (fun q => absurd q hh)
      have hpos : 1 ≤ dv p := by
        rcases Nat.eq_zero_or_pos (dv p) with h | h
        · rw [h, digs_lt (by omega)] at ih
          rw [← ih] at hh
          exact absurd rfl hh
        · exact h
      rw [digs_ge (by omega), show (10 * dv p + (c.toNat - 48)) / 10 = dv p by omega, show (10 * dv p + (c.toNat - 48)) % 10 = c.toNat - 48 by omega, ih, ec]
theorem fmt_int (s : List UInt8) (hi : isInt s = true) : fmtInt (sgn s (dv (body s))) = s := by
  obtain ⟨hd, hne⟩ := isInt_body hi
  have hz := isInt_zero hi
  have hh : (body s).head? = some 48 → s = [48] := by
    intro q
    unfold isInt at hi
    cases hb : body s with
    | nil => exact absurd hb hne
    | cons x l =>
      rw [hb] at hi q
      simp only [Bool.and_eq_true, Bool.or_eq_true, decide_eq_true_eq] at hi
      rcases hi.2 with h | h
      · exact absurd (by simpa using q) h
      · exact h
  by_cases h48 : s = [48]
  · subst h48
    show fmtInt 0 = [48]
    unfold fmtInt
    rw [if_neg (by decide), show Int.natAbs 0 = 0 from rfl, digs_lt (by omega)]; rfl
  have hh : (body s).head? ≠ some 48 := fun q => h48 (hh q)
  have e := digs_dv _ (body s) (Nat.le_refl _) hne hd (fun q => absurd q hh)
  have hpos : dv (body s) ≠ 0 := fun q => h48 (hz.1 q)
  cases s with
  | nil => exact absurd rfl hne
  | cons x l =>
    unfold fmtInt sgn
    by_cases h : x = 45
    · have e1 : body (x :: l) = l := if_pos h
      have e2 : isNeg (x :: l) = true := by subst h; rfl
      rw [e1] at e hpos ⊢
      rw [e2, if_pos rfl, if_pos (by omega), Int.natAbs_neg, Int.natAbs_natCast, e, h]
    · have e1 : body (x :: l) = x :: l := if_neg h
      have e2 : isNeg (x :: l) = false := by show (x == 45) = false; simpa using h
      rw [e1] at e hpos ⊢
      rw [e2]
      simp only [ff, if_false]
      rw [if_neg (by omega), Int.natAbs_natCast, e]

theorem int_no_u (s : List UInt8) (hi : isInt s = true) : endsC 117 s = false := by
  obtain ⟨hd, hne⟩ := isInt_body hi
  cases he : endsC 117 s
  · rfl
  · exfalso
    have h := ends_app he
    have : (117 : UInt8) ∈ body s := by
      rw [h]
      by_cases hq : s.dropLast = []
      · rw [hq]; decide
      · rw [body_snoc _ hq]; simp
    have := List.all_eq_true.1 hd _ this
    exact absurd this (by decide)
theorem pFix_fmt (x : Int) (h1 : IntKind.i64.min ≤ x) (h2 : x ≤ IntKind.i64.max) : pFix (fmtFix x) = if x.natAbs ≤ 536870911 then (x, 0) else (0, 6) := by
  unfold fmtFix
  have e0 : (x.tdiv 65536).natAbs = x.natAbs / 65536 := by rw [Int.natAbs_tdiv]; rfl
  have e1 : (x.tmod 65536).natAbs = x.natAbs % 65536 := by rw [Int.natAbs_tmod]; rfl
  by_cases h : x ≠ 0 ∧ x.tmod 65536 = 0
  · rw [if_pos h]
    have hy : x.tdiv 65536 * 65536 = x := Int.tdiv_mul_cancel_of_tmod_eq_zero h.2
    generalize x.tdiv 65536 = y at e0 hy
    obtain ⟨b1, b2, b3⟩ := body_fmt y
    have c1 : endsC 117 (fmtInt y ++ [117]) = true := by unfold endsC; simp
    have c2 : cutC 117 (fmtInt y ++ [117]) = fmtInt y := by unfold cutC; rw [c1, if_pos rfl]; simp
    unfold pFix
    rw [c1, c2, b3, b1, (digs_facts _ _ (Nat.le_refl _)).2.1, if_neg (by simp; omega), if_pos rfl, sgn_fmt, hy]
    by_cases hq : y.natAbs ≤ 8191
    · rw [if_pos hq, if_pos (by omega)]
    · rw [if_neg hq, if_neg (by omega)]
  · rw [if_neg h]
    obtain ⟨b1, b2, b3⟩ := body_fmt x
    have c1 := int_no_u _ b3
    have c2 : cutC 117 (fmtInt x) = fmtInt x := by unfold cutC; rw [c1]; rfl
    unfold pFix
    rw [c1, c2, b3, b1, (digs_facts _ _ (Nat.le_refl _)).2.1, if_neg, if_neg (by decide), sgn_fmt]
    simp
    omega
theorem fix_back (s : List UInt8) (h : (pFix s).2 = 0) : fmtFix (pFix s).1 = s := by
  unfold pFix at h ⊢
  generalize hw : endsC 117 s = w at h ⊢
  generalize ht : cutC 117 s = t at h ⊢
  generalize hn : dv (body t) = n at h ⊢
  by_cases hc : isInt t = false ∨ (w = true ∧ n = 0) ∨ (w = false ∧ n ≠ 0 ∧ n % 65536 = 0)
  · rw [if_pos hc] at h; exact absurd h (by decide)
  rw [if_neg hc] at h ⊢
  have hi : isInt t = true := by
    cases hq : isInt t
    · exact absurd (.inl hq) hc
    · rfl
  have hback := fmt_int t hi
  rw [hn] at hback
  have hs : sgn t n = n ∨ sgn t n = -n := by unfold sgn; split <;> simp
  cases w
  · simp only [ff, if_false] at h ⊢
    by_cases hb : n ≤ 536870911
    · rw [if_pos hb]
      have hts : t = s := by rw [← ht]; unfold cutC; rw [hw]; rfl
      unfold fmtFix
      simp only
      have e1 : ((sgn t n).tmod 65536).natAbs = (sgn t n).natAbs % 65536 := by rw [Int.natAbs_tmod]; rfl
      rw [if_neg, hback, hts]
      rintro ⟨g1, g2⟩
      apply hc
      right; right
      exact ⟨rfl, by omega, by omega⟩
    · rw [if_neg hb] at h; exact absurd h (by decide)
  · simp only [if_true] at h ⊢
    by_cases hb : n ≤ 8191
    · rw [if_pos hb]
      have hts : s = t ++ [117] := by
        rw [← ht]; unfold cutC; rw [hw, if_pos rfl]; exact ends_app hw
      have hn0 : n ≠ 0 := fun q => hc (.inr (.inl ⟨rfl, q⟩))
      unfold fmtFix
      simp only
      rw [if_pos ⟨by omega, Int.mul_tmod_left _ _⟩, Int.mul_tdiv_cancel _ (by decide), hback, hts]
    · rw [if_neg hb] at h; exact absurd h (by decide)
theorem spl_join : ∀ (r : List (List UInt8)) (x : List UInt8), (∀ p ∈ x :: r, (32 : UInt8) ∉ p) → spl 32 (x ++ Lib.joinTail [32] r) = x :: r
  | [], x, h => by
    have : Lib.joinTail [32] [] = [] := rfl
    rw [this, List.append_nil, spl_self 32 x (h x (by simp))]
  | y :: r, x, h => by
    rw [joinTail_cons, List.cons_append, spl_app 32 _ x (h x (by simp)), spl_join r y fun p hp => h p (List.mem_cons_of_mem _ hp)]
theorem isF_no {p : List UInt8} (h : isF p = true) : (32 : UInt8) ∉ p ∧ p ≠ [] := by
  unfold isF at h
  rw [Bool.and_eq_true, List.all_eq_true, decide_eq_true_iff] at h
  refine ⟨fun q => ?_, h.2⟩
  have := h.1 _ q
  exact absurd this (by decide)
theorem pFields_join (L : List (List UInt8)) (h : L.all isF = true) : pFields (Lib.join L [32]) = (L, 0) := by
  cases L with
  | nil => rfl
  | cons x r =>
    have h' := List.all_eq_true.1 h
    rw [Lib.join_cons]
    unfold pFields
    have hx := (isF_no (h' x (by simp))).2
    rw [if_neg (by simp [hx]), spl_join r x fun p hp => (isF_no (h' p hp)).1, if_pos h]
theorem big_eq (n : Int) : (bif decide (n < -4611686018427387904) then true else decide (n > 4611686018427387904)) = !decide (n.natAbs ≤ 4611686018427387904) := by
  rw [cond_or, Bool.eq_iff_iff, Bool.or_eq_true, decide_eq_true_iff, decide_eq_true_iff, Bool.not_eq_true', decide_eq_false_iff_not]; omega
theorem big_eq2 (n : Int) : (bif decide (n < -536870911) then true else decide (n > 536870911)) = !decide (n.natAbs ≤ 536870911) := by
  rw [cond_or, Bool.eq_iff_iff, Bool.or_eq_true, decide_eq_true_iff, decide_eq_true_iff, Bool.not_eq_true', decide_eq_false_iff_not]; omega
theorem sgn_or (t : List UInt8) (n : Nat) : sgn t n = n ∨ sgn t n = -n := by unfold sgn; split <;> simp
theorem pInt_back (s : List UInt8) (h : ((pInt s).2 == 0) = true) : format_FormatInt (pInt s).1 = some s := by
  rw [beq_iff_eq] at h
  unfold pInt at h ⊢
  by_cases hi : isInt s = true
  · rw [if_pos hi] at h ⊢
    by_cases hb : dv (body s) ≤ 4611686018427387904
    · rw [if_pos hb]
      have := sgn_or s (dv (body s))
      rw [FormatInt_eq _ (by rw [i64_min]; omega) (by rw [i64_max]; omega), fmt_int s hi]
    · rw [if_neg hb] at h; exact absurd h (by decide)
  · rw [if_neg hi] at h; exact absurd h (by decide)
theorem pFix_bd (s : List UInt8) : IntKind.i64.min ≤ (pFix s).1 ∧ (pFix s).1 ≤ IntKind.i64.max := by
  rw [i64_min, i64_max]
  unfold pFix
  have := sgn_or (cutC 117 s) (dv (body (cutC 117 s)))
  repeat' split
  all_goals simp only
  all_goals omega
end GoForm


set_option linter.all false
set_option maxRecDepth 100000
open Go Go.Rx

namespace GoForm
def words : List (List UInt8) :=
  [#[].toList, #[99, 111, 110, 116, 97, 99, 116, 45, 98, 101, 103, 105, 110].toList, #[99, 111, 110, 116, 97, 99, 116, 45, 101, 110, 100].toList,
   #[115, 101, 110, 115, 111, 114, 45, 101, 110, 116, 101, 114].toList, #[115, 101, 110, 115, 111, 114, 45, 101, 120, 105, 116].toList,
   #[106, 111, 105, 110, 116, 45, 98, 114, 101, 97, 107].toList, #[98, 111, 100, 121, 45, 115, 108, 101, 101, 112].toList,
   #[98, 111, 100, 121, 45, 119, 97, 107, 101].toList, #[98, 117, 108, 108, 101, 116, 45, 115, 116, 111, 112].toList]
def evW (k : Int) : List UInt8 := ix words k
theorem word_eq (k : Int) (h1 : 0 ≤ k) (h2 : k < 9) : event_word k = some (evW k) := by
  unfold event_word
  rw [Chk_of ⟨h1, h2⟩]; rfl
theorem k8 {k : Int} (h1 : 1 ≤ k) (h2 : k ≤ 8) : k = 1 ∨ k = 2 ∨ k = 3 ∨ k = 4 ∨ k = 5 ∨ k = 6 ∨ k = 7 ∨ k = 8 := by omega
theorem refWord_eq (k : Int) (h1 : 1 ≤ k) (h2 : k ≤ 8) : caromref44_word k = some (evW k) := by
  rcases k8 h1 h2 with h | h | h | h | h | h | h | h <;> subst h <;> rfl
def idOk (n : Int) : Bool := decide (0 ≤ n) && decide (n ≤ 1099511627776)
def evValid (e : Event) : Bool :=
  decide (1 ≤ e.Kind) && decide (e.Kind ≤ 8) && idOk e.Key.BodyA &&
    (if e.Kind ≤ 4 then idOk e.Key.FixtureA && idOk e.Key.BodyB && idOk e.Key.FixtureB else decide (e.Key.FixtureA = 0) && decide (e.Key.BodyB = 0) && decide (e.Key.FixtureB = 0))
theorem Valid1_eq (n : Int) : event_Valid_1 n = some (idOk n) := by
  unfold event_Valid_1 idOk; simp only [Let_nr, cond_and]; try rfl
theorem isID_eq (n : Int) : caromref44_isID n = some (idOk n) := by
  unfold caromref44_isID idOk; simp only [Let_nr, cond_and]; try rfl
theorem Valid_eq (e : Event) : event_Valid e = some (evValid e) := by
  unfold event_Valid event_known event_isPairEvent evValid
  simp only [Let_nr, Bind_snr, Valid1_eq, Bind_if, cond_and, ga1]
  by_cases h1 : 1 ≤ e.Kind
  · by_cases h2 : e.Kind ≤ 8
    · have h3 : e.Kind < 9 := by omega
      by_cases h4 : e.Kind ≤ 4
      · simp [h1, h2, h3, h4, Bool.and_assoc]
      · simp [h1, h2, h3, h4, Bool.and_assoc]
    · have h3 : ¬ e.Kind < 9 := by omega
      simp [h1, h2, h3]
  · simp [h1]
theorem refValid_eq (e : Event) : caromref44_Valid e = some (evValid e) := by
  unfold caromref44_Valid evValid
  simp only [Let_nr, Bind_snr, isID_eq, Bind_if, cond_and, cond_or, ga1, ga3, eq_beq]
  by_cases h1 : 1 ≤ e.Kind
  · have h1' : ¬ e.Kind < 1 := by omega
    by_cases h2 : e.Kind ≤ 8
    · have h3 : ¬ 8 < e.Kind := by omega
      by_cases h4 : e.Kind ≤ 4
      · have h5 : ¬ 4 < e.Kind := by omega
        cases h6 : idOk e.Key.BodyA <;> simp [h1, h2, h3, h4, h1', h5, h6]
        cases idOk e.Key.BodyB <;> cases idOk e.Key.FixtureA <;> simp
      · have h5 : 4 < e.Kind := by omega
        cases h6 : idOk e.Key.BodyA <;> simp [h1, h2, h3, h4, h1', h5, h6]
        cases decide (e.Key.BodyB = 0) <;> cases decide (e.Key.FixtureA = 0) <;> simp
    · have h3 : 8 < e.Kind := by omega
      simp [h1, h2, h3, h1']
  · have h1' : e.Kind < 1 := by omega
    simp [h1, h1']
def evParts (e : Event) : List (List UInt8) :=
  if e.Kind ≤ 4 then [evW e.Kind, fmtInt e.Key.BodyA, fmtInt e.Key.FixtureA, fmtInt e.Key.BodyB, fmtInt e.Key.FixtureB] else [evW e.Kind, fmtInt e.Key.BodyA]
def evFmt (e : Event) : List UInt8 := if evValid e = true then Lib.join (evParts e) [32] else []
theorem idOk_bd {n : Int} (h : idOk n = true) : 0 ≤ n ∧ n ≤ 1099511627776 := by simpa [idOk] using h
theorem evValid_of {e : Event} (h : evValid e = true) : (1 ≤ e.Kind ∧ e.Kind ≤ 8) ∧ (0 ≤ e.Key.BodyA ∧ e.Key.BodyA ≤ 1099511627776) ∧ (0 ≤ e.Key.FixtureA ∧ e.Key.FixtureA ≤ 1099511627776) ∧ (0 ≤ e.Key.BodyB ∧ e.Key.BodyB ≤ 1099511627776) ∧ (0 ≤ e.Key.FixtureB ∧ e.Key.FixtureB ≤ 1099511627776) ∧ (4 < e.Kind → e.Key.FixtureA = 0 ∧ e.Key.BodyB = 0 ∧ e.Key.FixtureB = 0) := by
  unfold evValid at h
  by_cases h4 : e.Kind ≤ 4
  · rw [if_pos h4] at h
    simp only [Bool.and_eq_true, decide_eq_true_iff] at h
    exact ⟨⟨h.1.1.1, h.1.1.2⟩, idOk_bd h.1.2, idOk_bd h.2.1.1, idOk_bd h.2.1.2, idOk_bd h.2.2, by omega⟩
  · rw [if_neg h4] at h
    simp only [Bool.and_eq_true, decide_eq_true_iff] at h
    have h2 := idOk_bd h.1.2
    refine ⟨⟨h.1.1.1, h.1.1.2⟩, h2, ?_, ?_, ?_, ?_⟩ <;> omega
theorem evW_len (k : Int) (h1 : 1 ≤ k) (h2 : k ≤ 8) : (evW k).length ≤ 20 := by
  rcases k8 h1 h2 with h | h | h | h | h | h | h | h <;> subst h <;> decide
theorem evW_isF (k : Int) (h1 : 1 ≤ k) (h2 : k ≤ 8) : isF (evW k) = true := by
  rcases k8 h1 h2 with h | h | h | h | h | h | h | h <;> subst h <;> decide
theorem fmt_isF (n : Int) (h : 0 ≤ n) : isF (fmtInt n) = true := by
  unfold fmtInt
  rw [if_neg (by omega)]
  obtain ⟨h1, _, x, l, h2, _⟩ := digs_facts n.natAbs n.natAbs (Nat.le_refl _)
  unfold isF
  rw [Bool.and_eq_true]
  refine ⟨?_, by rw [h2]; simp⟩
  rw [List.all_eq_true] at h1 ⊢
  intro c hc
  have := isD_iff.1 (h1 c hc)
  simp; omega
theorem fmt_len (n : Int) (h1 : 0 ≤ n) (h2 : n ≤ 1099511627776) : (fmtInt n).length ≤ 20 := (fmtInt_len n (by rw [i64_min]; omega) (by rw [i64_max]; omega)).1
theorem parts_len {e : Event} (h : evValid e = true) : (∀ p ∈ evParts e, p.length ≤ 20) ∧ (evParts e).all isF = true ∧ (evParts e).length ≤ 5 := by
  obtain ⟨hk, a, b, c, d, _⟩ := evValid_of h
  unfold evParts
  split
  · refine ⟨?_, ?_, by simp⟩
    · intro p hp
      simp only [List.mem_cons, List.not_mem_nil, or_false] at hp
      rcases hp with h | h | h | h | h <;> subst h
      · exact evW_len _ hk.1 hk.2
      · exact fmt_len _ a.1 a.2
      · exact fmt_len _ b.1 b.2
      · exact fmt_len _ c.1 c.2
      · exact fmt_len _ d.1 d.2
    · simp [evW_isF _ hk.1 hk.2, fmt_isF _ a.1, fmt_isF _ b.1, fmt_isF _ c.1, fmt_isF _ d.1]
  · refine ⟨?_, ?_, by simp⟩
    · intro p hp
      simp only [List.mem_cons, List.not_mem_nil, or_false] at hp
      rcases hp with h | h <;> subst h
      · exact evW_len _ hk.1 hk.2
      · exact fmt_len _ a.1 a.2
    · simp [evW_isF _ hk.1 hk.2, fmt_isF _ a.1]
theorem evFmt_len (e : Event) : (evFmt e).length ≤ 105 := by
  unfold evFmt
  split
  next h =>
    obtain ⟨h1, _, h3⟩ := parts_len h
    have := join_len (evParts e) 20 h1
    omega
  next h => exact Nat.zero_le _
theorem i64b {n : Int} (h : 0 ≤ n ∧ n ≤ 1099511627776) : IntKind.i64.min ≤ n ∧ n ≤ IntKind.i64.max := by rw [i64_min, i64_max]; omega
theorem Format_eq (e : Event) : event_Format e = some (evFmt e) := by
  unfold event_Format
  rw [Valid_eq, Bind_snr]
  simp only [Let_nr]
  cases hv : evValid e
  · unfold evFmt; rw [hv]; rfl
  · obtain ⟨hk, a, b, c, d, _⟩ := evValid_of hv
    obtain ⟨p1, _, p3⟩ := parts_len hv
    have hj := evFmt_len e
    unfold evFmt at hj ⊢
    rw [if_pos hv] at hj ⊢
    simp only [Bool.not_true, ff, if_false]
    unfold event_isPairEvent
    simp only [Let_nr, Bind_snr, cond_and]
    simp only [word_eq e.Kind (by omega) (by omega), Bind_snr]
    unfold evParts at hj ⊢
    by_cases h4 : e.Kind ≤ 4
    · rw [if_pos h4] at hj
      rw [if_neg (by simp [h4]; omega), if_pos h4]
      simp only [FormatInt_eq _ (i64b a).1 (i64b a).2, FormatInt_eq _ (i64b b).1 (i64b b).2, Bind_snr, FormatInt_eq _ (i64b c).1 (i64b c).2, FormatInt_eq _ (i64b d).1 (i64b d).2]
      rw [JoinFields_eq _ (by simp) (by omega), Bind_snr]
    · rw [if_neg h4] at hj
      rw [if_pos (by simp [h4]), if_neg h4]
      simp only [FormatInt_eq _ (i64b a).1 (i64b a).2, Bind_snr]
      rw [JoinFields_eq _ (by simp) (by omega), Bind_snr]
theorem refFormat_eq (e : Event) : caromref44_Format e = some (evFmt e) := by
  unfold caromref44_Format
  rw [refValid_eq, Bind_snr]
  simp only [Let_nr]
  cases hv : evValid e
  · unfold evFmt; rw [hv]; rfl
  · obtain ⟨hk, a, b, c, d, _⟩ := evValid_of hv
    obtain ⟨p1, _, p3⟩ := parts_len hv
    have hj := evFmt_len e
    unfold evFmt at hj ⊢
    rw [if_pos hv] at hj ⊢
    simp only [Bool.not_true, ff, if_false]
    simp only [refWord_eq _ hk.1 hk.2, Bind_snr]
    unfold evParts at hj ⊢
    by_cases h4 : e.Kind ≤ 4
    · rw [if_pos h4] at hj
      rw [if_neg (by rw [decide_eq_true_iff]; omega), if_pos h4]
      simp only [refFormatInt_eq _ (i64b a).1 (i64b a).2, refFormatInt_eq _ (i64b b).1 (i64b b).2, Bind_snr, refFormatInt_eq _ (i64b c).1 (i64b c).2, refFormatInt_eq _ (i64b d).1 (i64b d).2]
      rw [refJoinFields_eq _ (by simp) (by omega), Bind_snr]
    · rw [if_neg h4] at hj
      rw [if_pos (by rw [decide_eq_true_iff]; omega), if_neg h4]
      simp only [refFormatInt_eq _ (i64b a).1 (i64b a).2, Bind_snr]
      rw [refJoinFields_eq _ (by simp) (by omega), Bind_snr]
theorem pFields_fmt {e : Event} (h : evValid e = true) : pFields (evFmt e) = (evParts e, 0) := by
  unfold evFmt; rw [if_pos h]; exact pFields_join _ (parts_len h).2.1
theorem evFmt_ne {e : Event} (h : evValid e = true) : evFmt e ≠ [] := by
  intro h2
  have := pFields_fmt h
  rw [h2] at this
  have h3 : evParts e = [] := by simpa [pFields] using (congrArg Prod.fst this).symm
  unfold evParts at h3
  split at h3 <;> cases h3
theorem fmt_back (n : Int) (h : 0 ≤ n ∧ n ≤ 1099511627776) : pInt (fmtInt n) = (n, 0) := by rw [pInt_fmt, if_pos (by omega)]
theorem fmt_inj {a b : Int} (ha : 0 ≤ a ∧ a ≤ 1099511627776) (hb : 0 ≤ b ∧ b ≤ 1099511627776) (h : fmtInt a = fmtInt b) : a = b := by
  have := congrArg pInt h
  rw [fmt_back a ha, fmt_back b hb] at this
  exact (Prod.mk.inj this).1
theorem evW_injN : ∀ a : Fin 9, ∀ b : Fin 9, ix words (a.val : Int) = ix words (b.val : Int) → a.val = b.val := by decide
theorem evW_inj {a b : Int} (ha : 1 ≤ a ∧ a ≤ 8) (hb : 1 ≤ b ∧ b ≤ 8) (h : evW a = evW b) : a = b := by
  have := evW_injN ⟨a.toNat, by omega⟩ ⟨b.toNat, by omega⟩ (by simpa [evW, Int.toNat_of_nonneg (show 0 ≤ a by omega), Int.toNat_of_nonneg (show 0 ≤ b by omega)] using h)
  simp only at this; omega
theorem evFmt_inj {x y : Event} (hx : evValid x = true) (hy : evValid y = true) (h : evFmt x = evFmt y) : x = y := by
  have hp : evParts x = evParts y := by
    have := congrArg pFields h
    rw [pFields_fmt hx, pFields_fmt hy] at this
    exact (Prod.mk.inj this).1
  obtain ⟨kx, ax, bx, cx', dx, sx⟩ := evValid_of hx
  obtain ⟨ky, ay, by', cy, dy, sy⟩ := evValid_of hy
  obtain ⟨K, A, B, C, D⟩ := x
  obtain ⟨K', A', B', C', D'⟩ := y
  simp only at *
  unfold evParts at hp
  simp only at hp
  by_cases h4 : K ≤ 4 <;> by_cases h5 : K' ≤ 4
  · rw [if_pos h4, if_pos h5] at hp
    simp only [List.cons.injEq, and_true] at hp
    rw [evW_inj kx ky hp.1, fmt_inj ax ay hp.2.1, fmt_inj bx by' hp.2.2.1, fmt_inj cx' cy hp.2.2.2.1, fmt_inj dx dy hp.2.2.2.2]
  · rw [if_pos h4, if_neg h5] at hp; simp at hp
  · rw [if_neg h4, if_pos h5] at hp; simp at hp
  · rw [if_neg h4, if_neg h5] at hp
    simp only [List.cons.injEq, and_true] at hp
    have s1 := sx (by omega)
    have s2 := sy (by omega)
    rw [evW_inj kx ky hp.1, fmt_inj ax ay hp.2, s1.1, s1.2.1, s1.2.2, s2.1, s2.2.1, s2.2.2]
end GoForm


set_option linter.all false
set_option maxRecDepth 100000
open Go Go.Rx

namespace GoForm
def z44 : Event := ⟨0, ⟨0, 0, 0, 0⟩⟩
theorem fuel20 : ∃ m, fuel = m + 20 := ⟨2 ^ 70 - 20, by unfold fuel; decide⟩
theorem wr1 : IntKind.i64.wrap ((0 : Int) + 1) = 1 := by decide
theorem wr2 : IntKind.i64.wrap ((1 : Int) + 1) = 2 := by decide
theorem wr3 : IntKind.i64.wrap ((2 : Int) + 1) = 3 := by decide
theorem wr4 : IntKind.i64.wrap ((3 : Int) + 1) = 4 := by decide
/-- The kind behind the rounds that are left. -/
def kfo (w : List UInt8) : Nat → Int → Int
  | 0, a => a
  | j + 1, a => kfo w j (if (evW (9 - ((j : Int) + 1)) == w) = true then 9 - ((j : Int) + 1) else a)
theorem kfo_self : ∀ a : Fin 9, 1 ≤ a.val → kfo (ix words (a.val : Int)) 8 0 = (a.val : Int) := by decide
theorem kindLoop {X : Type} (w : List UInt8) (z : PairKey) (K : Int → Option X) (step : (Int × Event → Option X) → Int × Event → Option X)
    (hs : ∀ (r : Int × Event → Option X) (k κ : Int), 1 ≤ k → k < 9 → step r (k, ⟨κ, z⟩) = r (k + 1, ⟨if (evW k == w) = true then k else κ, z⟩))
    (he : ∀ (r : Int × Event → Option X) (κ : Int), step r (9, ⟨κ, z⟩) = K κ) : ∀ (n j : Nat) (κ : Int), j ≤ 8 → j < n → LOOP step n (9 - (j : Int), ⟨κ, z⟩) = K (kfo w j κ)
  | 0, j, e, _, h => by omega
  | n + 1, 0, e, _, _ => by rw [LOOP_s]; exact he _ e
  | n + 1, j + 1, e, h1, h2 => by
    rw [LOOP_s, hs _ _ _ (by omega) (by omega), show (9 : Int) - ((j + 1 : Nat) : Int) + 1 = 9 - (j : Int) by omega, kindLoop w z K step hs he n j _ (by omega) (by omega)]
    rw [show (9 : Int) - ((j + 1 : Nat) : Int) = 9 - ((j : Int) + 1) by omega]
    rfl
def pNum (κ : Int) : List (List UInt8) → Event × Bool
  | [] => (⟨κ, ⟨0, 0, 0, 0⟩⟩, true)
  | [a] => if (pInt a).2 ≠ 0 then (z44, false) else (⟨κ, ⟨(pInt a).1, 0, 0, 0⟩⟩, true)
  | [a, b] => if (pInt a).2 ≠ 0 then (z44, false) else if (pInt b).2 ≠ 0 then (z44, false) else (⟨κ, ⟨(pInt a).1, (pInt b).1, 0, 0⟩⟩, true)
  | [a, b, c] => if (pInt a).2 ≠ 0 then (z44, false) else if (pInt b).2 ≠ 0 then (z44, false) else if (pInt c).2 ≠ 0 then (z44, false) else (⟨κ, ⟨(pInt a).1, (pInt b).1, (pInt c).1, 0⟩⟩, true)
  | [a, b, c, d] => if (pInt a).2 ≠ 0 then (z44, false) else if (pInt b).2 ≠ 0 then (z44, false) else if (pInt c).2 ≠ 0 then (z44, false) else if (pInt d).2 ≠ 0 then (z44, false) else (⟨κ, ⟨(pInt a).1, (pInt b).1, (pInt c).1, (pInt d).1⟩⟩, true)
  | _ => (z44, false)
theorem if_some2 {α : Type} {p : Prop} [Decidable p] (a b : α) : (if p then some a else some b) = some (if p then a else b) := by split <;> rfl
theorem parseFields_eq (w : List UInt8) (R : List (List UInt8)) (hR : R.length ≤ 1000000) (h : ∀ p ∈ R, Sm p) : event_parseFields (w :: R) = some (pNum (kfo w 8 0) R) := by
  unfold event_parseFields
  have e5 : IntKind.i64.wrap ((1 : Int) + ((4 : Nat) : Int)) = 5 := by decide
  rw [show ((1 : Int), ({ Kind := (0 : Int), Key := { BodyA := (0 : Int), FixtureA := (0 : Int), BodyB := (0 : Int), FixtureB := (0 : Int) : PairKey } : Event })) = (9 - ((8 : Nat) : Int), z44) from rfl]
  refine (kindLoop w ⟨0, 0, 0, 0⟩ (fun κ => some (pNum κ R)) _ ?_ ?_ fuel 8 0 (by omega) (by unfold fuel; decide))
  · intro r k κ h1 h2
    simp only [Let_nr, Join_nr]
    rw [if_pos (decide_eq_true h2), word_eq k (by omega) h2, Bind_snr, Chk_of ⟨by decide, by simp; try omega⟩, show IntKind.i64.wrap (k + 1) = k + 1 from wrap_in _ (by omega) (by omega)]
    rw [show ix (w :: R) (0 : Int) = w from rfl]
    split
    next h => rfl
    next h => rfl
  · intro r κ
    simp only [Let_nr, wr1, wr2, wr3, wr4, e5]
    rw [if_neg (by simp)]
    match R, h with
    | [], _ => simp [Rx.Chk, Rx.Bind, ix, pNum, z44]
    | [a], h =>
      have pa := ParseInt_eq a (h _ (by simp))
      simp [Rx.Chk, Rx.Bind, ix, pNum, z44, pa]
      repeat' split
      all_goals simp_all
    | [a, b], h =>
      have pa := ParseInt_eq a (h _ (by simp))
      have pb := ParseInt_eq b (h _ (by simp))
      simp [Rx.Chk, Rx.Bind, ix, pNum, z44, pa, pb]
      repeat' split
      all_goals simp_all
    | [a, b, c], h =>
      have pa := ParseInt_eq a (h _ (by simp))
      have pb := ParseInt_eq b (h _ (by simp))
      have pc := ParseInt_eq c (h _ (by simp))
      simp [Rx.Chk, Rx.Bind, ix, pNum, z44, pa, pb, pc]
      repeat' split
      all_goals simp_all
    | [a, b, c, d], h =>
      have pa := ParseInt_eq a (h _ (by simp))
      have pb := ParseInt_eq b (h _ (by simp))
      have pc := ParseInt_eq c (h _ (by simp))
      have pd := ParseInt_eq d (h _ (by simp))
      simp [Rx.Chk, Rx.Bind, ix, pNum, z44, pa, pb, pc, pd]
      repeat' split
      all_goals simp_all
    | a :: b :: c :: d :: e :: t, h =>
      rw [if_pos (by simp; omega)]; rfl
/-- What a reader of events answers at s. -/
def evSpec (s : List UInt8) (f : List UInt8 → Option (Event × Int)) : Prop :=
  ∃ r, f s = some r ∧ ((r.2 = 0 ∧ evValid r.1 = true ∧ evFmt r.1 = s) ∨ r = (z44, 3)) ∧ ∀ e, evValid e = true → evFmt e = s → r = (e, 0)
theorem spl_le (c : UInt8) : ∀ l, ∀ p ∈ spl c l, p.length ≤ l.length
  | [], p, h => by simp [spl] at h; subst h; simp
  | x :: l, p, h => by
    rw [spl_cons] at h
    split at h
    · rw [List.mem_cons] at h
      rcases h with h | h
      · subst h; simp
      · have := spl_le c l p h; simp; omega
    · cases hq : spl c l with
      | nil => exact absurd hq (spl_ne c l)
      | cons q qs =>
        rw [hq] at h
        simp only [List.mem_cons] at h
        rcases h with h | h
        · subst h
          have := spl_le c l q (by rw [hq]; simp); simp; omega
        · have := spl_le c l p (by rw [hq]; simp [h]); simp; omega
theorem pFields_le (l : List UInt8) : ∀ p ∈ (pFields l).1, p.length ≤ l.length := by
  intro p hp
  unfold pFields at hp
  split at hp
  · simp at hp
  · split at hp
    · exact spl_le 32 l p hp
    · simp at hp
theorem pFields_count (l : List UInt8) : (pFields l).1.length ≤ l.length + 1 := by
  unfold pFields
  split
  · simp
  · split
    · have := spl_len 32 l; have := List.count_le_length (a := (32 : UInt8)) (l := l); simp only; omega
    · simp
theorem kfo_kind {k : Int} (h : 1 ≤ k ∧ k ≤ 8) : kfo (evW k) 8 0 = k := by
  have := kfo_self ⟨k.toNat, by omega⟩ (by show 1 ≤ k.toNat; omega)
  simp only [Int.toNat_of_nonneg (show 0 ≤ k by omega)] at this
  exact this
theorem pNum_parts {e : Event} (hv : evValid e = true) : ∃ w R, evParts e = w :: R ∧ pNum (kfo w 8 0) R = (e, true) := by
  obtain ⟨hk, a, b, c, d, s⟩ := evValid_of hv
  unfold evParts
  split
  · refine ⟨_, _, rfl, ?_⟩
    simp [pNum, kfo_kind hk, fmt_back _ a, fmt_back _ b, fmt_back _ c, fmt_back _ d]
  · refine ⟨_, _, rfl, ?_⟩
    have s := s (by omega)
    simp only [pNum, kfo_kind hk, fmt_back _ a]
    obtain ⟨K, A, B, C, D⟩ := e
    simp only at s
    simp [s.1, s.2.1, s.2.2]
theorem Parse_spec (s : List UInt8) (hs : s.length ≤ 200) : evSpec s event_Parse := by
  unfold evSpec event_Parse
  rw [Fields_eq s (by omega), Bind_snr]
  simp only [Let_nr, cond_or]
  have hle := pFields_le s
  have hct := pFields_count s
  by_cases hc : ((pFields s).2 != 0 || (((pFields s).1.length : Int) == 0)) = true
  · rw [if_pos hc]
    refine ⟨_, rfl, Or.inr rfl, ?_⟩
    intro e hv he
    subst he
    rw [pFields_fmt hv] at hc
    exfalso
    have : evParts e ≠ [] := by unfold evParts; split <;> simp
    simp at hc; exact this hc
  · rw [if_neg hc]
    obtain ⟨w, R, hR⟩ : ∃ w R, (pFields s).1 = w :: R := by
      cases h : (pFields s).1 with
      | nil => rw [h] at hc; simp at hc
      | cons w R => exact ⟨w, R, rfl⟩
    rw [hR] at hle hct ⊢
    rw [parseFields_eq w R (by simp at hct; omega) (fun p hp => sm_of (hle p (by simp [hp])) (by omega)), Bind_snr]
    simp only [Format_eq, Bind_if, Bind_snr]
    by_cases hb : (!(pNum (kfo w 8 0) R).2 || (evFmt (pNum (kfo w 8 0) R).1 != s)) = true
    · rw [if_pos]
      · refine ⟨_, rfl, Or.inr rfl, ?_⟩
        intro e hv he
        exfalso
        obtain ⟨w', R', h1, h2⟩ := pNum_parts hv
        have h3 := congrArg Prod.fst (pFields_fmt hv)
        rw [he, hR, h1] at h3
        simp only [List.cons.injEq] at h3
        rw [h3.1, h3.2, h2] at hb
        simp [he] at hb
      · cases hp : (pNum (kfo w 8 0) R).2
        · rfl
        · rw [hp] at hb; simpa using hb
    · have hb2 : (pNum (kfo w 8 0) R).2 = true ∧ evFmt (pNum (kfo w 8 0) R).1 = s := by simpa using hb
      rw [if_neg (by simp [hb2.1, hb2.2])]
      have hv : evValid (pNum (kfo w 8 0) R).1 = true := by
        cases hx : evValid (pNum (kfo w 8 0) R).1
        · have h4 := hb2.2
          unfold evFmt at h4
          rw [hx] at h4
          simp at h4
          rw [h4] at hR
          simp [pFields] at hR
        · rfl
      refine ⟨_, rfl, Or.inl ⟨rfl, hv, hb2.2⟩, ?_⟩
      intro e he1 he2
      rw [evFmt_inj hv he1 (hb2.2.trans he2.symm)]
end GoForm


set_option linter.all false
set_option maxRecDepth 100000
open Go Go.Rx

namespace GoForm
/-- The round over the kinds: leaves at the first that fits. -/
theorem tryLoop (s : List UInt8) (key : PairKey) (z : Event) (step : (Int × Event → Option (Event × Int)) → Int × Event → Option (Event × Int))
    (hs : ∀ (r : Int × Event → Option (Event × Int)) (k : Int), 1 ≤ k → k ≤ 8 → step r (k, z) = if (evValid ⟨k, key⟩ && (evFmt ⟨k, key⟩ == s)) = true then some (⟨k, key⟩, 0) else r (k + 1, z))
    (he : ∀ (r : Int × Event → Option (Event × Int)), step r (9, z) = some (z44, 3)) : ∀ (n j : Nat), j ≤ 8 → j < n →
      ∃ r, LOOP step n (9 - (j : Int), z) = some r ∧ ((r.2 = 0 ∧ evValid r.1 = true ∧ evFmt r.1 = s) ∨ r = (z44, 3)) ∧ ∀ k : Int, 9 - (j : Int) ≤ k → k ≤ 8 → evValid ⟨k, key⟩ = true → evFmt ⟨k, key⟩ = s → r = (⟨k, key⟩, 0)
  | 0, j, _, h => by omega
  | n + 1, 0, _, _ => by
    rw [LOOP_s]
    refine ⟨_, he _, Or.inr rfl, ?_⟩
    intro k h1 h2; omega
  | n + 1, j + 1, h1, h2 => by
    rw [LOOP_s, hs _ _ (by omega) (by omega)]
    by_cases h : (evValid ⟨9 - ((j + 1 : Nat) : Int), key⟩ && (evFmt ⟨9 - ((j + 1 : Nat) : Int), key⟩ == s)) = true
    · rw [if_pos h]
      rw [Bool.and_eq_true, beq_iff_eq] at h
      refine ⟨_, rfl, Or.inl ⟨rfl, h.1, h.2⟩, ?_⟩
      intro k _ _ hv hf
      rw [evFmt_inj h.1 hv (h.2.trans hf.symm)]
    · rw [if_neg h, show (9 : Int) - ((j + 1 : Nat) : Int) + 1 = 9 - (j : Int) by omega]
      obtain ⟨r, hr, hr2, hr3⟩ := tryLoop s key z step hs he n j (by omega) (by omega)
      refine ⟨r, hr, hr2, ?_⟩
      intro k hk1 hk2 hv hf
      by_cases hk : k = 9 - ((j + 1 : Nat) : Int)
      · subst hk
        exfalso; apply h
        rw [hv, hf]; simp
      · exact hr3 k (by omega) hk2 hv hf
theorem outerLoop (L : List (List UInt8)) (Q : Event × Int → Prop) (S : (Int × Event × List Int → Option (Event × Int)) → Int × Event × List Int → Option (Event × Int)) (hL : L.length = 2 ∨ L.length = 5)
    (hrd : ∀ (r : Int × Event × List Int → Option (Event × Int)) (i : Nat) (nums : List Int), 1 ≤ i → i < L.length → i ≤ 4 → nums.length = 4 → S r ((i : Int), z44, nums) = if (pInt (ix L (i : Int))).2 ≠ 0 then some (z44, 3) else r (((i + 1 : Nat) : Int), z44, nums.set (i - 1) (pInt (ix L (i : Int))).1))
    (hbad : ∀ i : Nat, 1 ≤ i → i < L.length → (pInt (ix L (i : Int))).2 ≠ 0 → Q (z44, 3))
    (hend2 : ∀ (r : Int × Event × List Int → Option (Event × Int)) (w a : List UInt8), L = [w, a] → ∃ x, S r (2, z44, [(pInt a).1, 0, 0, 0]) = some x ∧ Q x)
    (hend5 : ∀ (r : Int × Event × List Int → Option (Event × Int)) (w a b c d : List UInt8), L = [w, a, b, c, d] → ∃ x, S r (5, z44, [(pInt a).1, (pInt b).1, (pInt c).1, (pInt d).1]) = some x ∧ Q x) :
    ∃ x, LOOP S fuel (((1 : Nat) : Int), z44, [0, 0, 0, 0]) = some x ∧ Q x := by
  obtain ⟨m, hm⟩ := fuel20
  rw [hm]
  rcases hL with h | h
  · obtain ⟨w, a, rfl⟩ : ∃ w a, L = [w, a] := by
      match L, h with
      | [w, a], _ => exact ⟨w, a, rfl⟩
    rw [LOOP_s, hrd _ 1 _ (by omega) (by simp) (by omega) rfl]
    by_cases h1 : (pInt (ix [w, a] ((1 : Nat) : Int))).2 ≠ 0
    · rw [if_pos h1]; exact ⟨_, rfl, hbad 1 (by omega) (by simp) h1⟩
    · rw [if_neg h1, LOOP_s]; exact hend2 _ w a rfl
  · obtain ⟨w, a, b, c, d, rfl⟩ : ∃ w a b c d, L = [w, a, b, c, d] := by
      match L, h with
      | [w, a, b, c, d], _ => exact ⟨w, a, b, c, d, rfl⟩
    rw [LOOP_s, hrd _ 1 _ (by omega) (by simp) (by omega) rfl]
    by_cases h1 : (pInt (ix [w, a, b, c, d] ((1 : Nat) : Int))).2 ≠ 0
    · rw [if_pos h1]; exact ⟨_, rfl, hbad 1 (by omega) (by simp) h1⟩
    rw [if_neg h1, LOOP_s, hrd _ 2 _ (by omega) (by simp) (by omega) rfl]
    by_cases h2 : (pInt (ix [w, a, b, c, d] ((2 : Nat) : Int))).2 ≠ 0
    · rw [if_pos h2]; exact ⟨_, rfl, hbad 2 (by omega) (by simp) h2⟩
    rw [if_neg h2, LOOP_s, hrd _ 3 _ (by omega) (by simp) (by omega) rfl]
    by_cases h3 : (pInt (ix [w, a, b, c, d] ((3 : Nat) : Int))).2 ≠ 0
    · rw [if_pos h3]; exact ⟨_, rfl, hbad 3 (by omega) (by simp) h3⟩
    rw [if_neg h3, LOOP_s, hrd _ 4 _ (by omega) (by simp) (by omega) rfl]
    by_cases h4 : (pInt (ix [w, a, b, c, d] ((4 : Nat) : Int))).2 ≠ 0
    · rw [if_pos h4]; exact ⟨_, rfl, hbad 4 (by omega) (by simp) h4⟩
    rw [if_neg h4, LOOP_s]; exact hend5 _ w a b c d rfl
def spQ (s : List UInt8) (r : Event × Int) : Prop := ((r.2 = 0 ∧ evValid r.1 = true ∧ evFmt r.1 = s) ∨ r = (z44, 3)) ∧ ∀ e, evValid e = true → evFmt e = s → r = (e, 0)
theorem refParse_spec (s : List UInt8) (hs : s.length ≤ 200) : evSpec s caromref44_Parse := by
  unfold evSpec caromref44_Parse
  rw [refFields_eq s (by omega), Bind_snr]
  simp only [Let_nr, Join_nr, cond_or, cond_and]
  have hle := pFields_le s
  by_cases hc : ((pFields s).2 != 0 || ((((pFields s).1.length : Int) != 2) && (((pFields s).1.length : Int) != 5))) = true
  · rw [if_pos hc]
    refine ⟨_, rfl, Or.inr rfl, ?_⟩
    intro e hv he
    subst he
    rw [pFields_fmt hv] at hc
    exfalso
    unfold evParts at hc
    split at hc <;> simp at hc
  · rw [if_neg hc]
    have hc2 : (pFields s).2 = 0 ∧ ((pFields s).1.length = 2 ∨ (pFields s).1.length = 5) := by
      rw [Bool.not_eq_true, Bool.or_eq_false_iff, Bool.and_eq_false_iff, bne_eq_false_iff_eq, bne_eq_false_iff_eq, bne_eq_false_iff_eq] at hc
      refine ⟨hc.1, ?_⟩
      rcases hc.2 with h | h
      · exact Or.inl (by omega)
      · exact Or.inr (by omega)
    have hparts : ∀ e, evValid e = true → evFmt e = s → (pFields s).1 = evParts e := by
      intro e hv he; rw [← he, pFields_fmt hv]
    generalize (pFields s).1 = L at hle hc2 hparts ⊢
    have hfin : ∀ (A B C D : Int), (∀ e : Event, evValid e = true → evFmt e = s → e.Key = ⟨A, B, C, D⟩) →
        ∀ step, (∀ (r : Int × Event → Option (Event × Int)) (k : Int), 1 ≤ k → k ≤ 8 → step r (k, z44) = if (evValid ⟨k, ⟨A, B, C, D⟩⟩ && (evFmt ⟨k, ⟨A, B, C, D⟩⟩ == s)) = true then some (⟨k, ⟨A, B, C, D⟩⟩, 0) else r (k + 1, z44)) →
        (∀ (r : Int × Event → Option (Event × Int)), step r (9, z44) = some (z44, 3)) →
        ∃ r, LOOP step fuel ((1 : Int), z44) = some r ∧ spQ s r := by
      intro A B C D hkey step hs1 he1
      obtain ⟨r, h1, h2, h3⟩ := tryLoop s ⟨A, B, C, D⟩ z44 step hs1 he1 fuel 8 (by omega) (by unfold fuel; decide)
      refine ⟨r, h1, h2, ?_⟩
      intro e hv hf
      have hk := hkey e hv hf
      obtain ⟨hk1, _⟩ := evValid_of hv
      obtain ⟨K, key⟩ := e
      simp only at hk hk1
      subst hk
      exact h3 K (by omega) (by omega) hv hf
    have hkeys : ∀ e, evValid e = true → evFmt e = s → ∀ i : Nat, 1 ≤ i → i < L.length → (pInt (ix L (i : Int))).2 = 0 := by
      intro e hv hf i h1 h2
      obtain ⟨hk, a, b, c, d, sx⟩ := evValid_of hv
      rw [hparts e hv hf] at h2 ⊢
      unfold evParts at h2 ⊢
      split at h2
      next h4 =>
        rw [if_pos h4]
        simp only [List.length_cons, List.length_nil] at h2
        have : i = 1 ∨ i = 2 ∨ i = 3 ∨ i = 4 := by omega
        rcases this with h | h | h | h <;> subst h
        · exact congrArg Prod.snd (fmt_back _ a)
        · exact congrArg Prod.snd (fmt_back _ b)
        · exact congrArg Prod.snd (fmt_back _ c)
        · exact congrArg Prod.snd (fmt_back _ d)
      next h4 =>
        rw [if_neg h4]
        simp only [List.length_cons, List.length_nil] at h2
        have : i = 1 := by omega
        subst this
        exact congrArg Prod.snd (fmt_back _ a)
    have hin : ∀ (A B C D : Int) (r : Int × Event → Option (Event × Int)) (k : Int), 1 ≤ k → k ≤ 8 →
        (Rx.Bind (caromref44_Valid ⟨k, ⟨A, B, C, D⟩⟩) fun r525 => Rx.Bind (if (r525 == true) = true then caromref44_Format ⟨k, ⟨A, B, C, D⟩⟩ else some default) fun r526 =>
          if (r525 && (r526 == s)) = true then some (⟨k, ⟨A, B, C, D⟩⟩, 0) else r (IntKind.i64.wrap (k + 1), z44)) =
        if (evValid ⟨k, ⟨A, B, C, D⟩⟩ && (evFmt ⟨k, ⟨A, B, C, D⟩⟩ == s)) = true then some (⟨k, ⟨A, B, C, D⟩⟩, 0) else r (k + 1, z44) := by
      intro A B C D r k h1 h2
      rw [refValid_eq, Bind_snr, refFormat_eq, Bind_if, show IntKind.i64.wrap (k + 1) = k + 1 from wrap_in _ (by omega) (by omega)]
      cases evValid ⟨k, ⟨A, B, C, D⟩⟩ <;> rfl
    show ∃ r, LOOP _ fuel (((1 : Nat) : Int), z44, [0, 0, 0, 0]) = some r ∧ spQ s r
    refine outerLoop L (spQ s) _ hc2.2 ?_ ?_ ?_ ?_
    · intro r i nums h1 h2 h3 h4
      rw [if_pos (by rw [decide_eq_true_iff]; omega), Chk_of ⟨by omega, by omega⟩, refParseInt_eq _ (sm_of (hle _ (ix_mem L _ ⟨by omega, by omega⟩)) (by omega)), Bind_snr]
      rw [show IntKind.i64.wrap ((i : Int) - 1) = ((i - 1 : Nat) : Int) by rw [wrap_in _ (by omega) (by omega)]; omega, show IntKind.i64.wrap ((i : Int) + 1) = ((i + 1 : Nat) : Int) by rw [wrap_in _ (by omega) (by omega)]; omega]
      have hcn : (0 : Int) ≤ ((i - 1 : Nat) : Int) ∧ ((i - 1 : Nat) : Int) < (nums.length : Int) := by omega
      rw [Chk_of ⟨by omega, by omega⟩, Chk_of hcn]
      by_cases hp : (pInt (ix L (i : Int))).2 = 0
      · rw [if_neg (by rw [hp]; decide), if_neg (by rw [hp]; decide)]; rfl
      · rw [if_pos (by rw [bne_iff_ne]; exact hp), if_pos hp]; rfl
    · intro i h1 h2 h3
      refine ⟨Or.inr rfl, ?_⟩
      intro e hv hf
      exact absurd (hkeys e hv hf i h1 h2) h3
    · intro r w a hL
      subst hL
      rw [if_neg (by simp)]
      refine hfin (pInt a).1 0 0 0 ?_ _ ?_ ?_
      · intro e hv hf
        have h1 := hparts e hv hf
        obtain ⟨hk, a', b, c, d, sx⟩ := evValid_of hv
        unfold evParts at h1
        split at h1
        · simp at h1
        · simp only [List.cons.injEq, and_true] at h1
          rw [h1.2, fmt_back _ a']
          have s := sx (by omega)
          obtain ⟨K, A, B, C, D⟩ := e
          simp only at s
          rw [s.1, s.2.1, s.2.2]
      · intro r k h1 h2
        rw [if_pos (by rw [decide_eq_true_iff]; exact h2)]
        exact hin _ _ _ _ r k h1 h2
      · intro r; rfl
    · intro r w a b c d hL
      subst hL
      rw [if_neg (by simp)]
      refine hfin (pInt a).1 (pInt b).1 (pInt c).1 (pInt d).1 ?_ _ ?_ ?_
      · intro e hv hf
        have h1 := hparts e hv hf
        obtain ⟨hk, a', b', c', d', sx⟩ := evValid_of hv
        unfold evParts at h1
        split at h1
        · simp only [List.cons.injEq, and_true] at h1
          rw [h1.2.1, h1.2.2.1, h1.2.2.2.1, h1.2.2.2.2, fmt_back _ a', fmt_back _ b', fmt_back _ c', fmt_back _ d']
        · simp at h1
      · intro r k h1 h2
        rw [if_pos (by rw [decide_eq_true_iff]; exact h2)]
        exact hin _ _ _ _ r k h1 h2
      · intro r; rfl
end GoForm


set_option linter.all false
set_option maxRecDepth 100000
open Go Go.Rx

namespace GoForm
def lexL : List Int → List Int → Bool
  | x :: xs, y :: ys => if x = y then lexL xs ys else decide (x < y)
  | _, _ => false
theorem lexL_asymm : ∀ x y : List Int, lexL x y = true → lexL y x = false
  | [], [], h => rfl
  | [], _ :: _, h => rfl
  | _ :: _, [], h => rfl
  | x :: xs, y :: ys, h => by
    unfold lexL at h ⊢
    by_cases e : x = y
    · rw [if_pos e] at h; rw [if_pos e.symm]; exact lexL_asymm xs ys h
    · rw [if_neg e, decide_eq_true_iff] at h; rw [if_neg (fun q => e q.symm), decide_eq_false_iff_not]; omega
theorem lexL_trans : ∀ x y z : List Int, lexL x y = true → lexL y z = true → lexL x z = true
  | [], _, _, h, _ => by simp [lexL] at h
  | _ :: _, [], _, h, _ => by simp [lexL] at h
  | _ :: _, _ :: _, [], _, h => by simp [lexL] at h
  | x :: xs, y :: ys, z :: zs, h1, h2 => by
    unfold lexL at h1 h2 ⊢
    by_cases e1 : x = y
    · rw [if_pos e1] at h1
      by_cases e2 : y = z
      · rw [if_pos e2] at h2; rw [if_pos (e1.trans e2)]; exact lexL_trans xs ys zs h1 h2
      · rw [if_neg e2] at h2; rw [e1, if_neg e2]; exact h2
    · rw [if_neg e1, decide_eq_true_iff] at h1
      by_cases e2 : y = z
      · rw [if_neg (by omega), decide_eq_true_iff]; omega
      · rw [if_neg e2, decide_eq_true_iff] at h2
        rw [if_neg (by omega), decide_eq_true_iff]; omega
theorem lexL_eq : ∀ x y : List Int, x.length = y.length → (decide (x = y) = !(lexL x y || lexL y x))
  | [], [], _ => rfl
  | [], _ :: _, h => by simp at h
  | _ :: _, [], h => by simp at h
  | x :: xs, y :: ys, h => by
    unfold lexL
    by_cases e : x = y
    · subst e
      rw [if_pos rfl, if_pos rfl, ← lexL_eq xs ys (by simpa using h)]; simp
    · rw [if_neg e, if_neg (fun q => e q.symm)]
      have : ¬ (x :: xs = y :: ys) := by intro q; exact e (List.cons.inj q).1
      rw [decide_eq_false this]
      by_cases h1 : x < y
      · simp [h1]
      · have : y < x := by omega
        simp [this]
def flds (e : Event) : List Int := [e.Kind, e.Key.BodyA, e.Key.FixtureA, e.Key.BodyB, e.Key.FixtureB]
theorem flds_inj (a b : Event) : flds a = flds b ↔ a = b := by
  obtain ⟨k, a1, a2, a3, a4⟩ := a
  obtain ⟨k', b1, b2, b3, b4⟩ := b
  simp [flds]
def cmpI (x y : Int) : Int := if x < y then -1 else if y < x then 1 else 0
theorem Compare_eq (x y : Int) : cmp_Compare x y = some (cmpI x y) := by
  unfold cmp_Compare cmp_isNaN cmpI
  simp only [Let_nr, Bind_snr]
  rw [if_neg (by simp), if_neg (by simp)]
  by_cases h : x < y
  · rw [if_pos (by simpa using h), if_pos h]
  · rw [if_neg (by simpa using h), if_neg h]
    by_cases h2 : y < x
    · rw [if_pos (by simpa using h2), if_pos h2]
    · rw [if_neg (by simpa using h2), if_neg h2]
theorem Compare59_eq (x y : Int) : cmp_Compare_59 x y = some (cmpI x y) := by
  unfold cmp_Compare_59 cmp_isNaN_68 cmpI
  simp only [Let_nr, Bind_snr]
  rw [if_neg (by simp), if_neg (by simp)]
  by_cases h : x < y
  · rw [if_pos (by simpa using h), if_pos h]
  · rw [if_neg (by simpa using h), if_neg h]
    by_cases h2 : y < x
    · rw [if_pos (by simpa using h2), if_pos h2]
    · rw [if_neg (by simpa using h2), if_neg h2]
def orL : List Int → Int
  | [] => 0
  | x :: l => if x = 0 then orL l else x
theorem Or_eq (l : List Int) (hl : Sm l) : cmp_Or l = some (orL l) := by
  unfold cmp_Or
  simp only [Let_nr]
  refine LOOP_l0 l (fun t _ => some (orL t)) _ hl ?_ ?_
  · intro r i t hw hc hm hr
    rw [if_pos (decide_eq_true hc.2), Chk_of hc, hw, hr]
    show _ = some (if ix l (i : Int) = 0 then orL t else ix l (i : Int))
    by_cases h : ix l (i : Int) = 0
    · rw [if_neg (by rw [h]; decide), if_pos h]
    · rw [if_pos (by rw [bne_iff_ne]; exact h), if_neg h]
  · intro r
    rw [if_neg (by simp)]; rfl
theorem orL_lex : ∀ x y : List Int, x.length = y.length → decide (orL (List.zipWith cmpI x y) < 0) = lexL x y
  | [], [], _ => rfl
  | [], _ :: _, h => by simp at h
  | _ :: _, [], h => by simp at h
  | x :: xs, y :: ys, h => by
    rw [List.zipWith_cons_cons]
    unfold orL lexL
    rw [← orL_lex xs ys (by simpa using h)]
    by_cases e : x = y
    · rw [if_pos e, if_pos (by unfold cmpI; rw [if_neg (by omega), if_neg (by omega)])]
    · rw [if_neg e]
      by_cases h1 : x < y
      · rw [show cmpI x y = -1 from if_pos h1, if_neg (by decide), decide_eq_true h1]; rfl
      · rw [show cmpI x y = 1 by (unfold cmpI; rw [if_neg h1, if_pos (by omega)]), if_neg (by decide), decide_eq_false h1]; rfl
theorem Less_eq (a b : Event) : event_Less a b = some (lexL (flds a) (flds b)) := by
  unfold event_Less event_compare
  simp only [Compare_eq, Compare59_eq, Bind_snr, Let_nr]
  rw [Or_eq _ (sm_of (n := 5) (by simp) (by omega)), Bind_snr, Bind_snr, ← orL_lex _ _ (by simp [flds])]
  rfl
theorem refLess_eq (a b : Event) : caromref44_Less a b = some (lexL (flds a) (flds b)) := by
  unfold caromref44_Less
  simp only [Let_nr]
  by_cases h : a.Kind = b.Kind
  · rw [if_neg (by rw [h]; simp)]
    have hx : lexL (flds a) (flds b) = lexL [a.Key.BodyA, a.Key.FixtureA, a.Key.BodyB, a.Key.FixtureB] [b.Key.BodyA, b.Key.FixtureA, b.Key.BodyB, b.Key.FixtureB] := by
      unfold flds; rw [lexL, if_pos h]
    rw [hx]
    generalize hA : [a.Key.BodyA, a.Key.FixtureA, a.Key.BodyB, a.Key.FixtureB] = A
    generalize hB : [b.Key.BodyA, b.Key.FixtureA, b.Key.BodyB, b.Key.FixtureB] = B
    have lA : A.length = 4 := by rw [← hA]; rfl
    have lB : B.length = 4 := by rw [← hB]; rfl
    refine (LOOP_l0 A (fun t i => some (lexL t (B.drop i))) _ (sm_of (n := 4) (by omega) (by omega)) ?_ ?_).trans ?_
    · intro r i t hw hc hm hr
      have hc4 : (0 ≤ (i : Int) ∧ (i : Int) < ((4 : Nat) : Int)) := by omega
      have hcB : (0 ≤ (i : Int) ∧ (i : Int) < (B.length : Int)) := by omega
      rw [if_pos (by rw [decide_eq_true_iff]; omega)]
      simp only [Chk_of hc4, Chk_of hc, Chk_of hcB, hw, hr]
      rw [drop_ix B i (by omega)]
      rw [lexL]
      by_cases e : ix A (i : Int) = ix B (i : Int)
      · rw [if_neg (by rw [e]; simp), if_pos e]
      · rw [if_pos (by rw [bne_iff_ne]; exact e), if_neg e]
    · intro r
      rw [if_neg (by simp; omega)]; rfl
    · rfl
  · rw [if_pos (by rw [bne_iff_ne]; exact h)]
    unfold flds; rw [lexL, if_neg h]
end GoForm


set_option linter.all false
set_option maxRecDepth 100000
open Go Go.Rx

namespace GoForm
theorem pk_eq (a b : PairKey) : (decide (a.BodyA = b.BodyA) && (decide (a.FixtureA = b.FixtureA) && (decide (a.BodyB = b.BodyB) && decide (a.FixtureB = b.FixtureB)))) = decide (a = b) := by
  obtain ⟨a1, a2, a3, a4⟩ := a
  obtain ⟨b1, b2, b3, b4⟩ := b
  rw [Bool.eq_iff_iff]; simp
def pos (K : List PairKey) (k : PairKey) : Int := idx (fun p => decide (k = p)) K 0
def rmAt (K : List PairKey) (k : Nat) : List PairKey := K.take k ++ K.drop (k + 1)
def act : List PairKey → List Event → List PairKey × Int
  | K, [] => (K, 0)
  | K, e :: es =>
    if e.Kind = 1 then (if 0 ≤ pos K e.Key then ([], 7) else act (K ++ [e.Key]) es)
    else if e.Kind = 2 then (if pos K e.Key < 0 then ([], 8) else act (rmAt K (pos K e.Key).toNat) es)
    else act K es
theorem pos_cases (K : List PairKey) (k : PairKey) : pos K k = -1 ∨ ∃ n : Nat, pos K k = (n : Int) ∧ n < K.length := by
  rcases idx_bd (fun p => decide (k = p)) K 0 with h | h
  · exact Or.inl h
  · right
    refine ⟨(pos K k).toNat, ?_, ?_⟩ <;> (unfold pos; omega)
theorem rmAt_len (K : List PairKey) (k : Nat) : (rmAt K k).length ≤ K.length := by
  unfold rmAt; simp; omega
theorem act_len : ∀ (es : List Event) (K : List PairKey), (act K es).1.length ≤ K.length + es.length
  | [], K => by simp [act]
  | e :: es, K => by
    unfold act
    split
    · split
      · simp
      · have := act_len es (K ++ [e.Key]); simp at this ⊢; omega
    · split
      · split
        · simp
        · have := act_len es (rmAt K (pos K e.Key).toNat); have := rmAt_len K (pos K e.Key).toNat; simp; omega
      · have := act_len es K; simp; omega
theorem act_cons (K : List PairKey) (e : Event) (es : List Event) : act K (e :: es) = if e.Kind = 1 then (if 0 ≤ pos K e.Key then ([], 7) else act (K ++ [e.Key]) es)
    else if e.Kind = 2 then (if pos K e.Key < 0 then ([], 8) else act (rmAt K (pos K e.Key).toNat) es)
    else act K es := by rw [act]
theorem act_app : ∀ (xs ys : List Event) (K : List PairKey), act K (xs ++ ys) = if (act K xs).2 ≠ 0 then ([], (act K xs).2) else act (act K xs).1 ys
  | [], ys, K => by simp [act]
  | e :: xs, ys, K => by
    rw [List.cons_append, act_cons, act_cons]
    by_cases h1 : e.Kind = 1
    · simp only [if_pos h1]
      by_cases h2 : 0 ≤ pos K e.Key
      · simp [if_pos h2]
      · simp only [if_neg h2]; exact act_app xs ys _
    · simp only [if_neg h1]
      by_cases h2 : e.Kind = 2
      · simp only [if_pos h2]
        by_cases h3 : pos K e.Key < 0
        · simp [if_pos h3]
        · simp only [if_neg h3]; exact act_app xs ys _
      · simp only [if_neg h2]; exact act_app xs ys _
theorem act_err : ∀ (xs : List Event) (K : List PairKey), (act K xs).2 ≠ 0 → (act K xs).1 = []
  | [], K => by simp [act]
  | e :: xs, K => by
    rw [act_cons]
    by_cases h1 : e.Kind = 1
    · simp only [if_pos h1]
      by_cases h2 : 0 ≤ pos K e.Key
      · simp [if_pos h2]
      · simp only [if_neg h2]; exact act_err xs _
    · simp only [if_neg h1]
      by_cases h2 : e.Kind = 2
      · simp only [if_pos h2]
        by_cases h3 : pos K e.Key < 0
        · simp [if_pos h3]
        · simp only [if_neg h3]; exact act_err xs _
      · simp only [if_neg h2]; exact act_err xs _
theorem Index_eq (K : List PairKey) (v : PairKey) (hl : Sm K) : slices_Index K v = some (pos K v) := by
  unfold slices_Index
  simp only [Let_nr, pk_eq]
  refine LOOP_l0 K (fun t i => some (idx (fun p => decide (v = p)) t i)) _ hl ?_ ?_
  · intro r i t hw hc hm hr
    rw [if_pos (decide_eq_true hc.2), Chk_of hc, hw, hr]
    show _ = some (if decide (v = ix K (i : Int)) = true then (i : Int) else idx _ t (i + 1))
    split <;> rfl
  · intro r
    rw [if_neg (by simp)]; rfl
theorem take_app_len {α : Type} (a b : List α) (n : Nat) (h : n = a.length) : (a ++ b).take n = a := by subst h; simp
theorem Active_eq (K0 : List PairKey) (es : List Event) (hK : K0.length ≤ 1000) (he : es.length ≤ 1000) : event_ActiveContacts K0 es = some (act K0 es) := by
  unfold event_ActiveContacts slices_Clone
  simp only [Let_nr, Join_nr]
  rw [Alike_of (b := Rx.Chk _ (some K0)) (by intro h; subst h; rw [Chk_of (by simp)]), Chk_of (by omega), Bind_snr]
  refine (LOOP_i es (fun i K => K.length ≤ 1000 + i) (fun t i K => some (act K t)) _ K0 (sm_of he (by omega)) (by simpa using hK) ?_ ?_)
  · intro r i t K hP hw hc hm hr
    simp only [Let_nr]
    rw [if_pos (decide_eq_true hc.2), Chk_of hc]
    simp only [hw]
    rw [Index_eq K _ (sm_of (n := 3000) (by omega) (by omega)), Bind_snr]
    generalize ix es (i : Int) = e
    unfold act
    simp only [cond_and]
    by_cases h1 : e.Kind = 1
    · rw [if_pos h1]
      by_cases h2 : 0 ≤ pos K e.Key
      · rw [if_pos h2, if_pos (by simp [h1, h2])]
      · rw [if_neg h2, if_neg (by simp [h2]), if_pos (by simp [h1]), Chk_of (by simp; omega)]
        exact hr _ (by simp; omega)
    · rw [if_neg h1, if_neg (by simp [h1]), if_neg (by simp [h1])]
      by_cases h3 : e.Kind = 2
      · rw [if_pos h3]
        rcases pos_cases K e.Key with h4 | ⟨k, h4, h5⟩
        · rw [h4, if_pos (by simp [h3]), if_pos (by decide)]
        · have n4 : ¬ ((k : Int) < 0) := by omega
          rw [h4, if_neg n4, if_neg (by simp), if_pos (by simp [h3])]
          have hw2 : IntKind.i64.wrap ((k : Int) + 1) = ((k + 1 : Nat) : Int) := by rw [wrap_in _ (by omega) (by omega)]; omega
          rw [hw2, Chk_of (by omega), if_neg (by simp; omega)]
          have e1 : List.take (K.length - (k + 1)) (List.drop (k + 1) K) = K.drop (k + 1) := by
            apply List.take_of_length_le; simp
          have e2 : (K.drop (k + 1)).length = K.length - (k + 1) := by simp
          simp only [Int.toNat_natCast, Option.getD_some, Option.getD_none, Nat.sub_zero, Nat.zero_add, e1, e2]
          rw [Chk_of (by omega), Chk_of (by omega), Chk_of (by omega), Chk_of (by omega), Chk_of (by omega)]
          have e3 : k + (K.length - (k + 1)) = K.length - 1 := by omega
          have l3 : (K.take k ++ K.drop (k + 1)).length = K.length - 1 := by simp; omega
          simp only [e3]
          rw [Chk_of (by simp; omega), take_app_len (K.take k ++ K.drop (k + 1)) _ _ l3.symm, Chk_of (by simp; omega)]
          rw [List.append_assoc, take_app_len (K.take k ++ K.drop (k + 1)) _ _ l3.symm]
          exact hr _ (by show (K.take k ++ K.drop (k + 1)).length ≤ _; omega)
      · rw [if_neg h3, if_neg (by simp [h3]), if_neg (by simp [h3])]
        exact hr _ (by omega)
  · intro r K hP
    rw [if_neg (by simp)]; rfl
theorem downLoop {X : Type} (K : List PairKey) (key : PairKey) (step : (Int × Int → Option X) → Int × Int → Option X)
    (hs : ∀ (r : Int × Int → Option X) (a : Int) (i : Nat), i < K.length → step r (a, (i : Int)) = r (if decide (key = ix K (i : Int)) = true then (i : Int) else a, (i : Int) - 1)) :
    ∀ (j n : Nat), j ≤ K.length → j < n → ∃ r, LOOP step n (idx (fun p => decide (key = p)) (K.drop j) j, (j : Int) - 1) = step r (pos K key, -1)
  | 0, n + 1, _, _ => by rw [LOOP_s]; exact ⟨_, rfl⟩
  | j + 1, n + 1, h1, h2 => by
    rw [LOOP_s, show ((j + 1 : Nat) : Int) - 1 = (j : Int) by omega, hs _ _ j (by omega)]
    obtain ⟨r, hr⟩ := downLoop K key step hs j n (by omega) (by omega)
    refine ⟨r, ?_⟩
    rw [← hr, drop_ix K j (by omega)]
    rfl
theorem downUse {X : Type} (K : List PairKey) (key : PairKey) (R : Option X) (step : (Int × Int → Option X) → Int × Int → Option X) (hl : K.length < 1000000)
    (hs : ∀ (r : Int × Int → Option X) (a : Int) (i : Nat), i < K.length → step r (a, (i : Int)) = r (if decide (key = ix K (i : Int)) = true then (i : Int) else a, (i : Int) - 1))
    (he : ∀ (r : Int × Int → Option X), step r (pos K key, -1) = R) : LOOP step fuel (-1, (K.length : Int) - 1) = R := by
  have hd : (idx (fun p => decide (key = p)) (K.drop K.length) K.length) = -1 := by rw [List.drop_length]; rfl
  obtain ⟨r, hr⟩ := downLoop K key step hs K.length fuel (Nat.le_refl _) (by unfold fuel; omega)
  rw [hd] at hr
  rw [hr, he]
theorem refActive_eq (K0 : List PairKey) (es : List Event) (hK : K0.length ≤ 1000) (he : es.length ≤ 1000) : caromref44_ActiveContacts K0 es = some (act K0 es) := by
  unfold caromref44_ActiveContacts
  simp only [Let_nr, Join_nr, pk_eq]
  rw [Chk_of (by omega)]
  refine (LOOP_i es (fun i K => K.length ≤ 1000 + i) (fun t i K => some (act K t)) _ K0 (sm_of he (by omega)) (by simpa using hK) ?_ ?_)
  · intro r i t K hP hw hc hm hr
    simp only []
    rw [if_pos (decide_eq_true hc.2)]
    simp only [hw]
    generalize hE : ix es (i : Int) = e
    rw [show IntKind.i64.wrap ((K.length : Int) - 1) = (K.length : Int) - 1 from wrap_in _ (by omega) (by omega)]
    refine downUse K e.Key _ _ (by omega) ?_ ?_
    rotate_left
    · intro r'
      simp only []
      rw [if_neg (by simp), Chk_of hc]
      unfold act
      by_cases h1 : e.Kind = 1
      · rw [if_pos h1, if_pos (by rw [h1]; decide)]
        by_cases h2 : 0 ≤ pos K e.Key
        · rw [if_pos h2, if_pos (by simpa using h2)]
        · rw [if_neg h2, if_neg (by simpa using h2), Chk_of hc, Chk_of (by simp; omega), Chk_of hc, if_neg (by rw [h1]; decide)]
          exact hr _ (by simp; omega)
      · rw [if_neg h1, if_neg (by simpa using h1), Chk_of hc]
        by_cases h3 : e.Kind = 2
        · rw [if_pos h3, if_pos (by rw [h3]; decide)]
          rcases pos_cases K e.Key with h4 | ⟨k, h4, h5⟩
          · rw [h4, if_pos (by decide), if_pos (by decide)]
          · have n4 : ¬ ((k : Int) < 0) := by omega
            rw [h4, if_neg n4, if_neg (by simp)]
            have hw2 : IntKind.i64.wrap ((k : Int) + 1) = ((k + 1 : Nat) : Int) := by rw [wrap_in _ (by omega) (by omega)]; omega
            have e1 : List.take (K.length - (k + 1)) (List.drop (k + 1) K) = K.drop (k + 1) := by
              apply List.take_of_length_le; simp
            have e2 : (K.drop (k + 1)).length = K.length - (k + 1) := by simp
            have e3 : (K.take k).length = k := by simp; omega
            simp only [hw2, Int.toNat_natCast, Option.getD_some, Option.getD_none, Nat.sub_zero, Nat.zero_add, e1, e2, List.drop_zero, e3]
            rw [Chk_of (by omega), Chk_of (by omega), Chk_of (by omega), Chk_of (by omega), Chk_of (by omega), Chk_of (by omega)]
            exact hr _ (by have := rmAt_len K k; unfold rmAt at this; omega)
        · rw [if_neg h3, if_neg (by simpa using h3)]
          exact hr _ (by omega)
    · intro r2 a j hj
      have hcj : (0 : Int) ≤ (j : Int) ∧ (j : Int) < (K.length : Int) := by omega
      simp only []
      rw [if_pos (by simp), Chk_of hcj, Chk_of hcj, Chk_of hc, show IntKind.i64.wrap ((j : Int) - 1) = (j : Int) - 1 from wrap_in _ (by omega) (by omega)]
      by_cases h : e.Key = ix K (j : Int)
      · rw [if_pos (by rw [h]; simp), if_pos (by rw [h]; simp)]
      · rw [if_neg (by rw [decide_eq_true_iff]; exact fun q => h q.symm), if_neg (by simpa using h)]
  · intro r K hP
    rw [if_neg (by simp)]; rfl
theorem EqualKeys_self (a : List PairKey) (hl : Sm a) : caromref38_EqualKeys a a = some true := by
  unfold caromref38_EqualKeys
  simp only [Let_nr, pk_eq]
  rw [if_neg (by simp)]
  refine (LOOP_all a (fun _ => true) (some true) (some false) _ hl ?_ ?_).trans ?_
  · intro r i hw hc hm
    rw [if_pos (by simp; omega), Chk_of hc, Chk_of hc, if_neg (by simp), hw]; rfl
  · intro r
    rw [if_neg (by simp)]
  · simp
end GoForm


set_option linter.all false
set_option maxRecDepth 100000
open Go Go.Rx

namespace GoForm
theorem ev_eq (a b : Event) : (decide (a.Kind = b.Kind) && (decide (a.Key.BodyA = b.Key.BodyA) && (decide (a.Key.FixtureA = b.Key.FixtureA) && (decide (a.Key.BodyB = b.Key.BodyB) && decide (a.Key.FixtureB = b.Key.FixtureB))))) = decide (a = b) := by
  rw [pk_eq]
  obtain ⟨k, a⟩ := a
  obtain ⟨k', b⟩ := b
  rw [Bool.eq_iff_iff]; simp
theorem example44 : caromlaw44_example = some true := by
  unfold caromlaw44_example
  rw [Active_eq _ _ (by decide) (by decide)]
  kernel_rfl
theorem EventText_true (e : Event) (s : List UInt8) : caromlaw44_EventText e s = some true := by
  unfold caromlaw44_EventText
  simp only [Let_nr, example44, Bind_snr]
  by_cases h : s.length ≤ 200
  · rw [if_neg (by simp; omega)]
    obtain ⟨r, h1, h2, h3⟩ := Parse_spec s h
    obtain ⟨q, g1, g2, g3⟩ := refParse_spec s h
    have hrq : r = q := by
      rcases h2 with ⟨a, b, c⟩ | a
      · rw [g3 r.1 b c, ← h3 r.1 b c]
      · rcases g2 with ⟨a', b', c'⟩ | a'
        · rw [h3 q.1 b' c', ← g3 q.1 b' c']
        · rw [a, a']
    rw [h1, g1, ← hrq]
    simp only [Bind_snr, Valid_eq, refValid_eq, Format_eq, refFormat_eq, ev_eq]
    simp
  · rw [if_pos (by simp; omega)]
theorem EventRoundTrip_true (e : Event) (s : List UInt8) : caromlaw44_EventRoundTrip e s = some true := by
  unfold caromlaw44_EventRoundTrip
  simp only [Let_nr, example44, Bind_snr]
  by_cases h : s.length ≤ 200
  · rw [if_neg (by simp; omega)]
    obtain ⟨r, h1, h2, h3⟩ := Parse_spec s h
    obtain ⟨q, g1, g2, g3⟩ := Parse_spec (evFmt e) (by have := evFmt_len e; omega)
    simp only [Bind_snr, Valid_eq, Format_eq, ev_eq, g1, h1]
    have hz : ∀ x : Event, (decide (x.Kind = 0) && (decide (x.Key.BodyA = 0) && (decide (x.Key.FixtureA = 0) && (decide (x.Key.BodyB = 0) && decide (x.Key.FixtureB = 0))))) = decide (x = z44) := fun x => ev_eq x z44
    simp only [hz]
    have hn : (#[].toList : List UInt8) = [] := rfl
    have key : (q = (z44, 3) ∧ evFmt e = [] ∧ evValid e = false) ∨ (q = (e, 0) ∧ evValid e = true) := by
      cases hv : evValid e
      · have he : evFmt e = [] := by unfold evFmt; rw [hv]; rfl
        rcases g2 with ⟨_, b, c⟩ | a
        · rw [he] at c; exact absurd c (evFmt_ne b)
        · exact Or.inl ⟨a, he, rfl⟩
      · exact Or.inr ⟨g3 e hv rfl, rfl⟩
    rcases key with ⟨k1, k2, k3⟩ | ⟨k1, k3⟩ <;> rcases h2 with ⟨a, b, c⟩ | a
    · simp [k1, k2, k3, a, b, c, Bind_snr]
    · simp [k1, k2, k3, a, Bind_snr]
    · simp [k1, k3, a, b, c, Bind_snr]
    · simp [k1, k3, a, Bind_snr]
  · rw [if_pos (by simp; omega)]
theorem EventLess_true (a b c : Event) : caromlaw44_EventLess a b c = some true := by
  unfold caromlaw44_EventLess
  simp only [Let_nr, example44, Bind_snr, Less_eq, refLess_eq, ev_eq]
  have h1 := lexL_asymm (flds a) (flds b)
  have h2 := lexL_eq (flds a) (flds b) rfl
  have h3 := lexL_trans (flds a) (flds b) (flds c)
  have h4 : decide (a = b) = decide (flds a = flds b) := by
    rw [Bool.eq_iff_iff, decide_eq_true_iff, decide_eq_true_iff, flds_inj]
  rw [h4, h2]
  cases hA : lexL (flds a) (flds b) <;> cases hB : lexL (flds b) (flds a) <;> cases hC : lexL (flds b) (flds c) <;> cases hD : lexL (flds a) (flds c) <;> simp_all [Bind_snr]
theorem EventActive_true (K : List PairKey) (es : List Event) : caromlaw44_EventActiveContacts K es = some true := by
  unfold caromlaw44_EventActiveContacts
  simp only [Let_nr, example44, Bind_snr, cond_or, cond_and]
  by_cases h : es.length ≤ 40 ∧ K.length ≤ 40
  · rw [if_neg (by simp; omega), Active_eq K es (by omega) (by omega), refActive_eq K es (by omega) (by omega), Bind_snr, Bind_snr, EqualKeys_self _ (sm_of (act_len es K) (by omega)), Bind_snr]
    simp [Bind_snr]
  · rw [if_pos (by simp; omega)]
theorem EventConcat_true (K : List PairKey) (es : List Event) (n : UInt8) : caromlaw44_EventConcatenation K es n = some true := by
  unfold caromlaw44_EventConcatenation
  simp only [Let_nr, example44, Bind_snr, cond_or, cond_and]
  by_cases h : es.length ≤ 40 ∧ K.length ≤ 40
  · rw [if_neg (by simp; omega)]
    have hw : IntKind.i64.wrap ((es.length : Int) + 1) = ((es.length + 1 : Nat) : Int) := by rw [wrap_in _ (by omega) (by omega)]; omega
    rw [hw, tmodN, Chk_of (by omega)]
    have hm : n.toNat % (es.length + 1) < es.length + 1 := Nat.mod_lt _ (by omega)
    generalize n.toNat % (es.length + 1) = m at hm ⊢
    rw [Chk_of ⟨by omega, by omega⟩, Int.toNat_natCast, Active_eq K _ (by omega) (by simp; omega), Active_eq K es (by omega) (by omega), Bind_snr, Bind_snr]
    have ha := act_app (es.take m) (es.drop m) K
    rw [List.take_append_drop] at ha
    by_cases hz : (act K (es.take m)).2 = 0
    · rw [if_neg (by rw [hz]; decide), Chk_of ⟨by omega, by omega⟩]
      have hl := act_len (es.take m) K
      have hl2 : (es.take m).length ≤ 40 := by simp; omega
      rw [Active_eq _ _ (by omega) (by simp; omega), Bind_snr, ha, if_neg (by rw [hz]; simp)]
      rw [EqualKeys_self _ (sm_of (act_len _ _) (by simp; omega)), Bind_snr]
      simp [Bind_snr]
    · rw [if_pos (by rw [bne_iff_ne]; exact hz), ha, if_pos hz]
      simp [Bind_snr]
  · rw [if_pos (by simp; omega)]
end GoForm


open Go

namespace GoForm
theorem caromlaw44_EventRoundTrip_true (a0 : Event) (a1 : List UInt8) {P Q : Prop} (_ : P) (_ : Q) : caromlaw44_EventRoundTrip a0 a1 = some true := EventRoundTrip_true a0 a1
theorem caromlaw44_EventText_true (a0 : Event) (a1 : List UInt8) {P Q : Prop} (_ : P) (_ : Q) : caromlaw44_EventText a0 a1 = some true := EventText_true a0 a1
theorem caromlaw44_EventLess_true (a0 a1 a2 : Event) {P Q R : Prop} (_ : P) (_ : Q) (_ : R) : caromlaw44_EventLess a0 a1 a2 = some true := EventLess_true a0 a1 a2
theorem caromlaw44_EventActiveContacts_true (a0 : List PairKey) (a1 : List Event) {P Q : Prop} (_ : P) (_ : Q) : caromlaw44_EventActiveContacts a0 a1 = some true := EventActive_true a0 a1
theorem caromlaw44_EventConcatenation_true (a0 : List PairKey) (a1 : List Event) (a2 : UInt8) {P Q R : Prop} (_ : P) (_ : Q) (_ : R) : caromlaw44_EventConcatenation a0 a1 a2 = some true := EventConcat_true a0 a1 a2
end GoForm

