/-
  Plain laws of numbers and fields as text. No conditions.
-/
import Derived.Test.YtelkhkmeoahhlaaGreatDoorF52D
import Derived.Test.YtelkhkmeoahhlaaGreatDoorRzQ
import Derived.Lib.DecodeN
set_option linter.all false
set_option maxRecDepth 100000
open Go Go.Rx
namespace GoForm
/-- The decimal digits of m. -/
def digs (m : Nat) : List UInt8 := if h : m < 10 then [UInt8.ofNat (48 + m)] else digs (m / 10) ++ [UInt8.ofNat (48 + m % 10)]
termination_by m
decreasing_by omega
theorem digs_lt {m : Nat} (h : m < 10) : digs m = [UInt8.ofNat (48 + m)] := by rw [digs, dif_pos h]
theorem digs_ge {m : Nat} (h : ¬ m < 10) : digs m = digs (m / 10) ++ [UInt8.ofNat (48 + m % 10)] := by rw [digs, dif_neg h]
theorem digs_pos (m : Nat) : 1 ≤ (digs m).length := by
  by_cases h : m < 10
  · rw [digs_lt h]; exact Nat.le_refl _
  · rw [digs_ge h, List.length_append]; simp
theorem digs_len : ∀ (k m : Nat), m < 10 ^ (k + 1) → (digs m).length ≤ k + 1
  | 0, m, h => by rw [digs_lt (by simpa using h)]; exact Nat.le_refl _
  | k + 1, m, h => by
    by_cases h10 : m < 10
    · rw [digs_lt h10]; simp
    · rw [digs_ge h10, List.length_append]
      have := digs_len k (m / 10) (by rw [Nat.pow_succ] at h; omega)
      simp; omega
/-- The decimal form of an integer. -/
def fmtInt (n : Int) : List UInt8 := if n < 0 then 45 :: digs n.natAbs else digs n.natAbs
theorem drop_set_at {α : Type} (l : List α) (i : Nat) (x : α) (h : i < l.length) : (l.set i x).drop i = x :: l.drop (i + 1) := by
  rw [List.drop_eq_getElem_cons (by simpa using h), List.getElem_set_self]
  congr 1
  apply List.ext_getElem?
  intro j
  rw [List.getElem?_drop, List.getElem?_drop, List.getElem?_set_ne (by omega)]
theorem toByte_dig (m : Nat) (h : m < 10) : toByte (IntKind.u64.wrap (48 + (m : Int))) = UInt8.ofNat (48 + m) := by
  rw [u64_eq]
  unfold toByte
  congr 1
  omega
theorem fmtLoop (K : Nat → List UInt8 → Option (List UInt8)) (step : (Int × Int × List UInt8 → Option (List UInt8)) → Int × Int × List UInt8 → Option (List UInt8))
    (hs : ∀ (r : Int × Int × List UInt8 → Option (List UInt8)) (m at_ : Nat) (buf : List UInt8), m < 18446744073709551616 → 1 ≤ at_ → at_ ≤ 20 → buf.length = 20 →
      step r ((m : Int), (at_ : Int), buf) = if m / 10 = 0 then K (at_ - 1) (buf.set (at_ - 1) (UInt8.ofNat (48 + m % 10))) else r (((m / 10 : Nat) : Int), ((at_ - 1 : Nat) : Int), buf.set (at_ - 1) (UInt8.ofNat (48 + m % 10)))) :
    ∀ (n m at_ : Nat) (buf : List UInt8), (digs m).length ≤ n → m < 18446744073709551616 → (digs m).length ≤ at_ → at_ ≤ 20 → buf.length = 20 →
      ∃ buf', buf'.length = 20 ∧ buf'.drop (at_ - (digs m).length) = digs m ++ buf.drop at_ ∧ LOOP step n ((m : Int), (at_ : Int), buf) = K (at_ - (digs m).length) buf'
  | 0, m, at_, buf, h, _, _, _, _ => by have := digs_pos m; omega
  | n + 1, m, at_, buf, h, hm, ha, ha2, hb => by
    rw [LOOP_s, hs _ m at_ buf hm (by have := digs_pos m; omega) ha2 hb]
    by_cases h10 : m < 10
    · rw [if_pos (by omega), digs_lt h10]
      refine ⟨_, by rw [List.length_set]; exact hb, ?_, rfl⟩
      rw [show m % 10 = m by omega]
      simp only [List.length_cons, List.length_nil, Nat.zero_add]
      rw [drop_set_at _ _ _ (by have := digs_pos m; omega)]
      have := digs_pos m
      rw [show at_ - 1 + 1 = at_ by omega]; rfl
    · rw [if_neg (by omega)]
      have hl : (digs m).length = (digs (m / 10)).length + 1 := by rw [digs_ge h10, List.length_append]; rfl
      have hp := digs_pos (m / 10)
      obtain ⟨buf', h1, h2, h3⟩ := fmtLoop K step hs n (m / 10) (at_ - 1) (buf.set (at_ - 1) (UInt8.ofNat (48 + m % 10))) (by omega) (by omega) (by omega) (by omega) (by rw [List.length_set]; exact hb)
      refine ⟨buf', h1, ?_, ?_⟩
      · rw [hl, show at_ - ((digs (m / 10)).length + 1) = at_ - 1 - (digs (m / 10)).length by omega, h2, drop_set_at _ _ _ (by omega), digs_ge h10, show at_ - 1 + 1 = at_ by omega]
        simp
      · rw [h3, hl]; congr 1; omega
theorem tmodN (m k : Nat) : Int.tmod (m : Int) (k : Int) = ((m % k : Nat) : Int) := by
  rw [Int.tmod_eq_emod_of_nonneg (by omega)]; simp
theorem tdivN (m k : Nat) : Int.tdiv (m : Int) (k : Int) = ((m / k : Nat) : Int) := by
  rw [Int.tdiv_eq_ediv_of_nonneg (by omega)]; simp
def fK (n : Int) (a : Nat) (b : List UInt8) : Option (List UInt8) := if n < 0 then (if 1 ≤ a then some (((b.set (a - 1) 45).drop (a - 1)).take (20 - (a - 1))) else none) else some ((b.drop a).take (20 - a))
theorem FormatInt_eq (n : Int) (h1 : IntKind.i64.min ≤ n) (h2 : n ≤ IntKind.i64.max) : format_FormatInt n = some (fmtInt n) := by
  rw [i64_min] at h1
  rw [i64_max] at h2
  unfold format_FormatInt
  simp only [Let_nr, Join_nr]
  have key : (if n < 0 then IntKind.u64.wrap (0 - IntKind.u64.wrap n) else IntKind.u64.wrap n) = (n.natAbs : Int) := by
    rw [u64_eq, u64_eq]
    split <;> omega
  have fin : ∀ (step : (Int × Int × List UInt8 → Option (List UInt8)) → Int × Int × List UInt8 → Option (List UInt8)) (buf : List UInt8), buf.length = 20 →
      (∀ (r : Int × Int × List UInt8 → Option (List UInt8)) (m at_ : Nat) (buf : List UInt8), m < 18446744073709551616 → 1 ≤ at_ → at_ ≤ 20 → buf.length = 20 →
      step r ((m : Int), (at_ : Int), buf) = if m / 10 = 0 then fK n (at_ - 1) (buf.set (at_ - 1) (UInt8.ofNat (48 + m % 10))) else r (((m / 10 : Nat) : Int), ((at_ - 1 : Nat) : Int), buf.set (at_ - 1) (UInt8.ofNat (48 + m % 10)))) →
      LOOP step fuel ((n.natAbs : Int), (20 : Int), buf) = some (fmtInt n) := by
    intro step buf hb hs
    have hl := digs_len 18 n.natAbs (by omega)
    obtain ⟨buf', g1, g2, g3⟩ := fmtLoop (fK n) step hs fuel n.natAbs 20 buf (by have : fuel = 2 ^ 70 := rfl; omega) (by omega) (by omega) (Nat.le_refl _) hb
    refine g3.trans ?_
    have hd : buf.drop 20 = [] := List.drop_of_length_le (by omega)
    rw [hd, List.append_nil] at g2
    have hp := digs_pos n.natAbs
    unfold fK fmtInt
    split
    · rw [if_pos (by omega), drop_set_at _ _ _ (by omega), show 20 - (digs n.natAbs).length - 1 + 1 = 20 - (digs n.natAbs).length by omega, g2]
      rw [List.take_of_length_le (by simp; omega)]
    · rw [g2, List.take_of_length_le (by omega)]
  by_cases hn : n < 0
  · rw [if_pos hn] at key
    simp only [hn, decide_true, if_true, key]
    refine fin _ _ rfl ?_
    intro r m at_ buf hm ha ha2 hb
    have e1 : IntKind.i64.wrap ((at_ : Int) - 1) = ((at_ - 1 : Nat) : Int) := by rw [wrap_in _ (by omega) (by omega)]; omega
    have e2 : Int.tmod (m : Int) 10 = ((m % 10 : Nat) : Int) := tmodN m 10
    have e3 : IntKind.u64.wrap (Int.tdiv (m : Int) 10) = ((m / 10 : Nat) : Int) := by rw [show Int.tdiv (m : Int) 10 = ((m / 10 : Nat) : Int) from tdivN m 10, u64_eq]; omega
    simp only [e1, e2, e3, toByte_dig (m % 10) (by omega), Int.toNat_natCast]
    rw [Chk_of (by omega), Chk_of (by rw [hb]; omega)]
    by_cases h0 : m / 10 = 0
    · rw [if_pos h0, if_pos (by rw [h0]; rfl)]
      unfold fK
      rw [if_pos hn]
      have e4 : IntKind.i64.wrap (((at_ - 1 : Nat) : Int) - 1) = (at_ : Int) - 2 := by rw [wrap_in _ (by omega) (by omega)]; omega
      rw [e4]
      by_cases h1 : 1 ≤ at_ - 1
      · rw [if_pos h1, Chk_of (by omega), Chk_of (by rw [List.length_set, hb]; omega)]
        have e5 : ((at_ : Int) - 2).toNat = at_ - 1 - 1 := by omega
        simp only [e5, Option.getD_some, Option.getD_none]
        rw [Chk_of ⟨by omega, by omega, by omega, Nat.le_refl _, by rw [List.length_set, List.length_set, hb]; exact Nat.le_refl _⟩, Chk_of (by rw [List.length_set, List.length_set, hb]; omega)]
        rfl
      · rw [if_neg h1]
        unfold Chk
        rw [if_neg (by omega)]
    · rw [if_neg h0, if_neg (by rw [beq_iff_eq]; omega)]
  · rw [if_neg hn] at key
    simp only [hn, decide_false, ff, if_false, key]
    refine fin _ _ rfl ?_
    intro r m at_ buf hm ha ha2 hb
    have e1 : IntKind.i64.wrap ((at_ : Int) - 1) = ((at_ - 1 : Nat) : Int) := by rw [wrap_in _ (by omega) (by omega)]; omega
    have e2 : Int.tmod (m : Int) 10 = ((m % 10 : Nat) : Int) := tmodN m 10
    have e3 : IntKind.u64.wrap (Int.tdiv (m : Int) 10) = ((m / 10 : Nat) : Int) := by rw [show Int.tdiv (m : Int) 10 = ((m / 10 : Nat) : Int) from tdivN m 10, u64_eq]; omega
    simp only [e1, e2, e3, toByte_dig (m % 10) (by omega), Int.toNat_natCast]
    rw [Chk_of (by omega), Chk_of (by rw [hb]; omega)]
    by_cases h0 : m / 10 = 0
    · rw [if_pos h0, if_pos (by rw [h0]; rfl)]
      unfold fK
      rw [if_neg hn]
      simp only [Option.getD_some, Option.getD_none]
      rw [Chk_of ⟨by omega, by omega, by omega, Nat.le_refl _, by rw [List.length_set, hb]; exact Nat.le_refl _⟩, Chk_of (by rw [List.length_set, hb]; omega)]
    · rw [if_neg h0, if_neg (by rw [beq_iff_eq]; omega)]

theorem fmtInt_len (n : Int) (h1 : IntKind.i64.min ≤ n) (h2 : n ≤ IntKind.i64.max) : (fmtInt n).length ≤ 20 ∧ 1 ≤ (fmtInt n).length := by
  have hl := digs_len 18 n.natAbs (by rw [i64_min] at h1; rw [i64_max] at h2; omega)
  have hp := digs_pos n.natAbs
  unfold fmtInt
  split
  · rw [List.length_cons]; omega
  · omega
/-- A digit. -/
def isD (c : UInt8) : Bool := decide (48 ≤ c.toNat) && decide (c.toNat ≤ 57)
theorem isD_iff {c : UInt8} : isD c = true ↔ 48 ≤ c.toNat ∧ c.toNat ≤ 57 := by unfold isD; simp
/-- The number that digits tell. -/
def dv (l : List UInt8) : Nat := l.foldl (fun n c => 10 * n + (c.toNat - 48)) 0
theorem dv_snoc (l : List UInt8) (c : UInt8) : dv (l ++ [c]) = 10 * dv l + (c.toNat - 48) := by unfold dv; rw [List.foldl_append]; rfl
def LIM : Nat := 4611686018427387905
def dec (neg : Bool) (n : Nat) : format_decimal := ⟨neg, (min n LIM : Nat), (n % 65536 : Nat)⟩
def isNeg : List UInt8 → Bool
  | [] => false
  | x :: _ => x == 45
def body : List UInt8 → List UInt8
  | [] => []
  | x :: l => if x = 45 then l else x :: l
/-- The canonical decimal form of an integer. -/
def isInt (s : List UInt8) : Bool := match body s with
  | [] => false
  | x :: l => (x :: l).all isD && (decide (x ≠ 48) || decide (s = [48]))
def sgn (s : List UInt8) (n : Nat) : Int := if isNeg s = true then -(n : Int) else (n : Int)
/-- What ParseInt answers. -/
def pInt (s : List UInt8) : Int × Int := if isInt s = true then (if dv (body s) ≤ 4611686018427387904 then (sgn s (dv (body s)), 0) else (0, 6)) else (0, 3)
theorem w1 (i : Nat) (h : i < 2 ^ 62) : IntKind.i64.wrap ((i : Int) + 1) = ((i + 1 : Nat) : Int) := by rw [w64_s i h]; omega
/-- The pieces of a text between the bytes c. -/
def spl (c : UInt8) : List UInt8 → List (List UInt8)
  | [] => [[]]
  | x :: l => if x = c then [] :: spl c l else match spl c l with
    | [] => [[x]]
    | p :: ps => (x :: p) :: ps
theorem spl_cons (c x : UInt8) (l : List UInt8) : spl c (x :: l) = if x = c then [] :: spl c l else match spl c l with
    | [] => [[x]]
    | p :: ps => (x :: p) :: ps := by rw [spl]
theorem spl_self (c : UInt8) : ∀ p : List UInt8, c ∉ p → spl c p = [p]
  | [], _ => rfl
  | x :: l, h => by
    rw [List.mem_cons, not_or] at h
    rw [spl_cons, if_neg (fun q => h.1 q.symm), spl_self c l h.2]
theorem spl_app (c : UInt8) (t : List UInt8) : ∀ p : List UInt8, c ∉ p → spl c (p ++ c :: t) = p :: spl c t
  | [], _ => by rw [List.nil_append, spl_cons, if_pos rfl]
  | x :: l, h => by
    rw [List.mem_cons, not_or] at h
    rw [List.cons_append, spl_cons, if_neg (fun q => h.1 q.symm), spl_app c t l h.2]
/-- The pieces from start on; behind the end: none. -/
def rest (c : UInt8) (l : List UInt8) (a : Nat) : List (List UInt8) := if a ≤ l.length then spl c (l.drop a) else []
theorem JoinFields_eq (l : List (List UInt8)) (h1 : l.length ≤ 1000000) (h2 : (Lib.join l [32]).length ≤ 140737488355328) : format_JoinFields l = some (Lib.join l [32]) := by
  unfold format_JoinFields strings_Join joinS
  rw [Chk_of ⟨h2, by omega⟩, Bind_snr]
theorem joinTail_cons (x : List UInt8) (r : List (List UInt8)) : Lib.joinTail [32] (x :: r) = 32 :: x ++ Lib.joinTail [32] r := by
  unfold Lib.joinTail
  simp
def flat (c : UInt8) (L : List (List UInt8)) : List UInt8 := L.flatMap fun p => p ++ [c]
theorem flat_cons (c : UInt8) (p : List UInt8) (L : List (List UInt8)) : flat c (p :: L) = p ++ c :: flat c L := by unfold flat; simp
theorem toNat_dig (k : Nat) (h : k < 10) : (UInt8.ofNat (48 + k)).toNat = 48 + k := by
  rw [UInt8.toNat_ofNat']; omega
theorem digs_facts : ∀ (k m : Nat), m ≤ k → (digs m).all isD = true ∧ dv (digs m) = m ∧ ∃ x l, digs m = x :: l ∧ (x = 48 → m = 0)
  | k, m, hk => by
    by_cases h : m < 10
    · rw [digs_lt h]
      refine ⟨?_, ?_, _, _, rfl, ?_⟩
      · simp only [List.all_cons, List.all_nil, Bool.and_true]
        rw [isD_iff, toNat_dig m h]; omega
      · show 10 * 0 + ((UInt8.ofNat (48 + m)).toNat - 48) = m
        rw [toNat_dig m h]; omega
      · intro q
        have := congrArg UInt8.toNat q
        rw [toNat_dig m h] at this
        change 48 + m = 48 at this
        omega
    · obtain ⟨g1, g2, x, l, g3, g4⟩ := digs_facts (k - 1) (m / 10) (by omega)
      rw [digs_ge h]
      refine ⟨?_, ?_, x, l ++ [UInt8.ofNat (48 + m % 10)], by rw [g3]; rfl, ?_⟩
      · rw [List.all_append, g1, Bool.true_and]
        simp only [List.all_cons, List.all_nil, Bool.and_true]
        rw [isD_iff, toNat_dig _ (by omega)]; omega
      · rw [dv_snoc, g2, toNat_dig _ (by omega)]; omega
      · intro q
        have := g4 q
        omega
termination_by k => k
decreasing_by omega
theorem body_fmt (n : Int) : body (fmtInt n) = digs n.natAbs ∧ isNeg (fmtInt n) = decide (n < 0) ∧ isInt (fmtInt n) = true := by
  obtain ⟨g1, g2, x, l, g3, g4⟩ := digs_facts n.natAbs n.natAbs (Nat.le_refl _)
  have hx45 : x ≠ 45 := by
    rintro rfl
    rw [g3] at g1
    simp only [List.all_cons, Bool.and_eq_true] at g1
    exact absurd g1.1 (by decide)
  have hd : (x :: l).all isD = true := by rw [← g3]; exact g1
  unfold fmtInt
  by_cases hn : n < 0
  · rw [if_pos hn, decide_eq_true hn]
    have hb : body (45 :: digs n.natAbs) = digs n.natAbs := rfl
    refine ⟨hb, rfl, ?_⟩
    unfold isInt
    rw [hb, g3]
    simp only
    rw [hd, Bool.true_and, decide_eq_true (by intro q; have := g4 q; omega), Bool.true_or]
  · rw [if_neg hn, decide_eq_false hn, g3]
    have hb : body (x :: l) = x :: l := if_neg hx45
    refine ⟨hb, by show (x == 45) = false; simpa using hx45, ?_⟩
    unfold isInt
    rw [hb]
    simp only
    rw [hd, Bool.true_and]
    by_cases h0 : n.natAbs = 0
    · have : (x :: l) = [48] := by rw [← g3, h0, digs_lt (by omega)]; rfl
      rw [decide_eq_true this, Bool.or_true]
    · rw [decide_eq_true (by intro q; exact h0 (g4 q)), Bool.true_or]
theorem sgn_fmt (n : Int) : sgn (fmtInt n) n.natAbs = n := by
  unfold sgn
  rw [(body_fmt n).2.1]
  by_cases h : n < 0
  · rw [decide_eq_true h, if_pos rfl]; omega
  · rw [decide_eq_false h, if_neg (by decide)]; omega
theorem spl_join : ∀ (r : List (List UInt8)) (x : List UInt8), (∀ p ∈ x :: r, (32 : UInt8) ∉ p) → spl 32 (x ++ Lib.joinTail [32] r) = x :: r
  | [], x, h => by
    have : Lib.joinTail [32] [] = [] := rfl
    rw [this, List.append_nil, spl_self 32 x (h x (by simp))]
  | y :: r, x, h => by
    rw [joinTail_cons, List.cons_append, spl_app 32 _ x (h x (by simp)), spl_join r y fun p hp => h p (List.mem_cons_of_mem _ hp)]
end GoForm
