/- The plain law of the numbers and vectors: the reference computes the same. No conditions. -/
import Derived.Test.YtblkmlpjhpgkjaaGreatF23XA1
set_option linter.all false
open Go Go.Cx
namespace GoForm
theorem ref01_Saturate_eq (x : Int) : ref01_Saturate x = sat x := by
  unfold ref01_Saturate sat
  simp only [decide_eq_true_eq]
  split
  · omega
  · split <;> omega
theorem ref01_Sub_eq (a b : Int) : ref01_Sub a b = subS a b := by
  unfold ref01_Sub; simp only [Let_eq, ref01_Saturate_eq]
  have := sat_bd a; have := sat_bd b
  rw [w64_of _ (by omega)]; rfl
theorem ref01_Add_eq (a b : Int) : ref01_Add a b = addS a b := by
  unfold ref01_Add; simp only [Let_eq, ref01_Saturate_eq]
  have := sat_bd a; have := sat_bd b
  rw [w64_of _ (by omega)]; rfl
theorem ref01_RoundDiv_eq (n d : Int) : ref01_RoundDiv n d = some (rdv n d) := by
  unfold ref01_RoundDiv ref01_outOfRange
  simp only [Let_eq, cond_or, Bool.or_eq_true, decide_eq_true_eq]
  by_cases h : (d < 1 ∨ 4611686018427387904 < d ∨ d < -4611686018427387904) ∨ 4611686018427387904 < n ∨ n < -4611686018427387904
  · unfold rdv; rw [if_pos h, if_pos (by omega)]
  rw [if_neg h]
  have core : ∀ m : Int, 0 ≤ m → m ≤ 4611686018427387904 → ref01_RoundDiv_j2 n d m = ref01_RoundDiv_j1 n (rdv m d) := by
    intro m h0 h1
    unfold ref01_RoundDiv_j2 rdv
    simp only [Let_eq, decide_eq_true_eq]
    obtain ⟨t1, t2, t3, t4, t5⟩ := tdm m d (by omega)
    have t4 := t4 h0
    have hm : ¬ (d < 1 ∨ 4611686018427387904 < d ∨ m < -4611686018427387904 ∨ 4611686018427387904 < m) := by omega
    rw [if_neg hm]
    rw [Chk_of (by omega)]
    generalize Int.tdiv m d = q at *
    generalize Int.tmod m d = r at *
    have hq : d * q = m - r := by omega
    rw [w64_of q (by omega), Int.mul_comm q d, hq, w64_of (m - r) (by omega), w64_of (m - (m - r)) (by omega)]
    have e : m - (m - r) = r := by omega
    rw [e, w64_of (d - r) (by omega), w64_of (q + 1) (by omega)]
    by_cases c : d - r ≤ r
    · rw [if_pos c, if_pos c]
    · rw [if_neg c, if_neg c]
      have c2 : ¬ (d + r ≤ -r) := by omega
      rw [if_neg c2]
  by_cases hn : n < 0
  · rw [if_pos hn, w64_of _ (by omega), core _ (by omega) (by omega)]
    unfold ref01_RoundDiv_j1
    simp only [Let_eq, decide_eq_true_eq]
    have e : 0 - n = -n := by omega
    have b := rdv_le (n := -n) (d := d) (by omega)
    rw [rdv_neg] at b
    rw [if_pos hn, e, rdv_neg, w64_of _ (by omega)]
    congr 1; omega
  · rw [if_neg hn, core _ (by omega) (by omega)]
    unfold ref01_RoundDiv_j1
    rw [if_neg (by simpa using hn)]
theorem ref01_Mul_eq (a b : Int) : ref01_Mul a b = some (mulS a b) := by
  unfold ref01_Mul; simp only [Let_eq, ref01_Saturate_eq]
  have := sat_mul a b
  rw [w64_of _ (by omega), ref01_RoundDiv_eq]; simp only [Bind_some, ref01_Saturate_eq]; rfl
theorem bit_half (k : Nat) (hk : (2 : Int) ^ k ≤ 4294967296) : w64 (Int.tdiv (2 ^ k) 2) = bitAt k := by
  cases k with
  | zero => rfl
  | succ k =>
    have hp : (0 : Int) < 2 ^ k := Int.pow_pos (by omega)
    rw [Int.pow_succ] at hk ⊢
    rw [Int.mul_tdiv_cancel _ (by decide), w64_of _ (by omega)]; rfl
theorem le_div (x n : Int) (hx : 0 < x) (hn : 0 ≤ n) : x ≤ Int.tdiv n x ↔ x * x ≤ n := by
  rw [Int.tdiv_eq_ediv_of_nonneg hn]
  exact Int.le_ediv_iff_mul_le hx
theorem ref_isq_l2 (n : Int) (hn : 0 ≤ n ∧ n ≤ 4611686018427387904) (kj : Int → Option Int) : ∀ (k m : Nat) (v : Int), k < m → 0 ≤ v → v + 2 ^ k ≤ 4294967296 →
    ref01_Isqrt_l2 n kj m v (bitAt k) = kj (isqL n k v)
  | k, 0, v, h, _, _ => by omega
  | 0, m + 1, v, h, h0, h1 => by
    unfold ref01_Isqrt_l2
    rw [if_neg (by simp [bitAt])]; rfl
  | k + 1, m + 1, v, h, h0, h1 => by
    have hp : (0 : Int) < 2 ^ k := Int.pow_pos (by omega)
    rw [Int.pow_succ] at h1
    unfold ref01_Isqrt_l2
    rw [show bitAt (k + 1) = 2 ^ k from rfl, if_pos (decide_eq_true hp), w64_of (v + 2 ^ k) (by omega), Chk_of (by omega)]
    have hq : 0 ≤ Int.tdiv n (v + 2 ^ k) ∧ Int.tdiv n (v + 2 ^ k) ≤ n := by
      have := (tdm n (v + 2 ^ k) (by omega)).2.2.2.1 hn.1
      omega
    simp only [Let_eq, decide_eq_true_eq]
    rw [w64_of _ (by omega)]
    unfold isqL ref01_Isqrt_j1
    simp only [Let_eq]
    rw [bit_half k (by omega)]
    by_cases c : (v + 2 ^ k) * (v + 2 ^ k) ≤ n
    · rw [if_pos c, if_pos ((le_div _ _ (by omega) hn.1).2 c)]
      exact ref_isq_l2 n hn kj k m (v + 2 ^ k) (by omega) (by omega) (by omega)
    · rw [if_neg c, if_neg (fun h => c ((le_div _ _ (by omega) hn.1).1 h))]
      exact ref_isq_l2 n hn kj k m v (by omega) h0 (by omega)
theorem ref01_Isqrt_eq (n : Int) : ref01_Isqrt n = some (isq n) := by
  unfold ref01_Isqrt isq ref01_outOfRange
  simp only [Let_eq, cond_or, Bool.or_eq_true, decide_eq_true_eq]
  by_cases h : n < 0 ∨ 4611686018427387904 < n
  · rw [if_pos h, if_pos (by omega)]
  · rw [if_neg h, if_neg (by omega)]
    exact ref_isq_l2 n (by omega) ref01_Isqrt_j3 32 fuel 0 (fuel_lt _ (by decide)) (by omega) (by decide)
theorem ref03_Sub_eq (a b : Vec) : ref03_Sub a b = subV a b := by unfold ref03_Sub; simp only [Let_eq, ref01_Sub_eq]; rfl
theorem ref03_Add_eq (a b : Vec) : ref03_Add a b = addV a b := by unfold ref03_Add; simp only [Let_eq, ref01_Add_eq]; rfl
theorem ref03_Saturated_eq (a : Vec) : ref03_Saturated a = satV a := by unfold ref03_Saturated; simp only [Let_eq, ref01_Saturate_eq]; rfl
theorem ref01_Lerp_eq (a b t : Int) : ref01_Lerp a b t = some (lerpS a b t) := by unfold ref01_Lerp; simp only [ref01_Mul_eq, ref01_Sub_eq, ref01_Add_eq, Bind_some, Let_eq]; rfl
theorem ref03_Lerp_eq (a b : Vec) (t : Int) : ref03_Lerp a b t = some (lerpV a b t) := by unfold ref03_Lerp; simp only [ref01_Lerp_eq, Bind_some, Let_eq]; rfl
theorem ref03_Cross_eq (a b : Vec) : ref03_Cross a b = some (crossV a b) := by
  unfold ref03_Cross; simp only [ref03_Saturated_eq, Let_eq, satV]
  have h1 := sat_mul a.X b.Y; have h2 := sat_mul a.Y b.X
  rw [w64_of (sat a.X * sat b.Y) (by omega), w64_of (sat a.Y * sat b.X) (by omega), w64_of _ (by omega), ref01_RoundDiv_eq]; simp only [Bind_some, ref01_Saturate_eq]; rfl
theorem ref03_Dot_eq (a b : Vec) : ref03_Dot a b = some (dotV a b) := by
  unfold ref03_Dot; simp only [ref03_Saturated_eq, Let_eq, satV]
  have h1 := sat_mul a.X b.X; have h2 := sat_mul a.Y b.Y
  rw [w64_of (sat a.X * sat b.X) (by omega), w64_of (sat a.Y * sat b.Y) (by omega), w64_of _ (by omega), ref01_RoundDiv_eq]; simp only [Bind_some, ref01_Saturate_eq]; rfl
theorem ref03_Orientation_eq (a b c : Vec) : ref03_Orientation a b c = oriV a b c := by
  unfold ref03_Orientation; simp only [ref03_Saturated_eq, Let_eq, satV, decide_eq_true_eq]
  have h1 := diff_mul b.X a.X c.Y a.Y; have h2 := diff_mul b.Y a.Y c.X a.X
  have k1 := sat_bd a.X; have k2 := sat_bd a.Y; have k3 := sat_bd b.X; have k4 := sat_bd b.Y; have k5 := sat_bd c.X; have k6 := sat_bd c.Y
  rw [w64_of (sat b.X - sat a.X) (by omega), w64_of (sat c.Y - sat a.Y) (by omega), w64_of (sat b.Y - sat a.Y) (by omega), w64_of (sat c.X - sat a.X) (by omega), w64_of ((sat b.X - sat a.X) * (sat c.Y - sat a.Y)) (by omega), w64_of ((sat b.Y - sat a.Y) * (sat c.X - sat a.X)) (by omega), w64_of _ (by omega)]
  unfold oriV
  split
  · omega
  · split <;> omega
theorem ref03_Length_eq (v : Vec) : ref03_Length v = some (lenV v) := by
  unfold ref03_Length; simp only [ref03_Saturated_eq, Let_eq, satV]
  have h1 := sat_mul v.X v.X; have h2 := sat_mul v.Y v.Y
  rw [w64_of (sat v.X * sat v.X) (by omega), w64_of (sat v.Y * sat v.Y) (by omega), w64_of _ (by omega), ref01_Isqrt_eq]
  rfl
end GoForm
