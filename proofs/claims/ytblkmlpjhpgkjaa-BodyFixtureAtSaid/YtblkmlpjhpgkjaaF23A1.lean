/- The plain law of the numbers and vectors: what fixed, vec2 compute. No conditions. -/
import Derived.Test.YtblkmlpjhpgkjaaCxP
import Derived.Test.YtblkmlpjhpgkjaaF23
set_option linter.all false
open Go Go.Cx
namespace GoForm

theorem mul_bd {x y : Int} (M N : Int) (hx : -M ≤ x ∧ x ≤ M) (hy : -N ≤ y ∧ y ≤ N) : -(M * N) ≤ x * y ∧ x * y ≤ M * N := by
  have h1 : x.natAbs ≤ M.natAbs := by omega
  have h2 : y.natAbs ≤ N.natAbs := by omega
  have h3 := Nat.mul_le_mul h1 h2
  rw [← Int.natAbs_mul, ← Int.natAbs_mul] at h3
  have h4 : 0 ≤ M * N := Int.mul_nonneg (by omega) (by omega)
  omega

def sat (x : Int) : Int := min (max x (-536870911)) 536870911
theorem sat_bd (x : Int) : -536870911 ≤ sat x ∧ sat x ≤ 536870911 := by unfold sat; omega
theorem sat_id {x : Int} (h : -536870911 ≤ x ∧ x ≤ 536870911) : sat x = x := by unfold sat; omega
theorem satsat (x : Int) : sat (sat x) = sat x := sat_id (sat_bd x)
theorem sat_mul (a b : Int) : -288230375077969921 ≤ sat a * sat b ∧ sat a * sat b ≤ 288230375077969921 := by
  have := mul_bd 536870911 536870911 (sat_bd a) (sat_bd b)
  omega
def addS (a b : Int) : Int := sat (sat a + sat b)
def subS (a b : Int) : Int := sat (sat a - sat b)
def rdv (n d : Int) : Int :=
  if d < 1 ∨ 4611686018427387904 < d ∨ n < -4611686018427387904 ∨ 4611686018427387904 < n then 0 else
  if d - Int.tmod n d ≤ Int.tmod n d then Int.tdiv n d + 1 else if d + Int.tmod n d ≤ - Int.tmod n d then Int.tdiv n d - 1 else Int.tdiv n d
theorem tdm (n d : Int) (hd : 0 < d) : d * Int.tdiv n d + Int.tmod n d = n ∧ -d < Int.tmod n d ∧ Int.tmod n d < d ∧ (0 ≤ n → 0 ≤ Int.tmod n d ∧ 0 ≤ Int.tdiv n d ∧ Int.tdiv n d ≤ n) ∧ (n ≤ 0 → Int.tmod n d ≤ 0 ∧ n ≤ Int.tdiv n d ∧ Int.tdiv n d ≤ 0) := by
  have pos : ∀ n : Int, 0 ≤ n → 0 ≤ Int.tmod n d ∧ Int.tmod n d < d ∧ 0 ≤ Int.tdiv n d ∧ Int.tdiv n d ≤ n := by
    intro n hn
    refine ⟨Int.tmod_nonneg d hn, Int.tmod_lt_of_pos n hd, Int.tdiv_nonneg hn (by omega), ?_⟩
    rw [Int.tdiv_eq_ediv_of_nonneg hn]
    exact Int.ediv_le_self d hn
  refine ⟨Int.mul_tdiv_add_tmod n d, ?_⟩
  by_cases h : 0 ≤ n
  · have := pos n h
    refine ⟨by omega, by omega, fun _ => ⟨by omega, by omega, by omega⟩, fun h0 => ?_⟩
    have : n = 0 := by omega
    subst this; simp
  · have := pos (-n) (by omega)
    rw [Int.neg_tmod, Int.neg_tdiv] at this
    exact ⟨by omega, by omega, fun _ => by omega, fun _ => by omega⟩
theorem fixed_RoundDiv_eq (n d : Int) : fixed_RoundDiv n d = some (rdv n d) := by
  unfold fixed_RoundDiv rdv
  simp only [Let_eq, cond_or, Bool.or_eq_true, decide_eq_true_eq]
  by_cases h : ((d < 1 ∨ 4611686018427387904 < d) ∨ n < -4611686018427387904) ∨ 4611686018427387904 < n
  · rw [if_pos h, if_pos (by omega)]
  have h' : ¬ (d < 1 ∨ 4611686018427387904 < d ∨ n < -4611686018427387904 ∨ 4611686018427387904 < n) := by omega
  rw [if_neg h, if_neg h', Chk_of (by omega), Chk_of (by omega)]
  obtain ⟨h1, h2, h3, h4, h5⟩ := tdm n d (by omega)
  have hq : -4611686018427387904 ≤ Int.tdiv n d ∧ Int.tdiv n d ≤ 4611686018427387904 := by
    by_cases hn : 0 ≤ n
    · have := h4 hn; omega
    · have := h5 (by omega); omega
  generalize Int.tdiv n d = q at *
  generalize Int.tmod n d = r at *
  rw [w64_of q (by omega), w64_of (d - r) (by omega), w64_of (d + r) (by omega), w64_of (0 - r) (by omega), w64_of (q + 1) (by omega), w64_of (q - 1) (by omega)]
  by_cases c1 : d - r ≤ r
  · rw [if_pos c1, if_pos c1]
  rw [if_neg c1, if_neg c1]
  by_cases c2 : d + r ≤ 0 - r
  · rw [if_pos c2, if_pos (by omega)]
  · rw [if_neg c2, if_neg (by omega)]
theorem rdv_neg (n d : Int) : rdv (-n) d = - rdv n d := by
  unfold rdv
  by_cases h : d < 1 ∨ 4611686018427387904 < d ∨ n < -4611686018427387904 ∨ 4611686018427387904 < n
  · rw [if_pos h, if_pos (by omega)]; rfl
  rw [if_neg h, if_neg (by omega), Int.neg_tmod, Int.neg_tdiv]
  obtain ⟨h1, h2, h3, h4, h5⟩ := tdm n d (by omega)
  generalize Int.tdiv n d = q at *
  generalize Int.tmod n d = r at *
  split <;> split <;> (try split) <;> omega
/-- What rounding division is: the nearest, halves away from 0. -/
theorem rdv_pos {n d : Int} (hn : 0 ≤ n) (hn2 : n ≤ 4611686018427387904) (hd : 0 < d) (hd2 : d ≤ 4611686018427387904) : 2 * (d * rdv n d) - d ≤ 2 * n ∧ 2 * n < 2 * (d * rdv n d) + d ∧ 0 ≤ rdv n d := by
  unfold rdv
  rw [if_neg (by omega)]
  obtain ⟨h1, h2, h3, h4, h5⟩ := tdm n d (by omega)
  have h4 := h4 hn
  generalize Int.tdiv n d = q at *
  generalize Int.tmod n d = r at *
  have e : d * (q + 1) = d * q + d := by rw [Int.mul_add]; omega
  split
  · omega
  · rw [if_neg (by omega)]; omega
theorem rdv_le {n d : Int} (hn : 0 ≤ n) : 0 ≤ rdv n d ∧ rdv n d ≤ n := by
  unfold rdv
  split
  · omega
  obtain ⟨h1, h2, h3, h4, h5⟩ := tdm n d (by omega)
  have h4 := h4 hn
  split
  · rename_i hh c
    by_cases hq : Int.tdiv n d < n
    · omega
    · have hq2 : Int.tdiv n d = n := by omega
      rw [hq2] at h1
      by_cases hd : d = 1
      · omega
      · have : 2 * n ≤ d * n := Int.mul_le_mul_of_nonneg_right (by omega) hn
        omega
  · rw [if_neg (by omega)]; omega
theorem rdv_abs (n d : Int) : (rdv n d).natAbs ≤ n.natAbs := by
  by_cases hn : 0 ≤ n
  · have := rdv_le (d := d) hn; omega
  · have := rdv_le (n := -n) (d := d) (by omega); rw [rdv_neg] at this; omega
def mulS (a b : Int) : Int := sat (rdv (sat a * sat b) 65536)
def divS (a b : Int) : Int :=
  if sat b = 0 then (if 0 < sat a then 536870911 else if sat a < 0 then -536870911 else 0) else
  if sat b < 0 then sat (rdv (-(sat a * 65536)) (- sat b)) else sat (rdv (sat a * 65536) (sat b))
def lerpS (a b t : Int) : Int := addS a (mulS (subS b a) t)
theorem fixed_Saturate_eq (x : Int) : fixed_Saturate x = sat x := rfl
theorem fixed_Sub_eq (a b : Int) : fixed_Sub a b = subS a b := by
  unfold fixed_Sub; simp only [Let_eq, fixed_Saturate_eq]
  have := sat_bd a; have := sat_bd b
  rw [w64_of _ (by omega)]; rfl
theorem fixed_Add_eq (a b : Int) : fixed_Add a b = addS a b := by
  unfold fixed_Add; simp only [Let_eq, fixed_Saturate_eq]
  have := sat_bd a; have := sat_bd b
  rw [w64_of _ (by omega)]; rfl
theorem fixed_Mul_eq (a b : Int) : fixed_Mul a b = some (mulS a b) := by
  unfold fixed_Mul; simp only [Let_eq, fixed_Saturate_eq]
  have := sat_mul a b
  rw [w64_of _ (by omega), fixed_RoundDiv_eq]; rfl
/-- The square root, bit by bit. -/
def isqL (n : Int) : Nat → Int → Int
  | 0, v => v
  | k + 1, v => if (v + 2 ^ k) * (v + 2 ^ k) ≤ n then isqL n k (v + 2 ^ k) else isqL n k v
def isq (n : Int) : Int := if n < 0 ∨ 4611686018427387904 < n then 0 else isqL n 32 0
def bitAt (k : Nat) : Int := match k with | 0 => 0 | k + 1 => 2 ^ k
theorem isqL_bd (n : Int) : ∀ (k : Nat) (v : Int), 0 ≤ v → v * v ≤ n → 0 ≤ isqL n k v ∧ isqL n k v * isqL n k v ≤ n ∧ isqL n k v < v + 2 ^ k
  | 0, v, h, h2 => ⟨h, h2, by simp [isqL]; omega⟩
  | k + 1, v, h, h2 => by
    have hp : (0 : Int) < 2 ^ k := Int.pow_pos (by omega)
    unfold isqL
    rw [Int.pow_succ]
    split
    · rename_i c
      have := isqL_bd n k (v + 2 ^ k) (by omega) c
      omega
    · have := isqL_bd n k v h h2
      omega
theorem isq_bd (n : Int) : 0 ≤ isq n ∧ isq n < 4294967296 ∧ (0 ≤ n → isq n * isq n ≤ n) := by
  unfold isq
  split
  · omega
  · have := isqL_bd n 32 0 (by omega) (by omega)
    omega
theorem bor_bit (k : Nat) (a : Int) (ha : 0 ≤ a) (hk : a * 2 ^ (k + 1) + 2 ^ (k + 1) ≤ 4294967296) : bOr .i64 (a * 2 ^ (k + 1)) (2 ^ k) = a * 2 ^ (k + 1) + 2 ^ k := by
  obtain ⟨m, rfl⟩ := Int.eq_ofNat_of_zero_le ha
  have e1 : ((m : Int) * 2 ^ (k + 1)) = ((m * 2 ^ (k + 1) : Nat) : Int) := by push_cast; rfl
  have e2 : ((2 : Int) ^ k) = ((2 ^ k : Nat) : Int) := by push_cast; rfl
  have e2' : ((2 : Int) ^ (k + 1)) = ((2 ^ (k + 1) : Nat) : Int) := by push_cast; rfl
  rw [e1, e2'] at hk
  have hlt : 2 ^ k < 2 ^ (k + 1) := Nat.pow_lt_pow_right (by omega) (by omega)
  rw [e1, e2]
  unfold bOr
  show IntKind.i64.wrap ((BitVec.ofInt 64 ((m * 2 ^ (k + 1) : Nat) : Int) ||| BitVec.ofInt 64 ((2 ^ k : Nat) : Int)).toNat : Nat) = _
  rw [BitVec.toNat_or]
  have e3 : (BitVec.ofInt 64 ((m * 2 ^ (k + 1) : Nat) : Int)).toNat = m * 2 ^ (k + 1) := by
    rw [BitVec.toNat_ofInt]; omega
  have e4 : (BitVec.ofInt 64 ((2 ^ k : Nat) : Int)).toNat = 2 ^ k := by
    rw [BitVec.toNat_ofInt]; omega
  rw [e3, e4]
  have e5 := Nat.shiftLeft_add_eq_or_of_lt hlt m
  rw [Nat.shiftLeft_eq] at e5
  rw [← e5]
  have := w64_of ((m * 2 ^ (k + 1) + 2 ^ k : Nat) : Int) (by omega)
  rw [show IntKind.i64.wrap ((m * 2 ^ (k + 1) + 2 ^ k : Nat) : Int) = w64 ((m * 2 ^ (k + 1) + 2 ^ k : Nat) : Int) from rfl, this]
  push_cast; rfl
theorem bitAt_half (k : Nat) : bShr .i64 (2 ^ k) 1 = bitAt k := by
  unfold bShr
  show Int.fdiv (2 ^ k) (2 ^ 1) = _
  rw [Int.fdiv_eq_ediv_of_nonneg _ (by decide)]
  cases k with
  | zero => rfl
  | succ k => rw [Int.pow_succ]; show _ = (2 : Int) ^ k; omega
theorem isq_l2 (n : Int) (hn : 0 ≤ n ∧ n ≤ 4611686018427387904) (kj : Int → Option Int) : ∀ (k m : Nat) (a : Int), k < m → 0 ≤ a → a * 2 ^ k + 2 ^ k ≤ 4294967296 →
    fixed_Isqrt_l2 n kj m (a * 2 ^ k) (bitAt k) = kj (isqL n k (a * 2 ^ k))
  | k, 0, a, h, _, _ => by omega
  | 0, m + 1, a, h, h0, h1 => by
    unfold fixed_Isqrt_l2
    rw [if_neg (by simp [bitAt])]; rfl
  | k + 1, m + 1, a, h, h0, h1 => by
    have hp : (0 : Int) < 2 ^ k := Int.pow_pos (by omega)
    have hpos : 0 ≤ a * 2 ^ (k + 1) := Int.mul_nonneg h0 (Int.le_of_lt (Int.pow_pos (by omega)))
    unfold fixed_Isqrt_l2
    rw [show bitAt (k + 1) = 2 ^ k from rfl, if_pos (decide_eq_true hp)]
    rw [bor_bit k a h0 h1, Let_eq, Let_eq, u64_eq, u64_eq, u64_eq]
    have hx : 0 ≤ a * 2 ^ (k + 1) + 2 ^ k ∧ a * 2 ^ (k + 1) + 2 ^ k < 4294967296 := by
      rw [Int.pow_succ] at h1 ⊢; rw [Int.pow_succ] at hpos; omega
    have hsq : (a * 2 ^ (k + 1) + 2 ^ k) * (a * 2 ^ (k + 1) + 2 ^ k) ≤ 4294967295 * 4294967295 := (mul_bd 4294967295 4294967295 (by omega) (by omega)).2
    have hsq0 : 0 ≤ (a * 2 ^ (k + 1) + 2 ^ k) * (a * 2 ^ (k + 1) + 2 ^ k) := Int.mul_nonneg hx.1 hx.1
    rw [Int.emod_eq_of_lt hx.1 (by omega), Int.emod_eq_of_lt hsq0 (by omega), Int.emod_eq_of_lt hn.1 (by omega)]
    have ea : a * 2 ^ (k + 1) + 2 ^ k = (2 * a + 1) * 2 ^ k := by rw [Int.pow_succ, Int.add_mul]; rw [Int.mul_comm 2 a, Int.mul_assoc, Int.mul_comm 2]; omega
    have eb : a * 2 ^ (k + 1) = (2 * a) * 2 ^ k := by rw [Int.pow_succ, Int.mul_comm 2 a, Int.mul_assoc, Int.mul_comm 2]
    unfold isqL fixed_Isqrt_j1
    simp only [Let_eq, decide_eq_true_eq]
    rw [bitAt_half]
    have h1' : (2 * a + 1) * 2 ^ k + 2 ^ k ≤ 4294967296 := by rw [← ea]; rw [Int.pow_succ] at h1 ⊢; omega
    have h1'' : (2 * a) * 2 ^ k + 2 ^ k ≤ 4294967296 := by rw [← eb]; rw [Int.pow_succ] at h1 ⊢; omega
    by_cases c : (a * 2 ^ (k + 1) + 2 ^ k) * (a * 2 ^ (k + 1) + 2 ^ k) ≤ n
    · rw [if_pos c, if_pos c, ea]
      exact isq_l2 n hn kj k m (2 * a + 1) (by omega) (by omega) h1'
    · rw [if_neg c, if_neg c, eb]
      exact isq_l2 n hn kj k m (2 * a) (by omega) (by omega) h1''
theorem fixed_Isqrt_eq (n : Int) : fixed_Isqrt n = some (isq n) := by
  unfold fixed_Isqrt isq
  simp only [cond_or, Bool.or_eq_true, decide_eq_true_eq]
  by_cases h : n < 0 ∨ 4611686018427387904 < n
  · rw [if_pos h, if_pos h]
  · rw [if_neg h, if_neg h]
    have := isq_l2 n (by omega) fixed_Isqrt_j3 32 fuel 0 (fuel_lt _ (by decide)) (by omega) (by decide)
    simpa [bitAt, fixed_Isqrt_j3] using this
def subV (a b : Vec) : Vec := ⟨subS a.X b.X, subS a.Y b.Y⟩
def addV (a b : Vec) : Vec := ⟨addS a.X b.X, addS a.Y b.Y⟩
def satV (a : Vec) : Vec := ⟨sat a.X, sat a.Y⟩
def scaleV (a : Vec) (k : Int) : Vec := ⟨mulS a.X k, mulS a.Y k⟩
def lerpV (a b : Vec) (t : Int) : Vec := ⟨lerpS a.X b.X t, lerpS a.Y b.Y t⟩
def lenV (v : Vec) : Int := isq (sat v.X * sat v.X + sat v.Y * sat v.Y)
def prodS (n : Int) : Int := sat (rdv n 65536)
def crossV (a b : Vec) : Int := prodS (sat a.X * sat b.Y - sat a.Y * sat b.X)
def dotV (a b : Vec) : Int := prodS (sat a.X * sat b.X + sat a.Y * sat b.Y)
def oriV (a b c : Vec) : Int := min 1 (max (-1) ((sat b.X - sat a.X) * (sat c.Y - sat a.Y) - (sat b.Y - sat a.Y) * (sat c.X - sat a.X)))
theorem vec2_Sub_eq (a b : Vec) : vec2_Sub a b = subV a b := by unfold vec2_Sub; simp only [Let_eq, fixed_Sub_eq]; rfl
theorem vec2_Add_eq (a b : Vec) : vec2_Add a b = addV a b := by unfold vec2_Add; simp only [Let_eq, fixed_Add_eq]; rfl
theorem vec2_saturate_eq (a : Vec) : vec2_saturate a = satV a := rfl
theorem vec2_Scale_eq (a : Vec) (k : Int) : vec2_Scale a k = some (scaleV a k) := by unfold vec2_Scale; simp only [fixed_Mul_eq, Bind_some, Let_eq]; rfl
theorem fixed_Lerp_eq (a b t : Int) : fixed_Lerp a b t = some (lerpS a b t) := by unfold fixed_Lerp; simp only [fixed_Mul_eq, fixed_Sub_eq, fixed_Add_eq, Bind_some, Let_eq]; rfl
theorem vec2_Lerp_eq (a b : Vec) (t : Int) : vec2_Lerp a b t = some (lerpV a b t) := by unfold vec2_Lerp; simp only [fixed_Lerp_eq, Bind_some, Let_eq]; rfl
theorem vec2_product_eq (n : Int) : vec2_product n = some (prodS n) := by unfold vec2_product; simp only [fixed_RoundDiv_eq, Bind_some, Let_eq]; rfl
theorem vec2_Cross_eq (a b : Vec) : vec2_Cross a b = some (crossV a b) := by
  unfold vec2_Cross; simp only [vec2_saturate_eq, Let_eq, satV]
  have h1 := sat_mul a.X b.Y; have h2 := sat_mul a.Y b.X
  rw [w64_of (sat a.X * sat b.Y) (by omega), w64_of (sat a.Y * sat b.X) (by omega), w64_of _ (by omega), vec2_product_eq]; rfl
theorem vec2_Dot_eq (a b : Vec) : vec2_Dot a b = some (dotV a b) := by
  unfold vec2_Dot; simp only [vec2_saturate_eq, Let_eq, satV]
  have h1 := sat_mul a.X b.X; have h2 := sat_mul a.Y b.Y
  rw [w64_of (sat a.X * sat b.X) (by omega), w64_of (sat a.Y * sat b.Y) (by omega), w64_of _ (by omega), vec2_product_eq]; rfl
theorem diff_mul (a b c d : Int) : -1152921500311879684 ≤ (sat a - sat b) * (sat c - sat d) ∧ (sat a - sat b) * (sat c - sat d) ≤ 1152921500311879684 := by
  have h1 := sat_bd a; have h2 := sat_bd b; have h3 := sat_bd c; have h4 := sat_bd d
  have := mul_bd (x := sat a - sat b) (y := sat c - sat d) 1073741822 1073741822 (by omega) (by omega)
  omega
theorem vec2_Orientation_eq (a b c : Vec) : vec2_Orientation a b c = oriV a b c := by
  unfold vec2_Orientation; simp only [vec2_saturate_eq, Let_eq, satV]
  have h1 := diff_mul b.X a.X c.Y a.Y; have h2 := diff_mul b.Y a.Y c.X a.X
  have k1 := sat_bd a.X; have k2 := sat_bd a.Y; have k3 := sat_bd b.X; have k4 := sat_bd b.Y; have k5 := sat_bd c.X; have k6 := sat_bd c.Y
  rw [w64_of (sat b.X - sat a.X) (by omega), w64_of (sat c.Y - sat a.Y) (by omega), w64_of (sat b.Y - sat a.Y) (by omega), w64_of (sat c.X - sat a.X) (by omega), w64_of ((sat b.X - sat a.X) * (sat c.Y - sat a.Y)) (by omega), w64_of ((sat b.Y - sat a.Y) * (sat c.X - sat a.X)) (by omega), w64_of _ (by omega)]
  rfl
theorem vec2_Length_eq (v : Vec) : vec2_Length v = some (lenV v) := by
  unfold vec2_Length vec2_DistanceSquared; simp only [vec2_saturate_eq, Let_eq, satV]
  have h1 := sat_mul v.X v.X; have h2 := sat_mul v.Y v.Y
  have k1 := sat_bd v.X; have k2 := sat_bd v.Y
  rw [show sat 0 = 0 from rfl, w64_of (sat v.X - 0) (by omega), w64_of (sat v.Y - 0) (by omega), Int.sub_zero, Int.sub_zero, w64_of (sat v.X * sat v.X) (by omega), w64_of (sat v.Y * sat v.Y) (by omega), w64_of _ (by omega), fixed_Isqrt_eq]
  rfl
end GoForm
