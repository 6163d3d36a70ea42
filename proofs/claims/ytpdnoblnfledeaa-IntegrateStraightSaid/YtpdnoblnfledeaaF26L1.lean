/- The plain law of straight motion: turns keep lengths, the center of mass lies near. No conditions. -/
import Derived.Test.YtpdnoblnfledeaaF26J1
set_option linter.all false
open Go Go.Cx
namespace GoForm
theorem foldR_inv {σ : Type} (f : Nat → σ → σ) (Inv : Nat → σ → Prop) : ∀ (k i : Nat) (s : σ), (∀ j s, i ≤ j → j < i + k → Inv j s → Inv (j + 1) (f j s)) → Inv i s → Inv (i + k) (foldR f i k s)
  | 0, _, _, _, h => h
  | k + 1, i, s, hs, h => by
    have := foldR_inv f Inv k (i + 1) (f i s) (fun j s h1 h2 h3 => hs j s (by omega) (by omega) h3) (hs i s (by omega) (by omega) h)
    rw [show i + 1 + k = i + (k + 1) by omega] at this
    exact this
theorem isqL_up (n : Int) : ∀ (k : Nat) (v : Int), 0 ≤ v → n < (v + 2 ^ k) * (v + 2 ^ k) → n < (isqL n k v + 1) * (isqL n k v + 1)
  | 0, v, h, h2 => by simpa [isqL] using h2
  | k + 1, v, h, h2 => by
    have hp : (0 : Int) < 2 ^ k := Int.pow_pos (by omega)
    unfold isqL
    split
    · exact isqL_up n k (v + 2 ^ k) (by omega) (by rw [show v + 2 ^ k + 2 ^ k = v + 2 ^ (k + 1) by rw [Int.pow_succ]; omega]; exact h2)
    · exact isqL_up n k v h (by omega)
theorem isq_up {n : Int} (h : 0 ≤ n ∧ n ≤ 4611686018427387904) : n < (isq n + 1) * (isq n + 1) := by
  unfold isq
  rw [if_neg (by omega)]
  exact isqL_up n 32 0 (by omega) (by omega)
theorem sq_nn (x : Int) : 0 ≤ x * x := by rw [← Int.natAbs_mul_self]; exact Int.natCast_nonneg _
theorem root_le {c n : Int} (hc : c * c ≤ n) (hn : 0 ≤ n ∧ n ≤ 4611686018427387904) : -isq n ≤ c ∧ c ≤ isq n := by
  have h0 := isq_bd n
  have h1 := isq_up hn
  have key : ∀ x : Int, isq n + 1 ≤ x → x * x ≤ n → False := by
    intro x hx hx2
    have := Int.mul_le_mul hx hx (by omega) (by omega)
    omega
  constructor
  · by_cases h : -isq n ≤ c
    · exact h
    · exact absurd (key (-c) (by omega) (by rw [Int.neg_mul_neg]; exact hc)) id
  · by_cases h : c ≤ isq n
    · exact h
    · exact absurd (key c (by omega) hc) id
/-- A quotient of a number by one that is at least as great. -/
theorem rdv_frac {c l : Int} (hl : 0 < l) (hl2 : l ≤ 536870911) (hc : -l ≤ c ∧ c ≤ l) : -65536 ≤ rdv (c * 65536) l ∧ rdv (c * 65536) l ≤ 65536 := by
  have pos : ∀ c : Int, 0 ≤ c → c ≤ l → 0 ≤ rdv (c * 65536) l ∧ rdv (c * 65536) l ≤ 65536 := by
    intro c h0 h1
    obtain ⟨k1, k2, k3⟩ := rdv_pos (n := c * 65536) (d := l) (by omega) (by omega) hl (by omega)
    refine ⟨k3, ?_⟩
    by_cases h : rdv (c * 65536) l ≤ 65536
    · exact h
    · have := Int.mul_le_mul_of_nonneg_left (show (65537 : Int) ≤ rdv (c * 65536) l by omega) (Int.le_of_lt hl)
      omega
  by_cases h : 0 ≤ c
  · have := pos c h hc.2; omega
  · have := pos (-c) (by omega) (by omega)
    rw [Int.neg_mul, rdv_neg] at this; omega
theorem divS_frac {c n : Int} (hb : -536870911 ≤ c ∧ c ≤ 536870911) (hc : c * c ≤ n) (hn : 0 ≤ n ∧ n ≤ 4611686018427387904) : -65536 ≤ divS c (isq n) ∧ divS c (isq n) ≤ 65536 := by
  have h := root_le hc hn
  have h0 := isq_bd n
  have hs : -(sat (isq n)) ≤ c ∧ c ≤ sat (isq n) := by unfold sat; omega
  have hs0 : 0 ≤ sat (isq n) ∧ sat (isq n) ≤ 536870911 := by unfold sat; omega
  unfold divS
  rw [sat_id hb]
  generalize sat (isq n) = l at *
  by_cases z : l = 0
  · rw [if_pos z, if_neg (by omega), if_neg (by omega)]; omega
  rw [if_neg z, if_neg (by omega)]
  have := rdv_frac (c := c) (l := l) (by omega) hs0.2 hs
  rw [sat_id (by omega)]; exact this
theorem rotA_bd (a : Int) : (-65536 ≤ (rotA a).Cos ∧ (rotA a).Cos ≤ 65536) ∧ (-65536 ≤ (rotA a).Sin ∧ (rotA a).Sin ≤ 65536) := by
  have h1 := mul_bd 536870911 536870911 (sinA_bd a) (sinA_bd a)
  have h2 := mul_bd 536870911 536870911 (cosA_bd a) (cosA_bd a)
  have p1 := sq_nn (sinA a)
  have p2 := sq_nn (cosA a)
  exact ⟨divS_frac (cosA_bd a) (by omega) (by omega), divS_frac (sinA_bd a) (by omega) (by omega)⟩
theorem rdv_lin {n M : Int} (h : -(65536 * M) ≤ n ∧ n ≤ 65536 * M) (hM : 0 ≤ M ∧ M ≤ 70368744177664) : -M ≤ rdv n 65536 ∧ rdv n 65536 ≤ M := by
  have pos : ∀ n : Int, 0 ≤ n → n ≤ 65536 * M → 0 ≤ rdv n 65536 ∧ rdv n 65536 ≤ M := by
    intro n h0 h1
    obtain ⟨k1, k2, k3⟩ := rdv_pos (n := n) (d := 65536) h0 (by omega) (by omega) (by omega)
    omega
  by_cases h0 : 0 ≤ n
  · have := pos n h0 h.2; omega
  · have := pos (-n) (by omega) (by omega)
    rw [rdv_neg] at this; omega
def NearO (v : Vec) (M : Int) : Prop := (-M ≤ v.X ∧ v.X ≤ M) ∧ (-M ≤ v.Y ∧ v.Y ≤ M)
theorem rotV_bd (a : Int) {c : Vec} (h : NearO c 4194304) : NearO (rotV (rotA a) c) 8388608 := by
  obtain ⟨⟨c1, c2⟩, s1, s2⟩ := rotA_bd a
  have p : ∀ {x y : Int}, -65536 ≤ x ∧ x ≤ 65536 → -4194304 ≤ y ∧ y ≤ 4194304 → -274877906944 ≤ x * y ∧ x * y ≤ 274877906944 := fun h1 h2 => by
    have := mul_bd 65536 4194304 h1 h2; omega
  have b : ∀ n : Int, -549755813888 ≤ n ∧ n ≤ 549755813888 → -8388608 ≤ prodS n ∧ prodS n ≤ 8388608 := by
    intro n hn
    have := rdv_lin (n := n) (M := 8388608) (by omega) (by omega)
    unfold prodS; rw [sat_id (by omega)]; exact this
  unfold rotV
  rw [sat_id (x := (rotA a).Cos) (by omega), sat_id (x := (rotA a).Sin) (by omega), sat_id (x := c.X) (by unfold NearO at h; omega), sat_id (x := c.Y) (by unfold NearO at h; omega)]
  have p1 := p ⟨c1, c2⟩ h.1; have p2 := p ⟨c1, c2⟩ h.2; have p3 := p ⟨s1, s2⟩ h.1; have p4 := p ⟨s1, s2⟩ h.2
  exact ⟨b _ (by omega), b _ (by omega)⟩
theorem cross_cyc (x0 y0 a b c d : Int) : (c - a) * (y0 - b) - (d - b) * (x0 - a) = (a - x0) * (d - y0) - (b - y0) * (c - x0) := by
  simp only [Int.sub_mul, Int.mul_sub]
  rw [Int.mul_comm c b, Int.mul_comm a y0, Int.mul_comm c y0, Int.mul_comm b x0, Int.mul_comm d x0, Int.mul_comm x0 y0, Int.mul_comm d a, Int.mul_comm b a]
  omega
/-- The fan's triangles of a convex polygon: none is negative. -/
theorem crossAt_bd {vs : List Vec} (hc : convexB vs = true) (i : Nat) (h1 : 1 ≤ i) (h2 : i + 1 < vs.length) : 0 ≤ crossAt vs i ∧ crossAt vs i ≤ 134217728 := by
  obtain ⟨l3, l8, hr⟩ := convexB_len hc
  have hv : ∀ j : Int, 0 ≤ j ∧ j < vs.length → -1048576 ≤ (ix vs j).X ∧ (ix vs j).X ≤ 1048576 ∧ -1048576 ≤ (ix vs j).Y ∧ (ix vs j).Y ≤ 1048576 := fun j hj => (inRng_iff _ _).1 (hr _ (ix_mem vs j hj))
  have a := hv (i : Int) (by omega)
  have b := hv ((i : Int) + 1) (by omega)
  have o := hv 0 (by omega)
  have hn : nxt vs i = (i : Int) + 1 := by
    have := tdm ((i : Int) + 1) vs.length (by omega)
    have h0 : 0 ≤ Int.tdiv ((i : Int) + 1) vs.length ∧ Int.tmod ((i : Int) + 1) vs.length ≥ 0 := by omega
    unfold nxt
    by_cases q : Int.tdiv ((i : Int) + 1) vs.length = 0
    · rw [q] at this; omega
    · have := Int.mul_le_mul_of_nonneg_left (show (1 : Int) ≤ Int.tdiv ((i : Int) + 1) vs.length by omega) (show (0 : Int) ≤ vs.length by omega)
      omega
  have hl : leftOf vs i 0 = true := by
    unfold convexB at hc
    simp only [Bool.and_eq_true, allR_true] at hc
    exact hc.2 i (by omega) (by omega) 0 (by omega) (by omega)
  unfold leftOf at hl
  rw [hn] at hl
  simp only [Bool.or_eq_true, beq_iff_eq] at hl
  have ho : oriV (ix vs (i : Int)) (ix vs ((i : Int) + 1)) (ix vs 0) = 1 := by
    rcases hl with (h | h) | h
    · omega
    · omega
    · exact h
  unfold oriV at ho
  rw [sat_id (x := (ix vs (i : Int)).X) (by omega), sat_id (x := (ix vs (i : Int)).Y) (by omega), sat_id (x := (ix vs ((i : Int) + 1)).X) (by omega), sat_id (x := (ix vs ((i : Int) + 1)).Y) (by omega), sat_id (x := (ix vs 0).X) (by omega), sat_id (x := (ix vs 0).Y) (by omega), cross_cyc] at ho
  have m1 := mul_bd (x := (ix vs (i : Int)).X - (ix vs 0).X) (y := (ix vs ((i : Int) + 1)).Y - (ix vs 0).Y) 2097152 2097152 (by omega) (by omega)
  have m2 := mul_bd (x := (ix vs (i : Int)).Y - (ix vs 0).Y) (y := (ix vs ((i : Int) + 1)).X - (ix vs 0).X) 2097152 2097152 (by omega) (by omega)
  unfold crossAt
  rw [w64_of _ (by omega)]
  have hD : ((ix vs (i : Int)).X - (ix vs 0).X) * ((ix vs ((i : Int) + 1)).Y - (ix vs 0).Y) - ((ix vs (i : Int)).Y - (ix vs 0).Y) * ((ix vs ((i : Int) + 1)).X - (ix vs 0).X) ≤ 8796093022208 := by omega
  generalize ((ix vs (i : Int)).X - (ix vs 0).X) * ((ix vs ((i : Int) + 1)).Y - (ix vs 0).Y) - ((ix vs (i : Int)).Y - (ix vs 0).Y) * ((ix vs ((i : Int) + 1)).X - (ix vs 0).X) = D at *
  have := rdv_pos (n := D) (d := 65536) (by omega) (by omega) (by omega) (by omega)
  omega
/-- A weighted mean lies where the weighed lie. -/
theorem rdv_mean {s c M : Int} (hc : 0 < c) (hc2 : c ≤ 4611686018427387904) (hs : -(M * c) ≤ s ∧ s ≤ M * c) (hb : -4611686018427387904 ≤ s ∧ s ≤ 4611686018427387904) (hM : 0 ≤ M) : -M ≤ rdv s c ∧ rdv s c ≤ M := by
  have pos : ∀ s : Int, 0 ≤ s → s ≤ M * c → s ≤ 4611686018427387904 → 0 ≤ rdv s c ∧ rdv s c ≤ M := by
    intro s h0 h1 h2
    obtain ⟨k1, k2, k3⟩ := rdv_pos (n := s) (d := c) h0 h2 hc hc2
    refine ⟨k3, ?_⟩
    by_cases h : rdv s c ≤ M
    · exact h
    · have := Int.mul_le_mul_of_nonneg_left (show M + 1 ≤ rdv s c by omega) (Int.le_of_lt hc)
      rw [Int.mul_add, Int.mul_comm c M] at this
      omega
  by_cases h0 : 0 ≤ s
  · have := pos s h0 hs.2 hb.2; omega
  · have := pos (-s) (by omega) (by omega) (by omega)
    rw [rdv_neg] at this; omega
theorem mom_bd {vs : List Vec} (hc : convexB vs = true) (p : Vec → Int) (hp : ∀ v, inRng 1048576 v = true → -1048576 ≤ p v ∧ p v ≤ 1048576) :
    0 ≤ crossSum vs ∧ crossSum vs ≤ 1073741824 ∧
    -(4194304 * crossSum vs) ≤ foldR (fun i a => w64 (a + (w64 (p (ix vs (i : Int)) - p (ix vs 0)) + w64 (p (ix vs ((i : Int) + 1)) - p (ix vs 0))) * crossAt vs i)) 1 (vs.length - 2) 0 ∧
    foldR (fun i a => w64 (a + (w64 (p (ix vs (i : Int)) - p (ix vs 0)) + w64 (p (ix vs ((i : Int) + 1)) - p (ix vs 0))) * crossAt vs i)) 1 (vs.length - 2) 0 ≤ 4194304 * crossSum vs := by
  obtain ⟨l3, l8, hr⟩ := convexB_len hc
  have hv : ∀ j : Int, 0 ≤ j ∧ j < vs.length → -1048576 ≤ p (ix vs j) ∧ p (ix vs j) ≤ 1048576 := fun j hj => hp _ (hr _ (ix_mem vs j hj))
  have := foldR_inv (fun i (x : Int × Int) => (w64 (x.1 + crossAt vs i), w64 (x.2 + (w64 (p (ix vs (i : Int)) - p (ix vs 0)) + w64 (p (ix vs ((i : Int) + 1)) - p (ix vs 0))) * crossAt vs i)))
    (fun i x => 0 ≤ x.1 ∧ x.1 ≤ 134217728 * ((i : Int) - 1) ∧ -(4194304 * x.1) ≤ x.2 ∧ x.2 ≤ 4194304 * x.1) (vs.length - 2) 1 (0, 0)
    (fun j x h1 h2 hI => by
      have hx := crossAt_bd hc j h1 (by omega)
      have a := hv (j : Int) (by omega)
      have b := hv ((j : Int) + 1) (by omega)
      have o := hv 0 (by omega)
      rw [w64_of (p (ix vs (j : Int)) - p (ix vs 0)) (by omega), w64_of (p (ix vs ((j : Int) + 1)) - p (ix vs 0)) (by omega)]
      obtain ⟨i1, i2, i3, i4⟩ := hI
      have m1 := Int.mul_le_mul_of_nonneg_right (show p (ix vs (j : Int)) - p (ix vs 0) + (p (ix vs ((j : Int) + 1)) - p (ix vs 0)) ≤ 4194304 by omega) hx.1
      have m2 := Int.mul_le_mul_of_nonneg_right (show -4194304 ≤ p (ix vs (j : Int)) - p (ix vs 0) + (p (ix vs ((j : Int) + 1)) - p (ix vs 0)) by omega) hx.1
      generalize (p (ix vs (j : Int)) - p (ix vs 0) + (p (ix vs ((j : Int) + 1)) - p (ix vs 0))) * crossAt vs j = T at *
      simp only
      rw [w64_of (x.1 + crossAt vs j) (by omega), w64_of (x.2 + T) (by omega)]
      push_cast
      omega) ⟨by simp, by simp, by simp, by simp⟩
  rw [foldR_pair (fun i a => w64 (a + crossAt vs i)) (fun i a => w64 (a + (w64 (p (ix vs (i : Int)) - p (ix vs 0)) + w64 (p (ix vs ((i : Int) + 1)) - p (ix vs 0))) * crossAt vs i))] at this
  simp only at this
  rw [show foldR (fun i a => w64 (a + crossAt vs i)) 1 (vs.length - 2) 0 = crossSum vs from rfl] at this
  omega
theorem centV_bd {vs : List Vec} (hc : convexB vs = true) : NearO (centV vs) 4194304 := by
  obtain ⟨l3, l8, hr⟩ := convexB_len hc
  have o := (inRng_iff _ _).1 (hr _ (ix_mem vs 0 (by omega)))
  unfold centV
  rw [if_pos hc]
  by_cases h0 : crossSum vs = 0
  · rw [if_pos h0]; unfold NearO; omega
  rw [if_neg h0]
  obtain ⟨a1, a2, a3, a4⟩ := mom_bd hc Vec.X (fun v hv => by have := (inRng_iff _ _).1 hv; omega)
  obtain ⟨b1, b2, b3, b4⟩ := mom_bd hc Vec.Y (fun v hv => by have := (inRng_iff _ _).1 hv; omega)
  rw [show foldR (fun i a => w64 (a + (w64 ((ix vs (i : Int)).X - (ix vs 0).X) + w64 ((ix vs ((i : Int) + 1)).X - (ix vs 0).X)) * crossAt vs i)) 1 (vs.length - 2) 0 = momX vs from rfl] at a3 a4
  rw [show foldR (fun i a => w64 (a + (w64 ((ix vs (i : Int)).Y - (ix vs 0).Y) + w64 ((ix vs ((i : Int) + 1)).Y - (ix vs 0).Y)) * crossAt vs i)) 1 (vs.length - 2) 0 = momY vs from rfl] at b3 b4
  rw [w64_of (3 * crossSum vs) (by omega)]
  have m1 := rdv_mean (s := momX vs) (c := 3 * crossSum vs) (M := 2097152) (by omega) (by omega) (by omega) (by omega) (by omega)
  have m2 := rdv_mean (s := momY vs) (c := 3 * crossSum vs) (M := 2097152) (by omega) (by omega) (by omega) (by omega) (by omega)
  rw [w64_of ((ix vs 0).X + _) (by omega), w64_of ((ix vs 0).Y + _) (by omega)]
  unfold NearO
  simp only
  omega
theorem shapeM_bd (s : Shape) (d : Int) : NearO (shapeM s d).Center 4194304 := by
  have z : NearO Vec.zero 4194304 := by unfold NearO Vec.zero; simp
  unfold shapeM
  by_cases h : validS s ≠ 0 ∨ d < 0 ∨ 262144 < d
  · rw [if_pos h]; exact z
  rw [if_neg h]
  obtain ⟨k1, k3, hc, ha, -, hx⟩ := validS_count (s := s) (by omega)
  obtain ⟨l1, l8, l2⟩ := countB_len hc
  have hv : ∀ j : Int, 0 ≤ j ∧ j < s.Vertices.length → -1048576 ≤ (ix s.Vertices j).X ∧ (ix s.Vertices j).X ≤ 1048576 ∧ -1048576 ≤ (ix s.Vertices j).Y ∧ (ix s.Vertices j).Y ≤ 1048576 := fun j hj => (inRng_iff _ _).1 ((List.all_eq_true.1 ha) _ (ix_mem s.Vertices j hj))
  have o := hv 0 (by omega)
  by_cases c1 : s.Kind = 1
  · rw [if_pos c1]; unfold circM NearO; simp only; omega
  rw [if_neg c1]
  by_cases c2 : s.Kind = 2
  · rw [if_pos c2]
    have e := hv 1 (by have := l2 c2; omega)
    have lp : ∀ a b : Int, -1048576 ≤ a ∧ a ≤ 1048576 → -1048576 ≤ b ∧ b ≤ 1048576 → -4194304 ≤ lerpS a b 32768 ∧ lerpS a b 32768 ≤ 4194304 := by
      intro a b ha hb
      have h1 : -2097152 ≤ subS b a ∧ subS b a ≤ 2097152 := by
        unfold subS; rw [sat_id (x := a) (by omega), sat_id (x := b) (by omega), sat_id (by omega)]; omega
      have h2 : -2097152 ≤ mulS (subS b a) 32768 ∧ mulS (subS b a) 32768 ≤ 2097152 := by
        unfold mulS
        rw [sat_id (x := subS b a) (by omega), sat_id (x := 32768) (by omega)]
        have := rdv_lin (n := subS b a * 32768) (M := 2097152) (by omega) (by omega)
        rw [sat_id (by omega)]; exact this
      unfold lerpS addS
      rw [sat_id (x := a) (by omega), sat_id (x := mulS (subS b a) 32768) (by omega), sat_id (by omega)]; omega
    exact ⟨lp _ _ (by omega) (by omega), lp _ _ (by omega) (by omega)⟩
  rw [if_neg c2]
  exact centV_bd (hx (by omega))
theorem combM_bd {l : List MassData} (h : ∀ p ∈ l, NearO p.Center 4194304) : NearO (combM l).Center 4194304 := by
  have z : NearO Vec.zero 4194304 := by unfold NearO Vec.zero; simp
  have zz : MassData.zero.Center = Vec.zero := rfl
  unfold combM
  by_cases hb : 8 < l.length ∨ l.any (fun p => decide (p.Mass < 0)) = true
  · rw [if_pos hb]; exact z
  rw [if_neg hb]
  have hm : ∀ p ∈ l, 0 ≤ p.Mass := by
    intro p hp
    by_cases c : 0 ≤ p.Mass
    · exact c
    · exact absurd (.inr (List.any_eq_true.2 ⟨p, hp, decide_eq_true (by omega)⟩)) hb
  have hl : l.length ≤ 8 := by
    by_cases c : l.length ≤ 8
    · exact c
    · exact absurd (.inl (by omega)) hb
  have keep : ∀ x : MassData, (foldR (cmbB l) 0 l.length x).Center = x.Center := fun x => foldR_inv (σ := MassData) (cmbB l) (fun (_ : Nat) (y : MassData) => y.Center = x.Center) l.length 0 x (fun _ _ _ _ h => h) rfl
  have := foldR_inv (cmbA l) (fun i x => 0 ≤ x.1 ∧ x.1 ≤ 536870911 * (i : Int) ∧ (-(4194304 * x.1) ≤ x.2.1 ∧ x.2.1 ≤ 4194304 * x.1) ∧ (-(4194304 * x.1) ≤ x.2.2.1 ∧ x.2.2.1 ≤ 4194304 * x.1) ∧ x.2.2.2.Center = Vec.zero) l.length 0 (0, 0, 0, MassData.zero)
    (fun j x _ h2 hI => by
      have hmem := ix_mem l (j : Int) (by omega)
      have c := h _ hmem
      have m := hm _ hmem
      unfold NearO at c
      obtain ⟨i1, i2, i3, i4, i5⟩ := hI
      have s0 : 0 ≤ sat (ix l (j : Int)).Mass ∧ sat (ix l (j : Int)).Mass ≤ 536870911 := by unfold sat; omega
      unfold cmbA
      rw [sat_id (x := (ix l (j : Int)).Center.X) (by omega), sat_id (x := (ix l (j : Int)).Center.Y) (by omega)]
      have m1 := Int.mul_le_mul_of_nonneg_left c.1.1 s0.1
      have m2 := Int.mul_le_mul_of_nonneg_left c.1.2 s0.1
      have m3 := Int.mul_le_mul_of_nonneg_left c.2.1 s0.1
      have m4 := Int.mul_le_mul_of_nonneg_left c.2.2 s0.1
      generalize sat (ix l (j : Int)).Mass * (ix l (j : Int)).Center.X = T1 at *
      generalize sat (ix l (j : Int)).Mass * (ix l (j : Int)).Center.Y = T2 at *
      generalize sat (ix l (j : Int)).Mass = w at *
      simp only
      rw [w64_of (x.1 + w) (by omega), w64_of T1 (by omega), w64_of T2 (by omega), w64_of (x.2.1 + T1) (by omega), w64_of (x.2.2.1 + T2) (by omega)]
      refine ⟨by omega, by push_cast; omega, by omega, by omega, i5⟩) ⟨by simp, by simp, by simp, by simp, rfl⟩
  simp only
  rw [keep]
  generalize foldR (cmbA l) 0 l.length (0, 0, 0, MassData.zero) = x at *
  obtain ⟨i1, i2, i3, i4, i5⟩ := this
  split
  · rename_i hp
    exact ⟨rdv_mean hp (by omega) i3 (by omega) (by omega), rdv_mean hp (by omega) i4 (by omega) (by omega)⟩
  · rw [i5]; exact z
theorem massM_bd (fs : List Fixture) : NearO (massM fs).Center 4194304 := by
  have z : NearO Vec.zero 4194304 := by unfold NearO Vec.zero; simp
  unfold massM
  split
  · exact z
  · apply combM_bd
    exact foldR_inv (partsM fs) (fun _ l => ∀ p ∈ l, NearO p.Center 4194304) fs.length 0 [] (fun j l _ _ hI => by
      unfold partsM
      split
      · exact hI
      · intro p hp
        rcases List.mem_append.1 hp with h | h
        · exact hI p h
        · rw [List.mem_singleton.1 h]; exact shapeM_bd _ _) (by simp)
theorem displacement_eq {v dt : Int} (hv : -16777216 ≤ v ∧ v ≤ 16777216) (ht : 0 ≤ dt ∧ dt ≤ 8192) : law26_displacement v dt = mulS v dt ∧ -2097152 ≤ mulS v dt ∧ mulS v dt ≤ 2097152 := by
  have hb := mul_bd 16777216 8192 hv (show -8192 ≤ dt ∧ dt ≤ 8192 by omega)
  have hr := rdv_lin (n := v * dt) (M := 2097152) (by omega) (by omega)
  have e : mulS v dt = rdv (v * dt) 65536 := by
    unfold mulS; rw [sat_id (x := v) (by omega), sat_id (x := dt) (by omega), sat_id (by omega)]
  rw [e]
  refine ⟨?_, hr⟩
  unfold law26_displacement
  simp only [Let_eq, decide_eq_true_eq]
  rw [w64_of (v * dt) (by omega)]
  have pos : ∀ n : Int, 0 ≤ n → n ≤ 16777216 * 8192 → Int.tdiv (n + 32768) 65536 = rdv n 65536 := by
    intro n h0 h1
    have := rdv_pos (n := n) (d := 65536) h0 (by omega) (by omega) (by omega)
    rw [Int.tdiv_eq_ediv_of_nonneg (by omega)]; omega
  by_cases h : v * dt < 0
  · rw [if_pos h, w64_of (0 - v * dt) (by omega), w64_of (0 - v * dt + 32768) (by omega), pos (0 - v * dt) (by omega) (by omega), show 0 - v * dt = -(v * dt) by omega, rdv_neg, w64_of (- rdv (v * dt) 65536) (by omega), w64_of _ (by omega)]; omega
  · rw [if_neg h, w64_of (v * dt + 32768) (by omega), pos _ (by omega) (by omega), w64_of _ (by omega)]
theorem straight {b : Body} {dt : Int} (hv : validB b = 0) (hw : b.AngularVelocity = 0) (ht : 0 ≤ dt ∧ dt ≤ 8192) :
    (movedT b dt).Angle = b.Transform.Angle ∧ (movedT b dt).Position.X = b.Transform.Position.X + mulS b.Velocity.X dt ∧ (movedT b dt).Position.Y = b.Transform.Position.Y + mulS b.Velocity.Y dt := by
  rw [validB_ok] at hv
  obtain ⟨h1, h2, h3, h4, h5⟩ := hv
  obtain ⟨-, ⟨⟨p1, p2⟩, p3⟩, ⟨x1, x2⟩, -⟩ := h2
  unfold Wn at p1 p2 x1 x2
  have ha : turnA b.Transform.Angle (mulS b.AngularVelocity dt) = b.Transform.Angle := by
    unfold turnA
    rw [hw, mulS_zl, Int.add_zero, normA_id p3, normA_id p3]
  unfold movedT integT
  rw [ha]
  have hr := rotV_bd b.Transform.Angle (massM_bd b.Fixtures)
  have d1 := (displacement_eq x1 ht).2
  have d2 := (displacement_eq x2 ht).2
  unfold applyT subV addV scaleV
  generalize rotV (rotA b.Transform.Angle) (massM b.Fixtures).Center = r at *
  have key : ∀ x p d : Int, -8388608 ≤ x ∧ x ≤ 8388608 → -268435456 ≤ p ∧ p ≤ 268435456 → -2097152 ≤ d ∧ d ≤ 2097152 → subS (addS (addS x p) d) x = p + d := by
    intro x p d hx hp hd
    unfold subS addS
    rw [sat_id (x := x) (by omega), sat_id (x := p) (by omega), sat_id (x := d) (by omega), sat_id (x := x + p) (by omega), sat_id (x := x + p) (by omega), sat_id (x := x + p + d) (by omega), sat_id (x := x + p + d) (by omega), sat_id (by omega)]
    omega
  exact ⟨rfl, key _ _ _ hr.1 (by omega) d1, key _ _ _ hr.2 (by omega) d2⟩
theorem law26_IntegrateStraight_true (a0 : Body) (a1 : Int) (w0 : Body.Wf a0) (w1 : (IntKind.i64.min ≤ a1 ∧ a1 ≤ IntKind.i64.max)) : law26_IntegrateStraight a0 a1 = some true := by
  unfold law26_IntegrateStraight
  rw [ref23_Small_eq, Bind_some, example26]
  cases hs : smallB a0
  · rfl
  simp only [integrate_Position_eq, body_Validate_eq, Bind_some, Let_eq, cond_or]
  by_cases hv : validB a0 = 0
  rotate_left
  · simp [hv]
  by_cases hc : a0.AngularVelocity = 0 ∧ a0.Kind ≠ 1 ∧ a0.Asleep = false ∧ 0 ≤ a1 ∧ a1 ≤ 8192
  rotate_left
  · rw [if_pos (by rfl), Bind_some, if_pos]
    simp only [Bool.or_eq_true, bne_iff_ne, beq_iff_eq, decide_eq_true_eq, Bool.not_eq_true']
    cases h : a0.Asleep <;> simp only [h] at hc ⊢ <;> grind
  obtain ⟨hw, hk, hA, ht⟩ := hc
  rw [if_pos (by rfl), Bind_some, if_neg (by simp [hv, hw, hk, hA]; omega)]
  obtain ⟨t1, t2, t3⟩ := straight hv hw ht
  have hv' := hv
  rw [validB_ok] at hv'
  obtain ⟨-, ⟨-, ⟨⟨p1, p2⟩, -⟩, ⟨x1, x2⟩, -⟩, -⟩ := hv'
  unfold Wn at p1 p2 x1 x2
  have d1 := displacement_eq x1 ht
  have d2 := displacement_eq x2 ht
  rw [d1.1, d2.1, w64_of (a0.Transform.Position.X + _) (by omega), w64_of (a0.Transform.Position.Y + _) (by omega), ← t2, ← t3]
  have hp : posB a0 a1 = { a0 with Transform := ⟨⟨confP (movedT a0 a1).Position.X, confP (movedT a0 a1).Position.Y⟩, (movedT a0 a1).Angle⟩, Velocity := ⟨confV (movedT a0 a1).Position.X a0.Velocity.X, confV (movedT a0 a1).Position.Y a0.Velocity.Y⟩ } := if_neg (by simp [hk, hA])
  rw [hp]
  simp only
  have st : ∀ (P Q V W : Arr2 Int) (kj : Option Bool) (n i : Nat) (p v : Int), i < 2 → P.get (i : Int) = p → Q.get (i : Int) = confP p → V.get (i : Int) = confV p v → W.get (i : Int) = v →
      law26_IntegrateStraight_l1 P Q V W kj (n + 1) (i : Int) = law26_IntegrateStraight_l1 P Q V W kj n ((i : Int) + 1) := by
    intro P Q V W kj n i p v hi g1 g2 g3 g4
    rw [law26_IntegrateStraight_l1, g1, g2, g3, g4]
    rw [if_pos (by simp; omega)]
    simp only [Let_eq]
    repeat rw [Chk_of (by first | omega | (intro _; omega))]
    rw [if_neg, w64_of _ (by omega)]
    unfold confP confV clampS
    simp only [cond_and, cond_or, Bool.or_eq_true, Bool.and_eq_true, decide_eq_true_eq, bne_iff_ne, Bool.not_eq_true', Bool.or_eq_false_iff, decide_eq_false_iff_not]
    by_cases q1 : p < -268435456
    · rw [if_pos (by omega), if_pos (by omega)]; omega
    · by_cases q2 : 268435456 < p
      · rw [if_neg (by omega), if_pos (by omega), if_pos (by omega)]; omega
      · rw [if_neg (by omega), if_neg (by omega), if_neg (by omega)]; omega
  rw [show fuel = (fuel - 3) + 1 + 1 + 1 by have := fuel_lt 4 (by decide); omega]
  generalize hkj : law26_IntegrateStraight_j2 a0 _ = kj
  have g0 : ∀ a b : Int, (⟨a, b⟩ : Arr2 Int).get ((0 : Nat) : Int) = a := fun _ _ => rfl
  have g1 : ∀ a b : Int, (⟨a, b⟩ : Arr2 Int).get ((1 : Nat) : Int) = b := fun _ _ => rfl
  refine (st _ _ _ _ kj _ 0 (movedT a0 a1).Position.X a0.Velocity.X (by omega) (g0 _ _) (g0 _ _) (g0 _ _) (g0 _ _)).trans ?_
  refine (st _ _ _ _ kj _ 1 (movedT a0 a1).Position.Y a0.Velocity.Y (by omega) (g1 _ _) (g1 _ _) (g1 _ _) (g1 _ _)).trans ?_
  rw [law26_IntegrateStraight_l1, if_neg (by decide), ← hkj]
  unfold law26_IntegrateStraight_j2
  rw [example26]
  simp [t1, hw]
end GoForm
