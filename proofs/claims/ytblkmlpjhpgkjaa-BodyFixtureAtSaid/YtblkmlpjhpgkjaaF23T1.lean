/- The plain law of points in shapes: a point that a shape contains lies in the shape's box, but for two units. No conditions. -/
import Derived.Test.YtblkmlpjhpgkjaaF23S1
set_option linter.all false
set_option maxRecDepth 100000
open Go Go.Cx
namespace GoGeo
abbrev V := Int × Int
def cr (a b : V) : Int := a.1 * b.2 - a.2 * b.1
def sb (a v : V) : V := (a.1 - v.1, a.2 - v.2)
theorem cr_anti (a b : V) : cr b a = - cr a b := by unfold cr; grind
/-- Slopes rise on the left half plane. -/
theorem cr_trans {a b c : V} (ha : a.1 < 0) (hb : b.1 < 0) (hc : c.1 < 0) (h1 : 0 ≤ cr a b) (h2 : 0 ≤ cr b c) : 0 ≤ cr a c := by
  have e : (-b.1) * cr a c = (-a.1) * cr b c + (-c.1) * cr a b := by unfold cr; grind
  have h3 : 0 ≤ (-a.1) * cr b c := Int.mul_nonneg (by omega) h2
  have h4 : 0 ≤ (-c.1) * cr a b := Int.mul_nonneg (by omega) h1
  have h5 : 0 ≤ (-b.1) * cr a c := by omega
  rcases Int.lt_or_le (cr a c) 0 with h | h
  · have := Int.mul_neg_of_pos_of_neg (show 0 < -b.1 by omega) h
    omega
  · exact h
/-- The crosses along a path that ends in f. -/
def sumC (f : V) : V → List V → Int
  | a, [] => cr a f
  | a, b :: t => cr a b + sumC f b t
/-- They are all at least 0. -/
def okC (f : V) : V → List V → Prop
  | a, [] => 0 ≤ cr a f
  | a, b :: t => 0 ≤ cr a b ∧ okC f b t
theorem okC_last {f : V} (hf : f.1 < 0) : ∀ (t : List V) (b : V), b.1 < 0 → (∀ x ∈ t, x.1 < 0) → okC f b t → 0 ≤ cr b f
  | [], b, hb, _, h => h
  | c :: t, b, hb, ht, ⟨h1, h2⟩ => cr_trans hb (ht c (by simp)) hf h1 (okC_last hf t c (ht c (by simp)) (fun x hx => ht x (List.mem_cons_of_mem _ hx)) h2)
theorem sumC_zero {f : V} (hf : f.1 < 0) : ∀ (t : List V) (a : V), a.1 < 0 → (∀ x ∈ t, x.1 < 0) → 0 ≤ cr f a → okC f a t → sumC f a t = 0
  | [], a, ha, _, h0, h => by
    have h : 0 ≤ cr a f := h
    have := cr_anti a f
    show cr a f = 0
    omega
  | b :: t, a, ha, ht, h0, ⟨h1, h2⟩ => by
    have hb := ht b (by simp)
    have ht' := fun x hx => ht x (List.mem_cons_of_mem b hx)
    have h3 := okC_last hf t b hb ht' h2
    have h4 := cr_trans hb hf ha h3 h0
    have h5 := cr_anti a b
    have h6 := sumC_zero hf t b hb ht' (cr_trans hf ha hb h0 h1) h2
    show cr a b + sumC f b t = 0
    omega
/-- The sum around a cycle does not depend on the origin. -/
theorem sumC_move (v f : V) : ∀ (t : List V) (a : V), sumC (sb f v) (sb a v) (t.map (sb · v)) = sumC f a t + cr v a - cr v f
  | [], a => by show cr (sb a v) (sb f v) = cr a f + _ - _; unfold cr sb; grind
  | b :: t, a => by
    show cr (sb a v) (sb b v) + sumC (sb f v) (sb b v) (t.map (sb · v)) = cr a b + sumC f b t + cr v a - cr v f
    rw [sumC_move v f t b]
    unfold cr sb; grind
theorem cyc_move (v a : V) (t : List V) : sumC (sb a v) (sb a v) (t.map (sb · v)) = sumC a a t := by rw [sumC_move]; omega
theorem mb {x y X Y : Int} (h1 : -X ≤ x) (h2 : x ≤ X) (h3 : -Y ≤ y) (h4 : y ≤ Y) : -(X * Y) ≤ x * y ∧ x * y ≤ X * Y := by
  have k1 := Int.mul_nonneg (show 0 ≤ X - x by omega) (show 0 ≤ Y + y by omega)
  have k2 := Int.mul_nonneg (show 0 ≤ X + x by omega) (show 0 ≤ Y - y by omega)
  have k3 := Int.mul_nonneg (show 0 ≤ X - x by omega) (show 0 ≤ Y - y by omega)
  have k4 := Int.mul_nonneg (show 0 ≤ X + x by omega) (show 0 ≤ Y + y by omega)
  have e1 : (X - x) * (Y + y) + (X + x) * (Y - y) = 2 * (X * Y) - 2 * (x * y) := by grind
  have e2 : (X - x) * (Y - y) + (X + x) * (Y + y) = 2 * (X * Y) + 2 * (x * y) := by grind
  omega
theorem mb1 {x Y : Int} (y : Int) (h3 : -Y ≤ y) (h4 : y ≤ Y) : ∃ X, -X ≤ x ∧ x ≤ X ∧ (X = x ∨ X = -x) ∧ -(X * Y) ≤ x * y ∧ x * y ≤ X * Y := by
  rcases Int.le_total 0 x with h | h
  · exact ⟨x, by omega, by omega, .inl rfl, mb (by omega) (by omega) h3 h4⟩
  · exact ⟨-x, by omega, by omega, .inr rfl, mb (by omega) (by omega) h3 h4⟩
end GoGeo

namespace GoGeo
theorem pick {A B W : Int} (h1 : A + B ≤ W) (h2 : A - B ≤ W) (h3 : B - A ≤ W) (h4 : -A - B ≤ W) : ∃ a b, -a ≤ A ∧ A ≤ a ∧ -b ≤ B ∧ B ≤ b ∧ a + b ≤ W := by
  rcases Int.le_total 0 A with h | h <;> rcases Int.le_total 0 B with k | k
  · exact ⟨A, B, by omega, by omega, by omega, by omega, by omega⟩
  · exact ⟨A, -B, by omega, by omega, by omega, by omega, by omega⟩
  · exact ⟨-A, B, by omega, by omega, by omega, by omega, by omega⟩
  · exact ⟨-A, -B, by omega, by omega, by omega, by omega, by omega⟩
theorem abs_ex (x : Int) : ∃ X, -X ≤ x ∧ x ≤ X ∧ (X = x ∨ X = -x) := by
  rcases Int.le_total 0 x with h | h
  · exact ⟨x, by omega, by omega, .inl rfl⟩
  · exact ⟨-x, by omega, by omega, .inr rfl⟩
theorem rot_sum {c s x y : Int} (hc1 : -65537 ≤ c) (hc2 : c ≤ 65537) (hs1 : -65537 ≤ s) (hs2 : s ≤ 65537) (hx1 : -1048576 ≤ x) (hx2 : x ≤ 1048576) (hy1 : -1048576 ≤ y) (hy2 : y ≤ 1048576) :
    ∃ a b, -a ≤ c * x - s * y ∧ c * x - s * y ≤ a ∧ -b ≤ s * x + c * y ∧ s * x + c * y ≤ b ∧ a + b ≤ 137441050624 := by
  obtain ⟨X1, p1, p2, p3⟩ := abs_ex (c + s)
  obtain ⟨X2, q1, q2, q3⟩ := abs_ex (c - s)
  have m1 := mb p1 p2 hx1 hx2
  have m2 := mb p1 p2 hy1 hy2
  have m3 := mb q1 q2 hx1 hx2
  have m4 := mb q1 q2 hy1 hy2
  have e1 : (c * x - s * y) + (s * x + c * y) = (c + s) * x + (c - s) * y := by grind
  have e2 : (c * x - s * y) - (s * x + c * y) = (c - s) * x - (c + s) * y := by grind
  have hX : X1 + X2 ≤ 131074 := by omega
  exact pick (by omega) (by omega) (by omega) (by omega)
/-- One edge. -/
theorem edge {c s x y x' y' n1 n2 m1 m2 : Int} (hc1 : -65537 ≤ c) (hc2 : c ≤ 65537) (hs1 : -65537 ≤ s) (hs2 : s ≤ 65537) (hx1 : -1048576 ≤ x) (hx2 : x ≤ 1048576) (hy1 : -1048576 ≤ y) (hy2 : y ≤ 1048576)
    (hx1' : -1048576 ≤ x') (hx2' : x' ≤ 1048576) (hy1' : -1048576 ≤ y') (hy2' : y' ≤ 1048576) (a1 : -32768 ≤ n1) (a2 : n1 ≤ 32768) (a3 : -32768 ≤ n2) (a4 : n2 ≤ 32768) (b1 : -32768 ≤ m1) (b2 : m1 ≤ 32768) (b3 : -32768 ≤ m2) (b4 : m2 ≤ 32768) :
    (c * c + s * s) * cr (x, y) (x', y') - 9007338841178112 ≤ cr (c * x - s * y + n1, s * x + c * y + n2) (c * x' - s * y' + m1, s * x' + c * y' + m2) := by
  obtain ⟨a, b, g1, g2, g3, g4, g5⟩ := rot_sum hc1 hc2 hs1 hs2 hx1 hx2 hy1 hy2
  obtain ⟨a', b', g1', g2', g3', g4', g5'⟩ := rot_sum hc1 hc2 hs1 hs2 hx1' hx2' hy1' hy2'
  have e : cr (c * x - s * y + n1, s * x + c * y + n2) (c * x' - s * y' + m1, s * x' + c * y' + m2) = (c * c + s * s) * cr (x, y) (x', y') + ((c * x - s * y) * m2 - (s * x + c * y) * m1) + ((s * x' + c * y') * n1 - (c * x' - s * y') * n2) + (n1 * m2 - n2 * m1) := by
    unfold cr; grind
  have k1 := mb g1 g2 b3 b4
  have k2 := mb g3 g4 b1 b2
  have k3 := mb g3' g4' a1 a2
  have k4 := mb g1' g2' a3 a4
  have k5 := mb a1 a2 b3 b4
  have k6 := mb a3 a4 b1 b2
  rw [e]
  omega
/-- A vertex rotated and rounded: One times the image is off by at most a half. -/
def Img (c s : Int) (p u : V) : Prop := ∃ n1 n2, -32768 ≤ n1 ∧ n1 ≤ 32768 ∧ -32768 ≤ n2 ∧ n2 ≤ 32768 ∧ 65536 * u.1 = c * p.1 - s * p.2 + n1 ∧ 65536 * u.2 = s * p.1 + c * p.2 + n2
def inM (p : V) : Prop := -1048576 ≤ p.1 ∧ p.1 ≤ 1048576 ∧ -1048576 ≤ p.2 ∧ p.2 ≤ 1048576
theorem img_edge {c s : Int} (hc1 : -65537 ≤ c) (hc2 : c ≤ 65537) (hs1 : -65537 ≤ s) (hs2 : s ≤ 65537) {p q u w : V} (hp : inM p) (hq : inM q) (hu : Img c s p u) (hw : Img c s q w) :
    (c * c + s * s) * cr p q - 9007338841178112 ≤ 4294967296 * cr u w := by
  obtain ⟨n1, n2, a1, a2, a3, a4, e1, e2⟩ := hu
  obtain ⟨m1, m2, b1, b2, b3, b4, f1, f2⟩ := hw
  obtain ⟨h1, h2, h3, h4⟩ := hp
  obtain ⟨k1, k2, k3, k4⟩ := hq
  have := edge hc1 hc2 hs1 hs2 h1 h2 h3 h4 k1 k2 k3 k4 a1 a2 a3 a4 b1 b2 b3 b4
  rw [← e1, ← e2, ← f1, ← f2] at this
  have e : cr (65536 * u.1, 65536 * u.2) (65536 * w.1, 65536 * w.2) = 4294967296 * cr u w := by unfold cr; grind
  rw [e] at this
  exact this
/-- A path. -/
theorem img_path {I : V → Prop} {J : V → V → Prop} {D K T : Int} (he : ∀ {p q u w : V}, I p → I q → J p u → J q w → D * cr p q - K ≤ T * cr u w) {f g : V} (hf : I f) (hg : J f g) : ∀ (l m : List V) (p u : V), I p → J p u → (∀ x ∈ l, I x) → l.length = m.length → (∀ (i : Nat) (x y : V), l[i]? = some x → m[i]? = some y → J x y) →
    D * sumC f p l - K * ((l.length : Int) + 1) ≤ T * sumC g u m
  | [], [], p, u, hp, hu, _, _, _ => by
    have := he hp hf hu hg
    show D * cr p f - K * (0 + 1) ≤ T * cr u g
    omega
  | q :: l, w :: m, p, u, hp, hu, hl, hlen, hi => by
    have hq := hl q (by simp)
    have hw := hi 0 q w rfl rfl
    have h1 := he hp hq hu hw
    have h2 := img_path he hf hg l m q w hq hw (fun x hx => hl x (List.mem_cons_of_mem _ hx)) (by simpa using hlen) (fun i x y h1 h2 => hi (i + 1) x y (by simpa using h1) (by simpa using h2))
    show D * (cr p q + sumC f q l) - K * (((q :: l).length : Int) + 1) ≤ T * (cr u w + sumC g w m)
    have e : K * ((((q :: l).length : Nat) : Int) + 1) = K * ((l.length : Int) + 1) + K := by rw [List.length_cons]; push_cast; grind
    rw [e, Int.mul_add, Int.mul_add T]
    omega
/-- A cycle of at most eight vertices with enough area does not look flat from a point to its right. -/
theorem no_flat {c s : Int} (hc1 : -65537 ≤ c) (hc2 : c ≤ 65537) (hs1 : -65537 ≤ s) (hs2 : s ≤ 65537) (hcs : 2576980378 ≤ c * c + s * s) {p u : V} {l m : List V} (hp : inM p) (hu : Img c s p u) (hl : ∀ x ∈ l, inM x) (hlen : l.length = m.length) (h8 : l.length ≤ 7)
    (hi : ∀ (i : Nat) (x y : V), l[i]? = some x → m[i]? = some y → Img c s x y) (hS : 33292288 ≤ sumC p p l) : 0 < sumC u u m := by
  have h := img_path (I := inM) (J := Img c s) (img_edge hc1 hc2 hs1 hs2) hp hu l m p u hp hu hl hlen hi
  have k := Int.mul_le_mul hcs hS (by omega) (by omega)
  rcases Int.lt_or_le 0 (sumC u u m) with g | g
  · exact g
  · omega
end GoGeo

namespace GoGeo
theorem sumC_map {g : V → V} (hg : ∀ a b, cr (g a) (g b) = cr a b) (f : V) : ∀ (t : List V) (a : V), sumC (g f) (g a) (t.map g) = sumC f a t
  | [], a => hg a f
  | b :: t, a => by
    show cr (g a) (g b) + sumC (g f) (g b) (t.map g) = cr a b + sumC f b t
    rw [hg, sumC_map hg f t b]
theorem okC_map {g : V → V} (hg : ∀ a b, cr (g a) (g b) = cr a b) (f : V) : ∀ (t : List V) (a : V), okC f a t → okC (g f) (g a) (t.map g)
  | [], a, h => by show 0 ≤ cr (g a) (g f); rw [hg]; exact h
  | b :: t, a, ⟨h1, h2⟩ => ⟨by rw [hg]; exact h1, okC_map hg f t b h2⟩
theorem cr_self (a : V) : cr a a = 0 := by unfold cr; grind
/-- Not all vertices lie on one side. -/
theorem some_side {g : V → V} (hg : ∀ a b, cr (g a) (g b) = cr a b) (u v : V) (m : List V) (hpos : 0 < sumC u u m) (hok : okC (sb u v) (sb u v) (m.map (sb · v))) : ∃ x ∈ u :: m, 0 ≤ (g (sb x v)).1 := by
  refine Classical.byContradiction fun hn => ?_
  have hall : ∀ x ∈ u :: m, (g (sb x v)).1 < 0 := fun x hx => by
    rcases Int.lt_or_le (g (sb x v)).1 0 with h | h
    · exact h
    · exact absurd ⟨x, hx, h⟩ hn
  have h1 := okC_map hg (sb u v) _ _ hok
  have h0 := hall u (by simp)
  have h2 := sumC_zero (f := g (sb u v)) h0 ((m.map (sb · v)).map g) (g (sb u v)) h0 (fun x hx => by
    obtain ⟨y, hy, rfl⟩ := List.mem_map.1 hx
    obtain ⟨z, hz, rfl⟩ := List.mem_map.1 hy
    exact hall z (List.mem_cons_of_mem _ hz)) (by rw [hg, cr_self]; exact Int.le_refl _) h1
  rw [sumC_map hg, cyc_move] at h2
  omega
theorem box (u v : V) (m : List V) (hpos : 0 < sumC u u m) (hok : okC (sb u v) (sb u v) (m.map (sb · v))) :
    (∃ x ∈ u :: m, v.1 ≤ x.1) ∧ (∃ x ∈ u :: m, x.1 ≤ v.1) ∧ (∃ x ∈ u :: m, v.2 ≤ x.2) ∧ (∃ x ∈ u :: m, x.2 ≤ v.2) := by
  obtain ⟨a, ha, h1⟩ := some_side (g := id) (fun _ _ => rfl) u v m hpos hok
  obtain ⟨b, hb, h2⟩ := some_side (g := fun a => (-a.1, -a.2)) (fun a b => by unfold cr; grind) u v m hpos hok
  obtain ⟨c, hc, h3⟩ := some_side (g := fun a => (a.2, -a.1)) (fun a b => by unfold cr; grind) u v m hpos hok
  obtain ⟨d, hd, h4⟩ := some_side (g := fun a => (-a.2, a.1)) (fun a b => by unfold cr; grind) u v m hpos hok
  refine ⟨⟨a, ha, ?_⟩, ⟨b, hb, ?_⟩, ⟨c, hc, ?_⟩, ⟨d, hd, ?_⟩⟩
  · have h1 : 0 ≤ a.1 - v.1 := h1
    omega
  · have h2 : 0 ≤ -(b.1 - v.1) := h2
    omega
  · have h3 : 0 ≤ c.2 - v.2 := h3
    omega
  · have h4 : 0 ≤ -(d.2 - v.2) := h4
    omega
/-- A vertex seen from another one: what the program's orientation test says. -/
theorem orient_cr (a b v : V) : (b.1 - a.1) * (v.2 - a.2) - (b.2 - a.2) * (v.1 - a.1) = cr (sb a v) (sb b v) := by unfold cr sb; grind
/-- The fan's area is the cycle's. -/
def fanC (o : V) : V → List V → Int
  | _, [] => 0
  | a, b :: t => cr (sb a o) (sb b o) + fanC o b t
theorem fan_path (o : V) : ∀ (t : List V) (a : V), sumC (sb o o) (sb a o) (t.map (sb · o)) = fanC o a t
  | [], a => by show cr (sb a o) (sb o o) = 0; unfold cr sb; grind
  | b :: t, a => by
    show cr (sb a o) (sb b o) + sumC (sb o o) (sb b o) (t.map (sb · o)) = cr (sb a o) (sb b o) + fanC o b t
    rw [fan_path o t b]
theorem fan_cyc (o a : V) (t : List V) : sumC o o (a :: t) = fanC o a t := by
  rw [← cyc_move o o (a :: t)]
  show cr (sb o o) (sb a o) + sumC (sb o o) (sb a o) (t.map (sb · o)) = _
  rw [fan_path]
  have : cr (sb o o) (sb a o) = 0 := by unfold cr sb; grind
  omega
end GoGeo


namespace GoForm
open GoGeo
theorem isqL_up (n : Int) : ∀ (k : Nat) (v : Int), 0 ≤ v → n < (v + 2 ^ k) * (v + 2 ^ k) → n < (isqL n k v + 1) * (isqL n k v + 1)
  | 0, v, h, h2 => by simpa [isqL] using h2
  | k + 1, v, h, h2 => by
    have hp : (0 : Int) < 2 ^ k := Int.pow_pos (by omega)
    unfold isqL
    split
    · exact isqL_up n k (v + 2 ^ k) (by omega) (by rw [show v + 2 ^ k + 2 ^ k = v + 2 ^ (k + 1) by rw [Int.pow_succ]; omega]; exact h2)
    · exact isqL_up n k v h (by omega)
theorem isq_up {n : Int} (h : 0 ≤ n ∧ n ≤ 4611686018427387904) : n < (isq n + 1) * (isq n + 1) := by
  unfold isq
  rw [if_neg (by omega)]
  exact isqL_up n 32 0 (by omega) (by omega)
theorem sq_nn (x : Int) : 0 ≤ x * x := by rw [← Int.natAbs_mul_self]; exact Int.natCast_nonneg _
theorem root_le {c n : Int} (hc : c * c ≤ n) (hn : 0 ≤ n ∧ n ≤ 4611686018427387904) : -isq n ≤ c ∧ c ≤ isq n := by
  have h0 := isq_bd n
  have h1 := isq_up hn
  have key : ∀ x : Int, isq n + 1 ≤ x → x * x ≤ n → False := by
    intro x hx hx2
    have := Int.mul_le_mul hx hx (by omega) (by omega)
    omega
  constructor
  · by_cases h : -isq n ≤ c
    · exact h
    · exact absurd (key (-c) (by omega) (by rw [Int.neg_mul_neg]; exact hc)) id
  · by_cases h : c ≤ isq n
    · exact h
    · exact absurd (key c (by omega) hc) id
/-- A quotient of a number by one that is at least as great. -/
theorem rdv_frac {c l : Int} (hl : 0 < l) (hl2 : l ≤ 536870911) (hc : -l ≤ c ∧ c ≤ l) : -65536 ≤ rdv (c * 65536) l ∧ rdv (c * 65536) l ≤ 65536 := by
  have pos : ∀ c : Int, 0 ≤ c → c ≤ l → 0 ≤ rdv (c * 65536) l ∧ rdv (c * 65536) l ≤ 65536 := by
    intro c h0 h1
    obtain ⟨k1, k2, k3⟩ := rdv_pos (n := c * 65536) (d := l) (by omega) (by omega) hl (by omega)
    refine ⟨k3, ?_⟩
    by_cases h : rdv (c * 65536) l ≤ 65536
    · exact h
    · have := Int.mul_le_mul_of_nonneg_left (show (65537 : Int) ≤ rdv (c * 65536) l by omega) (Int.le_of_lt hl)
      omega
  by_cases h : 0 ≤ c
  · have := pos c h hc.2; omega
  · have := pos (-c) (by omega) (by omega)
    rw [Int.neg_mul, rdv_neg] at this; omega
theorem divS_frac {c n : Int} (hb : -536870911 ≤ c ∧ c ≤ 536870911) (hc : c * c ≤ n) (hn : 0 ≤ n ∧ n ≤ 4611686018427387904) : -65536 ≤ divS c (isq n) ∧ divS c (isq n) ≤ 65536 := by
  have h := root_le hc hn
  have h0 := isq_bd n
  have hs : -(sat (isq n)) ≤ c ∧ c ≤ sat (isq n) := by unfold sat; omega
  have hs0 : 0 ≤ sat (isq n) ∧ sat (isq n) ≤ 536870911 := by unfold sat; omega
  unfold divS
  rw [sat_id hb]
  generalize sat (isq n) = l at *
  by_cases z : l = 0
  · rw [if_pos z, if_neg (by omega), if_neg (by omega)]; omega
  rw [if_neg z, if_neg (by omega)]
  have := rdv_frac (c := c) (l := l) (by omega) hs0.2 hs
  rw [sat_id (by omega)]; exact this
theorem rotA_bd (a : Int) : (-65536 ≤ (rotA a).Cos ∧ (rotA a).Cos ≤ 65536) ∧ (-65536 ≤ (rotA a).Sin ∧ (rotA a).Sin ≤ 65536) := by
  have h1 := mul_bd 536870911 536870911 (sinA_bd a) (sinA_bd a)
  have h2 := mul_bd 536870911 536870911 (cosA_bd a) (cosA_bd a)
  have p1 := sq_nn (sinA a)
  have p2 := sq_nn (cosA a)
  exact ⟨divS_frac (cosA_bd a) (by omega) (by omega), divS_frac (sinA_bd a) (by omega) (by omega)⟩
theorem rdv_spec {n : Int} (h : -4611686018427387904 ≤ n ∧ n ≤ 4611686018427387904) : -32768 ≤ 65536 * rdv n 65536 - n ∧ 65536 * rdv n 65536 - n ≤ 32768 := by
  by_cases h0 : 0 ≤ n
  · have := rdv_pos (n := n) (d := 65536) h0 h.2 (by omega) (by omega); omega
  · have := rdv_pos (n := -n) (d := 65536) (by omega) (by omega) (by omega) (by omega); rw [rdv_neg] at this; omega
theorem subS_in {a b : Int} (ha : -536870911 ≤ a ∧ a ≤ 536870911) (hb : -536870911 ≤ b ∧ b ≤ 536870911) (h : -536870911 ≤ a - b ∧ a - b ≤ 536870911) : subS a b = a - b := by
  unfold subS; rw [sat_id ha, sat_id hb, sat_id h]
theorem sinQ_bd {x : Int} (h0 : 0 ≤ x) (h1 : x ≤ 102944) : 0 ≤ sinQ x ∧ sinQ x ≤ 200000 ∧ (0 < x → 0 < sinQ x) := by
  have hz : 0 ≤ divS x 102944 ∧ divS x 102944 ≤ 65536 ∧ (0 < x → 0 < divS x 102944) := by
    unfold divS
    rw [sat_id (show -536870911 ≤ (102944 : Int) ∧ (102944 : Int) ≤ 536870911 by omega), sat_id (show -536870911 ≤ x ∧ x ≤ 536870911 by omega), if_neg (by omega), if_neg (by omega)]
    have := rdv_pos (n := x * 65536) (d := 102944) (by omega) (by omega) (by omega) (by omega)
    rw [sat_id (by omega)]
    omega
  unfold sinQ
  generalize divS x 102944 = z at hz
  obtain ⟨z0, z1, z2⟩ := hz
  have hy : 0 ≤ mulS z z ∧ mulS z z ≤ 65536 := by
    unfold mulS
    rw [sat_id (show -536870911 ≤ z ∧ z ≤ 536870911 by omega)]
    have k1 := Int.mul_nonneg z0 z0
    have k2 := Int.mul_le_mul z1 z1 z0 (by omega)
    have := rdv_pos (n := z * z) (d := 65536) k1 (by omega) (by omega) (by omega)
    rw [sat_id (by omega)]
    omega
  generalize mulS z z = y at hy
  obtain ⟨y0, y1⟩ := hy
  have hw : 0 ≤ mulS y 4569 ∧ mulS y 4569 ≤ 4569 := by
    unfold mulS
    rw [sat_id (show -536870911 ≤ y ∧ y ≤ 536870911 by omega), sat_id (show -536870911 ≤ (4569 : Int) ∧ (4569 : Int) ≤ 536870911 by omega)]
    have := rdv_pos (n := y * 4569) (d := 65536) (by omega) (by omega) (by omega) (by omega)
    rw [sat_id (by omega)]
    omega
  rw [subS_in (a := 41906) (by omega) (by omega) (by omega)]
  have hv : 0 ≤ mulS y (41906 - mulS y 4569) ∧ mulS y (41906 - mulS y 4569) ≤ 41906 := by
    generalize hi : 41906 - mulS y 4569 = i
    unfold mulS
    rw [sat_id (show -536870911 ≤ y ∧ y ≤ 536870911 by omega), sat_id (show -536870911 ≤ i ∧ i ≤ 536870911 by omega)]
    have k1 := Int.mul_nonneg y0 (show 0 ≤ i by omega)
    have k2 := Int.mul_le_mul y1 (show i ≤ 41906 by omega) (by omega) (by omega)
    have := rdv_pos (n := y * i) (d := 65536) k1 (by omega) (by omega) (by omega)
    rw [sat_id (by omega)]
    omega
  generalize mulS y (41906 - mulS y 4569) = v at hv
  rw [subS_in (a := 102873) (by omega) (by omega) (by omega)]
  generalize hf : 102873 - v = f
  unfold mulS
  rw [sat_id (show -536870911 ≤ z ∧ z ≤ 536870911 by omega), sat_id (show -536870911 ≤ f ∧ f ≤ 536870911 by omega)]
  have k1 := Int.mul_nonneg z0 (show 0 ≤ f by omega)
  have k2 := Int.mul_le_mul z1 (show f ≤ 102873 by omega) (by omega) (by omega)
  have k3 : 0 < z → 60967 ≤ z * f := fun h => by
    have := Int.mul_le_mul (show 1 ≤ z by omega) (show 60967 ≤ f by omega) (by omega) (by omega)
    omega
  have := rdv_pos (n := z * f) (d := 65536) k1 (by omega) (by omega) (by omega)
  rw [sat_id (by omega)]
  omega
/-- The sine is small, and 0 at multiples of Pi alone. -/
theorem sinA_val (a : Int) : -200000 ≤ sinA a ∧ sinA a ≤ 200000 ∧ (sinA a = 0 → absS (normA a) = 0 ∨ absS (normA a) = 205888) := by
  have hb := normA_bd a
  have ha : 0 ≤ absS (normA a) ∧ absS (normA a) ≤ 205888 := by unfold absS; split <;> omega
  unfold sinA
  simp only
  by_cases hq : 102944 < absS (normA a)
  · rw [if_pos hq]
    have := sinQ_bd (x := 205888 - absS (normA a)) (by omega) (by omega)
    split <;> omega
  · rw [if_neg hq]
    have := sinQ_bd (x := absS (normA a)) (by omega) (by omega)
    split <;> omega
theorem cosA_val (a : Int) : -200000 ≤ cosA a ∧ cosA a ≤ 200000 ∧ (cosA a = 0 → absS (normA a) = 102944) := by
  have hb := normA_bd a
  have ha : 0 ≤ absS (normA a) ∧ absS (normA a) ≤ 205888 := by unfold absS; split <;> omega
  have h := sinA_val (102944 - absS (normA a))
  refine ⟨h.1, h.2.1, fun h0 => ?_⟩
  have h1 := h.2.2 h0
  rw [normA_id (by omega)] at h1
  generalize absS (normA a) = t at *
  unfold absS at h1
  split at h1 <;> omega
theorem frac_low {c L : Int} (hb : -536870911 ≤ c ∧ c ≤ 536870911) (hL : 0 < L ∧ L ≤ 300000) (hc : -L ≤ c ∧ c ≤ L) : ∃ p q : Int, 0 ≤ p ∧ 0 ≤ q ∧ q ≤ 65536 ∧ p * p = c * c ∧ q * q = divS c L * divS c L ∧ 131072 * p ≤ L * (2 * q + 1) := by
  have hf := rdv_frac (c := c) (l := L) hL.1 (by omega) hc
  have hd : divS c L = rdv (c * 65536) L := by
    unfold divS
    rw [sat_id hb, sat_id (show -536870911 ≤ L ∧ L ≤ 536870911 by omega), if_neg (by omega), if_neg (by omega), sat_id (by omega)]
  rw [hd]
  by_cases h0 : 0 ≤ c
  · obtain ⟨k1, k2, k3⟩ := rdv_pos (n := c * 65536) (d := L) (by omega) (by omega) hL.1 (by omega)
    refine ⟨c, rdv (c * 65536) L, h0, k3, hf.2, rfl, rfl, ?_⟩
    rw [Int.mul_add, Int.mul_one, show L * (2 * rdv (c * 65536) L) = 2 * (L * rdv (c * 65536) L) by grind]
    omega
  · obtain ⟨k1, k2, k3⟩ := rdv_pos (n := -(c * 65536)) (d := L) (by omega) (by omega) hL.1 (by omega)
    rw [rdv_neg] at k1 k2 k3
    refine ⟨-c, -rdv (c * 65536) L, by omega, k3, by omega, by grind, by grind, ?_⟩
    rw [Int.mul_add, Int.mul_one, show L * (2 * -rdv (c * 65536) L) = 2 * (L * -rdv (c * 65536) L) by grind]
    omega
theorem sq_mono {a b : Int} (h0 : 0 ≤ a) (h : a ≤ b) : a * a ≤ b * b := Int.mul_le_mul h h h0 (by omega)
theorem rotA_sq (a : Int) : 2576980378 ≤ (rotA a).Cos * (rotA a).Cos + (rotA a).Sin * (rotA a).Sin := by
  have hc := cosA_val a
  have hs := sinA_val a
  unfold rotA
  generalize cosA a = c at *
  generalize sinA a = s at *
  have c2 := mb (X := 200000) (Y := 200000) hc.1 hc.2.1 hc.1 hc.2.1
  have s2 := mb (X := 200000) (Y := 200000) hs.1 hs.2.1 hs.1 hs.2.1
  have c0 := sq_nn c
  have s0 := sq_nn s
  have hn : 1 ≤ c * c + s * s := by
    by_cases h : c = 0
    · have h2 : s ≠ 0 := fun h3 => by
        have := hc.2.2 h
        have := hs.2.2 h3
        omega
      have : 0 < s * s := by
        rcases Int.lt_or_gt_of_ne h2 with k | k
        · exact Int.mul_pos_of_neg_of_neg k k
        · exact Int.mul_pos k k
      omega
    · have : 0 < c * c := by
        rcases Int.lt_or_gt_of_ne h with k | k
        · exact Int.mul_pos_of_neg_of_neg k k
        · exact Int.mul_pos k k
      omega
  have hb := isq_bd (c * c + s * s)
  have hu := isq_up (n := c * c + s * s) (by omega)
  have hrc := root_le (c := c) (n := c * c + s * s) (by omega) (by omega)
  have hrs := root_le (c := s) (n := c * c + s * s) (by omega) (by omega)
  have hLn := hb.2.2 (by omega)
  show 2576980378 ≤ divS c (isq (c * c + s * s)) * divS c (isq (c * c + s * s)) + divS s (isq (c * c + s * s)) * divS s (isq (c * c + s * s))
  generalize isq (c * c + s * s) = L at *
  have hL1 : 0 < L := by
    rcases Int.lt_or_le 0 L with h | h
    · exact h
    · have : L = 0 := by omega
      subst this
      omega
  have hL2 : L ≤ 300000 := by
    rcases Int.lt_or_le 300000 L with h | h
    · have := sq_mono (a := 300001) (by omega) (show 300001 ≤ L by omega)
      omega
    · exact h
  obtain ⟨p, q, p0, q0, q1, e1, e2, e3⟩ := frac_low (by omega) ⟨hL1, hL2⟩ hrc
  obtain ⟨p', q', p0', q0', q1', e1', e2', e3'⟩ := frac_low (by omega) ⟨hL1, hL2⟩ hrs
  rw [← e2, ← e2']
  have m1 := sq_mono (a := 131072 * p) (by omega) e3
  have m2 := sq_mono (a := 131072 * p') (by omega) e3'
  have m3 : (L * L) * 17179869184 ≤ (L * L) * ((2 * q + 1) * (2 * q + 1) + (2 * q' + 1) * (2 * q' + 1)) := by
    have g1 : (131072 * p) * (131072 * p) = 17179869184 * (p * p) := by grind
    have g2 : (131072 * p') * (131072 * p') = 17179869184 * (p' * p') := by grind
    have g3 : L * (2 * q + 1) * (L * (2 * q + 1)) = (L * L) * ((2 * q + 1) * (2 * q + 1)) := by grind
    have g4 : L * (2 * q' + 1) * (L * (2 * q' + 1)) = (L * L) * ((2 * q' + 1) * (2 * q' + 1)) := by grind
    rw [g1, g3] at m1
    rw [g2, g4] at m2
    rw [Int.mul_add]
    omega
  have m4 := Int.le_of_mul_le_mul_left m3 (Int.mul_pos hL1 hL1)
  have g5 : (2 * q + 1) * (2 * q + 1) = 4 * (q * q) + 4 * q + 1 := by grind
  have g6 : (2 * q' + 1) * (2 * q' + 1) = 4 * (q' * q') + 4 * q' + 1 := by grind
  omega
end GoForm
