/- The plain law of points in polygons. No conditions. -/
import Derived.Test.YtblkmlpjhpgkjaaF23T1
set_option linter.all false
set_option maxRecDepth 100000
open Go Go.Cx
namespace GoForm
open GoGeo
def toV (v : Vec) : V := (v.X, v.Y)
/-- Where a vertex lies before the translation. -/
def wV (t : Transform) (v : Vec) : V := (rdv ((rotA t.Angle).Cos * v.X - (rotA t.Angle).Sin * v.Y) 65536, rdv ((rotA t.Angle).Sin * v.X + (rotA t.Angle).Cos * v.Y) 65536)
def PosOk (t : Transform) : Prop := (-268435456 ≤ t.Position.X ∧ t.Position.X ≤ 268435456) ∧ (-268435456 ≤ t.Position.Y ∧ t.Position.Y ≤ 268435456)
theorem wV_img (t : Transform) (v : Vec) (hv : inRng 1048576 v = true) : Img (rotA t.Angle).Cos (rotA t.Angle).Sin (toV v) (wV t v) ∧ -4194304 ≤ (wV t v).1 ∧ (wV t v).1 ≤ 4194304 ∧ -4194304 ≤ (wV t v).2 ∧ (wV t v).2 ≤ 4194304 := by
  obtain ⟨⟨c1, c2⟩, s1, s2⟩ := rotA_bd t.Angle
  obtain ⟨x1, x2, y1, y2⟩ := (inRng_iff _ _).1 hv
  unfold wV Img toV
  generalize (rotA t.Angle).Cos = c at *
  generalize (rotA t.Angle).Sin = s at *
  have m1 := mb (X := 65536) (Y := 1048576) c1 c2 x1 x2
  have m2 := mb (X := 65536) (Y := 1048576) s1 s2 y1 y2
  have m3 := mb (X := 65536) (Y := 1048576) s1 s2 x1 x2
  have m4 := mb (X := 65536) (Y := 1048576) c1 c2 y1 y2
  have r1 := rdv_spec (n := c * v.X - s * v.Y) (by omega)
  have r2 := rdv_spec (n := s * v.X + c * v.Y) (by omega)
  refine ⟨⟨65536 * rdv (c * v.X - s * v.Y) 65536 - (c * v.X - s * v.Y), 65536 * rdv (s * v.X + c * v.Y) 65536 - (s * v.X + c * v.Y), r1.1, r1.2, r2.1, r2.2, by show 65536 * rdv (c * v.X - s * v.Y) 65536 = c * v.X - s * v.Y + (65536 * rdv (c * v.X - s * v.Y) 65536 - (c * v.X - s * v.Y)); omega, by show 65536 * rdv (s * v.X + c * v.Y) 65536 = s * v.X + c * v.Y + (65536 * rdv (s * v.X + c * v.Y) 65536 - (s * v.X + c * v.Y)); omega⟩, by show _ ≤ rdv _ _; omega, by show rdv _ _ ≤ _; omega, by show _ ≤ rdv _ _; omega, by show rdv _ _ ≤ _; omega⟩
theorem applyT_val (t : Transform) (v : Vec) (ht : PosOk t) (hv : inRng 1048576 v = true) : applyT t v = ⟨(wV t v).1 + t.Position.X, (wV t v).2 + t.Position.Y⟩ := by
  obtain ⟨⟨c1, c2⟩, s1, s2⟩ := rotA_bd t.Angle
  obtain ⟨-, w1, w2, w3, w4⟩ := wV_img t v hv
  obtain ⟨x1, x2, y1, y2⟩ := (inRng_iff _ _).1 hv
  obtain ⟨⟨p1, p2⟩, p3, p4⟩ := ht
  unfold wV at w1 w2 w3 w4
  unfold applyT addV rotV prodS addS wV
  dsimp only at w1 w2 w3 w4 ⊢
  rw [sat_id (show -536870911 ≤ (rotA t.Angle).Cos ∧ (rotA t.Angle).Cos ≤ 536870911 by omega), sat_id (show -536870911 ≤ (rotA t.Angle).Sin ∧ (rotA t.Angle).Sin ≤ 536870911 by omega), sat_id (show -536870911 ≤ v.X ∧ v.X ≤ 536870911 by omega), sat_id (show -536870911 ≤ v.Y ∧ v.Y ≤ 536870911 by omega),
    sat_id (show -536870911 ≤ t.Position.X ∧ t.Position.X ≤ 536870911 by omega), sat_id (show -536870911 ≤ t.Position.Y ∧ t.Position.Y ≤ 536870911 by omega)]
  generalize rdv ((rotA t.Angle).Cos * v.X - (rotA t.Angle).Sin * v.Y) 65536 = a at *
  generalize rdv ((rotA t.Angle).Sin * v.X + (rotA t.Angle).Cos * v.Y) 65536 = b at *
  rw [sat_id (x := a) (by omega), sat_id (x := a) (by omega), sat_id (x := a + t.Position.X) (by omega), sat_id (x := b) (by omega), sat_id (x := b) (by omega), sat_id (x := b + t.Position.Y) (by omega)]
theorem toV_applyT (t : Transform) (v : Vec) (ht : PosOk t) (hv : inRng 1048576 v = true) : toV (applyT t v) = sb (wV t v) (-t.Position.X, -t.Position.Y) := by
  rw [applyT_val t v ht hv]; unfold toV sb; simp only [Prod.mk.injEq]; omega
/-- The area of the fan. -/
theorem crossAt_spec {vs : List Vec} (hr : ∀ v ∈ vs, inRng 1048576 v = true) (i : Nat) (hi : i + 1 < vs.length) :
    -32768 ≤ 65536 * crossAt vs i - cr (sb (toV (ix vs (i : Int))) (toV (ix vs 0))) (sb (toV (ix vs ((i + 1 : Nat) : Int))) (toV (ix vs 0))) ∧
    65536 * crossAt vs i - cr (sb (toV (ix vs (i : Int))) (toV (ix vs 0))) (sb (toV (ix vs ((i + 1 : Nat) : Int))) (toV (ix vs 0))) ≤ 32768 ∧ -268435456 ≤ crossAt vs i ∧ crossAt vs i ≤ 268435456 := by
  have mem : ∀ j : Nat, j < vs.length → inRng 1048576 (ix vs (j : Int)) = true := fun j hj => hr _ (by rw [ix_lt vs j hj]; exact List.getElem_mem hj)
  obtain ⟨a1, a2, a3, a4⟩ := (inRng_iff _ _).1 (mem i (by omega))
  obtain ⟨b1, b2, b3, b4⟩ := (inRng_iff _ _).1 (mem (i + 1) hi)
  obtain ⟨o1, o2, o3, o4⟩ := (inRng_iff _ _).1 (mem 0 (by omega))
  unfold crossAt cr sb toV
  rw [show ((i : Int) + 1) = ((i + 1 : Nat) : Int) by omega]
  rw [show ((0 : Nat) : Int) = (0 : Int) from rfl] at o1 o2 o3 o4
  dsimp only
  generalize ix vs (i : Int) = a at *
  generalize ix vs ((i + 1 : Nat) : Int) = b at *
  generalize ix vs (0 : Int) = o at *
  have m1 := mb (x := a.X - o.X) (y := b.Y - o.Y) (X := 2097152) (Y := 2097152) (by omega) (by omega) (by omega) (by omega)
  have m2 := mb (x := a.Y - o.Y) (y := b.X - o.X) (X := 2097152) (Y := 2097152) (by omega) (by omega) (by omega) (by omega)
  rw [w64_of _ (by omega)]
  have := rdv_spec (n := (a.X - o.X) * (b.Y - o.Y) - (a.Y - o.Y) * (b.X - o.X)) (by omega)
  omega
theorem fold_fan {vs : List Vec} (hr : ∀ v ∈ vs, inRng 1048576 v = true) : ∀ (k i : Nat) (a : Int), i + k + 1 = vs.length → k ≤ 10 → -(268435456 * (20 - (k : Int))) ≤ a → a ≤ 268435456 * (20 - (k : Int)) →
    65536 * foldR (fun i a => w64 (a + crossAt vs i)) i k a ≤ 65536 * a + fanC (toV (ix vs 0)) (toV (ix vs (i : Int))) ((vs.drop (i + 1)).map toV) + 32768 * (k : Int)
  | 0, i, a, h, _, _, _ => by
    rw [List.drop_of_length_le (by omega)]
    show 65536 * a ≤ 65536 * a + 0 + 32768 * 0
    omega
  | k + 1, i, a, h, hk, h1, h2 => by
    obtain ⟨c1, c2, c3, c4⟩ := crossAt_spec hr i (by omega)
    have ih := fold_fan hr k (i + 1) (w64 (a + crossAt vs i)) (by omega) (by omega) (by rw [w64_of _ (by omega)]; omega) (by rw [w64_of _ (by omega)]; omega)
    rw [w64_of (a + crossAt vs i) (by omega)] at ih
    rw [drop_ix vs (i + 1) (by omega), List.map_cons]
    show 65536 * foldR (fun i a => w64 (a + crossAt vs i)) (i + 1) k (w64 (a + crossAt vs i)) ≤ 65536 * a + (cr (sb (toV (ix vs (i : Int))) (toV (ix vs 0))) (sb (toV (ix vs ((i + 1 : Nat) : Int))) (toV (ix vs 0))) + fanC (toV (ix vs 0)) (toV (ix vs ((i + 1 : Nat) : Int))) ((vs.drop (i + 1 + 1)).map toV)) + 32768 * ((k + 1 : Nat) : Int)
    rw [w64_of (a + crossAt vs i) (by omega)]
    omega
theorem area_sum {vs : List Vec} (h : 256 ≤ areaV vs) : 3 ≤ vs.length ∧ vs.length ≤ 8 ∧ (∀ v ∈ vs, inRng 1048576 v = true) ∧ 33292288 ≤ sumC (toV (ix vs 0)) (toV (ix vs 0)) ((vs.drop 1).map toV) := by
  unfold areaV at h
  by_cases hc : convexB vs = true
  · rw [if_pos hc] at h
    obtain ⟨l3, l8, hr⟩ := convexB_len hc
    refine ⟨l3, l8, hr, ?_⟩
    have hf := fold_fan hr (vs.length - 2) 1 0 (by omega) (by omega) (by omega) (by omega)
    rw [show foldR (fun i a => w64 (a + crossAt vs i)) 1 (vs.length - 2) 0 = crossSum vs from rfl] at hf
    have hs : 511 ≤ crossSum vs := by
      rcases Int.lt_or_le (crossSum vs) 0 with g | g
      · have := rdv_le (n := -crossSum vs) (d := 2) (by omega)
        rw [rdv_neg] at this; omega
      · rcases Int.lt_or_le 4611686018427387904 (crossSum vs) with k | k
        · have : rdv (crossSum vs) 2 = 0 := by unfold rdv; rw [if_pos (by omega)]
          omega
        · have := rdv_pos (n := crossSum vs) (d := 2) g k (by omega) (by omega)
          omega
    rw [drop_ix vs 1 (by omega), List.map_cons, fan_cyc]
    rw [show ((1 : Nat) : Int) = (1 : Int) from rfl] at hf ⊢
    omega
  · rw [if_neg hc] at h; omega
/-- The orientation tests of a contained point. -/
theorem okC_in {ps : List Vec} {v : Vec} (hs : ∀ x ∈ ps, satV x = x) (hin : insideP v ps = true) : ∀ (k i : Nat), i + k + 1 = ps.length → okC (sb (toV (ix ps 0)) (toV (satV v))) (sb (toV (ix ps (i : Int))) (toV (satV v))) (((ps.drop (i + 1)).map toV).map (sb · (toV (satV v)))) := by
  have mem : ∀ j : Nat, j < ps.length → satV (ix ps (j : Int)) = ix ps (j : Int) := fun j hj => hs _ (by rw [ix_lt ps j hj]; exact List.getElem_mem hj)
  have hall := (allR_true _ _ _).1 hin
  have ori : ∀ i j : Nat, i < ps.length → j < ps.length → nxt ps i = (j : Int) → 0 ≤ cr (sb (toV (ix ps (i : Int))) (toV (satV v))) (sb (toV (ix ps (j : Int))) (toV (satV v))) := by
    intro i j hi hj e
    have h1 := hall i (by omega) (by omega)
    rw [decide_eq_true_eq, e] at h1
    have e1 := mem i hi
    have e2 := mem j hj
    rw [← orient_cr]
    generalize ix ps (i : Int) = a at *
    generalize ix ps (j : Int) = b at *
    unfold oriV at h1
    have a1 : sat a.X = a.X := congrArg Vec.X e1
    have a2 : sat a.Y = a.Y := congrArg Vec.Y e1
    have b1 : sat b.X = b.X := congrArg Vec.X e2
    have b2 : sat b.Y = b.Y := congrArg Vec.Y e2
    rw [a1, a2, b1, b2] at h1
    show 0 ≤ (b.X - a.X) * (sat v.Y - a.Y) - (b.Y - a.Y) * (sat v.X - a.X)
    omega
  have nx : ∀ i : Nat, i + 1 < ps.length → nxt ps i = ((i + 1 : Nat) : Int) := by
    intro i hi
    unfold nxt
    rw [Int.tmod_eq_of_lt (by omega) (by omega)]; omega
  have n0 : ∀ i : Nat, i + 1 = ps.length → nxt ps i = ((0 : Nat) : Int) := by
    intro i hi
    unfold nxt
    rw [show ((i : Int) + 1) = (ps.length : Int) by omega, Int.tmod_self]; rfl
  intro k
  induction k with
  | zero =>
    intro i h
    rw [List.drop_of_length_le (by omega)]
    exact ori i 0 (by omega) (by omega) (n0 i (by omega))
  | succ k ih =>
    intro i h
    rw [drop_ix ps (i + 1) (by omega), List.map_cons, List.map_cons]
    exact ⟨ori i (i + 1) (by omega) (by omega) (nx i (by omega)), ih (i + 1) (by omega)⟩
theorem ix_map {α β : Type} [Inhabited α] [Inhabited β] (f : α → β) (l : List α) (i : Nat) (h : i < l.length) : ix (l.map f) (i : Int) = f (ix l (i : Int)) := by
  rw [ix_lt _ i (by rw [List.length_map]; exact h), ix_lt l i h, List.getElem_map]
/-- A contained point lies in the box of a polygon's vertices. -/
theorem poly_box {vs : List Vec} {t : Transform} {v : Vec} (ht : PosOk t) (ha : 256 ≤ areaV vs) (hin : insideP v (vs.map (applyT t)) = true) :
    (∃ x ∈ vs.map (applyT t), (satV v).X ≤ x.X) ∧ (∃ x ∈ vs.map (applyT t), x.X ≤ (satV v).X) ∧ (∃ x ∈ vs.map (applyT t), (satV v).Y ≤ x.Y) ∧ (∃ x ∈ vs.map (applyT t), x.Y ≤ (satV v).Y) := by
  obtain ⟨l3, l8, hr, hS⟩ := area_sum ha
  have hok := okC_in (ps := vs.map (applyT t)) (fun x hx => by obtain ⟨u, -, rfl⟩ := List.mem_map.1 hx; exact applyT_sat t u) hin (vs.length - 1) 0 (by rw [List.length_map]; omega)
  obtain ⟨⟨c1, c2⟩, s1, s2⟩ := rotA_bd t.Angle
  have e0 : ix vs 0 ∈ vs := by
    have := ix_lt vs 0 (by omega)
    rw [show ((0 : Nat) : Int) = (0 : Int) from rfl] at this
    rw [this]; exact List.getElem_mem _
  have inm : ∀ x ∈ vs, inM (toV x) := fun x hx => by
    obtain ⟨x1, x2, y1, y2⟩ := (inRng_iff _ _).1 (hr x hx)
    exact ⟨x1, x2, y1, y2⟩
  have hpos := no_flat (c := (rotA t.Angle).Cos) (s := (rotA t.Angle).Sin) (by omega) (by omega) (by omega) (by omega) (rotA_sq t.Angle) (p := toV (ix vs 0)) (u := wV t (ix vs 0)) (l := (vs.drop 1).map toV) (m := (vs.drop 1).map (wV t))
    (inm _ e0) (wV_img t _ (hr _ e0)).1 (fun x hx => by
      obtain ⟨y, hy, rfl⟩ := List.mem_map.1 hx
      exact inm y (List.mem_of_mem_drop hy)) (by simp) (by simp; omega) (fun i x y hx hy => by
      rw [List.getElem?_map] at hx hy
      cases hz : (vs.drop 1)[i]? with
      | none => rw [hz] at hx; cases hx
      | some z =>
        rw [hz] at hx hy
        cases hx; cases hy
        exact (wV_img t z (hr z (List.mem_of_mem_drop (List.mem_of_getElem? hz)))).1) hS
  rw [← cyc_move (-t.Position.X, -t.Position.Y)] at hpos
  have eu : sb (wV t (ix vs 0)) (-t.Position.X, -t.Position.Y) = toV (applyT t (ix vs 0)) := (toV_applyT t _ ht (hr _ e0)).symm
  have em : ((vs.drop 1).map (wV t)).map (sb · (-t.Position.X, -t.Position.Y)) = (((vs.map (applyT t)).drop 1).map toV) := by
    rw [← List.map_drop, List.map_map, List.map_map]
    refine List.map_congr_left fun x hx => ?_
    exact (toV_applyT t x ht (hr x (List.mem_of_mem_drop hx))).symm
  rw [eu, em] at hpos
  have ei : ix (vs.map (applyT t)) ((0 : Nat) : Int) = applyT t (ix vs 0) := ix_map (applyT t) vs 0 (by omega)
  rw [show ((0 : Nat) : Int) = (0 : Int) from rfl] at ei hok
  rw [ei] at hok
  obtain ⟨⟨a, ha, h1⟩, ⟨b, hb, h2⟩, ⟨c, hc, h3⟩, ⟨d, hd, h4⟩⟩ := box (toV (applyT t (ix vs 0))) (toV (satV v)) (((vs.map (applyT t)).drop 1).map toV) hpos hok
  have mem : ∀ x, x ∈ toV (applyT t (ix vs 0)) :: ((vs.map (applyT t)).drop 1).map toV → ∃ y ∈ vs.map (applyT t), toV y = x := by
    intro x hx
    rcases List.mem_cons.1 hx with rfl | hx
    · exact ⟨_, List.mem_map.2 ⟨_, e0, rfl⟩, rfl⟩
    · obtain ⟨y, hy, rfl⟩ := List.mem_map.1 hx
      exact ⟨y, List.mem_of_mem_drop hy, rfl⟩
  obtain ⟨a', ha', rfl⟩ := mem a ha
  obtain ⟨b', hb', rfl⟩ := mem b hb
  obtain ⟨c', hc', rfl⟩ := mem c hc
  obtain ⟨d', hd', rfl⟩ := mem d hd
  exact ⟨⟨a', ha', h1⟩, ⟨b', hb', h2⟩, ⟨c', hc', h3⟩, ⟨d', hd', h4⟩⟩
end GoForm
